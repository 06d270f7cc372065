/- A region that draws its order, walked in one order: what touches no memory, or reads it where nothing that could come before writes there, may be taken first; an effect that is the only one to come up is carried out. What is read is known by S; what does not wait for all that reads must keep S. -/
import Derived.Test.YtediidajdpdeiaaDoorBase
import Derived.OrdersHeld
namespace Go.Proofs.YtediidajdpdeiaaDoor
open Go.RowKit

section
variable {P : Program} {ops : Array Oper} {Q : Exit → Act → World → Prop} {md : Region.Mode} {S : World → Prop}

/-- what j waits for, by edges of its own or of those -/
abbrev Anc := Array (List Nat)
def Oper.on (md : Region.Mode) (o : Oper) (r : Nat) : Bool := o.after.any fun e => Region.binds md e && e.on == r
/-- the table is right: all that it names is waited for -/
def ancOk (md : Region.Mode) (ops : Array Oper) (T : Anc) : Bool :=
  (List.range ops.size).all fun j => match ops[j]? with
    | some o => (T.getD j []).all fun r => Oper.on md o r || o.after.any fun e => Region.binds md e && (T.getD e.on []).contains r
    | none => true
/-- something that reads may come up behind j -/
def needs (T : Anc) (R : List Nat) (j : Nat) : Bool := R.any fun r => r != j && !(T.getD j []).contains r
/-- with each that has come up, all that it waits for has -/
def Closed (T : Anc) (listed : Array Bool) : Prop := ∀ j, listed.getD j false = true → ∀ r ∈ T.getD j [], listed.getD r false = true

/-- whatever order is picked from here on; S is kept where it is needed -/
def wpAnyT (P : Program) (md : Region.Mode) (ops : Array Oper) (Q : Exit → Act → World → Prop) (T : Anc) (R : List Nat) (S : World → Prop) : Nat → Array Bool → Act → World → Prop
  | 0, listed, a, w => Region.ready md ops listed = [] ∧ Q .normal a w
  | fuel + 1, listed, a, w =>
    (Region.ready md ops listed = [] → Q .normal a w) ∧
    ∀ i ∈ Region.ready md ops listed, wpOp P ops Q i (fun a' w' => (needs T R i = true → S w → S w') ∧ wpAnyT P md ops Q T R S fuel (listed.setIfInBounds i true) a' w') a w

variable {R : List Nat} {T : Anc}

theorem wpAny_of_T : ∀ (fuel : Nat) (listed : Array Bool) (a : Act) (w : World), wpAnyT P md ops Q T R S fuel listed a w → wpAny P md ops Q fuel listed a w
  | 0, _, _, _, h => h
  | fuel + 1, _, _, _, h => ⟨h.1, fun i hi => wpOp_mono (fun a' w' h' => wpAny_of_T fuel _ a' w' h'.2) (h.2 i hi)⟩

/-- what may come up has all that it waits for behind it -/
theorem Closed.ready {listed : Array Bool} (hT : ancOk md ops T = true) (hc : Closed T listed) {j : Nat} (hj : j ∈ Region.ready md ops listed) : ∀ r ∈ T.getD j [], listed.getD r false = true := by
  obtain ⟨_, oj, hoj, hall⟩ := mem_ready.1 hj
  intro r hr
  unfold ancOk at hT
  rw [List.all_eq_true] at hT
  have h1 := hT j (List.mem_range.2 (Array.getElem?_eq_some_iff.1 hoj).1)
  rw [hoj] at h1
  simp only [List.all_eq_true] at h1
  have h2 := h1 r hr
  rw [Bool.or_eq_true] at h2
  rcases h2 with h2 | h2
  · obtain ⟨e, he, hb⟩ := Array.any_eq_true'.1 h2
    simp only [Bool.and_eq_true, beq_iff_eq] at hb
    rw [← hb.2]
    exact hall e he hb.1
  · obtain ⟨e, he, hb⟩ := Array.any_eq_true'.1 h2
    simp only [Bool.and_eq_true, List.contains_iff_mem] at hb
    exact hc e.on (hall e he hb.1) r hb.2

theorem Closed.set {listed : Array Bool} (hT : ancOk md ops T = true) (hc : Closed T listed) {j : Nat} (hj : j ∈ Region.ready md ops listed) : Closed T (listed.setIfInBounds j true) := by
  intro k hk r hr
  have hmono : ∀ x, listed.getD x false = true → (listed.setIfInBounds j true).getD x false = true := fun x hx => by
    by_cases hjx : j = x
    · subst hjx
      rcases Nat.lt_or_ge j listed.size with h' | h'
      · simp [h']
      · simp [Array.getElem?_eq_none h'] at hx
    · rw [getD_set_ne false hjx]; exact hx
  by_cases hjk : j = k
  · subst hjk
    exact hmono r (hc.ready hT hj r hr)
  · rw [getD_set_ne false hjk] at hk
    exact hmono r (hc k hk r hr)

theorem needs_of {listed : Array Bool} (hT : ancOk md ops T = true) (hc : Closed T listed) {i j : Nat} (hR : i ∈ R) (hji : j ≠ i) (hj : j ∈ Region.ready md ops listed) (hun : listed.getD i true = false) : needs T R j = true := by
  unfold needs
  rw [List.any_eq_true]
  refine ⟨i, hR, ?_⟩
  simp only [Bool.and_eq_true, bne_iff_ne, ne_eq, Bool.not_eq_true']
  refine ⟨Ne.symm hji, ?_⟩
  rw [Bool.eq_false_iff]
  intro h
  have h1 := hc.ready hT hj i (by simpa using h)
  rcases Nat.lt_or_ge i listed.size with h' | h'
  · simp [h'] at hun h1; rw [hun] at h1; cases h1
  · simp [Array.getElem?_eq_none h'] at h1

theorem wpAnyT_first {i : Nat} {oi : Oper} {v : Value} {S1 : World → Prop} (hT : ancOk md ops T = true) (hi : ops[i]? = some oi) (hsel : ∀ (j : Nat) (o : Oper) cs b, ops[j]? = some o → o.op ≠ .select cs b)
    (hQ : ∀ c a w, Q (.panic c) (a.put oi.dst v) w → Q (.panic c) a w) (h1 : (∀ w, S1 w) ∨ (i ∈ R ∧ ∀ w, S w → S1 w)) :
    ∀ (fuel : Nat) (listed : Array Bool) (a : Act) (w : World), Closed T listed →
      (∀ j oj, ops[j]? = some oj → j ≠ i → listed.getD j true = false → (∀ e ∈ oj.after, Region.binds md e = true → e.on ≠ i) → oi.apart ops oj = true) →
      i ∈ Region.ready md ops listed → YieldsIf P ops S1 oi v a → (i ∈ R → S w) →
      wpAnyT P md ops Q T R S fuel (listed.setIfInBounds i true) (a.put oi.dst v) w → wpAnyT P md ops Q T R S (fuel + 1) listed a w := by
  intro fuel
  induction fuel with
  | zero =>
    intro listed a w _ _ hr hy hS H
    have hw1 : S1 w := h1.elim (fun h => h w) (fun h => h.2 w (hS h.1))
    refine ⟨fun h => (by rw [h] at hr; cases hr), fun j hj => ?_⟩
    by_cases hji : j = i
    · subst hji; exact hy.wpOp hi hw1 ⟨fun _ h => h, H⟩
    · have := ready_mono hj hji
      rw [H.1] at this
      cases this
  | succ fuel ih =>
    intro listed a w hcl hfree hr hy hS H
    have hw1 : S1 w := h1.elim (fun h => h w) (fun h => h.2 w (hS h.1))
    refine ⟨fun h => (by rw [h] at hr; cases hr), fun j hj => ?_⟩
    by_cases hji : j = i
    · subst hji; exact hy.wpOp hi hw1 ⟨fun _ h => h, H⟩
    · have h1' := H.2 j (ready_mono hj hji)
      obtain ⟨hjun, oj, hoj, hall⟩ := mem_ready.1 hj
      have hnot : ∀ e ∈ oj.after, Region.binds md e = true → e.on ≠ i := fun e he hb heq => by
        have h1 := hall e he hb
        have h0 := (mem_ready.1 hr).1
        rw [heq] at h1
        rcases Nat.lt_or_ge i listed.size with h' | h'
        · simp [h'] at h0 h1; rw [h0] at h1; cases h1
        · simp [Array.getElem?_eq_none h'] at h1
      have h2 := wpOp_putIf hoj (hfree j oj hoj hji hjun hnot) (fun cs b => hsel i oi cs b hi) (fun cs b => hsel j oj cs b hoj) hQ hy h1'
      have hfree' : ∀ k ok, ops[k]? = some ok → k ≠ i → (listed.setIfInBounds j true).getD k true = false →
          (∀ e ∈ ok.after, Region.binds md e = true → e.on ≠ i) → oi.apart ops ok = true := fun k ok hk hki hun hno => by
        refine hfree k ok hk hki ?_ hno
        by_cases hjk : j = k
        · subst hjk; exact hjun
        · rw [getD_set_ne true hjk] at hun; exact hun
      refine wpOp_mono (fun a' w' h3 => ⟨h3.2.1, ih (listed.setIfInBounds j true) a' w' (hcl.set hT hj) hfree' (ready_mono hr (Ne.symm hji)) h3.1 (fun hR => h3.2.1 (needs_of hT hcl hR hji hj (mem_ready.1 hr).1) (hS hR)) ?_⟩) h2
      rw [Array.setIfInBounds_comm _ _ hji]
      exact h3.2.2

/-- the same as a Bool -/
def closedB (T : Anc) (listed : Array Bool) : Bool := (List.range T.size).all fun j => !listed.getD j false || (T.getD j []).all fun r => listed.getD r false
theorem closedB_spec {listed : Array Bool} (h : closedB T listed = true) : Closed T listed := by
  intro j hj r hr
  unfold closedB at h
  rw [List.all_eq_true] at h
  rcases Nat.lt_or_ge j T.size with hlt | hge
  · have h1 := h j (List.mem_range.2 hlt)
    rw [hj] at h1
    simp only [Bool.not_true, Bool.false_or, List.all_eq_true] at h1
    exact h1 r hr
  · simp [Array.getElem?_eq_none hge] at hr

/-- may number i be taken first? -/
def takeOk (md : Region.Mode) (ops : Array Oper) (T : Anc) (listed : Array Bool) (i : Nat) : Bool := Region.noSelect ops && Region.free md ops listed i && (Region.ready md ops listed).contains i && (ancOk md ops T && closedB T listed)

section
variable {i : Nat} {oi : Oper} {v : Value} {fuel : Nat} {listed : Array Bool} {a : Act} {w : World}
/-- number i touches no memory -/
theorem wpAnyT_free (hi_ : ops.toList[i]? = some oi) (hok : takeOk md ops T listed i = true) (hg : Region.wanted oi (yielded ops a.tmps) = true)
    (hQ : ∀ c a w, Q (.panic c) (a.put oi.dst v) w → Q (.panic c) a w) (hR : R.contains i = false)
    (hy : ∀ w, (execOp a.eval oi).run P w = .ok (.value v) w)
    (h : wpAnyT P md ops Q T R S fuel (listed.setIfInBounds i true) (a.put oi.dst v) w) : wpAnyT P md ops Q T R S (fuel + 1) listed a w := by
  have hi : ops[i]? = some oi := by rw [← Array.getElem?_toList]; exact hi_
  simp only [takeOk, Bool.and_eq_true] at hok
  exact wpAnyT_first (S1 := fun _ => True) hok.2.1 hi (Region.noSelect_spec hok.1.1.1) hQ (.inl fun _ => trivial) fuel listed a w (closedB_spec hok.2.2) (Region.free_spec hi hok.1.1.2) (by simpa using hok.1.2)
    (.inl ⟨hg, fun w _ => hy w⟩) (fun hm => by simp_all) h
/-- number i reads -/
theorem wpAnyT_read (hi_ : ops.toList[i]? = some oi) (hok : takeOk md ops T listed i = true) (hg : Region.wanted oi (yielded ops a.tmps) = true)
    (hQ : ∀ c a w, Q (.panic c) (a.put oi.dst v) w → Q (.panic c) a w) (hR : R.contains i = true) (hS : S w)
    (hy : ∀ w, S w → (execOp a.eval oi).run P w = .ok (.value v) w)
    (h : wpAnyT P md ops Q T R S fuel (listed.setIfInBounds i true) (a.put oi.dst v) w) : wpAnyT P md ops Q T R S (fuel + 1) listed a w := by
  have hi : ops[i]? = some oi := by rw [← Array.getElem?_toList]; exact hi_
  simp only [takeOk, Bool.and_eq_true] at hok
  exact wpAnyT_first (S1 := S) hok.2.1 hi (Region.noSelect_spec hok.1.1.1) hQ (.inr ⟨by simpa using hR, fun _ h => h⟩) fuel listed a w (closedB_spec hok.2.2) (Region.free_spec hi hok.1.1.2) (by simpa using hok.1.2)
    (.inl ⟨hg, hy⟩) (fun _ => hS) h
/-- number i is passed over: its guard says no -/
theorem wpAnyT_skip (hi_ : ops.toList[i]? = some oi) (hok : takeOk md ops T listed i = true) (hg : Region.wanted oi (yielded ops a.tmps) = false)
    (hQ : ∀ c a w, Q (.panic c) (a.put oi.dst undef) w → Q (.panic c) a w) (hR : i ∈ R → S w)
    (h : wpAnyT P md ops Q T R S fuel (listed.setIfInBounds i true) (a.put oi.dst undef) w) : wpAnyT P md ops Q T R S (fuel + 1) listed a w := by
  have hi : ops[i]? = some oi := by rw [← Array.getElem?_toList]; exact hi_
  simp only [takeOk, Bool.and_eq_true] at hok
  exact wpAnyT_first (S1 := fun _ => True) hok.2.1 hi (Region.noSelect_spec hok.1.1.1) hQ (.inl fun _ => trivial) fuel listed a w (closedB_spec hok.2.2) (Region.free_spec hi hok.1.1.2) (by simpa using hok.1.2)
    (.inr ⟨hg, rfl⟩) hR h
/-- number i alone may come up: it is carried out -/
theorem wpAnyT_one (hi_ : ops.toList[i]? = some oi) (hr : Region.ready md ops listed = [i]) (hg : Region.wanted oi (yielded ops a.tmps) = true)
    (h : ∀ K : Act → World → Prop, (∀ a' w', (needs T R i = true → S w → S w') → wpAnyT P md ops Q T R S fuel (listed.setIfInBounds i true) a' w' → K a' w') → oi.wp P a w K Q) :
    wpAnyT P md ops Q T R S (fuel + 1) listed a w := by
  have hi : ops[i]? = some oi := by rw [← Array.getElem?_toList]; exact hi_
  refine ⟨fun h0 => (by rw [hr] at h0; cases h0), fun j hj => ?_⟩
  rw [hr] at hj
  obtain rfl : j = i := by simpa using hj
  unfold wpOp
  simp only [hi, hg, if_true]
  exact .inl (h _ fun a' w' h1 h2 => ⟨h1, h2⟩)
/-- it alone may come up, and all that reads has come up before it -/
theorem wpAnyT_sink (hi_ : ops.toList[i]? = some oi) (hr : Region.ready md ops listed = [i]) (hg : Region.wanted oi (yielded ops a.tmps) = true) (hn : needs T R i = false)
    (h : ∀ K : Act → World → Prop, (∀ a' w', wpAnyT P md ops Q T R S fuel (listed.setIfInBounds i true) a' w' → K a' w') → oi.wp P a w K Q) :
    wpAnyT P md ops Q T R S (fuel + 1) listed a w :=
  wpAnyT_one hi_ hr hg fun K hK => h K fun a' w' h' => hK a' w' (fun e => by rw [hn] at e; cases e) h'
theorem wpAnyT_done (hr : Region.ready md ops listed = []) (h : Q .normal a w) : ∀ fuel, wpAnyT P md ops Q T R S fuel listed a w
  | 0 => ⟨hr, h⟩
  | _ + 1 => ⟨fun _ => h, by rw [hr]; simp⟩
end

theorem wp_region_T (T : Anc) (R : List Nat) (S : World → Prop) (n : Nat) {id : Nat} {a : Act} {w : World} (hn : ops.size = n) (hm : P.follows .mixedOrders = true)
    (h : wpAnyT P .any ops Q T R S n (Array.replicate n false) a w.drew) : (Code.region id ops true).wp P Q a w := by
  subst hn
  exact wp_region_any hm (wpAny_of_T _ _ _ _ h)

end
end Go.Proofs.YtediidajdpdeiaaDoor
