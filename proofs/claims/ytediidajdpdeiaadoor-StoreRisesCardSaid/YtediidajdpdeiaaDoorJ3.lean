/- What a store is and does (layer 8), as plain functions: no program is in sight. -/
import Derived.Test.YtediidajdpdeiaaDoorJ2
import Derived.Test.YtediidajdpdeiaaDoorJ0
import Derived.RangeFuncNested
import Derived.RangeFuncBound
import Derived.RangeFuncCalls
import Derived.RangeFuncLeaves
import Derived.OrdersIn
import Derived.OwnWalkIn
import Derived.Test.YtediidajdpdeiaaDoorJ1
import Derived.Shelf.Abstract
import Derived.Shelf.RegionOpen
import Derived.WalkKit
import Derived.TacticsInMore
import Derived.LoopNIn
import Derived.LoopIn
import Derived.Laws.ResultCell

namespace Go.Proofs.YtediidajdpdeiaaDoor
open CrcM

/-! lists of numbered things, the numbers rising -/
section
variable {α β : Type}
def insN (x : Nat × α) : List (Nat × α) → List (Nat × α)
  | [] => [x]
  | y :: r => if x.1 < y.1 then x :: y :: r else y :: insN x r
def delN (k : Nat) (l : List (Nat × α)) : List (Nat × α) := l.filter (fun p => decide (p.1 ≠ k))
def putN (k : Nat) (h : α) (l : List (Nat × α)) : List (Nat × α) := insN (k, h) (delN k l)
def getN (k : Nat) (l : List (Nat × α)) : Option α := (l.find? (fun p => decide (p.1 = k))).map (·.2)
def onN (f : α → β) (p : Nat × α) : Nat × β := (p.1, f p.2)

theorem insN_map (f : α → β) (x : Nat × α) : ∀ l : List (Nat × α), (insN x l).map (onN f) = insN (onN f x) (l.map (onN f))
  | [] => rfl
  | y :: r => by
    unfold insN
    simp only [List.map_cons]
    by_cases h : x.1 < y.1
    · rw [if_pos h, if_pos (show (onN f x).1 < (onN f y).1 from h)]
      rfl
    · rw [if_neg h, if_neg (show ¬ (onN f x).1 < (onN f y).1 from h), List.map_cons, insN_map f x r]
theorem delN_map (f : α → β) (k : Nat) : ∀ l : List (Nat × α), (delN k l).map (onN f) = delN k (l.map (onN f))
  | [] => rfl
  | y :: r => by
    have ih := delN_map f k r
    unfold delN at *
    simp only [List.map_cons, List.filter_cons]
    by_cases h : y.1 = k
    · simp [onN, h]; simpa [onN] using ih
    · simp [onN, h]; simpa [onN] using ih
theorem putN_map (f : α → β) (k : Nat) (h : α) (l : List (Nat × α)) : (putN k h l).map (onN f) = putN k (f h) (l.map (onN f)) := by
  unfold putN
  rw [insN_map, delN_map]
  rfl
theorem getN_map (f : α → β) (k : Nat) : ∀ l : List (Nat × α), getN k (l.map (onN f)) = (getN k l).map f
  | [] => rfl
  | y :: r => by
    have ih := getN_map f k r
    unfold getN at *
    simp only [List.map_cons, List.find?_cons]
    by_cases h : y.1 = k
    · simp [onN, h]
    · simpa [onN, h] using ih
theorem mem_insN {x : Nat × α} {y : Nat × α} : ∀ {l : List (Nat × α)}, y ∈ insN x l ↔ y = x ∨ y ∈ l
  | [] => by simp [insN]
  | z :: r => by
    unfold insN
    split
    · simp
    · simp only [List.mem_cons, mem_insN (l := r)]
      constructor
      · rintro (h | h | h)
        · exact .inr (.inl h)
        · exact .inl h
        · exact .inr (.inr h)
      · rintro (h | h | h)
        · exact .inr (.inl h)
        · exact .inl h
        · exact .inr (.inr h)
theorem mem_delN {k : Nat} {l : List (Nat × α)} {y : Nat × α} : y ∈ delN k l ↔ y ∈ l ∧ y.1 ≠ k := by simp [delN]
theorem mem_putN {k : Nat} {h : α} {l : List (Nat × α)} {y : Nat × α} : y ∈ putN k h l ↔ y = (k, h) ∨ (y ∈ l ∧ y.1 ≠ k) := by
  unfold putN
  rw [mem_insN, mem_delN]
/-- the numbers rise -/
def Rise (l : List (Nat × α)) : Prop := l.Pairwise (fun p q => p.1 < q.1)
theorem Rise.del {l : List (Nat × α)} (h : Rise l) (k : Nat) : Rise (delN k l) := h.filter _
theorem Rise.ins {x : Nat × α} : ∀ {l : List (Nat × α)}, Rise l → (∀ y ∈ l, y.1 ≠ x.1) → Rise (insN x l)
  | [], _, _ => by unfold insN; exact List.pairwise_singleton _ _
  | z :: r, h, hn => by
    obtain ⟨h1, h2⟩ := List.pairwise_cons.1 h
    unfold insN
    split
    · rename_i hx
      refine List.pairwise_cons.2 ⟨fun y hy => ?_, h⟩
      rcases List.mem_cons.1 hy with rfl | hy
      · exact hx
      · have := h1 y hy
        omega
    · rename_i hx
      refine List.pairwise_cons.2 ⟨fun y hy => ?_, Rise.ins h2 (fun y hy => hn y (List.mem_cons_of_mem _ hy))⟩
      rcases mem_insN.1 hy with rfl | hy
      · have := hn z (List.mem_cons_self ..)
        omega
      · exact h1 y hy
theorem Rise.put {l : List (Nat × α)} (h : Rise l) (k : Nat) (x : α) : Rise (putN k x l) := (h.del k).ins (fun _ hy => (mem_delN.1 hy).2)
theorem getN_some {l : List (Nat × α)} {k : Nat} {h : α} (e : getN k l = some h) : (k, h) ∈ l := by
  unfold getN at e
  cases hf : l.find? (fun p => decide (p.1 = k)) with
  | none => rw [hf] at e; cases e
  | some p =>
    rw [hf] at e
    injection e with e
    have h1 := List.find?_some hf
    have h2 := List.mem_of_find?_eq_some hf
    have h3 : p.1 = k := by simpa using h1
    have : p = (k, h) := by rw [← h3, ← e]
    exact this ▸ h2
theorem getN_none {l : List (Nat × α)} {k : Nat} (e : getN k l = none) : ∀ p ∈ l, p.1 ≠ k := by
  unfold getN at e
  cases hf : l.find? (fun p => decide (p.1 = k)) with
  | some p => rw [hf] at e; cases e
  | none =>
    have := List.find?_eq_none.1 hf
    intro p hp
    simpa using this p hp
theorem Rise.get {l : List (Nat × α)} (h : Rise l) {k : Nat} {x : α} (hm : (k, x) ∈ l) : getN k l = some x := by
  induction l with
  | nil => cases hm
  | cons y r ih =>
    obtain ⟨h1, h2⟩ := List.pairwise_cons.1 h
    unfold getN
    rw [List.find?_cons]
    rcases List.mem_cons.1 hm with rfl | hm'
    · simp
    · have hy : y.1 ≠ k := by have := h1 _ hm'; simp only at this; omega
      have := ih h2 hm'
      unfold getN at this
      simpa [hy] using this
end

/-- what a slot has -/
structure Hd where
  ballot : Nat
  value : List UInt8
abbrev Slots := List (Nat × Hd)

/-- what a store has promised, its base, and its slots -/
structure St where
  promised : Nat
  base : Nat
  slots : Slots
namespace St
def new : St := ⟨0, 0, []⟩
def rise (s : St) (n : Nat) : St := ⟨s.promised, max s.base n, s.slots.filter (fun p => decide (max s.base n ≤ p.1))⟩
end St

/-- a record -/
inductive Rc where
  | prom (b : Nat)
  | acc (slot ballot : Nat) (v : List UInt8)
  | forget (n : Nat)
namespace Rc
def enc : Rc → List UInt8
  | prom b => 1 :: numB b
  | acc slot ballot v => 2 :: (numB slot ++ (numB ballot ++ v))
  | forget n => 3 :: numB n
/-- what a record makes of a store -/
def play (s : St) : Rc → St
  | prom b => ⟨max s.promised b, s.base, s.slots⟩
  | acc slot ballot v => ⟨max s.promised ballot, s.base, putN slot ⟨ballot, v⟩ s.slots⟩
  | forget n => s.rise n
end Rc

structure So where
  per : Nat
  log : Lg
  snap : Dk
  st : St

/-- the body of a snapshot -/
def slotB (p : Nat × Hd) : List UInt8 := numB p.1 ++ (numB p.2.ballot ++ (numB p.2.value.length ++ p.2.value))
def snapB (s : St) : List UInt8 := numB s.promised ++ (numB s.base ++ (numB s.slots.length ++ (s.slots.map slotB).flatten))

/-- a number that a store takes -/
def numOk (n : Int) : Prop := 0 ≤ n ∧ n ≤ 1099511627776
instance (n : Int) : Decidable (numOk n) := inferInstanceAs (Decidable (_ ∧ _))

namespace So
def new (per : Nat) : So := ⟨per, Lg.new per, Dk.new, St.new⟩
def put (s : So) (rec : List UInt8) (st : St) : So × Int :=
  if (s.log.append rec).2.2 = 0 then (⟨s.per, (s.log.append rec).1, s.snap, st⟩, 0) else (⟨s.per, (s.log.append rec).1, s.snap, s.st⟩, (s.log.append rec).2.2)
def promise (s : So) (b : Int) : So × Int :=
  if s.log.down then (s, 10) else if ¬ numOk b then (s, 2) else if b < s.st.promised then (s, 16) else if b = s.st.promised then (s, 0)
  else s.put (Rc.prom b.toNat).enc ⟨b.toNat, s.st.base, s.st.slots⟩
def accept (s : So) (slot b : Int) (v : List UInt8) : So × Int :=
  if s.log.down then (s, 10) else if ¬ numOk slot then (s, 2) else if ¬ numOk b then (s, 2) else if b < s.st.promised ∨ slot < s.st.base then (s, 16)
  else if 32768 < v.length then (s, 3) else if getN slot.toNat s.st.slots = none ∧ s.st.slots.length = 1024 then (s, 7)
  else s.put (Rc.acc slot.toNat b.toNat v).enc ⟨b.toNat, s.st.base, putN slot.toNat ⟨b.toNat, v⟩ s.st.slots⟩
def forget (s : So) (n : Int) : So × Int :=
  if s.log.down then (s, 10) else if ¬ numOk n then (s, 2) else if n ≤ s.st.base then (s, 0) else s.put (Rc.forget n.toNat).enc (s.st.rise n.toNat)
def sync (s : So) : So × Int := (⟨s.per, s.log.sync.1, s.snap, s.st⟩, s.log.sync.2)
def crash (s : So) (keep flip : Int) : So × Int :=
  if (s.log.crash keep flip).2 = 0 then (⟨s.per, (s.log.crash keep flip).1, (s.snap.crash keep flip).1, s.st⟩, 0) else (⟨s.per, (s.log.crash keep flip).1, s.snap, s.st⟩, (s.log.crash keep flip).2)
def snapshot (s : So) : So × Int :=
  if s.log.down then (s, 10) else if 65536 < (snapB s.st).length then (⟨s.per, s.log.sync.1, s.snap, s.st⟩, 3) else (⟨s.per, Lg.new s.per, (s.snap.swap (frame (snapB s.st))).1, s.st⟩, 0)
/-- 1 and the greatest slot -/
def top (l : Slots) : Nat := l.foldl (fun n p => max n (p.1 + 1)) 0
end So
end Go.Proofs.YtediidajdpdeiaaDoor

/- A range over a function whose rounds are handed what the world holds: my own law, at the wide fence. And: a region of a round by the plain rules. -/
namespace Go.Proofs.YtediidajdpdeiaaDoor
open Go.RowKit

/-- what speaks of cells alone, or of what lies below B -/
abbrev Stays (B : Nat) (I : Nat → World → Prop) : Prop := OwnFrom B I

/-- how a round's body may be left -/
def roundPost (B : Nat) (I : Nat → World → Prop) (Ix : Code → Nat → World → Prop) (k : Nat) (W : World) : Exit → Act → World → Prop
  | .normal, _, W' => KeepsFrom B W W' ∧ I (k + 1) W'
  | .ret, _, W' => KeepsFrom B W W' ∧ Ix .ret (k + 1) W'
  | .exit id, _, W' => KeepsFrom B W W' ∧ Ix (.exit id) (k + 1) W'
  | .goto t, _, W' => KeepsFrom B W W' ∧ Ix (.goto t) (k + 1) W'
  | .panic _, _, _ => False
  | .outgrown, _, _ => False

/-- an iterator's word: rounds are handed what Gv says; S: how many, where all have come -/
def Iterates (P : Program) (gf : Nat) (lb : Array Value) (Gv : Nat → Array Value → World → Prop) (I : Nat → World → Prop) (S : Nat → Prop) (w : World) : Prop :=
  ∀ (n l : Nat) (J Jx : Nat → World → Prop) (W : World), Below w.heap.size w W → (∀ k W, J k W → I k W) → OwnFrom W.heap.size J → 
    (∀ k v W1, J k W1 → Gv k v W1 → YieldAt Fence.wide (n - 1) P l v W1 fun e W' => (e = .returned (.bool true) ∧ J (k + 1) W') ∨ (e = .returned (.bool false) ∧ Jx (k + 1) W')) →
    J 0 W →
    CallsIn Fence.wide n P gf (#[.func (.yield l) #[] #[]] ++ lb) W fun e W' => (∃ v, e = .returned v) ∧ ((∃ k, S k ∧ J k W') ∨ (∃ k, Jx k W'))

theorem wp_rangeFunc_G {P : Program} {g : Operand} {ps : Array Tmp} {assign body : Code} {Q : Exit → Act → World → Prop} {a : Act} {w : World} {n : Nat}
    {gf : Nat} {lb : Array Value} (hg : a.eval g = .func (.func gf) #[] lb) (eg : ∀ args w, (callFunc gf args).run P w = .ok (.enter gf args) w)
    {Gv : Nat → Array Value → World → Prop} {I : Nat → World → Prop} {S : Nat → Prop} (hseq : Iterates P gf lb Gv I S w)
    (hps : ∀ k v W, Gv k v W → v.size = ps.size) (hG : ∀ v, OwnFrom w.heap.size fun k W => Gv k v W)
    (Ix : Code → Nat → World → Prop) (hI : OwnFrom w.heap.size I) (hIx : ∀ c, OwnFrom w.heap.size (Ix c)) (h0 : I 0 w) (a₁ : Array Value → Act)
    (hassign : ∀ (l : Nat) (k : Nat) (v : Array Value) (W : World) (K : Act → World → Prop), Gv k v W → K (a₁ v) W →
      assign.wpIn (Fence.wide.inRound l) n P (Exit.then K (fun _ _ _ => False)) { tmps := (ps.zip v).foldl (fun t (p, v) => t.setIfInBounds p v) a.tmps, defers := [] } W)
    (hbody : ∀ (l : Nat) (k : Nat) (v : Array Value) (W : World), I k W → Gv k v W → body.wpIn (Fence.wide.inRound l) n P (roundPost w.heap.size I Ix k W) (a₁ v) W)
    (hdone : ∀ (D k : Nat) (W : World), w.heap.size ≤ D → S k → I k W → W.heap[D]? = some (.deferred (some [])) → Q .normal { a with defers := { target := .collected D, args := #[] } :: a.defers } W)
    (hstop : ∀ (D : Nat) (c : Code) (k : Nat) (W : World), w.heap.size ≤ D → Ix c k W → W.heap[D]? = some (.deferred (some [])) → c.wpIn Fence.wide (n + 2) P Q { a with defers := { target := .collected D, args := #[] } :: a.defers } W) :
    (Code.rangeFunc g ps assign body).wpIn Fence.wide (n + 2) P Q a w := by
  refine wpIn_rangeFunc ?_
  intro fn hfn
  obtain ⟨rec, hrec⟩ : ∃ rec : LoopState → Option Code → Loop, rec = fun st pe => { state := st, pending := pe, fn, tmps := a.tmps, params := ps, assign, body, defers := w.heap.size } := ⟨_, rfl⟩
  obtain ⟨W1, hW1⟩ : ∃ W1, (w.alloc (.deferred (some []))).alloc (.loop (rec .ready none)) = W1 := ⟨_, rfl⟩
  have hL1 : W1.heap[w.heap.size + 1]? = some (.loop (rec .ready none)) := by
    rw [← hW1]; have := World.alloc_heap_new (w.alloc (.deferred (some []))) (.loop (rec .ready none)); rwa [World.size_alloc] at this
  have hK1 : W1.heap[w.heap.size]? = some (.deferred (some [])) := by
    rw [← hW1]; exact (Below.heap_alloc _ _ _ (by simp)).trans (World.alloc_heap_new w _)
  have hI1 : I 0 W1 := by rw [← hW1]; exact hI.alloc _ (hI.alloc _ h0)
  have hb1 : Below w.heap.size w W1 := by
    rw [← hW1]; exact ((Below.refl _ w).alloc (Nat.le_refl _) _).alloc (by simp) _
  refine ⟨w.heap.size + 1, [{ target := .collected w.heap.size, args := #[] }], W1, { target := .fn (.func gf) lb, args := #[.func (.yield (w.heap.size + 1)) #[] #[]] }, W1, gf,
    #[.func (.yield (w.heap.size + 1)) #[] #[]] ++ lb, W1, ?_, ?_, ?_, ?_, fun _ => by omega, ?_⟩
  · rw [← hW1, hrec]; exact run_enterLoop_outer _ _ _ _ _
  · simp only [resolve, hg]
    simp [go_sem]
  · intro f' hf'; trivial
  · simp [invoke, go_sem, eg]
  · refine (hseq (n + 1) (w.heap.size + 1)
      (fun k W => I k W ∧ W.heap[w.heap.size + 1]? = some (.loop (rec .ready none)) ∧ W.heap[w.heap.size]? = some (.deferred (some [])))
      (fun k W => ∃ c, Ix c k W ∧ W.heap[w.heap.size + 1]? = some (.loop (rec .done (some c))) ∧ W.heap[w.heap.size]? = some (.deferred (some [])))
      W1 hb1 (fun _ _ h => h.1) ?_ ?_ ⟨hI1, hL1, hK1⟩).mono ?_
    · -- the iterator's own steps
      intro s A B row hs hg' hr
      have hlt : w.heap.size + 1 < W1.heap.size := (Array.getElem?_eq_some_iff.1 hL1).1
      refine ⟨hI s A B row hs.1 hg' (fun r e => ⟨by have := (hr r e).1; omega, (hr r e).2⟩), ?_, ?_⟩
      · refine (hg'.block _ (Array.getElem?_eq_some_iff.1 hs.2.1).1 ?_).trans hs.2.1
        intro e; have := (hr _ e.symm).1; omega
      · refine (hg'.block _ (Array.getElem?_eq_some_iff.1 hs.2.2).1 ?_).trans hs.2.2
        intro e; have := (hr _ e.symm).1; omega
    · -- one round
      rintro k v W ⟨hi, hl, hk⟩ hgv
      have hlt : w.heap.size + 1 < W.heap.size := (Array.getElem?_eq_some_iff.1 hl).1
      have hy := run_yield (P := P) (args := v) hl (by rw [hrec]; exact hps k v W hgv)
      rw [hrec] at hy
      refine ⟨fn, _, assign, body, hy, roundIn_of_wpIn hfn (hassign _ k v W _ hgv ⟨_, run_beginRound hl (by rw [hrec]), ?_⟩)⟩
      have hl2 : (W.putObj (w.heap.size + 1) (.loop { rec .ready none with state := .busy })).heap[w.heap.size + 1]? = some (.loop { rec .ready none with state := .busy }) := World.putObj_heap_same hlt
      have hk2 : (W.putObj (w.heap.size + 1) (.loop { rec .ready none with state := .busy })).heap[w.heap.size]? = some (.deferred (some [])) := (World.putObj_heap_other (by omega)).trans hk
      refine wpIn_mono (hbody _ k v _ (hI.putObj _ hi (by omega) hl rfl) ((hG v).putObj _ hgv (by omega) hl rfl)) ?_
      have fin : ∀ (jump : Option Code) (W3 : World), KeepsFrom w.heap.size (W.putObj (w.heap.size + 1) (.loop { rec .ready none with state := .busy })) W3 →
          (Instr.endRound (w.heap.size + 1) jump).run P W3 = .ok (.bool jump.isNone) (W3.putObj (w.heap.size + 1) (.loop (rec (if jump.isNone then .ready else .done) jump))) ∧
          W3.heap[w.heap.size + 1]? = some (.loop { rec .ready none with state := .busy }) ∧
          (W3.putObj (w.heap.size + 1) (.loop (rec (if jump.isNone then .ready else .done) jump))).heap[w.heap.size + 1]? = some (.loop (rec (if jump.isNone then .ready else .done) jump)) ∧
          (W3.putObj (w.heap.size + 1) (.loop (rec (if jump.isNone then .ready else .done) jump))).heap[w.heap.size]? = some (.deferred (some [])) := fun jump W3 hk3 => by
        have hl3 := hk3.same _ _ (by omega) hl2 rfl
        have := run_endRound (P := P) jump hl3
        rw [hrec] at this ⊢
        exact ⟨this, by rw [hrec] at hl3; exact hl3, World.putObj_heap_same (Array.getElem?_eq_some_iff.1 hl3).1, (World.putObj_heap_other (by omega)).trans (hk3.same _ _ (Nat.le_refl _) hk2 rfl)⟩
      rintro e a3 W3 hp
      cases e with
      | normal =>
        obtain ⟨hk3, hi3⟩ := hp
        obtain ⟨hr, hl3, hl4, hk4⟩ := fin none W3 hk3
        exact ⟨_, _, hr, .inl ⟨rfl, hI.putObj _ hi3 (by omega) hl3 rfl, hl4, hk4⟩⟩
      | ret =>
        obtain ⟨hk3, hi3⟩ := hp
        obtain ⟨hr, hl3, hl4, hk4⟩ := fin (some .ret) W3 hk3
        exact ⟨_, _, hr, .inr ⟨rfl, .ret, (hIx _).putObj _ hi3 (by omega) hl3 rfl, hl4, hk4⟩⟩
      | exit id =>
        obtain ⟨hk3, hi3⟩ := hp
        obtain ⟨hr, hl3, hl4, hk4⟩ := fin (some (.exit id)) W3 hk3
        exact ⟨_, _, hr, .inr ⟨rfl, .exit id, (hIx _).putObj _ hi3 (by omega) hl3 rfl, hl4, hk4⟩⟩
      | goto t =>
        obtain ⟨hk3, hi3⟩ := hp
        obtain ⟨hr, hl3, hl4, hk4⟩ := fin (some (.goto t)) W3 hk3
        exact ⟨_, _, hr, .inr ⟨rfl, .goto t, (hIx _).putObj _ hi3 (by omega) hl3 rfl, hl4, hk4⟩⟩
      | panic ch => exact hp.elim
      | outgrown => exact hp.elim
    · rintro e W2 ⟨⟨v, rfl⟩, (⟨k, hS, hi, hl, hk⟩ | ⟨k, c, hi, hl, hk⟩)⟩
      · exact ⟨none, _, by have := run_endLoop (P := P) hl (by rw [hrec]; simp); rw [hrec] at this; exact this, hdone _ k _ (Nat.le_refl _) hS (hI.putObj _ hi (by omega) hl rfl) ((World.putObj_heap_other (by omega)).trans hk)⟩
      · exact ⟨some c, _, by have := run_endLoop (P := P) hl (by rw [hrec]; simp); rw [hrec] at this; exact this, hstop _ c k _ (Nat.le_refl _) ((hIx c).putObj _ hi (by omega) hl rfl) ((World.putObj_heap_other (by omega)).trans hk)⟩

/-! a round's regions by the plain rules -/
section
variable {P : Program} {Q : Exit → Act → World → Prop} {l m : Nat}
def noDefer (o : Oper) : Bool := match o.op with
  | .defer _ => false
  | _ => true
theorem noDefer.ne {o : Oper} (h : noDefer o = true) : ∀ c, o.op ≠ .defer c := by
  intro c e; unfold noDefer at h; rw [e] at h; cases h

theorem oper_in {o : Oper} {a : Act} {w : World} {K : Act → World → Prop} (hd : noDefer o = true) (h : o.wp P a w K Q) : o.wpIn (Fence.wide.inRound l) m P a w K Q := by
  refine ⟨fun _ _ => trivial, ?_⟩
  rw [Fence.inRound_round, Oper.semAt_some l _ _ (noDefer.ne hd)]
  unfold Oper.wp at h
  generalize (execOp a.eval o).run P w = r at h ⊢
  cases r with
  | ok nx w' =>
    cases nx with
    | value v => exact h
    | skip => exact h
    | defer d => exact h
    | enter f args => exact ⟨fun e => (by cases e), CallsIn.inRound l (callsIn_wide.2 h)⟩
    | row rw_ args =>
      refine ⟨fun e => (by cases e), ?_⟩
      intro c cs _
      obtain ⟨v, w'', r, s⟩ := h c cs
      exact ⟨v, w'', r, stepsIn_wide.2 s⟩
    | round l f tmps assign body => exact h.elim
    | _ => exact h.elim
  | halt hx w' =>
    cases hx with
    | panic v => exact h
    | _ => exact h.elim

theorem list_in {ops : Array Oper} (hno : ¬ LetsOut Q) : ∀ (lst : List Oper) (a : Act) (w : World), (∀ o ∈ lst, noDefer o = true) → wpList P ops Q lst a w → wpListIn (Fence.wide.inRound l) m P ops Q lst a w
  | [], _, _, _, h => h
  | o :: rest, a, w, hd, h => by
    unfold wpList at h
    unfold wpListIn
    split at h
    · rename_i hw
      rw [if_pos hw]
      rcases h with h | ⟨_, h⟩
      · exact Oper.wpIn_mono (fun a w h => list_in hno rest a w (fun o ho => hd o (List.mem_cons_of_mem _ ho)) h) (oper_in (hd o List.mem_cons_self) h)
      · exact absurd h hno
    · rename_i hw
      rw [if_neg hw]
      exact ⟨fun _ _ => trivial, list_in hno rest _ w (fun o ho => hd o (List.mem_cons_of_mem _ ho)) h⟩

theorem any_in {md : Region.Mode} {ops : Array Oper} (hno : ¬ LetsOut Q) (hd : ∀ (i : Nat) (o : Oper), ops[i]? = some o → noDefer o = true) : ∀ (fuel : Nat) (listed : Array Bool) (a : Act) (w : World), wpAny P md ops Q fuel listed a w → wpAnyIn (Fence.wide.inRound l) m P md ops Q fuel listed a w
  | 0, _, _, _, h => h
  | fuel + 1, listed, a, w, h => by
    refine ⟨h.1, fun i hi => ?_⟩
    have h1 := h.2 i hi
    unfold wpOp at h1
    unfold wpOpIn
    split at h1
    · rename_i e; simp only [e]; exact any_in hno hd fuel _ a w h1
    · rename_i o e
      simp only [e]
      split at h1
      · rename_i hw
        rw [if_pos hw]
        rcases h1 with h1 | ⟨_, h1⟩
        · exact Oper.wpIn_mono (fun a w h => any_in hno hd fuel _ a w h) (oper_in (hd i o e) h1)
        · exact absurd h1 hno
      · rename_i hw
        rw [if_neg hw]
        exact ⟨fun _ _ => trivial, any_in hno hd fuel _ _ w h1⟩

/-- a region of a round, in the order of the text -/
theorem wpIn_region_round {id : Nat} {lst : List Oper} {a : Act} {w : World} (hd : lst.all noDefer = true) (hno : ¬ LetsOut Q) (h : wpList P lst.toArray Q lst a w) : (Code.region id lst.toArray false).wpIn (Fence.wide.inRound l) m P Q a w :=
  wpIn_region_lit (list_in hno lst a w (fun o ho => List.all_eq_true.1 hd o ho) h)
/-- a region of a round that draws its order -/
theorem wpIn_region_T {ops : Array Oper} (T : Anc) (R : List Nat) (S : World → Prop) (n : Nat) {id : Nat} {a : Act} {w : World} (hn : ops.size = n) (hm : P.follows .mixedOrders = true)
    (hd : ops.all noDefer = true) (hno : ¬ LetsOut Q)
    (h : wpAnyT P .any ops Q T R S n (Array.replicate n false) a w.drew) : (Code.region id ops true).wpIn (Fence.wide.inRound l) m P Q a w := by
  subst hn
  refine wpIn_region_any hm (any_in hno ?_ _ _ _ _ (wpAny_of_T _ _ _ _ h))
  intro i o ho
  obtain ⟨hlt, e⟩ := Array.getElem?_eq_some_iff.1 ho
  have := (Array.all_eq_true.1 hd) i hlt
  rw [e] at this; exact this
end

end Go.Proofs.YtediidajdpdeiaaDoor

/- crc.All: the iterator's word. -/
namespace Go.Proofs.YtediidajdpdeiaaDoor
open Go.RowKit Go.Shelf CrcM
attribute [local go_sem] Oper.semAt_some
set_option maxRecDepth 100000

theorem OwnFrom.below {B : Nat} {J : Nat → World → Prop} (h : OwnFrom B J) {k : Nat} {W W' : World} (hs : J k W) (hb : Below W.heap.size W W') : J k W' :=
  h k W W' none hs ⟨hb.os, hb.tape, hb.output, hb.size, fun j hj _ => hb.block j hj⟩ (fun _ e => by cases e)

/-- where the k-th body lies -/
inductive Pos (b : List UInt8) : Nat → Nat → Prop
  | start : Pos b 0 0
  | step {k at_ : Nat} {body : List UInt8} {en : Nat} : Pos b k at_ → next b at_ = .ok (body, en) → Pos b (k + 1) en

theorem next_ok {b : List UInt8} {at_ : Nat} {p : List UInt8 × Nat} (h : next b at_ = .ok p) : at_ < p.2 ∧ p.2 ≤ b.length ∧ p.1.length ≤ 65536 ∧ p.2 = at_ + 12 + p.1.length := by
  unfold next at h
  split at h
  · cases h
  · split at h
    · cases h
    · rename_i h1 h2
      rw [Int.toNat_natCast] at h
      simp only at h
      split at h
      · cases h
      · split at h
        · cases h
        · split at h
          · cases h
          · split at h
            · cases h
            · rename_i h3 h4 h5 h6
              injection h with h; subst h
              rw [List.length_drop] at h5
              simp only [List.length_take, List.length_drop]
              omega

theorem next_err {b : List UInt8} {a r : Int} (h : next b a = .error r) : r ≠ 0 := by
  unfold next at h
  split at h
  · injection h with h; omega
  · split at h
    · injection h with h; omega
    · simp only at h
      split at h
      · injection h with h; omega
      · split at h
        · injection h with h; omega
        · split at h
          · injection h with h; omega
          · split at h
            · injection h with h; omega
            · cases h

theorem Pos.le {b : List UInt8} {k at_ : Nat} (h : Pos b k at_) : at_ ≤ b.length := by
  cases h with
  | start => omega
  | step _ hn => exact (next_ok hn).2.1

def AllGv (b : List UInt8) (k : Nat) (v : Array Value) (W : World) : Prop :=
  ∃ at_ body en A c, Pos b k at_ ∧ next b at_ = .ok (body, en) ∧ v = #[.int .i64 (at_ : Int), .slice A body.length c] ∧ Rd Non W A body ∧ body.length ≤ c ∧ c ≤ maxLen
def AllS (b : List UInt8) (k : Nat) : Prop := ∃ at_ r, Pos b k at_ ∧ next b at_ = .error r
/-- what the iterator reads -/
def AllNeeds (bx : Nat) (A : Option Addr) (c : Nat) (b : List UInt8) (W : World) : Prop :=
  HalfAt W ∧ W.cell? ⟨bx, 0, none⟩ = some (.slice A b.length c) ∧ Rd Non W A b

set_option maxHeartbeats 1000000 in
theorem all_iterates (bx : Nat) (A : Option Addr) (c : Nat) (b : List UInt8) (hbc : b.length ≤ c) (hcm : c ≤ maxLen) (I : Nat → World → Prop) (hI : ∀ k W, I k W → AllNeeds bx A c b W) (w : World) :
    Iterates Tryd.prog 81 #[.pointer (some ⟨bx, 0, none⟩)] (AllGv b) I (AllS b) w := by
  intro n l J Jx W hW hJI hJ hY h0
  refine callsIn_of_wp Tryd.func81 rfl trivial ?_ rfl
  simp only [Tryd.ntmps81, List.size_toArray, List.length_cons, List.length_nil, Nat.reduceAdd, Nat.reduceSub, Array.replicate_succ, Array.replicate_zero, List.push_toArray, List.append_toArray, List.nil_append, List.cons_append]
  gi_wp2
  gi_loopw [3] (fun p wr => ∃ k at_ : Nat, Pos b k at_ ∧ p = .int .i64 at_ ∧ J k wr) (fun p _ => b.length + 1 - (intOf p).toNat)
  case atStart => exact ⟨0, 0, .start, rfl, h0⟩
  case round =>
    obtain ⟨k, at_, hpos, rfl, hJk⟩ := hrel
    obtain ⟨hh, hbx, hrb⟩ := hI k _ (hJI k _ hJk)
    have hnx := next_B wr hh A b c b.length hrb rfl hbc hcm (at_ : Int)
    cases hn : next b at_ with
    | error r =>
      have hr0 : ¬ r = 0 := next_err hn
      gi_wp2_with (refine ⟨trivial, fun h_ => (by cases h_), ?_⟩; gi_at_call 28; refine (callsIn_wide.2 hnx).mono ?_; intro e w2 hd; unfold NextDid at hd; rw [hn] at hd; obtain ⟨rfl, hb2⟩ := hd)
      all_goals (refine ⟨fun _ h => (by cases h), ?_⟩; gi_wp2)
      refine bodyPost_ret (results_none rfl _ _ _) rfl ?_
      exact ⟨⟨_, rfl⟩, .inl ⟨k, ⟨at_, r, hpos, hn⟩, OwnFrom.below hJ hJk hb2⟩⟩
    | ok p =>
      obtain ⟨body, en⟩ := p
      have hno := Lib.hid (next_ok hn)
      gi_wp2_with (refine ⟨trivial, fun h_ => (by cases h_), ?_⟩; gi_at_call 28; refine (callsIn_wide.2 hnx).mono ?_; intro e w2 hd; unfold NextDid at hd; rw [hn] at hd; obtain ⟨A', c', rfl, ho, hc', hm', hb2⟩ := hd; obtain ⟨fn, tmps, asg, bdy, hy, hR⟩ := hY k #[.int .i64 (at_ : Int), .slice A' body.length c'] w2 (OwnFrom.below hJ hJk hb2) ⟨at_, body, en, A', c', hpos, hn, rfl, ho.rd _, hc', hm'⟩)
      refine ⟨fun h_ => (by cases h_), hR.mono ?_⟩
      rintro e W3 (⟨rfl, hJ3⟩ | ⟨rfl, hJx3⟩)
      · gi_wp2
        go_roundw
        case rel => exact ⟨k + 1, en, .step hpos hn, rfl, hJ3⟩
        case measure =>
          have := hno.out.1
          have := hno.out.2.1
          simp [intOf] at *
          omega
      · gi_wp2
        refine bodyPost_ret (results_none rfl _ _ _) rfl ?_
        exact ⟨⟨_, rfl⟩, .inr ⟨k + 1, hJx3⟩⟩
end Go.Proofs.YtediidajdpdeiaaDoor

/- crc.Good: the walk. -/
namespace Go.Proofs.YtediidajdpdeiaaDoor
open Go.RowKit Go.Shelf CrcM
attribute [local go_sem] Oper.semAt_some
set_option maxRecDepth 100000

theorem Pos.det {b : List UInt8} {k p q : Nat} (h : Pos b k p) (h' : Pos b k q) : p = q := by
  induction h generalizing q with
  | start => cases h'; rfl
  | step h1 h2 ih =>
    cases h' with
    | step h3 h4 =>
      have := ih h3; subst this
      rw [h2] at h4; injection h4 with h4; injection h4

theorem all_B (w : World) (A : Option Addr) (n c : Nat) :
    Calls Tryd.prog 32 #[.slice A n c] w fun e w' => e = .returned (.func (.func 81) #[] #[.pointer (some ⟨w.heap.size, 0, none⟩)]) ∧ w.alloc (.cells #[.slice A n c] 22) = w' := by
  go_enter Tryd.func32, Tryd.ntmps32
  go_wp2
  go_ret
  exact ⟨rfl, rfl⟩

/-- what Good answers -/
def GoodIs (b : List UInt8) (at_ : Nat) (r : Int) : Prop := ∃ k, Pos b k at_ ∧ (∃ r', next b at_ = .error r' ∧ r = if at_ = b.length then 0 else r')

theorem Gv_own (b : List UInt8) (v : Array Value) (B : Nat) : OwnFrom B fun k W => AllGv b k v W := by
  intro k W W' row hs hg hr
  obtain ⟨at_, body, en, A, c, h1, h2, h3, h4, h5⟩ := hs
  refine ⟨at_, body, en, A, c, h1, h2, h3, ?_, h5⟩
  intro j x hx
  obtain ⟨ad, e, hc, _⟩ := h4 j x hx
  exact ⟨ad, e, cell_kept hc hg (fun r e => (hr r e).2), .inl fun h => h.elim⟩

theorem KeepsFrom.below {B : Nat} {W W' : World} (h : Below W.heap.size W W') : KeepsFrom B W W' :=
  ⟨h.size, fun k _ _ hk _ => (h.block k (Array.getElem?_eq_some_iff.1 hk).1).trans hk⟩

def GoodI (w : World) (A : Option Addr) (b : List UInt8) (c : Nat) (k : Nat) (W : World) : Prop :=
  ((∃ at_ : Nat, Pos b k at_ ∧ W.cell? ⟨w.heap.size + 1, 0, none⟩ = some (.int .i64 (at_ : Int))) ∧ W.frozen? ⟨w.heap.size + 1, 0, none⟩ = false ∧
    W.cell? ⟨w.heap.size, 0, none⟩ = some (.slice A b.length c) ∧ W.cell? ⟨w.heap.size + 2, 0, none⟩ = some (.slice A b.length c)) ∧ Below w.heap.size w W

theorem GoodI.own (w : World) (A : Option Addr) (b : List UInt8) (c : Nat) {B : Nat} (hB : w.heap.size ≤ B) : OwnFrom B (GoodI w A b c) := by
  refine OwnFrom.and ?_ (ownFrom_below (Nat.le_refl _) hB)
  rintro k W W' row ⟨⟨at_, hp, h1⟩, h2, h3, h4⟩ hg hr
  have hr' : ∀ r, row = some r → ∃ o : Obj, W.heap[r]? = some o ∧ o.isCells = false := fun r e => (hr r e).2
  exact ⟨⟨at_, hp, cell_kept h1 hg hr'⟩, (frozen_kept h1 hg hr').trans h2, cell_kept h3 hg hr', cell_kept h4 hg hr'⟩

theorem good_ret {w W : World} {D at_ : Nat} {r : Int} {tmps : Array Value} {R : Ending → World → Prop} (h2 : tmps.getD 2 undef = .pointer (some ⟨w.heap.size + 1, 0, none⟩)) (h3 : tmps.getD 3 undef = .int .i64 r)
    (hD : w.heap.size + 3 ≤ D) (hK : W.heap[D]? = some (.deferred (some []))) (hB : Below w.heap.size w W) (hc : W.cell? ⟨w.heap.size + 1, 0, none⟩ = some (.int .i64 (at_ : Int)))
    (hR : Below w.heap.size w (W.putObj D (.deferred none)) → R (.returned (.tuple #[.int .i64 (at_ : Int), .int .i64 r])) (W.putObj D (.deferred none))) :
    LeavesInM Fence.wide 10 Tryd.prog Tryd.f30 tmps R [] .returning (W.putObj D (.deferred none)) := by
  have hc' : (W.putObj D (.deferred none)).cell? ⟨w.heap.size + 1, 0, none⟩ = some (.int .i64 (at_ : Int)) := (World.cell?_of_block (World.putObj_heap_other (by show _ ≠ _; simp; omega))).trans hc
  refine ⟨_, ?_, hR ?_⟩
  · rw [results_cell_tmp (p := 2) (u := 3) (ty := 3) rfl, h2, h3]
    go_simp
  · exact hB.grown (grownBy_putObj' W D _) (by have := (Array.getElem?_eq_some_iff.1 hK).1; omega) (fun k e => by cases e; omega)

set_option maxHeartbeats 1000000 in
theorem good_B (w : World) (hh : HalfAt w) (A : Option Addr) (b : List UInt8) (c n : Nat) (hr : Rd Non w A b) (hl : b.length = n) (hn : n ≤ c) (hm : c ≤ maxLen) :
    Calls Tryd.prog 30 #[.slice A n c] w fun e w' => ∃ at_ r, GoodIs b at_ r ∧ e = .returned (.tuple #[.int .i64 (at_ : Int), .int .i64 r]) ∧ Below w.heap.size w w' := by
  subst hl
  refine (callsIn_wide (n := 10)).1 ?_
  refine callsIn_of_wp_marks Tryd.func30 rfl trivial ?_ rfl
  simp only [Tryd.ntmps30, List.size_toArray, List.length_cons, List.length_nil, Nat.reduceAdd, Nat.reduceSub, Array.replicate_succ, Array.replicate_zero, List.push_toArray, List.append_toArray, List.nil_append, List.cons_append]
  gi_wp2_with (refine ⟨trivial, ?_⟩; gi_at_call 32; refine (callsIn_wide.2 (all_B _ _ _ _)).mono ?_; rintro e w2 ⟨rfl, rfl⟩)
  have hI0 : GoodI w A b c 0 (((w.alloc (.cells #[.slice A b.length c] 22)).alloc (.cells #[.int .i64 0] 3)).alloc (.cells #[.slice A b.length c] 22)) := by
    have z1 : Blk (w.alloc (.cells #[.slice A b.length c] 22)) w.heap.size 22 #[.slice A b.length c] := Blk.new _ _ _
    have z2 : Blk ((w.alloc (.cells #[.slice A b.length c] 22)).alloc (.cells #[.int .i64 0] 3)) (w.heap.size + 1) 3 #[.int .i64 0] := Blk.new' _ _ _ (by simp)
    have z3 : Blk (((w.alloc (.cells #[.slice A b.length c] 22)).alloc (.cells #[.int .i64 0] 3)).alloc (.cells #[.slice A b.length c] 22)) (w.heap.size + 2) 22 #[.slice A b.length c] := Blk.new' _ _ _ (by simp)
    exact ⟨⟨⟨0, .start, (z2.alloc _).cell 0 rfl⟩, (z2.alloc _).frozen 0, ((z1.alloc _).alloc _).cell 0 rfl, z3.cell 0 rfl⟩, (((Below.refl _ _).alloc (Nat.le_refl _) _).alloc (by simp) _).alloc (by simp; omega) _⟩
  have hsz : (((w.alloc (.cells #[.slice A b.length c] 22)).alloc (.cells #[.int .i64 0] 3)).alloc (.cells #[.slice A b.length c] 22)).heap.size = w.heap.size + 3 := by simp
  generalize ((w.alloc (.cells #[.slice A b.length c] 22)).alloc (.cells #[.int .i64 0] 3)).alloc (.cells #[.slice A b.length c] 22) = w3 at *
  have hneed : ∀ k W, GoodI w A b c k W → AllNeeds (w.heap.size + 2) A c b W := fun k W h => ⟨hh.below h.2 hh.lt, h.1.2.2.2, hr.below h.2⟩
  refine wp_rangeFunc_G (n := 8) (Gv := AllGv b) (I := GoodI w A b c) (S := AllS b) rfl (enters_of Tryd.func81 (by kernel_rfl) rfl) (all_iterates (w.heap.size + 2) A c b hn hm _ hneed w3)
    (fun k v W h => by obtain ⟨_, _, _, _, _, _, _, rfl, _⟩ := h; rfl) (fun v => Gv_own b v _) (fun _ _ _ => False) (GoodI.own w A b c (by omega)) (fun _ _ _ _ _ h _ _ => h) hI0
    (fun v => { tmps := #[.slice A b.length c, .pointer (some ⟨w.heap.size, 0, none⟩), .pointer (some ⟨w.heap.size + 1, 0, none⟩), .int .i64 0, v.getD 0 undef, .slice A b.length c, .func (.func 81) #[] #[.pointer (some ⟨w.heap.size + 2, 0, none⟩)], v.getD 0 undef, v.getD 1 undef,
      undef, undef, undef, undef, undef, undef, undef, undef, undef, undef, undef, undef, undef, undef, undef, undef, undef, undef, undef, undef, undef], defers := [] }) ?assign ?body ?done ?stop
  case assign =>
    rintro l k v W K ⟨at_, body, en, A', c', h1, h2, rfl, h4⟩ hK
    gi_wp2
    exact hK
  case body =>
    rintro l k v W hI ⟨at_, body, en, A', c', h1, h2, rfl, h4, h5, h6⟩
    have hB := hI.2
    obtain ⟨⟨⟨at1, hp1, i1⟩, i2, i3, i4⟩, -⟩ := hI
    have hnx := next_B W (hh.below hB hh.lt) A b c b.length (hr.below hB) rfl hn hm (at_ : Int)
    gi_wp2_with (refine ⟨trivial, ?_⟩; gi_at_call 28; refine (CallsIn.inRound l (callsIn_wide.2 hnx)).mono ?_; intro e W2 hd; unfold NextDid at hd; rw [h2] at hd; obtain ⟨A2, c2, rfl, ho2, hc2, hm2, hb2⟩ := hd; have j1 := (hb2.cell (p := ⟨w.heap.size + 1, 0, none⟩) (cell_lt i1)).trans i1; have j2 := (hb2.frozen (p := ⟨w.heap.size + 1, 0, none⟩) (cell_lt i1)).trans i2)
    have i3' := (hb2.cell (p := ⟨w.heap.size, 0, none⟩) (cell_lt i3)).trans i3
    have i4' := (hb2.cell (p := ⟨w.heap.size + 2, 0, none⟩) (cell_lt i4)).trans i4
    refine ⟨(KeepsFrom.below hb2).trans ((KeepsOthers.setCell _ _ _).from _), ⟨⟨en, .step h1 h2, World.cell?_setCell_same' _ _ _ (by rw [j1]; rfl)⟩, by rw [World.frozen?_setCell]; exact j2, ?_, ?_⟩, (hB.trans (hb2.mono hB.size)).setCell (p := ⟨w.heap.size + 1, 0, none⟩) (by simp) _⟩
    · exact (World.cell?_setCell_other W2 ⟨w.heap.size + 1, 0, none⟩ ⟨w.heap.size, 0, none⟩ _ (by intro e; injection e with e; omega)).trans i3'
    · exact (World.cell?_setCell_other W2 ⟨w.heap.size + 1, 0, none⟩ ⟨w.heap.size + 2, 0, none⟩ _ (by intro e; injection e with e; omega)).trans i4'
  case done =>
    rintro D k W hD ⟨at_, r, hp, hn'⟩ hI hK
    have hB := hI.2
    obtain ⟨⟨⟨at1, hp1, i1⟩, i2, i3, i4⟩, -⟩ := hI
    obtain rfl := hp.det hp1
    have hle := hp.le
    have hnx := next_B W (hh.below hB hh.lt) A b c b.length (hr.below hB) rfl hn hm (at_ : Int)
    by_cases he : at_ = b.length
    · have he' : (at_ : Int) = (b.length : Int) := by omega
      gi_wp2
      have hK2 := (KeepsOthers.setCell W ⟨w.heap.size + 1, 0, none⟩ (.int .i64 (b.length : Int))).same D _ hK rfl
      have hB2 := hB.setCell (p := ⟨w.heap.size + 1, 0, none⟩) (by simp) (.int .i64 (b.length : Int))
      have j1 : (W.setCell ⟨w.heap.size + 1, 0, none⟩ (.int .i64 (b.length : Int))).cell? ⟨w.heap.size + 1, 0, none⟩ = some (.int .i64 (b.length : Int)) := World.cell?_setCell_same' _ _ _ (by rw [i1]; rfl)
      generalize W.setCell ⟨w.heap.size + 1, 0, none⟩ (.int .i64 (b.length : Int)) = W2 at *
      refine ⟨by simp, .inl ⟨_, _, rfl, run_takeDeferred hK2, ?_⟩⟩
      exact good_ret rfl rfl (by omega) hK2 hB2 j1 (fun hb => ⟨b.length, 0, ⟨k, he ▸ hp, r, he ▸ hn', by simp⟩, rfl, hb⟩)
    · have he' : (at_ : Int) < (b.length : Int) := by omega
      gi_wp2_with (refine ⟨trivial, ?_⟩; gi_at_call 28; refine (callsIn_wide.2 hnx).mono ?_; intro e W2 hd; unfold NextDid at hd; rw [hn'] at hd; obtain ⟨rfl, hb2⟩ := hd; have j1 := (hb2.cell (p := ⟨w.heap.size + 1, 0, none⟩) (cell_lt i1)).trans i1; have j2 := (hb2.frozen (p := ⟨w.heap.size + 1, 0, none⟩) (cell_lt i1)).trans i2)
      have hK1 := (hb2.block D (Array.getElem?_eq_some_iff.1 hK).1).trans hK
      have hK2 := (KeepsOthers.setCell W2 ⟨w.heap.size + 1, 0, none⟩ (.int .i64 (at_ : Int))).same D _ hK1 rfl
      have hB2 := (hB.trans (hb2.mono hB.size)).setCell (p := ⟨w.heap.size + 1, 0, none⟩) (by simp) (.int .i64 (at_ : Int))
      have j3 : (W2.setCell ⟨w.heap.size + 1, 0, none⟩ (.int .i64 (at_ : Int))).cell? ⟨w.heap.size + 1, 0, none⟩ = some (.int .i64 (at_ : Int)) := World.cell?_setCell_same' _ _ _ (by rw [j1]; rfl)
      generalize W2.setCell ⟨w.heap.size + 1, 0, none⟩ (.int .i64 (at_ : Int)) = W3 at *
      refine ⟨by simp, .inl ⟨_, _, rfl, run_takeDeferred hK2, ?_⟩⟩
      exact good_ret rfl rfl (by omega) hK2 hB2 j3 (fun hb => ⟨at_, r, ⟨k, hp, r, hn', by rw [if_neg he]⟩, rfl, hb⟩)
  case stop =>
    rintro D c k W _ h _
    exact h.elim
end Go.Proofs.YtediidajdpdeiaaDoor

/- crc.All: the iterator's word, where the bodies that are told are rows of one's own. -/
namespace Go.Proofs.YtediidajdpdeiaaDoor
open Go.RowKit Go.Shelf CrcM
attribute [local go_sem] Oper.semAt_some
set_option maxRecDepth 100000

def AllGvO (b : List UInt8) (k : Nat) (v : Array Value) (W : World) : Prop :=
  ∃ at_ body en A c, Pos b k at_ ∧ next b at_ = .ok (body, en) ∧ v = #[.int .i64 (at_ : Int), .slice A body.length c] ∧ Own (fun _ => True) W A body ∧ body.length ≤ c ∧ c ≤ maxLen

theorem GvO_own (b : List UInt8) (v : Array Value) (B : Nat) : OwnFrom B fun k W => AllGvO b k v W := by
  intro k W W' row hs hg hr
  obtain ⟨at_, body, en, A, c, h1, h2, h3, h4, h5⟩ := hs
  refine ⟨at_, body, en, A, c, h1, h2, h3, ?_, h5⟩
  intro j x hx
  obtain ⟨ad, e, hc, ⟨cs, fz, hb⟩, _⟩ := h4 j x hx
  refine ⟨ad, e, cell_kept hc hg (fun r e => (hr r e).2), ⟨cs, fz, ?_⟩, trivial⟩
  refine (hg.block _ (Array.getElem?_eq_some_iff.1 hb).1 ?_).trans hb
  intro e
  obtain ⟨o, ho, hcs⟩ := (hr _ e.symm).2
  rw [hb] at ho
  injection ho with ho
  rw [← ho] at hcs
  cases hcs

set_option maxHeartbeats 1000000 in
theorem all_iteratesO (bx : Nat) (A : Option Addr) (c : Nat) (b : List UInt8) (hbc : b.length ≤ c) (hcm : c ≤ maxLen) (I : Nat → World → Prop) (hI : ∀ k W, I k W → AllNeeds bx A c b W) (w : World) :
    Iterates Tryd.prog 81 #[.pointer (some ⟨bx, 0, none⟩)] (AllGvO b) I (AllS b) w := by
  intro n l J Jx W hW hJI hJ hY h0
  refine callsIn_of_wp Tryd.func81 rfl trivial ?_ rfl
  simp only [Tryd.ntmps81, List.size_toArray, List.length_cons, List.length_nil, Nat.reduceAdd, Nat.reduceSub, Array.replicate_succ, Array.replicate_zero, List.push_toArray, List.append_toArray, List.nil_append, List.cons_append]
  gi_wp2
  gi_loopw [3] (fun p wr => ∃ k at_ : Nat, Pos b k at_ ∧ p = .int .i64 at_ ∧ J k wr) (fun p _ => b.length + 1 - (intOf p).toNat)
  case atStart => exact ⟨0, 0, .start, rfl, h0⟩
  case round =>
    obtain ⟨k, at_, hpos, rfl, hJk⟩ := hrel
    obtain ⟨hh, hbx, hrb⟩ := hI k _ (hJI k _ hJk)
    have hnx := next_B wr hh A b c b.length hrb rfl hbc hcm (at_ : Int)
    cases hn : next b at_ with
    | error r =>
      have hr0 : ¬ r = 0 := next_err hn
      gi_wp2_with (refine ⟨trivial, fun h_ => (by cases h_), ?_⟩; gi_at_call 28; refine (callsIn_wide.2 hnx).mono ?_; intro e w2 hd; unfold NextDid at hd; rw [hn] at hd; obtain ⟨rfl, hb2⟩ := hd)
      all_goals (refine ⟨fun _ h => (by cases h), ?_⟩; gi_wp2)
      refine bodyPost_ret (results_none rfl _ _ _) rfl ?_
      exact ⟨⟨_, rfl⟩, .inl ⟨k, ⟨at_, r, hpos, hn⟩, OwnFrom.below hJ hJk hb2⟩⟩
    | ok p =>
      obtain ⟨body, en⟩ := p
      have hno := Lib.hid (next_ok hn)
      gi_wp2_with (refine ⟨trivial, fun h_ => (by cases h_), ?_⟩; gi_at_call 28; refine (callsIn_wide.2 hnx).mono ?_; intro e w2 hd; unfold NextDid at hd; rw [hn] at hd; obtain ⟨A', c', rfl, ho, hc', hm', hb2⟩ := hd; obtain ⟨fn, tmps, asg, bdy, hy, hR⟩ := hY k #[.int .i64 (at_ : Int), .slice A' body.length c'] w2 (OwnFrom.below hJ hJk hb2) ⟨at_, body, en, A', c', hpos, hn, rfl, ho.mono (fun _ _ => trivial), hc', hm'⟩)
      refine ⟨fun h_ => (by cases h_), hR.mono ?_⟩
      rintro e W3 (⟨rfl, hJ3⟩ | ⟨rfl, hJx3⟩)
      · gi_wp2
        go_roundw
        case rel => exact ⟨k + 1, en, .step hpos hn, rfl, hJ3⟩
        case measure =>
          have := hno.out.1
          have := hno.out.2.1
          simp [intOf] at *
          omega
      · gi_wp2
        refine bodyPost_ret (results_none rfl _ _ _) rfl ?_
        exact ⟨⟨_, rfl⟩, .inr ⟨k + 1, hJx3⟩⟩
end Go.Proofs.YtediidajdpdeiaaDoor

/- What a segment's bytes say when they are read from the front on (layer 7), in plain words. -/
namespace Go.Proofs.YtediidajdpdeiaaDoor
open CrcM

/-- the bodies up to a place -/
inductive Got (b : List UInt8) : List (List UInt8) → Nat → Prop
  | start : Got b [] 0
  | step {bs : List (List UInt8)} {at_ : Nat} {body : List UInt8} {en : Nat} : Got b bs at_ → next b at_ = .ok (body, en) → Got b (bs ++ [body]) en

theorem Got.zero {b : List UInt8} {bs : List (List UInt8)} {at_ : Nat} (h : Got b bs at_) (hb : bs = []) : at_ = 0 := by
  cases h with
  | start => rfl
  | step h1 h2 => simp at hb
theorem Got.pos {b : List UInt8} {bs : List (List UInt8)} {at_ : Nat} (h : Got b bs at_) : Pos b bs.length at_ := by
  induction h with
  | start => exact .start
  | step h1 h2 ih => rw [List.length_append]; exact .step ih h2
theorem Got.le {b : List UInt8} {bs : List (List UInt8)} {at_ : Nat} (h : Got b bs at_) : 12 * bs.length ≤ at_ ∧ at_ ≤ b.length ∧ ∀ x ∈ bs, x.length ≤ 65536 := by
  induction h with
  | start => exact ⟨by simp, Nat.zero_le _, fun x hx => (by cases hx)⟩
  | step h1 h2 ih =>
    obtain ⟨h3, h4, h5, h6⟩ := next_ok h2
    simp only at h3 h4 h5 h6
    refine ⟨by rw [List.length_append, List.length_singleton]; omega, h4, fun x hx => ?_⟩
    rcases List.mem_append.1 hx with hx | hx
    · exact ih.2.2 x hx
    · rw [List.mem_singleton] at hx; rw [hx]; exact h5
theorem framesF_got {b : List UInt8} {bs : List (List UInt8)} {at_ : Nat} (h : Got b bs at_) : ∀ f, framesF (bs.length + f) b 0 = (bs ++ (framesF f b at_).1, (framesF f b at_).2) := by
  induction h with
  | start => intro f; rw [List.length_nil, Nat.zero_add]; rfl
  | step h1 h2 ih =>
    intro f
    rename_i bs at_ body en
    rw [List.length_append, List.length_singleton, Nat.add_assoc, Nat.add_comm 1 f, ih (f + 1)]
    have e : framesF (f + 1) b at_ = (body :: (framesF f b en).1, (framesF f b en).2) := by
      rw [framesF, h2]
    rw [e, List.append_assoc]
    rfl
theorem Got.all {b : List UInt8} {bs : List (List UInt8)} {at_ : Nat} {r : Int} (h : Got b bs at_) (he : next b at_ = .error r) : framesOf b = (bs, at_) := by
  have hle := h.le
  have := framesF_got h (b.length - bs.length + 1)
  unfold framesOf
  rw [show b.length + 1 = bs.length + (b.length - bs.length + 1) by omega, this, framesF, he]
  simp
theorem framesOf_first {b body : List UInt8} {en : Nat} (h : next b 0 = .ok (body, en)) : ∃ t, (framesOf b).1 = body :: t := by
  unfold framesOf
  rw [framesF]
  have h' : next b ((0 : Nat) : Int) = .ok (body, en) := h
  rw [h']
  exact ⟨_, rfl⟩
/-- all bytes have their bodies and an end -/
theorem framesF_is (b : List UInt8) : ∀ (f : Nat) (bs : List (List UInt8)) (at_ : Nat), Got b bs at_ → b.length < at_ + f → ∃ bs' at' r, Got b bs' at' ∧ next b at' = .error r
  | 0, bs, at_, h, hf => by have := h.le; omega
  | f + 1, bs, at_, h, hf => by
    cases hn : next b at_ with
    | error r => exact ⟨bs, at_, r, h, hn⟩
    | ok p =>
      obtain ⟨body, en⟩ := p
      have := (next_ok hn).1
      simp only at this
      exact framesF_is b f _ _ (h.step hn) (by omega)
theorem framesOf_is (b : List UInt8) : ∃ r, Got b (framesOf b).1 (framesOf b).2 ∧ next b (framesOf b).2 = .error r := by
  obtain ⟨bs, at_, r, h1, h2⟩ := framesF_is b (b.length + 1) [] 0 .start (by omega)
  rw [h1.all h2]
  exact ⟨r, h1, h2⟩

/-- what is known of a segment so far -/
def ScanSt (due : Int) (bs : List (List UInt8)) (base : Int) (recs : List (List UInt8)) : Prop := match bs with
  | [] => base = -1 ∧ recs = []
  | hd :: t => recs = t ∧ ∃ n : Nat, readNum hd = .ok (n, hd.length) ∧ base = (n : Int) ∧ (due < 0 ∨ (n : Int) = due)

theorem scan_bad {D : Dk} {due : Int} {hd : List UInt8} {t : List (List UInt8)} (h : (framesOf D.all).1 = hd :: t) (hb : ∀ n : Nat, readNum hd = .ok (n, hd.length) → ¬ (due < 0 ∨ (n : Int) = due)) : scan D due = none := by
  unfold scan
  rw [h]
  simp only
  split
  · rfl
  · rename_i n s e
    rw [if_neg]
    rintro ⟨h1, h2⟩
    subst h1
    exact hb n e h2
theorem scan_none {D : Dk} {due : Int} (h : (framesOf D.all).1 = []) : scan D due = none := by
  unfold scan
  rw [h]
theorem scan_some {D : Dk} {due : Int} {hd : List UInt8} {t : List (List UInt8)} {n en : Nat} (h : framesOf D.all = (hd :: t, en)) (hn : readNum hd = .ok (n, hd.length)) (hd2 : due < 0 ∨ (n : Int) = due) : scan D due = some (⟨(D.cut en).1, n, t, t.length⟩, decide (en = D.all.length)) := by
  unfold scan
  rw [h]
  simp only [hn]
  rw [if_pos ⟨trivial, hd2⟩]
theorem scan_ok {D : Dk} {due : Int} {g : Sg} {wh : Bool} (hD : D.ok) (hdn : D.down = false) (h : scan D due = some (g, wh)) : g.ok ∧ g.up := by
  obtain ⟨r, hg, he⟩ := framesOf_is D.all
  have hfo := hg.all he
  generalize (framesOf D.all).1 = bs at *
  generalize (framesOf D.all).2 = en at *
  have hle := hg.le
  unfold scan at h
  rw [hfo] at h
  simp only at h
  split at h
  · cases h
  · rename_i hd t
    split at h
    · cases h
    · rename_i n s e2
      split at h
      · rename_i hc
        injection h with h
        injection h with h1 h2
        subst h1
        have hb := (readN_le hd 0 0 n s e2).1
        rw [List.length_cons] at hle
        have hl := hD.2
        refine ⟨⟨hb, ?_, Nat.le_refl _, fun x hx => ?_⟩, ?_⟩
        · show t.length ≤ 349525
          omega
        · exact hle.2.2 x (List.mem_cons_of_mem _ hx)
        · unfold Dk.cut Sg.up
          rw [hdn]
          simp only [Bool.false_eq_true, if_false]
          rw [if_neg (by omega), Int.toNat_natCast]
          refine ⟨rfl, ?_⟩
          simp only [List.length_take]
          omega
      · cases h
end Go.Proofs.YtediidajdpdeiaaDoor

/- append at rows of any type of one cell; blocks that are known whole across appends. -/
namespace Go.Proofs.YtediidajdpdeiaaDoor
open Go.RowKit

/-- what an append onto a row of one's own leaves, elements of one cell -/
theorem wpList_app1 {P : Program} {w : World} {ops : Array Oper} {rest : List Oper} {o : Oper} {a : Act} {Q : Exit → Act → World → Prop} (hgd : o.guard = none) (s x : Operand) (t : TypeId)
    (ho : o.op = .call { callee := .builtin .append, args := #[s, x], argTypes := #[t, t] })
    (e : TypeId) (i : TypeInfo) (z : Value) (bytes : Nat) (ht : P.underlying t = some (.slice e)) (hi : P.info? e = some i) (hz : i.zero = some z) (hsize : i.size = 1) (hby : i.bytes = bytes) (hzs : z.cells.size = 1)
    (base : Nat) (v : Value) (n : Nat) (xs : List Value) (hs : a.eval s = v) (hown : w.ownsRow base e 1 v n xs)
    (A : Option Addr) (m c : Nat) (news : List Value) (hx : a.eval x = .slice A m c) (hl : news.length = m) (hr : ∀ j u, news[j]? = some u → ∃ ad, A = some ad ∧ w.cell? (ad.add j) = some u) (h1 : ∀ u ∈ news, u.oneCell' = true)
    (h63 : n + m ≤ maxLen) (hbytes : (n + m) * bytes ≤ 140737488355328) (hbase : base ≤ w.heap.size)
    (h : ∀ v' w', w'.ownsRow base e 1 v' (n + m) (xs ++ news) → w.grownBy w' v.ownBlock → (v'.ownBlock = v.ownBlock ∨ v'.ownBlock = some w.heap.size) → wpList P ops Q rest (a.put o.dst v') w') :
    wpList P ops Q (o :: rest) a w := by
  obtain ⟨v', w', hrun, h2, h3, h5⟩ := run_append_rd (P := P) (w := w) base t o.type e i z 1 bytes ht hi hz hsize hby hzs (by omega) v n xs hown A m c news (by omega) hr h1 h63 hbytes hbase
  exact wpList_ran hgd (run_builtin2 .append s x t t Builtin.append_ ho hs hx (fun _ _ => rfl) hrun) (h v' w' h2 h3 h5)

section
variable {w w' : World} {b : Nat} {t : TypeId} {cs : Array Value}
theorem Blk.below (h : Blk w b t cs) (hb : Below w.heap.size w w') : Blk w' b t cs := h.eq (hb.block b h.lt)
theorem Blk.grown (h : Blk w b t cs) {row : Option Nat} (hg : w.grownBy w' row) (hn : row ≠ some b) : Blk w' b t cs := h.eq (hg.block b h.lt (fun e => hn e.symm))
/-- rows of two types are two rows -/
theorem ownsRow_apart {base base' n n' sz sz' : Nat} {e e' : TypeId} {v v' : Value} {xs xs' : List Value} (h : w.ownsRow base e sz v n xs) (h' : w.ownsRow base' e' sz' v' n' xs') (hne : e ≠ e') : v.ownBlock = none ∨ v.ownBlock ≠ v'.ownBlock := by
  rcases h.2 with ⟨rfl, _⟩ | ⟨g, cap, cur, rfl, _, hg, _⟩
  · exact .inl rfl
  · right
    rcases h'.2 with ⟨rfl, _⟩ | ⟨g', cap', cur', rfl, _, hg', _⟩
    · simp [Value.ownBlock]
    · intro e1
      simp only [Value.ownBlock, Option.some.injEq] at e1
      subst e1
      rw [hg] at hg'
      injection hg' with hg'
      injection hg' with _ h2
      exact hne h2
/-- a row lies as it lay behind what leaves old blocks alone -/
theorem ownsRow_below {base n sz : Nat} {e : TypeId} {v : Value} {xs : List Value} (h : w.ownsRow base e sz v n xs) (hb : Below w.heap.size w w') : w'.ownsRow base e sz v n xs := by
  refine ⟨h.1, h.2.imp_right ?_⟩
  rintro ⟨g, cap, cur, h1, h2, h3, h4⟩
  exact ⟨g, cap, cur, h1, h2, (hb.block g (Array.getElem?_eq_some_iff.1 h3).1).trans h3, h4⟩
theorem row_ne {base n sz b : Nat} {e : TypeId} {v : Value} {xs : List Value} (h : w.ownsRow base e sz v n xs) (hb : b < base) : v.ownBlock ≠ some b := fun e => by have := (h.lt b e).1; omega
end
section
variable {w w' : World} {S : Nat → Prop} {A : Option Addr} {l : List UInt8}
theorem Own.same (h : Own S w A l) (hk : ∀ b, IsB w b → w'.heap[b]? = w.heap[b]?) : Own S w' A l := fun j x hx => by
  obtain ⟨ad, e, hc, hb, hs⟩ := h j x hx
  have he := hk _ hb
  exact ⟨ad, e, (cell_eq (by rw [add_block]; exact he)).trans hc, hb.eq he, hs⟩
theorem Own.alloc (h : Own S w A l) (o : Obj) : Own S (w.alloc o) A l := h.same fun _ hb => Below.heap_alloc _ _ _ hb.lt
theorem Own.grownI (h : Own S w A l) {row : Option Nat} (hg : w.grownBy w' row) (hr : ∀ j, row = some j → ¬ IsB w j) : Own S w' A l := h.same fun b hb => hg.block b hb.lt fun e => hr b e.symm hb
theorem Own.setCellI (h : Own S w A l) {p : Addr} (hp : ¬ IsB w p.block) (u : Value) : Own S (w.setCell p u) A l := h.same fun b hb => Below.heap_setCell _ _ _ _ (by rintro rfl; exact hp hb)
theorem row_notB {base n sz : Nat} {e : TypeId} {v : Value} {xs : List Value} (h : w.ownsRow base e sz v n xs) (he : e ≠ TB) : ∀ j, v.ownBlock = some j → ¬ IsB w j := by
  intro j hj
  rcases h.2 with ⟨rfl, _⟩ | ⟨g, cap, cur, rfl, _, hg, _⟩
  · simp [Value.ownBlock] at hj
  · simp only [Value.ownBlock, Option.some.injEq] at hj
    subst hj
    exact Blk.notB (t := e) (cs := cur) hg he
end
theorem one_cell (u : Value) (h : u.oneCell' = true) : ∀ x ∈ ([u] : List Value), x.oneCell' = true := by
  intro x hx
  rw [List.mem_singleton] at hx
  rw [hx]; exact h
theorem one_new (w : World) (u : Value) (t : TypeId) : ∀ j x, ([u] : List Value)[j]? = some x → ∃ ad, (some ⟨w.heap.size, 0, none⟩ : Option Addr) = some ad ∧ (w.alloc (.cells #[u] t)).cell? (ad.add j) = some x := by
  intro j x hx
  match j, hx with
  | 0, hx => injection hx with hx; subst hx; exact ⟨_, rfl, (Blk.new w t #[u]).cell 0 rfl⟩
  | j + 1, hx => simp at hx
end Go.Proofs.YtediidajdpdeiaaDoor
