/- What the laws of a store come to (layer 8), in plain words. -/
import Derived.Test.YtediidajdpdeiaaDoorJ19
import Derived.Test.YtediidajdpdeiaaDoorJ16
import Derived.Test.YtediidajdpdeiaaDoorJ21
import Derived.Test.YtediidajdpdeiaaDoorJ18

namespace Go.Proofs.YtediidajdpdeiaaDoor
open CrcM

/-! no slot lies below the base, at any record -/
def St.based (s : St) : Prop := ∀ p ∈ s.slots, s.base ≤ p.1
def Based (st0 : St) (rcs : List Rc) : Prop := ∀ j, ((rcs.take j).foldl Rc.play st0).based
section
variable {st : St} {rcs : List Rc}
theorem Based.nil (h : st.based) : Based st [] := fun j => by rw [List.take_nil]; exact h
theorem Based.take (h : Based st rcs) (i : Nat) : Based st (rcs.take i) := fun j => by rw [List.take_take]; exact h _
theorem Based.all (h : Based st rcs) : (rcs.foldl Rc.play st).based := by
  have := h rcs.length
  rwa [List.take_length] at this
theorem Based.put (h : Based st rcs) {rc : Rc} (hp : (Rc.play (rcs.foldl Rc.play st) rc).based) : Based st (rcs ++ [rc]) := fun j => by
  by_cases hj : j ≤ rcs.length
  · rw [List.take_append_of_le_length hj]
    exact h j
  · rw [List.take_of_length_le (by rw [List.length_append, List.length_singleton]; omega), List.foldl_append]
    exact hp
theorem St.based_new : St.new.based := fun p hp => by cases hp
theorem St.based.acc (h : st.based) {k : Nat} (hk : st.base ≤ k) (b : Nat) (v : List UInt8) : (Rc.play st (.acc k b v)).based := by
  intro p hp
  show st.base ≤ p.1
  rcases mem_putN.1 hp with rfl | ⟨hp, _⟩
  · exact hk
  · exact h p hp
theorem St.based_forget (s : St) (n : Nat) : (Rc.play s (.forget n)).based := by
  intro p hp
  exact of_decide_eq_true (List.mem_filter.1 hp).2
end

/-- a store as the laws' calls leave it -/
structure So.Fine (m n : Nat) (s : So) (st0 : St) (rcs : List Rc) : Prop where
  inv : s.inv m n st0 rcs
  based : Based st0 rcs
  few : s.st.slots.length ≤ n
def So.Sound (m n : Nat) (s : So) : Prop := ∃ st0 rcs, s.Fine m n st0 rcs
section
variable {m n : Nat} {s : So} {st0 : St} {rcs : List Rc}
theorem So.inv.fine (h : s.inv m n st0 rcs) (hB : Based st0 rcs) (hd : s.log.down = false) : s.Fine m n st0 rcs := ⟨h, hB, (h.st hd).2⟩
theorem So.Fine.sound (h : s.Fine m n st0 rcs) : s.Sound m n := ⟨_, _, h⟩
theorem So.Fine.mono (h : s.Fine m n st0 rcs) {m' n' : Nat} (hm : m ≤ m') (hn : n ≤ n') (hs : n' ≤ 150) : s.Fine m' n' st0 rcs := ⟨h.inv.mono hm hn hs, h.based, Nat.le_trans h.few hn⟩
theorem So.Fine.put (h : s.Fine m n st0 rcs) (hd : s.log.down = false) {rc : Rc} {s' : So} (hp : Put m n s st0 rcs rc s') (hb : (Rc.play s.st rc).based) : s'.Fine m (n + 1) st0 (rcs ++ [rc]) :=
  hp.inv.fine (h.based.put (by rw [← h.inv.up hd]; exact hb)) hp.down
theorem So.Fine.now (h : s.Fine m n st0 rcs) (hd : s.log.down = false) : s.st.based := by
  rw [h.inv.up hd]
  exact h.based.all
theorem So.Fine.calls (h : s.Fine m n st0 rcs) (hn : n < 150) :
    (∀ b, ((s.promise b).1).Sound m (n + 1)) ∧ (∀ (slot b : Int) (v : List UInt8), v.length ≤ 300 → slot < m → (s.accept slot b v).1.Sound m (n + 1)) ∧ s.sync.1.Sound m (n + 1) ∧ s.snapshot.1.Sound m (n + 1) ∧ (∀ keep flip, (s.crash keep flip).1.Sound m (n + 1)) ∧ ∀ k, numOk k → (s.forget k).1.Sound m (n + 1) := by
  have hs : s.Sound m (n + 1) := ⟨st0, rcs, h.mono (Nat.le_refl _) (by omega) (by omega)⟩
  cases hd : s.log.down with
  | true =>
    refine ⟨fun b => ?_, fun slot b v _ _ => ?_, ?_, ?_, fun keep flip => ?_, fun k _ => ?_⟩
    · unfold So.promise; rw [hd, if_pos rfl]; exact hs
    · unfold So.accept; rw [hd, if_pos rfl]; exact hs
    · have e : s.log.sync = (s.log, 10) := by unfold Lg.sync; rw [hd]; rfl
      unfold So.sync; rw [e]; exact hs
    · unfold So.snapshot; rw [hd, if_pos rfl]; exact hs
    · have e : s.log.crash keep flip = (s.log, 10) := by unfold Lg.crash; rw [hd]; rfl
      unfold So.crash; rw [e]; exact hs
    · unfold So.forget; rw [hd, if_pos rfl]; exact hs
  | false =>
    have hnow := h.now hd
    refine ⟨fun b => ?_, fun slot b v hv hm => ?_, ?_, ?_, fun keep flip => ?_, fun k hk => ?_⟩
    · rcases h.inv.promise hd hn b with ⟨e, _⟩ | ⟨k, _, _, _, s', e, hp⟩
      · rw [e]; exact hs
      · rw [e]; exact (h.put hd hp hnow).sound
    · rcases h.inv.accept hd hn slot b v hv hm with ⟨e, _⟩ | ⟨k, j, _, _, _, _, hb, s', e, hp⟩
      · rw [e]; exact hs
      · rw [e]; exact (h.put hd hp (hnow.acc hb _ _)).sound
    · obtain ⟨s', e, hi, hd', _⟩ := h.inv.sync hd
      rw [e]; exact ((hi.fine h.based hd').mono (Nat.le_refl _) (by omega) (by omega)).sound
    · obtain ⟨s', e, hi, hl, _⟩ := h.inv.snapshot hd
      rw [e]; exact ((hi.fine (Based.nil hnow) (by rw [hl]; rfl)).mono (Nat.le_refl _) (by omega) (by omega)).sound
    · by_cases hk : 0 ≤ keep
      · obtain ⟨s', e, hi, _⟩ := h.inv.crash hd keep flip hk
        have e2 : (s.crash keep flip).1.st = s.st := by unfold So.crash; split <;> rfl
        rw [e] at e2 ⊢
        exact ⟨st0, rcs, hi.mono (Nat.le_refl _) (by omega) (by omega), h.based, by rw [e2]; have := h.few; omega⟩
      · have e : s.log.crash keep flip = (s.log, 2) := by unfold Lg.crash; rw [hd, if_neg (by simp), if_pos (by omega)]
        unfold So.crash; rw [e]; exact hs
    · rcases h.inv.forget hd hn k hk with ⟨e, _⟩ | ⟨j, _, _, s', e, hp⟩
      · rw [e]; exact hs
      · rw [e]; exact (h.put hd hp (St.based_forget _ _)).sound
theorem So.Fine.rose (h : s.Fine m n st0 rcs) {j : Nat} {s' : So} (hr : Rose m n s st0 rcs j s') : s'.Fine m n st0 (rcs.take j) := hr.inv.fine (h.based.take j) hr.down
/-- behind a restart all is back, if all was kept -/
theorem So.inv.back (h : s.inv m n st0 rcs) (hd : s.log.down = false) {m' n' : Nat} {s2 s3 : So} (hy : s2.sy = rcs.length) {j : Nat} (hr : Rose m' n' s2 st0 rcs j s3) : s3.st = s.st := by
  have h1 := hr.sy
  have h2 := hr.le
  rw [hr.inv.up hr.down, h.up hd, List.take_of_length_le (by omega)]

/-! what has the promise rise -/
def Over (was now : Slots) : Prop := ∀ p ∈ was, ∃ y, (p.1, y) ∈ now ∧ p.2.ballot ≤ y.ballot
theorem Over.refl (l : Slots) : Over l l := fun p hp => ⟨p.2, hp, Nat.le_refl _⟩
theorem Over.trans {a b c : Slots} (h : Over a b) (k : Over b c) : Over a c := fun p hp => by
  obtain ⟨y, h1, h2⟩ := h p hp
  obtain ⟨z, h3, h4⟩ := k _ h1
  exact ⟨z, h3, Nat.le_trans h2 h4⟩
structure Up8 (m n : Nat) (s s' : So) : Prop where
  sound : s'.Sound m (n + 1)
  up : s'.log.down = false
  pr : s.st.promised ≤ s'.st.promised
  over : Over s.st.slots s'.st.slots
theorem So.Fine.same (h : s.Fine m n st0 rcs) (hd : s.log.down = false) (hn : n < 150) : Up8 m n s s := ⟨⟨st0, rcs, h.mono (Nat.le_refl _) (by omega) (by omega)⟩, hd, Nat.le_refl _, Over.refl _⟩
theorem So.Fine.promise8 (h : s.Fine m n st0 rcs) (hd : s.log.down = false) (hn : n < 150) (b : Int) :
    Up8 m n s (s.promise b).1 ∧ ((s.promise b).2 = 0 ↔ ((s.st.promised : Int) ≤ b ∧ b ≤ 1099511627776)) := by
  have hok := (h.inv.st hd).1.ok.pr
  rcases h.inv.promise hd hn b with ⟨e, hc⟩ | ⟨k, rfl, hk, hk2, s', e, hp⟩
  · refine ⟨by rw [e]; exact h.same hd hn, ?_⟩
    rcases hc with ⟨e1, e2⟩ | ⟨e1, e2, e3⟩ | ⟨e1, e2⟩
    · rw [e1]
      exact ⟨fun _ => by omega, fun _ => rfl⟩
    · rw [e1]
      exact ⟨fun q => absurd q (by decide), fun q => by omega⟩
    · rw [e1]
      refine ⟨fun q => absurd q (by decide), fun q => absurd ⟨?_, q.2⟩ e2⟩
      have := q.1
      omega
  · rw [e]
    refine ⟨⟨(h.put hd hp (h.now hd)).sound, hp.down, ?_, ?_⟩, fun _ => by omega, fun _ => rfl⟩
    · rw [hp.st]
      exact Nat.le_max_left _ _
    · rw [hp.st]
      exact Over.refl _
theorem So.Fine.accept8 (h : s.Fine m n st0 rcs) (hd : s.log.down = false) (hn : n < 150) (slot b : Int) (v : List UInt8) (hv : v.length ≤ 300) (hm : slot < m) : Up8 m n s (s.accept slot b v).1 := by
  rcases h.inv.accept hd hn slot b v hv hm with ⟨e, _⟩ | ⟨k, j, _, _, hj, _, hb, s', e, hp⟩
  · rw [e]
    exact h.same hd hn
  · rw [e]
    refine ⟨(h.put hd hp ((h.now hd).acc hb _ _)).sound, hp.down, ?_, ?_⟩
    · rw [hp.st]
      exact Nat.le_max_left _ _
    · rw [hp.st]
      intro p hp'
      have hlim := (h.inv.st hd).1.slots p hp'
      by_cases hk : p.1 = k
      · exact ⟨⟨j, v⟩, mem_putN.2 (.inl (by rw [hk])), by have := hlim.2.2; show p.2.ballot ≤ j; omega⟩
      · exact ⟨p.2, mem_putN.2 (.inr ⟨hp', hk⟩), Nat.le_refl _⟩
theorem So.Fine.snapshot8 (h : s.Fine m n st0 rcs) (hd : s.log.down = false) (hn : n < 150) : Up8 m n s s.snapshot.1 := by
  obtain ⟨s', e, hi, hl, hst⟩ := h.inv.snapshot hd
  have hd' : s'.log.down = false := by rw [hl]; rfl
  rw [e]
  refine ⟨((hi.fine (Based.nil (h.now hd)) hd').mono (Nat.le_refl _) (by omega) (by omega)).sound, hd', ?_, ?_⟩
  · rw [hst]; exact Nat.le_refl _
  · rw [hst]; exact Over.refl _

/-! what a crash may leave of records that were not kept -/
structure Tor (st : St) (low hi : Nat) (t : St) : Prop where
  lo : low ≤ t.promised
  hi : t.promised ≤ hi
  base : t.base = st.base
  slots : ∀ p ∈ st.slots, ∃ y, (p.1, y) ∈ t.slots ∧ p.2.ballot ≤ y.ballot ∧ (p.1 ≠ 1 → y = p.2)
  b : ∀ y, (50, y) ∈ t.slots → y.value = [98]
def Xtra (low hi : Nat) : Rc → Prop
  | .acc k b v => (k = 1 ∧ b = low) ∨ (k = 50 ∧ b = low ∧ v = [98])
  | .prom b => b ≤ hi
  | .forget _ => False
theorem Tor.play {st t : St} {low hi : Nat} (h : Tor st low hi t) (hlh : low ≤ hi) (hl : ∀ p ∈ st.slots, p.1 ≠ 50 ∧ p.2.ballot ≤ low) {r : Rc} (hr : Xtra low hi r) : Tor st low hi (Rc.play t r) := by
  cases r with
  | forget n => exact hr.elim
  | prom b =>
    have hb : b ≤ hi := hr
    have := h.lo
    have := h.hi
    exact ⟨show low ≤ max t.promised b by omega, show max t.promised b ≤ hi by omega, h.base, h.slots, h.b⟩
  | acc k b v =>
    have h1 := h.lo
    have h2 := h.hi
    rcases hr with ⟨rfl, rfl⟩ | ⟨rfl, rfl, rfl⟩
    · refine ⟨show b ≤ max t.promised b by omega, show max t.promised b ≤ hi by omega, h.base, fun p hp => ?_, fun y hy => ?_⟩
      · obtain ⟨y, q1, q2, q3⟩ := h.slots p hp
        by_cases hk : p.1 = 1
        · exact ⟨⟨b, v⟩, mem_putN.2 (.inl (by rw [hk])), (hl p hp).2, fun q => (q hk).elim⟩
        · exact ⟨y, mem_putN.2 (.inr ⟨q1, hk⟩), q2, q3⟩
      · rcases mem_putN.1 hy with e | ⟨hy, _⟩
        · cases e
        · exact h.b y hy
    · refine ⟨show b ≤ max t.promised b by omega, show max t.promised b ≤ hi by omega, h.base, fun p hp => ?_, fun y hy => ?_⟩
      · obtain ⟨y, q1, q2, q3⟩ := h.slots p hp
        exact ⟨y, mem_putN.2 (.inr ⟨q1, (hl p hp).1⟩), q2, q3⟩
      · rcases mem_putN.1 hy with e | ⟨_, hy⟩
        · injection e with _ e
          rw [e]
        · exact (hy rfl).elim
theorem Tor.plays {st : St} {low hi : Nat} (hlh : low ≤ hi) (hl : ∀ p ∈ st.slots, p.1 ≠ 50 ∧ p.2.ballot ≤ low) : ∀ (rs : List Rc) {t : St}, Tor st low hi t → (∀ r ∈ rs, Xtra low hi r) → Tor st low hi (rs.foldl Rc.play t)
  | [], _, h, _ => h
  | r :: rs, _, h, hr => Tor.plays hlh hl rs (h.play hlh hl (hr r (List.mem_cons_self ..))) (fun x hx => hr x (List.mem_cons_of_mem _ hx))
/-- a store behind what is kept and some records more -/
structure Torn (m n : Nat) (st0 : St) (rcs : List Rc) (st : St) (low : Nat) (hi : Nat → Prop) (s : So) (extra : List Rc) : Prop where
  inv : s.inv m n st0 (rcs ++ extra)
  up : s.log.down = false
  sy : s.sy = rcs.length
  x : ∀ r ∈ extra, ∀ h, hi h → Xtra low h r
theorem Torn.put {st : St} {low : Nat} {hi : Nat → Prop} {extra : List Rc} (h : Torn m n st0 rcs st low hi s extra) {rc : Rc} {s' : So} (hp : Put m n s st0 (rcs ++ extra) rc s') {hi' : Nat → Prop} (hh : ∀ h, hi' h → hi h) (hx : ∀ h, hi' h → Xtra low h rc) : Torn m (n + 1) st0 rcs st low hi' s' (extra ++ [rc]) :=
  ⟨by rw [← List.append_assoc]; exact hp.inv, hp.down, hp.sy.trans h.sy, fun r hr => by
    rcases List.mem_append.1 hr with hr | hr
    · exact fun z hz => h.x r hr z (hh z hz)
    · obtain rfl := List.mem_singleton.1 hr
      exact hx⟩
theorem Torn.mono {st : St} {low : Nat} {hi : Nat → Prop} {extra : List Rc} (h : Torn m n st0 rcs st low hi s extra) {n' : Nat} (hn : n ≤ n') (hs : n' ≤ 150) : Torn m n' st0 rcs st low hi s extra := ⟨h.inv.mono (Nat.le_refl _) hn hs, h.up, h.sy, h.x⟩
/-- what the law of Torn does to a store -/
theorem So.Fine.torn (h : s.Fine 40 50 st0 rcs) (hd : s.log.down = false) :
    ∃ s1 s2 s3 s4 c2 c3 c4 extra, s.sync = (s1, 0) ∧ s1.inv 51 53 st0 rcs ∧ s1.log.down = false ∧ s1.st = s.st ∧ s1.promise s.st.promised = (s1, 0) ∧
      s1.accept 1 s.st.promised [97] = (s2, c2) ∧ s2.inv 51 53 st0 (rcs ++ c3) ∧ s2.log.down = false ∧ s2.st.slots.length < 1048575 ∧ s2.accept 50 s.st.promised [98] = (s3, c4) ∧ s3.log.down = false ∧
      (∃ x, s3.inv 51 53 st0 (rcs ++ x)) ∧ (∃ c, s3.promise (min (s.st.promised : Int) 1099511627775 + 1) = (s4, c)) ∧ s4.inv 51 53 st0 (rcs ++ extra) ∧ s4.log.down = false ∧ s4.sy = rcs.length ∧ s.st.promised ≤ s4.st.promised ∧
      ∀ i, Tor s.st s.st.promised s4.st.promised ((extra.take i).foldl Rc.play s.st) := by
  obtain ⟨s1, e1, i1, d1, y1, t1, _⟩ := h.inv.sync hd
  have hlim := (h.inv.st hd).1
  have hpr := hlim.ok.pr
  have h51 := i1.mono (m' := 51) (n' := 50) (by omega) (Nat.le_refl _) (by omega)
  have T1 : Torn 51 50 st0 rcs s.st s.st.promised (fun _ => True) s1 [] := ⟨by rw [List.append_nil]; exact h51, d1, y1, fun r hr => (by cases hr)⟩
  have p1 : s1.promise s.st.promised = (s1, 0) := by
    rcases h51.promise d1 (by omega) s.st.promised with ⟨e, hc⟩ | ⟨k, hk, hk2, _⟩
    · rcases hc with ⟨q, _⟩ | ⟨_, _, q⟩ | ⟨_, q⟩
      · rw [q] at e; exact e
      · rw [t1] at q; omega
      · exact (q ⟨by omega, by omega⟩).elim
    · rw [t1] at hk2; omega
  obtain ⟨s2, c2, x2, e2, T2⟩ : ∃ s2 c2 x2, s1.accept 1 s.st.promised [97] = (s2, c2) ∧ Torn 51 51 st0 rcs s.st s.st.promised (fun _ => True) s2 x2 := by
    rcases T1.inv.accept T1.up (by omega) 1 s.st.promised [97] (by decide) (by decide) with ⟨e, _⟩ | ⟨k, j, hk, hj, _, _, _, s', e, hp⟩
    · exact ⟨_, _, _, e, T1.mono (by omega) (by omega)⟩
    · exact ⟨_, _, _, e, T1.put hp (fun _ q => q) (fun _ _ => .inl ⟨by omega, by omega⟩)⟩
  obtain ⟨s3, c3, x3, e3, T3⟩ : ∃ s3 c3 x3, s2.accept 50 s.st.promised [98] = (s3, c3) ∧ Torn 51 52 st0 rcs s.st s.st.promised (fun _ => True) s3 x3 := by
    rcases T2.inv.accept T2.up (by omega) 50 s.st.promised [98] (by decide) (by decide) with ⟨e, _⟩ | ⟨k, j, hk, hj, _, _, _, s', e, hp⟩
    · exact ⟨_, _, _, e, T2.mono (by omega) (by omega)⟩
    · exact ⟨_, _, _, e, T2.put hp (fun _ q => q) (fun _ _ => .inr ⟨by omega, by omega, rfl⟩)⟩
  obtain ⟨s4, c4, x4, e4, T4⟩ : ∃ s4 c4 x4, s3.promise (min (s.st.promised : Int) 1099511627775 + 1) = (s4, c4) ∧ Torn 51 53 st0 rcs s.st s.st.promised (fun z => s4.st.promised ≤ z) s4 x4 := by
    rcases T3.inv.promise T3.up (by omega) (min (s.st.promised : Int) 1099511627775 + 1) with ⟨e, _⟩ | ⟨k, hk, _, _, s', e, hp⟩
    · exact ⟨_, _, _, e, (T3.mono (by omega) (by omega)).inv, T3.up, T3.sy, fun r hr z _ => T3.x r hr z trivial⟩
    · refine ⟨_, _, _, e, T3.put hp (fun _ _ => trivial) (fun z hz => ?_)⟩
      rw [hp.st] at hz
      have : max s3.st.promised k ≤ z := hz
      show k ≤ z
      omega
  have hst : (rcs ++ x4).foldl Rc.play st0 = x4.foldl Rc.play s.st := by rw [List.foldl_append, ← h.inv.up hd]
  have hfin : s4.st = x4.foldl Rc.play s.st := (T4.inv.up T4.up).trans hst
  have hmono : ∀ (l : List Rc) (t : St), t.promised ≤ (l.foldl Rc.play t).promised := by
    intro l
    induction l with
    | nil => exact fun t => Nat.le_refl _
    | cons r l ih =>
      intro t
      refine Nat.le_trans ?_ (ih _)
      cases r with
      | prom b => exact Nat.le_max_left _ _
      | acc k b v => exact Nat.le_max_left _ _
      | forget n => exact Nat.le_refl _
  have hle : s.st.promised ≤ s4.st.promised := by rw [hfin]; exact hmono _ _
  have hl2 := (T2.inv.st T2.up).2
  refine ⟨s1, s2, s3, s4, c2, x2, c3, x4, e1, h51.mono (Nat.le_refl _) (by omega) (by omega), d1, t1, p1, e2, T2.inv.mono (Nat.le_refl _) (by omega) (by omega), T2.up, by omega, e3, T3.up, ⟨x3, T3.inv.mono (Nat.le_refl _) (by omega) (by omega)⟩, ⟨c4, e4⟩, T4.inv, T4.up, T4.sy, hle, fun i => ?_⟩
  refine Tor.plays hle (fun p hp => ?_) _ ⟨Nat.le_refl _, hle, rfl, fun p hp => ⟨p.2, hp, Nat.le_refl _, fun _ => rfl⟩, fun y hy => ?_⟩ (fun r hr => T4.x r (List.mem_of_mem_take hr) _ (Nat.le_refl _))
  · have := hlim.slots p hp
    exact ⟨by omega, this.2.2⟩
  · have := (hlim.slots _ hy).1
    simp only at this
    omega
/-- and what comes back -/
theorem So.inv.torn_back {n : Nat} {extra : List Rc} {s : So} (h : s.inv 40 50 st0 rcs) (hd : s.log.down = false) {s5 s6 : So} {j : Nat} (hy : s5.sy = rcs.length) (hr : Rose 51 n s5 st0 (rcs ++ extra) j s6) : ∃ i, s6.st = (extra.take i).foldl Rc.play s.st := by
  have h1 := hr.sy
  refine ⟨j - rcs.length, ?_⟩
  rw [hr.inv.up hr.down, List.take_append, List.take_of_length_le (by omega), List.foldl_append, ← h.up hd]

/-! what is forgotten -/
theorem So.Fine.forget8 (h : s.Fine m n st0 rcs) (hd : s.log.down = false) (hn : n < 150) (k : Nat) (hk : k ≤ 1099511627776) :
    ∃ s' st1 rcs1, s.forget k = (s', 0) ∧ s'.Fine m (n + 1) st1 rcs1 ∧ s'.log.down = false ∧ s'.st.base = max s.st.base k ∧ s'.st.promised = s.st.promised ∧ s'.st.slots = s.st.slots.filter (fun p => decide (k ≤ p.1)) := by
  rcases h.inv.forget hd hn k ⟨by omega, by omega⟩ with ⟨e, hb⟩ | ⟨j, hj, hb, s', e, hp⟩
  · refine ⟨s, st0, rcs, e, h.mono (Nat.le_refl _) (by omega) (by omega), hd, by omega, rfl, ?_⟩
    symm
    rw [List.filter_eq_self]
    intro p hp
    have := h.now hd p hp
    exact decide_eq_true (by omega)
  · obtain rfl : k = j := by omega
    refine ⟨s', st0, _, e, h.put hd hp (St.based_forget _ _), hp.down, ?_, ?_, ?_⟩
    · rw [hp.st]; rfl
    · rw [hp.st]; rfl
    · rw [hp.st]
      show s.st.slots.filter (fun p => decide (max s.st.base k ≤ p.1)) = _
      rw [show max s.st.base k = k by omega]
theorem So.inv.old8 (h : s.inv m n st0 rcs) (hd : s.log.down = false) (k j : Nat) (hk : k < s.st.base) (hj : j ≤ 1099511627776) (v : List UInt8) : s.accept k j v = (s, 16) := by
  have hb := (h.st hd).1.ok.ba
  have n1 : numOk (k : Int) := ⟨by omega, by omega⟩
  have n2 : numOk (j : Int) := ⟨by omega, by omega⟩
  unfold So.accept
  rw [hd, if_neg (by simp), if_neg (by simpa using n1), if_neg (by simpa using n2), if_pos (.inr (by omega))]
end

/-! lists that were filtered -/
theorem filter_at {α : Type} (f : α → Bool) {l : List α} {i : Nat} {x : α} (hx : l[i]? = some x) (hf : f x = true) : (l.filter f)[((l.take i).filter f).length]? = some x ∧ ((l.take (i + 1)).filter f).length = ((l.take i).filter f).length + 1 := by
  have hlt := (List.getElem?_eq_some_iff.1 hx).1
  have e1 : l.take (i + 1) = l.take i ++ [x] := by rw [List.take_add_one, hx]; rfl
  have e2 : l = l.take (i + 1) ++ l.drop (i + 1) := (List.take_append_drop _ _).symm
  constructor
  · have e3 : l.filter f = (l.take i).filter f ++ (x :: (l.drop (i + 1)).filter f) := by
      conv => lhs; rw [e2, e1]
      rw [List.filter_append, List.filter_append, List.append_assoc]
      simp [hf]
    rw [e3, List.getElem?_append_right (Nat.le_refl _), Nat.sub_self]
    rfl
  · rw [e1, List.filter_append, List.length_append]
    simp [hf]
theorem filter_not {α : Type} (f : α → Bool) {l : List α} {i : Nat} {x : α} (hx : l[i]? = some x) (hf : f x = false) : ((l.take (i + 1)).filter f).length = ((l.take i).filter f).length := by
  rw [List.take_add_one, hx, List.filter_append, List.length_append]
  simp [hf]
theorem Rise.filter_none {α : Type} {l : List (Nat × α)} {k : Nat} (h : ∀ p ∈ l, k ≤ p.1) : l.filter (fun p => decide (p.1 < k)) = [] := by
  rw [List.filter_eq_nil_iff]
  intro p hp
  have := h p hp
  simp; omega
/-- what lies below k + 1 is what lies below k, and k -/
theorem Rise.filter_succ {α : Type} : ∀ {l : List (Nat × α)} (_ : Rise l) (k : Nat), l.filter (fun p => decide (p.1 < k + 1)) = l.filter (fun p => decide (p.1 < k)) ++ (match getN k l with | none => [] | some x => [(k, x)])
  | [], _, k => rfl
  | y :: r, h, k => by
    obtain ⟨h1, h2⟩ := List.pairwise_cons.1 h
    have ih := Rise.filter_succ h2 k
    rcases Nat.lt_trichotomy y.1 k with hk | hk | hk
    · have e : getN k (y :: r) = getN k r := by
        unfold getN
        rw [List.find?_cons_of_neg (by simp; omega)]
      rw [e, List.filter_cons_of_pos (by simp; omega), List.filter_cons_of_pos (by simp; omega), ih]
      rfl
    · have e : getN k (y :: r) = some y.2 := by
        unfold getN
        rw [List.find?_cons_of_pos (by simp; omega)]
        rfl
      rw [e, List.filter_cons_of_pos (by simp; omega), List.filter_cons_of_neg (by simp; omega), Rise.filter_none (fun p hp => by have := h1 p hp; omega), Rise.filter_none (fun p hp => by have := h1 p hp; omega)]
      subst hk
      rfl
    · have e : getN k (y :: r) = none := by
        unfold getN
        rw [List.find?_eq_none.2]
        · rfl
        · intro p hp
          rcases List.mem_cons.1 hp with rfl | hp
          · simp; omega
          · have := h1 p hp
            simp; omega
      rw [e, Rise.filter_none (fun p hp => ?_), Rise.filter_none (fun p hp => ?_)]
      · rfl
      · rcases List.mem_cons.1 hp with rfl | hp
        · omega
        · have := h1 p hp
          omega
      · rcases List.mem_cons.1 hp with rfl | hp
        · omega
        · have := h1 p hp
          omega
theorem top_facts (M : Slots) : (∀ p ∈ M, p.1 < So.top M) ∧ ∀ m, (∀ p ∈ M, p.1 < m) → So.top M ≤ m := by
  have key : ∀ (l : Slots) (a : Nat), a ≤ l.foldl (fun n p => max n (p.1 + 1)) a ∧ (∀ p ∈ l, p.1 < l.foldl (fun n p => max n (p.1 + 1)) a) ∧ ∀ m, a ≤ m → (∀ p ∈ l, p.1 < m) → l.foldl (fun n p => max n (p.1 + 1)) a ≤ m := by
    intro l
    induction l with
    | nil => exact fun a => ⟨Nat.le_refl _, fun p hp => (by cases hp), fun m h _ => h⟩
    | cons y r ih =>
      intro a
      obtain ⟨i1, i2, i3⟩ := ih (max a (y.1 + 1))
      simp only [List.foldl_cons]
      refine ⟨by omega, fun p hp => ?_, fun m hm hp => i3 m ?_ (fun p q => hp p (List.mem_cons_of_mem _ q))⟩
      · rcases List.mem_cons.1 hp with rfl | hp
        · omega
        · exact i2 p hp
      · have := hp y (List.mem_cons_self ..)
        omega
  obtain ⟨_, h2, h3⟩ := key M 0
  exact ⟨h2, fun m hm => h3 m (Nat.zero_le _) hm⟩
end Go.Proofs.YtediidajdpdeiaaDoor

/- The calls that the laws of the store play (layer 8): the walk. -/
namespace Go.Proofs.YtediidajdpdeiaaDoor
open Go.RowKit CrcM
set_option maxRecDepth 100000

/-- a call -/
structure Act08 where
  kind : Int
  n : Int
  slot : Int
  flip : Int
  b : List UInt8

/-- calls that lie in memory, as the law was handed them -/
def ActsAt8 (W : World) (A : Option Addr) (acts : List Act08) : Prop := ∀ j a, acts[j]? = some a → ∃ g o B c, A = some ⟨g, o, none⟩ ∧ g < W.heap.size ∧
  W.cell? ⟨g, o + j * 5, none⟩ = some (.int .i64 a.kind) ∧ W.cell? ⟨g, o + j * 5 + 1, none⟩ = some (.int .i64 a.n) ∧ W.cell? ⟨g, o + j * 5 + 2, none⟩ = some (.int .i64 a.slot) ∧ W.cell? ⟨g, o + j * 5 + 3, none⟩ = some (.int .i64 a.flip) ∧
  W.cell? ⟨g, o + j * 5 + 4, none⟩ = some (.slice B a.b.length c) ∧ a.b.length ≤ c ∧ c ≤ maxLen ∧ RdB W B a.b ∧ i64 a.kind ∧ i64 a.n ∧ i64 a.slot ∧ i64 a.flip

theorem RdB.below8 {W W' : World} {A : Option Addr} {l : List UInt8} (h : RdB W A l) (hb : Below W.heap.size W W') : RdB W' A l := fun j x hx => by
  obtain ⟨ad, e, hlt, hc⟩ := h j x hx
  exact ⟨ad, e, Nat.lt_of_lt_of_le hlt hb.size, (hb.cell (p := ad.add j) (by rw [add_block]; exact hlt)).trans hc⟩
theorem ActsAt8.below {W W' : World} {A : Option Addr} {acts : List Act08} (h : ActsAt8 W A acts) (hb : Below W.heap.size W W') : ActsAt8 W' A acts := fun j a ha => by
  obtain ⟨g, o, B, c, e, hg, e0, e1, e2, e3, e4, h1, h2, h3, h4⟩ := h j a ha
  exact ⟨g, o, B, c, e, Nat.lt_of_lt_of_le hg hb.size, (hb.cell (p := ⟨g, o + j * 5, none⟩) hg).trans e0, (hb.cell (p := ⟨g, o + j * 5 + 1, none⟩) hg).trans e1, (hb.cell (p := ⟨g, o + j * 5 + 2, none⟩) hg).trans e2, (hb.cell (p := ⟨g, o + j * 5 + 3, none⟩) hg).trans e3, (hb.cell (p := ⟨g, o + j * 5 + 4, none⟩) hg).trans e4, h1, h2, h3.below8 hb, h4⟩

/-- WHAT plays leaves: a store that is up and has the law -/
def Played8 (W : World) (e : Ending) (w' : World) : Prop := ∃ b s st0 rcs, e = .returned (.pointer (some ⟨b, 0, none⟩)) ∧ LiveS W w' b s Non ∧ s.Fine 40 50 st0 rcs ∧ s.log.down = false

set_option maxHeartbeats 1000000 in
theorem plays_08 (W : World) (hh : HalfAt W) (per : Int) (A : Option Addr) (acts : List Act08) (c : Nat) (hA : ActsAt8 W A acts) (hlen : acts.length ≤ maxLen) :
    Calls Tryd.prog 58 #[.int .i64 per, .slice A acts.length c] W (Played8 W) := by
  unfold maxLen at hlen
  obtain ⟨kp, hp1, hp2, hp3⟩ := rem_up per 9 (by decide)
  have hpr := rem_any per 9 (by decide)
  have wz1 : IntKind.i64.wrap (per.tmod 9) = per.tmod 9 := by rw [IntKind.wrap_i64]; omega
  have wz2 : IntKind.i64.wrap (per.tmod 9 + 9) = per.tmod 9 + 9 := by rw [IntKind.wrap_i64]; omega
  have wz3 : IntKind.i64.wrap (kp : Int) = (kp : Int) := by rw [IntKind.wrap_i64]; omega
  have wz4 : IntKind.i64.wrap (1 + (kp : Int)) = 1 + (kp : Int) := by rw [IntKind.wrap_i64]; omega
  go_enter Tryd.func58, Tryd.ntmps58
  go_wp2_with (go_at_call 72; refine (new_S (Below.refl _ _) (1 + (kp : Int)) (by omega) (by omega)).mono ?_; rintro e w1 ⟨b, rfl, h1, -⟩)
  have hinv0 : (So.new (1 + (kp : Int)).toNat).Fine 40 0 St.new [] := ⟨So.inv_new (by omega) (by omega) 40, Based.nil St.based_new, Nat.le_refl _⟩
  have h1' := h1.sub (X' := Non) (fun _ h => h.elim)
  generalize So.new (1 + (kp : Int)).toNat = s0 at *
  clear wz1 wz2 wz3 wz4 hp1 hp2 hp3 hpr h1
  go_loopw [7] (fun i wr => ∃ (k : Nat) (s : So), k ≤ acts.length ∧ k ≤ 50 ∧ i = .int .i64 k ∧ s.Sound 40 k ∧ LiveS W wr b s Non) (fun i _ => 50 - (intOf i).toNat)
  case atStart => exact ⟨0, s0, by omega, by omega, rfl, hinv0.sound, h1'⟩
  case round =>
    obtain ⟨k, s, hk, hk6, rfl, ⟨st0, rcs, hinv⟩, hL⟩ := hrel
    obtain ⟨i0, i1, i2, i3, i4, i5⟩ := hinv.calls (by omega)
    by_cases hlt : k < acts.length ∧ k < 50
    · obtain ⟨hlt, hlt6⟩ := hlt
      obtain ⟨a, ha⟩ : ∃ a, acts[k]? = some a := ⟨_, List.getElem?_eq_getElem hlt⟩
      obtain ⟨g, o, B, cb, rfl, hg, e0, e1, e2, e3, e4, hcb, hcm, hB, ik, inn, isl, ifl⟩ := hA k a ha
      have hbel := hL.below
      have f0 : wr.cell? ⟨g, o + k * 5, none⟩ = some (.int .i64 a.kind) := (hbel.cell (p := ⟨g, o + k * 5, none⟩) hg).trans e0
      have f1 : wr.cell? ⟨g, o + k * 5 + 1, none⟩ = some (.int .i64 a.n) := (hbel.cell (p := ⟨g, o + k * 5 + 1, none⟩) hg).trans e1
      have f2 : wr.cell? ⟨g, o + k * 5 + 2, none⟩ = some (.int .i64 a.slot) := (hbel.cell (p := ⟨g, o + k * 5 + 2, none⟩) hg).trans e2
      have f3 : wr.cell? ⟨g, o + k * 5 + 3, none⟩ = some (.int .i64 a.flip) := (hbel.cell (p := ⟨g, o + k * 5 + 3, none⟩) hg).trans e3
      have f4 : wr.cell? ⟨g, o + k * 5 + 4, none⟩ = some (.slice B a.b.length cb) := (hbel.cell (p := ⟨g, o + k * 5 + 4, none⟩) hg).trans e4
      clear e0 e1 e2 e3 e4 ha
      obtain ⟨kd, n, sl, fl, bb⟩ := a
      simp only at f0 f1 f2 f3 f4 hcb hB ik inn isl ifl
      obtain ⟨l, hl⟩ : ∃ l, l = bb.take 300 := ⟨_, rfl⟩
      have l1 : l.length ≤ bb.length := by rw [hl, List.length_take]; omega
      have l2 : l.length ≤ 300 := by rw [hl, List.length_take]; omega
      have l3 : (l.length : Int) ≤ (cb : Int) := by omega
      have hr : RdB W B l := hl ▸ hB.take 300
      have hmin : ∀ w, (Builtin.min_ #[3, 3] 3 #[.int .i64 (bb.length : Int), .int .i64 300]).run Tryd.prog w = .ok (.int .i64 (l.length : Int)) w := by
        intro w
        rw [run_min_int2]
        have : (l.length : Int) = if (300 : Int) < (bb.length : Int) then 300 else (bb.length : Int) := by rw [hl, List.length_take]; split <;> omega
        rw [this]
      clear hl hB hcb hA
      have hL' := hL.mono' ((Below.refl wr.heap.size wr).alloc (Nat.le_refl _) (.cells #[.int .i64 kd, .int .i64 n, .int .i64 sl, .int .i64 fl, .slice B bb.length cb] 102))
      have KL := Lib.hid hlt
      have hfew := hinv.few
      unfold i64 at ik inn isl ifl
      by_cases k0 : kd = 0
      · subst k0
        go_wp2_with (go_at_call 63; refine (promise_S hL' hh hinv.inv n).mono ?_; rintro e w2 ⟨rfl, h2, -⟩)
        go_roundw
        case rel => exact ⟨k + 1, _, by omega, by omega, by go_num, i0 n, h2⟩
        case measure => simp [intOf]; omega
      have n0 : (kd == 0) = false := by simpa using k0
      by_cases k1 : kd = 1
      · subst k1
        obtain ⟨q, q1, q2, q3⟩ := rem_up sl 40 (by decide)
        have qr := rem_any sl 40 (by decide)
        have v1 : IntKind.i64.wrap (sl.tmod 40) = sl.tmod 40 := by rw [IntKind.wrap_i64]; omega
        have v2 : IntKind.i64.wrap (sl.tmod 40 + 40) = sl.tmod 40 + 40 := by rw [IntKind.wrap_i64]; omega
        have v3 : IntKind.i64.wrap (q : Int) = (q : Int) := by rw [IntKind.wrap_i64]; omega
        have i1' := i1 q n l l2 (by omega)
        go_wp2_with (go_at_call 66; refine (accept_S hL' hh hinv.inv (by omega) (q : Int) n B l cb (hr.arg hL'.below) (by omega)).mono ?_; rintro e w2 ⟨rfl, h2, -⟩)
        go_roundw
        case rel => exact ⟨k + 1, _, by omega, by omega, by go_num, i1', h2⟩
        case measure => simp [intOf]; omega
      have n1 : (kd == 1) = false := by simpa using k1
      by_cases k2 : kd = 2
      · subst k2
        go_wp2_with (go_at_call 59; refine (sync_S hL').mono ?_; rintro e w2 ⟨rfl, h2, -⟩)
        go_roundw
        case rel => exact ⟨k + 1, _, by omega, by omega, by go_num, i2, h2⟩
        case measure => simp [intOf]; omega
      have n2 : (kd == 2) = false := by simpa using k2
      by_cases k3 : kd = 3
      · subst k3
        go_wp2_with (go_at_call 67; refine (snapshot_S hL' hh).mono ?_; rintro e w2 ⟨rfl, h2, -⟩)
        go_roundw
        case rel => exact ⟨k + 1, _, by omega, by omega, by go_num, i3, h2⟩
        case measure => simp [intOf]; omega
      have n3 : (kd == 3) = false := by simpa using k3
      by_cases k4 : kd = 4
      · subst k4
        go_wp2_with (go_at_call 62; refine (crash_S hL' n fl inn ifl).mono ?_; rintro e w2 ⟨rfl, h2, -⟩)
        go_roundw
        case rel => exact ⟨k + 1, _, by omega, by omega, by go_num, i4 n fl, h2⟩
        case measure => simp [intOf]; omega
      have n4 : (kd == 4) = false := by simpa using k4
      by_cases k5 : kd = 5
      · subst k5
        cases hd : s.log.down
        · go_wp2_with (go_at_call 64; refine (restartUp_S hL' hh hd).mono ?_; rintro e w2 ⟨rfl, h2, -⟩)
          go_roundw
          case rel => exact ⟨k + 1, s, by omega, by omega, by go_num, (hinv.mono (Nat.le_refl _) (by omega) (by omega)).sound, h2⟩
          case measure => simp [intOf]; omega
        · go_wp2_with (go_at_call 64; refine (restart_S hL' hh hinv.inv hd).mono ?_; rintro e w2 ⟨j, s', rfl, h2, -, -, hro⟩)
          go_roundw
          case rel => exact ⟨k + 1, s', by omega, by omega, by go_num, ((hinv.rose hro).mono (Nat.le_refl _) (by omega) (by omega)).sound, h2⟩
          case measure => simp [intOf]; omega
      have n5 : (kd == 5) = false := by simpa using k5
      by_cases k7 : kd = 7
      · subst k7
        obtain ⟨q, q1, q2, q3⟩ := rem_up sl 10 (by decide)
        have qr := rem_any sl 10 (by decide)
        have v1 : IntKind.i64.wrap (sl.tmod 10) = sl.tmod 10 := by rw [IntKind.wrap_i64]; omega
        have v2 : IntKind.i64.wrap (sl.tmod 10 + 10) = sl.tmod 10 + 10 := by rw [IntKind.wrap_i64]; omega
        have v3 : IntKind.i64.wrap (q : Int) = (q : Int) := by rw [IntKind.wrap_i64]; omega
        have i5' := i5 (q : Int) ⟨by omega, by omega⟩
        go_wp2_with (go_at_call 70; refine (forget_S hL' hh hinv.inv (q : Int)).mono ?_; rintro e w2 ⟨rfl, h2, -⟩)
        go_roundw
        case rel => exact ⟨k + 1, _, by omega, by omega, by go_num, i5', h2⟩
        case measure => simp [intOf]; omega
      have n7 : (kd == 7) = false := by simpa using k7
      go_wp2
      go_roundw
      case rel => exact ⟨k + 1, s, by omega, by omega, by go_num, (hinv.mono (Nat.le_refl _) (by omega) (by omega)).sound, hL'⟩
      case measure => simp [intOf]; omega
    · have hge : acts.length ≤ k ∨ 50 ≤ k := by omega
      have hinv' : s.Fine 40 50 st0 rcs := hinv.mono (Nat.le_refl _) (by omega) (by omega)
      by_cases hk2 : k < acts.length
      all_goals
        clear hA i0 i1 i2 i3 i4 i5
        cases hd : s.log.down
        · go_wp2_with (first
            | (go_at_call 74; refine (down_S hL).mono ?_; rw [hd]; rintro e w2 ⟨rfl, rfl⟩))
          go_ret
          exact ⟨b, s, _, _, rfl, hL, hinv', hd⟩
        · go_wp2_with (first
            | (go_at_call 74; refine (down_S hL).mono ?_; rw [hd]; rintro e w2 ⟨rfl, rfl⟩)
            | (go_at_call 64; refine (restart_S hL hh hinv'.inv hd).mono ?_; rintro e w2 ⟨j, s', rfl, h2, -, -, hro⟩))
          go_ret
          exact ⟨b, s', _, _, rfl, h2, hinv'.rose hro, hro.down⟩
end Go.Proofs.YtediidajdpdeiaaDoor

/- Lists of what a store's slots have, in memory (layer 8). -/
namespace Go.Proofs.YtediidajdpdeiaaDoor
open Go.RowKit CrcM
set_option maxRecDepth 100000

abbrev TH8 : TypeId := 99
def Yes : Nat → Prop := fun _ => True

/-- the cells of what slots have -/
structure HeldRw (w : World) (xs : List Value) (H : Slots) : Prop where
  len : xs.length = H.length * 3
  each : ∀ i p, H[i]? = some p → ∃ B cb, xs[i * 3]? = some (.int .i64 (p.1 : Int)) ∧ xs[i * 3 + 1]? = some (.int .i64 (p.2.ballot : Int)) ∧ xs[i * 3 + 2]? = some (.slice B p.2.value.length cb) ∧ p.2.value.length ≤ cb ∧ cb ≤ maxLen ∧ Own Yes w B p.2.value
section
variable {w w' : World} {xs : List Value} {H : Slots}
theorem HeldRw.nil (w : World) : HeldRw w [] [] := ⟨rfl, fun i p h => by simp at h⟩
theorem HeldRw.bk (h : HeldRw w xs H) (k : BK w w') : HeldRw w' xs H :=
  ⟨h.len, fun i p hp => by
    obtain ⟨B, cb, h1, h2, h3, h4, h5, h6⟩ := h.each i p hp
    exact ⟨B, cb, h1, h2, h3, h4, h5, h6.bk k⟩⟩
theorem HeldRw.snoc (h : HeldRw w xs H) {k : Nat} {x : Hd} {B : Option Addr} {cb : Nat} (h4 : x.value.length ≤ cb) (h5 : cb ≤ maxLen) (h6 : Own Yes w B x.value) :
    HeldRw w (xs ++ [.int .i64 (k : Int), .int .i64 (x.ballot : Int), .slice B x.value.length cb]) (H ++ [(k, x)]) := by
  have hl := h.len
  refine ⟨by simp only [List.length_append, List.length_cons, List.length_nil]; omega, fun i p hp => ?_⟩
  rcases Nat.lt_or_ge i H.length with hi | hi
  · rw [List.getElem?_append_left hi] at hp
    obtain ⟨B', cb', q1, q2, q3, q4⟩ := h.each i p hp
    exact ⟨B', cb', by rw [List.getElem?_append_left (by omega)]; exact q1, by rw [List.getElem?_append_left (by omega)]; exact q2, by rw [List.getElem?_append_left (by omega)]; exact q3, q4⟩
  · rw [List.getElem?_append_right hi] at hp
    have hi2 : i = H.length := by
      have := (List.getElem?_eq_some_iff.1 hp).1
      simp only [List.length_singleton] at this
      omega
    subst hi2
    rw [Nat.sub_self] at hp
    injection hp with hp
    subst hp
    refine ⟨B, cb, ?_, ?_, ?_, h4, h5, h6⟩
    · rw [List.getElem?_append_right (by omega), hl, Nat.sub_self]; rfl
    · rw [List.getElem?_append_right (by omega), hl, show H.length * 3 + 1 - H.length * 3 = 1 by omega]; rfl
    · rw [List.getElem?_append_right (by omega), hl, show H.length * 3 + 2 - H.length * 3 = 2 by omega]; rfl
end

/-- a list of what slots have, in X -/
def HeldS (X : Nat → Prop) (w : World) (A : Option Addr) (c : Nat) (H : Slots) : Prop := H.length ≤ c ∧ c ≤ maxLen ∧ ∃ xs, HeldRw w xs H ∧ ((A = none ∧ H = []) ∨ ∃ g o cur, A = some ⟨g, o, none⟩ ∧ X g ∧ w.heap[g]? = some (.cells cur TH8 (0, 0)) ∧ ∀ j u, xs[j]? = some u → cur[o + j]? = some u)
section
variable {X X' : Nat → Prop} {w w' : World} {A : Option Addr} {c : Nat} {H : Slots}
theorem HeldS.xk (h : HeldS X w A c H) (k : XK X w w') (kb : BK w w') : HeldS X w' A c H := by
  obtain ⟨h1, h2, xs, h3, h4⟩ := h
  refine ⟨h1, h2, xs, h3.bk kb, h4.imp_right ?_⟩
  rintro ⟨g, o, cur, e, hg, hc, hj⟩
  exact ⟨g, o, cur, e, hg, (k g hg).trans hc, hj⟩
theorem HeldS.below (h : HeldS X w A c H) (hb : Below w.heap.size w w') : HeldS X w' A c H := by
  obtain ⟨h1, h2, xs, h3, h4⟩ := h
  refine ⟨h1, h2, xs, h3.bk (BK.below hb), h4.imp_right ?_⟩
  rintro ⟨g, o, cur, e, hg, hc, hj⟩
  exact ⟨g, o, cur, e, hg, (hb.block g (Array.getElem?_eq_some_iff.1 hc).1).trans hc, hj⟩
theorem HeldS.mono (h : HeldS X w A c H) (hs : ∀ x, X x → X' x) : HeldS X' w A c H := by
  obtain ⟨h1, h2, xs, h3, h4⟩ := h
  refine ⟨h1, h2, xs, h3, h4.imp_right ?_⟩
  rintro ⟨g, o, cur, e, hg, hc, hj⟩
  exact ⟨g, o, cur, e, hs g hg, hc, hj⟩
theorem HeldS.len (h : HeldS X w A c H) : H.length ≤ 9223372036854775807 := by
  have h1 := h.1
  have h2 := h.2.1
  unfold maxLen at h2
  omega
/-- one of them -/
theorem HeldS.at_ (h : HeldS X w A c H) {i : Nat} {p : Nat × Hd} (hi : H[i]? = some p) : ∃ g o B cb, A = some ⟨g, o, none⟩ ∧ g < w.heap.size ∧ w.cell? ⟨g, o + i * 3, none⟩ = some (.int .i64 (p.1 : Int)) ∧ w.cell? ⟨g, o + i * 3 + 1, none⟩ = some (.int .i64 (p.2.ballot : Int)) ∧
    w.cell? ⟨g, o + i * 3 + 2, none⟩ = some (.slice B p.2.value.length cb) ∧ p.2.value.length ≤ cb ∧ cb ≤ maxLen ∧ Own Yes w B p.2.value := by
  obtain ⟨h1, h2, xs, h3, h4⟩ := h
  obtain ⟨B, cb, q1, q2, q3, q4, q5, q6⟩ := h3.each i p hi
  rcases h4 with ⟨_, rfl⟩ | ⟨g, o, cur, rfl, hg, hc, hj⟩
  · simp at hi
  · have key : ∀ j u, xs[j]? = some u → w.cell? ⟨g, o + j, none⟩ = some u := fun j u hu => by
      simp only [World.cell?, hc]
      have := hj j u hu
      simpa using this
    exact ⟨g, o, B, cb, rfl, (Array.getElem?_eq_some_iff.1 hc).1, key _ _ q1, by have := key _ _ q2; rwa [← Nat.add_assoc] at this, by have := key _ _ q3; rwa [← Nat.add_assoc] at this, q4, q5, q6⟩
/-- the string of a value -/
theorem HeldS.str {B : Option Addr} {v : List UInt8} (h : Own Yes w B v) (cb : Nat) : (convert 22 9 (.slice B v.length cb)).run Tryd.prog w = .ok (.string ⟨v.toArray⟩) w := run_str (h.rd Non) cb
end
/-- a row of one's own is such a list -/
theorem HeldS.of_own {base n : Nat} {w : World} {v : Value} {xs : List Value} {H : Slots} (h : w.ownsRow base TH8 3 v n xs) (hv : HeldRw w xs H) : ∃ A c, v = .slice A H.length c ∧ HeldS (fun x => base ≤ x) w A c H := by
  have hl : xs.length = n * 3 := h.1
  have hn : n = H.length := by have := hv.len; omega
  subst hn
  rcases h.2 with ⟨rfl, h0⟩ | ⟨g, cap, cur, rfl, hb, hg, hnc, hm, hs, ht⟩
  · have : H = [] := List.eq_nil_of_length_eq_zero h0
    subst this
    exact ⟨none, 0, rfl, Nat.le_refl _, Nat.zero_le _, xs, hv, .inl ⟨rfl, rfl⟩⟩
  · refine ⟨_, cap, rfl, hnc, hm, xs, hv, .inr ⟨g, 0, cur, rfl, hb, hg, fun j u hu => ?_⟩⟩
    have hlt := (List.getElem?_eq_some_iff.1 hu).1
    rw [← ht, List.getElem?_take_of_lt (by omega)] at hu
    simpa using hu

/-- what an append onto a row of one's own leaves, elements of three cells -/
theorem wpList_app3 {P : Program} {w : World} {ops : Array Oper} {rest : List Oper} {o : Oper} {a : Act} {Q : Exit → Act → World → Prop} (hgd : o.guard = none) (s x : Operand) (t : TypeId)
    (ho : o.op = .call { callee := .builtin .append, args := #[s, x], argTypes := #[t, t] })
    (e : TypeId) (i : TypeInfo) (z : Value) (bytes : Nat) (ht : P.underlying t = some (.slice e)) (hi : P.info? e = some i) (hz : i.zero = some z) (hsize : i.size = 3) (hby : i.bytes = bytes) (hzs : z.cells.size = 3)
    (base : Nat) (v : Value) (n : Nat) (xs : List Value) (hs : a.eval s = v) (hown : w.ownsRow base e 3 v n xs)
    (A : Option Addr) (m c : Nat) (news : List Value) (hx : a.eval x = .slice A m c) (hl : news.length = m * 3) (hr : ∀ j u, news[j]? = some u → ∃ ad, A = some ad ∧ w.cell? (ad.add j) = some u) (h1 : ∀ u ∈ news, u.oneCell' = true)
    (h63 : n + m ≤ maxLen) (hbytes : (n + m) * bytes ≤ 140737488355328) (hbase : base ≤ w.heap.size)
    (h : ∀ v' w', w'.ownsRow base e 3 v' (n + m) (xs ++ news) → w.grownBy w' v.ownBlock → (v'.ownBlock = v.ownBlock ∨ v'.ownBlock = some w.heap.size) → wpList P ops Q rest (a.put o.dst v') w') :
    wpList P ops Q (o :: rest) a w := by
  obtain ⟨v', w', hrun, h2, h3, h5⟩ := run_append_rd (P := P) (w := w) base t o.type e i z 3 bytes ht hi hz hsize hby hzs (by omega) v n xs hown A m c news hl hr h1 h63 hbytes hbase
  exact wpList_ran hgd (run_builtin2 .append s x t t Builtin.append_ ho hs hx (fun _ _ => rfl) hrun) (h v' w' h2 h3 h5)
end Go.Proofs.YtediidajdpdeiaaDoor

/- The laws' own helper 'has' (layer 8): the walk. -/
namespace Go.Proofs.YtediidajdpdeiaaDoor
open Go.RowKit CrcM
set_option maxRecDepth 100000

theorem info_h8 : (Tryd.prog.info? TH8).map (fun i => (i.zero, i.size, i.bytes)) = some (some (.agg #[.int .i64 0, .int .i64 0, .slice none 0 0]), 3, 40) := by kernel_rfl
theorem BK.grownI {w w' : World} {row : Option Nat} (hg : w.grownBy w' row) (hr : ∀ j, row = some j → ¬ IsB w j) : BK w w' := fun b hb => hg.block b hb.lt fun e => hr b e.symm hb
theorem three_new (w : World) (a b c : Value) (t : TypeId) : ∀ j x, ([a, b, c] : List Value)[j]? = some x → ∃ ad, (some ⟨w.heap.size, 0, none⟩ : Option Addr) = some ad ∧ (w.alloc (.cells #[a, b, c] t)).cell? (ad.add j) = some x := by
  intro j x hx
  have hB := Blk.new w t #[a, b, c]
  refine ⟨_, rfl, ?_⟩
  rw [add_mk, Nat.zero_add]
  match j, hx with
  | 0, hx => exact hB.cell 0 (by simpa using hx)
  | 1, hx => exact hB.cell 1 (by simpa using hx)
  | 2, hx => exact hB.cell 2 (by simpa using hx)
  | j + 3, hx => simp at hx

/-- WHAT has leaves -/
def HasDid (W w : World) (b : Nat) (s : So) (X : Nat → Prop) (e : Ending) (w' : World) : Prop := ∃ A c, e = .returned (.slice A s.st.slots.length c) ∧ HeldS (Up X w w') w' A c s.st.slots ∧ LiveS W w' b s (Up X w w') ∧ Below w.heap.size w w'

set_option maxHeartbeats 1000000 in
theorem has_S {W w : World} {b : Nat} {s : So} {X : Nat → Prop} {m : Nat} (h : LiveS W w b s X) (hl : s.st.lim m) (hm : m ≤ 5000) (hfew : s.st.slots.length ≤ 1048575) (hu : s.log.down = false) :
    Calls Tryd.prog 61 #[.pointer (some ⟨b, 0, none⟩)] w (HasDid W w b s X) := by
  obtain ⟨i3, hi3, hz3, hs3, hb3⟩ := info_parts info_h8
  have htop := (top_facts s.st.slots).1
  have htop2 := (top_facts s.st.slots).2 m (fun p hp => (hl.slots p hp).1)
  have hrise := hl.ok.rise
  have hval : ∀ p ∈ s.st.slots, p.2.ballot ≤ 1099511627776 := fun p hp => (hl.ok.all p hp).2.1
  have hS0 := fun (w' : World) (hL : LiveS W w' b s X) => slots_S hL hu
  obtain ⟨n, hn⟩ : ∃ n, n = So.top s.st.slots := ⟨_, rfl⟩
  rw [← hn] at htop htop2 hS0
  have HT := Lib.hid htop
  have HV := Lib.hid hval
  have n5 : n ≤ 5000 := by omega
  clear htop htop2 hn hl hval
  go_enter Tryd.func61, Tryd.ntmps61
  go_wp2
  go_loopw [3, 4] (fun v i wr => ∃ (k : Nat) (xs : List Value) (H : Slots), k ≤ n ∧ i = .int .i64 (k : Int) ∧ Hid (H = s.st.slots.filter (fun p => decide (p.1 < k))) ∧ wr.ownsRow w.heap.size TH8 3 v H.length xs ∧ HeldRw wr xs H ∧ H.length ≤ 1048575 ∧ Below w.heap.size w wr) (fun _ i _ => n - (intOf i).toNat)
  case atStart => exact ⟨0, [], [], Nat.zero_le _, rfl, Lib.hid (Rise.filter_none (fun p _ => Nat.zero_le _)).symm, ⟨rfl, .inl ⟨rfl, rfl⟩⟩, HeldRw.nil _, Nat.zero_le _, Below.refl _ _⟩
  case round =>
    obtain ⟨k, xs, H, hk, rfl, hH, hrow, hv, hHl, hb9⟩ := hrel
    have hL := h.mono' hb9
    have hS := hS0 _ hL
    clear hS0
    by_cases hlt : k < n
    · have hlt' : (k : Int) < (n : Int) := by omega
      have h5 : (k : Int) < 5000 := by omega
      have hstep := Rise.filter_succ hrise k
      cases hg : getN k s.st.slots with
      | none =>
        rw [hg] at hstep
        simp only [List.append_nil] at hstep
        have HS := Lib.hid hstep
        have HG := Lib.hid hg
        clear hstep hg
        go_wp2_with (first
          | (go_at_call 73; refine hS.mono ?_; rintro e w1 ⟨rfl, hb1⟩; have hG := get_S (hL.mono' hb1) hu k (by omega); rw [HG.out] at hG; unfold GetDid at hG; simp only [Option.getD_none, Option.isSome_none, List.length_nil] at hG; clear hS)
          | (go_at_call 68; refine hG.mono ?_; rintro e w2 ⟨A2, c2, rfl, ho2, hc2, hm2, hb2⟩; clear hG))
        go_roundw
        case rel => exact ⟨k + 1, xs, H, by omega, by go_num, Lib.hid (by rw [HS.out]; exact hH.out), ownsRow_below (ownsRow_below hrow (hb1.mono (Nat.le_refl _))) hb2, (hv.bk (BK.below hb1)).bk (BK.below hb2), hHl, (hb9.trans (hb1.mono hb9.size)).trans (hb2.mono (Nat.le_trans hb9.size hb1.size))⟩
        case measure => simp [intOf]; omega
      | some x =>
        rw [hg] at hstep
        simp only at hstep
        have hlen : H.length + 1 ≤ 1048575 := by
          have h1 := List.length_filter_le (fun p : Nat × Hd => decide (p.1 < k + 1)) s.st.slots
          rw [hstep, ← hH.out, List.length_append, List.length_singleton] at h1
          omega
        have hxb := HV.out _ (getN_some hg)
        obtain ⟨A0, c0, rfl, hc0, hm0⟩ := own_val hrow
        have HS := Lib.hid hstep
        have HG := Lib.hid hg
        have HX := Lib.hid hxb
        have HL := Lib.hid hlen
        clear hstep hg hlen hxb
        obtain ⟨bl, vl⟩ := x
        go_wp2_with (first
          | (go_at_call 73; refine hS.mono ?_; rintro e w1 ⟨rfl, hb1⟩; have hG := get_S (hL.mono' hb1) hu k (by omega); rw [HG.out] at hG; unfold GetDid at hG; simp only [Option.getD_some, Option.isSome_some] at hG; clear hS)
          | (go_at_call 68; refine hG.mono ?_; rintro e w2 ⟨A2, c2, rfl, ho2, hc2, hm2, hb2⟩; have hb12 : Below w.heap.size w w2 := (hb9.trans (hb1.mono hb9.size)).trans (hb2.mono (Nat.le_trans hb9.size hb1.size)); have hrow2 := ownsRow_below (ownsRow_below hrow hb1) hb2; have hv2 := (hv.bk (BK.below hb1)).bk (BK.below hb2); clear hG hb2 hb1)
          | (at_builtin
             refine wpList_app3 rfl (.tmp 26) (.tmp 31) 96 rfl TH8 i3 _ 40 Tryd.underlying96 hi3 hz3 hs3 hb3 rfl w.heap.size (.slice A0 H.length c0) H.length xs rfl (ownsRow_below hrow2 (below_new _ _)) (some ⟨w2.heap.size, 0, none⟩) 1 1 [.int .i64 (k : Int), .int .i64 (bl : Int), .slice A2 vl.length c2] rfl rfl (three_new w2 _ _ _ _) (by intro u hu; simp only [List.mem_cons, List.not_mem_nil, or_false] at hu; rcases hu with rfl | rfl | rfl <;> rfl) (by have := HL.out; unfold maxLen; omega) (by have := HL.out; omega) (Nat.le_trans hb12.size (below_new w2 _).size) ?_
             intro v5 w5 hrow5 hg5 ha5
             obtain ⟨A5, c5, rfl, hc5, hm5⟩ := own_val hrow5
             have hv5 := (((hv2.bk (BK.below (below_new w2 (.cells #[.int .i64 (k : Int), .int .i64 (bl : Int), .slice A2 vl.length c2] TH8)))).bk (BK.grownI hg5 (row_notB (ownsRow_below hrow2 (below_new _ _)) (by decide)))).snoc (k := k) (x := ⟨bl, vl⟩) hc2 hm2 ((((ho2.mono (S' := Yes) (fun _ _ => trivial)).bk (BK.below (below_new w2 (.cells #[.int .i64 (k : Int), .int .i64 (bl : Int), .slice A2 vl.length c2] TH8)))).bk (BK.grownI hg5 (row_notB (ownsRow_below hrow2 (below_new _ _)) (by decide))))))
             have hb5 : Below w.heap.size w w5 := (hb12.alloc hb12.size (.cells #[.int .i64 (k : Int), .int .i64 (bl : Int), .slice A2 vl.length c2] TH8)).grown hg5 (by have := hb12.size; simp; omega) (fun j hj => (hrow2.lt j hj).1)
             clear ha5 hg5))
        go_roundw
        case rel => exact ⟨k + 1, _, H ++ [(k, ⟨bl, vl⟩)], by omega, by go_num, Lib.hid (by rw [HS.out, ← hH.out]), by rw [List.length_append]; exact hrow5, hv5, by rw [List.length_append]; exact HL.out, hb5⟩
        case measure => simp [intOf]; omega
    · obtain rfl : k = n := by omega
      have hall : H = s.st.slots := by
        rw [hH.out, List.filter_eq_self]
        intro p hp
        exact decide_eq_true (HT.out p hp)
      subst hall
      obtain ⟨A9, c9, rfl, hh9⟩ := HeldS.of_own hrow hv
      clear hH hrow hv
      go_wp2_with (first
        | (go_at_call 73; refine hS.mono ?_; rintro e w1 ⟨rfl, hb1⟩; clear hS))
      go_ret
      have hbb := hb9.trans (hb1.mono hb9.size)
      have h9 := hh9.below hb1
      refine ⟨A9, c9, rfl, ?_, h.mono hbb, hbb⟩
      obtain ⟨q1, q2, ys, q3, q4⟩ := h9
      refine ⟨q1, q2, ys, q3, q4.imp_right ?_⟩
      rintro ⟨g, o, cur, e, hg, hc, hj⟩
      exact ⟨g, o, cur, e, .inr ⟨hg, (Array.getElem?_eq_some_iff.1 hc).1⟩, hc, hj⟩
end Go.Proofs.YtediidajdpdeiaaDoor
