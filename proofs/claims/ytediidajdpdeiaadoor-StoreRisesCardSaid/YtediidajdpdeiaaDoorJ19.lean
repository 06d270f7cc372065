/- The law of a store (layer 8), in plain words: what its calls do to its records, and what comes back behind a crash. -/
import Derived.Test.YtediidajdpdeiaaDoorJ18
import Derived.Test.YtediidajdpdeiaaDoorJ11
import Derived.Test.YtediidajdpdeiaaDoorJ12
import Derived.Shelf.SlIterI.Sorted
import Derived.Shelf.SortM.Plain
import Derived.Shelf.SortM.SortNone
import Derived.Ground.GgzProg
import Derived.Ground.SlgmProg

namespace Go.Proofs.YtediidajdpdeiaaDoor
open CrcM

def Rc.lim (m : Nat) : Rc → Prop
  | .acc slot _ v => slot < m ∧ v.length ≤ 300
  | _ => True
/-- the slots lie below m, their values are short, their ballots are promised -/
structure St.lim (m : Nat) (s : St) : Prop where
  ok : s.ok
  slots : ∀ p ∈ s.slots, p.1 < m ∧ p.2.value.length ≤ 300 ∧ p.2.ballot ≤ s.promised
theorem St.lim_new (m : Nat) : St.new.lim m := ⟨St.ok_new, fun p hp => by cases hp⟩
theorem St.lim.mono {m m' : Nat} {s : St} (h : s.lim m) (hm : m ≤ m') : s.lim m' := ⟨h.ok, fun p hp => ⟨Nat.lt_of_lt_of_le (h.slots p hp).1 hm, (h.slots p hp).2⟩⟩
theorem Rc.lim.mono {m m' : Nat} {r : Rc} (h : r.lim m) (hm : m ≤ m') : r.lim m' := by
  cases r with
  | acc k b v => exact ⟨Nat.lt_of_lt_of_le h.1 hm, h.2⟩
  | prom b => trivial
  | forget n => trivial
theorem St.lim.play {m : Nat} {s : St} (h : s.lim m) {r : Rc} (hr : r.ok) (hl : r.lim m) (hf : s.slots.length < 1048575) : (Rc.play s r).lim m := by
  refine ⟨h.ok.play hr hf, ?_⟩
  cases r with
  | prom b =>
    intro p hp
    obtain ⟨h1, h2, h3⟩ := h.slots p hp
    refine ⟨h1, h2, ?_⟩
    show p.2.ballot ≤ max s.promised b
    omega
  | acc k b v =>
    intro p hp
    show p.1 < m ∧ p.2.value.length ≤ 300 ∧ p.2.ballot ≤ max s.promised b
    rcases mem_putN.1 hp with rfl | ⟨hp, _⟩
    · exact ⟨hl.1, hl.2, by show b ≤ _; omega⟩
    · obtain ⟨h1, h2, h3⟩ := h.slots p hp
      exact ⟨h1, h2, by omega⟩
  | forget n =>
    intro p hp
    exact h.slots p (List.mem_filter.1 hp).1
theorem plays_lim {m : Nat} : ∀ (rcs : List Rc) (s : St), s.lim m → (∀ r ∈ rcs, r.ok ∧ r.lim m) → s.slots.length + rcs.length ≤ 1048575 → (rcs.foldl Rc.play s).lim m ∧ (rcs.foldl Rc.play s).slots.length ≤ s.slots.length + rcs.length
  | [], s, h, _, _ => ⟨h, Nat.le_refl _⟩
  | r :: t, s, h, hr, hf => by
    have hl := play_len s r
    rw [List.length_cons] at hf
    obtain ⟨k1, k2⟩ := plays_lim t (Rc.play s r) (h.play (hr _ (List.mem_cons_self ..)).1 (hr _ (List.mem_cons_self ..)).2 (by omega)) (fun x hx => hr x (List.mem_cons_of_mem _ hx)) (by omega)
    exact ⟨k1, by rw [List.length_cons]; exact Nat.le_trans k2 (by omega)⟩

/-- THE LAW OF A STORE: its log has these records, its snapshot that state -/
structure So.inv (m n : Nat) (s : So) (st0 : St) (rcs : List Rc) : Prop where
  per : 1 ≤ s.per ∧ s.per ≤ 1024
  log : s.log.inv n
  recs : recsS s.log.segs = rcs.map Rc.enc
  up : s.log.down = false → s.st = rcs.foldl Rc.play st0
  dn : s.snap.down = s.log.down
  rok : ∀ r ∈ rcs, r.ok ∧ r.lim m
  ok0 : st0.lim m
  few : st0.slots.length + rcs.length ≤ n
  small : n ≤ 150
  snap : (s.snap.all = [] ∧ st0 = St.new) ∨ (s.snap.all = frame (snapB st0) ∧ (snapB st0).length ≤ 65536)
  kept : s.snap.kept = s.snap.all.length

/-- how many of its records are kept -/
def So.sy (s : So) : Nat := safeLen s.log.segs
section
variable {m n : Nat} {s : So} {st0 : St} {rcs : List Rc}
theorem So.inv_new {per : Nat} (h1 : 1 ≤ per) (h2 : per ≤ 1024) (m : Nat) : (So.new per).inv m 0 St.new [] :=
  ⟨⟨h1, h2⟩, Lg.inv_new h1 h2, rfl, fun _ => rfl, rfl, fun r hr => (by cases hr), St.lim_new m, Nat.le_refl _, by omega, .inl ⟨rfl, rfl⟩, rfl⟩
theorem So.inv.mono (h : s.inv m n st0 rcs) {m' n' : Nat} (hm : m ≤ m') (hn : n ≤ n') (hs : n' ≤ 150) : s.inv m' n' st0 rcs :=
  ⟨h.per, h.log.mono hn, h.recs, h.up, h.dn, fun r hr => ⟨(h.rok r hr).1, (h.rok r hr).2.mono hm⟩, h.ok0.mono hm, Nat.le_trans h.few hn, hs, h.snap, h.kept⟩
/-- the state itself -/
theorem So.inv.st (h : s.inv m n st0 rcs) (hd : s.log.down = false) : s.st.lim m ∧ s.st.slots.length ≤ n := by
  have := h.small
  have := h.few
  obtain ⟨k1, k2⟩ := plays_lim rcs st0 h.ok0 h.rok (by omega)
  rw [h.up hd]
  exact ⟨k1, by omega⟩
theorem enc_len {r : Rc} (hr : r.ok) (hl : r.lim m) : r.enc.length ≤ 400 := by
  cases r with
  | prom b =>
    have hb : b ≤ 1099511627776 := hr
    have := numB_10 (n := b) (by omega)
    show (numB b).length + 1 ≤ 400
    omega
  | acc k b v =>
    obtain ⟨q1, q2, q3⟩ := hr
    have := numB_10 (n := k) (by omega)
    have := numB_10 (n := b) (by omega)
    have := hl.2
    show (numB k ++ (numB b ++ v)).length + 1 ≤ 400
    simp only [List.length_append]
    omega
  | forget b =>
    have hb : b ≤ 1099511627776 := hr
    have := numB_10 (n := b) (by omega)
    show (numB b).length + 1 ≤ 400
    omega
theorem Lg.inv.count_le {L : Lg} (h : L.inv n) : L.segs.length ≤ (recsS L.segs).length + 1 := by
  cases hg : L.segs.getLast? with
  | none => rw [List.getLast?_eq_none_iff.1 hg]; exact Nat.zero_le _
  | some g =>
    have hc := h.chain.count hg
    have h1 := h.per1
    have h2 : g.recs.length ≤ L.per := (h.segs g (List.mem_of_getLast? hg)).inv0.few
    have h3 : L.segs.length * 1 ≤ L.segs.length * L.per := Nat.mul_le_mul_left _ h1
    have h4 : (recsS L.segs).length * 1 ≤ (recsS L.segs).length * L.per := Nat.mul_le_mul_left _ h1
    rcases Nat.lt_or_ge ((recsS L.segs).length + 1) L.segs.length with hlt | hge
    · exfalso
      have h5 : ((recsS L.segs).length + 2) * L.per ≤ L.segs.length * L.per := Nat.mul_le_mul_right _ hlt
      rw [Nat.add_mul] at h5
      omega
    · exact hge
/-- what a record that is laid down leaves -/
structure Put (m n : Nat) (s : So) (st0 : St) (rcs : List Rc) (rc : Rc) (s' : So) : Prop where
  inv : s'.inv m (n + 1) st0 (rcs ++ [rc])
  down : s'.log.down = false
  sy : s'.sy = s.sy
  st : s'.st = Rc.play s.st rc
  log : s'.log = (s.log.append rc.enc).1
theorem So.inv.put (h : s.inv m n st0 rcs) (hd : s.log.down = false) (hn : n < 150) {rc : Rc} (hr : rc.ok) (hl : rc.lim m) :
    ∃ s', s.put rc.enc (Rc.play s.st rc) = (s', 0) ∧ Put m n s st0 rcs rc s' := by
  have hrl : s.log.recs = recsS s.log.segs := Lg.recs_eq hd
  have hfew := h.few
  rcases h.log.append hd (by omega) rc.enc (enc_len hr hl) with ⟨_, h2, _⟩ | ⟨L', e, ha⟩
  · exfalso
    have h3 := h.log.count_le
    rw [h.recs, List.length_map] at h3
    omega
  · refine ⟨⟨s.per, L', s.snap, Rc.play s.st rc⟩, ?_, ?_, ha.down, ?_, rfl, by rw [e]⟩
    · unfold So.put
      rw [e]
      rfl
    · refine ⟨h.per, ha.inv, ?_, fun _ => ?_, ?_, fun r hr' => ?_, h.ok0, by rw [List.length_append]; simp only [List.length_singleton]; omega, by omega, h.snap, h.kept⟩
      · have h1 := ha.recs
        rw [Lg.recs_eq ha.down, hrl, h.recs] at h1
        rw [h1, List.map_append]
        rfl
      · rw [List.foldl_append, ← h.up hd]
        rfl
      · exact h.dn.trans (hd.trans ha.down.symm)
      · rcases List.mem_append.1 hr' with hr' | hr'
        · exact h.rok r hr'
        · obtain rfl := List.mem_singleton.1 hr'
          exact ⟨hr, hl⟩
    · have h1 := ha.inv.safe_eq ha.down
      have h2 := h.log.safe_eq hd
      rw [ha.safe, ha.base] at h1
      unfold So.sy
      show safeLen L'.segs = _
      omega
/-- what Promise leaves -/
theorem So.inv.promise (h : s.inv m n st0 rcs) (hd : s.log.down = false) (hn : n < 150) (b : Int) :
    (s.promise b = (s, (s.promise b).2) ∧ (((s.promise b).2 = 0 ∧ b = s.st.promised) ∨ ((s.promise b).2 = 16 ∧ 0 ≤ b ∧ b < s.st.promised) ∨ ((s.promise b).2 = 2 ∧ ¬ numOk b))) ∨
    ∃ k : Nat, b = k ∧ s.st.promised < k ∧ k ≤ 1099511627776 ∧ ∃ s', s.promise b = (s', 0) ∧ Put m n s st0 rcs (.prom k) s' := by
  unfold So.promise
  rw [hd]
  simp only [Bool.false_eq_true, if_false]
  by_cases hb : numOk b
  · rw [if_neg (by simpa using hb)]
    obtain ⟨h0, h1⟩ := hb
    by_cases h2 : b < s.st.promised
    · rw [if_pos h2]
      exact .inl ⟨rfl, .inr (.inl ⟨rfl, h0, h2⟩)⟩
    · rw [if_neg h2]
      by_cases h3 : b = s.st.promised
      · rw [if_pos h3]
        exact .inl ⟨rfl, .inl ⟨rfl, h3⟩⟩
      · rw [if_neg h3]
        obtain ⟨k, rfl⟩ : ∃ k : Nat, b = k := ⟨b.toNat, by omega⟩
        have hk : (Rc.prom k).ok := by show k ≤ 1099511627776; omega
        obtain ⟨s', e, hp⟩ := h.put hd hn hk trivial
        refine .inr ⟨k, rfl, by omega, by omega, s', ?_, hp⟩
        rw [← e]
        show s.put _ ⟨(k : Int).toNat, _, _⟩ = _
        congr 1
        show (⟨k, s.st.base, s.st.slots⟩ : St) = ⟨max s.st.promised k, s.st.base, s.st.slots⟩
        congr 1
        omega
  · rw [if_pos hb]
    exact .inl ⟨rfl, .inr (.inr ⟨rfl, hb⟩)⟩
/-- what Accept leaves -/
theorem So.inv.accept (h : s.inv m n st0 rcs) (hd : s.log.down = false) (hn : n < 150) (slot b : Int) (v : List UInt8) (hv : v.length ≤ 300) (hm : slot < m) :
    (s.accept slot b v = (s, (s.accept slot b v).2) ∧ ((s.accept slot b v).2 ≠ 0) ∧ (0 ≤ slot → slot < s.st.base → slot ≤ 1099511627776 → numOk b → (s.accept slot b v).2 = 16)) ∨
    ∃ k j : Nat, slot = k ∧ b = j ∧ s.st.promised ≤ j ∧ j ≤ 1099511627776 ∧ s.st.base ≤ k ∧ ∃ s', s.accept slot b v = (s', 0) ∧ Put m n s st0 rcs (.acc k j v) s' := by
  have hst := (h.st hd).2
  unfold So.accept
  rw [hd]
  simp only [Bool.false_eq_true, if_false]
  by_cases h1 : numOk slot
  · rw [if_neg (by simpa using h1)]
    by_cases h2 : numOk b
    · rw [if_neg (by simpa using h2)]
      obtain ⟨k, rfl⟩ : ∃ k : Nat, slot = k := ⟨slot.toNat, by have := h1.1; omega⟩
      obtain ⟨j, rfl⟩ : ∃ k : Nat, b = k := ⟨b.toNat, by have := h2.1; omega⟩
      by_cases h3 : (j : Int) < s.st.promised ∨ (k : Int) < s.st.base
      · rw [if_pos h3]
        exact .inl ⟨rfl, (show (16 : Int) ≠ 0 by decide), fun _ _ _ _ => rfl⟩
      · rw [if_neg h3, if_neg (by omega), if_neg (fun q => by have := q.2; have := h.small; omega)]
        have hk : (Rc.acc k j v).ok := ⟨by have := h1.2; omega, by have := h2.2; omega, by omega⟩
        obtain ⟨s', e, hp⟩ := h.put hd hn hk ⟨by omega, hv⟩
        refine .inr ⟨k, j, rfl, rfl, by omega, by have := h2.2; omega, by omega, s', ?_, hp⟩
        rw [← e]
        show s.put _ ⟨(j : Int).toNat, _, putN (k : Int).toNat _ _⟩ = _
        simp only [Int.toNat_natCast]
        congr 1
        show (⟨j, s.st.base, putN k ⟨j, v⟩ s.st.slots⟩ : St) = ⟨max s.st.promised j, s.st.base, putN k ⟨j, v⟩ s.st.slots⟩
        congr 1
        omega
    · rw [if_pos h2]
      exact .inl ⟨rfl, (show (2 : Int) ≠ 0 by decide), fun _ _ _ q => (h2 q).elim⟩
  · rw [if_pos h1]
    exact .inl ⟨rfl, (show (2 : Int) ≠ 0 by decide), fun q1 _ q3 _ => (h1 ⟨q1, q3⟩).elim⟩
/-- Accept of what is new -/
theorem So.inv.accept_ok (h : s.inv m n st0 rcs) (hd : s.log.down = false) (hn : n < 150) (k j : Nat) (v : List UInt8) (hv : v.length ≤ 300) (hm : k < m) (hk : k ≤ 1099511627776) (hj : j ≤ 1099511627776) (hp : s.st.promised ≤ j) (hb : s.st.base ≤ k) :
    ∃ s', s.accept k j v = (s', 0) ∧ Put m n s st0 rcs (.acc k j v) s' := by
  have hst := (h.st hd).2
  have hsm := h.small
  have n1 : numOk (k : Int) := ⟨by omega, by omega⟩
  have n2 : numOk (j : Int) := ⟨by omega, by omega⟩
  unfold So.accept
  rw [hd, if_neg (by simp), if_neg (by simpa using n1), if_neg (by simpa using n2), if_neg (by omega), if_neg (by omega), if_neg (fun q => by have := q.2; omega)]
  obtain ⟨s', e, hp'⟩ := h.put hd hn (rc := .acc k j v) ⟨hk, hj, by omega⟩ ⟨hm, hv⟩
  refine ⟨s', ?_, hp'⟩
  rw [← e]
  show s.put _ ⟨(j : Int).toNat, _, putN (k : Int).toNat _ _⟩ = _
  simp only [Int.toNat_natCast]
  congr 1
  show (⟨j, s.st.base, putN k ⟨j, v⟩ s.st.slots⟩ : St) = ⟨max s.st.promised j, s.st.base, putN k ⟨j, v⟩ s.st.slots⟩
  congr 1
  omega
/-- what Forget leaves -/
theorem So.inv.forget (h : s.inv m n st0 rcs) (hd : s.log.down = false) (hn : n < 150) (k : Int) (hk : numOk k) :
    (s.forget k = (s, 0) ∧ k ≤ s.st.base) ∨ ∃ j : Nat, k = j ∧ s.st.base < j ∧ ∃ s', s.forget k = (s', 0) ∧ Put m n s st0 rcs (.forget j) s' := by
  unfold So.forget
  rw [hd]
  simp only [Bool.false_eq_true, if_false]
  rw [if_neg (by simpa using hk)]
  obtain ⟨j, rfl⟩ : ∃ j : Nat, k = j := ⟨k.toNat, by have := hk.1; omega⟩
  by_cases h1 : (j : Int) ≤ s.st.base
  · rw [if_pos h1]
    exact .inl ⟨rfl, h1⟩
  · rw [if_neg h1]
    obtain ⟨s', e, hp⟩ := h.put hd hn (rc := .forget j) (show j ≤ 1099511627776 by have := hk.2; omega) trivial
    exact .inr ⟨j, rfl, by omega, s', e, hp⟩
/-- what Sync leaves -/
theorem So.inv.sync (h : s.inv m n st0 rcs) (hd : s.log.down = false) : ∃ s', s.sync = (s', 0) ∧ s'.inv m n st0 rcs ∧ s'.log.down = false ∧ s'.sy = rcs.length ∧ s'.st = s.st ∧ s'.log = s.log.sync.1 := by
  obtain ⟨L', e, i1, i2, i3, i4, i5, i6, i7⟩ := h.log.sync hd
  have hr : recsS L'.segs = rcs.map Rc.enc := by rw [← Lg.recs_eq i2, i3, Lg.recs_eq hd, h.recs]
  refine ⟨⟨s.per, L', s.snap, s.st⟩, by unfold So.sync; rw [e], ⟨h.per, i1, hr, fun _ => h.up hd, h.dn.trans (hd.trans i2.symm), h.rok, h.ok0, h.few, h.small, h.snap, h.kept⟩, i2, ?_, rfl, by rw [e]⟩
  have h1 := i1.safe_eq i2
  have h2 := i1.len i2
  rw [Lg.recs_eq i2, hr, List.length_map] at h2
  show safeLen L'.segs = _
  omega
theorem snapB_len (h : s.inv m n st0 rcs) (hd : s.log.down = false) : (snapB s.st).length ≤ 65536 := by
  obtain ⟨hl, hn⟩ := h.st hd
  have h1 := hl.ok.pr
  have h2 := hl.ok.ba
  have h3 := hl.ok.few
  have n1 := numB_10 (n := s.st.promised) (by omega)
  have n2 := numB_10 (n := s.st.base) (by omega)
  have n3 := numB_10 (n := s.st.slots.length) (by omega)
  have hf : ∀ (M : Slots), (∀ p ∈ M, p.1 ≤ 1099511627776 ∧ p.2.ballot ≤ 1099511627776 ∧ p.2.value.length ≤ 300) → (M.map slotB).flatten.length ≤ M.length * 330 := by
    intro M
    induction M with
    | nil => intro _; simp
    | cons p t ih =>
      intro hM
      have i1 := ih (fun q hq => hM q (List.mem_cons_of_mem _ hq))
      obtain ⟨q1, q2, q3⟩ := hM p (List.mem_cons_self ..)
      have k1 := numB_10 (n := p.1) (by omega)
      have k2 := numB_10 (n := p.2.ballot) (by omega)
      have k3 := numB_10 (n := p.2.value.length) (by omega)
      have k4 : (slotB p).length ≤ 330 := by
        unfold slotB
        simp only [List.length_append]
        omega
      rw [List.map_cons, List.flatten_cons, List.length_append, List.length_cons]
      omega
  have h4 := hf s.st.slots (fun p hp => ⟨(hl.ok.all p hp).1, (hl.ok.all p hp).2.1, (hl.slots p hp).2.1⟩)
  have h5 := h.small
  unfold snapB
  simp only [List.length_append]
  omega
/-- what Snapshot leaves -/
theorem So.inv.snapshot (h : s.inv m n st0 rcs) (hd : s.log.down = false) : ∃ s', s.snapshot = (s', 0) ∧ s'.inv m n s.st [] ∧ s'.log = Lg.new s.per ∧ s'.st = s.st := by
  obtain ⟨hl, hn⟩ := h.st hd
  have hb := snapB_len h hd
  have hsd : s.snap.down = false := h.dn.trans hd
  refine ⟨⟨s.per, Lg.new s.per, (s.snap.swap (frame (snapB s.st))).1, s.st⟩, ?_, ?_, rfl, rfl⟩
  · unfold So.snapshot
    rw [hd, if_neg (by simp), if_neg (by omega)]
  · have e : (s.snap.swap (frame (snapB s.st))).1 = ⟨false, frame (snapB s.st), (frame (snapB s.st)).length⟩ := by
      unfold Dk.swap
      rw [hsd, if_neg (by simp), if_neg (by rw [length_frame]; omega)]
    rw [e]
    exact ⟨h.per, Lg.inv_new h.per.1 h.per.2, rfl, fun _ => rfl, rfl, fun r hr => (by cases hr), hl, hn, h.small, .inr ⟨rfl, hb⟩, rfl⟩
/-- what Crash leaves of a store that is up -/
theorem So.inv.crash (h : s.inv m n st0 rcs) (hd : s.log.down = false) (keep flip : Int) (hk : 0 ≤ keep) :
    ∃ s', s.crash keep flip = (s', 0) ∧ s'.inv m n st0 rcs ∧ s'.log.down = true ∧ s'.sy = s.sy ∧ s'.log = (s.log.crash keep flip).1 := by
  obtain ⟨e, hi⟩ := h.log.crash hd keep flip hk
  have hsd : s.snap.down = false := h.dn.trans hd
  have e2 : (s.snap.crash keep flip).1 = ⟨true, s.snap.all, s.snap.kept⟩ := by
    unfold Dk.crash
    rw [hsd, if_neg (by simp), if_neg (by omega), h.kept, List.take_of_length_le (Nat.le_refl _), List.drop_eq_nil_of_le (Nat.le_refl _)]
    simp only
    congr 1
    unfold torn turn
    split <;> simp
  refine ⟨⟨s.per, ⟨s.log.per, s.log.segs.map (Sg.crash keep flip), true⟩, ⟨true, s.snap.all, s.snap.kept⟩, s.st⟩, ?_, ?_, rfl, ?_, by rw [e]⟩
  · unfold So.crash
    rw [e, e2]
    rfl
  · exact ⟨h.per, hi, by show recsS (s.log.segs.map _) = _; rw [recsS_map (f := Sg.crash keep flip) (fun _ => rfl)]; exact h.recs, fun q => (by cases q), rfl, h.rok, h.ok0, h.few, h.small, h.snap, h.kept⟩
  · exact safeLen_map (f := Sg.crash keep flip) (fun _ => rfl) (fun _ => rfl) _
/-- what Restart leaves: a beginning of the records, all that were kept -/
structure Rose (m n : Nat) (s : So) (st0 : St) (rcs : List Rc) (j : Nat) (s' : So) : Prop where
  inv : s'.inv m n st0 (rcs.take j)
  down : s'.log.down = false
  sy : s.sy ≤ j
  le : j ≤ rcs.length
  log : s'.log = s.log.restart.1
theorem So.inv.restart (h : s.inv m n st0 rcs) (hd : s.log.down = true) :
    ∃ j, recsS s.log.restart.1.segs = (rcs.take j).map Rc.enc ∧ Rose m n s st0 rcs j ⟨s.per, s.log.restart.1, s.snap.restart.1, (rcs.take j).foldl Rc.play st0⟩ := by
  have hsm := h.small
  obtain ⟨L', e, hr⟩ := h.log.restart hd (by omega)
  have e1 : s.log.restart.1 = L' := by rw [e]
  have hrc := hr.recs
  rw [Lg.recs_eq hr.down, h.recs] at hrc
  have hk := hr.kept
  rw [Lg.recs_eq hr.down] at hk
  have hpl := hrc.length_le
  rw [List.length_map] at hpl
  have e2 : recsS L'.segs = (rcs.take (recsS L'.segs).length).map Rc.enc := by
    rw [List.map_take]
    exact List.prefix_iff_eq_take.1 hrc
  refine ⟨(recsS L'.segs).length, by rw [e1]; exact e2, ⟨h.per, by rw [e1]; exact hr.inv, by rw [e1]; exact e2, fun _ => rfl, ?_, fun r hr' => h.rok r (List.mem_of_mem_take hr'), h.ok0, ?_, h.small, ?_, ?_⟩, by rw [e1]; exact hr.down, hk, hpl, rfl⟩
  · rw [e1, hr.down]
    exact s.snap.restart_up
  · have := h.few
    rw [List.length_take]
    omega
  · rw [Dk.restart_all']
    exact h.snap
  · have hkp := h.dn.trans hd
    unfold Dk.restart
    rw [hkp]
    rfl
theorem next_nil : ∃ r : Int, r ≠ 0 ∧ next [] ((0 : Nat) : Int) = .error r := by
  refine ⟨4, by decide, ?_⟩
  have := next_cut [] (by decide) 0 (by rw [length_frame]; decide)
  simpa using this
/-- a snapshot as Restart wants it -/
theorem So.inv.snap' (h : s.inv m n st0 rcs) : (st0 = St.new ∧ ∃ r : Int, r ≠ 0 ∧ next s.snap.all ((0 : Nat) : Int) = .error r) ∨ (s.snap.all = frame (snapB st0) ∧ (snapB st0).length ≤ 65536) := by
  rcases h.snap with ⟨h1, h2⟩ | h1
  · rw [h1]
    exact .inl ⟨h2, next_nil⟩
  · exact .inr h1
/-- a store that has the law -/
def So.Ok (m n : Nat) (s : So) : Prop := ∃ st0 rcs, s.inv m n st0 rcs
theorem So.inv.calls (h : s.inv m n st0 rcs) (hn : n < 150) :
    (∀ b, ((s.promise b).1).Ok m (n + 1)) ∧ (∀ (slot b : Int) (v : List UInt8), v.length ≤ 300 → slot < m → (s.accept slot b v).1.Ok m (n + 1)) ∧ s.sync.1.Ok m (n + 1) ∧ s.snapshot.1.Ok m (n + 1) ∧ (∀ keep flip, (s.crash keep flip).1.Ok m (n + 1)) ∧ ∀ k, numOk k → (s.forget k).1.Ok m (n + 1) := by
  have hs : s.Ok m (n + 1) := ⟨st0, rcs, h.mono (Nat.le_refl _) (by omega) (by omega)⟩
  cases hd : s.log.down with
  | true =>
    refine ⟨fun b => ?_, fun slot b v _ _ => ?_, ?_, ?_, fun keep flip => ?_, fun k _ => ?_⟩
    · unfold So.promise; rw [hd, if_pos rfl]; exact hs
    · unfold So.accept; rw [hd, if_pos rfl]; exact hs
    · have e : s.log.sync = (s.log, 10) := by unfold Lg.sync; rw [hd]; rfl
      unfold So.sync; rw [e]; exact hs
    · unfold So.snapshot; rw [hd, if_pos rfl]; exact hs
    · have e : s.log.crash keep flip = (s.log, 10) := by unfold Lg.crash; rw [hd]; rfl
      unfold So.crash; rw [e]; exact hs
    · unfold So.forget; rw [hd, if_pos rfl]; exact hs
  | false =>
    refine ⟨fun b => ?_, fun slot b v hv hm => ?_, ?_, ?_, fun keep flip => ?_, fun k hk => ?_⟩
    · rcases h.promise hd hn b with ⟨e, _⟩ | ⟨k, _, _, _, s', e, hp⟩
      · rw [e]; exact hs
      · rw [e]; exact ⟨_, _, hp.inv⟩
    · rcases h.accept hd hn slot b v hv hm with ⟨e, _⟩ | ⟨k, j, _, _, _, _, _, s', e, hp⟩
      · rw [e]; exact hs
      · rw [e]; exact ⟨_, _, hp.inv⟩
    · obtain ⟨s', e, hi, _⟩ := h.sync hd
      rw [e]; exact ⟨_, _, hi.mono (Nat.le_refl _) (by omega) (by omega)⟩
    · obtain ⟨s', e, hi, _⟩ := h.snapshot hd
      rw [e]; exact ⟨_, _, hi.mono (Nat.le_refl _) (by omega) (by omega)⟩
    · by_cases hk : 0 ≤ keep
      · obtain ⟨s', e, hi, _⟩ := h.crash hd keep flip hk
        rw [e]; exact ⟨_, _, hi.mono (Nat.le_refl _) (by omega) (by omega)⟩
      · have e : s.log.crash keep flip = (s.log, 2) := by unfold Lg.crash; rw [hd, if_neg (by simp), if_pos (by omega)]
        unfold So.crash; rw [e]; exact hs
    · rcases h.forget hd hn k hk with ⟨e, _⟩ | ⟨j, _, _, s', e, hp⟩
      · rw [e]; exact hs
      · rw [e]; exact ⟨_, _, hp.inv⟩
end
end Go.Proofs.YtediidajdpdeiaaDoor

/- slices.Sorted(maps.Keys(m)) at keys of the kind int: the kit's contracts, laid here. -/
namespace Go.Proofs
open Go.RowKit Go.Maps Go.Sort Go.Shelf

def Tryd.keysA_ren : Go.Shelf.Ren := ⟨fun | 7 => 113 | 10 => 132 | n => n, fun | 23 => 110 | 26 => 3 | 3 => 146 | 28 => 150 | 0 => 0 | 27 => 149 | 33 => 165 | 4 => 4 | n => n, fun | n => n⟩
theorem Tryd.keysA : Go.Proofs.SlLaysZI.n7 Tryd.prog Tryd.keysA_ren := {
  mixed := by kernel_rfl
  f7 := ⟨Tryd.f113.name, by decide, Tryd.func113.trans (congrArg some (by kernel_rfl))⟩
  f10 := ⟨Tryd.f132.name, by decide, Tryd.func132.trans (congrArg some (by kernel_rfl))⟩
  t0 := Tryd.underlying0
  a0 := Tryd.isAgg0
  z0 := Tryd.sizeOf0
  v0 := Tryd.zeroValue0
  t4 := Tryd.underlying4
  a4 := Tryd.isAgg4
  z4 := Tryd.sizeOf4
  v4 := Tryd.zeroValue4
  t23 := Tryd.underlying110
  a23 := Tryd.isAgg110
  z23 := Tryd.sizeOf110
  v23 := Tryd.zeroValue110
  t26 := Tryd.underlying3
  a26 := Tryd.isAgg3
  z26 := Tryd.sizeOf3
  v26 := Tryd.zeroValue3
  t27 := Tryd.underlying149
  a27 := Tryd.isAgg149
  z27 := Tryd.sizeOf149
  v27 := Tryd.zeroValue149
  t28 := Tryd.underlying150
  a28 := Tryd.isAgg150
  z28 := Tryd.sizeOf150
  v28 := Tryd.zeroValue150
  t33 := Tryd.underlying165
  a33 := Tryd.isAgg165
  z33 := Tryd.sizeOf165
  v33 := Tryd.zeroValue165 }
def Tryd.sortedA_ren : Go.Shelf.Ren := ⟨fun | 6 => 112 | 8 => 130 | 9 => 131 | 11 => 135 | 13 => 137 | 12 => 136 | 23 => 147 | 24 => 148 | 14 => 138 | 15 => 139 | 16 => 140 | 17 => 141 | 18 => 142 | 19 => 143 | 20 => 144 | 21 => 145 | 22 => 146 | 25 => 149 | 26 => 150 | 27 => 151 | 28 => 152 | 29 => 153 | 30 => 154 | 31 => 155 | n => n, fun | 26 => 3 | 28 => 150 | 24 => 46 | 0 => 0 | 3 => 3 | 37 => 116 | 48 => 24 | 50 => 162 | 4 => 4 | 40 => 173 | 39 => 172 | 45 => 178 | 5 => 5 | 9 => 9 | 51 => 182 | 55 => 186 | 57 => 188 | 58 => 41 | 33 => 165 | n => n, fun | n => n⟩
theorem Tryd.sortedA : Go.Proofs.SlLaysZI.n6 Tryd.prog Tryd.sortedA_ren := {
  mixed := by kernel_rfl
  f6 := ⟨Tryd.f112.name, by decide, Tryd.func112.trans (congrArg some (by kernel_rfl))⟩
  f8 := ⟨Tryd.f130.name, by decide, Tryd.func130.trans (congrArg some (by kernel_rfl))⟩
  f11 := ⟨Tryd.f135.name, by decide, Tryd.func135.trans (congrArg some (by kernel_rfl))⟩
  t0 := Tryd.underlying0
  a0 := Tryd.isAgg0
  z0 := Tryd.sizeOf0
  v0 := Tryd.zeroValue0
  t24 := Tryd.underlying46
  a24 := Tryd.isAgg46
  z24 := Tryd.sizeOf46
  v24 := Tryd.zeroValue46
  t26 := Tryd.underlying3
  a26 := Tryd.isAgg3
  z26 := Tryd.sizeOf3
  v26 := Tryd.zeroValue3
  t28 := Tryd.underlying150
  a28 := Tryd.isAgg150
  z28 := Tryd.sizeOf150
  v28 := Tryd.zeroValue150
  i26 := by kernel_rfl }
def Tryd.sortA_ren : Go.Shelf.Ren := ⟨fun | 5 => 131 | 8 => 137 | 7 => 136 | 19 => 147 | 20 => 148 | 10 => 138 | 11 => 139 | 12 => 140 | 13 => 141 | 14 => 142 | 15 => 143 | 16 => 144 | 17 => 145 | 18 => 146 | 30 => 149 | 31 => 150 | 32 => 151 | 33 => 152 | 34 => 153 | 35 => 154 | 40 => 155 | n => n, fun | 23 => 46 | 25 => 3 | 3 => 3 | 32 => 116 | 22 => 46 | 0 => 0 | 44 => 24 | 46 => 162 | 4 => 4 | 36 => 173 | 35 => 172 | 41 => 178 | 5 => 5 | 9 => 9 | 53 => 182 | 57 => 186 | 63 => 188 | 64 => 41 | n => n, fun | n => n⟩
theorem Tryd.sortA : Go.Proofs.SlLaysM.n5 Tryd.prog Tryd.sortA_ren := {
  mixed := by kernel_rfl
  f5 := ⟨Tryd.f131.name, by decide, Tryd.func131.trans (congrArg some (by kernel_rfl))⟩
  f7 := ⟨Tryd.f136.name, by decide, Tryd.func136.trans (congrArg some (by kernel_rfl))⟩
  f8 := Tryd.func137.trans (congrArg some (by kernel_rfl))
  f10 := ⟨Tryd.f138.name, by decide, Tryd.func138.trans (congrArg some (by kernel_rfl))⟩
  f11 := ⟨Tryd.f139.name, by decide, Tryd.func139.trans (congrArg some (by kernel_rfl))⟩
  f12 := ⟨Tryd.f140.name, by decide, Tryd.func140.trans (congrArg some (by kernel_rfl))⟩
  f13 := ⟨Tryd.f141.name, by decide, Tryd.func141.trans (congrArg some (by kernel_rfl))⟩
  f14 := ⟨Tryd.f142.name, by decide, Tryd.func142.trans (congrArg some (by kernel_rfl))⟩
  f15 := ⟨Tryd.f143.name, by decide, Tryd.func143.trans (congrArg some (by kernel_rfl))⟩
  f16 := ⟨Tryd.f144.name, by decide, Tryd.func144.trans (congrArg some (by kernel_rfl))⟩
  f17 := ⟨Tryd.f145.name, by decide, Tryd.func145.trans (congrArg some (by kernel_rfl))⟩
  f18 := ⟨Tryd.f146.name, by decide, Tryd.func146.trans (congrArg some (by kernel_rfl))⟩
  f19 := Tryd.func147.trans (congrArg some (by kernel_rfl))
  f20 := Tryd.func148.trans (congrArg some (by kernel_rfl))
  f30 := ⟨Tryd.f149.name, by decide, Tryd.func149.trans (congrArg some (by kernel_rfl))⟩
  f31 := Tryd.func150.trans (congrArg some (by kernel_rfl))
  f32 := Tryd.func151.trans (congrArg some (by kernel_rfl))
  f33 := ⟨Tryd.f152.name, by decide, Tryd.func152.trans (congrArg some (by kernel_rfl))⟩
  f34 := ⟨Tryd.f153.name, by decide, Tryd.func153.trans (congrArg some (by kernel_rfl))⟩
  f35 := ⟨Tryd.f154.name, by decide, Tryd.func154.trans (congrArg some (by kernel_rfl))⟩
  f40 := ⟨Tryd.f155.name, by decide, Tryd.func155.trans (congrArg some (by kernel_rfl))⟩
  t0 := Tryd.underlying0
  a0 := Tryd.isAgg0
  z0 := Tryd.sizeOf0
  v0 := Tryd.zeroValue0
  t3 := Tryd.underlying3
  a3 := Tryd.isAgg3
  z3 := Tryd.sizeOf3
  v3 := Tryd.zeroValue3
  t4 := Tryd.underlying4
  a4 := Tryd.isAgg4
  z4 := Tryd.sizeOf4
  v4 := Tryd.zeroValue4
  t5 := Tryd.underlying5
  a5 := Tryd.isAgg5
  z5 := Tryd.sizeOf5
  v5 := Tryd.zeroValue5
  t9 := Tryd.underlying9
  a9 := Tryd.isAgg9
  z9 := Tryd.sizeOf9
  v9 := Tryd.zeroValue9
  t22 := Tryd.underlying46
  a22 := Tryd.isAgg46
  z22 := Tryd.sizeOf46
  v22 := Tryd.zeroValue46
  t23 := Tryd.underlying46
  a23 := Tryd.isAgg46
  z23 := Tryd.sizeOf46
  v23 := Tryd.zeroValue46
  t25 := Tryd.underlying3
  a25 := Tryd.isAgg3
  z25 := Tryd.sizeOf3
  v25 := Tryd.zeroValue3
  t32 := Tryd.underlying116
  a32 := Tryd.isAgg116
  z32 := Tryd.sizeOf116
  v32 := Tryd.zeroValue116
  t35 := Tryd.underlying172
  a35 := Tryd.isAgg172
  z35 := Tryd.sizeOf172
  v35 := Tryd.zeroValue172
  t36 := Tryd.underlying173
  a36 := Tryd.isAgg173
  z36 := Tryd.sizeOf173
  v36 := Tryd.zeroValue173
  t41 := Tryd.underlying178
  a41 := Tryd.isAgg178
  z41 := Tryd.sizeOf178
  v41 := Tryd.zeroValue178
  t44 := Tryd.underlying24
  a44 := Tryd.isAgg24
  z44 := Tryd.sizeOf24
  v44 := Tryd.zeroValue24
  t46 := Tryd.underlying162
  a46 := Tryd.isAgg162
  z46 := Tryd.sizeOf162
  v46 := Tryd.zeroValue162
  t53 := Tryd.underlying182
  a53 := Tryd.isAgg182
  z53 := Tryd.sizeOf182
  v53 := Tryd.zeroValue182
  t57 := Tryd.underlying186
  a57 := Tryd.isAgg186
  z57 := Tryd.sizeOf186
  v57 := Tryd.zeroValue186
  t63 := Tryd.underlying188
  a63 := Tryd.isAgg188
  z63 := Tryd.sizeOf188
  v63 := Tryd.zeroValue188
  t64 := Tryd.underlying41
  a64 := Tryd.isAgg41
  z64 := Tryd.sizeOf41
  v64 := Tryd.zeroValue41 }
theorem Tryd.sortsA (m : Nat) : AnyZI.SortsIn Tryd.prog Tryd.sortedA_ren Fence.wide m :=
  ⟨fun blk off cap ss W hH hblk hsz => callsIn_wide.2 (AnyM.slices_Sort_int Tryd.sortA blk off cap ss W hH hblk hsz),
   fun p cap W => callsIn_wide.2 (AnyM.slices_Sort_int_none Tryd.sortA p cap W)⟩
theorem Tryd.keysB (mb : Option Nat) (W : World) : Calls Tryd.prog 113 #[.map mb] W fun e w' => e = .returned (.func (.func 132) #[] #[.pointer (some ⟨W.heap.size, 0, none⟩)]) ∧ w' = W.alloc (.cells #[.map mb] 110) :=
  (callsIn_wide (n := 5)).1 (AnyZI.keys_in Tryd.keysA Fence.wide 5 trivial rfl mb W)
set_option maxHeartbeats 1000000 in
theorem Tryd.sortedB {H : Type} (b nn bx : Nat) (D0 : DataW H) (R : Value → Option (DataW H × List MemPlace)) (w : World) (hbx : w.cell? ⟨bx, 0, none⟩ = some (.map (some b))) (hown : w.ownsMap Tryd.prog 3 R b nn D0) (hmax : Maps.size D0 ≤ maxLen) (hbytes : Maps.size D0 * 8 ≤ 140737488355328) :
    Calls Tryd.prog 112 #[.func (.func 132) #[] #[.pointer (some ⟨bx, 0, none⟩)]] w fun e w' => ∃ (v : Value) (ss : List Int), e = .returned v ∧ ss.Perm (intKeys D0) ∧
      w'.ownsRow w.heap.size 3 1 v ss.length ((ss.mergeSort (fun x y => decide (x ≤ y))).map encZ) ∧ (v = .slice none 0 0 ↔ ss = []) ∧ Below w.heap.size w w' := by
  refine (callsIn_wide (n := 5)).1 ?_
  have hseq : SeqGives Fence.wide 2 Tryd.prog 132 #[.pointer (some ⟨bx, 0, none⟩)] encZ (fun ss => ss.Perm (intKeys D0)) (Maps.size D0) w :=
    AnyZI.keys_gives (ρ := Tryd.keysA_ren) { Tryd.keysA with } Fence.wide _ trivial rfl (by omega) bx b nn D0 _ (World.block_lt_of_cell? w _ hbx) hbx hown
  have cS := AnyZI.sorted_in Tryd.sortedA Fence.wide 5 trivial trivial trivial trivial rfl (by omega) (Tryd.sortsA _) (enters_of Tryd.func131 (by kernel_rfl) rfl) 132 #[.pointer (some ⟨bx, 0, none⟩)] trivial (enters_of Tryd.func132 (by kernel_rfl) rfl) _ _ hmax hbytes _ hseq
  exact cS
end Go.Proofs

/- A store's keys, sorted (layer 8). -/
namespace Go.Proofs.YtediidajdpdeiaaDoor
open Go.RowKit CrcM Go.Sort Go.Shelf
set_option maxRecDepth 100000

theorem sortedI_of_perm {l l' : List Int} (h : l.Perm l') (hs : l'.Pairwise (fun x y => x < y)) : l.mergeSort (fun x y => decide (x ≤ y)) = l' := by
  have h1 : (l.mergeSort (fun x y => decide (x ≤ y))).Pairwise (fun x y : Int => (decide (x ≤ y)) = true) := List.pairwise_mergeSort (fun a b c h1 h2 => by simp only [decide_eq_true_eq] at *; omega) (fun a b => by simp only [Bool.or_eq_true, decide_eq_true_eq]; omega) l
  have h2 : (l.mergeSort (fun x y => decide (x ≤ y))).Perm l' := (List.mergeSort_perm l _).trans h
  exact h2.eq_of_pairwise (le := fun x y : Int => decide (x ≤ y) = true) (fun a b _ _ h1 h2 => by simp only [decide_eq_true_eq] at *; omega) h1 (hs.imp (fun h => by simp only [decide_eq_true_eq]; omega))
theorem intKeys_mapD (E : List (Nat × Value)) : intKeys (mapD E) = E.map (fun p => (p.1 : Int)) := by
  unfold mapD
  show (E.map fun p => (litN p.1, DataW.held (H := Value) p.2)).map (fun p => Go.intOf p.1) = _
  rw [List.map_map]
  rfl
/-- the keys, in a row of their own -/
def KeysDid (w : World) (M : Slots) (e : Ending) (w' : World) : Prop :=
  ∃ A c, e = .returned (.slice A M.length c) ∧ (∀ (j : Nat) (p : Nat × Hd), M[j]? = some p → ∃ g o, A = some ⟨g, o, none⟩ ∧ w'.cell? ⟨g, o + j, none⟩ = some (.int .i64 (p.1 : Int))) ∧ Below w.heap.size w w'
theorem sortedS {w : World} {mb bx : Nat} {M : Slots} (h : SlotsAt w mb M) (hr : Rise M) (hbx : w.cell? ⟨bx, 0, none⟩ = some (.map (some mb))) (hl : M.length ≤ 1048576) :
    Calls Tryd.prog 112 #[.func (.func 132) #[] #[.pointer (some ⟨bx, 0, none⟩)]] w (KeysDid w M) := by
  obtain ⟨Z, h1, rfl, h3, h4⟩ := h
  have hz : (slotsOf Z).length = Z.length := by unfold slotsOf; rw [List.length_map]
  have hv : (valsOf Z).length = Z.length := by unfold valsOf; rw [List.length_map]
  refine (Tryd.sortedB mb Z.length bx _ _ w hbx h1 (by rw [mapD_size, hv]; unfold maxLen; omega) (by rw [mapD_size, hv]; omega)).mono ?_
  rintro e w' ⟨v, ss, rfl, hp, hrow, hn, hb⟩
  have hk : intKeys (mapD (valsOf Z)) = (slotsOf Z).map (fun p => (p.1 : Int)) := by
    rw [intKeys_mapD]
    unfold valsOf slotsOf
    rw [List.map_map, List.map_map]
    rfl
  rw [hk] at hp
  have hlen := hp.length_eq
  rw [List.length_map] at hlen
  have hs := sortedI_of_perm hp (by
    rw [List.pairwise_map]
    exact hr.imp (fun h => by omega))
  rw [hs] at hrow
  rcases hrow.2 with ⟨rfl, hz'⟩ | ⟨gb, cap, cur, rfl, hbase, hgb, r1, r2, r3, r4⟩
  · rw [hlen] at hz'
    refine ⟨none, 0, by rw [hz'], fun j p hj => ?_, hb⟩
    rw [List.eq_nil_of_length_eq_zero hz'] at hj
    simp at hj
  · refine ⟨some ⟨gb, 0, none⟩, cap, by rw [hlen], fun j p hj => ⟨gb, 0, rfl, ?_⟩, hb⟩
    have hjl := (List.getElem?_eq_some_iff.1 hj).1
    have h5 : cur.toList[j]? = some (.int .i64 (p.1 : Int)) := by
      have := congrArg (fun l => l[j]?) r4
      simp only [Nat.mul_one, List.getElem?_map, hj, Option.map_some] at this
      rw [List.getElem?_take, if_pos (by omega)] at this
      exact this
    have h6 : cur[j]? = some (.int .i64 (p.1 : Int)) := by rw [← Array.getElem?_toList]; exact h5
    rw [Nat.zero_add]
    simp [World.cell?, hgb, h6]
end Go.Proofs.YtediidajdpdeiaaDoor

/- A store's Snapshot (layer 8): the walk. -/
namespace Go.Proofs.YtediidajdpdeiaaDoor
open Go.RowKit CrcM
set_option maxRecDepth 100000

theorem flat_len : ∀ {M : Slots}, (∀ p ∈ M, p.1 ≤ 1099511627776 ∧ p.2.ballot ≤ 1099511627776 ∧ p.2.value.length ≤ 32768) → (M.map slotB).flatten.length ≤ M.length * 32798
  | [], _ => by simp
  | p :: t, h => by
    have ih := flat_len (M := t) (fun q hq => h q (List.mem_cons_of_mem _ hq))
    obtain ⟨h1, h2, h3⟩ := h p (List.mem_cons_self ..)
    have n1 := numB_10 (n := p.1) (by omega)
    have n2 := numB_10 (n := p.2.ballot) (by omega)
    have n3 := numB_10 (n := p.2.value.length) (by omega)
    rw [List.map_cons, List.flatten_cons, List.length_append, List.length_cons]
    have : (slotB p).length ≤ 32798 := by
      unfold slotB
      simp only [List.length_append]
      omega
    omega
section
variable {S S1 S2 : Nat → Prop} {w : World} {b lb db mb : Nat} {s : So}
set_option maxHeartbeats 4000000 in
theorem snapshotS (h : SoO S S1 S2 w b lb db mb s) (hh : HalfAt w) (hSh : ¬ S 0) :
    Calls Tryd.prog 67 #[.pointer (some ⟨b, 0, none⟩)] w (SoDid S w (.pointer (some ⟨b, 0, none⟩)) s.snapshot) := by
  obtain ⟨iu, hiu, hzu, hsu, hbu⟩ := info_parts info_u8
  have ha := askedS h none [] 0 (fun j n hj => by simp at hj) (by simp)
  cases hdn : s.log.down
  case true =>
    rw [show askC s [] = 10 from by unfold askC; rw [hdn]; rfl] at ha
    have HE := Lib.hid (show s.snapshot = (s, 10) from by unfold So.snapshot; rw [hdn]; rfl)
    clear hdn
    go_enter Tryd.func67, Tryd.ntmps67
    go_wp2_with (go_at_call 106; refine ha.mono ?_; rintro e w' ⟨rfl, rfl⟩)
    go_ret
    rw [HE.out]
    exact ⟨rfl, h.same, Fr.refl _ _⟩
  rw [show askC s [] = 0 from by unfold askC; rw [hdn]; rfl] at ha
  obtain ⟨hu, H, A0, c0, ps, hl⟩ := id h.log
  have hs := syncL hl hu
  obtain ⟨g0, g1, g2, g3, g4, g5, -, -, -⟩ := h.facts
  have hok := h.ok
  have hpr := hok.pr
  have hba := hok.ba
  have hfw := hok.few
  have HRI := Lib.hid hok.rise
  have HAL := Lib.hid hok.all
  have hper := h.per
  obtain ⟨l1, hl1⟩ : ∃ l, [] ++ numB s.st.promised = l := ⟨_, rfl⟩
  obtain ⟨l2, hl2⟩ : ∃ l, l1 ++ numB s.st.base = l := ⟨_, rfl⟩
  obtain ⟨l3, hl3⟩ : ∃ l, l2 ++ numB s.st.slots.length = l := ⟨_, rfl⟩
  have q1 : l1.length ≤ 10 := by have := numB_10 (n := s.st.promised) (by omega); rw [← hl1]; simpa using this
  have q2 : l2.length ≤ 20 := by have := numB_10 (n := s.st.base) (by omega); rw [← hl2, List.length_append]; omega
  have q3 : l3.length ≤ 30 := by have := numB_10 (n := s.st.slots.length) (by omega); rw [← hl3, List.length_append]; omega
  have hsb : snapB s.st = l3 ++ (s.st.slots.map slotB).flatten := by
    rw [← hl3, ← hl2, ← hl1]
    unfold snapB
    simp
  have he : s.snapshot = if 65536 < (snapB s.st).length then (⟨s.per, s.log.sync.1, s.snap, s.st⟩, 3) else (⟨s.per, Lg.new s.per, (s.snap.swap (frame (snapB s.st))).1, s.st⟩, 0) := by unfold So.snapshot; rw [hdn]; rfl
  have HSB := Lib.hid hsb
  have HE := Lib.hid he
  have H1 := Lib.hid hl1
  have H2 := Lib.hid hl2
  have H3 := Lib.hid hl3
  clear hdn hsb he hl1 hl2 hl3
  go_enter Tryd.func67, Tryd.ntmps67
  go_wp2_with (first
    | (go_at_call 106; refine ha.mono ?_; rintro e w' ⟨rfl, rfl⟩)
    | (go_at_call 46; refine hs.mono ?_; rintro e w2 ⟨rfl, hl2, hf2⟩; obtain ⟨h2, f2⟩ := h.turnLog hl2 hf2; obtain ⟨d0, d1, d2, d3, d4, d5, -, -, -⟩ := h2.facts; have hnum1 := Num_B w2 w2 (Below.refl _ _) none 0 [] (by intro j x hx; simp at hx) (by simp) s.st.promised (by omega); rw [H1.out] at hnum1)
    | (go_at_call 107; refine hnum1.mono ?_; rintro e w3 ⟨v3, rfl, ho3, hb3⟩; obtain ⟨A3, c3, rfl, hc3, hm3⟩ := own_val ho3; have hO3 := Own.of_row ho3 rfl; obtain ⟨x0, x1, x2, x3, x4, x5, -, -, -⟩ := (h2.below hb3).facts; have hnum2 := Num_B w2 w3 hb3 A3 c3 l1 ((hO3.mono (S' := Ever) (fun _ _ => trivial)).rd Non) (by omega) s.st.base (by omega); rw [H2.out] at hnum2; clear hnum1)
    | (go_at_call 107; refine hnum2.mono ?_; rintro e w4 ⟨v4, rfl, ho4, hb4⟩; obtain ⟨A4, c4, rfl, hc4, hm4⟩ := own_val ho4; have hO4 := Own.of_row ho4 rfl; obtain ⟨y0, y1, y2, y3, y4, y5, -, -, -⟩ := (h2.below hb4).facts; have hnum3 := Num_B w2 w4 hb4 A4 c4 l2 ((hO4.mono (S' := Ever) (fun _ _ => trivial)).rd Non) (by omega) s.st.slots.length (by omega); rw [H3.out] at hnum3; have hln := fun ty => (h2.below hb4).map.len ty; clear hnum2)
    | (go_at_call 107; refine hnum3.mono ?_; rintro e w5 ⟨v5, rfl, ho5, hb5⟩; obtain ⟨A5, c5, rfl, hc5, hm5⟩ := own_val ho5; obtain ⟨z0, z1, z2, z3, z4, z5, -, -, -⟩ := (h2.below hb5).facts; clear hnum3)
    | (go_at_call 113; refine (Tryd.keysB (some mb) w5).mono ?_; rintro e w6 ⟨rfl, rfl⟩; have hbK := hb5.alloc hb5.size (.cells #[.map (some mb)] TMp); have hsrt := sortedS (M := s.st.slots) (h2.below hbK).map HRI.out ((Blk.new w5 TMp #[.map (some mb)]).cell 0 rfl) (Nat.le_succ_of_le hfw))
    | (go_at_call 112; refine hsrt.mono ?_; rintro e w7 ⟨Ak, ck, rfl, hkey, hbS⟩))
  have hbl7 : Below w2.heap.size w2 w7 := hbK.trans (hbS.mono hbK.size)
  have hb57 : Below w5.heap.size w5 w7 := (below_new w5 (.cells #[.map (some mb)] TMp)).trans (hbS.mono (by simp))
  have ho7 := ownsRow_below ho5 hb57
  have hn7 : s.st.slots.length ≤ 1048575 := hfw
  clear d0 d1 d2 d3 d4 d5 x0 x1 x2 x3 x4 x5 y0 y1 y2 y3 y4 y5 z0 z1 z2 z3 z4 z5 g0 g1 g2 g3 g4 g5 hb3 hb4 hbK hbS hb57 ho3 ho4 ho5 hO3 hO4 hsrt hln hs ha hl hb5
  have HFL := Lib.hid (flat_len HAL.out)
  have hkl : ∀ k, k ≤ s.st.slots.length → (l3 ++ ((s.st.slots.take k).map slotB).flatten).length ≤ 30 + 1048575 * 32798 := by
    intro k hk
    have := flat_len (M := s.st.slots.take k) (fun q hq => HAL.out q (List.mem_of_mem_take hq))
    rw [List.length_take] at this
    rw [List.length_append]
    have h2 : min k s.st.slots.length * 32798 ≤ 1048575 * 32798 := Nat.mul_le_mul_right _ (by omega)
    omega
  go_loopw [4, 56] (fun v i wr => ∃ k : Nat, k ≤ s.st.slots.length ∧ i = .int .i64 (k : Int) ∧ wr.ownsRow w2.heap.size TB 1 v (l3 ++ ((s.st.slots.take k).map slotB).flatten).length ((l3 ++ ((s.st.slots.take k).map slotB).flatten).map byteV) ∧ Below w2.heap.size w2 wr ∧ Below w7.heap.size w7 wr) (fun _ i _ => s.st.slots.length - (intOf i).toNat)
  case atStart => exact ⟨0, Nat.zero_le _, rfl, by simpa using ho7, hbl7, Below.refl _ _⟩
  case round =>
    obtain ⟨k, hk, rfl, ho, hbw, hbk⟩ := hrel
    have hKL := Lib.hid (hkl k hk)
    clear ho7
    obtain ⟨acc, hacc⟩ : ∃ l, l3 ++ ((s.st.slots.take k).map slotB).flatten = l := ⟨_, rfl⟩
    rw [hacc] at ho hKL
    have hkl' := hKL.out
    have HA := Lib.hid hacc
    clear hacc hKL
    obtain ⟨A, c, rfl, hcA, hmA⟩ := own_val ho
    have hw2 := h2.below hbw
    obtain ⟨g0, g1, g2, g3, g4, g5, -, -, -⟩ := hw2.facts
    by_cases hlt : k < s.st.slots.length
    · obtain ⟨⟨key, ⟨bal, val⟩⟩, hp⟩ : ∃ p, s.st.slots[k]? = some p := ⟨_, List.getElem?_eq_getElem hlt⟩
      obtain ⟨b1, b2, b3⟩ := HAL.out _ (List.mem_of_getElem? hp)
      simp only at b1 b2 b3
      obtain ⟨gk, ok_, rfl, hck⟩ := hkey k _ hp
      simp only at hck
      replace hck := (hbk.cell (p := ⟨gk, ok_ + k, none⟩) (cell_lt hck)).trans hck
      have hget : getN key s.st.slots = some ⟨bal, val⟩ := HRI.out.get (List.mem_of_getElem? hp)
      obtain ⟨vl, hlook, hvl⟩ := (hw2.below (Below.refl _ wr).drew).map.has key (by omega) hget
      obtain ⟨Av, cv, rfl, hcv, hmv, hov⟩ := hvl
      simp only at hcv hov
      have hlt' : (k : Int) < (s.st.slots.length : Int) := by omega
      have HP := Lib.hid hp
      have HG := Lib.hid hget
      clear hp hget
      have hb1' := (Below.refl wr.heap.size wr).drew
      have hb2' := hb1'.alloc (Nat.le_refl _) (.cells #[.int .i64 (key : Int), .int .i64 (bal : Int), .int .i64 (val.length : Int)] TIn)
      go_wp2
      refine wp_region_T #[[], [], [], [], [], [], [4], [4, 6], [], [], [], [], [], [11], [11, 13], [11, 13], [4, 6, 11, 13], [4, 6, 11, 13], []] [4, 6, 11, 13] (fun w' => w'.cell? ⟨b, 5, none⟩ = some (.map (some mb)) ∧ (Instr.lookup TMp (.map (some mb)) (.int .i64 (key : Int)) false).run Tryd.prog w' = .ok (.agg #[.int .i64 (bal : Int), .slice Av val.length cv]) w') 19 rfl (by kernel_rfl) ?_
      (refine wpAnyT_free (i := 0) rfl (by kernel_rfl) rfl (fun _ _ _ h => h) (by kernel_rfl) (fun _ => by go_simp; try rfl) ?_; (try simp only [Act.put, List.setIfInBounds_toArray, List.set_cons_zero, List.set_cons_succ]))
      (refine wpAnyT_free (i := 1) rfl (by kernel_rfl) rfl (fun _ _ _ h => h) (by kernel_rfl) (fun _ => by go_simp; try rfl) ?_; (try simp only [Act.put, List.setIfInBounds_toArray, List.set_cons_zero, List.set_cons_succ]))
      (refine wpAnyT_free (i := 2) rfl (by kernel_rfl) rfl (fun _ _ _ h => h) (by kernel_rfl) (fun _ => by go_simp; try rfl) ?_; (try simp only [Act.put, List.setIfInBounds_toArray, List.set_cons_zero, List.set_cons_succ]))
      (refine wpAnyT_free (i := 3) rfl (by kernel_rfl) rfl (fun _ _ _ h => h) (by kernel_rfl) (fun _ => by go_simp; try rfl) ?_; (try simp only [Act.put, List.setIfInBounds_toArray, List.set_cons_zero, List.set_cons_succ]))
      (refine wpAnyT_read (i := 4) rfl (by kernel_rfl) rfl (fun _ _ _ h => h) (by kernel_rfl) (⟨g5, hlook⟩) (fun w hS_ => by obtain ⟨s_1, s_2⟩ := hS_; go_simp; try rfl) ?_; (try simp only [Act.put, List.setIfInBounds_toArray, List.set_cons_zero, List.set_cons_succ]))
      (refine wpAnyT_free (i := 5) rfl (by kernel_rfl) rfl (fun _ _ _ h => h) (by kernel_rfl) (fun _ => by go_simp; try rfl) ?_; (try simp only [Act.put, List.setIfInBounds_toArray, List.set_cons_zero, List.set_cons_succ]))
      (refine wpAnyT_read (i := 6) rfl (by kernel_rfl) rfl (fun _ _ _ h => h) (by kernel_rfl) (⟨g5, hlook⟩) (fun w hS_ => by obtain ⟨s_1, s_2⟩ := hS_; go_simp; try rfl) ?_; (try simp only [Act.put, List.setIfInBounds_toArray, List.set_cons_zero, List.set_cons_succ]))
      (refine wpAnyT_free (i := 7) rfl (by kernel_rfl) rfl (fun _ _ _ h => h) (by kernel_rfl) (fun _ => by go_simp; try rfl) ?_; (try simp only [Act.put, List.setIfInBounds_toArray, List.set_cons_zero, List.set_cons_succ]))
      (refine wpAnyT_free (i := 8) rfl (by kernel_rfl) rfl (fun _ _ _ h => h) (by kernel_rfl) (fun _ => by go_simp; try rfl) ?_; (try simp only [Act.put, List.setIfInBounds_toArray, List.set_cons_zero, List.set_cons_succ]))
      (refine wpAnyT_free (i := 9) rfl (by kernel_rfl) rfl (fun _ _ _ h => h) (by kernel_rfl) (fun _ => by go_simp; try rfl) ?_; (try simp only [Act.put, List.setIfInBounds_toArray, List.set_cons_zero, List.set_cons_succ]))
      (refine wpAnyT_free (i := 10) rfl (by kernel_rfl) rfl (fun _ _ _ h => h) (by kernel_rfl) (fun _ => by go_simp; try rfl) ?_; (try simp only [Act.put, List.setIfInBounds_toArray, List.set_cons_zero, List.set_cons_succ]))
      (refine wpAnyT_read (i := 11) rfl (by kernel_rfl) rfl (fun _ _ _ h => h) (by kernel_rfl) (⟨g5, hlook⟩) (fun w hS_ => by obtain ⟨s_1, s_2⟩ := hS_; go_simp; try rfl) ?_; (try simp only [Act.put, List.setIfInBounds_toArray, List.set_cons_zero, List.set_cons_succ]))
      (refine wpAnyT_free (i := 12) rfl (by kernel_rfl) rfl (fun _ _ _ h => h) (by kernel_rfl) (fun _ => by go_simp; try rfl) ?_; (try simp only [Act.put, List.setIfInBounds_toArray, List.set_cons_zero, List.set_cons_succ]))
      (refine wpAnyT_read (i := 13) rfl (by kernel_rfl) rfl (fun _ _ _ h => h) (by kernel_rfl) (⟨g5, hlook⟩) (fun w hS_ => by obtain ⟨s_1, s_2⟩ := hS_; go_simp; try rfl) ?_; (try simp only [Act.put, List.setIfInBounds_toArray, List.set_cons_zero, List.set_cons_succ]))
      (refine wpAnyT_free (i := 14) rfl (by kernel_rfl) rfl (fun _ _ _ h => h) (by kernel_rfl) (fun _ => by go_simp; try rfl) ?_; (try simp only [Act.put, List.setIfInBounds_toArray, List.set_cons_zero, List.set_cons_succ]))
      (refine wpAnyT_free (i := 15) rfl (by kernel_rfl) rfl (fun _ _ _ h => h) (by kernel_rfl) (fun _ => by go_simp; try rfl) ?_; (try simp only [Act.put, List.setIfInBounds_toArray, List.set_cons_zero, List.set_cons_succ]))
      (refine wpAnyT_free (i := 18) rfl (by kernel_rfl) rfl (fun _ _ _ h => h) (by kernel_rfl) (fun _ => by go_simp; try rfl) ?_; (try simp only [Act.put, List.setIfInBounds_toArray, List.set_cons_zero, List.set_cons_succ]))
      refine wpAnyT_sink (i := 16) rfl (by kernel_rfl) rfl (by kernel_rfl) ?_
      intro K_ hK_
      go_wp2
      (try (refine hK_ _ _ ?_; clear hK_ K_))
      (try simp only [Act.put, List.setIfInBounds_toArray, List.set_cons_zero, List.set_cons_succ])
      (refine wpAnyT_free (i := 17) rfl (by kernel_rfl) rfl (fun _ _ _ h => h) (by kernel_rfl) (fun _ => by go_simp; try rfl) ?_; (try simp only [Act.put, List.setIfInBounds_toArray, List.set_cons_zero, List.set_cons_succ]))
      refine wpAnyT_done (by kernel_rfl) ?_ _
      go_wp2
      simp only [List.getElem_toArray, List.getElem_cons_zero, List.getElem_cons_succ]
      have hb8 : Below wr.heap.size wr (wr.alloc (.cells #[.int .i64 (key : Int), .int .i64 (bal : Int), .int .i64 (val.length : Int)] TIn)).drew := (below_new wr _).drew
      have ho8 := (ownsRow_below ho (below_new wr (.cells #[.int .i64 (key : Int), .int .i64 (bal : Int), .int .i64 (val.length : Int)] TIn))).drew
      have hB8 := (Blk.new wr TIn #[.int .i64 (key : Int), .int .i64 (bal : Int), .int .i64 (val.length : Int)]).drew
      have hbw8 := hbw.trans (hb8.mono hbw.size)
      have hbk8 := hbk.trans (hb8.mono hbk.size)
      clear hlook hov g0 g1 g2 g3 g4 g5 hck hb8 hw2 hb1' hb2' ho
      have hrl : wr.heap.size < (wr.alloc (.cells #[.int .i64 (key : Int), .int .i64 (bal : Int), .int .i64 (val.length : Int)] TIn)).drew.heap.size := hB8.lt
      generalize (wr.alloc (.cells #[.int .i64 (key : Int), .int .i64 (bal : Int), .int .i64 (val.length : Int)] TIn)).drew = w8 at *
      obtain ⟨ns, hns⟩ : ∃ ns : List Nat, [key, bal, val.length] = ns := ⟨_, rfl⟩
      have hnl : ns.length = 3 := by rw [← hns]; rfl
      have hcell : ∀ (j n : Nat), ns[j]? = some n → w8.cell? ⟨wr.heap.size, j, none⟩ = some (.int .i64 (n : Int)) ∧ n ≤ 1099511627776 := by
        intro j n hj
        rw [← hns] at hj
        match j, hj with
        | 0, hj => injection hj with hj; subst hj; exact ⟨hB8.cell 0 rfl, b1⟩
        | 1, hj => injection hj with hj; subst hj; exact ⟨hB8.cell 1 rfl, b2⟩
        | 2, hj => injection hj with hj; subst hj; exact ⟨hB8.cell 2 rfl, by omega⟩
        | j + 3, hj => simp at hj
      have HNS := Lib.hid hns
      clear hns hB8
      generalize wr.heap.size = g8 at hcell
      go_loopw [4, 78] (fun v i wx => ∃ m : Nat, m ≤ 3 ∧ i = .int .i64 (m : Int) ∧ wx.ownsRow (if m = 0 then w2.heap.size else w8.heap.size) TB 1 v (acc ++ ((ns.take m).map numB).flatten).length ((acc ++ ((ns.take m).map numB).flatten).map byteV) ∧ Below w2.heap.size w2 wx ∧ Below w7.heap.size w7 wx ∧ Below w8.heap.size w8 wx) (fun _ i _ => 3 - (intOf i).toNat)
      case atStart => exact ⟨0, Nat.zero_le _, rfl, by simpa using ho8, hbw8, hbk8, Below.refl _ _⟩
      case round =>
        obtain ⟨m, hm, rfl, ho9, hbw9, hbk9, hb89⟩ := hrel
        have hsz8 := hbk8.size
        have hsz8' := hbw8.size
        clear ho8
        obtain ⟨acc9, hacc⟩ : ∃ l, acc ++ ((ns.take m).map numB).flatten = l := ⟨_, rfl⟩
        rw [hacc] at ho9
        have hal : acc9.length ≤ acc.length + 30 := by
          rw [← hacc, List.length_append]
          have : ((ns.take m).map numB).flatten.length ≤ 30 := by
            have hle : ∀ l : List Nat, (∀ n ∈ l, n ≤ 1099511627776) → (l.map numB).flatten.length ≤ l.length * 10 := by
              intro l
              induction l with
              | nil => intro _; simp
              | cons x r ih =>
                intro hx
                have h1 := ih (fun n hn => hx n (List.mem_cons_of_mem _ hn))
                have h2 := numB_10 (n := x) (by have := hx x (List.mem_cons_self ..); omega)
                rw [List.map_cons, List.flatten_cons, List.length_append, List.length_cons]
                omega
            have := hle (ns.take m) (fun n hn => by
              obtain ⟨j, hj⟩ := List.mem_iff_getElem?.1 (List.mem_of_mem_take hn)
              exact (hcell j n hj).2)
            rw [List.length_take] at this
            omega
          omega
        have HA9 := Lib.hid hacc
        clear hacc
        obtain ⟨A9, c9, rfl, hc9, hm9⟩ := own_val ho9
        by_cases hlt3 : m < 3
        · obtain ⟨n, hn⟩ : ∃ n, ns[m]? = some n := ⟨_, List.getElem?_eq_getElem (show m < ns.length by omega)⟩
          obtain ⟨hcn, hnb⟩ := hcell m n hn
          replace hcn := (hb89.cell (p := ⟨g8, m, none⟩) (cell_lt hcn)).trans hcn
          have hnum := Num_B wr wr (Below.refl _ _) A9 c9 acc9 (((Own.of_row ho9 rfl).mono (S' := Ever) (fun _ _ => trivial)).rd Non) (by omega) n (by omega)
          have HNX := Lib.hid (show acc9 ++ numB n = acc ++ ((ns.take (m + 1)).map numB).flatten by rw [List.take_add_one, hn, ← HA9.out]; simp)
          have hlt3' : (m : Int) < 3 := by omega
          clear hn
          go_wp2_with (go_at_call 107; refine hnum.mono ?_; rintro e w10 ⟨v10, rfl, ho10, hb10⟩; obtain ⟨A10, c10, rfl, hc10, hm10⟩ := own_val ho10)
          go_roundw
          case rel => exact ⟨m + 1, by omega, by go_num, by have h10 := ownsRow_mono ho10 hb89.size; rw [if_neg (Nat.succ_ne_zero m)]; rw [← HNX.out]; rw [List.length_append] at h10 ⊢; exact h10, hbw9.trans (hb10.mono hbw9.size), hbk9.trans (hb10.mono hbk9.size), hb89.trans (hb10.mono hb89.size)⟩
          case measure => simp [intOf]; omega
        · obtain rfl : m = 3 := by omega
          rw [if_neg (by decide)] at ho9
          have hw9 := h2.below hbw9
          obtain ⟨-, -, -, -, -, g5, -, -, -⟩ := hw9.facts
          obtain ⟨vl, hlook9, hvl⟩ := hw9.map.has key (by omega) HG.out
          obtain ⟨Av', cv', rfl, hcv', hmv', hov'⟩ := hvl
          simp only at hcv' hov'
          have hfld := fun (w' : World) => show (Instr.field THd (.agg #[.int .i64 (bal : Int), .slice Av' val.length cv']) 1).run Tryd.prog w' = .ok (.slice Av' val.length cv') w' from by go_simp; try rfl
          have HX := Lib.hid (show l3 ++ ((s.st.slots.take (k + 1)).map slotB).flatten = acc9 ++ val by
            rw [List.take_add_one, HP.out, ← HA9.out, ← HA.out, ← HNS.out]
            simp [slotB])
          go_wp2_with (at_builtin; refine wpList_appB rfl (.tmp 89) (.tmp 96) 22 rfl iu Tryd.underlying22 hiu hzu hsu hbu w8.heap.size _ acc9.length acc9 rfl ho9 Non Av' val.length cv' val rfl rfl (hov'.rd Non) (by omega) hb89.size ?_; intro v11 w11 ho11 hg11 hat11)
          exact ⟨⟨k + 1, by omega, by go_num, by rw [HX.out]; rw [List.length_append]; exact ownsRow_mono ho11 hsz8', hbw9.grown hg11 hbw9.size (fun j hj => Nat.le_trans hsz8' (ho9.lt j hj).1), hbk9.grown hg11 hbk9.size (fun j hj => Nat.le_trans hsz8 (ho9.lt j hj).1)⟩, by simp [intOf]; omega⟩
    · obtain rfl : k = s.st.slots.length := by omega
      rw [List.take_of_length_le (Nat.le_refl _)] at HA
      have hO := (Own.of_row ho rfl).mono (S' := Ever) (fun _ _ => trivial)
      have hhr := (hh.fr f2 hSh).below hbw (hh.fr f2 hSh).lt
      have hfr := frame_B wr hhr A acc c acc.length (hO.rd Non) rfl (by unfold maxLen; omega)
      have HSN := Lib.hid (show snapB s.st = acc by rw [HSB.out]; exact HA.out)
      by_cases hlong : acc.length ≤ 65536
      · have HE2 := Lib.hid (show s.snapshot = (⟨s.per, Lg.new s.per, (s.snap.swap (frame acc)).1, s.st⟩, 0) by rw [HE.out, HSN.out, if_neg (by omega)])
        simp only [if_pos hlong] at hfr
        unfold Made at hfr
        have hper2 : 1 ≤ (s.per : Int) ∧ (s.per : Int) ≤ 1024 := by omega
        go_wp2_with (first
          | (go_at_call 26; refine hfr.mono ?_; rintro e w3 ⟨A3', c3', rfl, ho3', hc3', hm3', hb3'⟩; have hw3 := hw2.below hb3'; obtain ⟨-, -, e2, -⟩ := hw3.facts; obtain ⟨Ad, cd, hd3⟩ := hw3.snap; have hsw := swap_B hd3 A3' (frame acc) c3' (by rw [length_frame]; omega) ((ho3'.mono (S' := Ever) (fun _ _ => trivial)).rd S2))
          | (go_at_call 114; refine hsw.mono ?_; rintro e w4 ⟨rfl, hd4, hf4⟩; obtain ⟨h4, f4⟩ := hw3.turnSnap hd4 hf4; obtain ⟨p0, -⟩ := h4.facts; have hnw := newL w4 (s.per : Int); simp only [if_pos hper2, Int.toNat_natCast] at hnw)
          | (go_at_call 34; refine hnw.mono ?_; rintro e w5 ⟨_, rfl, ⟨lb', rfl, hl5⟩, hb5⟩; have h5 := h4.below hb5; obtain ⟨r0, r1, r2, r3, r4, r5, rz1, -, -⟩ := h5.facts; unfold ptr))
        go_ret
        rw [HE2.out]
        have hlt4 : ∀ x, Nw w4 w5 x → w4.heap.size ≤ x := fun x hx => hx.1
        have h5m := h5.mono (S' := Up (Up (Up S w w2) w3 w4) w4 w5) (fun x hx => .inl hx) (Up.lt h4.lt hb5.size)
        obtain ⟨h6, f6⟩ := h5m.setLog hl5 (fun x hx => .inr hx) (fun x hx => ⟨fun q => by have := h4.lt x (h4.h2 x q); have := hx.1; omega, fun e => by have := h4.lt b h4.hb; have := hx.1; omega, fun e => by have := h4.lt mb h4.hm; have := hx.1; omega⟩)
        have s1 := f2.size
        have s2 := hbw.size
        have s3 := hb3'.size
        have s4 := hf4.size
        have s5 := hb5.size
        have hfin : ∀ x, Up (Up (Up S w w2) w3 w4) w4 w5 x → Up S w (w5.setCell ⟨b, 1, none⟩ (.pointer (some ⟨lb', 0, none⟩))) x := by
          have hz : (w5.setCell ⟨b, 1, none⟩ (.pointer (some ⟨lb', 0, none⟩))).heap.size = w5.heap.size := by simp [World.setCell]
          rintro x (((hx | hx) | hx) | hx)
          · exact .inl hx
          · exact .inr ⟨hx.1, by have := hx.2; omega⟩
          · exact .inr ⟨by have := hx.1; omega, by have := hx.2; omega⟩
          · exact .inr ⟨by have := hx.1; omega, by have := hx.2; omega⟩
        refine ⟨rfl, (h6.mono hfin (fun x hx => ?_)).is, ?_⟩
        · have hz : (w5.setCell ⟨b, 1, none⟩ (.pointer (some ⟨lb', 0, none⟩))).heap.size = w5.heap.size := by simp [World.setCell]
          rcases hx with hx | hx
          · have := h.lt x hx; omega
          · exact hx.2
        · have k1 : Fr S w w3 := (f2.trans' (Fr.of_below (S := Non) hbw) (fun _ _ h => h.elim)).trans' (Fr.of_below (S := Non) hb3') (fun _ _ h => h.elim)
          have k2 := k1.trans' f4 (fun x hx h => by rcases h with h | h; exact h; have := h.1; omega)
          have k3 := k2.trans' (Fr.of_below (S := Non) hb5) (fun _ _ h => h.elim)
          exact k3.trans' f6 (fun x hx h => by
            rcases h with ((h | h) | h) | h
            · exact h
            · have := h.1; omega
            · have := h.1; omega
            · have := h.1; omega)
      · have HE2 := Lib.hid (show s.snapshot = (⟨s.per, s.log.sync.1, s.snap, s.st⟩, 3) by rw [HE.out, HSN.out, if_pos (by omega)])
        simp only [if_neg hlong] at hfr
        go_wp2_with (go_at_call 26; refine hfr.mono ?_; rintro e w3 ⟨rfl, rfl⟩)
        go_ret
        rw [HE2.out]
        have s1 := f2.size
        have s2 := hbw.size
        refine ⟨rfl, ?_, f2.trans' (Fr.of_below (S := Non) hbw) (fun _ _ h => h.elim)⟩
        exact (hw2.mono (S' := Up S w w3) (fun x hx => hx.imp_right (fun q => ⟨q.1, by have := q.2; omega⟩)) (fun x hx => by
          rcases hx with hx | hx
          · have := h.lt x hx; omega
          · exact hx.2)).is
end
end Go.Proofs.YtediidajdpdeiaaDoor
