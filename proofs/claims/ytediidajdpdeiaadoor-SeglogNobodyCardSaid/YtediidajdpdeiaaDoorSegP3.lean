/- What the statements about a log of segments say (layer 7), in plain words. -/
import Derived.Test.YtediidajdpdeiaaDoorSegP2
namespace Go.Proofs.YtediidajdpdeiaaDoor
open CrcM

/-- so many segments -/
theorem Lg.inv.count {n m : Nat} {L : Lg} (h : L.inv n) (hd : L.down = false) (hm : L.recs.length = m + 1) (hs : ∀ g, L.segs.getLast? = some g → g.recs ≠ []) : L.segs.length = m / L.per + 1 := by
  rw [L.recs_eq hd] at hm
  cases hl : L.segs.getLast? with
  | none =>
    rw [List.getLast?_eq_none_iff] at hl
    rw [hl] at hm
    cases hm
  | some g =>
    have h1 := h.chain.count hl
    have h2 := (h.segs g (List.mem_of_getLast? hl)).inv0.few
    have h3 : 0 < g.recs.length := List.length_pos_iff.2 (hs g hl)
    have h4 := h.per1
    obtain ⟨s, hsl⟩ : ∃ s, L.segs.length = s + 1 := by
      cases hz : L.segs with
      | nil => rw [hz] at hl; cases hl
      | cons x t => exact ⟨t.length, rfl⟩
    rw [hsl] at h1 ⊢
    rw [hm, Nat.succ_mul] at h1
    have e : m = (g.recs.length - 1) + s * L.per := by omega
    rw [e, Nat.add_mul_div_right _ _ (by omega), Nat.div_eq_of_lt (by omega)]
    omega

theorem safeLen_map {f : Sg → Sg} (h1 : ∀ g, (f g).safe = g.safe) (h2 : ∀ g, (f g).recs = g.recs) : ∀ gs : List Sg, safeLen (gs.map f) = safeLen gs
  | [] => rfl
  | g :: t => by rw [List.map_cons, safeLen, safeLen, h1, h2, safeLen_map h1 h2 t]

/-- what a log is behind a crash and a restart -/
structure Fell (n : Nat) (L L' : Lg) : Prop where
  inv : L'.inv n
  down : L'.down = false
  per : L'.per = L.per
  recs : L'.recs <+: L.recs
  kept : safeLen L.segs ≤ L'.recs.length
  base : L'.recs ≠ [] → L'.base = L.base
  safe : L'.safe = L'.len
  head : ∀ g, L.segs.head? = some g → g.d.kept ≠ 0 → ∃ g', L'.segs.head? = some g' ∧ g'.d.kept ≠ 0 ∧ g'.base = g.base
theorem Lg.inv.fall {n : Nat} {L : Lg} (h : L.inv n) (hd : L.down = false) (hn : n ≤ 4611686018427387904) (keep flip : Int) (hk : 0 ≤ keep) :
    ∃ L1 L2, L.crash keep flip = (L1, 0) ∧ L1.restart = (L2, 0) ∧ L1.up ∧ Fell n L L2 := by
  obtain ⟨e1, h1⟩ := h.crash hd keep flip hk
  obtain ⟨L2, e2, r⟩ := h1.restart rfl hn
  refine ⟨_, L2, e1, e2, h1.up, r.inv, r.down, r.per, ?_, ?_, fun hne => ?_, r.safe, fun g hg hg0 => ?_⟩
  · rw [L.recs_eq hd, ← recsS_map (f := Sg.crash keep flip) (fun _ => rfl) L.segs]; exact r.recs
  · rw [← safeLen_map (f := Sg.crash keep flip) (fun _ => rfl) (fun _ => rfl) L.segs]; exact r.kept
  · rw [L.base_eq hd, ← headS_map (f := Sg.crash keep flip) (fun _ => rfl) L.segs]
    refine r.base fun e => hne ?_
    rw [L2.recs_eq r.down, e]
    rfl
  · have hk2 : (g.crash keep flip).d.kept ≠ 0 := by
      have : (g.crash keep flip).d.kept = g.d.kept := by
        unfold Sg.crash Dk.crash
        simp only
        split
        · rfl
        · split
          · rfl
          · rfl
      rw [this]; exact hg0
    exact r.head (g.crash keep flip) (by simp [List.head?_map, hg]) hk2

/-- what was synced is there -/
structure Keeps (was : List (List UInt8)) (en n : Nat) (L : Lg) : Prop where
  inv : L.inv n
  down : L.down = false
  pre : was <+: L.recs
  safe : was.length ≤ safeLen L.segs
  head : en = 0 ∨ ∃ g, L.segs.head? = some g ∧ g.d.kept ≠ 0 ∧ g.base + was.length = en

theorem Keeps.end_le {was : List (List UInt8)} {en n : Nat} {L : Lg} (h : Keeps was en n L) : en ≤ L.len := by
  rcases h.head with h1 | ⟨g, h1, h2, h3⟩
  · omega
  · rw [h.inv.len h.down]
    have hb : L.base = g.base := by
      rw [L.base_eq h.down]
      cases hs : L.segs with
      | nil => rw [hs] at h1; cases h1
      | cons x t =>
        rw [hs] at h1
        injection h1 with h1
        rw [← h1]
        rfl
    have := h.pre.length_le
    omega
theorem Keeps.mono {was : List (List UInt8)} {en n n' : Nat} {L : Lg} (h : Keeps was en n L) (hn : n ≤ n') : Keeps was en n' L := ⟨h.inv.mono hn, h.down, h.pre, h.safe, h.head⟩
theorem Keeps.start {n : Nat} {L : Lg} (h : L.inv n) (hd : L.down = false) : ∃ L', L.sync = (L', 0) ∧ Keeps L'.recs L'.len n L' ∧ L'.safe = L'.len := by
  obtain ⟨L', e, h1, h2, h3, h4, h5, h6, h7⟩ := h.sync hd
  have hes : L' = ⟨L.per, L.segs.map Sg.sync, false⟩ := by
    unfold Lg.sync at e
    rw [hd] at e
    simp only [Bool.false_eq_true, if_false] at e
    injection e with e
    exact e.symm
  refine ⟨L', e, ⟨h1, h2, List.prefix_refl _, ?_, ?_⟩, h6⟩
  · rw [L'.recs_eq h2]
    refine Nat.le_of_eq (safeLen_all _ fun g hg => ?_).symm
    rw [hes] at hg
    obtain ⟨g', hg', rfl⟩ := List.mem_map.1 hg
    rfl
  · cases hs : L.segs with
    | nil =>
      left
      rw [hes, hs]
      rfl
    | cons x t =>
      right
      have hx : x ∈ L.segs := by rw [hs]; exact List.mem_cons_self ..
      have h8 := ((h.segs x hx).sync ((h.down x hx).trans hd)).1
      refine ⟨x.sync, by rw [hes, hs]; rfl, ?_, ?_⟩
      · rcases h8.inv0.kept with ⟨h9, _⟩ | ⟨h9, h10⟩
        · rw [h9]
          unfold segB
          rw [frames_cons, List.length_append, length_frame]
          omega
        · exact h8.held (List.eq_nil_of_length_eq_zero (by
            have : x.sync.safe = x.sync.recs.length := rfl
            omega))
      · rw [h1.len h2, L'.base_eq h2, hes, hs]
        rfl
theorem Keeps.append {was : List (List UInt8)} {en n : Nat} {L : Lg} (h : Keeps was en n L) (hn : n < 4611686018427387904) (rec : List UInt8) (hr : rec.length ≤ 400) :
    L.append rec = (L, 0, 7) ∨ ∃ L', L.append rec = (L', L.len, 0) ∧ Keeps was en (n + 1) L' := by
  rcases h.inv.append h.down hn rec hr with ⟨_, _, e⟩ | ⟨L', e, a⟩
  · exact .inl e
  refine .inr ⟨L', e, a.inv, a.down, ?_, ?_, ?_⟩
  · rw [a.recs]; exact h.pre.trans (List.prefix_append _ _)
  · have h1 := a.safe
    rw [a.inv.safe_eq a.down, h.inv.safe_eq h.down, a.base] at h1
    have := h.safe
    omega
  · refine h.head.imp_right ?_
    rintro ⟨g, h1, h2, h3⟩
    obtain ⟨g', h4, h5, h6⟩ := a.head g h1
    exact ⟨g', h4, by rw [h5]; exact h2, by rw [h6]; exact h3⟩
theorem Keeps.fall {was : List (List UInt8)} {en n : Nat} {L : Lg} (h : Keeps was en n L) (hn : n ≤ 4611686018427387904) (keep flip : Int) (hk : 0 ≤ keep) :
    ∃ L1 L2, L.crash keep flip = (L1, 0) ∧ L1.restart = (L2, 0) ∧ L1.up ∧ Keeps was en n L2 := by
  obtain ⟨L1, L2, e1, e2, hu, f⟩ := h.inv.fall h.down hn keep flip hk
  refine ⟨L1, L2, e1, e2, hu, f.inv, f.down, ?_, ?_, ?_⟩
  · refine List.prefix_of_prefix_length_le h.pre f.recs ?_
    have := f.kept
    have := h.safe
    omega
  · have h1 := f.safe
    rw [f.inv.safe_eq f.down, f.inv.len f.down] at h1
    have := f.kept
    have := h.safe
    omega
  · refine h.head.imp_right ?_
    rintro ⟨g, h1, h2, h3⟩
    obtain ⟨g', h4, h5, h6⟩ := f.head g h1 h2
    exact ⟨g', h4, h5, by rw [h6]; exact h3⟩

/-- any call leaves a log's law -/
theorem Lg.inv.calls {n : Nat} {L : Lg} (h : L.inv n) (hn : n < 4611686018427387904) :
    (∀ rec : List UInt8, rec.length ≤ 400 → (L.append rec).1.inv (n + 1)) ∧ L.sync.1.inv (n + 1) ∧ (∀ k, (L.drop k).1.inv (n + 1)) ∧ (∀ k f, (L.crash k f).1.inv (n + 1)) ∧ L.restart.1.inv (n + 1) := by
  have h' := h.mono (Nat.le_succ n)
  refine ⟨fun rec hr => ?_, ?_, fun k => ?_, fun k f => ?_, ?_⟩
  · cases hd : L.down
    · rcases h.append hd hn rec hr with ⟨_, _, e⟩ | ⟨L', e, a⟩
      · rw [e]; exact h'
      · rw [e]; exact a.inv
    · unfold Lg.append
      rw [hd]
      exact h'
  · cases hd : L.down
    · obtain ⟨L', e, h1, _⟩ := h'.sync hd
      rw [e]; exact h1
    · unfold Lg.sync
      rw [hd]
      exact h'
  · cases hd : L.down
    · rcases h'.drop hd k with ⟨_, e⟩ | ⟨_, L', e, h1, _⟩
      · rw [e]; exact h'
      · rw [e]; exact h1
    · unfold Lg.drop
      rw [hd]
      exact h'
  · cases hd : L.down
    · by_cases hk : 0 ≤ k
      · obtain ⟨e, h1⟩ := h'.crash hd k f hk
        rw [e]; exact h1
      · unfold Lg.crash
        rw [hd]
        simp only [Bool.false_eq_true, if_false]
        rw [if_pos (by omega)]
        exact h'
    · unfold Lg.crash
      rw [hd]
      exact h'
  · cases hd : L.down
    · unfold Lg.restart
      rw [hd]
      exact h'
    · obtain ⟨L', e, r⟩ := h'.restart hd (by omega)
      rw [e]; exact r.inv
end Go.Proofs.YtediidajdpdeiaaDoor
