/- The log's functions that read (layer 7): the walks. -/
import Derived.Test.YtediidajdpdeiaaDoorJ4

namespace Go.Proofs.YtediidajdpdeiaaDoor
open Go.RowKit CrcM
set_option maxRecDepth 100000
variable [Hole]

omit [Hole] in
theorem drop_of {α : Type} {l : List α} {k : Nat} {x : α} (h : l[k]? = some x) : l.drop k = x :: l.drop (k + 1) := by
  obtain ⟨hlt, e⟩ := List.getElem?_eq_some_iff.1 h
  rw [List.drop_eq_getElem_cons hlt, e]

/-- what a function that only reads leaves -/
def Told (w : World) (v : Value) (e : Ending) (w' : World) : Prop := e = .returned v ∧ Below w.heap.size w w'

section
variable {S H : Nat → Prop} {w : World} {b : Nat} {A : Option Addr} {c : Nat} {ps : List Nat} {L : Lg}

theorem noneL (h : LogO S H w b A c ps L) : Calls Tryd.prog 87 #[.pointer (some ⟨b, 0, none⟩)] w fun e w' => e = .returned (.bool false) ∧ w = w' := by
  obtain ⟨per, gs, dn⟩ := L
  obtain ⟨c0, c1, c2, z1, z2, q0, q1, q2, q3, q4⟩ := h.facts
  go_enter Tryd.func87, Tryd.ntmps87
  go_wp2
  go_ret
  exact ⟨rfl, rfl⟩

theorem askedL (h : LogO S H w b A c ps L) : Calls Tryd.prog 82 #[.pointer (some ⟨b, 0, none⟩)] w fun e w' => e = .returned (.int .i64 (if L.down then 10 else 0)) ∧ w = w' := by
  obtain ⟨per, gs, dn⟩ := L
  obtain ⟨c0, c1, c2, z1, z2, q0, q1, q2, q3, q4⟩ := h.facts
  cases dn
  all_goals
    go_enter Tryd.func82, Tryd.ntmps82
    go_wp2_with (go_at_call 87; refine (noneL h).mono ?_; rintro e w' ⟨rfl, rfl⟩)
    go_ret
    exact ⟨rfl, rfl⟩

theorem downL (h : LogO S H w b A c ps L) : Calls Tryd.prog 48 #[.pointer (some ⟨b, 0, none⟩)] w fun e w' => e = .returned (.bool L.down) ∧ w = w' := by
  obtain ⟨per, gs, dn⟩ := L
  obtain ⟨c0, c1, c2, z1, z2, q0, q1, q2, q3, q4⟩ := h.facts
  go_enter Tryd.func48, Tryd.ntmps48
  go_wp2_with (go_at_call 87; refine (noneL h).mono ?_; rintro e w' ⟨rfl, rfl⟩)
  go_ret
  exact ⟨rfl, rfl⟩

/-- the last segment's place -/
def lastV (ps : List Nat) : Value := match ps.getLast? with
  | none => .pointer none
  | some p => .pointer (some ⟨p, 0, none⟩)

theorem lastL (h : LogO S H w b A c ps L) : Calls Tryd.prog 83 #[.pointer (some ⟨b, 0, none⟩)] w (Told w (lastV ps)) := by
  obtain ⟨per, gs, dn⟩ := L
  obtain ⟨c0, c1, c2, z1, z2, q0, q1, q2, q3, q4⟩ := h.facts
  rcases Nat.eq_zero_or_pos ps.length with h0 | h0
  · obtain rfl := List.eq_nil_of_length_eq_zero h0
    clear q1 q2 q3 h0
    go_enter Tryd.func83, Tryd.ntmps83
    go_wp2_with (go_at_call 87; refine (noneL h).mono ?_; rintro e w' ⟨rfl, rfl⟩)
    go_ret
    exact ⟨rfl, Below.refl _ _⟩
  · obtain ⟨p, hp⟩ : ∃ p, ps[ps.length - 1]? = some p := ⟨_, List.getElem?_eq_getElem (show ps.length - 1 < ps.length by omega)⟩
    have e : lastV ps = .pointer (some ⟨p, 0, none⟩) := by
      unfold lastV; rw [List.getLast?_eq_getElem?, hp]
    rw [e]
    clear e
    obtain ⟨ad, rfl, ca⟩ := h.ptrAt hp
    have k1 : ((ps.length : Int) == 0) = false := by rw [beq_eq_false_iff_ne]; omega
    have k2 : IntKind.i64.wrap ((ps.length : Int) - 1) = (ps.length : Int) - 1 := by rw [IntKind.wrap_i64]; omega
    have k3 : ((ps.length : Int) - 1).toNat = ps.length - 1 := by omega
    have k4 : (0 : Int) ≤ (ps.length : Int) - 1 := by omega
    have k5 : 1 ≤ (ps.length : Int) := by omega
    have k6 : (ps.length : Int) - 1 < (ps.length : Int) := by omega
    clear q1 hp
    go_enter Tryd.func83, Tryd.ntmps83
    go_wp2_with (go_at_call 87; refine (noneL h).mono ?_; rintro e w' ⟨rfl, rfl⟩)
    refine wp_region_T #[[], [], [], [], [], [], [], [], [7], [7], [3, 7], [3, 7], [3, 7, 11]] [3, 7, 11] (fun w' => w'.cell? ⟨b, 1, none⟩ = some (.slice (some ad) ps.length c) ∧ w'.cell? (ad.add (ps.length - 1)) = some (.pointer (some ⟨p, 0, none⟩))) 13 rfl (by kernel_rfl) ?_
    (refine wpAnyT_free (i := 0) rfl (by kernel_rfl) rfl (fun _ _ _ h => h) (by kernel_rfl) (fun _ => by go_simp; try rfl) ?_; (try simp only [Act.put, List.setIfInBounds_toArray, List.set_cons_zero, List.set_cons_succ]))
    (refine wpAnyT_free (i := 1) rfl (by kernel_rfl) rfl (fun _ _ _ h => h) (by kernel_rfl) (fun _ => by go_simp; try rfl) ?_; (try simp only [Act.put, List.setIfInBounds_toArray, List.set_cons_zero, List.set_cons_succ]))
    (refine wpAnyT_free (i := 2) rfl (by kernel_rfl) rfl (fun _ _ _ h => h) (by kernel_rfl) (fun _ => by go_simp; try rfl) ?_; (try simp only [Act.put, List.setIfInBounds_toArray, List.set_cons_zero, List.set_cons_succ]))
    (refine wpAnyT_read (i := 3) rfl (by kernel_rfl) rfl (fun _ _ _ h => h) (by kernel_rfl) (⟨c1, ca⟩) (fun w hS_ => by obtain ⟨s_1, s_2⟩ := hS_; go_simp; try rfl) ?_; (try simp only [Act.put, List.setIfInBounds_toArray, List.set_cons_zero, List.set_cons_succ]))
    (refine wpAnyT_free (i := 4) rfl (by kernel_rfl) rfl (fun _ _ _ h => h) (by kernel_rfl) (fun _ => by go_simp; try rfl) ?_; (try simp only [Act.put, List.setIfInBounds_toArray, List.set_cons_zero, List.set_cons_succ]))
    (refine wpAnyT_free (i := 5) rfl (by kernel_rfl) rfl (fun _ _ _ h => h) (by kernel_rfl) (fun _ => by go_simp; try rfl) ?_; (try simp only [Act.put, List.setIfInBounds_toArray, List.set_cons_zero, List.set_cons_succ]))
    (refine wpAnyT_free (i := 6) rfl (by kernel_rfl) rfl (fun _ _ _ h => h) (by kernel_rfl) (fun _ => by go_simp; try rfl) ?_; (try simp only [Act.put, List.setIfInBounds_toArray, List.set_cons_zero, List.set_cons_succ]))
    (refine wpAnyT_read (i := 7) rfl (by kernel_rfl) rfl (fun _ _ _ h => h) (by kernel_rfl) (⟨c1, ca⟩) (fun w hS_ => by obtain ⟨s_1, s_2⟩ := hS_; go_simp; try rfl) ?_; (try simp only [Act.put, List.setIfInBounds_toArray, List.set_cons_zero, List.set_cons_succ]))
    (refine wpAnyT_free (i := 8) rfl (by kernel_rfl) rfl (fun _ _ _ h => h) (by kernel_rfl) (fun _ => by go_simp; try rfl) ?_; (try simp only [Act.put, List.setIfInBounds_toArray, List.set_cons_zero, List.set_cons_succ]))
    (refine wpAnyT_free (i := 9) rfl (by kernel_rfl) rfl (fun _ _ _ h => h) (by kernel_rfl) (fun _ => by go_simp; try rfl) ?_; (try simp only [Act.put, List.setIfInBounds_toArray, List.set_cons_zero, List.set_cons_succ]))
    (refine wpAnyT_free (i := 10) rfl (by kernel_rfl) rfl (fun _ _ _ h => h) (by kernel_rfl) (fun _ => by go_simp; try rfl) ?_; (try simp only [Act.put, List.setIfInBounds_toArray, List.set_cons_zero, List.set_cons_succ]))
    (refine wpAnyT_read (i := 11) rfl (by kernel_rfl) rfl (fun _ _ _ h => h) (by kernel_rfl) (⟨c1, ca⟩) (fun w hS_ => by obtain ⟨s_1, s_2⟩ := hS_; go_simp; try rfl) ?_; (try simp only [Act.put, List.setIfInBounds_toArray, List.set_cons_zero, List.set_cons_succ]))
    (refine wpAnyT_free (i := 12) rfl (by kernel_rfl) rfl (fun _ _ _ h => h) (by kernel_rfl) (fun _ => by go_simp; try rfl) ?_; (try simp only [Act.put, List.setIfInBounds_toArray, List.set_cons_zero, List.set_cons_succ]))
    refine wpAnyT_done (by kernel_rfl) ?_ _
    go_wp2
    go_ret
    exact ⟨rfl, (Below.refl _ _).drew⟩

theorem baseL (h : LogO S H w b A c ps L) : Calls Tryd.prog 39 #[.pointer (some ⟨b, 0, none⟩)] w (Told w (.int .i64 (L.base : Int))) := by
  obtain ⟨per, gs, dn⟩ := L
  obtain ⟨c0, c1, c2, z1, z2, q0, q1, q2, q3, q4⟩ := h.facts
  cases dn
  · cases gs with
    | nil =>
      obtain rfl := List.eq_nil_of_length_eq_zero q1
      go_enter Tryd.func39, Tryd.ntmps39
      go_wp2_with (go_at_call 48; refine (downL h).mono ?_; rintro e w' ⟨rfl, rfl⟩)
      go_ret
      exact ⟨rfl, Below.refl _ _⟩
    | cons g gs =>
      obtain ⟨d, base, recs, safe⟩ := g
      obtain ⟨p, hp, db, R, cr, s0, s1, s2, s3, y2, y3⟩ := h.segs.facts (k := 0) rfl
      obtain ⟨ad, rfl, ca⟩ := h.ptrAt hp
      rw [List.length_cons] at q1
      have k1 : ((ps.length : Int) == 0) = false := by rw [beq_eq_false_iff_ne]; omega
      have k2 : (0 : Int) < (ps.length : Int) := by omega
      have ca' : w.cell? ad = some (.pointer (some ⟨p, 0, none⟩)) := ca
      clear q1
      go_enter Tryd.func39, Tryd.ntmps39
      go_wp2_with (go_at_call 48; refine (downL h).mono ?_; rintro e w' ⟨rfl, rfl⟩)
      go_ret
      exact ⟨rfl, Below.refl _ _⟩
  · go_enter Tryd.func39, Tryd.ntmps39
    go_wp2_with (go_at_call 48; refine (downL h).mono ?_; rintro e w' ⟨rfl, rfl⟩)
    go_ret
    exact ⟨rfl, Below.refl _ _⟩

theorem lenL (h : LogO S H w b A c ps L) : Calls Tryd.prog 37 #[.pointer (some ⟨b, 0, none⟩)] w (Told w (.int .i64 (L.len : Int))) := by
  obtain ⟨per, gs, dn⟩ := L
  have hl := lastL h
  rcases Nat.eq_zero_or_pos ps.length with h0 | h0
  · obtain rfl := List.eq_nil_of_length_eq_zero h0
    have e : Lg.len ⟨per, gs, dn⟩ = 0 := by
      have := h.segs.len
      obtain rfl : gs = [] := List.eq_nil_of_length_eq_zero this.symm
      unfold Lg.len; simp
    rw [e]
    clear e
    have el : lastV [] = .pointer none := rfl
    rw [el] at hl
    go_enter Tryd.func37, Tryd.ntmps37
    go_wp2_with (go_at_call 83; refine hl.mono ?_; rintro e w1 ⟨rfl, hb1⟩)
    go_ret
    exact ⟨rfl, hb1⟩
  · have hgl : ps.length = gs.length := h.segs.len
    obtain ⟨g, hg⟩ : ∃ g, gs[gs.length - 1]? = some g := ⟨_, List.getElem?_eq_getElem (show gs.length - 1 < gs.length by omega)⟩
    obtain ⟨d, base, recs, safe⟩ := g
    have e : Lg.len ⟨per, gs, dn⟩ = if dn then 0 else base + recs.length := by
      unfold Lg.len; simp only; rw [List.getLast?_eq_getElem?, hg]
    have hok := h.ok.2.2.2 _ (List.mem_of_getElem? hg)
    have hb1 := hok.1
    have hb2 := hok.2.1
    simp only at hb1 hb2
    obtain ⟨p, hp, -⟩ := h.segs.facts hg
    have el : lastV ps = .pointer (some ⟨p, 0, none⟩) := by
      unfold lastV; rw [List.getLast?_eq_getElem?, hgl, hp]
    rw [el] at hl
    rw [e]
    clear e el hok
    cases dn
    · go_enter Tryd.func37, Tryd.ntmps37
      go_wp2_with (go_at_call 83; refine hl.mono ?_; rintro e w1 ⟨rfl, hbl⟩
                   have h1 := h.below hbl
                   obtain ⟨c0, c1, c2, z1, z2, q0, q1, q2, q3, q4⟩ := h1.facts
                   obtain ⟨p', hp', db, R, cr, s0, s1, s2, s3, y2, y3⟩ := h1.segs.facts hg
                   rw [hp] at hp'
                   injection hp' with hp'
                   subst hp')
      have k1 : IntKind.i64.wrap ((base : Int) + (recs.length : Int)) = (base : Int) + (recs.length : Int) := by rw [IntKind.wrap_i64]; omega
      refine wp_region_T #[[], [], [], [], [], [], [], [], [7], [3, 7], [3, 7]] [3, 7] (fun w' => w'.cell? ⟨p, 1, none⟩ = some (.int .i64 (base : Int)) ∧ w'.cell? ⟨p, 2, none⟩ = some (.slice R recs.length cr)) 11 rfl (by kernel_rfl) ?_
      (refine wpAnyT_free (i := 0) rfl (by kernel_rfl) rfl (fun _ _ _ h => h) (by kernel_rfl) (fun _ => by go_simp; try rfl) ?_; (try simp only [Act.put, List.setIfInBounds_toArray, List.set_cons_zero, List.set_cons_succ]))
      (refine wpAnyT_free (i := 1) rfl (by kernel_rfl) rfl (fun _ _ _ h => h) (by kernel_rfl) (fun _ => by go_simp; try rfl) ?_; (try simp only [Act.put, List.setIfInBounds_toArray, List.set_cons_zero, List.set_cons_succ]))
      (refine wpAnyT_free (i := 2) rfl (by kernel_rfl) rfl (fun _ _ _ h => h) (by kernel_rfl) (fun _ => by go_simp; try rfl) ?_; (try simp only [Act.put, List.setIfInBounds_toArray, List.set_cons_zero, List.set_cons_succ]))
      (refine wpAnyT_read (i := 3) rfl (by kernel_rfl) rfl (fun _ _ _ h => h) (by kernel_rfl) (⟨s1, s2⟩) (fun w hS_ => by obtain ⟨s_1, s_2⟩ := hS_; go_simp; try rfl) ?_; (try simp only [Act.put, List.setIfInBounds_toArray, List.set_cons_zero, List.set_cons_succ]))
      (refine wpAnyT_free (i := 4) rfl (by kernel_rfl) rfl (fun _ _ _ h => h) (by kernel_rfl) (fun _ => by go_simp; try rfl) ?_; (try simp only [Act.put, List.setIfInBounds_toArray, List.set_cons_zero, List.set_cons_succ]))
      (refine wpAnyT_free (i := 5) rfl (by kernel_rfl) rfl (fun _ _ _ h => h) (by kernel_rfl) (fun _ => by go_simp; try rfl) ?_; (try simp only [Act.put, List.setIfInBounds_toArray, List.set_cons_zero, List.set_cons_succ]))
      (refine wpAnyT_free (i := 6) rfl (by kernel_rfl) rfl (fun _ _ _ h => h) (by kernel_rfl) (fun _ => by go_simp; try rfl) ?_; (try simp only [Act.put, List.setIfInBounds_toArray, List.set_cons_zero, List.set_cons_succ]))
      (refine wpAnyT_read (i := 7) rfl (by kernel_rfl) rfl (fun _ _ _ h => h) (by kernel_rfl) (⟨s1, s2⟩) (fun w hS_ => by obtain ⟨s_1, s_2⟩ := hS_; go_simp; try rfl) ?_; (try simp only [Act.put, List.setIfInBounds_toArray, List.set_cons_zero, List.set_cons_succ]))
      (refine wpAnyT_free (i := 8) rfl (by kernel_rfl) rfl (fun _ _ _ h => h) (by kernel_rfl) (fun _ => by go_simp; try rfl) ?_; (try simp only [Act.put, List.setIfInBounds_toArray, List.set_cons_zero, List.set_cons_succ]))
      (refine wpAnyT_free (i := 9) rfl (by kernel_rfl) rfl (fun _ _ _ h => h) (by kernel_rfl) (fun _ => by go_simp; try rfl) ?_; (try simp only [Act.put, List.setIfInBounds_toArray, List.set_cons_zero, List.set_cons_succ]))
      (refine wpAnyT_free (i := 10) rfl (by kernel_rfl) rfl (fun _ _ _ h => h) (by kernel_rfl) (fun _ => by go_simp; try rfl) ?_; (try simp only [Act.put, List.setIfInBounds_toArray, List.set_cons_zero, List.set_cons_succ]))
      refine wpAnyT_done (by kernel_rfl) ?_ _
      go_wp2
      go_ret
      exact ⟨rfl, hbl.drew⟩
    · go_enter Tryd.func37, Tryd.ntmps37
      go_wp2_with (go_at_call 83; refine hl.mono ?_; rintro e w1 ⟨rfl, hbl⟩
                   have h1 := h.below hbl
                   obtain ⟨c0, c1, c2, z1, z2, q0, q1, q2, q3, q4⟩ := h1.facts)
      go_ret
      exact ⟨rfl, hbl⟩

theorem safeL (h : LogO S H w b A c ps L) : Calls Tryd.prog 38 #[.pointer (some ⟨b, 0, none⟩)] w (Told w (.int .i64 (L.safe : Int))) := by
  obtain ⟨per, gs, dn⟩ := L
  have hl := baseL h
  cases dn
  · have e : Lg.safe ⟨per, gs, false⟩ = safeS gs (Lg.base ⟨per, gs, false⟩) := by unfold Lg.safe; simp
    rw [e]
    clear e
    generalize Lg.base ⟨per, gs, false⟩ = base0 at *
    go_enter Tryd.func38, Tryd.ntmps38
    go_wp2_with (first
      | (go_at_call 39; refine hl.mono ?_; rintro e w1 ⟨rfl, hbl⟩
         have h1 := h.below hbl
         obtain ⟨c0, c1, c2, z1, z2, q0, q1, q2, q3, q4⟩ := h1.facts; have HQ := Lib.hid q1; clear q1)
      | (go_at_call 48; refine (downL h1).mono ?_; rintro e w' ⟨rfl, rfl⟩))
    have HB := hbl
    clear hbl c0 c1 c2
    go_loopw [3, 15] (fun n i wr => ∃ k m : Nat, k ≤ ps.length ∧ i = .int .i64 (k : Int) ∧ n = .int .i64 (m : Int) ∧ safeS gs base0 = safeS (gs.drop k) m ∧ Below w.heap.size w wr) (fun _ i _ => ps.length - (intOf i).toNat)
    case atStart => exact ⟨0, base0, by omega, rfl, rfl, rfl, HB⟩
    case round =>
      obtain ⟨k, m, hk, rfl, rfl, hs, hb⟩ := hrel
      have HSM := Lib.hid hs
      clear hs
      have h2 := h.below hb
      obtain ⟨c0, c1, c2, z1, z2, -, -, -, -, -⟩ := h2.facts
      by_cases hlt : k < ps.length
      · obtain ⟨g, hg⟩ : ∃ g, gs[k]? = some g := ⟨_, List.getElem?_eq_getElem (show k < gs.length by have := HQ.out; omega)⟩
        obtain ⟨d, base, recs, safe⟩ := g
        have hdr : gs.drop k = ⟨d, base, recs, safe⟩ :: gs.drop (k + 1) := drop_of hg
        have hok := h.ok.2.2.2 _ (List.mem_of_getElem? hg)
        have hb1 := hok.1
        have hb2 := hok.2.1
        have hb3 := hok.2.2.1
        simp only at hb1 hb2 hb3
        obtain ⟨p, hp, db, R, cr, s0, s1, s2, s3, y2, y3⟩ := h2.segs.facts hg
        obtain ⟨ad, rfl, ca⟩ := h2.ptrAt hp
        have HD := Lib.hid hdr
        clear hdr hok
        have hlt' : (k : Int) < (ps.length : Int) := by omega
        have k1 : IntKind.i64.wrap ((base : Int) + (safe : Int)) = (base : Int) + (safe : Int) := by rw [IntKind.wrap_i64]; omega
        go_wp2
        refine wp_region_T #[[], [], [], [], [], [], [], [], [3, 7], [3, 7]] [3, 7] (fun w' => w'.cell? ⟨p, 1, none⟩ = some (.int .i64 (base : Int)) ∧ w'.cell? ⟨p, 3, none⟩ = some (.int .i64 (safe : Int))) 10 rfl (by kernel_rfl) ?_
        (refine wpAnyT_free (i := 0) rfl (by kernel_rfl) rfl (fun _ _ _ h => h) (by kernel_rfl) (fun _ => by go_simp; try rfl) ?_; (try simp only [Act.put, List.setIfInBounds_toArray, List.set_cons_zero, List.set_cons_succ]))
        (refine wpAnyT_free (i := 1) rfl (by kernel_rfl) rfl (fun _ _ _ h => h) (by kernel_rfl) (fun _ => by go_simp; try rfl) ?_; (try simp only [Act.put, List.setIfInBounds_toArray, List.set_cons_zero, List.set_cons_succ]))
        (refine wpAnyT_free (i := 2) rfl (by kernel_rfl) rfl (fun _ _ _ h => h) (by kernel_rfl) (fun _ => by go_simp; try rfl) ?_; (try simp only [Act.put, List.setIfInBounds_toArray, List.set_cons_zero, List.set_cons_succ]))
        (refine wpAnyT_read (i := 3) rfl (by kernel_rfl) rfl (fun _ _ _ h => h) (by kernel_rfl) (⟨s1, s3⟩) (fun w hS_ => by obtain ⟨s_1, s_2⟩ := hS_; go_simp; try rfl) ?_; (try simp only [Act.put, List.setIfInBounds_toArray, List.set_cons_zero, List.set_cons_succ]))
        (refine wpAnyT_free (i := 4) rfl (by kernel_rfl) rfl (fun _ _ _ h => h) (by kernel_rfl) (fun _ => by go_simp; try rfl) ?_; (try simp only [Act.put, List.setIfInBounds_toArray, List.set_cons_zero, List.set_cons_succ]))
        (refine wpAnyT_free (i := 5) rfl (by kernel_rfl) rfl (fun _ _ _ h => h) (by kernel_rfl) (fun _ => by go_simp; try rfl) ?_; (try simp only [Act.put, List.setIfInBounds_toArray, List.set_cons_zero, List.set_cons_succ]))
        (refine wpAnyT_free (i := 6) rfl (by kernel_rfl) rfl (fun _ _ _ h => h) (by kernel_rfl) (fun _ => by go_simp; try rfl) ?_; (try simp only [Act.put, List.setIfInBounds_toArray, List.set_cons_zero, List.set_cons_succ]))
        (refine wpAnyT_read (i := 7) rfl (by kernel_rfl) rfl (fun _ _ _ h => h) (by kernel_rfl) (⟨s1, s3⟩) (fun w hS_ => by obtain ⟨s_1, s_2⟩ := hS_; go_simp; try rfl) ?_; (try simp only [Act.put, List.setIfInBounds_toArray, List.set_cons_zero, List.set_cons_succ]))
        (refine wpAnyT_free (i := 8) rfl (by kernel_rfl) rfl (fun _ _ _ h => h) (by kernel_rfl) (fun _ => by go_simp; try rfl) ?_; (try simp only [Act.put, List.setIfInBounds_toArray, List.set_cons_zero, List.set_cons_succ]))
        (refine wpAnyT_free (i := 9) rfl (by kernel_rfl) rfl (fun _ _ _ h => h) (by kernel_rfl) (fun _ => by go_simp; try rfl) ?_; (try simp only [Act.put, List.setIfInBounds_toArray, List.set_cons_zero, List.set_cons_succ]))
        refine wpAnyT_done (by kernel_rfl) ?_ _
        by_cases hss : safe < recs.length
        · have hss' : (safe : Int) < (recs.length : Int) := by omega
          go_wp2
          refine wp_region_T #[[], [], [], [], [], [], [], [], [7], [3, 7]] [3, 7] (fun w' => w'.cell? ⟨p, 2, none⟩ = some (.slice R recs.length cr) ∧ w'.cell? ⟨p, 3, none⟩ = some (.int .i64 (safe : Int))) 10 rfl (by kernel_rfl) ?_
          (refine wpAnyT_free (i := 0) rfl (by kernel_rfl) rfl (fun _ _ _ h => h) (by kernel_rfl) (fun _ => by go_simp; try rfl) ?_; (try simp only [Act.put, List.setIfInBounds_toArray, List.set_cons_zero, List.set_cons_succ]))
          (refine wpAnyT_free (i := 1) rfl (by kernel_rfl) rfl (fun _ _ _ h => h) (by kernel_rfl) (fun _ => by go_simp; try rfl) ?_; (try simp only [Act.put, List.setIfInBounds_toArray, List.set_cons_zero, List.set_cons_succ]))
          (refine wpAnyT_free (i := 2) rfl (by kernel_rfl) rfl (fun _ _ _ h => h) (by kernel_rfl) (fun _ => by go_simp; try rfl) ?_; (try simp only [Act.put, List.setIfInBounds_toArray, List.set_cons_zero, List.set_cons_succ]))
          (refine wpAnyT_read (i := 3) rfl (by kernel_rfl) rfl (fun _ _ _ h => h) (by kernel_rfl) (⟨s2, s3⟩) (fun w hS_ => by obtain ⟨s_1, s_2⟩ := hS_; go_simp; try rfl) ?_; (try simp only [Act.put, List.setIfInBounds_toArray, List.set_cons_zero, List.set_cons_succ]))
          (refine wpAnyT_free (i := 4) rfl (by kernel_rfl) rfl (fun _ _ _ h => h) (by kernel_rfl) (fun _ => by go_simp; try rfl) ?_; (try simp only [Act.put, List.setIfInBounds_toArray, List.set_cons_zero, List.set_cons_succ]))
          (refine wpAnyT_free (i := 5) rfl (by kernel_rfl) rfl (fun _ _ _ h => h) (by kernel_rfl) (fun _ => by go_simp; try rfl) ?_; (try simp only [Act.put, List.setIfInBounds_toArray, List.set_cons_zero, List.set_cons_succ]))
          (refine wpAnyT_free (i := 6) rfl (by kernel_rfl) rfl (fun _ _ _ h => h) (by kernel_rfl) (fun _ => by go_simp; try rfl) ?_; (try simp only [Act.put, List.setIfInBounds_toArray, List.set_cons_zero, List.set_cons_succ]))
          (refine wpAnyT_read (i := 7) rfl (by kernel_rfl) rfl (fun _ _ _ h => h) (by kernel_rfl) (⟨s2, s3⟩) (fun w hS_ => by obtain ⟨s_1, s_2⟩ := hS_; go_simp; try rfl) ?_; (try simp only [Act.put, List.setIfInBounds_toArray, List.set_cons_zero, List.set_cons_succ]))
          (refine wpAnyT_free (i := 8) rfl (by kernel_rfl) rfl (fun _ _ _ h => h) (by kernel_rfl) (fun _ => by go_simp; try rfl) ?_; (try simp only [Act.put, List.setIfInBounds_toArray, List.set_cons_zero, List.set_cons_succ]))
          (refine wpAnyT_free (i := 9) rfl (by kernel_rfl) rfl (fun _ _ _ h => h) (by kernel_rfl) (fun _ => by go_simp; try rfl) ?_; (try simp only [Act.put, List.setIfInBounds_toArray, List.set_cons_zero, List.set_cons_succ]))
          refine wpAnyT_done (by kernel_rfl) ?_ _
          go_wp2
          go_ret
          have e : safeS gs base0 = base + safe := by rw [HSM.out, HD.out, safeS, if_pos hss]
          exact ⟨by rw [e]; rfl, hb.drew.drew⟩
        · have hss' : ¬ (safe : Int) < (recs.length : Int) := by omega
          go_wp2
          refine wp_region_T #[[], [], [], [], [], [], [], [], [7], [3, 7]] [3, 7] (fun w' => w'.cell? ⟨p, 2, none⟩ = some (.slice R recs.length cr) ∧ w'.cell? ⟨p, 3, none⟩ = some (.int .i64 (safe : Int))) 10 rfl (by kernel_rfl) ?_
          (refine wpAnyT_free (i := 0) rfl (by kernel_rfl) rfl (fun _ _ _ h => h) (by kernel_rfl) (fun _ => by go_simp; try rfl) ?_; (try simp only [Act.put, List.setIfInBounds_toArray, List.set_cons_zero, List.set_cons_succ]))
          (refine wpAnyT_free (i := 1) rfl (by kernel_rfl) rfl (fun _ _ _ h => h) (by kernel_rfl) (fun _ => by go_simp; try rfl) ?_; (try simp only [Act.put, List.setIfInBounds_toArray, List.set_cons_zero, List.set_cons_succ]))
          (refine wpAnyT_free (i := 2) rfl (by kernel_rfl) rfl (fun _ _ _ h => h) (by kernel_rfl) (fun _ => by go_simp; try rfl) ?_; (try simp only [Act.put, List.setIfInBounds_toArray, List.set_cons_zero, List.set_cons_succ]))
          (refine wpAnyT_read (i := 3) rfl (by kernel_rfl) rfl (fun _ _ _ h => h) (by kernel_rfl) (⟨s2, s3⟩) (fun w hS_ => by obtain ⟨s_1, s_2⟩ := hS_; go_simp; try rfl) ?_; (try simp only [Act.put, List.setIfInBounds_toArray, List.set_cons_zero, List.set_cons_succ]))
          (refine wpAnyT_free (i := 4) rfl (by kernel_rfl) rfl (fun _ _ _ h => h) (by kernel_rfl) (fun _ => by go_simp; try rfl) ?_; (try simp only [Act.put, List.setIfInBounds_toArray, List.set_cons_zero, List.set_cons_succ]))
          (refine wpAnyT_free (i := 5) rfl (by kernel_rfl) rfl (fun _ _ _ h => h) (by kernel_rfl) (fun _ => by go_simp; try rfl) ?_; (try simp only [Act.put, List.setIfInBounds_toArray, List.set_cons_zero, List.set_cons_succ]))
          (refine wpAnyT_free (i := 6) rfl (by kernel_rfl) rfl (fun _ _ _ h => h) (by kernel_rfl) (fun _ => by go_simp; try rfl) ?_; (try simp only [Act.put, List.setIfInBounds_toArray, List.set_cons_zero, List.set_cons_succ]))
          (refine wpAnyT_read (i := 7) rfl (by kernel_rfl) rfl (fun _ _ _ h => h) (by kernel_rfl) (⟨s2, s3⟩) (fun w hS_ => by obtain ⟨s_1, s_2⟩ := hS_; go_simp; try rfl) ?_; (try simp only [Act.put, List.setIfInBounds_toArray, List.set_cons_zero, List.set_cons_succ]))
          (refine wpAnyT_free (i := 8) rfl (by kernel_rfl) rfl (fun _ _ _ h => h) (by kernel_rfl) (fun _ => by go_simp; try rfl) ?_; (try simp only [Act.put, List.setIfInBounds_toArray, List.set_cons_zero, List.set_cons_succ]))
          (refine wpAnyT_free (i := 9) rfl (by kernel_rfl) rfl (fun _ _ _ h => h) (by kernel_rfl) (fun _ => by go_simp; try rfl) ?_; (try simp only [Act.put, List.setIfInBounds_toArray, List.set_cons_zero, List.set_cons_succ]))
          refine wpAnyT_done (by kernel_rfl) ?_ _
          go_wp2
          go_roundw
          case rel => exact ⟨k + 1, base + safe, by omega, by go_num, by go_num, by rw [HSM.out, HD.out, safeS, if_neg hss], hb.drew.drew⟩
          case measure => simp [intOf]; omega
      · obtain rfl : k = ps.length := by omega
        have e : safeS gs base0 = m := by rw [HSM.out, HQ.out, List.drop_length, safeS]
        have E := Lib.hid e
        clear e
        go_wp2
        go_ret
        exact ⟨by rw [E.out]; rfl, hb⟩
  · go_enter Tryd.func38, Tryd.ntmps38
    go_wp2_with (first
      | (go_at_call 39; refine hl.mono ?_; rintro e w1 ⟨rfl, hbl⟩
         have h1 := h.below hbl
         obtain ⟨c0, c1, c2, z1, z2, q0, q1, q2, q3, q4⟩ := h1.facts)
      | (go_at_call 48; refine (downL h1).mono ?_; rintro e w' ⟨rfl, rfl⟩))
    go_ret
    exact ⟨rfl, hbl⟩
end
end Go.Proofs.YtediidajdpdeiaaDoor

/- The log's functions that turn it: New, Sync, Crash, Drop (layer 7): the walks. -/
namespace Go.Proofs.YtediidajdpdeiaaDoor
open Go.RowKit CrcM
set_option maxRecDepth 100000

theorem part_at {α : Type} {gs : List α} {k : Nat} {g : α} (f : α → α) (hg : gs[k]? = some g) : ((gs.take k).map f ++ gs.drop k)[k]? = some g := by
  have hlt := (List.getElem?_eq_some_iff.1 hg).1
  rw [List.getElem?_append_right (by rw [List.length_map, List.length_take]; omega), List.length_map, List.length_take, Nat.min_eq_left (by omega), Nat.sub_self, List.getElem?_drop]
  exact hg
theorem part_set {α : Type} {gs : List α} {k : Nat} {g : α} (f : α → α) (hg : gs[k]? = some g) : ((gs.take k).map f ++ gs.drop k).set k (f g) = (gs.take (k + 1)).map f ++ gs.drop (k + 1) := by
  have hlt := (List.getElem?_eq_some_iff.1 hg).1
  have hl : ((gs.take k).map f).length = k := by rw [List.length_map, List.length_take]; omega
  rw [List.set_append_right _ _ (by omega), hl, Nat.sub_self, drop_of hg, List.take_add_one, hg]
  simp

theorem Lg.up_sync {L : Lg} (h : L.up) : L.sync.1.up := by
  obtain ⟨per, gs, dn⟩ := L
  cases dn
  · intro _ g hg
    have hg : g ∈ gs.map Sg.sync := by simpa [Lg.sync] using hg
    obtain ⟨g', hg', rfl⟩ := List.mem_map.1 hg
    have := h rfl g' hg'
    unfold Sg.sync Sg.up Dk.sync at *
    rw [this.1]
    simp only [Bool.false_eq_true, if_false]
    exact ⟨trivial, this.2⟩
  · exact h
theorem Lg.up_crash {L : Lg} (h : L.up) (k f : Int) : (L.crash k f).1.up := by
  unfold Lg.crash
  split
  · exact h
  · split
    · exact h
    · intro hd; cases hd

section
variable [Hole] {S H : Nat → Prop} {w : World} {b : Nat} {A : Option Addr} {c : Nat} {ps : List Nat} {L : Lg}

theorem LogO.same (h : LogO S H w b A c ps L) (hu : L.up) : IsLog (Up S w w) w (.pointer (some ⟨b, 0, none⟩)) L :=
  ⟨b, rfl, hu, H, A, c, ps, h.mono (fun _ => .inl) (fun x hx => hx.elim (h.lt x) (fun h => h.2))⟩
theorem LogO.isLog {S' H' : Nat → Prop} {w' : World} {A' : Option Addr} {c' : Nat} {ps' : List Nat} {L' : Lg} (h : LogO S' H' w' b A' c' ps' L') (hu : L'.up) : IsLog S' w' (.pointer (some ⟨b, 0, none⟩)) L' :=
  ⟨b, rfl, hu, H', A', c', ps', h⟩
theorem LogO.up2 {w1 w2 : World} {H' : Nat → Prop} {L' : Lg} {A' : Option Addr} {c' : Nat} {ps' : List Nat} (h : LogO (Up (Up S w w1) w1 w2) H' w2 b A' c' ps' L') (h1 : w.heap.size ≤ w1.heap.size) (h2 : w1.heap.size ≤ w2.heap.size) (hl : ∀ x, S x → x < w.heap.size) : LogO (Up S w w2) H' w2 b A' c' ps' L' :=
  h.mono (fun x hx => by
    rcases hx with (hx | hx) | hx
    · exact .inl hx
    · exact .inr ⟨hx.1, Nat.lt_of_lt_of_le hx.2 h2⟩
    · exact .inr ⟨Nat.le_trans h1 hx.1, hx.2⟩) (Up.lt hl (Nat.le_trans h1 h2))

/-- the log's own struct is written anew -/
theorem LogO.put {per : Nat} {gs : List Sg} {dn : Bool} (h : LogO S H w b A c ps ⟨per, gs, dn⟩) {A' : Option Addr} {c' : Nat} {ps' : List Nat} {gs' : List Sg} (hr : Row H w TPs (.slice A' ps'.length c') (ps'.map ptr)) (hs : Segs S H w ps' gs') (hok : Lg.ok ⟨per, gs', dn⟩) :
    LogO S H (w.setCell ⟨b, 1, none⟩ (.slice A' ps'.length c')) b A' c' ps' ⟨per, gs', dn⟩ ∧ Fr S w (w.setCell ⟨b, 1, none⟩ (.slice A' ps'.length c')) := by
  have hnb : ¬ IsB w b := h.blk.notB (by decide)
  have f1 : Fr (fun x => x = b) w (w.setCell ⟨b, 1, none⟩ (.slice A' ps'.length c')) := (Fr.refl (fun x => x = b) _).setCell (p := ⟨b, 1, none⟩) (.inl (show b = b from rfl)) hnb _
  refine ⟨⟨h.hS, h.hb, by simpa using h.blk.set 1 (.slice A' ps'.length c'), hr.otherBlk h.blk (by decide) f1, hs.fr f1 (fun x _ hx e => (hx (e ▸ h.hb)).elim), by simpa [World.setCell] using h.lt, hok, by simpa [World.setCell] using h.hole⟩, f1.mono fun x _ e => h.hS x (e ▸ h.hb)⟩
theorem LogO.setDown {per : Nat} {gs : List Sg} {dn : Bool} (h : LogO S H w b A c ps ⟨per, gs, dn⟩) (dn' : Bool) :
    LogO S H (w.setCell ⟨b, 2, none⟩ (.bool dn')) b A c ps ⟨per, gs, dn'⟩ ∧ Fr S w (w.setCell ⟨b, 2, none⟩ (.bool dn')) := by
  have hnb : ¬ IsB w b := h.blk.notB (by decide)
  have f1 : Fr (fun x => x = b) w (w.setCell ⟨b, 2, none⟩ (.bool dn')) := (Fr.refl (fun x => x = b) _).setCell (p := ⟨b, 2, none⟩) (.inl (show b = b from rfl)) hnb _
  exact ⟨⟨h.hS, h.hb, by simpa using h.blk.set 2 (.bool dn'), h.row.otherBlk h.blk (by decide) f1, h.segs.fr f1 (fun x _ hx e => (hx (e ▸ h.hb)).elim), by simpa [World.setCell] using h.lt, h.ok, by simpa [World.setCell] using h.hole⟩, f1.mono fun x _ e => h.hS x (e ▸ h.hb)⟩

end
section
variable {S H : Nat → Prop} {w : World} {b : Nat} {A : Option Addr} {c : Nat} {ps : List Nat} {L : Lg}
theorem syncL (h : LogO S H w b A c ps L) (hu : L.up) : Calls Tryd.prog 46 #[.pointer (some ⟨b, 0, none⟩)] w (LogDid S w (.pointer (some ⟨b, 0, none⟩)) L.sync) := by
  have hu' := Lg.up_sync hu
  obtain ⟨per, gs, dn⟩ := L
  cases dn
  · have e : Lg.sync ⟨per, gs, false⟩ = (⟨per, gs.map Sg.sync, false⟩, 0) := by unfold Lg.sync; simp
    rw [e] at hu'
    have E := Lib.hid e
    clear e
    obtain ⟨c0, c1, c2, z1, z2, q0, q1, q2, q3, q4⟩ := h.facts
    have HQ := Lib.hid q1
    clear q1
    go_enter Tryd.func46, Tryd.ntmps46
    go_wp2_with (go_at_call 82; refine (askedL h).mono ?_; rintro e w' ⟨rfl, rfl⟩)
    clear c0 c1 c2
    go_loopw [16] (fun i wr => ∃ k : Nat, k ≤ ps.length ∧ i = .int .i64 (k : Int) ∧ LogO (Up S w wr) H wr b A c ps ⟨per, (gs.take k).map Sg.sync ++ gs.drop k, false⟩ ∧ Fr S w wr) (fun i _ => ps.length - (intOf i).toNat)
    case atStart => exact ⟨0, by omega, rfl, h.mono (fun _ => .inl) (fun x hx => hx.elim (h.lt x) (fun h => h.2)), Fr.refl _ _⟩
    case round =>
      obtain ⟨k, hk, rfl, ho, hf⟩ := hrel
      by_cases hlt : k < ps.length
      · obtain ⟨g, hg⟩ : ∃ g, gs[k]? = some g := ⟨_, List.getElem?_eq_getElem (show k < gs.length by have := HQ.out; omega)⟩
        have hpg := part_at Sg.sync hg
        have hps := part_set Sg.sync hg
        obtain ⟨d, base, recs, safe⟩ := g
        obtain ⟨p, hp⟩ : ∃ p, ps[k]? = some p := ⟨_, List.getElem?_eq_getElem hlt⟩
        obtain ⟨ad, rfl, ca⟩ := ho.ptrAt hp
        obtain ⟨Sd, db, R, cR, s0, hd, hSd, hup⟩ := ho.disk hp hpg
        have HP := Lib.hid hps
        clear hps
        have hlt' : (k : Int) < (ps.length : Int) := by omega
        go_wp2_with (go_at_call 94; refine (sync_B hd).mono ?_; rintro e w1 ⟨rfl, hd1, hf1⟩
                     have ho1 := hup w1 _ hf1 hd1
                     have hpg1 : ((List.map Sg.sync (List.take k gs) ++ List.drop k gs).set k ⟨d.sync.1, base, recs, safe⟩)[k]? = some ⟨d.sync.1, base, recs, safe⟩ := List.getElem?_set_self (List.getElem?_eq_some_iff.1 hpg).1
                     obtain ⟨p', hp', db', R', cR', s0', s1', s2', s3', y2', y3'⟩ := ho1.segs.facts hpg1
                     rw [hp] at hp'
                     injection hp' with hp'
                     subst hp'
                     obtain ⟨ho2, hf2⟩ := ho1.setSafe hp hpg1 recs.length (Nat.le_refl _)
                     rw [List.set_set] at ho2)
        have hsz : (w1.setCell ⟨p, 3, none⟩ (.int .i64 (recs.length : Int))).heap.size = w1.heap.size := by simp [World.setCell]
        go_roundw
        case rel =>
          have ho3 : LogO (Up (Up S w wr) wr (w1.setCell ⟨p, 3, none⟩ (.int .i64 (recs.length : Int)))) H _ b _ c ps _ := ho2.mono (fun x hx => hx.imp_right (fun h => ⟨h.1, by rw [hsz]; exact h.2⟩)) (fun x hx => ho2.lt x (hx.imp_right (fun h => ⟨h.1, by rw [hsz] at h; exact h.2⟩)))
          refine ⟨k + 1, by omega, by go_num, ?_, ?_⟩
          · rw [← HP.out]
            exact ho3.up2 hf.size (by rw [hsz]; exact hf1.size) h.lt
          · exact (hf.trans' hf1 (fun x hb hx => (hSd x hx).elim id (fun h => by omega))).trans' hf2 (fun x hb hx => by
              rcases hx with (hx | hx) | hx
              · exact hx
              · omega
              · have := hf.size; omega)
        case measure => simp [intOf]; omega
      · obtain rfl : k = ps.length := by omega
        go_wp2
        go_ret
        rw [E.out]
        have e1 : gs.take ps.length = gs := List.take_of_length_le (by rw [HQ.out]; exact Nat.le_refl _)
        have e2 : gs.drop ps.length = [] := List.drop_of_length_le (by rw [HQ.out]; exact Nat.le_refl _)
        rw [e1, e2, List.append_nil] at ho
        exact ⟨rfl, ho.isLog hu', hf⟩
  · have e : Lg.sync ⟨per, gs, true⟩ = (⟨per, gs, true⟩, 10) := by unfold Lg.sync; simp
    have E := Lib.hid e
    clear e hu'
    go_enter Tryd.func46, Tryd.ntmps46
    go_wp2_with (go_at_call 82; refine (askedL h).mono ?_; rintro e w' ⟨rfl, rfl⟩)
    go_ret
    rw [E.out]
    exact ⟨rfl, h.same hu, Fr.refl _ _⟩

theorem crashL (h : LogO S H w b A c ps L) (hu : L.up) (keep flip : Int) (hk63 : keep ≤ 9223372036854775807) (hf63 : flip ≤ 9223372036854775807) (hk0 : -9223372036854775808 ≤ keep) (hf0 : -9223372036854775808 ≤ flip) :
    Calls Tryd.prog 43 #[.pointer (some ⟨b, 0, none⟩), .int .i64 keep, .int .i64 flip] w (LogDid S w (.pointer (some ⟨b, 0, none⟩)) (L.crash keep flip)) := by
  have hu' := Lg.up_crash hu keep flip
  obtain ⟨per, gs, dn⟩ := L
  cases dn
  · obtain ⟨c0, c1, c2, z1, z2, q0, q1, q2, q3, q4⟩ := h.facts
    have HQ := Lib.hid q1
    clear q1
    by_cases hneg : keep < 0
    · have e : Lg.crash ⟨per, gs, false⟩ keep flip = (⟨per, gs, false⟩, 2) := by unfold Lg.crash; simp [hneg]
      have E := Lib.hid e
      clear e hu'
      go_enter Tryd.func43, Tryd.ntmps43
      go_wp2_with (go_at_call 82; refine (askedL h).mono ?_; rintro e w' ⟨rfl, rfl⟩)
      go_ret
      rw [E.out]
      exact ⟨rfl, h.same hu, Fr.refl _ _⟩
    · have e : Lg.crash ⟨per, gs, false⟩ keep flip = (⟨per, gs.map (Sg.crash keep flip), true⟩, 0) := by unfold Lg.crash; simp [hneg]
      rw [e] at hu'
      have E := Lib.hid e
      clear e
      go_enter Tryd.func43, Tryd.ntmps43
      go_wp2_with (go_at_call 82; refine (askedL h).mono ?_; rintro e w' ⟨rfl, rfl⟩)
      clear c0 c1 c2
      go_loopw [22] (fun i wr => ∃ k : Nat, k ≤ ps.length ∧ i = .int .i64 (k : Int) ∧ LogO (Up S w wr) H wr b A c ps ⟨per, (gs.take k).map (Sg.crash keep flip) ++ gs.drop k, false⟩ ∧ Fr S w wr) (fun i _ => ps.length - (intOf i).toNat)
      case atStart => exact ⟨0, by omega, rfl, h.mono (fun _ => .inl) (fun x hx => hx.elim (h.lt x) (fun h => h.2)), Fr.refl _ _⟩
      case round =>
        obtain ⟨k, hk, rfl, ho, hf⟩ := hrel
        by_cases hlt : k < ps.length
        · obtain ⟨g, hg⟩ : ∃ g, gs[k]? = some g := ⟨_, List.getElem?_eq_getElem (show k < gs.length by have := HQ.out; omega)⟩
          have hpg := part_at (Sg.crash keep flip) hg
          have hps := part_set (Sg.crash keep flip) hg
          obtain ⟨d, base, recs, safe⟩ := g
          obtain ⟨p, hp⟩ : ∃ p, ps[k]? = some p := ⟨_, List.getElem?_eq_getElem hlt⟩
          obtain ⟨ad, rfl, ca⟩ := ho.ptrAt hp
          obtain ⟨Sd, db, R, cR, s0, hd, hSd, hup⟩ := ho.disk hp hpg
          have HP := Lib.hid hps
          clear hps
          have hlt' : (k : Int) < (ps.length : Int) := by omega
          go_wp2_with (go_at_call 91; refine (crash_B hd keep flip hk63 hf63 hk0 hf0).mono ?_; rintro e w1 ⟨rfl, hd1, hf1⟩
                       have ho1 := hup w1 _ hf1 hd1)
          go_roundw
          case rel =>
            refine ⟨k + 1, by omega, by go_num, ?_, hf.trans' hf1 (fun x hb hx => (hSd x hx).elim id (fun h => by omega))⟩
            rw [← HP.out]
            exact ho1.up2 hf.size hf1.size h.lt
          case measure => simp [intOf]; omega
        · obtain rfl : k = ps.length := by omega
          obtain ⟨ho2, hf2⟩ := ho.setDown true
          obtain ⟨c0, c1, c2, z1, z2, -, -, -, -, -⟩ := ho.facts
          go_wp2
          go_ret
          rw [E.out]
          have e1 : gs.take ps.length = gs := List.take_of_length_le (by rw [HQ.out]; exact Nat.le_refl _)
          have e2 : gs.drop ps.length = [] := List.drop_of_length_le (by rw [HQ.out]; exact Nat.le_refl _)
          rw [e1, e2, List.append_nil] at ho2
          have hsz : (wr.setCell ⟨b, 2, none⟩ (.bool true)).heap.size = wr.heap.size := by simp [World.setCell]
          have ho3 : LogO (Up S w (wr.setCell ⟨b, 2, none⟩ (.bool true))) H _ b A c ps _ := ho2.mono (fun x hx => hx.imp_right (fun h => ⟨h.1, by rw [hsz]; exact h.2⟩)) (fun x hx => ho2.lt x (hx.imp_right (fun h => ⟨h.1, by rw [hsz] at h; exact h.2⟩)))
          exact ⟨rfl, ho3.isLog hu', hf.trans' hf2 (fun x hb hx => hx.elim id (fun h => by omega))⟩
  · have e : Lg.crash ⟨per, gs, true⟩ keep flip = (⟨per, gs, true⟩, 10) := by unfold Lg.crash; simp
    have E := Lib.hid e
    clear e hu'
    go_enter Tryd.func43, Tryd.ntmps43
    go_wp2_with (go_at_call 82; refine (askedL h).mono ?_; rintro e w' ⟨rfl, rfl⟩)
    go_ret
    rw [E.out]
    exact ⟨rfl, h.same hu, Fr.refl _ _⟩

theorem newL (w : World) (per : Int) : Calls Tryd.prog 34 #[.int .i64 per] w fun e w' =>
    if 1 ≤ per ∧ per ≤ 1024 then ∃ p, e = .returned (.tuple #[p, .int .i64 0]) ∧ IsLog (Nw w w') w' p (Lg.new per.toNat) ∧ Below w.heap.size w w' else e = .returned (.tuple #[.pointer none, .int .i64 2]) ∧ w' = w := by
  by_cases h : 1 ≤ per ∧ per ≤ 1024
  · simp only [if_pos h]
    obtain ⟨n, rfl⟩ : ∃ n : Nat, per = n := ⟨per.toNat, by omega⟩
    have h1 : ¬ (n : Int) < 1 := by omega
    have h2 : ¬ (1024 : Int) < (n : Int) := by omega
    go_enter Tryd.func34, Tryd.ntmps34
    go_wp2
    go_ret2
    refine ⟨_, rfl, ⟨w.heap.size, rfl, fun _ g hg => by simp [Lg.new] at hg, Nw w (w.alloc (.cells #[.int .i64 (n : Int), .slice none 0 0, .bool false] TLg)), none, 0, [], fun _ h => h, ⟨Nat.le_refl _, by simp⟩, Blk.new _ _ _, Row.nil _ _ _, Segs.nil _ _ _, fun x hx => hx.2, ?_, fun _ _ => trivial⟩, (Below.refl _ _).alloc (Nat.le_refl _) _⟩
    refine ⟨?_, ?_, by simp [Lg.new], fun g hg => by simp [Lg.new] at hg⟩
    · show 1 ≤ ((n : Int)).toNat
      omega
    · show ((n : Int)).toNat ≤ 1024
      omega
  · simp only [if_neg h]
    by_cases h1 : per < 1
    · go_enter Tryd.func34, Tryd.ntmps34
      go_wp2
      go_ret2
      exact ⟨rfl, rfl⟩
    · have h2 : (1024 : Int) < per := by omega
      go_enter Tryd.func34, Tryd.ntmps34
      go_wp2
      go_ret2
      exact ⟨rfl, rfl⟩

/-- how many segments a log in memory has -/
def segsIn (w : World) (b : Nat) : Nat := match w.cell? ⟨b, 1, none⟩ with
  | some (.slice _ n _) => n
  | _ => 0
theorem dropS_mem : ∀ (gs : List Sg) (n : Int) (g : Sg), g ∈ dropS gs n → g ∈ gs
  | [], _, _, h => h
  | [a], _, _, h => h
  | a :: b :: t, n, g, h => by
    unfold dropS at h
    split at h
    · exact List.mem_cons_of_mem _ (dropS_mem (b :: t) n g h)
    · exact h
theorem Lg.up_drop {L : Lg} (h : L.up) (n : Int) : (L.drop n).1.up := by
  obtain ⟨per, gs, dn⟩ := L
  cases dn
  · unfold Lg.drop
    simp only [Bool.false_eq_true, if_false]
    split
    · exact h
    · exact fun _ g hg => h rfl g (dropS_mem gs n g hg)
  · exact h

theorem dropL (h : LogO S H w b A c ps L) (hu : L.up) (n : Int) :
    Calls Tryd.prog 47 #[.pointer (some ⟨b, 0, none⟩), .int .i64 n] w (LogDid S w (.pointer (some ⟨b, 0, none⟩)) (L.drop n)) := by
  have hu' := Lg.up_drop hu n
  have hsf := safeL h
  obtain ⟨per, gs, dn⟩ := L
  cases dn
  · generalize hsv : Lg.safe ⟨per, gs, false⟩ = sf at *
    by_cases hns : (sf : Int) < n
    · have e : Lg.drop ⟨per, gs, false⟩ n = (⟨per, gs, false⟩, 2) := by unfold Lg.drop; rw [hsv]; simp [hns]
      have E := Lib.hid e
      clear e hu' hsv
      go_enter Tryd.func47, Tryd.ntmps47
      go_wp2_with (first
        | (go_at_call 82; refine (askedL h).mono ?_; rintro e w' ⟨rfl, rfl⟩)
        | (go_at_call 38; refine hsf.mono ?_; rintro e w1 ⟨rfl, hb1⟩))
      go_ret
      rw [E.out]
      have h1 := h.below hb1
      exact ⟨rfl, (h1.mono (S' := Up S w w1) (fun _ => .inl) (Up.lt h.lt hb1.size)).isLog hu, Fr.of_below hb1⟩
    · have e : Lg.drop ⟨per, gs, false⟩ n = (⟨per, dropS gs n, false⟩, 0) := by unfold Lg.drop; rw [hsv]; simp [hns]
      rw [e] at hu'
      have E := Lib.hid e
      clear e hsv
      go_enter Tryd.func47, Tryd.ntmps47
      go_wp2_with (first
        | (go_at_call 82; refine (askedL h).mono ?_; rintro e w' ⟨rfl, rfl⟩)
        | (go_at_call 38; refine hsf.mono ?_; rintro e w1 ⟨rfl, hb1⟩))
      have h1 : LogO (Up S w w1) H w1 b A c ps ⟨per, gs, false⟩ := (h.below hb1).mono (fun _ => .inl) (Up.lt h.lt hb1.size)
      go_loopw [15] (fun _ wr => ∃ (A' : Option Addr) (c' : Nat) (ps' : List Nat) (gs' : List Sg), LogO (Up S w wr) H wr b A' c' ps' ⟨per, gs', false⟩ ∧ dropS gs n = dropS gs' n ∧ Fr S w wr) (fun _ wr => segsIn wr b)
      case atStart => exact ⟨A, c, ps, gs, h1, rfl, Fr.of_below hb1⟩
      case round =>
        obtain ⟨A', c', ps', gs', ho, hds, hf⟩ := hrel
        obtain ⟨c0, c1, c2, z1, z2, q0, q1, q2, q3, q4⟩ := ho.facts
        have HI := Lib.hid (show segsIn wr b = ps'.length by unfold segsIn; rw [c1])
        have HD := Lib.hid hds
        have HQ := Lib.hid q1
        clear hds q1
        by_cases hl : ps'.length ≤ 1
        · have hl' : ¬ (1 : Int) < (ps'.length : Int) := by omega
          go_wp2
          go_ret
          rw [E.out]
          have e1 : dropS gs n = gs' := by
            rw [HD.out]
            have := HQ.out
            match gs', this with
            | [], _ => rfl
            | [g], _ => rfl
            | _ :: _ :: _, h => simp at h; omega
          rw [e1] at hu' ⊢
          exact ⟨rfl, ho.isLog hu', hf⟩
        · have hl' : (1 : Int) < (ps'.length : Int) := by omega
          obtain ⟨g0, g, t, rfl⟩ : ∃ g0 g t, gs' = g0 :: g :: t := by
            have := HQ.out
            match gs', this with
            | [], h => rw [List.length_nil] at h; omega
            | [g], h => rw [List.length_singleton] at h; omega
            | g0 :: g :: t, _ => exact ⟨g0, g, t, rfl⟩
          obtain ⟨d, base, recs, safe⟩ := g
          have hg : (g0 :: ⟨d, base, recs, safe⟩ :: t)[1]? = some (⟨d, base, recs, safe⟩ : Sg) := rfl
          obtain ⟨p, hp, db, R, cr, s0, s1, s2, s3, y2, y3⟩ := ho.segs.facts hg
          obtain ⟨ga, oa, hA', ca⟩ := ho.ptrAt2 hp
          have ca2 : wr.cell? ((⟨ga, oa, none⟩ : Addr).add 1) = some (.pointer (some ⟨p, 0, none⟩)) := ca
          have HA := Lib.hid hA'
          subst hA'
          clear hg
          by_cases hbn : (base : Int) ≤ n
          · have k1 : (1 : Int) ≤ (ps'.length : Int) := by omega
            have k2 : (1 : Int) ≤ (c' : Int) := by omega
            have k3 : ¬ c' = 1 := by omega
            go_wp2
            go_roundw
            case rel =>
              obtain ⟨p0, ps2, rfl⟩ : ∃ p0 ps2, ps' = p0 :: ps2 := by
                match ps', hl with
                | [], h => simp at h
                | p0 :: ps2, _ => exact ⟨p0, ps2, rfl⟩
              rw [List.length_cons, Nat.add_sub_cancel]
              have hrow : Row H wr TPs (.slice (some ⟨ga, oa + 1, none⟩) ps2.length (c' - 1)) (ps2.map ptr) := by
                obtain ⟨g1, o1, c1', e, hc1, hr⟩ := ho.row.drop (n := 1) (by rw [List.length_map]; omega)
                simp only [Value.slice.injEq, Option.some.injEq, Addr.mk.injEq, and_true] at e
                obtain ⟨⟨rfl, rfl⟩, -, rfl⟩ := e
                simpa using hr
              have hok := ho.ok
              obtain ⟨ho2, hf2⟩ := ho.put hrow ho.segs.tail ⟨hok.1, hok.2.1, by have := hok.2.2.1; simp at this ⊢; omega, fun g hg => hok.2.2.2 g (List.mem_cons_of_mem _ hg)⟩
              have hsz : (wr.setCell ⟨b, 1, none⟩ (.slice (some ⟨ga, oa + 1, none⟩) ps2.length (c' - 1))).heap.size = wr.heap.size := by simp [World.setCell]
              refine ⟨_, _, ps2, _, ho2.mono (fun x hx => hx.imp_right (fun h => ⟨h.1, by rw [hsz]; exact h.2⟩)) (fun x hx => ho2.lt x (hx.imp_right (fun h => ⟨h.1, by rw [hsz] at h; exact h.2⟩))), ?_, hf.trans' hf2 (fun x hb hx => hx.elim id (fun h => by omega))⟩
              rw [HD.out, dropS, if_pos hbn]
            case measure =>
              have e2 : segsIn (wr.setCell ⟨b, 1, none⟩ (.slice (some ⟨ga, oa + 1, none⟩) (ps'.length - 1) (c' - 1))) b = ps'.length - 1 := by
                unfold segsIn
                have := (ho.blk.set 1 (.slice (some ⟨ga, oa + 1, none⟩) (ps'.length - 1) (c' - 1))).cell 1 (v := .slice (some ⟨ga, oa + 1, none⟩) (ps'.length - 1) (c' - 1)) (by simp)
                rw [this]
              rw [e2, HI.out]
              omega
          · go_wp2
            go_ret
            rw [E.out]
            have e1 : dropS gs n = g0 :: ⟨d, base, recs, safe⟩ :: t := by rw [HD.out, dropS, if_neg (show ¬ (base : Int) ≤ n by omega)]
            rw [e1] at hu' ⊢
            exact ⟨rfl, ho.isLog hu', hf⟩
  · have e : Lg.drop ⟨per, gs, true⟩ n = (⟨per, gs, true⟩, 10) := by unfold Lg.drop; simp
    have E := Lib.hid e
    clear e hu' hsf
    go_enter Tryd.func47, Tryd.ntmps47
    go_wp2_with (go_at_call 82; refine (askedL h).mono ?_; rintro e w' ⟨rfl, rfl⟩)
    go_ret
    rw [E.out]
    exact ⟨rfl, h.same hu, Fr.refl _ _⟩
end
end Go.Proofs.YtediidajdpdeiaaDoor
