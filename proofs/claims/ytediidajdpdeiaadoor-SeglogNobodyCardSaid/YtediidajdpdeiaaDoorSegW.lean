/- The log's functions that read (layer 7): the walks. -/
import Derived.Test.YtediidajdpdeiaaDoorSeg
namespace Go.Proofs.YtediidajdpdeiaaDoor
open Go.RowKit CrcM
set_option maxRecDepth 100000

theorem drop_of {α : Type} {l : List α} {k : Nat} {x : α} (h : l[k]? = some x) : l.drop k = x :: l.drop (k + 1) := by
  obtain ⟨hlt, e⟩ := List.getElem?_eq_some_iff.1 h
  rw [List.drop_eq_getElem_cons hlt, e]

/-- what a function that only reads leaves -/
def Told (w : World) (v : Value) (e : Ending) (w' : World) : Prop := e = .returned v ∧ Below w.heap.size w w'

section
variable {S H : Nat → Prop} {w : World} {b : Nat} {A : Option Addr} {c : Nat} {ps : List Nat} {L : Lg}

theorem noneL (h : LogO S H w b A c ps L) : Calls Tryd.prog 87 #[.pointer (some ⟨b, 0, none⟩)] w fun e w' => e = .returned (.bool false) ∧ w = w' := by
  obtain ⟨per, gs, dn⟩ := L
  obtain ⟨c0, c1, c2, z1, z2, q0, q1, q2, q3, q4⟩ := h.facts
  go_enter Tryd.func87, Tryd.ntmps87
  go_wp2
  go_ret
  exact ⟨rfl, rfl⟩

theorem askedL (h : LogO S H w b A c ps L) : Calls Tryd.prog 82 #[.pointer (some ⟨b, 0, none⟩)] w fun e w' => e = .returned (.int .i64 (if L.down then 10 else 0)) ∧ w = w' := by
  obtain ⟨per, gs, dn⟩ := L
  obtain ⟨c0, c1, c2, z1, z2, q0, q1, q2, q3, q4⟩ := h.facts
  cases dn
  all_goals
    go_enter Tryd.func82, Tryd.ntmps82
    go_wp2_with (go_at_call 87; refine (noneL h).mono ?_; rintro e w' ⟨rfl, rfl⟩)
    go_ret
    exact ⟨rfl, rfl⟩

theorem downL (h : LogO S H w b A c ps L) : Calls Tryd.prog 48 #[.pointer (some ⟨b, 0, none⟩)] w fun e w' => e = .returned (.bool L.down) ∧ w = w' := by
  obtain ⟨per, gs, dn⟩ := L
  obtain ⟨c0, c1, c2, z1, z2, q0, q1, q2, q3, q4⟩ := h.facts
  go_enter Tryd.func48, Tryd.ntmps48
  go_wp2_with (go_at_call 87; refine (noneL h).mono ?_; rintro e w' ⟨rfl, rfl⟩)
  go_ret
  exact ⟨rfl, rfl⟩

/-- the last segment's place -/
def lastV (ps : List Nat) : Value := match ps.getLast? with
  | none => .pointer none
  | some p => .pointer (some ⟨p, 0, none⟩)

theorem lastL (h : LogO S H w b A c ps L) : Calls Tryd.prog 83 #[.pointer (some ⟨b, 0, none⟩)] w (Told w (lastV ps)) := by
  obtain ⟨per, gs, dn⟩ := L
  obtain ⟨c0, c1, c2, z1, z2, q0, q1, q2, q3, q4⟩ := h.facts
  rcases Nat.eq_zero_or_pos ps.length with h0 | h0
  · obtain rfl := List.eq_nil_of_length_eq_zero h0
    clear q1 q2 q3 h0
    go_enter Tryd.func83, Tryd.ntmps83
    go_wp2_with (go_at_call 87; refine (noneL h).mono ?_; rintro e w' ⟨rfl, rfl⟩)
    go_ret
    exact ⟨rfl, Below.refl _ _⟩
  · obtain ⟨p, hp⟩ : ∃ p, ps[ps.length - 1]? = some p := ⟨_, List.getElem?_eq_getElem (show ps.length - 1 < ps.length by omega)⟩
    have e : lastV ps = .pointer (some ⟨p, 0, none⟩) := by
      unfold lastV; rw [List.getLast?_eq_getElem?, hp]
    rw [e]
    clear e
    obtain ⟨ad, rfl, ca⟩ := h.ptrAt hp
    have k1 : ((ps.length : Int) == 0) = false := by rw [beq_eq_false_iff_ne]; omega
    have k2 : IntKind.i64.wrap ((ps.length : Int) - 1) = (ps.length : Int) - 1 := by rw [IntKind.wrap_i64]; omega
    have k3 : ((ps.length : Int) - 1).toNat = ps.length - 1 := by omega
    have k4 : (0 : Int) ≤ (ps.length : Int) - 1 := by omega
    have k5 : 1 ≤ (ps.length : Int) := by omega
    have k6 : (ps.length : Int) - 1 < (ps.length : Int) := by omega
    clear q1 hp
    go_enter Tryd.func83, Tryd.ntmps83
    go_wp2_with (go_at_call 87; refine (noneL h).mono ?_; rintro e w' ⟨rfl, rfl⟩)
    refine wp_region_T #[[], [], [], [], [], [], [], [], [7], [7], [3, 7], [3, 7], [3, 7, 11]] [3, 7, 11] (fun w' => w'.cell? ⟨b, 1, none⟩ = some (.slice (some ad) ps.length c) ∧ w'.cell? (ad.add (ps.length - 1)) = some (.pointer (some ⟨p, 0, none⟩))) 13 rfl (by kernel_rfl) ?_
    (refine wpAnyT_free (i := 0) rfl (by kernel_rfl) rfl (fun _ _ _ h => h) (by kernel_rfl) (fun _ => by go_simp; try rfl) ?_; (try simp only [Act.put, List.setIfInBounds_toArray, List.set_cons_zero, List.set_cons_succ]))
    (refine wpAnyT_free (i := 1) rfl (by kernel_rfl) rfl (fun _ _ _ h => h) (by kernel_rfl) (fun _ => by go_simp; try rfl) ?_; (try simp only [Act.put, List.setIfInBounds_toArray, List.set_cons_zero, List.set_cons_succ]))
    (refine wpAnyT_free (i := 2) rfl (by kernel_rfl) rfl (fun _ _ _ h => h) (by kernel_rfl) (fun _ => by go_simp; try rfl) ?_; (try simp only [Act.put, List.setIfInBounds_toArray, List.set_cons_zero, List.set_cons_succ]))
    (refine wpAnyT_read (i := 3) rfl (by kernel_rfl) rfl (fun _ _ _ h => h) (by kernel_rfl) (⟨c1, ca⟩) (fun w hS_ => by obtain ⟨s_1, s_2⟩ := hS_; go_simp; try rfl) ?_; (try simp only [Act.put, List.setIfInBounds_toArray, List.set_cons_zero, List.set_cons_succ]))
    (refine wpAnyT_free (i := 4) rfl (by kernel_rfl) rfl (fun _ _ _ h => h) (by kernel_rfl) (fun _ => by go_simp; try rfl) ?_; (try simp only [Act.put, List.setIfInBounds_toArray, List.set_cons_zero, List.set_cons_succ]))
    (refine wpAnyT_free (i := 5) rfl (by kernel_rfl) rfl (fun _ _ _ h => h) (by kernel_rfl) (fun _ => by go_simp; try rfl) ?_; (try simp only [Act.put, List.setIfInBounds_toArray, List.set_cons_zero, List.set_cons_succ]))
    (refine wpAnyT_free (i := 6) rfl (by kernel_rfl) rfl (fun _ _ _ h => h) (by kernel_rfl) (fun _ => by go_simp; try rfl) ?_; (try simp only [Act.put, List.setIfInBounds_toArray, List.set_cons_zero, List.set_cons_succ]))
    (refine wpAnyT_read (i := 7) rfl (by kernel_rfl) rfl (fun _ _ _ h => h) (by kernel_rfl) (⟨c1, ca⟩) (fun w hS_ => by obtain ⟨s_1, s_2⟩ := hS_; go_simp; try rfl) ?_; (try simp only [Act.put, List.setIfInBounds_toArray, List.set_cons_zero, List.set_cons_succ]))
    (refine wpAnyT_free (i := 8) rfl (by kernel_rfl) rfl (fun _ _ _ h => h) (by kernel_rfl) (fun _ => by go_simp; try rfl) ?_; (try simp only [Act.put, List.setIfInBounds_toArray, List.set_cons_zero, List.set_cons_succ]))
    (refine wpAnyT_free (i := 9) rfl (by kernel_rfl) rfl (fun _ _ _ h => h) (by kernel_rfl) (fun _ => by go_simp; try rfl) ?_; (try simp only [Act.put, List.setIfInBounds_toArray, List.set_cons_zero, List.set_cons_succ]))
    (refine wpAnyT_free (i := 10) rfl (by kernel_rfl) rfl (fun _ _ _ h => h) (by kernel_rfl) (fun _ => by go_simp; try rfl) ?_; (try simp only [Act.put, List.setIfInBounds_toArray, List.set_cons_zero, List.set_cons_succ]))
    (refine wpAnyT_read (i := 11) rfl (by kernel_rfl) rfl (fun _ _ _ h => h) (by kernel_rfl) (⟨c1, ca⟩) (fun w hS_ => by obtain ⟨s_1, s_2⟩ := hS_; go_simp; try rfl) ?_; (try simp only [Act.put, List.setIfInBounds_toArray, List.set_cons_zero, List.set_cons_succ]))
    (refine wpAnyT_free (i := 12) rfl (by kernel_rfl) rfl (fun _ _ _ h => h) (by kernel_rfl) (fun _ => by go_simp; try rfl) ?_; (try simp only [Act.put, List.setIfInBounds_toArray, List.set_cons_zero, List.set_cons_succ]))
    refine wpAnyT_done (by kernel_rfl) ?_ _
    go_wp2
    go_ret
    exact ⟨rfl, (Below.refl _ _).drew⟩

theorem baseL (h : LogO S H w b A c ps L) : Calls Tryd.prog 39 #[.pointer (some ⟨b, 0, none⟩)] w (Told w (.int .i64 (L.base : Int))) := by
  obtain ⟨per, gs, dn⟩ := L
  obtain ⟨c0, c1, c2, z1, z2, q0, q1, q2, q3, q4⟩ := h.facts
  cases dn
  · cases gs with
    | nil =>
      obtain rfl := List.eq_nil_of_length_eq_zero q1
      go_enter Tryd.func39, Tryd.ntmps39
      go_wp2_with (go_at_call 48; refine (downL h).mono ?_; rintro e w' ⟨rfl, rfl⟩)
      go_ret
      exact ⟨rfl, Below.refl _ _⟩
    | cons g gs =>
      obtain ⟨d, base, recs, safe⟩ := g
      obtain ⟨p, hp, db, R, cr, s0, s1, s2, s3, y2, y3⟩ := h.segs.facts (k := 0) rfl
      obtain ⟨ad, rfl, ca⟩ := h.ptrAt hp
      rw [List.length_cons] at q1
      have k1 : ((ps.length : Int) == 0) = false := by rw [beq_eq_false_iff_ne]; omega
      have k2 : (0 : Int) < (ps.length : Int) := by omega
      have ca' : w.cell? ad = some (.pointer (some ⟨p, 0, none⟩)) := ca
      clear q1
      go_enter Tryd.func39, Tryd.ntmps39
      go_wp2_with (go_at_call 48; refine (downL h).mono ?_; rintro e w' ⟨rfl, rfl⟩)
      go_ret
      exact ⟨rfl, Below.refl _ _⟩
  · go_enter Tryd.func39, Tryd.ntmps39
    go_wp2_with (go_at_call 48; refine (downL h).mono ?_; rintro e w' ⟨rfl, rfl⟩)
    go_ret
    exact ⟨rfl, Below.refl _ _⟩

theorem lenL (h : LogO S H w b A c ps L) : Calls Tryd.prog 37 #[.pointer (some ⟨b, 0, none⟩)] w (Told w (.int .i64 (L.len : Int))) := by
  obtain ⟨per, gs, dn⟩ := L
  have hl := lastL h
  rcases Nat.eq_zero_or_pos ps.length with h0 | h0
  · obtain rfl := List.eq_nil_of_length_eq_zero h0
    have e : Lg.len ⟨per, gs, dn⟩ = 0 := by
      have := h.segs.len
      obtain rfl : gs = [] := List.eq_nil_of_length_eq_zero this.symm
      unfold Lg.len; simp
    rw [e]
    clear e
    have el : lastV [] = .pointer none := rfl
    rw [el] at hl
    go_enter Tryd.func37, Tryd.ntmps37
    go_wp2_with (go_at_call 83; refine hl.mono ?_; rintro e w1 ⟨rfl, hb1⟩)
    go_ret
    exact ⟨rfl, hb1⟩
  · have hgl : ps.length = gs.length := h.segs.len
    obtain ⟨g, hg⟩ : ∃ g, gs[gs.length - 1]? = some g := ⟨_, List.getElem?_eq_getElem (show gs.length - 1 < gs.length by omega)⟩
    obtain ⟨d, base, recs, safe⟩ := g
    have e : Lg.len ⟨per, gs, dn⟩ = if dn then 0 else base + recs.length := by
      unfold Lg.len; simp only; rw [List.getLast?_eq_getElem?, hg]
    have hok := h.ok.2.2.2 _ (List.mem_of_getElem? hg)
    have hb1 := hok.1
    have hb2 := hok.2.1
    simp only at hb1 hb2
    obtain ⟨p, hp, -⟩ := h.segs.facts hg
    have el : lastV ps = .pointer (some ⟨p, 0, none⟩) := by
      unfold lastV; rw [List.getLast?_eq_getElem?, hgl, hp]
    rw [el] at hl
    rw [e]
    clear e el hok
    cases dn
    · go_enter Tryd.func37, Tryd.ntmps37
      go_wp2_with (go_at_call 83; refine hl.mono ?_; rintro e w1 ⟨rfl, hbl⟩
                   have h1 := h.below hbl
                   obtain ⟨c0, c1, c2, z1, z2, q0, q1, q2, q3, q4⟩ := h1.facts
                   obtain ⟨p', hp', db, R, cr, s0, s1, s2, s3, y2, y3⟩ := h1.segs.facts hg
                   rw [hp] at hp'
                   injection hp' with hp'
                   subst hp')
      have k1 : IntKind.i64.wrap ((base : Int) + (recs.length : Int)) = (base : Int) + (recs.length : Int) := by rw [IntKind.wrap_i64]; omega
      refine wp_region_T #[[], [], [], [], [], [], [], [], [7], [3, 7], [3, 7]] [3, 7] (fun w' => w'.cell? ⟨p, 1, none⟩ = some (.int .i64 (base : Int)) ∧ w'.cell? ⟨p, 2, none⟩ = some (.slice R recs.length cr)) 11 rfl (by kernel_rfl) ?_
      (refine wpAnyT_free (i := 0) rfl (by kernel_rfl) rfl (fun _ _ _ h => h) (by kernel_rfl) (fun _ => by go_simp; try rfl) ?_; (try simp only [Act.put, List.setIfInBounds_toArray, List.set_cons_zero, List.set_cons_succ]))
      (refine wpAnyT_free (i := 1) rfl (by kernel_rfl) rfl (fun _ _ _ h => h) (by kernel_rfl) (fun _ => by go_simp; try rfl) ?_; (try simp only [Act.put, List.setIfInBounds_toArray, List.set_cons_zero, List.set_cons_succ]))
      (refine wpAnyT_free (i := 2) rfl (by kernel_rfl) rfl (fun _ _ _ h => h) (by kernel_rfl) (fun _ => by go_simp; try rfl) ?_; (try simp only [Act.put, List.setIfInBounds_toArray, List.set_cons_zero, List.set_cons_succ]))
      (refine wpAnyT_read (i := 3) rfl (by kernel_rfl) rfl (fun _ _ _ h => h) (by kernel_rfl) (⟨s1, s2⟩) (fun w hS_ => by obtain ⟨s_1, s_2⟩ := hS_; go_simp; try rfl) ?_; (try simp only [Act.put, List.setIfInBounds_toArray, List.set_cons_zero, List.set_cons_succ]))
      (refine wpAnyT_free (i := 4) rfl (by kernel_rfl) rfl (fun _ _ _ h => h) (by kernel_rfl) (fun _ => by go_simp; try rfl) ?_; (try simp only [Act.put, List.setIfInBounds_toArray, List.set_cons_zero, List.set_cons_succ]))
      (refine wpAnyT_free (i := 5) rfl (by kernel_rfl) rfl (fun _ _ _ h => h) (by kernel_rfl) (fun _ => by go_simp; try rfl) ?_; (try simp only [Act.put, List.setIfInBounds_toArray, List.set_cons_zero, List.set_cons_succ]))
      (refine wpAnyT_free (i := 6) rfl (by kernel_rfl) rfl (fun _ _ _ h => h) (by kernel_rfl) (fun _ => by go_simp; try rfl) ?_; (try simp only [Act.put, List.setIfInBounds_toArray, List.set_cons_zero, List.set_cons_succ]))
      (refine wpAnyT_read (i := 7) rfl (by kernel_rfl) rfl (fun _ _ _ h => h) (by kernel_rfl) (⟨s1, s2⟩) (fun w hS_ => by obtain ⟨s_1, s_2⟩ := hS_; go_simp; try rfl) ?_; (try simp only [Act.put, List.setIfInBounds_toArray, List.set_cons_zero, List.set_cons_succ]))
      (refine wpAnyT_free (i := 8) rfl (by kernel_rfl) rfl (fun _ _ _ h => h) (by kernel_rfl) (fun _ => by go_simp; try rfl) ?_; (try simp only [Act.put, List.setIfInBounds_toArray, List.set_cons_zero, List.set_cons_succ]))
      (refine wpAnyT_free (i := 9) rfl (by kernel_rfl) rfl (fun _ _ _ h => h) (by kernel_rfl) (fun _ => by go_simp; try rfl) ?_; (try simp only [Act.put, List.setIfInBounds_toArray, List.set_cons_zero, List.set_cons_succ]))
      (refine wpAnyT_free (i := 10) rfl (by kernel_rfl) rfl (fun _ _ _ h => h) (by kernel_rfl) (fun _ => by go_simp; try rfl) ?_; (try simp only [Act.put, List.setIfInBounds_toArray, List.set_cons_zero, List.set_cons_succ]))
      refine wpAnyT_done (by kernel_rfl) ?_ _
      go_wp2
      go_ret
      exact ⟨rfl, hbl.drew⟩
    · go_enter Tryd.func37, Tryd.ntmps37
      go_wp2_with (go_at_call 83; refine hl.mono ?_; rintro e w1 ⟨rfl, hbl⟩
                   have h1 := h.below hbl
                   obtain ⟨c0, c1, c2, z1, z2, q0, q1, q2, q3, q4⟩ := h1.facts)
      go_ret
      exact ⟨rfl, hbl⟩

theorem safeL (h : LogO S H w b A c ps L) : Calls Tryd.prog 38 #[.pointer (some ⟨b, 0, none⟩)] w (Told w (.int .i64 (L.safe : Int))) := by
  obtain ⟨per, gs, dn⟩ := L
  have hl := baseL h
  cases dn
  · have e : Lg.safe ⟨per, gs, false⟩ = safeS gs (Lg.base ⟨per, gs, false⟩) := by unfold Lg.safe; simp
    rw [e]
    clear e
    generalize Lg.base ⟨per, gs, false⟩ = base0 at *
    go_enter Tryd.func38, Tryd.ntmps38
    go_wp2_with (first
      | (go_at_call 39; refine hl.mono ?_; rintro e w1 ⟨rfl, hbl⟩
         have h1 := h.below hbl
         obtain ⟨c0, c1, c2, z1, z2, q0, q1, q2, q3, q4⟩ := h1.facts; have HQ := Lib.hid q1; clear q1)
      | (go_at_call 48; refine (downL h1).mono ?_; rintro e w' ⟨rfl, rfl⟩))
    have HB := hbl
    clear hbl c0 c1 c2
    go_loopw [3, 15] (fun n i wr => ∃ k m : Nat, k ≤ ps.length ∧ i = .int .i64 (k : Int) ∧ n = .int .i64 (m : Int) ∧ safeS gs base0 = safeS (gs.drop k) m ∧ Below w.heap.size w wr) (fun _ i _ => ps.length - (intOf i).toNat)
    case atStart => exact ⟨0, base0, by omega, rfl, rfl, rfl, HB⟩
    case round =>
      obtain ⟨k, m, hk, rfl, rfl, hs, hb⟩ := hrel
      have HSM := Lib.hid hs
      clear hs
      have h2 := h.below hb
      obtain ⟨c0, c1, c2, z1, z2, -, -, -, -, -⟩ := h2.facts
      by_cases hlt : k < ps.length
      · obtain ⟨g, hg⟩ : ∃ g, gs[k]? = some g := ⟨_, List.getElem?_eq_getElem (show k < gs.length by have := HQ.out; omega)⟩
        obtain ⟨d, base, recs, safe⟩ := g
        have hdr : gs.drop k = ⟨d, base, recs, safe⟩ :: gs.drop (k + 1) := drop_of hg
        have hok := h.ok.2.2.2 _ (List.mem_of_getElem? hg)
        have hb1 := hok.1
        have hb2 := hok.2.1
        have hb3 := hok.2.2.1
        simp only at hb1 hb2 hb3
        obtain ⟨p, hp, db, R, cr, s0, s1, s2, s3, y2, y3⟩ := h2.segs.facts hg
        obtain ⟨ad, rfl, ca⟩ := h2.ptrAt hp
        have HD := Lib.hid hdr
        clear hdr hok
        have hlt' : (k : Int) < (ps.length : Int) := by omega
        have k1 : IntKind.i64.wrap ((base : Int) + (safe : Int)) = (base : Int) + (safe : Int) := by rw [IntKind.wrap_i64]; omega
        go_wp2
        refine wp_region_T #[[], [], [], [], [], [], [], [], [3, 7], [3, 7]] [3, 7] (fun w' => w'.cell? ⟨p, 1, none⟩ = some (.int .i64 (base : Int)) ∧ w'.cell? ⟨p, 3, none⟩ = some (.int .i64 (safe : Int))) 10 rfl (by kernel_rfl) ?_
        (refine wpAnyT_free (i := 0) rfl (by kernel_rfl) rfl (fun _ _ _ h => h) (by kernel_rfl) (fun _ => by go_simp; try rfl) ?_; (try simp only [Act.put, List.setIfInBounds_toArray, List.set_cons_zero, List.set_cons_succ]))
        (refine wpAnyT_free (i := 1) rfl (by kernel_rfl) rfl (fun _ _ _ h => h) (by kernel_rfl) (fun _ => by go_simp; try rfl) ?_; (try simp only [Act.put, List.setIfInBounds_toArray, List.set_cons_zero, List.set_cons_succ]))
        (refine wpAnyT_free (i := 2) rfl (by kernel_rfl) rfl (fun _ _ _ h => h) (by kernel_rfl) (fun _ => by go_simp; try rfl) ?_; (try simp only [Act.put, List.setIfInBounds_toArray, List.set_cons_zero, List.set_cons_succ]))
        (refine wpAnyT_read (i := 3) rfl (by kernel_rfl) rfl (fun _ _ _ h => h) (by kernel_rfl) (⟨s1, s3⟩) (fun w hS_ => by obtain ⟨s_1, s_2⟩ := hS_; go_simp; try rfl) ?_; (try simp only [Act.put, List.setIfInBounds_toArray, List.set_cons_zero, List.set_cons_succ]))
        (refine wpAnyT_free (i := 4) rfl (by kernel_rfl) rfl (fun _ _ _ h => h) (by kernel_rfl) (fun _ => by go_simp; try rfl) ?_; (try simp only [Act.put, List.setIfInBounds_toArray, List.set_cons_zero, List.set_cons_succ]))
        (refine wpAnyT_free (i := 5) rfl (by kernel_rfl) rfl (fun _ _ _ h => h) (by kernel_rfl) (fun _ => by go_simp; try rfl) ?_; (try simp only [Act.put, List.setIfInBounds_toArray, List.set_cons_zero, List.set_cons_succ]))
        (refine wpAnyT_free (i := 6) rfl (by kernel_rfl) rfl (fun _ _ _ h => h) (by kernel_rfl) (fun _ => by go_simp; try rfl) ?_; (try simp only [Act.put, List.setIfInBounds_toArray, List.set_cons_zero, List.set_cons_succ]))
        (refine wpAnyT_read (i := 7) rfl (by kernel_rfl) rfl (fun _ _ _ h => h) (by kernel_rfl) (⟨s1, s3⟩) (fun w hS_ => by obtain ⟨s_1, s_2⟩ := hS_; go_simp; try rfl) ?_; (try simp only [Act.put, List.setIfInBounds_toArray, List.set_cons_zero, List.set_cons_succ]))
        (refine wpAnyT_free (i := 8) rfl (by kernel_rfl) rfl (fun _ _ _ h => h) (by kernel_rfl) (fun _ => by go_simp; try rfl) ?_; (try simp only [Act.put, List.setIfInBounds_toArray, List.set_cons_zero, List.set_cons_succ]))
        (refine wpAnyT_free (i := 9) rfl (by kernel_rfl) rfl (fun _ _ _ h => h) (by kernel_rfl) (fun _ => by go_simp; try rfl) ?_; (try simp only [Act.put, List.setIfInBounds_toArray, List.set_cons_zero, List.set_cons_succ]))
        refine wpAnyT_done (by kernel_rfl) ?_ _
        by_cases hss : safe < recs.length
        · have hss' : (safe : Int) < (recs.length : Int) := by omega
          go_wp2
          refine wp_region_T #[[], [], [], [], [], [], [], [], [7], [3, 7]] [3, 7] (fun w' => w'.cell? ⟨p, 2, none⟩ = some (.slice R recs.length cr) ∧ w'.cell? ⟨p, 3, none⟩ = some (.int .i64 (safe : Int))) 10 rfl (by kernel_rfl) ?_
          (refine wpAnyT_free (i := 0) rfl (by kernel_rfl) rfl (fun _ _ _ h => h) (by kernel_rfl) (fun _ => by go_simp; try rfl) ?_; (try simp only [Act.put, List.setIfInBounds_toArray, List.set_cons_zero, List.set_cons_succ]))
          (refine wpAnyT_free (i := 1) rfl (by kernel_rfl) rfl (fun _ _ _ h => h) (by kernel_rfl) (fun _ => by go_simp; try rfl) ?_; (try simp only [Act.put, List.setIfInBounds_toArray, List.set_cons_zero, List.set_cons_succ]))
          (refine wpAnyT_free (i := 2) rfl (by kernel_rfl) rfl (fun _ _ _ h => h) (by kernel_rfl) (fun _ => by go_simp; try rfl) ?_; (try simp only [Act.put, List.setIfInBounds_toArray, List.set_cons_zero, List.set_cons_succ]))
          (refine wpAnyT_read (i := 3) rfl (by kernel_rfl) rfl (fun _ _ _ h => h) (by kernel_rfl) (⟨s2, s3⟩) (fun w hS_ => by obtain ⟨s_1, s_2⟩ := hS_; go_simp; try rfl) ?_; (try simp only [Act.put, List.setIfInBounds_toArray, List.set_cons_zero, List.set_cons_succ]))
          (refine wpAnyT_free (i := 4) rfl (by kernel_rfl) rfl (fun _ _ _ h => h) (by kernel_rfl) (fun _ => by go_simp; try rfl) ?_; (try simp only [Act.put, List.setIfInBounds_toArray, List.set_cons_zero, List.set_cons_succ]))
          (refine wpAnyT_free (i := 5) rfl (by kernel_rfl) rfl (fun _ _ _ h => h) (by kernel_rfl) (fun _ => by go_simp; try rfl) ?_; (try simp only [Act.put, List.setIfInBounds_toArray, List.set_cons_zero, List.set_cons_succ]))
          (refine wpAnyT_free (i := 6) rfl (by kernel_rfl) rfl (fun _ _ _ h => h) (by kernel_rfl) (fun _ => by go_simp; try rfl) ?_; (try simp only [Act.put, List.setIfInBounds_toArray, List.set_cons_zero, List.set_cons_succ]))
          (refine wpAnyT_read (i := 7) rfl (by kernel_rfl) rfl (fun _ _ _ h => h) (by kernel_rfl) (⟨s2, s3⟩) (fun w hS_ => by obtain ⟨s_1, s_2⟩ := hS_; go_simp; try rfl) ?_; (try simp only [Act.put, List.setIfInBounds_toArray, List.set_cons_zero, List.set_cons_succ]))
          (refine wpAnyT_free (i := 8) rfl (by kernel_rfl) rfl (fun _ _ _ h => h) (by kernel_rfl) (fun _ => by go_simp; try rfl) ?_; (try simp only [Act.put, List.setIfInBounds_toArray, List.set_cons_zero, List.set_cons_succ]))
          (refine wpAnyT_free (i := 9) rfl (by kernel_rfl) rfl (fun _ _ _ h => h) (by kernel_rfl) (fun _ => by go_simp; try rfl) ?_; (try simp only [Act.put, List.setIfInBounds_toArray, List.set_cons_zero, List.set_cons_succ]))
          refine wpAnyT_done (by kernel_rfl) ?_ _
          go_wp2
          go_ret
          have e : safeS gs base0 = base + safe := by rw [HSM.out, HD.out, safeS, if_pos hss]
          exact ⟨by rw [e]; rfl, hb.drew.drew⟩
        · have hss' : ¬ (safe : Int) < (recs.length : Int) := by omega
          go_wp2
          refine wp_region_T #[[], [], [], [], [], [], [], [], [7], [3, 7]] [3, 7] (fun w' => w'.cell? ⟨p, 2, none⟩ = some (.slice R recs.length cr) ∧ w'.cell? ⟨p, 3, none⟩ = some (.int .i64 (safe : Int))) 10 rfl (by kernel_rfl) ?_
          (refine wpAnyT_free (i := 0) rfl (by kernel_rfl) rfl (fun _ _ _ h => h) (by kernel_rfl) (fun _ => by go_simp; try rfl) ?_; (try simp only [Act.put, List.setIfInBounds_toArray, List.set_cons_zero, List.set_cons_succ]))
          (refine wpAnyT_free (i := 1) rfl (by kernel_rfl) rfl (fun _ _ _ h => h) (by kernel_rfl) (fun _ => by go_simp; try rfl) ?_; (try simp only [Act.put, List.setIfInBounds_toArray, List.set_cons_zero, List.set_cons_succ]))
          (refine wpAnyT_free (i := 2) rfl (by kernel_rfl) rfl (fun _ _ _ h => h) (by kernel_rfl) (fun _ => by go_simp; try rfl) ?_; (try simp only [Act.put, List.setIfInBounds_toArray, List.set_cons_zero, List.set_cons_succ]))
          (refine wpAnyT_read (i := 3) rfl (by kernel_rfl) rfl (fun _ _ _ h => h) (by kernel_rfl) (⟨s2, s3⟩) (fun w hS_ => by obtain ⟨s_1, s_2⟩ := hS_; go_simp; try rfl) ?_; (try simp only [Act.put, List.setIfInBounds_toArray, List.set_cons_zero, List.set_cons_succ]))
          (refine wpAnyT_free (i := 4) rfl (by kernel_rfl) rfl (fun _ _ _ h => h) (by kernel_rfl) (fun _ => by go_simp; try rfl) ?_; (try simp only [Act.put, List.setIfInBounds_toArray, List.set_cons_zero, List.set_cons_succ]))
          (refine wpAnyT_free (i := 5) rfl (by kernel_rfl) rfl (fun _ _ _ h => h) (by kernel_rfl) (fun _ => by go_simp; try rfl) ?_; (try simp only [Act.put, List.setIfInBounds_toArray, List.set_cons_zero, List.set_cons_succ]))
          (refine wpAnyT_free (i := 6) rfl (by kernel_rfl) rfl (fun _ _ _ h => h) (by kernel_rfl) (fun _ => by go_simp; try rfl) ?_; (try simp only [Act.put, List.setIfInBounds_toArray, List.set_cons_zero, List.set_cons_succ]))
          (refine wpAnyT_read (i := 7) rfl (by kernel_rfl) rfl (fun _ _ _ h => h) (by kernel_rfl) (⟨s2, s3⟩) (fun w hS_ => by obtain ⟨s_1, s_2⟩ := hS_; go_simp; try rfl) ?_; (try simp only [Act.put, List.setIfInBounds_toArray, List.set_cons_zero, List.set_cons_succ]))
          (refine wpAnyT_free (i := 8) rfl (by kernel_rfl) rfl (fun _ _ _ h => h) (by kernel_rfl) (fun _ => by go_simp; try rfl) ?_; (try simp only [Act.put, List.setIfInBounds_toArray, List.set_cons_zero, List.set_cons_succ]))
          (refine wpAnyT_free (i := 9) rfl (by kernel_rfl) rfl (fun _ _ _ h => h) (by kernel_rfl) (fun _ => by go_simp; try rfl) ?_; (try simp only [Act.put, List.setIfInBounds_toArray, List.set_cons_zero, List.set_cons_succ]))
          refine wpAnyT_done (by kernel_rfl) ?_ _
          go_wp2
          go_roundw
          case rel => exact ⟨k + 1, base + safe, by omega, by go_num, by go_num, by rw [HSM.out, HD.out, safeS, if_neg hss], hb.drew.drew⟩
          case measure => simp [intOf]; omega
      · obtain rfl : k = ps.length := by omega
        have e : safeS gs base0 = m := by rw [HSM.out, HQ.out, List.drop_length, safeS]
        have E := Lib.hid e
        clear e
        go_wp2
        go_ret
        exact ⟨by rw [E.out]; rfl, hb⟩
  · go_enter Tryd.func38, Tryd.ntmps38
    go_wp2_with (first
      | (go_at_call 39; refine hl.mono ?_; rintro e w1 ⟨rfl, hbl⟩
         have h1 := h.below hbl
         obtain ⟨c0, c1, c2, z1, z2, q0, q1, q2, q3, q4⟩ := h1.facts)
      | (go_at_call 48; refine (downL h1).mono ?_; rintro e w' ⟨rfl, rfl⟩))
    go_ret
    exact ⟨rfl, hbl⟩
end
end Go.Proofs.YtediidajdpdeiaaDoor
