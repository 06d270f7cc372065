/- StoreSnaps: the law's walk. -/
import Derived.Test.YtediidajdpdeiaaDoorJ22
import Derived.Test.YtediidajdpdeiaaDoorJ18

namespace Go.Proofs.YtediidajdpdeiaaDoor
open Go.RowKit CrcM
set_option maxRecDepth 100000

theorem lenC {S : Nat → Prop} {w : World} {b : Nat} {L : Lg} (h : LogAt S w b L) : Calls Tryd.prog 37 #[.pointer (some ⟨b, 0, none⟩)] w (Told w (.int .i64 (L.len : Int))) := by
  obtain ⟨_, H, A, c, ps, hl⟩ := h
  exact lenL hl

set_option maxHeartbeats 2000000 in
theorem snapsLaw_08 (W : World) (hh : HalfAt W) (per : Int) (A : Option Addr) (acts : List Act08) (c : Nat) (hA : ActsAt8 W A acts) (hlen : acts.length ≤ maxLen) (y : Int) (hy : i64 y) :
    Calls Tryd.prog 20 #[.int .i64 per, .slice A acts.length c, .int .i64 y] W fun e w' => e = .returned (.bool true) ∧ Below W.heap.size W w' := by
  have hk64 : i64 0 := by unfold i64; omega
  have hP := plays_08 W hh per A acts c hA hlen
  have hh1 : HalfAt W := hh
  have hP9 : True := trivial
  go_enter Tryd.func20, Tryd.ntmps20
  clear hA
  go_wp2_with (first
    | (go_at_call 58; refine hP.mono ?_; rintro e w1 ⟨b, s, st0, rcs, rfl, h1, hf, hd⟩; obtain ⟨s1, e1, i1, l1, t1⟩ := hf.inv.snapshot hd; have d1 : s1.log.down = false := by rw [l1]; rfl
       obtain ⟨s2, e2, i2, d2, y2, -⟩ := i1.crash d1 0 y (by decide)
       have E1 := Lib.hid e1
       have E2 := Lib.hid e2
       have Y : Hid (s2.sy = ([] : List Rc).length) := Lib.hid (y2.trans (by unfold So.sy; rw [l1]; rfl))
       have L1 : Hid (s1.log.len = 0) := Lib.hid (by rw [l1]; rfl)
       have T1 := Lib.hid t1
       have hlim := (hf.inv.st hd).1
       have hfew := (hf.inv.st hd).2
       have hPr := promised_S h1 hd
       have hH := has_S h1 hlim (by decide) (by omega) hd
       clear hP e1 e2 y2 t1 l1)
    | (go_at_call 60; refine hPr.mono ?_; rintro e w3 ⟨rfl, rfl⟩; clear hPr)
    | (go_at_call 61; refine hH.mono ?_; rintro e w4 ⟨A1, c1, rfl, hw4, h4, hb4⟩; have hSn := snapshot_S h4 hh1; unfold LiveSDid at hSn; rw [E1.out] at hSn; clear hH)
    | (go_at_call 67; refine hSn.mono ?_; rintro e w5 ⟨rfl, h5, hx5, hk5⟩; have hw5 := hw4.xk hx5 hk5; have hLo := log_S h5; unfold CopyDid at hLo; clear hSn)
    | (go_at_call 71; refine hLo.mono ?_; rintro e w5b ⟨bl, rfl, hl5, hb5b⟩; have h5b := h5.mono' hb5b; have hw5b := hw5.below hb5b; have hLe := lenC hl5; rw [L1.out] at hLe; clear hLo)
    | (go_at_call 37; refine hLe.mono ?_; rintro e w5c ⟨rfl, hb5c⟩; have h5c := h5b.mono' hb5c; have hw5c := hw5b.below hb5c; have hPr1 := promised_S h5c d1; rw [T1.out] at hPr1; have hC := crash_S h5c 0 y hk64 hy; unfold LiveSDid at hC; rw [E2.out] at hC; clear hLe)
    | (go_at_call 60; refine hPr1.mono ?_; rintro e w3' ⟨rfl, rfl⟩; clear hPr1)
    | (go_at_call 62; refine hC.mono ?_; rintro e w6 ⟨rfl, h6, hx6, hk6⟩; have hR := restart_S h6 hh1 i2 d2; have hw6 := hw5c.xk (fun z hz => hx6 z hz) hk6; clear hC)
    | (go_at_call 64; refine hR.mono ?_; rintro e w7 ⟨j, s3, rfl, h7, hx7, hk7, hro⟩; have hst := (i1.back d1 Y.out hro).trans T1.out; have u3 := hro.down; have hPr2 := promised_S h7 u3; have hH2 := has_S h7 (m := 40) (by rw [hst]; exact hlim) (by decide) (by rw [hst]; omega) u3; unfold HasDid at hH2; rw [hst] at hPr2 hH2; have hw7 := hw6.xk hx7 hk7; clear hR)
    | (go_at_call 60; refine hPr2.mono ?_; rintro e w3'' ⟨rfl, rfl⟩; clear hPr2)
    | (go_at_call 61; refine hH2.mono ?_; rintro e w8 ⟨A2, c2, rfl, hn8, h8, hb8⟩; have hw8 := hw7.below hb8; clear hH2))
  clear hlim hfew hst hw7 hw6 hw5 hw5b hw5c hw4 hk64 T1 hf
  generalize s.st.slots = H at *
  clear hP9
  go_loopw [62] (fun i wr => ∃ k : Nat, k ≤ H.length ∧ i = .int .i64 (k : Int) ∧ Below w8.heap.size w8 wr) (fun i _ => H.length - (intOf i).toNat)
  case atStart => exact ⟨0, Nat.zero_le _, rfl, Below.refl _ _⟩
  case round =>
    obtain ⟨k, hk, rfl, hb9⟩ := hrel
    by_cases hlt : k < H.length
    · obtain ⟨p, hp⟩ : ∃ p, H[k]? = some p := ⟨_, List.getElem?_eq_getElem hlt⟩
      obtain ⟨g1, o1, B1, d1', q1, -, x1, x2, x3, -, -, x4⟩ := (hw8.below hb9).at_ hp
      obtain ⟨g2, o2, B2, d2', q2, -, y1', y2', y3, -, -, y4⟩ := (hn8.below hb9).at_ hp
      subst q1
      subst q2
      have s1' : (convert 22 9 (.slice B1 p.2.value.length d1')).run Tryd.prog wr.drew = .ok (.string ⟨p.2.value.toArray⟩) wr.drew := HeldS.str (w := wr.drew) x4.drew d1'
      have s2' : (convert 22 9 (.slice B2 p.2.value.length d2')).run Tryd.prog wr.drew = .ok (.string ⟨p.2.value.toArray⟩) wr.drew := HeldS.str (w := wr.drew) y4.drew d2'
      have hlt' : (k : Int) < (H.length : Int) := by omega
      have KL := Lib.hid hlt
      have hHl := hw8.len
      have hcap1 := hw8.1
      have hcap2 := hn8.1
      clear hp x4 y4 hw8 hn8
      obtain ⟨sl, bl, vl⟩ := p
      simp only at x1 x2 x3 y1' y2' y3 s1' s2'
      go_wp2
      refine wp_region_T #[[], [], [], [], [], [], [], [], [], [], [4, 9], [4, 9], [4, 9], [4, 9], [4, 9], [4, 9], [4, 9], [4, 9], [4, 9], [4, 9], [4, 9], [4, 9], [4, 9, 16, 21], [4, 9, 16, 21], [4, 9, 16, 21], [4, 9, 16, 21], [4, 9, 16, 21], [4, 9, 16, 21], [4, 9, 16, 21], [4, 9, 16, 21], [4, 9, 16, 21, 29], [4, 9, 16, 21], [4, 9, 16, 21], [4, 9, 16, 21], [4, 9, 16, 21], [4, 9, 16, 21], [4, 9, 16, 21, 35], [4, 9, 16, 21, 29, 30, 35, 36], [4, 9, 16, 21, 29, 30, 35, 36]] [4, 9, 16, 21, 29, 30, 35, 36] (fun w' => w'.cell? ⟨g1, o1 + k * 3, none⟩ = some (.int .i64 (sl : Int)) ∧ w'.cell? ⟨g1, o1 + k * 3 + 1, none⟩ = some (.int .i64 (bl : Int)) ∧ w'.cell? ⟨g1, o1 + k * 3 + 2, none⟩ = some (.slice B1 vl.length d1') ∧ w'.cell? ⟨g2, o2 + k * 3, none⟩ = some (.int .i64 (sl : Int)) ∧ w'.cell? ⟨g2, o2 + k * 3 + 1, none⟩ = some (.int .i64 (bl : Int)) ∧ w'.cell? ⟨g2, o2 + k * 3 + 2, none⟩ = some (.slice B2 vl.length d2') ∧ (convert 22 9 (.slice B1 vl.length d1')).run Tryd.prog w' = .ok (.string ⟨vl.toArray⟩) w' ∧ (convert 22 9 (.slice B2 vl.length d2')).run Tryd.prog w' = .ok (.string ⟨vl.toArray⟩) w') 39 rfl (by kernel_rfl) ?_
      (refine wpAnyT_free (i := 0) rfl (by kernel_rfl) rfl (fun _ _ _ h => h) (by kernel_rfl) (fun _ => by go_simp; try rfl) ?_; (try simp only [Act.put, List.setIfInBounds_toArray, List.set_cons_zero, List.set_cons_succ]))
      (refine wpAnyT_free (i := 1) rfl (by kernel_rfl) rfl (fun _ _ _ h => h) (by kernel_rfl) (fun _ => by go_simp; try rfl) ?_; (try simp only [Act.put, List.setIfInBounds_toArray, List.set_cons_zero, List.set_cons_succ]))
      (refine wpAnyT_free (i := 2) rfl (by kernel_rfl) rfl (fun _ _ _ h => h) (by kernel_rfl) (fun _ => by go_simp; try rfl) ?_; (try simp only [Act.put, List.setIfInBounds_toArray, List.set_cons_zero, List.set_cons_succ]))
      (refine wpAnyT_free (i := 3) rfl (by kernel_rfl) rfl (fun _ _ _ h => h) (by kernel_rfl) (fun _ => by go_simp; try rfl) ?_; (try simp only [Act.put, List.setIfInBounds_toArray, List.set_cons_zero, List.set_cons_succ]))
      (refine wpAnyT_read (i := 4) rfl (by kernel_rfl) rfl (fun _ _ _ h => h) (by kernel_rfl) (⟨x1, x2, x3, y1', y2', y3, s1', s2'⟩) (fun w hS_ => by obtain ⟨s_1, s_2, s_3, s_4, s_5, s_6, s_7, s_8⟩ := hS_; go_simp; try rfl) ?_; (try simp only [Act.put, List.setIfInBounds_toArray, List.set_cons_zero, List.set_cons_succ]))
      (refine wpAnyT_free (i := 5) rfl (by kernel_rfl) rfl (fun _ _ _ h => h) (by kernel_rfl) (fun _ => by go_simp; try rfl) ?_; (try simp only [Act.put, List.setIfInBounds_toArray, List.set_cons_zero, List.set_cons_succ]))
      (refine wpAnyT_free (i := 6) rfl (by kernel_rfl) rfl (fun _ _ _ h => h) (by kernel_rfl) (fun _ => by go_simp; try rfl) ?_; (try simp only [Act.put, List.setIfInBounds_toArray, List.set_cons_zero, List.set_cons_succ]))
      (refine wpAnyT_free (i := 7) rfl (by kernel_rfl) rfl (fun _ _ _ h => h) (by kernel_rfl) (fun _ => by go_simp; try rfl) ?_; (try simp only [Act.put, List.setIfInBounds_toArray, List.set_cons_zero, List.set_cons_succ]))
      (refine wpAnyT_free (i := 8) rfl (by kernel_rfl) rfl (fun _ _ _ h => h) (by kernel_rfl) (fun _ => by go_simp; try rfl) ?_; (try simp only [Act.put, List.setIfInBounds_toArray, List.set_cons_zero, List.set_cons_succ]))
      (refine wpAnyT_read (i := 9) rfl (by kernel_rfl) rfl (fun _ _ _ h => h) (by kernel_rfl) (⟨x1, x2, x3, y1', y2', y3, s1', s2'⟩) (fun w hS_ => by obtain ⟨s_1, s_2, s_3, s_4, s_5, s_6, s_7, s_8⟩ := hS_; go_simp; try rfl) ?_; (try simp only [Act.put, List.setIfInBounds_toArray, List.set_cons_zero, List.set_cons_succ]))
      (refine wpAnyT_free (i := 10) rfl (by kernel_rfl) rfl (fun _ _ _ h => h) (by kernel_rfl) (fun _ => by go_simp; try rfl) ?_; (try simp only [Act.put, List.setIfInBounds_toArray, List.set_cons_zero, List.set_cons_succ]))
      (refine wpAnyT_free (i := 11) rfl (by kernel_rfl) rfl (fun _ _ _ h => h) (by kernel_rfl) (fun _ => by go_simp; try rfl) ?_; (try simp only [Act.put, List.setIfInBounds_toArray, List.set_cons_zero, List.set_cons_succ]))
      first
      | (refine wpAnyT_skip (i := 12) rfl (by kernel_rfl) rfl (fun _ _ _ h => h) (fun h_ => absurd h_ (by decide)) ?_; (try simp only [Act.put, List.setIfInBounds_toArray, List.set_cons_zero, List.set_cons_succ]))
      | (refine wpAnyT_free (i := 12) rfl (by kernel_rfl) rfl (fun _ _ _ h => h) (by kernel_rfl) (fun _ => by go_simp; try rfl) ?_; (try simp only [Act.put, List.setIfInBounds_toArray, List.set_cons_zero, List.set_cons_succ]))
      | (refine wpAnyT_skip (i := 12) rfl (by kernel_rfl) (by first | (simp [Region.wanted, yielded]; done) | (simp [Region.wanted, yielded, undef, *]; done)) (fun _ _ _ h => h) (fun h_ => absurd h_ (by decide)) ?_; (try simp only [Act.put, List.setIfInBounds_toArray, List.set_cons_zero, List.set_cons_succ]))
      | (refine wpAnyT_free (i := 12) rfl (by kernel_rfl) (by first | (simp [Region.wanted, yielded]; done) | (simp [Region.wanted, yielded, undef, *]; done)) (fun _ _ _ h => h) (by kernel_rfl) (fun _ => by go_simp; try rfl) ?_; (try simp only [Act.put, List.setIfInBounds_toArray, List.set_cons_zero, List.set_cons_succ]))
      first
      | (refine wpAnyT_skip (i := 13) rfl (by kernel_rfl) rfl (fun _ _ _ h => h) (fun h_ => absurd h_ (by decide)) ?_; (try simp only [Act.put, List.setIfInBounds_toArray, List.set_cons_zero, List.set_cons_succ]))
      | (refine wpAnyT_free (i := 13) rfl (by kernel_rfl) rfl (fun _ _ _ h => h) (by kernel_rfl) (fun _ => by go_simp; try rfl) ?_; (try simp only [Act.put, List.setIfInBounds_toArray, List.set_cons_zero, List.set_cons_succ]))
      | (refine wpAnyT_skip (i := 13) rfl (by kernel_rfl) (by first | (simp [Region.wanted, yielded]; done) | (simp [Region.wanted, yielded, undef, *]; done)) (fun _ _ _ h => h) (fun h_ => absurd h_ (by decide)) ?_; (try simp only [Act.put, List.setIfInBounds_toArray, List.set_cons_zero, List.set_cons_succ]))
      | (refine wpAnyT_free (i := 13) rfl (by kernel_rfl) (by first | (simp [Region.wanted, yielded]; done) | (simp [Region.wanted, yielded, undef, *]; done)) (fun _ _ _ h => h) (by kernel_rfl) (fun _ => by go_simp; try rfl) ?_; (try simp only [Act.put, List.setIfInBounds_toArray, List.set_cons_zero, List.set_cons_succ]))
      first
      | (refine wpAnyT_skip (i := 14) rfl (by kernel_rfl) rfl (fun _ _ _ h => h) (fun h_ => absurd h_ (by decide)) ?_; (try simp only [Act.put, List.setIfInBounds_toArray, List.set_cons_zero, List.set_cons_succ]))
      | (refine wpAnyT_free (i := 14) rfl (by kernel_rfl) rfl (fun _ _ _ h => h) (by kernel_rfl) (fun _ => by go_simp; try rfl) ?_; (try simp only [Act.put, List.setIfInBounds_toArray, List.set_cons_zero, List.set_cons_succ]))
      | (refine wpAnyT_skip (i := 14) rfl (by kernel_rfl) (by first | (simp [Region.wanted, yielded]; done) | (simp [Region.wanted, yielded, undef, *]; done)) (fun _ _ _ h => h) (fun h_ => absurd h_ (by decide)) ?_; (try simp only [Act.put, List.setIfInBounds_toArray, List.set_cons_zero, List.set_cons_succ]))
      | (refine wpAnyT_free (i := 14) rfl (by kernel_rfl) (by first | (simp [Region.wanted, yielded]; done) | (simp [Region.wanted, yielded, undef, *]; done)) (fun _ _ _ h => h) (by kernel_rfl) (fun _ => by go_simp; try rfl) ?_; (try simp only [Act.put, List.setIfInBounds_toArray, List.set_cons_zero, List.set_cons_succ]))
      first
      | (refine wpAnyT_skip (i := 15) rfl (by kernel_rfl) rfl (fun _ _ _ h => h) (fun h_ => absurd h_ (by decide)) ?_; (try simp only [Act.put, List.setIfInBounds_toArray, List.set_cons_zero, List.set_cons_succ]))
      | (refine wpAnyT_free (i := 15) rfl (by kernel_rfl) rfl (fun _ _ _ h => h) (by kernel_rfl) (fun _ => by go_simp; try rfl) ?_; (try simp only [Act.put, List.setIfInBounds_toArray, List.set_cons_zero, List.set_cons_succ]))
      | (refine wpAnyT_skip (i := 15) rfl (by kernel_rfl) (by first | (simp [Region.wanted, yielded]; done) | (simp [Region.wanted, yielded, undef, *]; done)) (fun _ _ _ h => h) (fun h_ => absurd h_ (by decide)) ?_; (try simp only [Act.put, List.setIfInBounds_toArray, List.set_cons_zero, List.set_cons_succ]))
      | (refine wpAnyT_free (i := 15) rfl (by kernel_rfl) (by first | (simp [Region.wanted, yielded]; done) | (simp [Region.wanted, yielded, undef, *]; done)) (fun _ _ _ h => h) (by kernel_rfl) (fun _ => by go_simp; try rfl) ?_; (try simp only [Act.put, List.setIfInBounds_toArray, List.set_cons_zero, List.set_cons_succ]))
      first
      | (refine wpAnyT_skip (i := 16) rfl (by kernel_rfl) rfl (fun _ _ _ h => h) (fun _ => ⟨x1, x2, x3, y1', y2', y3, s1', s2'⟩) ?_; (try simp only [Act.put, List.setIfInBounds_toArray, List.set_cons_zero, List.set_cons_succ]))
      | (refine wpAnyT_read (i := 16) rfl (by kernel_rfl) rfl (fun _ _ _ h => h) (by kernel_rfl) (⟨x1, x2, x3, y1', y2', y3, s1', s2'⟩) (fun w hS_ => by obtain ⟨s_1, s_2, s_3, s_4, s_5, s_6, s_7, s_8⟩ := hS_; go_simp; try rfl) ?_; (try simp only [Act.put, List.setIfInBounds_toArray, List.set_cons_zero, List.set_cons_succ]))
      | (refine wpAnyT_skip (i := 16) rfl (by kernel_rfl) (by first | (simp [Region.wanted, yielded]; done) | (simp [Region.wanted, yielded, undef, *]; done)) (fun _ _ _ h => h) (fun _ => ⟨x1, x2, x3, y1', y2', y3, s1', s2'⟩) ?_; (try simp only [Act.put, List.setIfInBounds_toArray, List.set_cons_zero, List.set_cons_succ]))
      | (refine wpAnyT_read (i := 16) rfl (by kernel_rfl) (by first | (simp [Region.wanted, yielded]; done) | (simp [Region.wanted, yielded, undef, *]; done)) (fun _ _ _ h => h) (by kernel_rfl) (⟨x1, x2, x3, y1', y2', y3, s1', s2'⟩) (fun w hS_ => by obtain ⟨s_1, s_2, s_3, s_4, s_5, s_6, s_7, s_8⟩ := hS_; go_simp; try rfl) ?_; (try simp only [Act.put, List.setIfInBounds_toArray, List.set_cons_zero, List.set_cons_succ]))
      first
      | (refine wpAnyT_skip (i := 17) rfl (by kernel_rfl) rfl (fun _ _ _ h => h) (fun h_ => absurd h_ (by decide)) ?_; (try simp only [Act.put, List.setIfInBounds_toArray, List.set_cons_zero, List.set_cons_succ]))
      | (refine wpAnyT_free (i := 17) rfl (by kernel_rfl) rfl (fun _ _ _ h => h) (by kernel_rfl) (fun _ => by go_simp; try rfl) ?_; (try simp only [Act.put, List.setIfInBounds_toArray, List.set_cons_zero, List.set_cons_succ]))
      | (refine wpAnyT_skip (i := 17) rfl (by kernel_rfl) (by first | (simp [Region.wanted, yielded]; done) | (simp [Region.wanted, yielded, undef, *]; done)) (fun _ _ _ h => h) (fun h_ => absurd h_ (by decide)) ?_; (try simp only [Act.put, List.setIfInBounds_toArray, List.set_cons_zero, List.set_cons_succ]))
      | (refine wpAnyT_free (i := 17) rfl (by kernel_rfl) (by first | (simp [Region.wanted, yielded]; done) | (simp [Region.wanted, yielded, undef, *]; done)) (fun _ _ _ h => h) (by kernel_rfl) (fun _ => by go_simp; try rfl) ?_; (try simp only [Act.put, List.setIfInBounds_toArray, List.set_cons_zero, List.set_cons_succ]))
      first
      | (refine wpAnyT_skip (i := 18) rfl (by kernel_rfl) rfl (fun _ _ _ h => h) (fun h_ => absurd h_ (by decide)) ?_; (try simp only [Act.put, List.setIfInBounds_toArray, List.set_cons_zero, List.set_cons_succ]))
      | (refine wpAnyT_free (i := 18) rfl (by kernel_rfl) rfl (fun _ _ _ h => h) (by kernel_rfl) (fun _ => by go_simp; try rfl) ?_; (try simp only [Act.put, List.setIfInBounds_toArray, List.set_cons_zero, List.set_cons_succ]))
      | (refine wpAnyT_skip (i := 18) rfl (by kernel_rfl) (by first | (simp [Region.wanted, yielded]; done) | (simp [Region.wanted, yielded, undef, *]; done)) (fun _ _ _ h => h) (fun h_ => absurd h_ (by decide)) ?_; (try simp only [Act.put, List.setIfInBounds_toArray, List.set_cons_zero, List.set_cons_succ]))
      | (refine wpAnyT_free (i := 18) rfl (by kernel_rfl) (by first | (simp [Region.wanted, yielded]; done) | (simp [Region.wanted, yielded, undef, *]; done)) (fun _ _ _ h => h) (by kernel_rfl) (fun _ => by go_simp; try rfl) ?_; (try simp only [Act.put, List.setIfInBounds_toArray, List.set_cons_zero, List.set_cons_succ]))
      first
      | (refine wpAnyT_skip (i := 19) rfl (by kernel_rfl) rfl (fun _ _ _ h => h) (fun h_ => absurd h_ (by decide)) ?_; (try simp only [Act.put, List.setIfInBounds_toArray, List.set_cons_zero, List.set_cons_succ]))
      | (refine wpAnyT_free (i := 19) rfl (by kernel_rfl) rfl (fun _ _ _ h => h) (by kernel_rfl) (fun _ => by go_simp; try rfl) ?_; (try simp only [Act.put, List.setIfInBounds_toArray, List.set_cons_zero, List.set_cons_succ]))
      | (refine wpAnyT_skip (i := 19) rfl (by kernel_rfl) (by first | (simp [Region.wanted, yielded]; done) | (simp [Region.wanted, yielded, undef, *]; done)) (fun _ _ _ h => h) (fun h_ => absurd h_ (by decide)) ?_; (try simp only [Act.put, List.setIfInBounds_toArray, List.set_cons_zero, List.set_cons_succ]))
      | (refine wpAnyT_free (i := 19) rfl (by kernel_rfl) (by first | (simp [Region.wanted, yielded]; done) | (simp [Region.wanted, yielded, undef, *]; done)) (fun _ _ _ h => h) (by kernel_rfl) (fun _ => by go_simp; try rfl) ?_; (try simp only [Act.put, List.setIfInBounds_toArray, List.set_cons_zero, List.set_cons_succ]))
      first
      | (refine wpAnyT_skip (i := 20) rfl (by kernel_rfl) rfl (fun _ _ _ h => h) (fun h_ => absurd h_ (by decide)) ?_; (try simp only [Act.put, List.setIfInBounds_toArray, List.set_cons_zero, List.set_cons_succ]))
      | (refine wpAnyT_free (i := 20) rfl (by kernel_rfl) rfl (fun _ _ _ h => h) (by kernel_rfl) (fun _ => by go_simp; try rfl) ?_; (try simp only [Act.put, List.setIfInBounds_toArray, List.set_cons_zero, List.set_cons_succ]))
      | (refine wpAnyT_skip (i := 20) rfl (by kernel_rfl) (by first | (simp [Region.wanted, yielded]; done) | (simp [Region.wanted, yielded, undef, *]; done)) (fun _ _ _ h => h) (fun h_ => absurd h_ (by decide)) ?_; (try simp only [Act.put, List.setIfInBounds_toArray, List.set_cons_zero, List.set_cons_succ]))
      | (refine wpAnyT_free (i := 20) rfl (by kernel_rfl) (by first | (simp [Region.wanted, yielded]; done) | (simp [Region.wanted, yielded, undef, *]; done)) (fun _ _ _ h => h) (by kernel_rfl) (fun _ => by go_simp; try rfl) ?_; (try simp only [Act.put, List.setIfInBounds_toArray, List.set_cons_zero, List.set_cons_succ]))
      first
      | (refine wpAnyT_skip (i := 21) rfl (by kernel_rfl) rfl (fun _ _ _ h => h) (fun _ => ⟨x1, x2, x3, y1', y2', y3, s1', s2'⟩) ?_; (try simp only [Act.put, List.setIfInBounds_toArray, List.set_cons_zero, List.set_cons_succ]))
      | (refine wpAnyT_read (i := 21) rfl (by kernel_rfl) rfl (fun _ _ _ h => h) (by kernel_rfl) (⟨x1, x2, x3, y1', y2', y3, s1', s2'⟩) (fun w hS_ => by obtain ⟨s_1, s_2, s_3, s_4, s_5, s_6, s_7, s_8⟩ := hS_; go_simp; try rfl) ?_; (try simp only [Act.put, List.setIfInBounds_toArray, List.set_cons_zero, List.set_cons_succ]))
      | (refine wpAnyT_skip (i := 21) rfl (by kernel_rfl) (by first | (simp [Region.wanted, yielded]; done) | (simp [Region.wanted, yielded, undef, *]; done)) (fun _ _ _ h => h) (fun _ => ⟨x1, x2, x3, y1', y2', y3, s1', s2'⟩) ?_; (try simp only [Act.put, List.setIfInBounds_toArray, List.set_cons_zero, List.set_cons_succ]))
      | (refine wpAnyT_read (i := 21) rfl (by kernel_rfl) (by first | (simp [Region.wanted, yielded]; done) | (simp [Region.wanted, yielded, undef, *]; done)) (fun _ _ _ h => h) (by kernel_rfl) (⟨x1, x2, x3, y1', y2', y3, s1', s2'⟩) (fun w hS_ => by obtain ⟨s_1, s_2, s_3, s_4, s_5, s_6, s_7, s_8⟩ := hS_; go_simp; try rfl) ?_; (try simp only [Act.put, List.setIfInBounds_toArray, List.set_cons_zero, List.set_cons_succ]))
      first
      | (refine wpAnyT_skip (i := 22) rfl (by kernel_rfl) rfl (fun _ _ _ h => h) (fun h_ => absurd h_ (by decide)) ?_; (try simp only [Act.put, List.setIfInBounds_toArray, List.set_cons_zero, List.set_cons_succ]))
      | (refine wpAnyT_free (i := 22) rfl (by kernel_rfl) rfl (fun _ _ _ h => h) (by kernel_rfl) (fun _ => by go_simp; try rfl) ?_; (try simp only [Act.put, List.setIfInBounds_toArray, List.set_cons_zero, List.set_cons_succ]))
      | (refine wpAnyT_skip (i := 22) rfl (by kernel_rfl) (by first | (simp [Region.wanted, yielded]; done) | (simp [Region.wanted, yielded, undef, *]; done)) (fun _ _ _ h => h) (fun h_ => absurd h_ (by decide)) ?_; (try simp only [Act.put, List.setIfInBounds_toArray, List.set_cons_zero, List.set_cons_succ]))
      | (refine wpAnyT_free (i := 22) rfl (by kernel_rfl) (by first | (simp [Region.wanted, yielded]; done) | (simp [Region.wanted, yielded, undef, *]; done)) (fun _ _ _ h => h) (by kernel_rfl) (fun _ => by go_simp; try rfl) ?_; (try simp only [Act.put, List.setIfInBounds_toArray, List.set_cons_zero, List.set_cons_succ]))
      (refine wpAnyT_free (i := 23) rfl (by kernel_rfl) rfl (fun _ _ _ h => h) (by kernel_rfl) (fun _ => by go_simp; try rfl) ?_; (try simp only [Act.put, List.setIfInBounds_toArray, List.set_cons_zero, List.set_cons_succ]))
      (refine wpAnyT_free (i := 24) rfl (by kernel_rfl) rfl (fun _ _ _ h => h) (by kernel_rfl) (fun _ => by go_simp; try rfl) ?_; (try simp only [Act.put, List.setIfInBounds_toArray, List.set_cons_zero, List.set_cons_succ]))
      first
      | (refine wpAnyT_skip (i := 25) rfl (by kernel_rfl) rfl (fun _ _ _ h => h) (fun h_ => absurd h_ (by decide)) ?_; (try simp only [Act.put, List.setIfInBounds_toArray, List.set_cons_zero, List.set_cons_succ]))
      | (refine wpAnyT_free (i := 25) rfl (by kernel_rfl) rfl (fun _ _ _ h => h) (by kernel_rfl) (fun _ => by go_simp; try rfl) ?_; (try simp only [Act.put, List.setIfInBounds_toArray, List.set_cons_zero, List.set_cons_succ]))
      | (refine wpAnyT_skip (i := 25) rfl (by kernel_rfl) (by first | (simp [Region.wanted, yielded]; done) | (simp [Region.wanted, yielded, undef, *]; done)) (fun _ _ _ h => h) (fun h_ => absurd h_ (by decide)) ?_; (try simp only [Act.put, List.setIfInBounds_toArray, List.set_cons_zero, List.set_cons_succ]))
      | (refine wpAnyT_free (i := 25) rfl (by kernel_rfl) (by first | (simp [Region.wanted, yielded]; done) | (simp [Region.wanted, yielded, undef, *]; done)) (fun _ _ _ h => h) (by kernel_rfl) (fun _ => by go_simp; try rfl) ?_; (try simp only [Act.put, List.setIfInBounds_toArray, List.set_cons_zero, List.set_cons_succ]))
      first
      | (refine wpAnyT_skip (i := 26) rfl (by kernel_rfl) rfl (fun _ _ _ h => h) (fun h_ => absurd h_ (by decide)) ?_; (try simp only [Act.put, List.setIfInBounds_toArray, List.set_cons_zero, List.set_cons_succ]))
      | (refine wpAnyT_free (i := 26) rfl (by kernel_rfl) rfl (fun _ _ _ h => h) (by kernel_rfl) (fun _ => by go_simp; try rfl) ?_; (try simp only [Act.put, List.setIfInBounds_toArray, List.set_cons_zero, List.set_cons_succ]))
      | (refine wpAnyT_skip (i := 26) rfl (by kernel_rfl) (by first | (simp [Region.wanted, yielded]; done) | (simp [Region.wanted, yielded, undef, *]; done)) (fun _ _ _ h => h) (fun h_ => absurd h_ (by decide)) ?_; (try simp only [Act.put, List.setIfInBounds_toArray, List.set_cons_zero, List.set_cons_succ]))
      | (refine wpAnyT_free (i := 26) rfl (by kernel_rfl) (by first | (simp [Region.wanted, yielded]; done) | (simp [Region.wanted, yielded, undef, *]; done)) (fun _ _ _ h => h) (by kernel_rfl) (fun _ => by go_simp; try rfl) ?_; (try simp only [Act.put, List.setIfInBounds_toArray, List.set_cons_zero, List.set_cons_succ]))
      first
      | (refine wpAnyT_skip (i := 27) rfl (by kernel_rfl) rfl (fun _ _ _ h => h) (fun h_ => absurd h_ (by decide)) ?_; (try simp only [Act.put, List.setIfInBounds_toArray, List.set_cons_zero, List.set_cons_succ]))
      | (refine wpAnyT_free (i := 27) rfl (by kernel_rfl) rfl (fun _ _ _ h => h) (by kernel_rfl) (fun _ => by go_simp; try rfl) ?_; (try simp only [Act.put, List.setIfInBounds_toArray, List.set_cons_zero, List.set_cons_succ]))
      | (refine wpAnyT_skip (i := 27) rfl (by kernel_rfl) (by first | (simp [Region.wanted, yielded]; done) | (simp [Region.wanted, yielded, undef, *]; done)) (fun _ _ _ h => h) (fun h_ => absurd h_ (by decide)) ?_; (try simp only [Act.put, List.setIfInBounds_toArray, List.set_cons_zero, List.set_cons_succ]))
      | (refine wpAnyT_free (i := 27) rfl (by kernel_rfl) (by first | (simp [Region.wanted, yielded]; done) | (simp [Region.wanted, yielded, undef, *]; done)) (fun _ _ _ h => h) (by kernel_rfl) (fun _ => by go_simp; try rfl) ?_; (try simp only [Act.put, List.setIfInBounds_toArray, List.set_cons_zero, List.set_cons_succ]))
      first
      | (refine wpAnyT_skip (i := 28) rfl (by kernel_rfl) rfl (fun _ _ _ h => h) (fun h_ => absurd h_ (by decide)) ?_; (try simp only [Act.put, List.setIfInBounds_toArray, List.set_cons_zero, List.set_cons_succ]))
      | (refine wpAnyT_free (i := 28) rfl (by kernel_rfl) rfl (fun _ _ _ h => h) (by kernel_rfl) (fun _ => by go_simp; try rfl) ?_; (try simp only [Act.put, List.setIfInBounds_toArray, List.set_cons_zero, List.set_cons_succ]))
      | (refine wpAnyT_skip (i := 28) rfl (by kernel_rfl) (by first | (simp [Region.wanted, yielded]; done) | (simp [Region.wanted, yielded, undef, *]; done)) (fun _ _ _ h => h) (fun h_ => absurd h_ (by decide)) ?_; (try simp only [Act.put, List.setIfInBounds_toArray, List.set_cons_zero, List.set_cons_succ]))
      | (refine wpAnyT_free (i := 28) rfl (by kernel_rfl) (by first | (simp [Region.wanted, yielded]; done) | (simp [Region.wanted, yielded, undef, *]; done)) (fun _ _ _ h => h) (by kernel_rfl) (fun _ => by go_simp; try rfl) ?_; (try simp only [Act.put, List.setIfInBounds_toArray, List.set_cons_zero, List.set_cons_succ]))
      first
      | (refine wpAnyT_skip (i := 29) rfl (by kernel_rfl) rfl (fun _ _ _ h => h) (fun _ => ⟨x1, x2, x3, y1', y2', y3, s1', s2'⟩) ?_; (try simp only [Act.put, List.setIfInBounds_toArray, List.set_cons_zero, List.set_cons_succ]))
      | (refine wpAnyT_read (i := 29) rfl (by kernel_rfl) rfl (fun _ _ _ h => h) (by kernel_rfl) (⟨x1, x2, x3, y1', y2', y3, s1', s2'⟩) (fun w hS_ => by obtain ⟨s_1, s_2, s_3, s_4, s_5, s_6, s_7, s_8⟩ := hS_; go_simp; try rfl) ?_; (try simp only [Act.put, List.setIfInBounds_toArray, List.set_cons_zero, List.set_cons_succ]))
      | (refine wpAnyT_skip (i := 29) rfl (by kernel_rfl) (by first | (simp [Region.wanted, yielded]; done) | (simp [Region.wanted, yielded, undef, *]; done)) (fun _ _ _ h => h) (fun _ => ⟨x1, x2, x3, y1', y2', y3, s1', s2'⟩) ?_; (try simp only [Act.put, List.setIfInBounds_toArray, List.set_cons_zero, List.set_cons_succ]))
      | (refine wpAnyT_read (i := 29) rfl (by kernel_rfl) (by first | (simp [Region.wanted, yielded]; done) | (simp [Region.wanted, yielded, undef, *]; done)) (fun _ _ _ h => h) (by kernel_rfl) (⟨x1, x2, x3, y1', y2', y3, s1', s2'⟩) (fun w hS_ => by obtain ⟨s_1, s_2, s_3, s_4, s_5, s_6, s_7, s_8⟩ := hS_; go_simp; try rfl) ?_; (try simp only [Act.put, List.setIfInBounds_toArray, List.set_cons_zero, List.set_cons_succ]))
      first
      | (refine wpAnyT_skip (i := 30) rfl (by kernel_rfl) rfl (fun _ _ _ h => h) (fun _ => ⟨x1, x2, x3, y1', y2', y3, s1', s2'⟩) ?_; (try simp only [Act.put, List.setIfInBounds_toArray, List.set_cons_zero, List.set_cons_succ]))
      | (refine wpAnyT_read (i := 30) rfl (by kernel_rfl) rfl (fun _ _ _ h => h) (by kernel_rfl) (⟨x1, x2, x3, y1', y2', y3, s1', s2'⟩) (fun w hS_ => by obtain ⟨s_1, s_2, s_3, s_4, s_5, s_6, s_7, s_8⟩ := hS_; go_simp; try rfl) ?_; (try simp only [Act.put, List.setIfInBounds_toArray, List.set_cons_zero, List.set_cons_succ]))
      | (refine wpAnyT_skip (i := 30) rfl (by kernel_rfl) (by first | (simp [Region.wanted, yielded]; done) | (simp [Region.wanted, yielded, undef, *]; done)) (fun _ _ _ h => h) (fun _ => ⟨x1, x2, x3, y1', y2', y3, s1', s2'⟩) ?_; (try simp only [Act.put, List.setIfInBounds_toArray, List.set_cons_zero, List.set_cons_succ]))
      | (refine wpAnyT_read (i := 30) rfl (by kernel_rfl) (by first | (simp [Region.wanted, yielded]; done) | (simp [Region.wanted, yielded, undef, *]; done)) (fun _ _ _ h => h) (by kernel_rfl) (⟨x1, x2, x3, y1', y2', y3, s1', s2'⟩) (fun w hS_ => by obtain ⟨s_1, s_2, s_3, s_4, s_5, s_6, s_7, s_8⟩ := hS_; go_simp; try rfl) ?_; (try simp only [Act.put, List.setIfInBounds_toArray, List.set_cons_zero, List.set_cons_succ]))
      first
      | (refine wpAnyT_skip (i := 31) rfl (by kernel_rfl) rfl (fun _ _ _ h => h) (fun h_ => absurd h_ (by decide)) ?_; (try simp only [Act.put, List.setIfInBounds_toArray, List.set_cons_zero, List.set_cons_succ]))
      | (refine wpAnyT_free (i := 31) rfl (by kernel_rfl) rfl (fun _ _ _ h => h) (by kernel_rfl) (fun _ => by go_simp; try rfl) ?_; (try simp only [Act.put, List.setIfInBounds_toArray, List.set_cons_zero, List.set_cons_succ]))
      | (refine wpAnyT_skip (i := 31) rfl (by kernel_rfl) (by first | (simp [Region.wanted, yielded]; done) | (simp [Region.wanted, yielded, undef, *]; done)) (fun _ _ _ h => h) (fun h_ => absurd h_ (by decide)) ?_; (try simp only [Act.put, List.setIfInBounds_toArray, List.set_cons_zero, List.set_cons_succ]))
      | (refine wpAnyT_free (i := 31) rfl (by kernel_rfl) (by first | (simp [Region.wanted, yielded]; done) | (simp [Region.wanted, yielded, undef, *]; done)) (fun _ _ _ h => h) (by kernel_rfl) (fun _ => by go_simp; try rfl) ?_; (try simp only [Act.put, List.setIfInBounds_toArray, List.set_cons_zero, List.set_cons_succ]))
      first
      | (refine wpAnyT_skip (i := 32) rfl (by kernel_rfl) rfl (fun _ _ _ h => h) (fun h_ => absurd h_ (by decide)) ?_; (try simp only [Act.put, List.setIfInBounds_toArray, List.set_cons_zero, List.set_cons_succ]))
      | (refine wpAnyT_free (i := 32) rfl (by kernel_rfl) rfl (fun _ _ _ h => h) (by kernel_rfl) (fun _ => by go_simp; try rfl) ?_; (try simp only [Act.put, List.setIfInBounds_toArray, List.set_cons_zero, List.set_cons_succ]))
      | (refine wpAnyT_skip (i := 32) rfl (by kernel_rfl) (by first | (simp [Region.wanted, yielded]; done) | (simp [Region.wanted, yielded, undef, *]; done)) (fun _ _ _ h => h) (fun h_ => absurd h_ (by decide)) ?_; (try simp only [Act.put, List.setIfInBounds_toArray, List.set_cons_zero, List.set_cons_succ]))
      | (refine wpAnyT_free (i := 32) rfl (by kernel_rfl) (by first | (simp [Region.wanted, yielded]; done) | (simp [Region.wanted, yielded, undef, *]; done)) (fun _ _ _ h => h) (by kernel_rfl) (fun _ => by go_simp; try rfl) ?_; (try simp only [Act.put, List.setIfInBounds_toArray, List.set_cons_zero, List.set_cons_succ]))
      first
      | (refine wpAnyT_skip (i := 33) rfl (by kernel_rfl) rfl (fun _ _ _ h => h) (fun h_ => absurd h_ (by decide)) ?_; (try simp only [Act.put, List.setIfInBounds_toArray, List.set_cons_zero, List.set_cons_succ]))
      | (refine wpAnyT_free (i := 33) rfl (by kernel_rfl) rfl (fun _ _ _ h => h) (by kernel_rfl) (fun _ => by go_simp; try rfl) ?_; (try simp only [Act.put, List.setIfInBounds_toArray, List.set_cons_zero, List.set_cons_succ]))
      | (refine wpAnyT_skip (i := 33) rfl (by kernel_rfl) (by first | (simp [Region.wanted, yielded]; done) | (simp [Region.wanted, yielded, undef, *]; done)) (fun _ _ _ h => h) (fun h_ => absurd h_ (by decide)) ?_; (try simp only [Act.put, List.setIfInBounds_toArray, List.set_cons_zero, List.set_cons_succ]))
      | (refine wpAnyT_free (i := 33) rfl (by kernel_rfl) (by first | (simp [Region.wanted, yielded]; done) | (simp [Region.wanted, yielded, undef, *]; done)) (fun _ _ _ h => h) (by kernel_rfl) (fun _ => by go_simp; try rfl) ?_; (try simp only [Act.put, List.setIfInBounds_toArray, List.set_cons_zero, List.set_cons_succ]))
      first
      | (refine wpAnyT_skip (i := 34) rfl (by kernel_rfl) rfl (fun _ _ _ h => h) (fun h_ => absurd h_ (by decide)) ?_; (try simp only [Act.put, List.setIfInBounds_toArray, List.set_cons_zero, List.set_cons_succ]))
      | (refine wpAnyT_free (i := 34) rfl (by kernel_rfl) rfl (fun _ _ _ h => h) (by kernel_rfl) (fun _ => by go_simp; try rfl) ?_; (try simp only [Act.put, List.setIfInBounds_toArray, List.set_cons_zero, List.set_cons_succ]))
      | (refine wpAnyT_skip (i := 34) rfl (by kernel_rfl) (by first | (simp [Region.wanted, yielded]; done) | (simp [Region.wanted, yielded, undef, *]; done)) (fun _ _ _ h => h) (fun h_ => absurd h_ (by decide)) ?_; (try simp only [Act.put, List.setIfInBounds_toArray, List.set_cons_zero, List.set_cons_succ]))
      | (refine wpAnyT_free (i := 34) rfl (by kernel_rfl) (by first | (simp [Region.wanted, yielded]; done) | (simp [Region.wanted, yielded, undef, *]; done)) (fun _ _ _ h => h) (by kernel_rfl) (fun _ => by go_simp; try rfl) ?_; (try simp only [Act.put, List.setIfInBounds_toArray, List.set_cons_zero, List.set_cons_succ]))
      first
      | (refine wpAnyT_skip (i := 35) rfl (by kernel_rfl) rfl (fun _ _ _ h => h) (fun _ => ⟨x1, x2, x3, y1', y2', y3, s1', s2'⟩) ?_; (try simp only [Act.put, List.setIfInBounds_toArray, List.set_cons_zero, List.set_cons_succ]))
      | (refine wpAnyT_read (i := 35) rfl (by kernel_rfl) rfl (fun _ _ _ h => h) (by kernel_rfl) (⟨x1, x2, x3, y1', y2', y3, s1', s2'⟩) (fun w hS_ => by obtain ⟨s_1, s_2, s_3, s_4, s_5, s_6, s_7, s_8⟩ := hS_; go_simp; try rfl) ?_; (try simp only [Act.put, List.setIfInBounds_toArray, List.set_cons_zero, List.set_cons_succ]))
      | (refine wpAnyT_skip (i := 35) rfl (by kernel_rfl) (by first | (simp [Region.wanted, yielded]; done) | (simp [Region.wanted, yielded, undef, *]; done)) (fun _ _ _ h => h) (fun _ => ⟨x1, x2, x3, y1', y2', y3, s1', s2'⟩) ?_; (try simp only [Act.put, List.setIfInBounds_toArray, List.set_cons_zero, List.set_cons_succ]))
      | (refine wpAnyT_read (i := 35) rfl (by kernel_rfl) (by first | (simp [Region.wanted, yielded]; done) | (simp [Region.wanted, yielded, undef, *]; done)) (fun _ _ _ h => h) (by kernel_rfl) (⟨x1, x2, x3, y1', y2', y3, s1', s2'⟩) (fun w hS_ => by obtain ⟨s_1, s_2, s_3, s_4, s_5, s_6, s_7, s_8⟩ := hS_; go_simp; try rfl) ?_; (try simp only [Act.put, List.setIfInBounds_toArray, List.set_cons_zero, List.set_cons_succ]))
      first
      | (refine wpAnyT_skip (i := 36) rfl (by kernel_rfl) rfl (fun _ _ _ h => h) (fun _ => ⟨x1, x2, x3, y1', y2', y3, s1', s2'⟩) ?_; (try simp only [Act.put, List.setIfInBounds_toArray, List.set_cons_zero, List.set_cons_succ]))
      | (refine wpAnyT_read (i := 36) rfl (by kernel_rfl) rfl (fun _ _ _ h => h) (by kernel_rfl) (⟨x1, x2, x3, y1', y2', y3, s1', s2'⟩) (fun w hS_ => by obtain ⟨s_1, s_2, s_3, s_4, s_5, s_6, s_7, s_8⟩ := hS_; go_simp; try rfl) ?_; (try simp only [Act.put, List.setIfInBounds_toArray, List.set_cons_zero, List.set_cons_succ]))
      | (refine wpAnyT_skip (i := 36) rfl (by kernel_rfl) (by first | (simp [Region.wanted, yielded]; done) | (simp [Region.wanted, yielded, undef, *]; done)) (fun _ _ _ h => h) (fun _ => ⟨x1, x2, x3, y1', y2', y3, s1', s2'⟩) ?_; (try simp only [Act.put, List.setIfInBounds_toArray, List.set_cons_zero, List.set_cons_succ]))
      | (refine wpAnyT_read (i := 36) rfl (by kernel_rfl) (by first | (simp [Region.wanted, yielded]; done) | (simp [Region.wanted, yielded, undef, *]; done)) (fun _ _ _ h => h) (by kernel_rfl) (⟨x1, x2, x3, y1', y2', y3, s1', s2'⟩) (fun w hS_ => by obtain ⟨s_1, s_2, s_3, s_4, s_5, s_6, s_7, s_8⟩ := hS_; go_simp; try rfl) ?_; (try simp only [Act.put, List.setIfInBounds_toArray, List.set_cons_zero, List.set_cons_succ]))
      first
      | (refine wpAnyT_skip (i := 37) rfl (by kernel_rfl) rfl (fun _ _ _ h => h) (fun h_ => absurd h_ (by decide)) ?_; (try simp only [Act.put, List.setIfInBounds_toArray, List.set_cons_zero, List.set_cons_succ]))
      | (refine wpAnyT_free (i := 37) rfl (by kernel_rfl) rfl (fun _ _ _ h => h) (by kernel_rfl) (fun _ => by go_simp; try rfl) ?_; (try simp only [Act.put, List.setIfInBounds_toArray, List.set_cons_zero, List.set_cons_succ]))
      | (refine wpAnyT_skip (i := 37) rfl (by kernel_rfl) (by first | (simp [Region.wanted, yielded]; done) | (simp [Region.wanted, yielded, undef, *]; done)) (fun _ _ _ h => h) (fun h_ => absurd h_ (by decide)) ?_; (try simp only [Act.put, List.setIfInBounds_toArray, List.set_cons_zero, List.set_cons_succ]))
      | (refine wpAnyT_free (i := 37) rfl (by kernel_rfl) (by first | (simp [Region.wanted, yielded]; done) | (simp [Region.wanted, yielded, undef, *]; done)) (fun _ _ _ h => h) (by kernel_rfl) (fun _ => by go_simp; try rfl) ?_; (try simp only [Act.put, List.setIfInBounds_toArray, List.set_cons_zero, List.set_cons_succ]))
      (refine wpAnyT_free (i := 38) rfl (by kernel_rfl) rfl (fun _ _ _ h => h) (by kernel_rfl) (fun _ => by go_simp; try rfl) ?_; (try simp only [Act.put, List.setIfInBounds_toArray, List.set_cons_zero, List.set_cons_succ]))
      refine wpAnyT_done (by kernel_rfl) ?_ _
      go_wp2
      go_roundw
      case rel => exact ⟨k + 1, by have := KL.out; omega, by go_num, hb9.drew⟩
      case measure => have := KL.out; simp [intOf]; omega
    · obtain rfl : k = H.length := by omega
      have hWk := works_08 W wr (h8.mono' hb9).below hh1
      clear hw8 hn8
      go_wp2_with (go_at_call 65; refine hWk.mono ?_; rintro e w11 ⟨rfl, hb11⟩; clear hWk)
      go_ret
      exact ⟨rfl, hb11⟩
end Go.Proofs.YtediidajdpdeiaaDoor

/- What a law of the log is handed: calls, a call, two ints. -/
namespace Go.Proofs.YtediidajdpdeiaaDoor
open Go.RowKit Go.ChangeShapes Go.WideShapes Go.ChangeAt

section
variable {H : Type} {enc : TypeId × Value → H} {W W' : World}

set_option maxRecDepth 100000 in
theorem open_acts7 {fuel : Nat} {cs : List Value} {d : DataW H} {p : List MemPlace}
    (h : DataW.trod enc Tryd.prog W 0 (fun _ => true) true fuel 61 cs = some (d, p)) (hlt : ∀ x ∈ p, x.block < W.heap.size) :
    ∃ A acts c, cs = [.slice A (acts.length) c] ∧ acts.length ≤ maxLen ∧ ActsAt W A acts := by
  obtain ⟨A, len, cap, rfl, hl, hm, hi⟩ := open_structs (P := Tryd.prog) Tryd.underlying61 Tryd.underlying69 (by kernel_rfl) (by kernel_rfl) (by decide) h hlt
  have each : ∀ i, ∃ a : Act07, i < len → ∃ g o B c, A = some ⟨g, o, none⟩ ∧ g < W.heap.size ∧
      W.cell? ⟨g, o + i * 4, none⟩ = some (.int .i64 a.kind) ∧ W.cell? ⟨g, o + i * 4 + 1, none⟩ = some (.int .i64 a.n) ∧ W.cell? ⟨g, o + i * 4 + 2, none⟩ = some (.int .i64 a.flip) ∧
      W.cell? ⟨g, o + i * 4 + 3, none⟩ = some (.slice B a.b.length c) ∧ a.b.length ≤ c ∧ c ≤ maxLen ∧ RdB W B a.b ∧ i64 a.kind ∧ i64 a.n ∧ i64 a.flip := by
    intro i
    by_cases hil : i < len
    · obtain ⟨g, o, hA, hg, hf⟩ := hi i hil
      obtain ⟨v0, n0, y0, q0, c0, t0, _⟩ := hf 0 _ rfl
      obtain ⟨v1, n1, y1, q1, c1, t1, _⟩ := hf 1 _ rfl
      obtain ⟨v2, n2, y2, q2, c2, t2, _⟩ := hf 2 _ rfl
      obtain ⟨v3, n3, y3, q3, c3, t3, hq3⟩ := hf 3 _ rfl
      obtain ⟨k0, e0, hx0, w0⟩ := DataW.trod_int (P := Tryd.prog) Tryd.underlying3 t0
      obtain ⟨k1, e1, hx1, w1⟩ := DataW.trod_int (P := Tryd.prog) Tryd.underlying3 t1
      obtain ⟨k2, e2, hx2, w2⟩ := DataW.trod_int (P := Tryd.prog) Tryd.underlying3 t2
      obtain ⟨B, l, cc, e3, hl3, hm3, hr3⟩ := open_bytes (P := Tryd.prog) Tryd.underlying22 Tryd.underlying5 cells_u8 t3 hq3
      simp only [List.cons.injEq, and_true] at e0 e1 e2 e3
      subst e0 e1 e2 e3
      exact ⟨⟨k0, k1, k2, l⟩, fun _ => ⟨g, o, B, cc, hA, hg, c0, by simpa [Nat.add_assoc] using c1, by simpa [Nat.add_assoc] using c2, by simpa [Nat.add_assoc] using c3, hl3, hm3, hr3, i64_of w0, i64_of w1, i64_of w2⟩⟩
    · exact ⟨⟨0, 0, 0, []⟩, fun h => absurd h hil⟩
  have hch := Classical.axiomOfChoice each
  obtain ⟨f, hf⟩ := hch
  have hlen : ((List.range len).map f).length = len := by simp
  refine ⟨A, (List.range len).map f, cap, by rw [hlen], by rw [hlen]; omega, ?_⟩
  intro j a ha
  have hj : j < len := by rw [← hlen]; exact (List.getElem?_eq_some_iff.1 ha).1
  rw [List.getElem?_map, List.getElem?_range hj] at ha
  injection ha with ha
  subst ha
  exact hf j hj

set_option maxRecDepth 100000 in
/-- a call that is handed in by value -/
theorem open_act7 {base : Nat} {v : Value} {d : DataW H} {p : List MemPlace} (hv : Value.okWide Tryd.prog W .any base 69 v) (h : DataW.Trod enc Tryd.prog W 0 (fun _ => true) true 69 v d p)
    (hlt : ∀ x ∈ p, x.block < W.heap.size) :
    ∃ (a : Act07) (B : Option Addr) (c : Nat), v = .agg #[.int .i64 a.kind, .int .i64 a.n, .int .i64 a.flip, .slice B a.b.length c] ∧ a.b.length ≤ c ∧ c ≤ maxLen ∧ RdB W B a.b ∧ i64 a.kind ∧ i64 a.n ∧ i64 a.flip := by
  obtain ⟨v0, v1, v2, v3, y0, y1, y2, y3, n, rfl, rfl, rfl, t0, t1, t2, t3⟩ := Joins.open_agg4 (P := Tryd.prog) Tryd.underlying69 (by kernel_rfl) (by kernel_rfl) hv h
  obtain ⟨k0, e0, _, w0⟩ := DataW.trod_int (P := Tryd.prog) Tryd.underlying3 t0
  obtain ⟨k1, e1, _, w1⟩ := DataW.trod_int (P := Tryd.prog) Tryd.underlying3 t1
  obtain ⟨k2, e2, _, w2⟩ := DataW.trod_int (P := Tryd.prog) Tryd.underlying3 t2
  obtain ⟨B, l, cc, e3, hl3, hm3, hr3⟩ := open_bytes (P := Tryd.prog) Tryd.underlying22 Tryd.underlying5 cells_u8 (p := y3.2) (d := y3.1) t3 (fun x hx => hlt x (by simp [hx]))
  simp only [List.cons.injEq, and_true] at e0 e1 e2 e3
  subst e0 e1 e2 e3
  exact ⟨⟨k0, k1, k2, l⟩, B, cc, rfl, hl3, hm3, hr3, i64_of w0, i64_of w1, i64_of w2⟩

set_option maxRecDepth 100000 in
/-- two ints in an array that is handed in by value -/
theorem open_arr2 {base : Nat} {v : Value} {d : DataW H} {p : List MemPlace} (hv : Value.okWide Tryd.prog W .any base 62 v) (h : DataW.Trod enc Tryd.prog W 0 (fun _ => true) true 62 v d p) :
    ∃ x y : Int, v = .agg #[.int .i64 x, .int .i64 y] ∧ i64 x ∧ i64 y := by
  have hv' := hv
  simp only [Value.okWide, Tryd.underlying62] at hv'
  obtain ⟨cs, rfl, hsz, _⟩ := hv'
  have hc : Tryd.prog.cellsOf 62 = 2 := by kernel_rfl
  have hi : Tryd.prog.cellsOf 3 = 1 := by kernel_rfl
  rw [hc] at hsz
  obtain ⟨c0, c1, rfl⟩ : ∃ c0 c1, cs = #[c0, c1] := by
    obtain ⟨l⟩ := cs
    match l, hsz with
    | [a, b], _ => exact ⟨a, b, rfl⟩
  obtain ⟨fuel, hf⟩ := h
  obtain ⟨xs, m, _, _, _, hxl, hat⟩ := DataW.trod_array (P := Tryd.prog) Tryd.underlying62 hf
  have h0 := hat 0 (by omega)
  have h1 := hat 1 (by omega)
  rw [hi] at h0 h1
  rw [List.getElem?_eq_getElem (by omega)] at h0 h1
  obtain ⟨k0, e0, _, w0⟩ := DataW.trod_int (P := Tryd.prog) Tryd.underlying3 h0
  obtain ⟨k1, e1, _, w1⟩ := DataW.trod_int (P := Tryd.prog) Tryd.underlying3 h1
  simp [Value.cells] at e0 e1
  subst e0 e1
  exact ⟨k0, k1, rfl, i64_of w0, i64_of w1⟩

end
end Go.Proofs.YtediidajdpdeiaaDoor

/- What a law of the store is handed: calls, a call. -/
namespace Go.Proofs.YtediidajdpdeiaaDoor
open Go.RowKit Go.ChangeShapes Go.WideShapes Go.ChangeAt

theorem array5 {α : Type} {cs : Array α} (h : cs.size = 5) : ∃ c0 c1 c2 c3 c4, cs = #[c0, c1, c2, c3, c4] := by
  obtain ⟨l⟩ := cs
  match l, h with
  | [c0, c1, c2, c3, c4], _ => exact ⟨c0, c1, c2, c3, c4, rfl⟩
theorem list5 {α : Type} {cs : List α} (h : cs.length = 5) : ∃ c0 c1 c2 c3 c4, cs = [c0, c1, c2, c3, c4] := by
  match cs, h with
  | [c0, c1, c2, c3, c4], _ => exact ⟨c0, c1, c2, c3, c4, rfl⟩

section
variable {H : Type} {enc : TypeId × Value → H} {W W' : World}

set_option maxRecDepth 100000 in
theorem open_acts8 {fuel : Nat} {cs : List Value} {d : DataW H} {p : List MemPlace}
    (h : DataW.trod enc Tryd.prog W 0 (fun _ => true) true fuel 93 cs = some (d, p)) (hlt : ∀ x ∈ p, x.block < W.heap.size) :
    ∃ A acts c, cs = [.slice A (acts.length) c] ∧ acts.length ≤ maxLen ∧ ActsAt8 W A acts := by
  obtain ⟨A, len, cap, rfl, hl, hm, hi⟩ := open_structs (P := Tryd.prog) Tryd.underlying93 Tryd.underlying102 (by kernel_rfl) (by kernel_rfl) (by decide) h hlt
  have each : ∀ i, ∃ a : Act08, i < len → ∃ g o B c, A = some ⟨g, o, none⟩ ∧ g < W.heap.size ∧
      W.cell? ⟨g, o + i * 5, none⟩ = some (.int .i64 a.kind) ∧ W.cell? ⟨g, o + i * 5 + 1, none⟩ = some (.int .i64 a.n) ∧ W.cell? ⟨g, o + i * 5 + 2, none⟩ = some (.int .i64 a.slot) ∧ W.cell? ⟨g, o + i * 5 + 3, none⟩ = some (.int .i64 a.flip) ∧
      W.cell? ⟨g, o + i * 5 + 4, none⟩ = some (.slice B a.b.length c) ∧ a.b.length ≤ c ∧ c ≤ maxLen ∧ RdB W B a.b ∧ i64 a.kind ∧ i64 a.n ∧ i64 a.slot ∧ i64 a.flip := by
    intro i
    by_cases hil : i < len
    · obtain ⟨g, o, hA, hg, hf⟩ := hi i hil
      obtain ⟨v0, n0, y0, q0, c0, t0, _⟩ := hf 0 _ rfl
      obtain ⟨v1, n1, y1, q1, c1, t1, _⟩ := hf 1 _ rfl
      obtain ⟨v2, n2, y2, q2, c2, t2, _⟩ := hf 2 _ rfl
      obtain ⟨v3, n3, y3, q3, c3, t3, _⟩ := hf 3 _ rfl
      obtain ⟨v4, n4, y4, q4, c4, t4, hq4⟩ := hf 4 _ rfl
      obtain ⟨k0, e0, hx0, w0⟩ := DataW.trod_int (P := Tryd.prog) Tryd.underlying3 t0
      obtain ⟨k1, e1, hx1, w1⟩ := DataW.trod_int (P := Tryd.prog) Tryd.underlying3 t1
      obtain ⟨k2, e2, hx2, w2⟩ := DataW.trod_int (P := Tryd.prog) Tryd.underlying3 t2
      obtain ⟨k3, e3, hx3, w3⟩ := DataW.trod_int (P := Tryd.prog) Tryd.underlying3 t3
      obtain ⟨B, l, cc, e4, hl4, hm4, hr4⟩ := open_bytes (P := Tryd.prog) Tryd.underlying22 Tryd.underlying5 cells_u8 t4 hq4
      simp only [List.cons.injEq, and_true] at e0 e1 e2 e3 e4
      subst e0 e1 e2 e3 e4
      exact ⟨⟨k0, k1, k2, k3, l⟩, fun _ => ⟨g, o, B, cc, hA, hg, c0, by simpa [Nat.add_assoc] using c1, by simpa [Nat.add_assoc] using c2, by simpa [Nat.add_assoc] using c3, by simpa [Nat.add_assoc] using c4, hl4, hm4, hr4, i64_of w0, i64_of w1, i64_of w2, i64_of w3⟩⟩
    · exact ⟨⟨0, 0, 0, 0, []⟩, fun h => absurd h hil⟩
  have hch := Classical.axiomOfChoice each
  obtain ⟨f, hf⟩ := hch
  have hlen : ((List.range len).map f).length = len := by simp
  refine ⟨A, (List.range len).map f, cap, by rw [hlen], by rw [hlen]; omega, ?_⟩
  intro j a ha
  have hj : j < len := by rw [← hlen]; exact (List.getElem?_eq_some_iff.1 ha).1
  rw [List.getElem?_map, List.getElem?_range hj] at ha
  injection ha with ha
  subst ha
  exact hf j hj

set_option maxRecDepth 100000 in
/-- a call that is handed in by value -/
theorem open_act8 {base : Nat} {v : Value} {d : DataW H} {p : List MemPlace} (hv : Value.okWide Tryd.prog W .any base 102 v) (h : DataW.Trod enc Tryd.prog W 0 (fun _ => true) true 102 v d p)
    (hlt : ∀ x ∈ p, x.block < W.heap.size) :
    ∃ (a : Act08) (B : Option Addr) (c : Nat), v = .agg #[.int .i64 a.kind, .int .i64 a.n, .int .i64 a.slot, .int .i64 a.flip, .slice B a.b.length c] ∧ a.b.length ≤ c ∧ c ≤ maxLen ∧ RdB W B a.b ∧ i64 a.kind ∧ i64 a.n ∧ i64 a.slot ∧ i64 a.flip := by
  obtain ⟨cs, rfl, hsz⟩ := okWide_struct Tryd.underlying102 hv
  obtain ⟨v0, v1, v2, v3, v4, rfl⟩ := array5 (hsz.trans (by kernel_rfl))
  obtain ⟨fuel, hf⟩ := h
  obtain ⟨xs, n, _, hx, hl, hlen, hat⟩ := DataW.trod_struct Tryd.underlying102 hf
  obtain ⟨y0, y1, y2, y3, y4, rfl⟩ := list5 hlen
  simp only [Prod.mk.injEq] at hx
  obtain ⟨rfl, rfl⟩ := hx
  have o1 : Tryd.prog.cellsOf 3 = 1 := by kernel_rfl
  have o2 : Tryd.prog.cellsOf 22 = 1 := by kernel_rfl
  have t0 := hat 0 _ rfl
  have t1 := hat 1 _ rfl
  have t2 := hat 2 _ rfl
  have t3 := hat 3 _ rfl
  have t4 := hat 4 _ rfl
  simp [Value.cells, o1, o2] at t0 t1 t2 t3 t4
  obtain ⟨k0, e0, _, w0⟩ := DataW.trod_int (P := Tryd.prog) Tryd.underlying3 t0
  obtain ⟨k1, e1, _, w1⟩ := DataW.trod_int (P := Tryd.prog) Tryd.underlying3 t1
  obtain ⟨k2, e2, _, w2⟩ := DataW.trod_int (P := Tryd.prog) Tryd.underlying3 t2
  obtain ⟨k3, e3, _, w3⟩ := DataW.trod_int (P := Tryd.prog) Tryd.underlying3 t3
  obtain ⟨B, l, cc, e4, hl4, hm4, hr4⟩ := open_bytes (P := Tryd.prog) Tryd.underlying22 Tryd.underlying5 cells_u8 (p := y4.2) (d := y4.1) t4 (fun x hx => hlt x (by simp [hx]))
  simp only [List.cons.injEq, and_true] at e0 e1 e2 e3 e4
  subst e0 e1 e2 e3 e4
  exact ⟨⟨k0, k1, k2, k3, l⟩, B, cc, rfl, hl4, hm4, hr4, i64_of w0, i64_of w1, i64_of w2, i64_of w3⟩
end
end Go.Proofs.YtediidajdpdeiaaDoor
