/- SeglogSynced: the law's walk. -/
import Derived.Test.YtediidajdpdeiaaDoorHeld07
namespace Go.Proofs.YtediidajdpdeiaaDoor
open Go.RowKit CrcM
set_option maxRecDepth 100000

set_option maxHeartbeats 4000000 in
theorem syncedLaw_07 (W : World) (hh : HalfAt W) (per : Int) (A : Option Addr) (acts : List Act07) (c : Nat) (hA : ActsAt W A acts) (hlen : acts.length ≤ maxLen) (C : Option Addr) (crs : List Act07) (cc : Nat) (hC : ActsAt W C crs) (hlenC : crs.length ≤ maxLen) :
    Calls Tryd.prog 12 #[.int .i64 per, .slice A acts.length c, .slice C crs.length cc] W fun e w' => e = .returned (.bool true) ∧ Below W.heap.size W w' := by
  have hP := plays_07 W hh per A acts c hA hlen
  unfold maxLen at hlenC
  go_enter Tryd.func12, Tryd.ntmps12
  clear hA
  go_wp2_with (first
    | (go_at_call 42; refine hP.mono ?_; rintro e w1 ⟨b, L0, rfl, h1, hinv, hd⟩; obtain ⟨Ls, es, hKs, hss⟩ := Keeps.start hinv hd; have hS1 := sync_G h1; unfold LiveGDid at hS1; rw [es] at hS1; clear hP es)
    | (go_at_call 46; refine hS1.mono ?_; rintro e w2 ⟨rfl, h2, -⟩; have hA2 := all_H h2 hKs.inv (by decide); clear hS1)
    | (go_at_call 40; refine hA2.mono ?_; rintro e w3 ⟨A1, c1, rfl, hw3, h3, hb3⟩; have hL3 := len_G h3; clear hA2)
    | (go_at_call 37; refine hL3.mono ?_; rintro e w4 ⟨rfl, h4, hb4⟩; have hS4 := safe_G h4; rw [hss] at hS4; have hw4 := hw3.below hb4; clear hL3)
    | (go_at_call 38; refine hS4.mono ?_; rintro e w5 ⟨rfl, h5, hb5⟩; have hw5 := hw4.below hb5; clear hS4))
  clear hss h4 h3 h2 h1 hw3 hw4 hinv
  generalize Ls.recs = was at *
  generalize Ls.len = en at *
  generalize Up Non w2 w3 = X at *
  go_loopw [11] (fun i wr => ∃ (k : Nat) (L : Lg), k ≤ crs.length ∧ k ≤ 12 ∧ i = .int .i64 k ∧ Keeps was en (60 + k) L ∧ LiveG W wr b L X ∧ Held X wr A1 c1 was) (fun i _ => 12 - (intOf i).toNat)
  case atStart => exact ⟨0, Ls, by omega, by omega, rfl, hKs, h5, hw5⟩
  case round =>
    obtain ⟨k, L, hk, hk6, rfl, hK, hL, hw⟩ := hrel
    have hlL := hK.inv.len_le
    have hen := hK.end_le
    clear h5 hw5 hKs
    by_cases hlt : k < crs.length ∧ k < 12
    · obtain ⟨hlt, hlt6⟩ := hlt
      obtain ⟨a, ha⟩ : ∃ a, crs[k]? = some a := ⟨_, List.getElem?_eq_getElem hlt⟩
      obtain ⟨g, o, B, cb, rfl, hg, -, e1, e2, e3, hcb, hcm, hB, ik, inn, ifl⟩ := hC k a ha
      have hbel := hL.below
      have f1 : wr.cell? ⟨g, o + k * 4 + 1, none⟩ = some (.int .i64 a.n) := (hbel.cell (p := ⟨g, o + k * 4 + 1, none⟩) hg).trans e1
      have f2 : wr.cell? ⟨g, o + k * 4 + 2, none⟩ = some (.int .i64 a.flip) := (hbel.cell (p := ⟨g, o + k * 4 + 2, none⟩) hg).trans e2
      have f3 : wr.cell? ⟨g, o + k * 4 + 3, none⟩ = some (.slice B a.b.length cb) := (hbel.cell (p := ⟨g, o + k * 4 + 3, none⟩) hg).trans e3
      obtain ⟨kd, n, fl, bb⟩ := a
      simp only at f1 f2 f3 hcb hB ik inn ifl e1 e2
      obtain ⟨l, hl⟩ : ∃ l, l = bb.take 300 := ⟨_, rfl⟩
      have l1 : l.length ≤ bb.length := by rw [hl, List.length_take]; omega
      have l2 : l.length ≤ 300 := by rw [hl, List.length_take]; omega
      have l3 : (l.length : Int) ≤ (cb : Int) := by omega
      have hr : RdB W B l := hl ▸ hB.take 300
      have hmin : ∀ w, (Builtin.min_ #[3, 3] 3 #[.int .i64 (bb.length : Int), .int .i64 300]).run Tryd.prog w = .ok (.int .i64 (l.length : Int)) w := by
        intro w
        rw [run_min_int2]
        have : (l.length : Int) = if (300 : Int) < (bb.length : Int) then 300 else (bb.length : Int) := by rw [hl, List.length_take]; split <;> omega
        rw [this]
      have hlt' : (k : Int) < (crs.length : Int) := by omega
      have hlt12 : (k : Int) < 12 := by omega
      unfold i64 at ik inn ifl
      have hKA := hK.append (by omega) l (by omega)
      clear hl hB hcb hC ha e3
      rcases hKA with ea | ⟨L2, ea, hK2⟩
      · have hK2 := hK
        by_cases hN : 0 ≤ n
        · have hAp := append_G (hL.mono' ((Below.refl _ wr).drew)) hh (by omega) B l cb (hr.arg hbel.drew) (by omega)
          unfold LiveGApp at hAp
          rw [ea] at hAp
          clear ea
          have n0 : (0 : Int) ≤ n := hN
          obtain ⟨L3, L4, ec, er, -, hK4⟩ := hK2.fall (by omega) n fl hN
          have EC := Lib.hid ec
          have ER := Lib.hid er
          clear ec er
          go_wp2
          refine wp_region_T #[[], [], [], [], [], [], [], [], [], [], [9], [9], [4, 9], [4, 9]] [4, 9] (fun w' => w'.cell? ⟨g, o + k * 4 + 3, none⟩ = some (.slice B bb.length cb) ∧ True) 14 rfl (by kernel_rfl) ?_
          (refine wpAnyT_free (i := 0) rfl (by kernel_rfl) rfl (fun _ _ _ h => h) (by kernel_rfl) (fun _ => by go_simp; try rfl) ?_; (try simp only [Act.put, List.setIfInBounds_toArray, List.set_cons_zero, List.set_cons_succ]))
          (refine wpAnyT_free (i := 1) rfl (by kernel_rfl) rfl (fun _ _ _ h => h) (by kernel_rfl) (fun _ => by go_simp; try rfl) ?_; (try simp only [Act.put, List.setIfInBounds_toArray, List.set_cons_zero, List.set_cons_succ]))
          (refine wpAnyT_free (i := 2) rfl (by kernel_rfl) rfl (fun _ _ _ h => h) (by kernel_rfl) (fun _ => by go_simp; try rfl) ?_; (try simp only [Act.put, List.setIfInBounds_toArray, List.set_cons_zero, List.set_cons_succ]))
          (refine wpAnyT_free (i := 3) rfl (by kernel_rfl) rfl (fun _ _ _ h => h) (by kernel_rfl) (fun _ => by go_simp; try rfl) ?_; (try simp only [Act.put, List.setIfInBounds_toArray, List.set_cons_zero, List.set_cons_succ]))
          (refine wpAnyT_read (i := 4) rfl (by kernel_rfl) rfl (fun _ _ _ h => h) (by kernel_rfl) (⟨f3, trivial⟩) (fun w hS_ => by obtain ⟨s_1, s_2⟩ := hS_; go_simp; try rfl) ?_; (try simp only [Act.put, List.setIfInBounds_toArray, List.set_cons_zero, List.set_cons_succ]))
          (refine wpAnyT_free (i := 5) rfl (by kernel_rfl) rfl (fun _ _ _ h => h) (by kernel_rfl) (fun _ => by go_simp; try rfl) ?_; (try simp only [Act.put, List.setIfInBounds_toArray, List.set_cons_zero, List.set_cons_succ]))
          (refine wpAnyT_free (i := 6) rfl (by kernel_rfl) rfl (fun _ _ _ h => h) (by kernel_rfl) (fun _ => by go_simp; try rfl) ?_; (try simp only [Act.put, List.setIfInBounds_toArray, List.set_cons_zero, List.set_cons_succ]))
          (refine wpAnyT_free (i := 7) rfl (by kernel_rfl) rfl (fun _ _ _ h => h) (by kernel_rfl) (fun _ => by go_simp; try rfl) ?_; (try simp only [Act.put, List.setIfInBounds_toArray, List.set_cons_zero, List.set_cons_succ]))
          (refine wpAnyT_free (i := 8) rfl (by kernel_rfl) rfl (fun _ _ _ h => h) (by kernel_rfl) (fun _ => by go_simp; try rfl) ?_; (try simp only [Act.put, List.setIfInBounds_toArray, List.set_cons_zero, List.set_cons_succ]))
          (refine wpAnyT_read (i := 9) rfl (by kernel_rfl) rfl (fun _ _ _ h => h) (by kernel_rfl) (⟨f3, trivial⟩) (fun w hS_ => by obtain ⟨s_1, s_2⟩ := hS_; go_simp; try rfl) ?_; (try simp only [Act.put, List.setIfInBounds_toArray, List.set_cons_zero, List.set_cons_succ]))
          (refine wpAnyT_free (i := 10) rfl (by kernel_rfl) rfl (fun _ _ _ h => h) (by kernel_rfl) (fun _ => by go_simp; try rfl) ?_; (try simp only [Act.put, List.setIfInBounds_toArray, List.set_cons_zero, List.set_cons_succ]))
          (refine wpAnyT_free (i := 11) rfl (by kernel_rfl) rfl (fun _ _ _ h => h) (by kernel_rfl) (fun _ => by go_simp; try rfl) ?_; (try simp only [Act.put, List.setIfInBounds_toArray, List.set_cons_zero, List.set_cons_succ]))
          (refine wpAnyT_free (i := 12) rfl (by kernel_rfl) rfl (fun _ _ _ h => h) (by kernel_rfl) (fun _ => by go_simp; try rfl) ?_; (try simp only [Act.put, List.setIfInBounds_toArray, List.set_cons_zero, List.set_cons_succ]))
          (refine wpAnyT_free (i := 13) rfl (by kernel_rfl) rfl (fun _ _ _ h => h) (by kernel_rfl) (fun _ => by go_simp; try rfl) ?_; (try simp only [Act.put, List.setIfInBounds_toArray, List.set_cons_zero, List.set_cons_succ]))
          refine wpAnyT_done (by kernel_rfl) ?_ _
          go_wp2_with (go_at_call 35; refine hAp.mono ?_; rintro e w6 ⟨rfl, h6, hx6, hk6⟩; have hw6 := (hw.below ((Below.refl _ wr).drew)).xk hx6 hk6; clear hAp)
          have p1 : w6.cell? ⟨g, o + k * 4 + 1, none⟩ = some (.int .i64 n) := (h6.below.cell (p := ⟨g, o + k * 4 + 1, none⟩) hg).trans e1
          have p2 : w6.cell? ⟨g, o + k * 4 + 2, none⟩ = some (.int .i64 fl) := (h6.below.cell (p := ⟨g, o + k * 4 + 2, none⟩) hg).trans e2
          have hCr := crash_G (h6.mono' ((Below.refl _ w6).drew)) n fl inn.2 ifl.2 inn.1 ifl.1
          unfold LiveGDid at hCr
          rw [EC.out] at hCr
          refine wp_region_T #[[], [], [], [], [], [4], [4], [4], [4], [4], [4], [4], [4], [4], [4], [4], [4], [4], [4, 12, 17], [4, 12, 17], [4, 12, 17], [4, 12, 17], [4, 12, 17], [4, 12, 17], [4, 12, 17], [4, 12, 17]] [4, 12, 17] (fun w' => w'.cell? ⟨g, o + k * 4 + 1, none⟩ = some (.int .i64 n) ∧ w'.cell? ⟨g, o + k * 4 + 2, none⟩ = some (.int .i64 fl)) 26 rfl (by kernel_rfl) ?_
          (refine wpAnyT_free (i := 0) rfl (by kernel_rfl) rfl (fun _ _ _ h => h) (by kernel_rfl) (fun _ => by go_simp; try rfl) ?_; (try simp only [Act.put, List.setIfInBounds_toArray, List.set_cons_zero, List.set_cons_succ]))
          (refine wpAnyT_free (i := 1) rfl (by kernel_rfl) rfl (fun _ _ _ h => h) (by kernel_rfl) (fun _ => by go_simp; try rfl) ?_; (try simp only [Act.put, List.setIfInBounds_toArray, List.set_cons_zero, List.set_cons_succ]))
          (refine wpAnyT_free (i := 2) rfl (by kernel_rfl) rfl (fun _ _ _ h => h) (by kernel_rfl) (fun _ => by go_simp; try rfl) ?_; (try simp only [Act.put, List.setIfInBounds_toArray, List.set_cons_zero, List.set_cons_succ]))
          (refine wpAnyT_free (i := 3) rfl (by kernel_rfl) rfl (fun _ _ _ h => h) (by kernel_rfl) (fun _ => by go_simp; try rfl) ?_; (try simp only [Act.put, List.setIfInBounds_toArray, List.set_cons_zero, List.set_cons_succ]))
          (refine wpAnyT_read (i := 4) rfl (by kernel_rfl) rfl (fun _ _ _ h => h) (by kernel_rfl) (⟨p1, p2⟩) (fun w hS_ => by obtain ⟨s_1, s_2⟩ := hS_; go_simp; try rfl) ?_; (try simp only [Act.put, List.setIfInBounds_toArray, List.set_cons_zero, List.set_cons_succ]))
          (refine wpAnyT_free (i := 5) rfl (by kernel_rfl) rfl (fun _ _ _ h => h) (by kernel_rfl) (fun _ => by go_simp; try rfl) ?_; (try simp only [Act.put, List.setIfInBounds_toArray, List.set_cons_zero, List.set_cons_succ]))
          (refine wpAnyT_free (i := 6) rfl (by kernel_rfl) rfl (fun _ _ _ h => h) (by kernel_rfl) (fun _ => by go_simp; try rfl) ?_; (try simp only [Act.put, List.setIfInBounds_toArray, List.set_cons_zero, List.set_cons_succ]))
          first
          | (refine wpAnyT_skip (i := 7) rfl (by kernel_rfl) ?hw_ (fun _ _ _ h => h) (fun h_ => absurd h_ (by decide)) ?_; (case hw_ => first | (simp [Region.wanted, yielded]; done) | (simp [Region.wanted, yielded, undef, *]; done)); (try simp only [Act.put, List.setIfInBounds_toArray, List.set_cons_zero, List.set_cons_succ]))
          | (refine wpAnyT_free (i := 7) rfl (by kernel_rfl) (by first | (simp [Region.wanted, yielded]; done) | (simp [Region.wanted, yielded, undef, *]; done)) (fun _ _ _ h => h) (by kernel_rfl) (fun _ => by go_simp; try rfl) ?_; (try simp only [Act.put, List.setIfInBounds_toArray, List.set_cons_zero, List.set_cons_succ]))
          first
          | (refine wpAnyT_skip (i := 8) rfl (by kernel_rfl) ?hw_ (fun _ _ _ h => h) (fun h_ => absurd h_ (by decide)) ?_; (case hw_ => first | (simp [Region.wanted, yielded]; done) | (simp [Region.wanted, yielded, undef, *]; done)); (try simp only [Act.put, List.setIfInBounds_toArray, List.set_cons_zero, List.set_cons_succ]))
          | (refine wpAnyT_free (i := 8) rfl (by kernel_rfl) (by first | (simp [Region.wanted, yielded]; done) | (simp [Region.wanted, yielded, undef, *]; done)) (fun _ _ _ h => h) (by kernel_rfl) (fun _ => by go_simp; try rfl) ?_; (try simp only [Act.put, List.setIfInBounds_toArray, List.set_cons_zero, List.set_cons_succ]))
          first
          | (refine wpAnyT_skip (i := 9) rfl (by kernel_rfl) ?hw_ (fun _ _ _ h => h) (fun h_ => absurd h_ (by decide)) ?_; (case hw_ => first | (simp [Region.wanted, yielded]; done) | (simp [Region.wanted, yielded, undef, *]; done)); (try simp only [Act.put, List.setIfInBounds_toArray, List.set_cons_zero, List.set_cons_succ]))
          | (refine wpAnyT_free (i := 9) rfl (by kernel_rfl) (by first | (simp [Region.wanted, yielded]; done) | (simp [Region.wanted, yielded, undef, *]; done)) (fun _ _ _ h => h) (by kernel_rfl) (fun _ => by go_simp; try rfl) ?_; (try simp only [Act.put, List.setIfInBounds_toArray, List.set_cons_zero, List.set_cons_succ]))
          first
          | (refine wpAnyT_skip (i := 10) rfl (by kernel_rfl) ?hw_ (fun _ _ _ h => h) (fun h_ => absurd h_ (by decide)) ?_; (case hw_ => first | (simp [Region.wanted, yielded]; done) | (simp [Region.wanted, yielded, undef, *]; done)); (try simp only [Act.put, List.setIfInBounds_toArray, List.set_cons_zero, List.set_cons_succ]))
          | (refine wpAnyT_free (i := 10) rfl (by kernel_rfl) (by first | (simp [Region.wanted, yielded]; done) | (simp [Region.wanted, yielded, undef, *]; done)) (fun _ _ _ h => h) (by kernel_rfl) (fun _ => by go_simp; try rfl) ?_; (try simp only [Act.put, List.setIfInBounds_toArray, List.set_cons_zero, List.set_cons_succ]))
          first
          | (refine wpAnyT_skip (i := 11) rfl (by kernel_rfl) ?hw_ (fun _ _ _ h => h) (fun h_ => absurd h_ (by decide)) ?_; (case hw_ => first | (simp [Region.wanted, yielded]; done) | (simp [Region.wanted, yielded, undef, *]; done)); (try simp only [Act.put, List.setIfInBounds_toArray, List.set_cons_zero, List.set_cons_succ]))
          | (refine wpAnyT_free (i := 11) rfl (by kernel_rfl) (by first | (simp [Region.wanted, yielded]; done) | (simp [Region.wanted, yielded, undef, *]; done)) (fun _ _ _ h => h) (by kernel_rfl) (fun _ => by go_simp; try rfl) ?_; (try simp only [Act.put, List.setIfInBounds_toArray, List.set_cons_zero, List.set_cons_succ]))
          first
          | (refine wpAnyT_skip (i := 12) rfl (by kernel_rfl) ?hw_ (fun _ _ _ h => h) (fun _ => ⟨p1, p2⟩) ?_; (case hw_ => first | (simp [Region.wanted, yielded]; done) | (simp [Region.wanted, yielded, undef, *]; done)); (try simp only [Act.put, List.setIfInBounds_toArray, List.set_cons_zero, List.set_cons_succ]))
          | (refine wpAnyT_read (i := 12) rfl (by kernel_rfl) (by first | (simp [Region.wanted, yielded]; done) | (simp [Region.wanted, yielded, undef, *]; done)) (fun _ _ _ h => h) (by kernel_rfl) (⟨p1, p2⟩) (fun w hS_ => by obtain ⟨s_1, s_2⟩ := hS_; go_simp; try rfl) ?_; (try simp only [Act.put, List.setIfInBounds_toArray, List.set_cons_zero, List.set_cons_succ]))
          first
          | (refine wpAnyT_skip (i := 13) rfl (by kernel_rfl) ?hw_ (fun _ _ _ h => h) (fun h_ => absurd h_ (by decide)) ?_; (case hw_ => first | (simp [Region.wanted, yielded]; done) | (simp [Region.wanted, yielded, undef, *]; done)); (try simp only [Act.put, List.setIfInBounds_toArray, List.set_cons_zero, List.set_cons_succ]))
          | (refine wpAnyT_free (i := 13) rfl (by kernel_rfl) (by first | (simp [Region.wanted, yielded]; done) | (simp [Region.wanted, yielded, undef, *]; done)) (fun _ _ _ h => h) (by kernel_rfl) (fun _ => by go_simp; try rfl) ?_; (try simp only [Act.put, List.setIfInBounds_toArray, List.set_cons_zero, List.set_cons_succ]))
          first
          | (refine wpAnyT_skip (i := 14) rfl (by kernel_rfl) ?hw_ (fun _ _ _ h => h) (fun h_ => absurd h_ (by decide)) ?_; (case hw_ => first | (simp [Region.wanted, yielded]; done) | (simp [Region.wanted, yielded, undef, *]; done)); (try simp only [Act.put, List.setIfInBounds_toArray, List.set_cons_zero, List.set_cons_succ]))
          | (refine wpAnyT_free (i := 14) rfl (by kernel_rfl) (by first | (simp [Region.wanted, yielded]; done) | (simp [Region.wanted, yielded, undef, *]; done)) (fun _ _ _ h => h) (by kernel_rfl) (fun _ => by go_simp; try rfl) ?_; (try simp only [Act.put, List.setIfInBounds_toArray, List.set_cons_zero, List.set_cons_succ]))
          first
          | (refine wpAnyT_skip (i := 15) rfl (by kernel_rfl) ?hw_ (fun _ _ _ h => h) (fun h_ => absurd h_ (by decide)) ?_; (case hw_ => first | (simp [Region.wanted, yielded]; done) | (simp [Region.wanted, yielded, undef, *]; done)); (try simp only [Act.put, List.setIfInBounds_toArray, List.set_cons_zero, List.set_cons_succ]))
          | (refine wpAnyT_free (i := 15) rfl (by kernel_rfl) (by first | (simp [Region.wanted, yielded]; done) | (simp [Region.wanted, yielded, undef, *]; done)) (fun _ _ _ h => h) (by kernel_rfl) (fun _ => by go_simp; try rfl) ?_; (try simp only [Act.put, List.setIfInBounds_toArray, List.set_cons_zero, List.set_cons_succ]))
          first
          | (refine wpAnyT_skip (i := 16) rfl (by kernel_rfl) ?hw_ (fun _ _ _ h => h) (fun h_ => absurd h_ (by decide)) ?_; (case hw_ => first | (simp [Region.wanted, yielded]; done) | (simp [Region.wanted, yielded, undef, *]; done)); (try simp only [Act.put, List.setIfInBounds_toArray, List.set_cons_zero, List.set_cons_succ]))
          | (refine wpAnyT_free (i := 16) rfl (by kernel_rfl) (by first | (simp [Region.wanted, yielded]; done) | (simp [Region.wanted, yielded, undef, *]; done)) (fun _ _ _ h => h) (by kernel_rfl) (fun _ => by go_simp; try rfl) ?_; (try simp only [Act.put, List.setIfInBounds_toArray, List.set_cons_zero, List.set_cons_succ]))
          first
          | (refine wpAnyT_skip (i := 17) rfl (by kernel_rfl) ?hw_ (fun _ _ _ h => h) (fun _ => ⟨p1, p2⟩) ?_; (case hw_ => first | (simp [Region.wanted, yielded]; done) | (simp [Region.wanted, yielded, undef, *]; done)); (try simp only [Act.put, List.setIfInBounds_toArray, List.set_cons_zero, List.set_cons_succ]))
          | (refine wpAnyT_read (i := 17) rfl (by kernel_rfl) (by first | (simp [Region.wanted, yielded]; done) | (simp [Region.wanted, yielded, undef, *]; done)) (fun _ _ _ h => h) (by kernel_rfl) (⟨p1, p2⟩) (fun w hS_ => by obtain ⟨s_1, s_2⟩ := hS_; go_simp; try rfl) ?_; (try simp only [Act.put, List.setIfInBounds_toArray, List.set_cons_zero, List.set_cons_succ]))
          first
          | (refine wpAnyT_skip (i := 18) rfl (by kernel_rfl) ?hw_ (fun _ _ _ h => h) (fun h_ => absurd h_ (by decide)) ?_; (case hw_ => first | (simp [Region.wanted, yielded]; done) | (simp [Region.wanted, yielded, undef, *]; done)); (try simp only [Act.put, List.setIfInBounds_toArray, List.set_cons_zero, List.set_cons_succ]))
          | (refine wpAnyT_sink (i := 18) rfl (by kernel_rfl) (by first | (simp [Region.wanted, yielded]; done) | (simp [Region.wanted, yielded, undef, *]; done)) (by kernel_rfl) ?_
             intro K_ hK_
             go_wp2_with ((go_at_call 43; refine hCr.mono ?_; rintro e w7 ⟨rfl, h7, hx7, hk7⟩; have hRe := restart_G h7 hh; unfold LiveGDid at hRe; rw [ER.out] at hRe; have hw7 := (hw6.below ((Below.refl _ w6).drew)).xk hx7 hk7))
             (try (refine hK_ _ _ ?_; clear hK_ K_))
             (try simp only [Act.put, List.setIfInBounds_toArray, List.set_cons_zero, List.set_cons_succ]))
          first
          | (refine wpAnyT_skip (i := 19) rfl (by kernel_rfl) ?hw_ (fun _ _ _ h => h) (fun h_ => absurd h_ (by decide)) ?_; (case hw_ => first | (simp [Region.wanted, yielded]; done) | (simp [Region.wanted, yielded, undef, *]; done)); (try simp only [Act.put, List.setIfInBounds_toArray, List.set_cons_zero, List.set_cons_succ]))
          | (refine wpAnyT_free (i := 19) rfl (by kernel_rfl) (by first | (simp [Region.wanted, yielded]; done) | (simp [Region.wanted, yielded, undef, *]; done)) (fun _ _ _ h => h) (by kernel_rfl) (fun _ => by go_simp; try rfl) ?_; (try simp only [Act.put, List.setIfInBounds_toArray, List.set_cons_zero, List.set_cons_succ]))
          first
          | (refine wpAnyT_skip (i := 20) rfl (by kernel_rfl) ?hw_ (fun _ _ _ h => h) (fun h_ => absurd h_ (by decide)) ?_; (case hw_ => first | (simp [Region.wanted, yielded]; done) | (simp [Region.wanted, yielded, undef, *]; done)); (try simp only [Act.put, List.setIfInBounds_toArray, List.set_cons_zero, List.set_cons_succ]))
          | (refine wpAnyT_free (i := 20) rfl (by kernel_rfl) (by first | (simp [Region.wanted, yielded]; done) | (simp [Region.wanted, yielded, undef, *]; done)) (fun _ _ _ h => h) (by kernel_rfl) (fun _ => by go_simp; try rfl) ?_; (try simp only [Act.put, List.setIfInBounds_toArray, List.set_cons_zero, List.set_cons_succ]))
          first
          | (refine wpAnyT_skip (i := 21) rfl (by kernel_rfl) ?hw_ (fun _ _ _ h => h) (fun h_ => absurd h_ (by decide)) ?_; (case hw_ => first | (simp [Region.wanted, yielded]; done) | (simp [Region.wanted, yielded, undef, *]; done)); (try simp only [Act.put, List.setIfInBounds_toArray, List.set_cons_zero, List.set_cons_succ]))
          | (refine wpAnyT_free (i := 21) rfl (by kernel_rfl) (by first | (simp [Region.wanted, yielded]; done) | (simp [Region.wanted, yielded, undef, *]; done)) (fun _ _ _ h => h) (by kernel_rfl) (fun _ => by go_simp; try rfl) ?_; (try simp only [Act.put, List.setIfInBounds_toArray, List.set_cons_zero, List.set_cons_succ]))
          first
          | (refine wpAnyT_skip (i := 22) rfl (by kernel_rfl) ?hw_ (fun _ _ _ h => h) (fun h_ => absurd h_ (by decide)) ?_; (case hw_ => first | (simp [Region.wanted, yielded]; done) | (simp [Region.wanted, yielded, undef, *]; done)); (try simp only [Act.put, List.setIfInBounds_toArray, List.set_cons_zero, List.set_cons_succ]))
          | (refine wpAnyT_sink (i := 22) rfl (by kernel_rfl) (by first | (simp [Region.wanted, yielded]; done) | (simp [Region.wanted, yielded, undef, *]; done)) (by kernel_rfl) ?_
             intro K_ hK_
             go_wp2_with ((go_at_call 44; refine hRe.mono ?_; rintro e w8 ⟨rfl, h8, hx8, hk8⟩; have hw8 := hw7.xk hx8 hk8))
             (try (refine hK_ _ _ ?_; clear hK_ K_))
             (try simp only [Act.put, List.setIfInBounds_toArray, List.set_cons_zero, List.set_cons_succ]))
          first
          | (refine wpAnyT_skip (i := 23) rfl (by kernel_rfl) ?hw_ (fun _ _ _ h => h) (fun h_ => absurd h_ (by decide)) ?_; (case hw_ => first | (simp [Region.wanted, yielded]; done) | (simp [Region.wanted, yielded, undef, *]; done)); (try simp only [Act.put, List.setIfInBounds_toArray, List.set_cons_zero, List.set_cons_succ]))
          | (refine wpAnyT_free (i := 23) rfl (by kernel_rfl) (by first | (simp [Region.wanted, yielded]; done) | (simp [Region.wanted, yielded, undef, *]; done)) (fun _ _ _ h => h) (by kernel_rfl) (fun _ => by go_simp; try rfl) ?_; (try simp only [Act.put, List.setIfInBounds_toArray, List.set_cons_zero, List.set_cons_succ]))
          first
          | (refine wpAnyT_skip (i := 24) rfl (by kernel_rfl) ?hw_ (fun _ _ _ h => h) (fun h_ => absurd h_ (by decide)) ?_; (case hw_ => first | (simp [Region.wanted, yielded]; done) | (simp [Region.wanted, yielded, undef, *]; done)); (try simp only [Act.put, List.setIfInBounds_toArray, List.set_cons_zero, List.set_cons_succ]))
          | (refine wpAnyT_free (i := 24) rfl (by kernel_rfl) (by first | (simp [Region.wanted, yielded]; done) | (simp [Region.wanted, yielded, undef, *]; done)) (fun _ _ _ h => h) (by kernel_rfl) (fun _ => by go_simp; try rfl) ?_; (try simp only [Act.put, List.setIfInBounds_toArray, List.set_cons_zero, List.set_cons_succ]))
          (refine wpAnyT_free (i := 25) rfl (by kernel_rfl) rfl (fun _ _ _ h => h) (by kernel_rfl) (fun _ => by go_simp; try rfl) ?_; (try simp only [Act.put, List.setIfInBounds_toArray, List.set_cons_zero, List.set_cons_succ]))
          refine wpAnyT_done (by kernel_rfl) ?_ _
          have hAl := all_H h8 hK4.inv (by omega)
          have hlk := hK4.pre.length_le
          have HK4 := Lib.hid hK4
          clear hK4
          go_wp2_with (first
            | (go_at_call 40; refine hAl.mono ?_; rintro e w9 ⟨A3, c3, rfl, hn9, h9, hb9⟩; have hw9 := hw8.below hb9; have hcap := hn9.cap; have q1 := Int.not_lt.2 (Int.ofNat_le.2 hlk); have q2 := Int.ofNat_le.2 (Nat.le_trans hlk hcap.1); have hE := alike_take2 hn9 hw9 was.length hlk; rw [decide_eq_true (List.prefix_iff_eq_take.1 HK4.out.pre).symm] at hE; clear hAl)
            | (go_at_call 45; refine hE.mono ?_; rintro e w10 ⟨rfl, hb10⟩; have h10 := (h9.mono' hb10).sub (X' := X) (fun _ h => .inl h); have hw10 := hw9.below hb10; clear hE))
          go_roundw
          case rel => exact ⟨k + 1, _, by omega, by omega, by go_num, HK4.out.mono (by omega), h10, hw10⟩
          case measure => simp [intOf]; omega
        · have hAp := append_G (hL.mono' ((Below.refl _ wr).drew)) hh (by omega) B l cb (hr.arg hbel.drew) (by omega)
          unfold LiveGApp at hAp
          rw [ea] at hAp
          clear ea
          have n0 : ¬ (0 : Int) ≤ n := hN
          go_wp2
          refine wp_region_T #[[], [], [], [], [], [], [], [], [], [], [9], [9], [4, 9], [4, 9]] [4, 9] (fun w' => w'.cell? ⟨g, o + k * 4 + 3, none⟩ = some (.slice B bb.length cb) ∧ True) 14 rfl (by kernel_rfl) ?_
          (refine wpAnyT_free (i := 0) rfl (by kernel_rfl) rfl (fun _ _ _ h => h) (by kernel_rfl) (fun _ => by go_simp; try rfl) ?_; (try simp only [Act.put, List.setIfInBounds_toArray, List.set_cons_zero, List.set_cons_succ]))
          (refine wpAnyT_free (i := 1) rfl (by kernel_rfl) rfl (fun _ _ _ h => h) (by kernel_rfl) (fun _ => by go_simp; try rfl) ?_; (try simp only [Act.put, List.setIfInBounds_toArray, List.set_cons_zero, List.set_cons_succ]))
          (refine wpAnyT_free (i := 2) rfl (by kernel_rfl) rfl (fun _ _ _ h => h) (by kernel_rfl) (fun _ => by go_simp; try rfl) ?_; (try simp only [Act.put, List.setIfInBounds_toArray, List.set_cons_zero, List.set_cons_succ]))
          (refine wpAnyT_free (i := 3) rfl (by kernel_rfl) rfl (fun _ _ _ h => h) (by kernel_rfl) (fun _ => by go_simp; try rfl) ?_; (try simp only [Act.put, List.setIfInBounds_toArray, List.set_cons_zero, List.set_cons_succ]))
          (refine wpAnyT_read (i := 4) rfl (by kernel_rfl) rfl (fun _ _ _ h => h) (by kernel_rfl) (⟨f3, trivial⟩) (fun w hS_ => by obtain ⟨s_1, s_2⟩ := hS_; go_simp; try rfl) ?_; (try simp only [Act.put, List.setIfInBounds_toArray, List.set_cons_zero, List.set_cons_succ]))
          (refine wpAnyT_free (i := 5) rfl (by kernel_rfl) rfl (fun _ _ _ h => h) (by kernel_rfl) (fun _ => by go_simp; try rfl) ?_; (try simp only [Act.put, List.setIfInBounds_toArray, List.set_cons_zero, List.set_cons_succ]))
          (refine wpAnyT_free (i := 6) rfl (by kernel_rfl) rfl (fun _ _ _ h => h) (by kernel_rfl) (fun _ => by go_simp; try rfl) ?_; (try simp only [Act.put, List.setIfInBounds_toArray, List.set_cons_zero, List.set_cons_succ]))
          (refine wpAnyT_free (i := 7) rfl (by kernel_rfl) rfl (fun _ _ _ h => h) (by kernel_rfl) (fun _ => by go_simp; try rfl) ?_; (try simp only [Act.put, List.setIfInBounds_toArray, List.set_cons_zero, List.set_cons_succ]))
          (refine wpAnyT_free (i := 8) rfl (by kernel_rfl) rfl (fun _ _ _ h => h) (by kernel_rfl) (fun _ => by go_simp; try rfl) ?_; (try simp only [Act.put, List.setIfInBounds_toArray, List.set_cons_zero, List.set_cons_succ]))
          (refine wpAnyT_read (i := 9) rfl (by kernel_rfl) rfl (fun _ _ _ h => h) (by kernel_rfl) (⟨f3, trivial⟩) (fun w hS_ => by obtain ⟨s_1, s_2⟩ := hS_; go_simp; try rfl) ?_; (try simp only [Act.put, List.setIfInBounds_toArray, List.set_cons_zero, List.set_cons_succ]))
          (refine wpAnyT_free (i := 10) rfl (by kernel_rfl) rfl (fun _ _ _ h => h) (by kernel_rfl) (fun _ => by go_simp; try rfl) ?_; (try simp only [Act.put, List.setIfInBounds_toArray, List.set_cons_zero, List.set_cons_succ]))
          (refine wpAnyT_free (i := 11) rfl (by kernel_rfl) rfl (fun _ _ _ h => h) (by kernel_rfl) (fun _ => by go_simp; try rfl) ?_; (try simp only [Act.put, List.setIfInBounds_toArray, List.set_cons_zero, List.set_cons_succ]))
          (refine wpAnyT_free (i := 12) rfl (by kernel_rfl) rfl (fun _ _ _ h => h) (by kernel_rfl) (fun _ => by go_simp; try rfl) ?_; (try simp only [Act.put, List.setIfInBounds_toArray, List.set_cons_zero, List.set_cons_succ]))
          (refine wpAnyT_free (i := 13) rfl (by kernel_rfl) rfl (fun _ _ _ h => h) (by kernel_rfl) (fun _ => by go_simp; try rfl) ?_; (try simp only [Act.put, List.setIfInBounds_toArray, List.set_cons_zero, List.set_cons_succ]))
          refine wpAnyT_done (by kernel_rfl) ?_ _
          go_wp2_with (go_at_call 35; refine hAp.mono ?_; rintro e w6 ⟨rfl, h6, hx6, hk6⟩; have hw6 := (hw.below ((Below.refl _ wr).drew)).xk hx6 hk6; clear hAp)
          have p1 : w6.cell? ⟨g, o + k * 4 + 1, none⟩ = some (.int .i64 n) := (h6.below.cell (p := ⟨g, o + k * 4 + 1, none⟩) hg).trans e1
          have p2 : w6.cell? ⟨g, o + k * 4 + 2, none⟩ = some (.int .i64 fl) := (h6.below.cell (p := ⟨g, o + k * 4 + 2, none⟩) hg).trans e2
          refine wp_region_T #[[], [], [], [], [], [4], [4], [4], [4], [4], [4], [4], [4], [4], [4], [4], [4], [4], [4, 12, 17], [4, 12, 17], [4, 12, 17], [4, 12, 17], [4, 12, 17], [4, 12, 17], [4, 12, 17], [4, 12, 17]] [4, 12, 17] (fun w' => w'.cell? ⟨g, o + k * 4 + 1, none⟩ = some (.int .i64 n) ∧ w'.cell? ⟨g, o + k * 4 + 2, none⟩ = some (.int .i64 fl)) 26 rfl (by kernel_rfl) ?_
          (refine wpAnyT_free (i := 0) rfl (by kernel_rfl) rfl (fun _ _ _ h => h) (by kernel_rfl) (fun _ => by go_simp; try rfl) ?_; (try simp only [Act.put, List.setIfInBounds_toArray, List.set_cons_zero, List.set_cons_succ]))
          (refine wpAnyT_free (i := 1) rfl (by kernel_rfl) rfl (fun _ _ _ h => h) (by kernel_rfl) (fun _ => by go_simp; try rfl) ?_; (try simp only [Act.put, List.setIfInBounds_toArray, List.set_cons_zero, List.set_cons_succ]))
          (refine wpAnyT_free (i := 2) rfl (by kernel_rfl) rfl (fun _ _ _ h => h) (by kernel_rfl) (fun _ => by go_simp; try rfl) ?_; (try simp only [Act.put, List.setIfInBounds_toArray, List.set_cons_zero, List.set_cons_succ]))
          (refine wpAnyT_free (i := 3) rfl (by kernel_rfl) rfl (fun _ _ _ h => h) (by kernel_rfl) (fun _ => by go_simp; try rfl) ?_; (try simp only [Act.put, List.setIfInBounds_toArray, List.set_cons_zero, List.set_cons_succ]))
          (refine wpAnyT_read (i := 4) rfl (by kernel_rfl) rfl (fun _ _ _ h => h) (by kernel_rfl) (⟨p1, p2⟩) (fun w hS_ => by obtain ⟨s_1, s_2⟩ := hS_; go_simp; try rfl) ?_; (try simp only [Act.put, List.setIfInBounds_toArray, List.set_cons_zero, List.set_cons_succ]))
          (refine wpAnyT_free (i := 5) rfl (by kernel_rfl) rfl (fun _ _ _ h => h) (by kernel_rfl) (fun _ => by go_simp; try rfl) ?_; (try simp only [Act.put, List.setIfInBounds_toArray, List.set_cons_zero, List.set_cons_succ]))
          (refine wpAnyT_free (i := 6) rfl (by kernel_rfl) rfl (fun _ _ _ h => h) (by kernel_rfl) (fun _ => by go_simp; try rfl) ?_; (try simp only [Act.put, List.setIfInBounds_toArray, List.set_cons_zero, List.set_cons_succ]))
          first
          | (refine wpAnyT_skip (i := 7) rfl (by kernel_rfl) ?hw_ (fun _ _ _ h => h) (fun h_ => absurd h_ (by decide)) ?_; (case hw_ => first | (simp [Region.wanted, yielded]; done) | (simp [Region.wanted, yielded, undef, *]; done)); (try simp only [Act.put, List.setIfInBounds_toArray, List.set_cons_zero, List.set_cons_succ]))
          | (refine wpAnyT_free (i := 7) rfl (by kernel_rfl) (by first | (simp [Region.wanted, yielded]; done) | (simp [Region.wanted, yielded, undef, *]; done)) (fun _ _ _ h => h) (by kernel_rfl) (fun _ => by go_simp; try rfl) ?_; (try simp only [Act.put, List.setIfInBounds_toArray, List.set_cons_zero, List.set_cons_succ]))
          first
          | (refine wpAnyT_skip (i := 8) rfl (by kernel_rfl) ?hw_ (fun _ _ _ h => h) (fun h_ => absurd h_ (by decide)) ?_; (case hw_ => first | (simp [Region.wanted, yielded]; done) | (simp [Region.wanted, yielded, undef, *]; done)); (try simp only [Act.put, List.setIfInBounds_toArray, List.set_cons_zero, List.set_cons_succ]))
          | (refine wpAnyT_free (i := 8) rfl (by kernel_rfl) (by first | (simp [Region.wanted, yielded]; done) | (simp [Region.wanted, yielded, undef, *]; done)) (fun _ _ _ h => h) (by kernel_rfl) (fun _ => by go_simp; try rfl) ?_; (try simp only [Act.put, List.setIfInBounds_toArray, List.set_cons_zero, List.set_cons_succ]))
          first
          | (refine wpAnyT_skip (i := 9) rfl (by kernel_rfl) ?hw_ (fun _ _ _ h => h) (fun h_ => absurd h_ (by decide)) ?_; (case hw_ => first | (simp [Region.wanted, yielded]; done) | (simp [Region.wanted, yielded, undef, *]; done)); (try simp only [Act.put, List.setIfInBounds_toArray, List.set_cons_zero, List.set_cons_succ]))
          | (refine wpAnyT_free (i := 9) rfl (by kernel_rfl) (by first | (simp [Region.wanted, yielded]; done) | (simp [Region.wanted, yielded, undef, *]; done)) (fun _ _ _ h => h) (by kernel_rfl) (fun _ => by go_simp; try rfl) ?_; (try simp only [Act.put, List.setIfInBounds_toArray, List.set_cons_zero, List.set_cons_succ]))
          first
          | (refine wpAnyT_skip (i := 10) rfl (by kernel_rfl) ?hw_ (fun _ _ _ h => h) (fun h_ => absurd h_ (by decide)) ?_; (case hw_ => first | (simp [Region.wanted, yielded]; done) | (simp [Region.wanted, yielded, undef, *]; done)); (try simp only [Act.put, List.setIfInBounds_toArray, List.set_cons_zero, List.set_cons_succ]))
          | (refine wpAnyT_free (i := 10) rfl (by kernel_rfl) (by first | (simp [Region.wanted, yielded]; done) | (simp [Region.wanted, yielded, undef, *]; done)) (fun _ _ _ h => h) (by kernel_rfl) (fun _ => by go_simp; try rfl) ?_; (try simp only [Act.put, List.setIfInBounds_toArray, List.set_cons_zero, List.set_cons_succ]))
          first
          | (refine wpAnyT_skip (i := 11) rfl (by kernel_rfl) ?hw_ (fun _ _ _ h => h) (fun h_ => absurd h_ (by decide)) ?_; (case hw_ => first | (simp [Region.wanted, yielded]; done) | (simp [Region.wanted, yielded, undef, *]; done)); (try simp only [Act.put, List.setIfInBounds_toArray, List.set_cons_zero, List.set_cons_succ]))
          | (refine wpAnyT_free (i := 11) rfl (by kernel_rfl) (by first | (simp [Region.wanted, yielded]; done) | (simp [Region.wanted, yielded, undef, *]; done)) (fun _ _ _ h => h) (by kernel_rfl) (fun _ => by go_simp; try rfl) ?_; (try simp only [Act.put, List.setIfInBounds_toArray, List.set_cons_zero, List.set_cons_succ]))
          first
          | (refine wpAnyT_skip (i := 12) rfl (by kernel_rfl) ?hw_ (fun _ _ _ h => h) (fun _ => ⟨p1, p2⟩) ?_; (case hw_ => first | (simp [Region.wanted, yielded]; done) | (simp [Region.wanted, yielded, undef, *]; done)); (try simp only [Act.put, List.setIfInBounds_toArray, List.set_cons_zero, List.set_cons_succ]))
          | (refine wpAnyT_read (i := 12) rfl (by kernel_rfl) (by first | (simp [Region.wanted, yielded]; done) | (simp [Region.wanted, yielded, undef, *]; done)) (fun _ _ _ h => h) (by kernel_rfl) (⟨p1, p2⟩) (fun w hS_ => by obtain ⟨s_1, s_2⟩ := hS_; go_simp; try rfl) ?_; (try simp only [Act.put, List.setIfInBounds_toArray, List.set_cons_zero, List.set_cons_succ]))
          first
          | (refine wpAnyT_skip (i := 13) rfl (by kernel_rfl) ?hw_ (fun _ _ _ h => h) (fun h_ => absurd h_ (by decide)) ?_; (case hw_ => first | (simp [Region.wanted, yielded]; done) | (simp [Region.wanted, yielded, undef, *]; done)); (try simp only [Act.put, List.setIfInBounds_toArray, List.set_cons_zero, List.set_cons_succ]))
          | (refine wpAnyT_free (i := 13) rfl (by kernel_rfl) (by first | (simp [Region.wanted, yielded]; done) | (simp [Region.wanted, yielded, undef, *]; done)) (fun _ _ _ h => h) (by kernel_rfl) (fun _ => by go_simp; try rfl) ?_; (try simp only [Act.put, List.setIfInBounds_toArray, List.set_cons_zero, List.set_cons_succ]))
          first
          | (refine wpAnyT_skip (i := 14) rfl (by kernel_rfl) ?hw_ (fun _ _ _ h => h) (fun h_ => absurd h_ (by decide)) ?_; (case hw_ => first | (simp [Region.wanted, yielded]; done) | (simp [Region.wanted, yielded, undef, *]; done)); (try simp only [Act.put, List.setIfInBounds_toArray, List.set_cons_zero, List.set_cons_succ]))
          | (refine wpAnyT_free (i := 14) rfl (by kernel_rfl) (by first | (simp [Region.wanted, yielded]; done) | (simp [Region.wanted, yielded, undef, *]; done)) (fun _ _ _ h => h) (by kernel_rfl) (fun _ => by go_simp; try rfl) ?_; (try simp only [Act.put, List.setIfInBounds_toArray, List.set_cons_zero, List.set_cons_succ]))
          first
          | (refine wpAnyT_skip (i := 15) rfl (by kernel_rfl) ?hw_ (fun _ _ _ h => h) (fun h_ => absurd h_ (by decide)) ?_; (case hw_ => first | (simp [Region.wanted, yielded]; done) | (simp [Region.wanted, yielded, undef, *]; done)); (try simp only [Act.put, List.setIfInBounds_toArray, List.set_cons_zero, List.set_cons_succ]))
          | (refine wpAnyT_free (i := 15) rfl (by kernel_rfl) (by first | (simp [Region.wanted, yielded]; done) | (simp [Region.wanted, yielded, undef, *]; done)) (fun _ _ _ h => h) (by kernel_rfl) (fun _ => by go_simp; try rfl) ?_; (try simp only [Act.put, List.setIfInBounds_toArray, List.set_cons_zero, List.set_cons_succ]))
          first
          | (refine wpAnyT_skip (i := 16) rfl (by kernel_rfl) ?hw_ (fun _ _ _ h => h) (fun h_ => absurd h_ (by decide)) ?_; (case hw_ => first | (simp [Region.wanted, yielded]; done) | (simp [Region.wanted, yielded, undef, *]; done)); (try simp only [Act.put, List.setIfInBounds_toArray, List.set_cons_zero, List.set_cons_succ]))
          | (refine wpAnyT_free (i := 16) rfl (by kernel_rfl) (by first | (simp [Region.wanted, yielded]; done) | (simp [Region.wanted, yielded, undef, *]; done)) (fun _ _ _ h => h) (by kernel_rfl) (fun _ => by go_simp; try rfl) ?_; (try simp only [Act.put, List.setIfInBounds_toArray, List.set_cons_zero, List.set_cons_succ]))
          first
          | (refine wpAnyT_skip (i := 17) rfl (by kernel_rfl) ?hw_ (fun _ _ _ h => h) (fun _ => ⟨p1, p2⟩) ?_; (case hw_ => first | (simp [Region.wanted, yielded]; done) | (simp [Region.wanted, yielded, undef, *]; done)); (try simp only [Act.put, List.setIfInBounds_toArray, List.set_cons_zero, List.set_cons_succ]))
          | (refine wpAnyT_read (i := 17) rfl (by kernel_rfl) (by first | (simp [Region.wanted, yielded]; done) | (simp [Region.wanted, yielded, undef, *]; done)) (fun _ _ _ h => h) (by kernel_rfl) (⟨p1, p2⟩) (fun w hS_ => by obtain ⟨s_1, s_2⟩ := hS_; go_simp; try rfl) ?_; (try simp only [Act.put, List.setIfInBounds_toArray, List.set_cons_zero, List.set_cons_succ]))
          first
          | (refine wpAnyT_skip (i := 18) rfl (by kernel_rfl) ?hw_ (fun _ _ _ h => h) (fun h_ => absurd h_ (by decide)) ?_; (case hw_ => first | (simp [Region.wanted, yielded]; done) | (simp [Region.wanted, yielded, undef, *]; done)); (try simp only [Act.put, List.setIfInBounds_toArray, List.set_cons_zero, List.set_cons_succ]))
          | (refine wpAnyT_sink (i := 18) rfl (by kernel_rfl) (by first | (simp [Region.wanted, yielded]; done) | (simp [Region.wanted, yielded, undef, *]; done)) (by kernel_rfl) ?_
             intro K_ hK_
             go_wp2_with ((go_at_call 43; refine hCr.mono ?_; rintro e w7 ⟨rfl, h7, hx7, hk7⟩; have hRe := restart_G h7 hh; unfold LiveGDid at hRe; rw [ER.out] at hRe; have hw7 := (hw6.below ((Below.refl _ w6).drew)).xk hx7 hk7))
             (try (refine hK_ _ _ ?_; clear hK_ K_))
             (try simp only [Act.put, List.setIfInBounds_toArray, List.set_cons_zero, List.set_cons_succ]))
          first
          | (refine wpAnyT_skip (i := 19) rfl (by kernel_rfl) ?hw_ (fun _ _ _ h => h) (fun h_ => absurd h_ (by decide)) ?_; (case hw_ => first | (simp [Region.wanted, yielded]; done) | (simp [Region.wanted, yielded, undef, *]; done)); (try simp only [Act.put, List.setIfInBounds_toArray, List.set_cons_zero, List.set_cons_succ]))
          | (refine wpAnyT_free (i := 19) rfl (by kernel_rfl) (by first | (simp [Region.wanted, yielded]; done) | (simp [Region.wanted, yielded, undef, *]; done)) (fun _ _ _ h => h) (by kernel_rfl) (fun _ => by go_simp; try rfl) ?_; (try simp only [Act.put, List.setIfInBounds_toArray, List.set_cons_zero, List.set_cons_succ]))
          first
          | (refine wpAnyT_skip (i := 20) rfl (by kernel_rfl) ?hw_ (fun _ _ _ h => h) (fun h_ => absurd h_ (by decide)) ?_; (case hw_ => first | (simp [Region.wanted, yielded]; done) | (simp [Region.wanted, yielded, undef, *]; done)); (try simp only [Act.put, List.setIfInBounds_toArray, List.set_cons_zero, List.set_cons_succ]))
          | (refine wpAnyT_free (i := 20) rfl (by kernel_rfl) (by first | (simp [Region.wanted, yielded]; done) | (simp [Region.wanted, yielded, undef, *]; done)) (fun _ _ _ h => h) (by kernel_rfl) (fun _ => by go_simp; try rfl) ?_; (try simp only [Act.put, List.setIfInBounds_toArray, List.set_cons_zero, List.set_cons_succ]))
          first
          | (refine wpAnyT_skip (i := 21) rfl (by kernel_rfl) ?hw_ (fun _ _ _ h => h) (fun h_ => absurd h_ (by decide)) ?_; (case hw_ => first | (simp [Region.wanted, yielded]; done) | (simp [Region.wanted, yielded, undef, *]; done)); (try simp only [Act.put, List.setIfInBounds_toArray, List.set_cons_zero, List.set_cons_succ]))
          | (refine wpAnyT_free (i := 21) rfl (by kernel_rfl) (by first | (simp [Region.wanted, yielded]; done) | (simp [Region.wanted, yielded, undef, *]; done)) (fun _ _ _ h => h) (by kernel_rfl) (fun _ => by go_simp; try rfl) ?_; (try simp only [Act.put, List.setIfInBounds_toArray, List.set_cons_zero, List.set_cons_succ]))
          first
          | (refine wpAnyT_skip (i := 22) rfl (by kernel_rfl) ?hw_ (fun _ _ _ h => h) (fun h_ => absurd h_ (by decide)) ?_; (case hw_ => first | (simp [Region.wanted, yielded]; done) | (simp [Region.wanted, yielded, undef, *]; done)); (try simp only [Act.put, List.setIfInBounds_toArray, List.set_cons_zero, List.set_cons_succ]))
          | (refine wpAnyT_sink (i := 22) rfl (by kernel_rfl) (by first | (simp [Region.wanted, yielded]; done) | (simp [Region.wanted, yielded, undef, *]; done)) (by kernel_rfl) ?_
             intro K_ hK_
             go_wp2_with ((go_at_call 44; refine hRe.mono ?_; rintro e w8 ⟨rfl, h8, hx8, hk8⟩; have hw8 := hw7.xk hx8 hk8))
             (try (refine hK_ _ _ ?_; clear hK_ K_))
             (try simp only [Act.put, List.setIfInBounds_toArray, List.set_cons_zero, List.set_cons_succ]))
          first
          | (refine wpAnyT_skip (i := 23) rfl (by kernel_rfl) ?hw_ (fun _ _ _ h => h) (fun h_ => absurd h_ (by decide)) ?_; (case hw_ => first | (simp [Region.wanted, yielded]; done) | (simp [Region.wanted, yielded, undef, *]; done)); (try simp only [Act.put, List.setIfInBounds_toArray, List.set_cons_zero, List.set_cons_succ]))
          | (refine wpAnyT_free (i := 23) rfl (by kernel_rfl) (by first | (simp [Region.wanted, yielded]; done) | (simp [Region.wanted, yielded, undef, *]; done)) (fun _ _ _ h => h) (by kernel_rfl) (fun _ => by go_simp; try rfl) ?_; (try simp only [Act.put, List.setIfInBounds_toArray, List.set_cons_zero, List.set_cons_succ]))
          first
          | (refine wpAnyT_skip (i := 24) rfl (by kernel_rfl) ?hw_ (fun _ _ _ h => h) (fun h_ => absurd h_ (by decide)) ?_; (case hw_ => first | (simp [Region.wanted, yielded]; done) | (simp [Region.wanted, yielded, undef, *]; done)); (try simp only [Act.put, List.setIfInBounds_toArray, List.set_cons_zero, List.set_cons_succ]))
          | (refine wpAnyT_free (i := 24) rfl (by kernel_rfl) (by first | (simp [Region.wanted, yielded]; done) | (simp [Region.wanted, yielded, undef, *]; done)) (fun _ _ _ h => h) (by kernel_rfl) (fun _ => by go_simp; try rfl) ?_; (try simp only [Act.put, List.setIfInBounds_toArray, List.set_cons_zero, List.set_cons_succ]))
          (refine wpAnyT_free (i := 25) rfl (by kernel_rfl) rfl (fun _ _ _ h => h) (by kernel_rfl) (fun _ => by go_simp; try rfl) ?_; (try simp only [Act.put, List.setIfInBounds_toArray, List.set_cons_zero, List.set_cons_succ]))
          refine wpAnyT_done (by kernel_rfl) ?_ _
          have h8 := h6.mono' ((Below.refl _ w6).drew)
          have hw8 := hw6.below ((Below.refl _ w6).drew)
          have hK4 := hK2
          have hAl := all_H h8 hK4.inv (by omega)
          have hlk := hK4.pre.length_le
          have HK4 := Lib.hid hK4
          clear hK4
          go_wp2_with (first
            | (go_at_call 40; refine hAl.mono ?_; rintro e w9 ⟨A3, c3, rfl, hn9, h9, hb9⟩; have hw9 := hw8.below hb9; have hcap := hn9.cap; have q1 := Int.not_lt.2 (Int.ofNat_le.2 hlk); have q2 := Int.ofNat_le.2 (Nat.le_trans hlk hcap.1); have hE := alike_take2 hn9 hw9 was.length hlk; rw [decide_eq_true (List.prefix_iff_eq_take.1 HK4.out.pre).symm] at hE; clear hAl)
            | (go_at_call 45; refine hE.mono ?_; rintro e w10 ⟨rfl, hb10⟩; have h10 := (h9.mono' hb10).sub (X' := X) (fun _ h => .inl h); have hw10 := hw9.below hb10; clear hE))
          go_roundw
          case rel => exact ⟨k + 1, _, by omega, by omega, by go_num, HK4.out.mono (by omega), h10, hw10⟩
          case measure => simp [intOf]; omega
      · have hge : ¬ (L.len : Int) < (en : Int) := by omega
        by_cases hN : 0 ≤ n
        · have hAp := append_G (hL.mono' ((Below.refl _ wr).drew)) hh (by omega) B l cb (hr.arg hbel.drew) (by omega)
          unfold LiveGApp at hAp
          rw [ea] at hAp
          clear ea
          have n0 : (0 : Int) ≤ n := hN
          obtain ⟨L3, L4, ec, er, -, hK4⟩ := hK2.fall (by omega) n fl hN
          have EC := Lib.hid ec
          have ER := Lib.hid er
          clear ec er
          go_wp2
          refine wp_region_T #[[], [], [], [], [], [], [], [], [], [], [9], [9], [4, 9], [4, 9]] [4, 9] (fun w' => w'.cell? ⟨g, o + k * 4 + 3, none⟩ = some (.slice B bb.length cb) ∧ True) 14 rfl (by kernel_rfl) ?_
          (refine wpAnyT_free (i := 0) rfl (by kernel_rfl) rfl (fun _ _ _ h => h) (by kernel_rfl) (fun _ => by go_simp; try rfl) ?_; (try simp only [Act.put, List.setIfInBounds_toArray, List.set_cons_zero, List.set_cons_succ]))
          (refine wpAnyT_free (i := 1) rfl (by kernel_rfl) rfl (fun _ _ _ h => h) (by kernel_rfl) (fun _ => by go_simp; try rfl) ?_; (try simp only [Act.put, List.setIfInBounds_toArray, List.set_cons_zero, List.set_cons_succ]))
          (refine wpAnyT_free (i := 2) rfl (by kernel_rfl) rfl (fun _ _ _ h => h) (by kernel_rfl) (fun _ => by go_simp; try rfl) ?_; (try simp only [Act.put, List.setIfInBounds_toArray, List.set_cons_zero, List.set_cons_succ]))
          (refine wpAnyT_free (i := 3) rfl (by kernel_rfl) rfl (fun _ _ _ h => h) (by kernel_rfl) (fun _ => by go_simp; try rfl) ?_; (try simp only [Act.put, List.setIfInBounds_toArray, List.set_cons_zero, List.set_cons_succ]))
          (refine wpAnyT_read (i := 4) rfl (by kernel_rfl) rfl (fun _ _ _ h => h) (by kernel_rfl) (⟨f3, trivial⟩) (fun w hS_ => by obtain ⟨s_1, s_2⟩ := hS_; go_simp; try rfl) ?_; (try simp only [Act.put, List.setIfInBounds_toArray, List.set_cons_zero, List.set_cons_succ]))
          (refine wpAnyT_free (i := 5) rfl (by kernel_rfl) rfl (fun _ _ _ h => h) (by kernel_rfl) (fun _ => by go_simp; try rfl) ?_; (try simp only [Act.put, List.setIfInBounds_toArray, List.set_cons_zero, List.set_cons_succ]))
          (refine wpAnyT_free (i := 6) rfl (by kernel_rfl) rfl (fun _ _ _ h => h) (by kernel_rfl) (fun _ => by go_simp; try rfl) ?_; (try simp only [Act.put, List.setIfInBounds_toArray, List.set_cons_zero, List.set_cons_succ]))
          (refine wpAnyT_free (i := 7) rfl (by kernel_rfl) rfl (fun _ _ _ h => h) (by kernel_rfl) (fun _ => by go_simp; try rfl) ?_; (try simp only [Act.put, List.setIfInBounds_toArray, List.set_cons_zero, List.set_cons_succ]))
          (refine wpAnyT_free (i := 8) rfl (by kernel_rfl) rfl (fun _ _ _ h => h) (by kernel_rfl) (fun _ => by go_simp; try rfl) ?_; (try simp only [Act.put, List.setIfInBounds_toArray, List.set_cons_zero, List.set_cons_succ]))
          (refine wpAnyT_read (i := 9) rfl (by kernel_rfl) rfl (fun _ _ _ h => h) (by kernel_rfl) (⟨f3, trivial⟩) (fun w hS_ => by obtain ⟨s_1, s_2⟩ := hS_; go_simp; try rfl) ?_; (try simp only [Act.put, List.setIfInBounds_toArray, List.set_cons_zero, List.set_cons_succ]))
          (refine wpAnyT_free (i := 10) rfl (by kernel_rfl) rfl (fun _ _ _ h => h) (by kernel_rfl) (fun _ => by go_simp; try rfl) ?_; (try simp only [Act.put, List.setIfInBounds_toArray, List.set_cons_zero, List.set_cons_succ]))
          (refine wpAnyT_free (i := 11) rfl (by kernel_rfl) rfl (fun _ _ _ h => h) (by kernel_rfl) (fun _ => by go_simp; try rfl) ?_; (try simp only [Act.put, List.setIfInBounds_toArray, List.set_cons_zero, List.set_cons_succ]))
          (refine wpAnyT_free (i := 12) rfl (by kernel_rfl) rfl (fun _ _ _ h => h) (by kernel_rfl) (fun _ => by go_simp; try rfl) ?_; (try simp only [Act.put, List.setIfInBounds_toArray, List.set_cons_zero, List.set_cons_succ]))
          (refine wpAnyT_free (i := 13) rfl (by kernel_rfl) rfl (fun _ _ _ h => h) (by kernel_rfl) (fun _ => by go_simp; try rfl) ?_; (try simp only [Act.put, List.setIfInBounds_toArray, List.set_cons_zero, List.set_cons_succ]))
          refine wpAnyT_done (by kernel_rfl) ?_ _
          go_wp2_with (go_at_call 35; refine hAp.mono ?_; rintro e w6 ⟨rfl, h6, hx6, hk6⟩; have hw6 := (hw.below ((Below.refl _ wr).drew)).xk hx6 hk6; clear hAp)
          have p1 : w6.cell? ⟨g, o + k * 4 + 1, none⟩ = some (.int .i64 n) := (h6.below.cell (p := ⟨g, o + k * 4 + 1, none⟩) hg).trans e1
          have p2 : w6.cell? ⟨g, o + k * 4 + 2, none⟩ = some (.int .i64 fl) := (h6.below.cell (p := ⟨g, o + k * 4 + 2, none⟩) hg).trans e2
          have hCr := crash_G (h6.mono' ((Below.refl _ w6).drew)) n fl inn.2 ifl.2 inn.1 ifl.1
          unfold LiveGDid at hCr
          rw [EC.out] at hCr
          refine wp_region_T #[[], [], [], [], [], [4], [4], [4], [4], [4], [4], [4], [4], [4], [4], [4], [4], [4], [4, 12, 17], [4, 12, 17], [4, 12, 17], [4, 12, 17], [4, 12, 17], [4, 12, 17], [4, 12, 17], [4, 12, 17]] [4, 12, 17] (fun w' => w'.cell? ⟨g, o + k * 4 + 1, none⟩ = some (.int .i64 n) ∧ w'.cell? ⟨g, o + k * 4 + 2, none⟩ = some (.int .i64 fl)) 26 rfl (by kernel_rfl) ?_
          (refine wpAnyT_free (i := 0) rfl (by kernel_rfl) rfl (fun _ _ _ h => h) (by kernel_rfl) (fun _ => by go_simp; try rfl) ?_; (try simp only [Act.put, List.setIfInBounds_toArray, List.set_cons_zero, List.set_cons_succ]))
          (refine wpAnyT_free (i := 1) rfl (by kernel_rfl) rfl (fun _ _ _ h => h) (by kernel_rfl) (fun _ => by go_simp; try rfl) ?_; (try simp only [Act.put, List.setIfInBounds_toArray, List.set_cons_zero, List.set_cons_succ]))
          (refine wpAnyT_free (i := 2) rfl (by kernel_rfl) rfl (fun _ _ _ h => h) (by kernel_rfl) (fun _ => by go_simp; try rfl) ?_; (try simp only [Act.put, List.setIfInBounds_toArray, List.set_cons_zero, List.set_cons_succ]))
          (refine wpAnyT_free (i := 3) rfl (by kernel_rfl) rfl (fun _ _ _ h => h) (by kernel_rfl) (fun _ => by go_simp; try rfl) ?_; (try simp only [Act.put, List.setIfInBounds_toArray, List.set_cons_zero, List.set_cons_succ]))
          (refine wpAnyT_read (i := 4) rfl (by kernel_rfl) rfl (fun _ _ _ h => h) (by kernel_rfl) (⟨p1, p2⟩) (fun w hS_ => by obtain ⟨s_1, s_2⟩ := hS_; go_simp; try rfl) ?_; (try simp only [Act.put, List.setIfInBounds_toArray, List.set_cons_zero, List.set_cons_succ]))
          (refine wpAnyT_free (i := 5) rfl (by kernel_rfl) rfl (fun _ _ _ h => h) (by kernel_rfl) (fun _ => by go_simp; try rfl) ?_; (try simp only [Act.put, List.setIfInBounds_toArray, List.set_cons_zero, List.set_cons_succ]))
          (refine wpAnyT_free (i := 6) rfl (by kernel_rfl) rfl (fun _ _ _ h => h) (by kernel_rfl) (fun _ => by go_simp; try rfl) ?_; (try simp only [Act.put, List.setIfInBounds_toArray, List.set_cons_zero, List.set_cons_succ]))
          first
          | (refine wpAnyT_skip (i := 7) rfl (by kernel_rfl) ?hw_ (fun _ _ _ h => h) (fun h_ => absurd h_ (by decide)) ?_; (case hw_ => first | (simp [Region.wanted, yielded]; done) | (simp [Region.wanted, yielded, undef, *]; done)); (try simp only [Act.put, List.setIfInBounds_toArray, List.set_cons_zero, List.set_cons_succ]))
          | (refine wpAnyT_free (i := 7) rfl (by kernel_rfl) (by first | (simp [Region.wanted, yielded]; done) | (simp [Region.wanted, yielded, undef, *]; done)) (fun _ _ _ h => h) (by kernel_rfl) (fun _ => by go_simp; try rfl) ?_; (try simp only [Act.put, List.setIfInBounds_toArray, List.set_cons_zero, List.set_cons_succ]))
          first
          | (refine wpAnyT_skip (i := 8) rfl (by kernel_rfl) ?hw_ (fun _ _ _ h => h) (fun h_ => absurd h_ (by decide)) ?_; (case hw_ => first | (simp [Region.wanted, yielded]; done) | (simp [Region.wanted, yielded, undef, *]; done)); (try simp only [Act.put, List.setIfInBounds_toArray, List.set_cons_zero, List.set_cons_succ]))
          | (refine wpAnyT_free (i := 8) rfl (by kernel_rfl) (by first | (simp [Region.wanted, yielded]; done) | (simp [Region.wanted, yielded, undef, *]; done)) (fun _ _ _ h => h) (by kernel_rfl) (fun _ => by go_simp; try rfl) ?_; (try simp only [Act.put, List.setIfInBounds_toArray, List.set_cons_zero, List.set_cons_succ]))
          first
          | (refine wpAnyT_skip (i := 9) rfl (by kernel_rfl) ?hw_ (fun _ _ _ h => h) (fun h_ => absurd h_ (by decide)) ?_; (case hw_ => first | (simp [Region.wanted, yielded]; done) | (simp [Region.wanted, yielded, undef, *]; done)); (try simp only [Act.put, List.setIfInBounds_toArray, List.set_cons_zero, List.set_cons_succ]))
          | (refine wpAnyT_free (i := 9) rfl (by kernel_rfl) (by first | (simp [Region.wanted, yielded]; done) | (simp [Region.wanted, yielded, undef, *]; done)) (fun _ _ _ h => h) (by kernel_rfl) (fun _ => by go_simp; try rfl) ?_; (try simp only [Act.put, List.setIfInBounds_toArray, List.set_cons_zero, List.set_cons_succ]))
          first
          | (refine wpAnyT_skip (i := 10) rfl (by kernel_rfl) ?hw_ (fun _ _ _ h => h) (fun h_ => absurd h_ (by decide)) ?_; (case hw_ => first | (simp [Region.wanted, yielded]; done) | (simp [Region.wanted, yielded, undef, *]; done)); (try simp only [Act.put, List.setIfInBounds_toArray, List.set_cons_zero, List.set_cons_succ]))
          | (refine wpAnyT_free (i := 10) rfl (by kernel_rfl) (by first | (simp [Region.wanted, yielded]; done) | (simp [Region.wanted, yielded, undef, *]; done)) (fun _ _ _ h => h) (by kernel_rfl) (fun _ => by go_simp; try rfl) ?_; (try simp only [Act.put, List.setIfInBounds_toArray, List.set_cons_zero, List.set_cons_succ]))
          first
          | (refine wpAnyT_skip (i := 11) rfl (by kernel_rfl) ?hw_ (fun _ _ _ h => h) (fun h_ => absurd h_ (by decide)) ?_; (case hw_ => first | (simp [Region.wanted, yielded]; done) | (simp [Region.wanted, yielded, undef, *]; done)); (try simp only [Act.put, List.setIfInBounds_toArray, List.set_cons_zero, List.set_cons_succ]))
          | (refine wpAnyT_free (i := 11) rfl (by kernel_rfl) (by first | (simp [Region.wanted, yielded]; done) | (simp [Region.wanted, yielded, undef, *]; done)) (fun _ _ _ h => h) (by kernel_rfl) (fun _ => by go_simp; try rfl) ?_; (try simp only [Act.put, List.setIfInBounds_toArray, List.set_cons_zero, List.set_cons_succ]))
          first
          | (refine wpAnyT_skip (i := 12) rfl (by kernel_rfl) ?hw_ (fun _ _ _ h => h) (fun _ => ⟨p1, p2⟩) ?_; (case hw_ => first | (simp [Region.wanted, yielded]; done) | (simp [Region.wanted, yielded, undef, *]; done)); (try simp only [Act.put, List.setIfInBounds_toArray, List.set_cons_zero, List.set_cons_succ]))
          | (refine wpAnyT_read (i := 12) rfl (by kernel_rfl) (by first | (simp [Region.wanted, yielded]; done) | (simp [Region.wanted, yielded, undef, *]; done)) (fun _ _ _ h => h) (by kernel_rfl) (⟨p1, p2⟩) (fun w hS_ => by obtain ⟨s_1, s_2⟩ := hS_; go_simp; try rfl) ?_; (try simp only [Act.put, List.setIfInBounds_toArray, List.set_cons_zero, List.set_cons_succ]))
          first
          | (refine wpAnyT_skip (i := 13) rfl (by kernel_rfl) ?hw_ (fun _ _ _ h => h) (fun h_ => absurd h_ (by decide)) ?_; (case hw_ => first | (simp [Region.wanted, yielded]; done) | (simp [Region.wanted, yielded, undef, *]; done)); (try simp only [Act.put, List.setIfInBounds_toArray, List.set_cons_zero, List.set_cons_succ]))
          | (refine wpAnyT_free (i := 13) rfl (by kernel_rfl) (by first | (simp [Region.wanted, yielded]; done) | (simp [Region.wanted, yielded, undef, *]; done)) (fun _ _ _ h => h) (by kernel_rfl) (fun _ => by go_simp; try rfl) ?_; (try simp only [Act.put, List.setIfInBounds_toArray, List.set_cons_zero, List.set_cons_succ]))
          first
          | (refine wpAnyT_skip (i := 14) rfl (by kernel_rfl) ?hw_ (fun _ _ _ h => h) (fun h_ => absurd h_ (by decide)) ?_; (case hw_ => first | (simp [Region.wanted, yielded]; done) | (simp [Region.wanted, yielded, undef, *]; done)); (try simp only [Act.put, List.setIfInBounds_toArray, List.set_cons_zero, List.set_cons_succ]))
          | (refine wpAnyT_free (i := 14) rfl (by kernel_rfl) (by first | (simp [Region.wanted, yielded]; done) | (simp [Region.wanted, yielded, undef, *]; done)) (fun _ _ _ h => h) (by kernel_rfl) (fun _ => by go_simp; try rfl) ?_; (try simp only [Act.put, List.setIfInBounds_toArray, List.set_cons_zero, List.set_cons_succ]))
          first
          | (refine wpAnyT_skip (i := 15) rfl (by kernel_rfl) ?hw_ (fun _ _ _ h => h) (fun h_ => absurd h_ (by decide)) ?_; (case hw_ => first | (simp [Region.wanted, yielded]; done) | (simp [Region.wanted, yielded, undef, *]; done)); (try simp only [Act.put, List.setIfInBounds_toArray, List.set_cons_zero, List.set_cons_succ]))
          | (refine wpAnyT_free (i := 15) rfl (by kernel_rfl) (by first | (simp [Region.wanted, yielded]; done) | (simp [Region.wanted, yielded, undef, *]; done)) (fun _ _ _ h => h) (by kernel_rfl) (fun _ => by go_simp; try rfl) ?_; (try simp only [Act.put, List.setIfInBounds_toArray, List.set_cons_zero, List.set_cons_succ]))
          first
          | (refine wpAnyT_skip (i := 16) rfl (by kernel_rfl) ?hw_ (fun _ _ _ h => h) (fun h_ => absurd h_ (by decide)) ?_; (case hw_ => first | (simp [Region.wanted, yielded]; done) | (simp [Region.wanted, yielded, undef, *]; done)); (try simp only [Act.put, List.setIfInBounds_toArray, List.set_cons_zero, List.set_cons_succ]))
          | (refine wpAnyT_free (i := 16) rfl (by kernel_rfl) (by first | (simp [Region.wanted, yielded]; done) | (simp [Region.wanted, yielded, undef, *]; done)) (fun _ _ _ h => h) (by kernel_rfl) (fun _ => by go_simp; try rfl) ?_; (try simp only [Act.put, List.setIfInBounds_toArray, List.set_cons_zero, List.set_cons_succ]))
          first
          | (refine wpAnyT_skip (i := 17) rfl (by kernel_rfl) ?hw_ (fun _ _ _ h => h) (fun _ => ⟨p1, p2⟩) ?_; (case hw_ => first | (simp [Region.wanted, yielded]; done) | (simp [Region.wanted, yielded, undef, *]; done)); (try simp only [Act.put, List.setIfInBounds_toArray, List.set_cons_zero, List.set_cons_succ]))
          | (refine wpAnyT_read (i := 17) rfl (by kernel_rfl) (by first | (simp [Region.wanted, yielded]; done) | (simp [Region.wanted, yielded, undef, *]; done)) (fun _ _ _ h => h) (by kernel_rfl) (⟨p1, p2⟩) (fun w hS_ => by obtain ⟨s_1, s_2⟩ := hS_; go_simp; try rfl) ?_; (try simp only [Act.put, List.setIfInBounds_toArray, List.set_cons_zero, List.set_cons_succ]))
          first
          | (refine wpAnyT_skip (i := 18) rfl (by kernel_rfl) ?hw_ (fun _ _ _ h => h) (fun h_ => absurd h_ (by decide)) ?_; (case hw_ => first | (simp [Region.wanted, yielded]; done) | (simp [Region.wanted, yielded, undef, *]; done)); (try simp only [Act.put, List.setIfInBounds_toArray, List.set_cons_zero, List.set_cons_succ]))
          | (refine wpAnyT_sink (i := 18) rfl (by kernel_rfl) (by first | (simp [Region.wanted, yielded]; done) | (simp [Region.wanted, yielded, undef, *]; done)) (by kernel_rfl) ?_
             intro K_ hK_
             go_wp2_with ((go_at_call 43; refine hCr.mono ?_; rintro e w7 ⟨rfl, h7, hx7, hk7⟩; have hRe := restart_G h7 hh; unfold LiveGDid at hRe; rw [ER.out] at hRe; have hw7 := (hw6.below ((Below.refl _ w6).drew)).xk hx7 hk7))
             (try (refine hK_ _ _ ?_; clear hK_ K_))
             (try simp only [Act.put, List.setIfInBounds_toArray, List.set_cons_zero, List.set_cons_succ]))
          first
          | (refine wpAnyT_skip (i := 19) rfl (by kernel_rfl) ?hw_ (fun _ _ _ h => h) (fun h_ => absurd h_ (by decide)) ?_; (case hw_ => first | (simp [Region.wanted, yielded]; done) | (simp [Region.wanted, yielded, undef, *]; done)); (try simp only [Act.put, List.setIfInBounds_toArray, List.set_cons_zero, List.set_cons_succ]))
          | (refine wpAnyT_free (i := 19) rfl (by kernel_rfl) (by first | (simp [Region.wanted, yielded]; done) | (simp [Region.wanted, yielded, undef, *]; done)) (fun _ _ _ h => h) (by kernel_rfl) (fun _ => by go_simp; try rfl) ?_; (try simp only [Act.put, List.setIfInBounds_toArray, List.set_cons_zero, List.set_cons_succ]))
          first
          | (refine wpAnyT_skip (i := 20) rfl (by kernel_rfl) ?hw_ (fun _ _ _ h => h) (fun h_ => absurd h_ (by decide)) ?_; (case hw_ => first | (simp [Region.wanted, yielded]; done) | (simp [Region.wanted, yielded, undef, *]; done)); (try simp only [Act.put, List.setIfInBounds_toArray, List.set_cons_zero, List.set_cons_succ]))
          | (refine wpAnyT_free (i := 20) rfl (by kernel_rfl) (by first | (simp [Region.wanted, yielded]; done) | (simp [Region.wanted, yielded, undef, *]; done)) (fun _ _ _ h => h) (by kernel_rfl) (fun _ => by go_simp; try rfl) ?_; (try simp only [Act.put, List.setIfInBounds_toArray, List.set_cons_zero, List.set_cons_succ]))
          first
          | (refine wpAnyT_skip (i := 21) rfl (by kernel_rfl) ?hw_ (fun _ _ _ h => h) (fun h_ => absurd h_ (by decide)) ?_; (case hw_ => first | (simp [Region.wanted, yielded]; done) | (simp [Region.wanted, yielded, undef, *]; done)); (try simp only [Act.put, List.setIfInBounds_toArray, List.set_cons_zero, List.set_cons_succ]))
          | (refine wpAnyT_free (i := 21) rfl (by kernel_rfl) (by first | (simp [Region.wanted, yielded]; done) | (simp [Region.wanted, yielded, undef, *]; done)) (fun _ _ _ h => h) (by kernel_rfl) (fun _ => by go_simp; try rfl) ?_; (try simp only [Act.put, List.setIfInBounds_toArray, List.set_cons_zero, List.set_cons_succ]))
          first
          | (refine wpAnyT_skip (i := 22) rfl (by kernel_rfl) ?hw_ (fun _ _ _ h => h) (fun h_ => absurd h_ (by decide)) ?_; (case hw_ => first | (simp [Region.wanted, yielded]; done) | (simp [Region.wanted, yielded, undef, *]; done)); (try simp only [Act.put, List.setIfInBounds_toArray, List.set_cons_zero, List.set_cons_succ]))
          | (refine wpAnyT_sink (i := 22) rfl (by kernel_rfl) (by first | (simp [Region.wanted, yielded]; done) | (simp [Region.wanted, yielded, undef, *]; done)) (by kernel_rfl) ?_
             intro K_ hK_
             go_wp2_with ((go_at_call 44; refine hRe.mono ?_; rintro e w8 ⟨rfl, h8, hx8, hk8⟩; have hw8 := hw7.xk hx8 hk8))
             (try (refine hK_ _ _ ?_; clear hK_ K_))
             (try simp only [Act.put, List.setIfInBounds_toArray, List.set_cons_zero, List.set_cons_succ]))
          first
          | (refine wpAnyT_skip (i := 23) rfl (by kernel_rfl) ?hw_ (fun _ _ _ h => h) (fun h_ => absurd h_ (by decide)) ?_; (case hw_ => first | (simp [Region.wanted, yielded]; done) | (simp [Region.wanted, yielded, undef, *]; done)); (try simp only [Act.put, List.setIfInBounds_toArray, List.set_cons_zero, List.set_cons_succ]))
          | (refine wpAnyT_free (i := 23) rfl (by kernel_rfl) (by first | (simp [Region.wanted, yielded]; done) | (simp [Region.wanted, yielded, undef, *]; done)) (fun _ _ _ h => h) (by kernel_rfl) (fun _ => by go_simp; try rfl) ?_; (try simp only [Act.put, List.setIfInBounds_toArray, List.set_cons_zero, List.set_cons_succ]))
          first
          | (refine wpAnyT_skip (i := 24) rfl (by kernel_rfl) ?hw_ (fun _ _ _ h => h) (fun h_ => absurd h_ (by decide)) ?_; (case hw_ => first | (simp [Region.wanted, yielded]; done) | (simp [Region.wanted, yielded, undef, *]; done)); (try simp only [Act.put, List.setIfInBounds_toArray, List.set_cons_zero, List.set_cons_succ]))
          | (refine wpAnyT_free (i := 24) rfl (by kernel_rfl) (by first | (simp [Region.wanted, yielded]; done) | (simp [Region.wanted, yielded, undef, *]; done)) (fun _ _ _ h => h) (by kernel_rfl) (fun _ => by go_simp; try rfl) ?_; (try simp only [Act.put, List.setIfInBounds_toArray, List.set_cons_zero, List.set_cons_succ]))
          (refine wpAnyT_free (i := 25) rfl (by kernel_rfl) rfl (fun _ _ _ h => h) (by kernel_rfl) (fun _ => by go_simp; try rfl) ?_; (try simp only [Act.put, List.setIfInBounds_toArray, List.set_cons_zero, List.set_cons_succ]))
          refine wpAnyT_done (by kernel_rfl) ?_ _
          have hAl := all_H h8 hK4.inv (by omega)
          have hlk := hK4.pre.length_le
          have HK4 := Lib.hid hK4
          clear hK4
          go_wp2_with (first
            | (go_at_call 40; refine hAl.mono ?_; rintro e w9 ⟨A3, c3, rfl, hn9, h9, hb9⟩; have hw9 := hw8.below hb9; have hcap := hn9.cap; have q1 := Int.not_lt.2 (Int.ofNat_le.2 hlk); have q2 := Int.ofNat_le.2 (Nat.le_trans hlk hcap.1); have hE := alike_take2 hn9 hw9 was.length hlk; rw [decide_eq_true (List.prefix_iff_eq_take.1 HK4.out.pre).symm] at hE; clear hAl)
            | (go_at_call 45; refine hE.mono ?_; rintro e w10 ⟨rfl, hb10⟩; have h10 := (h9.mono' hb10).sub (X' := X) (fun _ h => .inl h); have hw10 := hw9.below hb10; clear hE))
          go_roundw
          case rel => exact ⟨k + 1, _, by omega, by omega, by go_num, HK4.out.mono (by omega), h10, hw10⟩
          case measure => simp [intOf]; omega
        · have hAp := append_G (hL.mono' ((Below.refl _ wr).drew)) hh (by omega) B l cb (hr.arg hbel.drew) (by omega)
          unfold LiveGApp at hAp
          rw [ea] at hAp
          clear ea
          have n0 : ¬ (0 : Int) ≤ n := hN
          go_wp2
          refine wp_region_T #[[], [], [], [], [], [], [], [], [], [], [9], [9], [4, 9], [4, 9]] [4, 9] (fun w' => w'.cell? ⟨g, o + k * 4 + 3, none⟩ = some (.slice B bb.length cb) ∧ True) 14 rfl (by kernel_rfl) ?_
          (refine wpAnyT_free (i := 0) rfl (by kernel_rfl) rfl (fun _ _ _ h => h) (by kernel_rfl) (fun _ => by go_simp; try rfl) ?_; (try simp only [Act.put, List.setIfInBounds_toArray, List.set_cons_zero, List.set_cons_succ]))
          (refine wpAnyT_free (i := 1) rfl (by kernel_rfl) rfl (fun _ _ _ h => h) (by kernel_rfl) (fun _ => by go_simp; try rfl) ?_; (try simp only [Act.put, List.setIfInBounds_toArray, List.set_cons_zero, List.set_cons_succ]))
          (refine wpAnyT_free (i := 2) rfl (by kernel_rfl) rfl (fun _ _ _ h => h) (by kernel_rfl) (fun _ => by go_simp; try rfl) ?_; (try simp only [Act.put, List.setIfInBounds_toArray, List.set_cons_zero, List.set_cons_succ]))
          (refine wpAnyT_free (i := 3) rfl (by kernel_rfl) rfl (fun _ _ _ h => h) (by kernel_rfl) (fun _ => by go_simp; try rfl) ?_; (try simp only [Act.put, List.setIfInBounds_toArray, List.set_cons_zero, List.set_cons_succ]))
          (refine wpAnyT_read (i := 4) rfl (by kernel_rfl) rfl (fun _ _ _ h => h) (by kernel_rfl) (⟨f3, trivial⟩) (fun w hS_ => by obtain ⟨s_1, s_2⟩ := hS_; go_simp; try rfl) ?_; (try simp only [Act.put, List.setIfInBounds_toArray, List.set_cons_zero, List.set_cons_succ]))
          (refine wpAnyT_free (i := 5) rfl (by kernel_rfl) rfl (fun _ _ _ h => h) (by kernel_rfl) (fun _ => by go_simp; try rfl) ?_; (try simp only [Act.put, List.setIfInBounds_toArray, List.set_cons_zero, List.set_cons_succ]))
          (refine wpAnyT_free (i := 6) rfl (by kernel_rfl) rfl (fun _ _ _ h => h) (by kernel_rfl) (fun _ => by go_simp; try rfl) ?_; (try simp only [Act.put, List.setIfInBounds_toArray, List.set_cons_zero, List.set_cons_succ]))
          (refine wpAnyT_free (i := 7) rfl (by kernel_rfl) rfl (fun _ _ _ h => h) (by kernel_rfl) (fun _ => by go_simp; try rfl) ?_; (try simp only [Act.put, List.setIfInBounds_toArray, List.set_cons_zero, List.set_cons_succ]))
          (refine wpAnyT_free (i := 8) rfl (by kernel_rfl) rfl (fun _ _ _ h => h) (by kernel_rfl) (fun _ => by go_simp; try rfl) ?_; (try simp only [Act.put, List.setIfInBounds_toArray, List.set_cons_zero, List.set_cons_succ]))
          (refine wpAnyT_read (i := 9) rfl (by kernel_rfl) rfl (fun _ _ _ h => h) (by kernel_rfl) (⟨f3, trivial⟩) (fun w hS_ => by obtain ⟨s_1, s_2⟩ := hS_; go_simp; try rfl) ?_; (try simp only [Act.put, List.setIfInBounds_toArray, List.set_cons_zero, List.set_cons_succ]))
          (refine wpAnyT_free (i := 10) rfl (by kernel_rfl) rfl (fun _ _ _ h => h) (by kernel_rfl) (fun _ => by go_simp; try rfl) ?_; (try simp only [Act.put, List.setIfInBounds_toArray, List.set_cons_zero, List.set_cons_succ]))
          (refine wpAnyT_free (i := 11) rfl (by kernel_rfl) rfl (fun _ _ _ h => h) (by kernel_rfl) (fun _ => by go_simp; try rfl) ?_; (try simp only [Act.put, List.setIfInBounds_toArray, List.set_cons_zero, List.set_cons_succ]))
          (refine wpAnyT_free (i := 12) rfl (by kernel_rfl) rfl (fun _ _ _ h => h) (by kernel_rfl) (fun _ => by go_simp; try rfl) ?_; (try simp only [Act.put, List.setIfInBounds_toArray, List.set_cons_zero, List.set_cons_succ]))
          (refine wpAnyT_free (i := 13) rfl (by kernel_rfl) rfl (fun _ _ _ h => h) (by kernel_rfl) (fun _ => by go_simp; try rfl) ?_; (try simp only [Act.put, List.setIfInBounds_toArray, List.set_cons_zero, List.set_cons_succ]))
          refine wpAnyT_done (by kernel_rfl) ?_ _
          go_wp2_with (go_at_call 35; refine hAp.mono ?_; rintro e w6 ⟨rfl, h6, hx6, hk6⟩; have hw6 := (hw.below ((Below.refl _ wr).drew)).xk hx6 hk6; clear hAp)
          have p1 : w6.cell? ⟨g, o + k * 4 + 1, none⟩ = some (.int .i64 n) := (h6.below.cell (p := ⟨g, o + k * 4 + 1, none⟩) hg).trans e1
          have p2 : w6.cell? ⟨g, o + k * 4 + 2, none⟩ = some (.int .i64 fl) := (h6.below.cell (p := ⟨g, o + k * 4 + 2, none⟩) hg).trans e2
          refine wp_region_T #[[], [], [], [], [], [4], [4], [4], [4], [4], [4], [4], [4], [4], [4], [4], [4], [4], [4, 12, 17], [4, 12, 17], [4, 12, 17], [4, 12, 17], [4, 12, 17], [4, 12, 17], [4, 12, 17], [4, 12, 17]] [4, 12, 17] (fun w' => w'.cell? ⟨g, o + k * 4 + 1, none⟩ = some (.int .i64 n) ∧ w'.cell? ⟨g, o + k * 4 + 2, none⟩ = some (.int .i64 fl)) 26 rfl (by kernel_rfl) ?_
          (refine wpAnyT_free (i := 0) rfl (by kernel_rfl) rfl (fun _ _ _ h => h) (by kernel_rfl) (fun _ => by go_simp; try rfl) ?_; (try simp only [Act.put, List.setIfInBounds_toArray, List.set_cons_zero, List.set_cons_succ]))
          (refine wpAnyT_free (i := 1) rfl (by kernel_rfl) rfl (fun _ _ _ h => h) (by kernel_rfl) (fun _ => by go_simp; try rfl) ?_; (try simp only [Act.put, List.setIfInBounds_toArray, List.set_cons_zero, List.set_cons_succ]))
          (refine wpAnyT_free (i := 2) rfl (by kernel_rfl) rfl (fun _ _ _ h => h) (by kernel_rfl) (fun _ => by go_simp; try rfl) ?_; (try simp only [Act.put, List.setIfInBounds_toArray, List.set_cons_zero, List.set_cons_succ]))
          (refine wpAnyT_free (i := 3) rfl (by kernel_rfl) rfl (fun _ _ _ h => h) (by kernel_rfl) (fun _ => by go_simp; try rfl) ?_; (try simp only [Act.put, List.setIfInBounds_toArray, List.set_cons_zero, List.set_cons_succ]))
          (refine wpAnyT_read (i := 4) rfl (by kernel_rfl) rfl (fun _ _ _ h => h) (by kernel_rfl) (⟨p1, p2⟩) (fun w hS_ => by obtain ⟨s_1, s_2⟩ := hS_; go_simp; try rfl) ?_; (try simp only [Act.put, List.setIfInBounds_toArray, List.set_cons_zero, List.set_cons_succ]))
          (refine wpAnyT_free (i := 5) rfl (by kernel_rfl) rfl (fun _ _ _ h => h) (by kernel_rfl) (fun _ => by go_simp; try rfl) ?_; (try simp only [Act.put, List.setIfInBounds_toArray, List.set_cons_zero, List.set_cons_succ]))
          (refine wpAnyT_free (i := 6) rfl (by kernel_rfl) rfl (fun _ _ _ h => h) (by kernel_rfl) (fun _ => by go_simp; try rfl) ?_; (try simp only [Act.put, List.setIfInBounds_toArray, List.set_cons_zero, List.set_cons_succ]))
          first
          | (refine wpAnyT_skip (i := 7) rfl (by kernel_rfl) ?hw_ (fun _ _ _ h => h) (fun h_ => absurd h_ (by decide)) ?_; (case hw_ => first | (simp [Region.wanted, yielded]; done) | (simp [Region.wanted, yielded, undef, *]; done)); (try simp only [Act.put, List.setIfInBounds_toArray, List.set_cons_zero, List.set_cons_succ]))
          | (refine wpAnyT_free (i := 7) rfl (by kernel_rfl) (by first | (simp [Region.wanted, yielded]; done) | (simp [Region.wanted, yielded, undef, *]; done)) (fun _ _ _ h => h) (by kernel_rfl) (fun _ => by go_simp; try rfl) ?_; (try simp only [Act.put, List.setIfInBounds_toArray, List.set_cons_zero, List.set_cons_succ]))
          first
          | (refine wpAnyT_skip (i := 8) rfl (by kernel_rfl) ?hw_ (fun _ _ _ h => h) (fun h_ => absurd h_ (by decide)) ?_; (case hw_ => first | (simp [Region.wanted, yielded]; done) | (simp [Region.wanted, yielded, undef, *]; done)); (try simp only [Act.put, List.setIfInBounds_toArray, List.set_cons_zero, List.set_cons_succ]))
          | (refine wpAnyT_free (i := 8) rfl (by kernel_rfl) (by first | (simp [Region.wanted, yielded]; done) | (simp [Region.wanted, yielded, undef, *]; done)) (fun _ _ _ h => h) (by kernel_rfl) (fun _ => by go_simp; try rfl) ?_; (try simp only [Act.put, List.setIfInBounds_toArray, List.set_cons_zero, List.set_cons_succ]))
          first
          | (refine wpAnyT_skip (i := 9) rfl (by kernel_rfl) ?hw_ (fun _ _ _ h => h) (fun h_ => absurd h_ (by decide)) ?_; (case hw_ => first | (simp [Region.wanted, yielded]; done) | (simp [Region.wanted, yielded, undef, *]; done)); (try simp only [Act.put, List.setIfInBounds_toArray, List.set_cons_zero, List.set_cons_succ]))
          | (refine wpAnyT_free (i := 9) rfl (by kernel_rfl) (by first | (simp [Region.wanted, yielded]; done) | (simp [Region.wanted, yielded, undef, *]; done)) (fun _ _ _ h => h) (by kernel_rfl) (fun _ => by go_simp; try rfl) ?_; (try simp only [Act.put, List.setIfInBounds_toArray, List.set_cons_zero, List.set_cons_succ]))
          first
          | (refine wpAnyT_skip (i := 10) rfl (by kernel_rfl) ?hw_ (fun _ _ _ h => h) (fun h_ => absurd h_ (by decide)) ?_; (case hw_ => first | (simp [Region.wanted, yielded]; done) | (simp [Region.wanted, yielded, undef, *]; done)); (try simp only [Act.put, List.setIfInBounds_toArray, List.set_cons_zero, List.set_cons_succ]))
          | (refine wpAnyT_free (i := 10) rfl (by kernel_rfl) (by first | (simp [Region.wanted, yielded]; done) | (simp [Region.wanted, yielded, undef, *]; done)) (fun _ _ _ h => h) (by kernel_rfl) (fun _ => by go_simp; try rfl) ?_; (try simp only [Act.put, List.setIfInBounds_toArray, List.set_cons_zero, List.set_cons_succ]))
          first
          | (refine wpAnyT_skip (i := 11) rfl (by kernel_rfl) ?hw_ (fun _ _ _ h => h) (fun h_ => absurd h_ (by decide)) ?_; (case hw_ => first | (simp [Region.wanted, yielded]; done) | (simp [Region.wanted, yielded, undef, *]; done)); (try simp only [Act.put, List.setIfInBounds_toArray, List.set_cons_zero, List.set_cons_succ]))
          | (refine wpAnyT_free (i := 11) rfl (by kernel_rfl) (by first | (simp [Region.wanted, yielded]; done) | (simp [Region.wanted, yielded, undef, *]; done)) (fun _ _ _ h => h) (by kernel_rfl) (fun _ => by go_simp; try rfl) ?_; (try simp only [Act.put, List.setIfInBounds_toArray, List.set_cons_zero, List.set_cons_succ]))
          first
          | (refine wpAnyT_skip (i := 12) rfl (by kernel_rfl) ?hw_ (fun _ _ _ h => h) (fun _ => ⟨p1, p2⟩) ?_; (case hw_ => first | (simp [Region.wanted, yielded]; done) | (simp [Region.wanted, yielded, undef, *]; done)); (try simp only [Act.put, List.setIfInBounds_toArray, List.set_cons_zero, List.set_cons_succ]))
          | (refine wpAnyT_read (i := 12) rfl (by kernel_rfl) (by first | (simp [Region.wanted, yielded]; done) | (simp [Region.wanted, yielded, undef, *]; done)) (fun _ _ _ h => h) (by kernel_rfl) (⟨p1, p2⟩) (fun w hS_ => by obtain ⟨s_1, s_2⟩ := hS_; go_simp; try rfl) ?_; (try simp only [Act.put, List.setIfInBounds_toArray, List.set_cons_zero, List.set_cons_succ]))
          first
          | (refine wpAnyT_skip (i := 13) rfl (by kernel_rfl) ?hw_ (fun _ _ _ h => h) (fun h_ => absurd h_ (by decide)) ?_; (case hw_ => first | (simp [Region.wanted, yielded]; done) | (simp [Region.wanted, yielded, undef, *]; done)); (try simp only [Act.put, List.setIfInBounds_toArray, List.set_cons_zero, List.set_cons_succ]))
          | (refine wpAnyT_free (i := 13) rfl (by kernel_rfl) (by first | (simp [Region.wanted, yielded]; done) | (simp [Region.wanted, yielded, undef, *]; done)) (fun _ _ _ h => h) (by kernel_rfl) (fun _ => by go_simp; try rfl) ?_; (try simp only [Act.put, List.setIfInBounds_toArray, List.set_cons_zero, List.set_cons_succ]))
          first
          | (refine wpAnyT_skip (i := 14) rfl (by kernel_rfl) ?hw_ (fun _ _ _ h => h) (fun h_ => absurd h_ (by decide)) ?_; (case hw_ => first | (simp [Region.wanted, yielded]; done) | (simp [Region.wanted, yielded, undef, *]; done)); (try simp only [Act.put, List.setIfInBounds_toArray, List.set_cons_zero, List.set_cons_succ]))
          | (refine wpAnyT_free (i := 14) rfl (by kernel_rfl) (by first | (simp [Region.wanted, yielded]; done) | (simp [Region.wanted, yielded, undef, *]; done)) (fun _ _ _ h => h) (by kernel_rfl) (fun _ => by go_simp; try rfl) ?_; (try simp only [Act.put, List.setIfInBounds_toArray, List.set_cons_zero, List.set_cons_succ]))
          first
          | (refine wpAnyT_skip (i := 15) rfl (by kernel_rfl) ?hw_ (fun _ _ _ h => h) (fun h_ => absurd h_ (by decide)) ?_; (case hw_ => first | (simp [Region.wanted, yielded]; done) | (simp [Region.wanted, yielded, undef, *]; done)); (try simp only [Act.put, List.setIfInBounds_toArray, List.set_cons_zero, List.set_cons_succ]))
          | (refine wpAnyT_free (i := 15) rfl (by kernel_rfl) (by first | (simp [Region.wanted, yielded]; done) | (simp [Region.wanted, yielded, undef, *]; done)) (fun _ _ _ h => h) (by kernel_rfl) (fun _ => by go_simp; try rfl) ?_; (try simp only [Act.put, List.setIfInBounds_toArray, List.set_cons_zero, List.set_cons_succ]))
          first
          | (refine wpAnyT_skip (i := 16) rfl (by kernel_rfl) ?hw_ (fun _ _ _ h => h) (fun h_ => absurd h_ (by decide)) ?_; (case hw_ => first | (simp [Region.wanted, yielded]; done) | (simp [Region.wanted, yielded, undef, *]; done)); (try simp only [Act.put, List.setIfInBounds_toArray, List.set_cons_zero, List.set_cons_succ]))
          | (refine wpAnyT_free (i := 16) rfl (by kernel_rfl) (by first | (simp [Region.wanted, yielded]; done) | (simp [Region.wanted, yielded, undef, *]; done)) (fun _ _ _ h => h) (by kernel_rfl) (fun _ => by go_simp; try rfl) ?_; (try simp only [Act.put, List.setIfInBounds_toArray, List.set_cons_zero, List.set_cons_succ]))
          first
          | (refine wpAnyT_skip (i := 17) rfl (by kernel_rfl) ?hw_ (fun _ _ _ h => h) (fun _ => ⟨p1, p2⟩) ?_; (case hw_ => first | (simp [Region.wanted, yielded]; done) | (simp [Region.wanted, yielded, undef, *]; done)); (try simp only [Act.put, List.setIfInBounds_toArray, List.set_cons_zero, List.set_cons_succ]))
          | (refine wpAnyT_read (i := 17) rfl (by kernel_rfl) (by first | (simp [Region.wanted, yielded]; done) | (simp [Region.wanted, yielded, undef, *]; done)) (fun _ _ _ h => h) (by kernel_rfl) (⟨p1, p2⟩) (fun w hS_ => by obtain ⟨s_1, s_2⟩ := hS_; go_simp; try rfl) ?_; (try simp only [Act.put, List.setIfInBounds_toArray, List.set_cons_zero, List.set_cons_succ]))
          first
          | (refine wpAnyT_skip (i := 18) rfl (by kernel_rfl) ?hw_ (fun _ _ _ h => h) (fun h_ => absurd h_ (by decide)) ?_; (case hw_ => first | (simp [Region.wanted, yielded]; done) | (simp [Region.wanted, yielded, undef, *]; done)); (try simp only [Act.put, List.setIfInBounds_toArray, List.set_cons_zero, List.set_cons_succ]))
          | (refine wpAnyT_sink (i := 18) rfl (by kernel_rfl) (by first | (simp [Region.wanted, yielded]; done) | (simp [Region.wanted, yielded, undef, *]; done)) (by kernel_rfl) ?_
             intro K_ hK_
             go_wp2_with ((go_at_call 43; refine hCr.mono ?_; rintro e w7 ⟨rfl, h7, hx7, hk7⟩; have hRe := restart_G h7 hh; unfold LiveGDid at hRe; rw [ER.out] at hRe; have hw7 := (hw6.below ((Below.refl _ w6).drew)).xk hx7 hk7))
             (try (refine hK_ _ _ ?_; clear hK_ K_))
             (try simp only [Act.put, List.setIfInBounds_toArray, List.set_cons_zero, List.set_cons_succ]))
          first
          | (refine wpAnyT_skip (i := 19) rfl (by kernel_rfl) ?hw_ (fun _ _ _ h => h) (fun h_ => absurd h_ (by decide)) ?_; (case hw_ => first | (simp [Region.wanted, yielded]; done) | (simp [Region.wanted, yielded, undef, *]; done)); (try simp only [Act.put, List.setIfInBounds_toArray, List.set_cons_zero, List.set_cons_succ]))
          | (refine wpAnyT_free (i := 19) rfl (by kernel_rfl) (by first | (simp [Region.wanted, yielded]; done) | (simp [Region.wanted, yielded, undef, *]; done)) (fun _ _ _ h => h) (by kernel_rfl) (fun _ => by go_simp; try rfl) ?_; (try simp only [Act.put, List.setIfInBounds_toArray, List.set_cons_zero, List.set_cons_succ]))
          first
          | (refine wpAnyT_skip (i := 20) rfl (by kernel_rfl) ?hw_ (fun _ _ _ h => h) (fun h_ => absurd h_ (by decide)) ?_; (case hw_ => first | (simp [Region.wanted, yielded]; done) | (simp [Region.wanted, yielded, undef, *]; done)); (try simp only [Act.put, List.setIfInBounds_toArray, List.set_cons_zero, List.set_cons_succ]))
          | (refine wpAnyT_free (i := 20) rfl (by kernel_rfl) (by first | (simp [Region.wanted, yielded]; done) | (simp [Region.wanted, yielded, undef, *]; done)) (fun _ _ _ h => h) (by kernel_rfl) (fun _ => by go_simp; try rfl) ?_; (try simp only [Act.put, List.setIfInBounds_toArray, List.set_cons_zero, List.set_cons_succ]))
          first
          | (refine wpAnyT_skip (i := 21) rfl (by kernel_rfl) ?hw_ (fun _ _ _ h => h) (fun h_ => absurd h_ (by decide)) ?_; (case hw_ => first | (simp [Region.wanted, yielded]; done) | (simp [Region.wanted, yielded, undef, *]; done)); (try simp only [Act.put, List.setIfInBounds_toArray, List.set_cons_zero, List.set_cons_succ]))
          | (refine wpAnyT_free (i := 21) rfl (by kernel_rfl) (by first | (simp [Region.wanted, yielded]; done) | (simp [Region.wanted, yielded, undef, *]; done)) (fun _ _ _ h => h) (by kernel_rfl) (fun _ => by go_simp; try rfl) ?_; (try simp only [Act.put, List.setIfInBounds_toArray, List.set_cons_zero, List.set_cons_succ]))
          first
          | (refine wpAnyT_skip (i := 22) rfl (by kernel_rfl) ?hw_ (fun _ _ _ h => h) (fun h_ => absurd h_ (by decide)) ?_; (case hw_ => first | (simp [Region.wanted, yielded]; done) | (simp [Region.wanted, yielded, undef, *]; done)); (try simp only [Act.put, List.setIfInBounds_toArray, List.set_cons_zero, List.set_cons_succ]))
          | (refine wpAnyT_sink (i := 22) rfl (by kernel_rfl) (by first | (simp [Region.wanted, yielded]; done) | (simp [Region.wanted, yielded, undef, *]; done)) (by kernel_rfl) ?_
             intro K_ hK_
             go_wp2_with ((go_at_call 44; refine hRe.mono ?_; rintro e w8 ⟨rfl, h8, hx8, hk8⟩; have hw8 := hw7.xk hx8 hk8))
             (try (refine hK_ _ _ ?_; clear hK_ K_))
             (try simp only [Act.put, List.setIfInBounds_toArray, List.set_cons_zero, List.set_cons_succ]))
          first
          | (refine wpAnyT_skip (i := 23) rfl (by kernel_rfl) ?hw_ (fun _ _ _ h => h) (fun h_ => absurd h_ (by decide)) ?_; (case hw_ => first | (simp [Region.wanted, yielded]; done) | (simp [Region.wanted, yielded, undef, *]; done)); (try simp only [Act.put, List.setIfInBounds_toArray, List.set_cons_zero, List.set_cons_succ]))
          | (refine wpAnyT_free (i := 23) rfl (by kernel_rfl) (by first | (simp [Region.wanted, yielded]; done) | (simp [Region.wanted, yielded, undef, *]; done)) (fun _ _ _ h => h) (by kernel_rfl) (fun _ => by go_simp; try rfl) ?_; (try simp only [Act.put, List.setIfInBounds_toArray, List.set_cons_zero, List.set_cons_succ]))
          first
          | (refine wpAnyT_skip (i := 24) rfl (by kernel_rfl) ?hw_ (fun _ _ _ h => h) (fun h_ => absurd h_ (by decide)) ?_; (case hw_ => first | (simp [Region.wanted, yielded]; done) | (simp [Region.wanted, yielded, undef, *]; done)); (try simp only [Act.put, List.setIfInBounds_toArray, List.set_cons_zero, List.set_cons_succ]))
          | (refine wpAnyT_free (i := 24) rfl (by kernel_rfl) (by first | (simp [Region.wanted, yielded]; done) | (simp [Region.wanted, yielded, undef, *]; done)) (fun _ _ _ h => h) (by kernel_rfl) (fun _ => by go_simp; try rfl) ?_; (try simp only [Act.put, List.setIfInBounds_toArray, List.set_cons_zero, List.set_cons_succ]))
          (refine wpAnyT_free (i := 25) rfl (by kernel_rfl) rfl (fun _ _ _ h => h) (by kernel_rfl) (fun _ => by go_simp; try rfl) ?_; (try simp only [Act.put, List.setIfInBounds_toArray, List.set_cons_zero, List.set_cons_succ]))
          refine wpAnyT_done (by kernel_rfl) ?_ _
          have h8 := h6.mono' ((Below.refl _ w6).drew)
          have hw8 := hw6.below ((Below.refl _ w6).drew)
          have hK4 := hK2
          have hAl := all_H h8 hK4.inv (by omega)
          have hlk := hK4.pre.length_le
          have HK4 := Lib.hid hK4
          clear hK4
          go_wp2_with (first
            | (go_at_call 40; refine hAl.mono ?_; rintro e w9 ⟨A3, c3, rfl, hn9, h9, hb9⟩; have hw9 := hw8.below hb9; have hcap := hn9.cap; have q1 := Int.not_lt.2 (Int.ofNat_le.2 hlk); have q2 := Int.ofNat_le.2 (Nat.le_trans hlk hcap.1); have hE := alike_take2 hn9 hw9 was.length hlk; rw [decide_eq_true (List.prefix_iff_eq_take.1 HK4.out.pre).symm] at hE; clear hAl)
            | (go_at_call 45; refine hE.mono ?_; rintro e w10 ⟨rfl, hb10⟩; have h10 := (h9.mono' hb10).sub (X' := X) (fun _ h => .inl h); have hw10 := hw9.below hb10; clear hE))
          go_roundw
          case rel => exact ⟨k + 1, _, by omega, by omega, by go_num, HK4.out.mono (by omega), h10, hw10⟩
          case measure => simp [intOf]; omega
    · have hge : crs.length ≤ k ∨ 12 ≤ k := by omega
      have hWk := works_07 W wr hL.below hh
      by_cases hk2 : k < crs.length
      all_goals
        clear hC
        go_wp2_with (go_at_call 41; refine hWk.mono ?_; rintro e w12 ⟨rfl, hb12⟩; clear hWk)
        go_ret
        exact ⟨rfl, hb12⟩
end Go.Proofs.YtediidajdpdeiaaDoor
