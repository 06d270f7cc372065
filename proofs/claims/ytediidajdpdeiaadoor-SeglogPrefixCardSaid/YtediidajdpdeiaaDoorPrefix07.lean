/- SeglogPrefix: the law's walk. -/
import Derived.Test.YtediidajdpdeiaaDoorHeld07
namespace Go.Proofs.YtediidajdpdeiaaDoor
open Go.RowKit CrcM
set_option maxRecDepth 100000

theorem RdB.below {W W' : World} {A : Option Addr} {l : List UInt8} (h : RdB W A l) (hb : Below W.heap.size W W') : RdB W' A l := fun j x hx => by
  obtain ⟨ad, e, hlt, hc⟩ := h j x hx
  exact ⟨ad, e, Nat.lt_of_lt_of_le hlt hb.size, (hb.cell (p := ad.add j) (by rw [add_block]; exact hlt)).trans hc⟩
theorem ActsAt.below {W W' : World} {A : Option Addr} {acts : List Act07} (h : ActsAt W A acts) (hb : Below W.heap.size W W') : ActsAt W' A acts := fun j a ha => by
  obtain ⟨g, o, B, c, e, hg, e0, e1, e2, e3, h1, h2, h3, h4⟩ := h j a ha
  exact ⟨g, o, B, c, e, Nat.lt_of_lt_of_le hg hb.size, (hb.cell (p := ⟨g, o + j * 4, none⟩) hg).trans e0, (hb.cell (p := ⟨g, o + j * 4 + 1, none⟩) hg).trans e1, (hb.cell (p := ⟨g, o + j * 4 + 2, none⟩) hg).trans e2, (hb.cell (p := ⟨g, o + j * 4 + 3, none⟩) hg).trans e3, h1, h2, h3.below hb, h4⟩

set_option maxHeartbeats 1000000 in
theorem prefixLaw_07 (W : World) (hh : HalfAt W) (per : Int) (A : Option Addr) (acts : List Act07) (c : Nat) (hA : ActsAt W A acts) (hlen : acts.length ≤ maxLen) (x y : Int) (hx : i64 x) (hy : i64 y) :
    Calls Tryd.prog 11 #[.int .i64 per, .slice A acts.length c, .agg #[.int .i64 x, .int .i64 y]] W fun e w' => e = .returned (.bool true) ∧ Below W.heap.size W w' := by
  unfold i64 at hx hy
  obtain ⟨kk, hp1, hp2, hp3⟩ := rem_up x 60 (by decide)
  have hpr := rem_any x 60 (by decide)
  have wz1 : IntKind.i64.wrap (x.tmod 60) = x.tmod 60 := by rw [IntKind.wrap_i64]; omega
  have wz2 : IntKind.i64.wrap (x.tmod 60 + 60) = x.tmod 60 + 60 := by rw [IntKind.wrap_i64]; omega
  have wz3 : IntKind.i64.wrap (kk : Int) = (kk : Int) := by rw [IntKind.wrap_i64]; omega
  have hbW := below_new W (.cells #[.int .i64 x, .int .i64 y] 62)
  have hblk := Blk.new W 62 #[.int .i64 x, .int .i64 y]
  have hP := plays_07 (W.alloc (.cells #[.int .i64 x, .int .i64 y] 62)) (hh.below hbW hh.lt) per A acts c (hA.below hbW) hlen
  have hh1 : HalfAt (W.alloc (.cells #[.int .i64 x, .int .i64 y] 62)) := hh.below hbW hh.lt
  go_enter Tryd.func11, Tryd.ntmps11
  clear hA
  go_wp2_with (first
    | (go_at_call 42; refine hP.mono ?_; rintro e w1 ⟨b, L, rfl, h1, hinv, hd⟩; have hA1 := all_H h1 hinv (by decide); clear hP)
    | (go_at_call 40; refine hA1.mono ?_; rintro e w2 ⟨A1, c1, rfl, hw, h2, hb2⟩; have hB2 := base_G h2; clear hA1)
    | (go_at_call 39; refine hB2.mono ?_; rintro e w3 ⟨rfl, h3, hb3⟩; have hS3 := safe_G h3; have hw3 := hw.below hb3; clear hB2 hw)
    | (go_at_call 38; refine hS3.mono ?_; rintro e w4 ⟨rfl, h4, hb4⟩; have hw4 := hw3.below hb4; have a0 := (h4.below.cell (p := ⟨W.heap.size, 0, none⟩) hblk.lt).trans (hblk.cell 0 (v := .int .i64 x) rfl); have a1 := (h4.below.cell (p := ⟨W.heap.size, 1, none⟩) hblk.lt).trans (hblk.cell 1 (v := .int .i64 y) rfl); clear hS3 hw3; obtain ⟨L1, L2, e1, e2, hu, f⟩ := hinv.fall hd (by decide) (kk : Int) y (by omega); have hC := crash_G h4 (kk : Int) y (by omega) hy.2 (by omega) hy.1; unfold LiveGDid at hC; rw [e1] at hC; have HF := Lib.hid f; have HE2 := Lib.hid e2; clear e1 e2 f)
    | (go_at_call 43; refine hC.mono ?_; rintro e w5 ⟨rfl, h5, hx5, hk5⟩; have hR := restart_G h5 hh1; unfold LiveGDid at hR; rw [HE2.out] at hR; have hw5 := hw4.xk hx5 hk5; clear hC)
    | (go_at_call 44; refine hR.mono ?_; rintro e w6 ⟨rfl, h6, hx6, hk6⟩; have hA6 := all_H h6 HF.out.inv (by decide); have hw6 := hw5.xk hx6 hk6; clear hR)
    | (go_at_call 40; refine hA6.mono ?_; rintro e w7 ⟨A2, c2, rfl, hn, h7, hb7⟩; have hw7 := hw6.below hb7; clear hA6 hw6; have hle := HF.out.recs.length_le; have hcap := hw7.cap; have g1 : (L2.recs.length : Int) ≤ (c1 : Int) := by omega
       have g2 : ¬ (L.recs.length : Int) < (L2.recs.length : Int) := by omega
       have hK := alike_take hn hw7 L2.recs.length hle
       have hdec : decide (L2.recs = L.recs.take L2.recs.length) = true := decide_eq_true (List.prefix_iff_eq_take.1 HF.out.recs)
       rw [hdec] at hK
       clear hdec hle hcap))
  refine hK.mono ?_
  rintro e w8 ⟨rfl, hb8⟩
  have h8 := h7.mono' hb8
  clear hK
  have hB8 := base_G h8
  have hS8 := safe_G h8
  rw [HF.out.safe] at hS8
  have hlenr := hinv.len hd
  have hlen60 := hinv.len_le
  have hse := hinv.safe_eq hd
  have hkept := HF.out.kept
  have wz5 : IntKind.i64.wrap ((L.safe : Int) - (L.base : Int)) = (safeLen L.segs : Int) := by rw [IntKind.wrap_i64]; omega
  have g5 : (safeLen L.segs : Int) ≤ (L2.recs.length : Int) := by omega
  have hle := HF.out.recs.length_le
  by_cases hz : L2.recs.length = 0
  · have g6 : ¬ 0 < (L2.recs.length : Int) := by omega
    have HZ := Lib.hid hz
    clear hlenr hlen60 hse hkept wz1 wz2 wz3 hp1 hp2 hp3 hpr hx hy a0 a1 hz hle hB8
    go_wp2_with (first
      | (go_at_call 38; refine hS8.mono ?_; rintro e w9 ⟨rfl, h9, -⟩; have hL9 := len_G h9; clear hS8)
      | (go_at_call 37; refine hL9.mono ?_; rintro e w10 ⟨rfl, h10, -⟩; have hWk := works_07 _ _ h10.below hh1; clear hL9)
      | (go_at_call 41; refine hWk.mono ?_; rintro e w11 ⟨rfl, hb11⟩; clear hWk))
    all_goals
      go_ret
      exact ⟨rfl, hbW.trans (hb11.mono hbW.size)⟩
  · have g6 : 0 < (L2.recs.length : Int) := by omega
    have g7 : 0 < (L.recs.length : Int) := by omega
    have hbe : L2.base = L.base := HF.out.base (by rintro e; rw [e] at hz; exact hz rfl)
    rw [hbe] at hB8
    clear hlenr hlen60 hse hkept wz1 wz2 wz3 hp1 hp2 hp3 hpr hx hy a0 a1 hz hle hbe hS8
    go_wp2_with (first
      | (go_at_call 39; refine hB8.mono ?_; rintro e w12 ⟨rfl, h12, -⟩; have hS12 := safe_G h12; rw [HF.out.safe] at hS12; clear hB8)
      | (go_at_call 38; refine hS12.mono ?_; rintro e w9 ⟨rfl, h9, -⟩; have hL9 := len_G h9; clear hS12)
      | (go_at_call 37; refine hL9.mono ?_; rintro e w10 ⟨rfl, h10, -⟩; have hWk := works_07 _ _ h10.below hh1; clear hL9)
      | (go_at_call 41; refine hWk.mono ?_; rintro e w11 ⟨rfl, hb11⟩; clear hWk))
    go_ret
    exact ⟨rfl, hbW.trans (hb11.mono hbW.size)⟩
end Go.Proofs.YtediidajdpdeiaaDoor
