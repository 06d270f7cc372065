/- SeglogDrops: the law's walk. -/
import Derived.Test.YtediidajdpdeiaaDoorHeld07
namespace Go.Proofs.YtediidajdpdeiaaDoor
open Go.RowKit CrcM
set_option maxRecDepth 100000

/-- what a drop leaves, told as the law asks -/
theorem Lg.inv.dropped {n : Nat} {L : Lg} (h : L.inv n) (hd : L.down = false) (k : Int) : ∃ L' r, L.drop k = (L', r) ∧ L'.inv n ∧ L'.down = false ∧ (r = 0 ↔ k ≤ ((L.safe : Nat) : Int)) ∧ (r = 0 ∨ L' = L) ∧ (∃ pre, L.recs = pre ++ L'.recs) ∧ L.base ≤ L'.base ∧ L'.len = L.len ∧ (((L'.base : Nat) : Int) ≤ k ∨ L'.base = L.base) := by
  rcases h.drop hd k with ⟨h1, e⟩ | ⟨h1, L', e, h2, h3, h4, h5, h6, h7, h8⟩
  · exact ⟨L, 2, e, h, hd, ⟨fun h => by omega, fun h => by omega⟩, .inr rfl, ⟨[], rfl⟩, Nat.le_refl _, rfl, .inr rfl⟩
  · exact ⟨L', 0, e, h2, h3, ⟨fun _ => h1, fun _ => rfl⟩, .inl rfl, h4, h5, h6, h7⟩

set_option maxHeartbeats 4000000 in
theorem dropsLaw_07 (W : World) (hh : HalfAt W) (per : Int) (A : Option Addr) (acts : List Act07) (c : Nat) (hA : ActsAt W A acts) (hlen : acts.length ≤ maxLen) (n : Int) (hn : i64 n) :
    Calls Tryd.prog 13 #[.int .i64 per, .slice A acts.length c, .int .i64 n] W fun e w' => e = .returned (.bool true) ∧ Below W.heap.size W w' := by
  have hP := plays_07 W hh per A acts c hA hlen
  go_enter Tryd.func13, Tryd.ntmps13
  clear hA
  go_wp2_with (first
    | (go_at_call 42; refine hP.mono ?_; rintro e w1 ⟨b, L, rfl, h1, hinv, hd⟩; have hA1 := all_H h1 hinv (by decide); clear hP)
    | (go_at_call 40; refine hA1.mono ?_; rintro e w2 ⟨A1, c1, rfl, hw, h2, hb2⟩; have hB2 := base_G h2; clear hA1)
    | (go_at_call 39; refine hB2.mono ?_; rintro e w3 ⟨rfl, h3, hb3⟩; have hS3 := safe_G h3; have hw3 := hw.below hb3; clear hB2 hw)
    | (go_at_call 38; refine hS3.mono ?_; rintro e w4 ⟨rfl, h4, hb4⟩; have hL4 := len_G h4; have hw4 := hw3.below hb4; clear hS3 hw3)
    | (go_at_call 37; refine hL4.mono ?_; rintro e w5 ⟨rfl, h5, hb5⟩; have hw5 := hw4.below hb5; clear hL4 hw4; have hD := drop_G h5 n))
  refine hD.mono ?_
  obtain ⟨L', r, e1, i1, i2, i3, i4, ⟨pre, i5⟩, i6, i7, i8⟩ := hinv.dropped hd n
  unfold LiveGDid
  rw [e1]
  rintro e w6 ⟨rfl, h6, hx6, hk6⟩
  have hw6 := hw5.xk hx6 hk6
  have hA6 := all_H h6 i1 (by decide)
  have hlr := congrArg List.length i5
  rw [List.length_append] at hlr
  have HR := Lib.hid i5
  by_cases hns : n ≤ (L.safe : Int)
  · have hr0 : r = 0 := i3.2 hns
    subst hr0
    clear i4
    have hlr2 : L'.recs.length ≤ L.recs.length := by omega
    have hcap := hw6.cap
    have hln := hinv.len hd
    have hl60 := hinv.len_le
    have g1 : ¬ (L.recs.length : Int) < (L'.recs.length : Int) := by omega
    have g2 : ¬ (L'.base : Int) < (L.base : Int) := by omega
    have g3 : IntKind.i64.wrap ((L.recs.length : Int) - (L'.recs.length : Int)) = (pre.length : Int) := by rw [IntKind.wrap_i64]; omega
    have g4 : (pre.length : Int) ≤ (L.recs.length : Int) := by omega
    have g5 : (L.recs.length : Int) ≤ (c1 : Int) := by omega
    have HLR := Lib.hid hlr
    have HN := Lib.hid i7
    have hcz : 0 < L'.recs.length → ¬ c1 = pre.length := by omega
    have hz0 : L'.recs.length = 0 → L.recs.length - pre.length = 0 := by omega
    clear hlr hlr2 hcap hln hl60 i3 i5 i6 i7
    by_cases hz : L'.recs.length = 0
    · have hal : ∀ (wx : World) (Au : Option Addr) (cu : Nat) (Av : Option Addr) (cv : Nat), Calls Tryd.prog 45 #[.slice Au L'.recs.length cu, .slice Av (L.recs.length - pre.length) cv] wx fun e w' => e = .returned (.bool true) ∧ Below wx.heap.size wx w' := by
        intro wx Au cu Av cv
        rw [hz0 hz, hz]
        exact alike_nil wx Au Av cu cv
      clear hcz hz0 hz
      go_wp2_with (first
        | (go_at_call 40; refine hA6.mono ?_; rintro e w7 ⟨A2, c2, rfl, hn7, h7, hb7⟩; have hw7 := hw6.below hb7; have hL7 := len_G h7; rw [HN.out] at hL7; clear hA6 hw6)
        | (go_at_call 37; refine hL7.mono ?_; rintro e w8 ⟨rfl, h8, hb8⟩; have hB8 := base_G h8; have hn8 := hn7.below hb8; have hw8 := hw7.below hb8; clear hL7 hn7 hw7)
        | (go_at_call 39; refine hB8.mono ?_; rintro e w9 ⟨rfl, h9, hb9⟩; have hn9 := hn8.below hb9; have hw9 := hw8.below hb9; clear hB8 hn8 hw8))
      all_goals
        refine (hal _ _ _ _ _).mono ?_
        clear hal
        rintro e w10 ⟨rfl, hb10⟩
        have h10 := h9.mono' hb10
        have hB10 := base_G h10
        by_cases hq : (L'.base : Int) ≤ n
        · go_wp2_with (first
            | (go_at_call 39; refine hB10.mono ?_; rintro e w11 ⟨rfl, h11, -⟩; have hWk := works_07 _ _ h11.below hh; clear hB10)
            | (go_at_call 41; refine hWk.mono ?_; rintro e w12 ⟨rfl, hb12⟩; clear hWk))
          go_ret
          exact ⟨rfl, hb12⟩
        · have hbe := i8.resolve_left hq
          go_wp2_with (first
            | (go_at_call 39; refine hB10.mono ?_; rintro e w11 ⟨rfl, h11, -⟩; have hB11 := base_G h11; rw [hbe] at hB11; clear hB10)
            | (go_at_call 39; refine hB11.mono ?_; rintro e w13 ⟨rfl, h13, -⟩; have hWk := works_07 _ _ h13.below hh; clear hB11)
            | (go_at_call 41; refine hWk.mono ?_; rintro e w12 ⟨rfl, hb12⟩; clear hWk))
          go_ret
          exact ⟨rfl, hb12⟩
    · have gc := hcz (by omega)
      clear hcz hz0
      go_wp2_with (first
        | (go_at_call 40; refine hA6.mono ?_; rintro e w7 ⟨A2, c2, rfl, hn7, h7, hb7⟩; have hw7 := hw6.below hb7; have hL7 := len_G h7; rw [HN.out] at hL7; clear hA6 hw6)
        | (go_at_call 37; refine hL7.mono ?_; rintro e w8 ⟨rfl, h8, hb8⟩; have hB8 := base_G h8; have hn8 := hn7.below hb8; have hw8 := hw7.below hb8; clear hL7 hn7 hw7)
        | (go_at_call 39; refine hB8.mono ?_; rintro e w9 ⟨rfl, h9, hb9⟩; have hn9 := hn8.below hb9; have hw9 := hw8.below hb9; clear hB8 hn8 hw8))
      obtain ⟨g, o, rfl, hdr⟩ := hw9.drop pre.length (by have := HLR.out; omega)
      have ed : L.recs.drop pre.length = L'.recs := by rw [HR.out, List.drop_left' rfl]
      have hal := alike_H hn9 hdr
      rw [ed, decide_eq_true rfl] at hal
      have el : L.recs.length - pre.length = L'.recs.length := by have := HLR.out; omega
      simp only [Option.map_some, add_mk]
      rw [el]
      refine hal.mono ?_
      clear hal el ed
      rintro e w10 ⟨rfl, hb10⟩
      have h10 := h9.mono' hb10
      have hB10 := base_G h10
      by_cases hq : (L'.base : Int) ≤ n
      · go_wp2_with (first
          | (go_at_call 39; refine hB10.mono ?_; rintro e w11 ⟨rfl, h11, -⟩; have hWk := works_07 _ _ h11.below hh; clear hB10)
          | (go_at_call 41; refine hWk.mono ?_; rintro e w12 ⟨rfl, hb12⟩; clear hWk))
        go_ret
        exact ⟨rfl, hb12⟩
      · have hbe := i8.resolve_left hq
        go_wp2_with (first
          | (go_at_call 39; refine hB10.mono ?_; rintro e w11 ⟨rfl, h11, -⟩; have hB11 := base_G h11; rw [hbe] at hB11; clear hB10)
          | (go_at_call 39; refine hB11.mono ?_; rintro e w13 ⟨rfl, h13, -⟩; have hWk := works_07 _ _ h13.below hh; clear hB11)
          | (go_at_call 41; refine hWk.mono ?_; rintro e w12 ⟨rfl, hb12⟩; clear hWk))
        go_ret
        exact ⟨rfl, hb12⟩
  · have hr0 : ¬ r = 0 := fun e => hns (i3.1 e)
    have hr1 : (r == 0) = false := beq_eq_false_iff_ne.2 hr0
    have hLL := i4.resolve_left hr0
    have g6 : ((L'.recs.length : Int) == (L.recs.length : Int)) = true := by rw [hLL, beq_iff_eq]
    have g7 : ((L'.recs.length : Int) != (L.recs.length : Int)) = false := by rw [hLL]; exact bne_self_eq_false _
    have HLL := Lib.hid hLL
    clear i4 hLL
    have hlr2 : L'.recs.length ≤ L.recs.length := by omega
    have hcap := hw6.cap
    have hln := hinv.len hd
    have hl60 := hinv.len_le
    have g1 : ¬ (L.recs.length : Int) < (L'.recs.length : Int) := by omega
    have g2 : ¬ (L'.base : Int) < (L.base : Int) := by omega
    have g3 : IntKind.i64.wrap ((L.recs.length : Int) - (L'.recs.length : Int)) = (pre.length : Int) := by rw [IntKind.wrap_i64]; omega
    have g4 : (pre.length : Int) ≤ (L.recs.length : Int) := by omega
    have g5 : (L.recs.length : Int) ≤ (c1 : Int) := by omega
    have HLR := Lib.hid hlr
    have HN := Lib.hid i7
    have hcz : 0 < L'.recs.length → ¬ c1 = pre.length := by omega
    have hz0 : L'.recs.length = 0 → L.recs.length - pre.length = 0 := by omega
    clear hlr hlr2 hcap hln hl60 i3 i5 i6 i7
    by_cases hz : L'.recs.length = 0
    · have hal : ∀ (wx : World) (Au : Option Addr) (cu : Nat) (Av : Option Addr) (cv : Nat), Calls Tryd.prog 45 #[.slice Au L'.recs.length cu, .slice Av (L.recs.length - pre.length) cv] wx fun e w' => e = .returned (.bool true) ∧ Below wx.heap.size wx w' := by
        intro wx Au cu Av cv
        rw [hz0 hz, hz]
        exact alike_nil wx Au Av cu cv
      clear hcz hz0 hz
      go_wp2_with (first
        | (go_at_call 40; refine hA6.mono ?_; rintro e w7 ⟨A2, c2, rfl, hn7, h7, hb7⟩; have hw7 := hw6.below hb7; have hL7 := len_G h7; rw [HN.out] at hL7; clear hA6 hw6)
        | (go_at_call 37; refine hL7.mono ?_; rintro e w8 ⟨rfl, h8, hb8⟩; have hB8 := base_G h8; have hn8 := hn7.below hb8; have hw8 := hw7.below hb8; clear hL7 hn7 hw7)
        | (go_at_call 39; refine hB8.mono ?_; rintro e w9 ⟨rfl, h9, hb9⟩; have hn9 := hn8.below hb9; have hw9 := hw8.below hb9; clear hB8 hn8 hw8))
      all_goals
        refine (hal _ _ _ _ _).mono ?_
        clear hal
        rintro e w10 ⟨rfl, hb10⟩
        have h10 := h9.mono' hb10
        have hB10 := base_G h10
        by_cases hq : (L'.base : Int) ≤ n
        · go_wp2_with (first
            | (go_at_call 39; refine hB10.mono ?_; rintro e w11 ⟨rfl, h11, -⟩; have hWk := works_07 _ _ h11.below hh; clear hB10)
            | (go_at_call 41; refine hWk.mono ?_; rintro e w12 ⟨rfl, hb12⟩; clear hWk))
          go_ret
          exact ⟨rfl, hb12⟩
        · have hbe := i8.resolve_left hq
          go_wp2_with (first
            | (go_at_call 39; refine hB10.mono ?_; rintro e w11 ⟨rfl, h11, -⟩; have hB11 := base_G h11; rw [hbe] at hB11; clear hB10)
            | (go_at_call 39; refine hB11.mono ?_; rintro e w13 ⟨rfl, h13, -⟩; have hWk := works_07 _ _ h13.below hh; clear hB11)
            | (go_at_call 41; refine hWk.mono ?_; rintro e w12 ⟨rfl, hb12⟩; clear hWk))
          go_ret
          exact ⟨rfl, hb12⟩
    · have gc := hcz (by omega)
      clear hcz hz0
      go_wp2_with (first
        | (go_at_call 40; refine hA6.mono ?_; rintro e w7 ⟨A2, c2, rfl, hn7, h7, hb7⟩; have hw7 := hw6.below hb7; have hL7 := len_G h7; rw [HN.out] at hL7; clear hA6 hw6)
        | (go_at_call 37; refine hL7.mono ?_; rintro e w8 ⟨rfl, h8, hb8⟩; have hB8 := base_G h8; have hn8 := hn7.below hb8; have hw8 := hw7.below hb8; clear hL7 hn7 hw7)
        | (go_at_call 39; refine hB8.mono ?_; rintro e w9 ⟨rfl, h9, hb9⟩; have hn9 := hn8.below hb9; have hw9 := hw8.below hb9; clear hB8 hn8 hw8))
      obtain ⟨g, o, rfl, hdr⟩ := hw9.drop pre.length (by have := HLR.out; omega)
      have ed : L.recs.drop pre.length = L'.recs := by rw [HR.out, List.drop_left' rfl]
      have hal := alike_H hn9 hdr
      rw [ed, decide_eq_true rfl] at hal
      have el : L.recs.length - pre.length = L'.recs.length := by have := HLR.out; omega
      simp only [Option.map_some, add_mk]
      rw [el]
      refine hal.mono ?_
      clear hal el ed
      rintro e w10 ⟨rfl, hb10⟩
      have h10 := h9.mono' hb10
      have hB10 := base_G h10
      by_cases hq : (L'.base : Int) ≤ n
      · go_wp2_with (first
          | (go_at_call 39; refine hB10.mono ?_; rintro e w11 ⟨rfl, h11, -⟩; have hWk := works_07 _ _ h11.below hh; clear hB10)
          | (go_at_call 41; refine hWk.mono ?_; rintro e w12 ⟨rfl, hb12⟩; clear hWk))
        go_ret
        exact ⟨rfl, hb12⟩
      · have hbe := i8.resolve_left hq
        go_wp2_with (first
          | (go_at_call 39; refine hB10.mono ?_; rintro e w11 ⟨rfl, h11, -⟩; have hB11 := base_G h11; rw [hbe] at hB11; clear hB10)
          | (go_at_call 39; refine hB11.mono ?_; rintro e w13 ⟨rfl, h13, -⟩; have hWk := works_07 _ _ h13.below hh; clear hB11)
          | (go_at_call 41; refine hWk.mono ?_; rintro e w12 ⟨rfl, hb12⟩; clear hWk))
        go_ret
        exact ⟨rfl, hb12⟩
end Go.Proofs.YtediidajdpdeiaaDoor
