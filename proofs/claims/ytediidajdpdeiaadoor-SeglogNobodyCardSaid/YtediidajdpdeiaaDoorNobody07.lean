/- Logs that New did not make (layer 7): the walks. -/
import Derived.Test.YtediidajdpdeiaaDoorHeld07
import Derived.WalkMore
namespace Go.Proofs.YtediidajdpdeiaaDoor
open Go.RowKit CrcM
set_option maxRecDepth 100000

/-- no log: nil, or one of zeros -/
def NoLog (w : World) (p : Value) : Prop := p = .pointer none ∨ ∃ b, p = .pointer (some ⟨b, 0, none⟩) ∧ Blk w b TLg #[.int .i64 0, .slice none 0 0, .bool false]
theorem NoLog.below {w w' : World} {p : Value} (h : NoLog w p) (hb : Below w.heap.size w w') : NoLog w' p := by
  refine h.imp_right ?_
  rintro ⟨b, e, hB⟩
  exact ⟨b, e, hB.below' hb⟩

section
variable {w : World} {p : Value}
theorem noneN (h : NoLog w p) : Calls Tryd.prog 87 #[p] w fun e w' => e = .returned (.bool true) ∧ w = w' := by
  rcases h with rfl | ⟨b, rfl, hB⟩
  · go_enter Tryd.func87, Tryd.ntmps87
    go_wp2
    go_ret
    exact ⟨rfl, rfl⟩
  · have c0 := hB.cell 0 (v := .int .i64 0) rfl
    go_enter Tryd.func87, Tryd.ntmps87
    go_wp2
    go_ret
    exact ⟨rfl, rfl⟩
theorem askedN (h : NoLog w p) : Calls Tryd.prog 82 #[p] w fun e w' => e = .returned (.int .i64 1) ∧ w = w' := by
  go_enter Tryd.func82, Tryd.ntmps82
  go_wp2_with (go_at_call 87; refine (noneN h).mono ?_; rintro e w' ⟨rfl, rfl⟩)
  go_ret
  exact ⟨rfl, rfl⟩
theorem downN (h : NoLog w p) : Calls Tryd.prog 48 #[p] w fun e w' => e = .returned (.bool true) ∧ w = w' := by
  go_enter Tryd.func48, Tryd.ntmps48
  go_wp2_with (go_at_call 87; refine (noneN h).mono ?_; rintro e w' ⟨rfl, rfl⟩)
  go_ret
  exact ⟨rfl, rfl⟩
theorem lastN (h : NoLog w p) : Calls Tryd.prog 83 #[p] w fun e w' => e = .returned (.pointer none) ∧ w = w' := by
  go_enter Tryd.func83, Tryd.ntmps83
  go_wp2_with (go_at_call 87; refine (noneN h).mono ?_; rintro e w' ⟨rfl, rfl⟩)
  go_ret
  exact ⟨rfl, rfl⟩
theorem baseN (h : NoLog w p) : Calls Tryd.prog 39 #[p] w fun e w' => e = .returned (.int .i64 0) ∧ w = w' := by
  go_enter Tryd.func39, Tryd.ntmps39
  go_wp2_with (go_at_call 48; refine (downN h).mono ?_; rintro e w' ⟨rfl, rfl⟩)
  go_ret
  exact ⟨rfl, rfl⟩
theorem lenN (h : NoLog w p) : Calls Tryd.prog 37 #[p] w fun e w' => e = .returned (.int .i64 0) ∧ w = w' := by
  go_enter Tryd.func37, Tryd.ntmps37
  go_wp2_with (go_at_call 83; refine (lastN h).mono ?_; rintro e w' ⟨rfl, rfl⟩)
  go_ret
  exact ⟨rfl, rfl⟩
theorem safeN (h : NoLog w p) : Calls Tryd.prog 38 #[p] w fun e w' => e = .returned (.int .i64 0) ∧ w = w' := by
  go_enter Tryd.func38, Tryd.ntmps38
  go_wp2_with (first | (go_at_call 39; refine (baseN h).mono ?_; rintro e w' ⟨rfl, rfl⟩) | (go_at_call 48; refine (downN h).mono ?_; rintro e w' ⟨rfl, rfl⟩))
  go_ret
  exact ⟨rfl, rfl⟩
theorem appendN (h : NoLog w p) (v : Value) : Calls Tryd.prog 35 #[p, v] w fun e w' => e = .returned (.tuple #[.int .i64 0, .int .i64 1]) ∧ w = w' := by
  go_enter Tryd.func35, Tryd.ntmps35
  go_wp2_with (go_at_call 82; refine (askedN h).mono ?_; rintro e w' ⟨rfl, rfl⟩)
  go_ret2
  exact ⟨rfl, rfl⟩
theorem syncN (h : NoLog w p) : Calls Tryd.prog 46 #[p] w fun e w' => e = .returned (.int .i64 1) ∧ w = w' := by
  go_enter Tryd.func46, Tryd.ntmps46
  go_wp2_with (go_at_call 82; refine (askedN h).mono ?_; rintro e w' ⟨rfl, rfl⟩)
  go_ret
  exact ⟨rfl, rfl⟩
theorem dropN (h : NoLog w p) (n : Int) : Calls Tryd.prog 47 #[p, .int .i64 n] w fun e w' => e = .returned (.int .i64 1) ∧ w = w' := by
  go_enter Tryd.func47, Tryd.ntmps47
  go_wp2_with (go_at_call 82; refine (askedN h).mono ?_; rintro e w' ⟨rfl, rfl⟩)
  go_ret
  exact ⟨rfl, rfl⟩
theorem crashN (h : NoLog w p) (n m : Int) : Calls Tryd.prog 43 #[p, .int .i64 n, .int .i64 m] w fun e w' => e = .returned (.int .i64 1) ∧ w = w' := by
  go_enter Tryd.func43, Tryd.ntmps43
  go_wp2_with (go_at_call 82; refine (askedN h).mono ?_; rintro e w' ⟨rfl, rfl⟩)
  go_ret
  exact ⟨rfl, rfl⟩
theorem restartN (h : NoLog w p) : Calls Tryd.prog 44 #[p] w fun e w' => e = .returned (.int .i64 1) ∧ w = w' := by
  go_enter Tryd.func44, Tryd.ntmps44
  go_wp2_with (go_at_call 87; refine (noneN h).mono ?_; rintro e w' ⟨rfl, rfl⟩)
  go_ret
  exact ⟨rfl, rfl⟩
theorem segmentsN (h : NoLog w p) : Calls Tryd.prog 36 #[p] w fun e w' => e = .returned (.slice none 0 0) ∧ w = w' := by
  go_enter Tryd.func36, Tryd.ntmps36
  go_wp2_with (go_at_call 87; refine (noneN h).mono ?_; rintro e w' ⟨rfl, rfl⟩)
  go_ret
  exact ⟨rfl, rfl⟩
theorem copyN (h : NoLog w p) : Calls Tryd.prog 49 #[p] w fun e w' => e = .returned (.pointer none) ∧ w = w' := by
  go_enter Tryd.func49, Tryd.ntmps49
  go_wp2_with (go_at_call 87; refine (noneN h).mono ?_; rintro e w' ⟨rfl, rfl⟩)
  go_ret
  exact ⟨rfl, rfl⟩
end

theorem recs_N (w : World) (q : Option Addr) : Calls Tryd.prog 89 #[.pointer q] w fun e w' => e = .returned (.func (.func 118) #[] #[.pointer (some ⟨w.heap.size, 0, none⟩)]) ∧ w.alloc (.cells #[.pointer q] 52) = w' := by
  go_enter Tryd.func89, Tryd.ntmps89
  go_wp2
  go_ret
  exact ⟨rfl, rfl⟩
theorem recs1_N {w : World} {p : Value} (h : NoLog w p) (f : Value) (bx : Nat) (hb : w.cell? ⟨bx, 0, none⟩ = some p) : Calls Tryd.prog 118 #[f, .pointer (some ⟨bx, 0, none⟩)] w fun e w' => e = .returned (.tuple #[]) ∧ w = w' := by
  rcases id h with rfl | ⟨b, rfl, hB⟩
  all_goals
    go_enter Tryd.func118, Tryd.ntmps118
    go_step3
    go_wp2_with (go_at_call 82; refine (askedN h).mono ?_; rintro e w' ⟨rfl, rfl⟩)
    simp only [Exit.noGoto]
    refine bodyPost_ret (results_none rfl _ _ _) rfl ?_
    exact ⟨rfl, rfl⟩
theorem allN {w : World} {p : Value} (h : NoLog w p) : Calls Tryd.prog 40 #[p] w fun e w' => e = .returned (.tuple #[.slice none 0 0, .bool true]) ∧ Below w.heap.size w w' := by
  have kf := fun (f : Fn) (a c : Array Value) (w : World) => run_eql_func_nil (P := Tryd.prog) (t := 48) Tryd.underlying48 f a c w
  obtain ⟨q, rfl⟩ : ∃ q, p = .pointer q := by
    rcases h with rfl | ⟨b, rfl, hB⟩
    · exact ⟨_, rfl⟩
    · exact ⟨_, rfl⟩
  have z1 : Blk ((((w.alloc (.cells #[.pointer q] 52)).alloc (.cells #[.slice none 0 0] 45)).alloc (.cells #[.bool true] 4)).alloc (.cells #[.pointer q] 52)) (w.heap.size + 1) 45 #[.slice none 0 0] := ((Blk.new' _ _ _ (by simp)).alloc _).alloc _
  have z2 : Blk ((((w.alloc (.cells #[.pointer q] 52)).alloc (.cells #[.slice none 0 0] 45)).alloc (.cells #[.bool true] 4)).alloc (.cells #[.pointer q] 52)) (w.heap.size + 2) 4 #[.bool true] := (Blk.new' _ _ _ (by simp)).alloc _
  have z3 : Blk ((((w.alloc (.cells #[.pointer q] 52)).alloc (.cells #[.slice none 0 0] 45)).alloc (.cells #[.bool true] 4)).alloc (.cells #[.pointer q] 52)) (w.heap.size + 3) 52 #[.pointer q] := Blk.new' _ _ _ (by simp)
  have hb4 : Below w.heap.size w ((((w.alloc (.cells #[.pointer q] 52)).alloc (.cells #[.slice none 0 0] 45)).alloc (.cells #[.bool true] 4)).alloc (.cells #[.pointer q] 52)) := ((((Below.refl _ w).alloc (Nat.le_refl _) _).alloc (by simp) _).alloc (by simp; omega) _).alloc (by simp; omega) _
  have h4 := h.below hb4
  have hR := fun f => recs1_N h4 f (w.heap.size + 3) (z3.cell 0 rfl)
  have e1 := z1.cell 0 (v := .slice none 0 0) rfl
  have e2 := z2.cell 0 (v := .bool true) rfl
  have hRc := recs_N (((w.alloc (.cells #[.pointer q] 52)).alloc (.cells #[.slice none 0 0] 45)).alloc (.cells #[.bool true] 4)) q
  go_enter Tryd.func40, Tryd.ntmps40
  go_wp2_with (first
    | (go_at_call 89; refine hRc.mono ?_; rintro e w' ⟨rfl, rfl⟩)
    | (go_at_call 118; refine (hR _).mono ?_; rintro e w' ⟨rfl, rfl⟩))
  refine wp_region_T #[[], [], [0], [0, 1]] [0, 1] (fun w' => w'.cell? ⟨w.heap.size + 1, 0, none⟩ = some (.slice none 0 0) ∧ w'.cell? ⟨w.heap.size + 2, 0, none⟩ = some (.bool true)) 4 rfl (by kernel_rfl) ?_
  (refine wpAnyT_read (i := 0) rfl (by kernel_rfl) rfl (fun _ _ _ h => h) (by kernel_rfl) (⟨e1, e2⟩) (fun w hS_ => by obtain ⟨s_1, s_2⟩ := hS_; go_simp; try rfl) ?_; (try simp only [Act.put, List.setIfInBounds_toArray, List.set_cons_zero, List.set_cons_succ]))
  (refine wpAnyT_read (i := 1) rfl (by kernel_rfl) rfl (fun _ _ _ h => h) (by kernel_rfl) (⟨e1, e2⟩) (fun w hS_ => by obtain ⟨s_1, s_2⟩ := hS_; go_simp; try rfl) ?_; (try simp only [Act.put, List.setIfInBounds_toArray, List.set_cons_zero, List.set_cons_succ]))
  (refine wpAnyT_free (i := 2) rfl (by kernel_rfl) rfl (fun _ _ _ h => h) (by kernel_rfl) (fun _ => by go_simp; try rfl) ?_; (try simp only [Act.put, List.setIfInBounds_toArray, List.set_cons_zero, List.set_cons_succ]))
  (refine wpAnyT_free (i := 3) rfl (by kernel_rfl) rfl (fun _ _ _ h => h) (by kernel_rfl) (fun _ => by go_simp; try rfl) ?_; (try simp only [Act.put, List.setIfInBounds_toArray, List.set_cons_zero, List.set_cons_succ]))
  refine wpAnyT_done (by kernel_rfl) ?_ _
  go_wp2
  go_ret2
  exact ⟨rfl, hb4.drew⟩

set_option maxHeartbeats 4000000 in
theorem nobodyLaw_07 (W : World) (hh : HalfAt W) (ac : Act07) (B : Option Addr) (cb : Nat) (hB : RdB W B ac.b) (hcb : ac.b.length ≤ cb) (hcm : cb ≤ maxLen) (hn : i64 ac.n) (hf : i64 ac.flip) (per : Int) (hper : i64 per) :
    Calls Tryd.prog 14 #[.agg #[.int .i64 ac.kind, .int .i64 ac.n, .int .i64 ac.flip, .slice B ac.b.length cb], .int .i64 per] W fun e w' => e = .returned (.bool true) ∧ Below W.heap.size W w' := by
  obtain ⟨kd, n, fl, bb⟩ := ac
  simp only at hB hcb hn hf
  unfold i64 at hper
  have hb1 := below_new W (.cells #[.int .i64 kd, .int .i64 n, .int .i64 fl, .slice B bb.length cb] 69)
  have hbk := Blk.new W 69 #[.int .i64 kd, .int .i64 n, .int .i64 fl, .slice B bb.length cb]
  have hh1 := hh.below hb1 hh.lt
  by_cases hin : 1 ≤ per ∧ per ≤ 1024
  · obtain ⟨g1, g2⟩ := hin
    have wz : IntKind.i64.wrap (-per) = -per := by rw [IntKind.wrap_i64]; omega
    have hN := newL (W.alloc (.cells #[.int .i64 kd, .int .i64 n, .int .i64 fl, .slice B bb.length cb] 69)) (-per)
    simp only [show ¬ (1 ≤ -per ∧ -per ≤ 1024) by omega, if_false] at hN
    go_enter Tryd.func14, Tryd.ntmps14
    go_wp2_with (go_at_call 34; refine hN.mono ?_; rintro e w1 ⟨rfl, rfl⟩)
    have z0 : Blk (((W.alloc (.cells #[.int .i64 kd, .int .i64 n, .int .i64 fl, .slice B bb.length cb] 69)).alloc (.cells #[.int .i64 0, .slice none 0 0, .bool false] TLg)).alloc (.cells #[.pointer none, .pointer (some ⟨W.heap.size + 1, 0, none⟩), .pointer none] 52)) W.heap.size 69 #[.int .i64 kd, .int .i64 n, .int .i64 fl, .slice B bb.length cb] := (hbk.alloc _).alloc _
    have z1 : Blk (((W.alloc (.cells #[.int .i64 kd, .int .i64 n, .int .i64 fl, .slice B bb.length cb] 69)).alloc (.cells #[.int .i64 0, .slice none 0 0, .bool false] TLg)).alloc (.cells #[.pointer none, .pointer (some ⟨W.heap.size + 1, 0, none⟩), .pointer none] 52)) (W.heap.size + 1) TLg #[.int .i64 0, .slice none 0 0, .bool false] := (Blk.new' _ _ _ (by simp)).alloc _
    have z2 : Blk (((W.alloc (.cells #[.int .i64 kd, .int .i64 n, .int .i64 fl, .slice B bb.length cb] 69)).alloc (.cells #[.int .i64 0, .slice none 0 0, .bool false] TLg)).alloc (.cells #[.pointer none, .pointer (some ⟨W.heap.size + 1, 0, none⟩), .pointer none] 52)) (W.heap.size + 1 + 1) 52 #[.pointer none, .pointer (some ⟨W.heap.size + 1, 0, none⟩), .pointer none] := Blk.new' _ _ _ (by simp)
    have hb3 : Below W.heap.size W (((W.alloc (.cells #[.int .i64 kd, .int .i64 n, .int .i64 fl, .slice B bb.length cb] 69)).alloc (.cells #[.int .i64 0, .slice none 0 0, .bool false] TLg)).alloc (.cells #[.pointer none, .pointer (some ⟨W.heap.size + 1, 0, none⟩), .pointer none] 52)) := (hb1.alloc (by simp) _).alloc (by simp; omega) _
    generalize (((W.alloc (.cells #[.int .i64 kd, .int .i64 n, .int .i64 fl, .slice B bb.length cb] 69)).alloc (.cells #[.int .i64 0, .slice none 0 0, .bool false] TLg)).alloc (.cells #[.pointer none, .pointer (some ⟨W.heap.size + 1, 0, none⟩), .pointer none] 52)) = w3 at *
    have hel : ∀ k, k < 3 → ∃ q : Option Addr, w3.cell? ⟨W.heap.size + 1 + 1, k, none⟩ = some (.pointer q) ∧ NoLog w3 (.pointer q) := by
      intro k hk
      match k, hk with
      | 0, _ => exact ⟨none, z2.cell 0 rfl, .inl rfl⟩
      | 1, _ => exact ⟨_, z2.cell 1 rfl, .inr ⟨_, rfl, z1⟩⟩
      | 2, _ => exact ⟨none, z2.cell 2 rfl, .inl rfl⟩
    go_loopw [31] (fun i wr => ∃ k : Nat, k ≤ 3 ∧ i = .int .i64 (k : Int) ∧ Below w3.heap.size w3 wr) (fun i _ => 3 - (intOf i).toNat)
    case atStart => exact ⟨0, by omega, rfl, Below.refl _ _⟩
    case round =>
      obtain ⟨k, hk, rfl, hb9⟩ := hrel
      by_cases hlt : k < 3
      · obtain ⟨q, hq, hno⟩ := hel k hlt
        have m1 := (hb9.cell (p := ⟨W.heap.size + 1 + 1, k, none⟩) (cell_lt hq)).trans hq
        have hno9 := hno.below hb9
        have y0 := z0.below' hb9
        have a3 := y0.cell 3 (v := .slice B bb.length cb) rfl
        have hlt' : (k : Int) < 3 := by omega
        have hAl := allN hno9
        clear hel hq hno
        go_wp2_with (first
          | (go_at_call 35; refine (appendN hno9 _).mono ?_; rintro e w' ⟨rfl, rfl⟩)
          | (go_at_call 40; refine hAl.mono ?_; rintro e w5 ⟨rfl, hb5⟩; have hno5 := hno9.below hb5; have y5 := y0.below' hb5; have a1 := y5.cell 1 (v := .int .i64 n) rfl; have a2 := y5.cell 2 (v := .int .i64 fl) rfl; clear hAl)
          | (go_at_call 46; refine (syncN hno5).mono ?_; rintro e w' ⟨rfl, rfl⟩)
          | (go_at_call 47; refine (dropN hno5 _).mono ?_; rintro e w' ⟨rfl, rfl⟩)
          | (go_at_call 43; refine (crashN hno5 _ _).mono ?_; rintro e w' ⟨rfl, rfl⟩)
          | (go_at_call 44; refine (restartN hno5).mono ?_; rintro e w' ⟨rfl, rfl⟩)
          | (go_at_call 39; refine (baseN hno5).mono ?_; rintro e w' ⟨rfl, rfl⟩)
          | (go_at_call 37; refine (lenN hno5).mono ?_; rintro e w' ⟨rfl, rfl⟩)
          | (go_at_call 38; refine (safeN hno5).mono ?_; rintro e w' ⟨rfl, rfl⟩)
          | (go_at_call 48; refine (downN hno5).mono ?_; rintro e w' ⟨rfl, rfl⟩)
          | (go_at_call 36; refine (segmentsN hno5).mono ?_; rintro e w' ⟨rfl, rfl⟩)
          | (go_at_call 49; refine (copyN hno5).mono ?_; rintro e w' ⟨rfl, rfl⟩))
        go_roundw
        case rel => exact ⟨k + 1, by omega, by go_num, hb9.trans (hb5.mono hb9.size)⟩
        case measure => simp [intOf]; omega
      · obtain rfl : k = 3 := by omega
        have hbW := hb3.trans (hb9.mono hb3.size)
        have hWk := works_07 W wr hbW hh
        clear hel
        go_wp2_with (go_at_call 41; refine hWk.mono ?_; rintro e w12 ⟨rfl, hb12⟩; clear hWk)
        go_ret
        exact ⟨rfl, hb12⟩
  · have gout : ¬ (1 ≤ per) ∨ ¬ (per ≤ 1024) := by omega
    have hN := newL (W.alloc (.cells #[.int .i64 kd, .int .i64 n, .int .i64 fl, .slice B bb.length cb] 69)) per
    simp only [if_neg hin] at hN
    rcases gout with gout | gout
    all_goals
      have gout' := gout
      go_enter Tryd.func14, Tryd.ntmps14
      go_wp2_with (go_at_call 34; refine hN.mono ?_; rintro e w1 ⟨rfl, rfl⟩)
      have z0 : Blk (((W.alloc (.cells #[.int .i64 kd, .int .i64 n, .int .i64 fl, .slice B bb.length cb] 69)).alloc (.cells #[.int .i64 0, .slice none 0 0, .bool false] TLg)).alloc (.cells #[.pointer none, .pointer (some ⟨W.heap.size + 1, 0, none⟩), .pointer none] 52)) W.heap.size 69 #[.int .i64 kd, .int .i64 n, .int .i64 fl, .slice B bb.length cb] := (hbk.alloc _).alloc _
      have z1 : Blk (((W.alloc (.cells #[.int .i64 kd, .int .i64 n, .int .i64 fl, .slice B bb.length cb] 69)).alloc (.cells #[.int .i64 0, .slice none 0 0, .bool false] TLg)).alloc (.cells #[.pointer none, .pointer (some ⟨W.heap.size + 1, 0, none⟩), .pointer none] 52)) (W.heap.size + 1) TLg #[.int .i64 0, .slice none 0 0, .bool false] := (Blk.new' _ _ _ (by simp)).alloc _
      have z2 : Blk (((W.alloc (.cells #[.int .i64 kd, .int .i64 n, .int .i64 fl, .slice B bb.length cb] 69)).alloc (.cells #[.int .i64 0, .slice none 0 0, .bool false] TLg)).alloc (.cells #[.pointer none, .pointer (some ⟨W.heap.size + 1, 0, none⟩), .pointer none] 52)) (W.heap.size + 1 + 1) 52 #[.pointer none, .pointer (some ⟨W.heap.size + 1, 0, none⟩), .pointer none] := Blk.new' _ _ _ (by simp)
      have hb3 : Below W.heap.size W (((W.alloc (.cells #[.int .i64 kd, .int .i64 n, .int .i64 fl, .slice B bb.length cb] 69)).alloc (.cells #[.int .i64 0, .slice none 0 0, .bool false] TLg)).alloc (.cells #[.pointer none, .pointer (some ⟨W.heap.size + 1, 0, none⟩), .pointer none] 52)) := (hb1.alloc (by simp) _).alloc (by simp; omega) _
      generalize (((W.alloc (.cells #[.int .i64 kd, .int .i64 n, .int .i64 fl, .slice B bb.length cb] 69)).alloc (.cells #[.int .i64 0, .slice none 0 0, .bool false] TLg)).alloc (.cells #[.pointer none, .pointer (some ⟨W.heap.size + 1, 0, none⟩), .pointer none] 52)) = w3 at *
      have hel : ∀ k, k < 3 → ∃ q : Option Addr, w3.cell? ⟨W.heap.size + 1 + 1, k, none⟩ = some (.pointer q) ∧ NoLog w3 (.pointer q) := by
        intro k hk
        match k, hk with
        | 0, _ => exact ⟨none, z2.cell 0 rfl, .inl rfl⟩
        | 1, _ => exact ⟨_, z2.cell 1 rfl, .inr ⟨_, rfl, z1⟩⟩
        | 2, _ => exact ⟨none, z2.cell 2 rfl, .inl rfl⟩
      go_loopw [31] (fun i wr => ∃ k : Nat, k ≤ 3 ∧ i = .int .i64 (k : Int) ∧ Below w3.heap.size w3 wr) (fun i _ => 3 - (intOf i).toNat)
      case atStart => exact ⟨0, by omega, rfl, Below.refl _ _⟩
      case round =>
        obtain ⟨k, hk, rfl, hb9⟩ := hrel
        by_cases hlt : k < 3
        · obtain ⟨q, hq, hno⟩ := hel k hlt
          have m1 := (hb9.cell (p := ⟨W.heap.size + 1 + 1, k, none⟩) (cell_lt hq)).trans hq
          have hno9 := hno.below hb9
          have y0 := z0.below' hb9
          have a3 := y0.cell 3 (v := .slice B bb.length cb) rfl
          have hlt' : (k : Int) < 3 := by omega
          have hAl := allN hno9
          clear hel hq hno
          go_wp2_with (first
            | (go_at_call 35; refine (appendN hno9 _).mono ?_; rintro e w' ⟨rfl, rfl⟩)
            | (go_at_call 40; refine hAl.mono ?_; rintro e w5 ⟨rfl, hb5⟩; have hno5 := hno9.below hb5; have y5 := y0.below' hb5; have a1 := y5.cell 1 (v := .int .i64 n) rfl; have a2 := y5.cell 2 (v := .int .i64 fl) rfl; clear hAl)
            | (go_at_call 46; refine (syncN hno5).mono ?_; rintro e w' ⟨rfl, rfl⟩)
            | (go_at_call 47; refine (dropN hno5 _).mono ?_; rintro e w' ⟨rfl, rfl⟩)
            | (go_at_call 43; refine (crashN hno5 _ _).mono ?_; rintro e w' ⟨rfl, rfl⟩)
            | (go_at_call 44; refine (restartN hno5).mono ?_; rintro e w' ⟨rfl, rfl⟩)
            | (go_at_call 39; refine (baseN hno5).mono ?_; rintro e w' ⟨rfl, rfl⟩)
            | (go_at_call 37; refine (lenN hno5).mono ?_; rintro e w' ⟨rfl, rfl⟩)
            | (go_at_call 38; refine (safeN hno5).mono ?_; rintro e w' ⟨rfl, rfl⟩)
            | (go_at_call 48; refine (downN hno5).mono ?_; rintro e w' ⟨rfl, rfl⟩)
            | (go_at_call 36; refine (segmentsN hno5).mono ?_; rintro e w' ⟨rfl, rfl⟩)
            | (go_at_call 49; refine (copyN hno5).mono ?_; rintro e w' ⟨rfl, rfl⟩))
          go_roundw
          case rel => exact ⟨k + 1, by omega, by go_num, hb9.trans (hb5.mono hb9.size)⟩
          case measure => simp [intOf]; omega
        · obtain rfl : k = 3 := by omega
          have hbW := hb3.trans (hb9.mono hb3.size)
          have hWk := works_07 W wr hbW hh
          clear hel
          go_wp2_with (go_at_call 41; refine hWk.mono ?_; rintro e w12 ⟨rfl, hb12⟩; clear hWk)
          go_ret
          exact ⟨rfl, hb12⟩
end Go.Proofs.YtediidajdpdeiaaDoor
