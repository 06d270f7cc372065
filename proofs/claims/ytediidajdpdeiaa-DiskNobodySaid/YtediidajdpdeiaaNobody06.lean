/- Disks that New did not make: the walks. -/
import Derived.Test.YtediidajdpdeiaaLaw06
import Derived.Test.YtediidajdpdeiaaPlays06
namespace Go.Proofs.Ytediidajdpdeiaa
open Go.RowKit

/-- no disk, or one that New did not make -/
def Nobody (w : World) (p : Value) : Prop := p = .pointer none ∨ ∃ b, p = .pointer (some ⟨b, 0, none⟩) ∧ Blk w b 51 #[.bool false, .bool false, .slice none 0 0, .int .i64 0]

theorem none_N {w : World} {p : Value} (hN : Nobody w p) : Calls Try.prog 27 #[p] w fun e w' => e = .returned (.bool true) ∧ w = w' := by
  rcases hN with rfl | ⟨b, rfl, h⟩
  · go_enter Try.func27, Try.ntmps27
    go_wp2
    go_ret
    exact ⟨rfl, rfl⟩
  · have c0 : w.cell? ⟨b, 0, none⟩ = some (.bool false) := h.cell 0 rfl
    go_enter Try.func27, Try.ntmps27
    go_wp2
    go_ret
    exact ⟨rfl, rfl⟩

theorem asked_N {w : World} {p : Value} (hN : Nobody w p) : Calls Try.prog 24 #[p] w fun e w' => e = .returned (.int .i64 1) ∧ w = w' := by
  go_enter Try.func24, Try.ntmps24
  go_wp2_with (go_at_call 27; refine (none_N hN).mono ?_; rintro e w9 ⟨rfl, rfl⟩)
  go_ret
  exact ⟨rfl, rfl⟩

theorem Append_N {w : World} {p : Value} (hN : Nobody w p) (B : Option Addr) (n c : Nat) : Calls Try.prog 9 #[p, .slice B n c] w fun e w' => e = .returned (.int .i64 1) ∧ w = w' := by
  go_enter Try.func9, Try.ntmps9
  go_wp2_with (go_at_call 24; refine (asked_N hN).mono ?_; rintro e w9 ⟨rfl, rfl⟩)
  go_ret
  exact ⟨rfl, rfl⟩

theorem Sync_N {w : World} {p : Value} (hN : Nobody w p) : Calls Try.prog 17 #[p] w fun e w' => e = .returned (.int .i64 1) ∧ w = w' := by
  go_enter Try.func17, Try.ntmps17
  go_wp2_with (go_at_call 24; refine (asked_N hN).mono ?_; rintro e w9 ⟨rfl, rfl⟩)
  go_ret
  exact ⟨rfl, rfl⟩

theorem Cut_N {w : World} {p : Value} (hN : Nobody w p) (n : Int) : Calls Try.prog 14 #[p, .int .i64 n] w fun e w' => e = .returned (.int .i64 1) ∧ w = w' := by
  go_enter Try.func14, Try.ntmps14
  go_wp2_with (go_at_call 24; refine (asked_N hN).mono ?_; rintro e w9 ⟨rfl, rfl⟩)
  go_ret
  exact ⟨rfl, rfl⟩

theorem Swap_N {w : World} {p : Value} (hN : Nobody w p) (B : Option Addr) (n c : Nat) : Calls Try.prog 10 #[p, .slice B n c] w fun e w' => e = .returned (.int .i64 1) ∧ w = w' := by
  go_enter Try.func10, Try.ntmps10
  go_wp2_with (go_at_call 24; refine (asked_N hN).mono ?_; rintro e w9 ⟨rfl, rfl⟩)
  go_ret
  exact ⟨rfl, rfl⟩

theorem Crash_N {w : World} {p : Value} (hN : Nobody w p) (k f : Int) : Calls Try.prog 11 #[p, .int .i64 k, .int .i64 f] w fun e w' => e = .returned (.int .i64 1) ∧ w = w' := by
  go_enter Try.func11, Try.ntmps11
  go_wp2_with (go_at_call 24; refine (asked_N hN).mono ?_; rintro e w9 ⟨rfl, rfl⟩)
  go_ret
  exact ⟨rfl, rfl⟩

theorem Restart_N {w : World} {p : Value} (hN : Nobody w p) : Calls Try.prog 12 #[p] w fun e w' => e = .returned (.int .i64 1) ∧ w = w' := by
  go_enter Try.func12, Try.ntmps12
  go_wp2_with (go_at_call 27; refine (none_N hN).mono ?_; rintro e w9 ⟨rfl, rfl⟩)
  go_ret
  exact ⟨rfl, rfl⟩

theorem Read_N {w : World} {p : Value} (hN : Nobody w p) : Calls Try.prog 13 #[p] w fun e w' => e = .returned (.tuple #[.slice none 0 0, .int .i64 1]) ∧ w = w' := by
  go_enter Try.func13, Try.ntmps13
  go_wp2_with (go_at_call 24; refine (asked_N hN).mono ?_; rintro e w9 ⟨rfl, rfl⟩)
  go_ret2
  exact ⟨rfl, rfl⟩

theorem Down_N {w : World} {p : Value} (hN : Nobody w p) : Calls Try.prog 19 #[p] w fun e w' => e = .returned (.bool true) ∧ w = w' := by
  go_enter Try.func19, Try.ntmps19
  go_wp2_with (go_at_call 27; refine (none_N hN).mono ?_; rintro e w9 ⟨rfl, rfl⟩)
  go_ret
  exact ⟨rfl, rfl⟩

theorem Size_N {w : World} {p : Value} (hN : Nobody w p) : Calls Try.prog 18 #[p] w fun e w' => e = .returned (.int .i64 0) ∧ w = w' := by
  go_enter Try.func18, Try.ntmps18
  go_wp2_with (go_at_call 27; refine (none_N hN).mono ?_; rintro e w9 ⟨rfl, rfl⟩)
  go_ret
  exact ⟨rfl, rfl⟩

theorem Kept_N {w : World} {p : Value} (hN : Nobody w p) : Calls Try.prog 16 #[p] w fun e w' => e = .returned (.slice none 0 0) ∧ w = w' := by
  go_enter Try.func16, Try.ntmps16
  go_wp2_with (go_at_call 27; refine (none_N hN).mono ?_; rintro e w9 ⟨rfl, rfl⟩)
  go_ret
  exact ⟨rfl, rfl⟩

theorem Copy_N {w : World} {p : Value} (hN : Nobody w p) : Calls Try.prog 21 #[p] w fun e w' => e = .returned (.pointer none) ∧ w = w' := by
  go_enter Try.func21, Try.ntmps21
  go_wp2_with (go_at_call 27; refine (none_N hN).mono ?_; rintro e w9 ⟨rfl, rfl⟩)
  go_ret
  exact ⟨rfl, rfl⟩

set_option maxHeartbeats 2000000 in
set_option maxRecDepth 100000 in
theorem nobody_06 (W : World) (a : Act06) (B : Option Addr) (c : Nat) (_ : a.b.length ≤ c) (_ : c ≤ maxLen) (_ : RdB W B a.b) (_ : i64 a.kind) (_ : i64 a.n) (_ : i64 a.flip) :
    Calls Try.prog 7 #[.agg #[.int .i64 a.kind, .int .i64 a.n, .int .i64 a.flip, .slice B a.b.length c]] W fun e w' => e = .returned (.bool true) ∧ Below W.heap.size W w' := by
  obtain ⟨kd, n, fl, bb⟩ := a
  simp only
  generalize bb.length = m
  go_enter Try.func7, Try.ntmps7
  go_wp2
  have q1 : Blk ((((W.alloc (.cells #[.int .i64 kd, .int .i64 n, .int .i64 fl, .slice B m c] 37)).alloc (.cells #[.bool false, .bool false, .slice none 0 0, .int .i64 0] 51)).alloc (.cells #[.pointer none, .pointer (some ⟨W.heap.size + 1, 0, none⟩)] 24))) W.heap.size 37 #[.int .i64 kd, .int .i64 n, .int .i64 fl, .slice B m c] := ((Blk.new _ _ _).alloc _).alloc _
  have q2 : Blk ((((W.alloc (.cells #[.int .i64 kd, .int .i64 n, .int .i64 fl, .slice B m c] 37)).alloc (.cells #[.bool false, .bool false, .slice none 0 0, .int .i64 0] 51)).alloc (.cells #[.pointer none, .pointer (some ⟨W.heap.size + 1, 0, none⟩)] 24))) (W.heap.size + 1) 51 #[.bool false, .bool false, .slice none 0 0, .int .i64 0] := (Blk.new' _ _ _ (by simp)).alloc _
  have q3 : Blk ((((W.alloc (.cells #[.int .i64 kd, .int .i64 n, .int .i64 fl, .slice B m c] 37)).alloc (.cells #[.bool false, .bool false, .slice none 0 0, .int .i64 0] 51)).alloc (.cells #[.pointer none, .pointer (some ⟨W.heap.size + 1, 0, none⟩)] 24))) (W.heap.size + 2) 24 #[.pointer none, .pointer (some ⟨W.heap.size + 1, 0, none⟩)] := Blk.new' _ _ _ (by simp)
  have q4 : Below W.heap.size W ((((W.alloc (.cells #[.int .i64 kd, .int .i64 n, .int .i64 fl, .slice B m c] 37)).alloc (.cells #[.bool false, .bool false, .slice none 0 0, .int .i64 0] 51)).alloc (.cells #[.pointer none, .pointer (some ⟨W.heap.size + 1, 0, none⟩)] 24))) :=
    (((Below.refl _ _).alloc (Nat.le_refl _) _).alloc (by simp) _).alloc (by simp; omega) _
  generalize ((((W.alloc (.cells #[.int .i64 kd, .int .i64 n, .int .i64 fl, .slice B m c] 37)).alloc (.cells #[.bool false, .bool false, .slice none 0 0, .int .i64 0] 51)).alloc (.cells #[.pointer none, .pointer (some ⟨W.heap.size + 1, 0, none⟩)] 24))) = w at *
  have n0 : Nobody w (.pointer none) := .inl rfl
  have n1 : Nobody w (.pointer (some ⟨W.heap.size + 1, 0, none⟩)) := .inr ⟨_, rfl, q2⟩
  have a0 : w.cell? ⟨W.heap.size, 1, none⟩ = some (.int .i64 n) := q1.cell 1 rfl
  have a1 : w.cell? ⟨W.heap.size, 2, none⟩ = some (.int .i64 fl) := q1.cell 2 rfl
  have a2 : w.cell? ⟨W.heap.size, 3, none⟩ = some (.slice B m c) := q1.cell 3 rfl
  have a3 : w.cell? ⟨W.heap.size + 2, 0, none⟩ = some (.pointer none) := q3.cell 0 rfl
  have a4 : w.cell? ⟨W.heap.size + 2, 1, none⟩ = some (.pointer (some ⟨W.heap.size + 1, 0, none⟩)) := q3.cell 1 rfl
  clear q1 q2 q3
  go_loop [11] (fun i => ∃ k : Nat, k ≤ 2 ∧ i = .int .i64 k) (fun i => 2 - (intOf i).toNat)
  case atStart => exact ⟨0, by omega, rfl⟩
  case round =>
    obtain ⟨k, hk, rfl⟩ := hrel
    rcases k with _ | _ | _ | k
    · have hN := n0
      go_wp2_with (first
          | (go_at_call 13; refine (Read_N hN).mono ?_; rintro e w9 ⟨rfl, rfl⟩)
          | (go_at_call 9; refine (Append_N hN _ _ _).mono ?_; rintro e w9 ⟨rfl, rfl⟩)
          | (go_at_call 17; refine (Sync_N hN).mono ?_; rintro e w9 ⟨rfl, rfl⟩)
          | (go_at_call 14; refine (Cut_N hN _).mono ?_; rintro e w9 ⟨rfl, rfl⟩)
          | (go_at_call 10; refine (Swap_N hN _ _ _).mono ?_; rintro e w9 ⟨rfl, rfl⟩)
          | (go_at_call 11; refine (Crash_N hN _ _).mono ?_; rintro e w9 ⟨rfl, rfl⟩)
          | (go_at_call 12; refine (Restart_N hN).mono ?_; rintro e w9 ⟨rfl, rfl⟩)
          | (go_at_call 19; refine (Down_N hN).mono ?_; rintro e w9 ⟨rfl, rfl⟩)
          | (go_at_call 18; refine (Size_N hN).mono ?_; rintro e w9 ⟨rfl, rfl⟩)
          | (go_at_call 16; refine (Kept_N hN).mono ?_; rintro e w9 ⟨rfl, rfl⟩)
          | (go_at_call 21; refine (Copy_N hN).mono ?_; rintro e w9 ⟨rfl, rfl⟩))
      go_round
      case rel => exact ⟨1, by omega, rfl⟩
      case measure => simp [intOf]
    · have hN := n1
      go_wp2_with (first
          | (go_at_call 13; refine (Read_N hN).mono ?_; rintro e w9 ⟨rfl, rfl⟩)
          | (go_at_call 9; refine (Append_N hN _ _ _).mono ?_; rintro e w9 ⟨rfl, rfl⟩)
          | (go_at_call 17; refine (Sync_N hN).mono ?_; rintro e w9 ⟨rfl, rfl⟩)
          | (go_at_call 14; refine (Cut_N hN _).mono ?_; rintro e w9 ⟨rfl, rfl⟩)
          | (go_at_call 10; refine (Swap_N hN _ _ _).mono ?_; rintro e w9 ⟨rfl, rfl⟩)
          | (go_at_call 11; refine (Crash_N hN _ _).mono ?_; rintro e w9 ⟨rfl, rfl⟩)
          | (go_at_call 12; refine (Restart_N hN).mono ?_; rintro e w9 ⟨rfl, rfl⟩)
          | (go_at_call 19; refine (Down_N hN).mono ?_; rintro e w9 ⟨rfl, rfl⟩)
          | (go_at_call 18; refine (Size_N hN).mono ?_; rintro e w9 ⟨rfl, rfl⟩)
          | (go_at_call 16; refine (Kept_N hN).mono ?_; rintro e w9 ⟨rfl, rfl⟩)
          | (go_at_call 21; refine (Copy_N hN).mono ?_; rintro e w9 ⟨rfl, rfl⟩))
      go_round
      case rel => exact ⟨2, by omega, rfl⟩
      case measure => simp [intOf]
    · go_wp2_with (go_at_call 15; refine (works_06 W _ q4).mono ?_; rintro e w9 ⟨rfl, h9⟩)
      go_ret
      exact ⟨rfl, h9⟩
    · omega
end Go.Proofs.Ytediidajdpdeiaa
