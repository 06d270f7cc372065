/- The calls that the laws of the disk play: the walk. -/
import Derived.Test.YtediidajdpdeiaaLaw06
namespace Go.Proofs.Ytediidajdpdeiaa
open Go.RowKit

/-- a call -/
structure Act06 where
  kind : Int
  n : Int
  flip : Int
  b : List UInt8

def Dk.act (D : Dk) (a : Act06) : Dk :=
  if a.kind = 0 then (D.append (a.b.take 300)).1 else if a.kind = 1 then D.sync.1 else if a.kind = 2 then (D.cut a.n).1 else if a.kind = 3 then (D.swap (a.b.take 300)).1
  else if a.kind = 4 then (D.crash a.n a.flip).1 else if a.kind = 5 then D.restart.1 else D
def plays06 (acts : List Act06) : Dk := let D := (acts.take 60).foldl Dk.act Dk.new; if D.down then D.restart.1 else D

def i64 (n : Int) : Prop := -9223372036854775808 ≤ n ∧ n ≤ 9223372036854775807

/-- calls that lie in memory, as the law was handed them -/
def ActsAt (W : World) (A : Option Addr) (acts : List Act06) : Prop := ∀ j a, acts[j]? = some a → ∃ g o B c, A = some ⟨g, o, none⟩ ∧ g < W.heap.size ∧
  W.cell? ⟨g, o + j * 4, none⟩ = some (.int .i64 a.kind) ∧ W.cell? ⟨g, o + j * 4 + 1, none⟩ = some (.int .i64 a.n) ∧ W.cell? ⟨g, o + j * 4 + 2, none⟩ = some (.int .i64 a.flip) ∧
  W.cell? ⟨g, o + j * 4 + 3, none⟩ = some (.slice B a.b.length c) ∧ a.b.length ≤ c ∧ c ≤ maxLen ∧ RdB W B a.b ∧ i64 a.kind ∧ i64 a.n ∧ i64 a.flip

theorem take_succ_fold {α β : Type} (f : β → α → β) (z : β) (l : List α) (k : Nat) (a : α) (h : l[k]? = some a) : (l.take (k + 1)).foldl f z = f ((l.take k).foldl f z) a := by
  rw [List.take_add_one, h]
  simp

set_option maxHeartbeats 1000000 in
theorem plays_06 (W : World) (A : Option Addr) (acts : List Act06) (c : Nat) (hA : ActsAt W A acts) (hlen : acts.length ≤ maxLen) :
    Calls Try.prog 8 #[.slice A acts.length c] W fun e w' => ∃ b, e = .returned (.pointer (some ⟨b, 0, none⟩)) ∧ Live W w' b (plays06 acts) := by
  unfold maxLen at hlen
  go_enter Try.func8, Try.ntmps8
  go_wp2_with (go_at_call 20; refine (new_L (Below.refl _ _)).mono ?_; rintro e w1 ⟨b, rfl, h1⟩)
  go_loopw [4] (fun i wr => ∃ k : Nat, k ≤ acts.length ∧ k ≤ 60 ∧ i = .int .i64 k ∧ Live W wr b ((acts.take k).foldl Dk.act Dk.new)) (fun i _ => 60 - (intOf i).toNat)
  case atStart => exact ⟨0, by omega, by omega, rfl, h1⟩
  case round =>
    obtain ⟨k, hk, hk6, rfl, hL⟩ := hrel
    by_cases hlt : k < acts.length ∧ k < 60
    · obtain ⟨hlt, hlt6⟩ := hlt
      obtain ⟨a, ha⟩ : ∃ a, acts[k]? = some a := ⟨_, List.getElem?_eq_getElem hlt⟩
      obtain ⟨g, o, B, cb, rfl, hg, e0, e1, e2, e3, hcb, hcm, hB, ik, inn, ifl⟩ := hA k a ha
      have HS := Lib.hid (take_succ_fold Dk.act Dk.new acts k a ha)
      have hbel := hL.below
      have f0 : wr.cell? ⟨g, o + k * 4, none⟩ = some (.int .i64 a.kind) := (hbel.cell (p := ⟨g, o + k * 4, none⟩) hg).trans e0
      have f1 : wr.cell? ⟨g, o + k * 4 + 1, none⟩ = some (.int .i64 a.n) := (hbel.cell (p := ⟨g, o + k * 4 + 1, none⟩) hg).trans e1
      have f2 : wr.cell? ⟨g, o + k * 4 + 2, none⟩ = some (.int .i64 a.flip) := (hbel.cell (p := ⟨g, o + k * 4 + 2, none⟩) hg).trans e2
      have f3 : wr.cell? ⟨g, o + k * 4 + 3, none⟩ = some (.slice B a.b.length cb) := (hbel.cell (p := ⟨g, o + k * 4 + 3, none⟩) hg).trans e3
      clear e0 e1 e2 e3 ha
      obtain ⟨kd, n, fl, bb⟩ := a
      simp only at f0 f1 f2 f3 hcb hB ik inn ifl
      obtain ⟨l, hl⟩ : ∃ l, l = bb.take 300 := ⟨_, rfl⟩
      have l1 : l.length ≤ bb.length := by rw [hl, List.length_take]; omega
      have l2 : l.length ≤ 300 := by rw [hl, List.length_take]; omega
      have l3 : (l.length : Int) ≤ (cb : Int) := by omega
      have hr : RdB W B l := hl ▸ hB.take 300
      have hmin : ∀ w, (Builtin.min_ #[3, 3] 3 #[.int .i64 (bb.length : Int), .int .i64 300]).run Try.prog w = .ok (.int .i64 (l.length : Int)) w := by
        intro w
        rw [run_min_int2]
        have : (l.length : Int) = if (300 : Int) < (bb.length : Int) then 300 else (bb.length : Int) := by rw [hl, List.length_take]; split <;> omega
        rw [this]
      have HL := Lib.hid hl
      clear hl hB hcb hA
      have hL' := hL.mono ((Below.refl wr.heap.size wr).alloc (Nat.le_refl _) (.cells #[.int .i64 kd, .int .i64 n, .int .i64 fl, .slice B bb.length cb] 37))
      have KL := Lib.hid hlt
      unfold i64 at ik inn ifl
      by_cases k0 : kd = 0
      · subst k0
        go_wp2_with (go_at_call 9; refine (append_L hL' B l cb (by omega) (hr.arg hL'.below)).mono ?_; rintro e w2 ⟨rfl, h2, -⟩)
        go_roundw
        case rel => exact ⟨k + 1, by omega, by omega, by go_num, by rw [HS.out, Dk.act]; simpa [HL.out] using h2⟩
        case measure => simp [intOf]; omega
      have n0 : (kd == 0) = false := by simpa using k0
      by_cases k1 : kd = 1
      · subst k1
        go_wp2_with (go_at_call 17; refine (sync_L hL').mono ?_; rintro e w2 ⟨rfl, h2, -⟩)
        go_roundw
        case rel => exact ⟨k + 1, by omega, by omega, by go_num, by rw [HS.out, Dk.act]; simpa [HL.out] using h2⟩
        case measure => simp [intOf]; omega
      have n1 : (kd == 1) = false := by simpa using k1
      by_cases k2 : kd = 2
      · subst k2
        go_wp2_with (go_at_call 14; refine (cut_L hL' n).mono ?_; rintro e w2 ⟨rfl, h2, -⟩)
        go_roundw
        case rel => exact ⟨k + 1, by omega, by omega, by go_num, by rw [HS.out, Dk.act]; simpa [HL.out] using h2⟩
        case measure => simp [intOf]; omega
      have n2 : (kd == 2) = false := by simpa using k2
      by_cases k3 : kd = 3
      · subst k3
        go_wp2_with (go_at_call 10; refine (swap_L hL' B l cb (by omega) (hr.arg hL'.below)).mono ?_; rintro e w2 ⟨rfl, h2, -⟩)
        go_roundw
        case rel => exact ⟨k + 1, by omega, by omega, by go_num, by rw [HS.out, Dk.act]; simpa [HL.out] using h2⟩
        case measure => simp [intOf]; omega
      have n3 : (kd == 3) = false := by simpa using k3
      by_cases k4 : kd = 4
      · subst k4
        go_wp2_with (go_at_call 11; refine (crash_L hL' n fl inn.2 ifl.2 inn.1 ifl.1).mono ?_; rintro e w2 ⟨rfl, h2, -⟩)
        go_roundw
        case rel => exact ⟨k + 1, by omega, by omega, by go_num, by rw [HS.out, Dk.act]; simpa [HL.out] using h2⟩
        case measure => simp [intOf]; omega
      have n4 : (kd == 4) = false := by simpa using k4
      by_cases k5 : kd = 5
      · subst k5
        go_wp2_with (go_at_call 12; refine (restart_L hL').mono ?_; rintro e w2 ⟨rfl, h2, -⟩)
        go_roundw
        case rel => exact ⟨k + 1, by omega, by omega, by go_num, by rw [HS.out, Dk.act]; simpa [HL.out] using h2⟩
        case measure => simp [intOf]; omega
      have n5 : (kd == 5) = false := by simpa using k5
      go_wp2
      go_roundw
      case rel => exact ⟨k + 1, by omega, by omega, by go_num, by rw [HS.out, Dk.act]; simpa [k0, k1, k2, k3, k4, k5] using hL'⟩
      case measure => simp [intOf]; omega
    · have hge : acts.length ≤ k ∨ 60 ≤ k := by omega
      have HE : Hid ((acts.take k).foldl Dk.act Dk.new = (acts.take 60).foldl Dk.act Dk.new) := by
        show _ = _
        rcases hge with h | h
        · rw [List.take_of_length_le h, List.take_of_length_le (by omega)]
        · rw [show k = 60 by omega]
      obtain ⟨D, hD⟩ : ∃ D, D = (acts.take k).foldl Dk.act Dk.new := ⟨_, rfl⟩
      rw [← hD] at hL
      have HD := Lib.hid hD
      clear hD
      obtain ⟨dn, al, kp⟩ := D
      by_cases hk2 : k < acts.length
      all_goals
        clear hA
        cases dn
        all_goals
          go_wp2_with (first
            | (go_at_call 19; refine (down_L hL).mono ?_; rintro e w2 ⟨rfl, rfl⟩)
            | (go_at_call 12; refine (restart_L hL).mono ?_; rintro e w2 ⟨rfl, h2, -⟩))
          go_ret
          refine ⟨b, rfl, ?_⟩
          unfold plays06
          rw [← HE.out, ← HD.out]
          first | exact hL | exact h2
end Go.Proofs.Ytediidajdpdeiaa
