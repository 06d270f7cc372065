/- The calls that the laws of the log play (layer 7): the walk. -/
import Derived.Test.YtediidajdpdeiaaDoorAll07
import Derived.Test.YtediidajdpdeiaaDoorAlike07
import Derived.Test.YtediidajdpdeiaaDoorRowL
namespace Go.Proofs.YtediidajdpdeiaaDoor
open Go.RowKit CrcM
set_option maxRecDepth 100000

/-- a call -/
structure Act07 where
  kind : Int
  n : Int
  flip : Int
  b : List UInt8

/-- calls that lie in memory, as the law was handed them -/
def ActsAt (W : World) (A : Option Addr) (acts : List Act07) : Prop := ∀ j a, acts[j]? = some a → ∃ g o B c, A = some ⟨g, o, none⟩ ∧ g < W.heap.size ∧
  W.cell? ⟨g, o + j * 4, none⟩ = some (.int .i64 a.kind) ∧ W.cell? ⟨g, o + j * 4 + 1, none⟩ = some (.int .i64 a.n) ∧ W.cell? ⟨g, o + j * 4 + 2, none⟩ = some (.int .i64 a.flip) ∧
  W.cell? ⟨g, o + j * 4 + 3, none⟩ = some (.slice B a.b.length c) ∧ a.b.length ≤ c ∧ c ≤ maxLen ∧ RdB W B a.b ∧ i64 a.kind ∧ i64 a.n ∧ i64 a.flip

/-- WHAT plays leaves: a log that is up and has the law -/
def Played (W : World) (e : Ending) (w' : World) : Prop := ∃ b L, e = .returned (.pointer (some ⟨b, 0, none⟩)) ∧ LiveG W w' b L Non ∧ L.inv 60 ∧ L.down = false

set_option maxHeartbeats 1000000 in
theorem plays_07 (W : World) (hh : HalfAt W) (per : Int) (A : Option Addr) (acts : List Act07) (c : Nat) (hA : ActsAt W A acts) (hlen : acts.length ≤ maxLen) :
    Calls Tryd.prog 42 #[.int .i64 per, .slice A acts.length c] W (Played W) := by
  unfold maxLen at hlen
  obtain ⟨kp, hp1, hp2, hp3⟩ := rem_up per 9 (by decide)
  have hpr := rem_any per 9 (by decide)
  have wz1 : IntKind.i64.wrap (per.tmod 9) = per.tmod 9 := by rw [IntKind.wrap_i64]; omega
  have wz2 : IntKind.i64.wrap (per.tmod 9 + 9) = per.tmod 9 + 9 := by rw [IntKind.wrap_i64]; omega
  have wz3 : IntKind.i64.wrap (kp : Int) = (kp : Int) := by rw [IntKind.wrap_i64]; omega
  have wz4 : IntKind.i64.wrap (1 + (kp : Int)) = 1 + (kp : Int) := by rw [IntKind.wrap_i64]; omega
  go_enter Tryd.func42, Tryd.ntmps42
  go_wp2_with (go_at_call 34; refine (new_G (Below.refl _ _) (1 + (kp : Int)) (by omega) (by omega)).mono ?_; rintro e w1 ⟨b, rfl, h1, -⟩)
  have hinv0 : (Lg.new (1 + (kp : Int)).toNat).inv 0 := Lg.inv_new (by omega) (by omega)
  have h1' := h1.sub (X' := Non) (fun _ h => h.elim)
  generalize Lg.new (1 + (kp : Int)).toNat = L0 at *
  clear wz1 wz2 wz3 wz4 hp1 hp2 hp3 hpr h1
  go_loopw [7] (fun i wr => ∃ (k : Nat) (L : Lg), k ≤ acts.length ∧ k ≤ 50 ∧ i = .int .i64 k ∧ L.inv k ∧ LiveG W wr b L Non) (fun i _ => 50 - (intOf i).toNat)
  case atStart => exact ⟨0, L0, by omega, by omega, rfl, hinv0, h1'⟩
  case round =>
    obtain ⟨k, L, hk, hk6, rfl, hinv, hL⟩ := hrel
    obtain ⟨i0, i1, i2, i3, i4⟩ := hinv.calls (by omega)
    have hlL := hinv.len_le
    by_cases hlt : k < acts.length ∧ k < 50
    · obtain ⟨hlt, hlt6⟩ := hlt
      obtain ⟨a, ha⟩ : ∃ a, acts[k]? = some a := ⟨_, List.getElem?_eq_getElem hlt⟩
      obtain ⟨g, o, B, cb, rfl, hg, e0, e1, e2, e3, hcb, hcm, hB, ik, inn, ifl⟩ := hA k a ha
      have hbel := hL.below
      have f0 : wr.cell? ⟨g, o + k * 4, none⟩ = some (.int .i64 a.kind) := (hbel.cell (p := ⟨g, o + k * 4, none⟩) hg).trans e0
      have f1 : wr.cell? ⟨g, o + k * 4 + 1, none⟩ = some (.int .i64 a.n) := (hbel.cell (p := ⟨g, o + k * 4 + 1, none⟩) hg).trans e1
      have f2 : wr.cell? ⟨g, o + k * 4 + 2, none⟩ = some (.int .i64 a.flip) := (hbel.cell (p := ⟨g, o + k * 4 + 2, none⟩) hg).trans e2
      have f3 : wr.cell? ⟨g, o + k * 4 + 3, none⟩ = some (.slice B a.b.length cb) := (hbel.cell (p := ⟨g, o + k * 4 + 3, none⟩) hg).trans e3
      clear e0 e1 e2 e3 ha
      obtain ⟨kd, n, fl, bb⟩ := a
      simp only at f0 f1 f2 f3 hcb hB ik inn ifl
      obtain ⟨l, hl⟩ : ∃ l, l = bb.take 300 := ⟨_, rfl⟩
      have l1 : l.length ≤ bb.length := by rw [hl, List.length_take]; omega
      have l2 : l.length ≤ 300 := by rw [hl, List.length_take]; omega
      have l3 : (l.length : Int) ≤ (cb : Int) := by omega
      have hr : RdB W B l := hl ▸ hB.take 300
      have hmin : ∀ w, (Builtin.min_ #[3, 3] 3 #[.int .i64 (bb.length : Int), .int .i64 300]).run Tryd.prog w = .ok (.int .i64 (l.length : Int)) w := by
        intro w
        rw [run_min_int2]
        have : (l.length : Int) = if (300 : Int) < (bb.length : Int) then 300 else (bb.length : Int) := by rw [hl, List.length_take]; split <;> omega
        rw [this]
      have i0' := i0 l (by omega)
      clear hl hB hcb hA i0
      have hL' := hL.mono' ((Below.refl wr.heap.size wr).alloc (Nat.le_refl _) (.cells #[.int .i64 kd, .int .i64 n, .int .i64 fl, .slice B bb.length cb] 69))
      have KL := Lib.hid hlt
      unfold i64 at ik inn ifl
      by_cases k0 : kd = 0
      · subst k0
        go_wp2_with (go_at_call 35; refine (append_G hL' hh (by omega) B l cb (hr.arg hL'.below) (by omega)).mono ?_; rintro e w2 ⟨rfl, h2, -⟩)
        go_roundw
        case rel => exact ⟨k + 1, _, by omega, by omega, by go_num, i0', h2⟩
        case measure => simp [intOf]; omega
      have n0 : (kd == 0) = false := by simpa using k0
      by_cases k1 : kd = 1
      · subst k1
        go_wp2_with (go_at_call 46; refine (sync_G hL').mono ?_; rintro e w2 ⟨rfl, h2, -⟩)
        go_roundw
        case rel => exact ⟨k + 1, _, by omega, by omega, by go_num, i1, h2⟩
        case measure => simp [intOf]; omega
      have n1 : (kd == 1) = false := by simpa using k1
      by_cases k2 : kd = 2
      · subst k2
        go_wp2_with (go_at_call 47; refine (drop_G hL' n).mono ?_; rintro e w2 ⟨rfl, h2, -⟩)
        go_roundw
        case rel => exact ⟨k + 1, _, by omega, by omega, by go_num, i2 n, h2⟩
        case measure => simp [intOf]; omega
      have n2 : (kd == 2) = false := by simpa using k2
      by_cases k3 : kd = 3
      · subst k3
        go_wp2_with (go_at_call 43; refine (crash_G hL' n fl inn.2 ifl.2 inn.1 ifl.1).mono ?_; rintro e w2 ⟨rfl, h2, -⟩)
        go_roundw
        case rel => exact ⟨k + 1, _, by omega, by omega, by go_num, i3 n fl, h2⟩
        case measure => simp [intOf]; omega
      have n3 : (kd == 3) = false := by simpa using k3
      by_cases k4 : kd = 4
      · subst k4
        go_wp2_with (go_at_call 44; refine (restart_G hL' hh).mono ?_; rintro e w2 ⟨rfl, h2, -⟩)
        go_roundw
        case rel => exact ⟨k + 1, _, by omega, by omega, by go_num, i4, h2⟩
        case measure => simp [intOf]; omega
      have n4 : (kd == 4) = false := by simpa using k4
      go_wp2
      go_roundw
      case rel => exact ⟨k + 1, _, by omega, by omega, by go_num, hinv.mono (by omega), hL'⟩
      case measure => simp [intOf]; omega
    · have hge : acts.length ≤ k ∨ 50 ≤ k := by omega
      have hinv' : L.inv 60 := hinv.mono (by omega)
      by_cases hk2 : k < acts.length
      all_goals
        clear hA i0 i1 i2 i3 i4
        cases hd : L.down
        · go_wp2_with (first
            | (go_at_call 48; refine (down_G hL).mono ?_; rw [hd]; rintro e w2 ⟨rfl, rfl⟩))
          go_ret
          exact ⟨b, L, rfl, hL, hinv', hd⟩
        · obtain ⟨L', hr, hR⟩ := hinv'.restart hd (by omega)
          have HR := Lib.hid hr
          clear hr
          go_wp2_with (first
            | (go_at_call 48; refine (down_G hL).mono ?_; rw [hd]; rintro e w2 ⟨rfl, rfl⟩)
            | (go_at_call 44; refine (restart_G hL hh).mono ?_; rw [HR.out]; rintro e w2 ⟨rfl, h2, -⟩))
          go_ret
          exact ⟨b, L', rfl, h2, hR.inv, hR.down⟩
end Go.Proofs.YtediidajdpdeiaaDoor
