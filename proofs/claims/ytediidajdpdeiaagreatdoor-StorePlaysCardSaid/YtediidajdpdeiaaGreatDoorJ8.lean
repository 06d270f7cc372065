/- The document's numbers (layer 1), walked. -/
import Derived.Test.YtediidajdpdeiaaGreatDoorJ2
import Derived.Test.YtediidajdpdeiaaGreatDoorJ1
import Derived.Test.YtediidajdpdeiaaGreatDoorJ5
import Derived.Test.YtediidajdpdeiaaGreatDoorJ7

namespace Go.Proofs.YtediidajdpdeiaaGreatDoor
open Go.RowKit CrcM
set_option maxRecDepth 100000

theorem refNum_B (w : World) (A : Option Addr) (c : Nat) (l : List UInt8) (hr : Rd Non w A l) (hl : l.length ≤ 70368744177664) (n : Nat) (hn : n ≤ 4611686018427387904) :
    Calls Tryz.prog 118 #[.slice A l.length c, .int .i64 (n : Int)] w (NumPair w (l ++ numB n)) := by
  obtain ⟨i, hi, hz, hs, hby⟩ := info_parts info_u8
  have hr1 := hr.fr ((Fr.refl Non w).alloc (.cells #[] TB))
  go_enter Tryz.func118, Tryz.ntmps118
  go_wp2_with (at_builtin
               refine wpList_appB rfl (.tmp 13) (.tmp 14) 30 rfl i Tryz.underlying30 hi hz hs hby w.heap.size _ 0 [] rfl (ownsB_none w) Non A l.length c l rfl rfl hr1 (by omega) (by simp) ?_
               intro v1 w1 hown1 hgrow1 hat1
               rw [Nat.zero_add, List.nil_append] at hown1)
  have hrow : ∀ j, (Value.slice (some ⟨w.heap.size, 0, none⟩) 0 0).ownBlock = some j → w.heap.size ≤ j := fun j hj => Nat.le_of_eq (Option.some.inj hj)
  have hrow : ∀ j, (Value.slice (some ⟨w.heap.size, 0, none⟩) 0 0).ownBlock = some j → w.heap.size ≤ j := fun j hj => Nat.le_of_eq (Option.some.inj hj)
  have hb1 : Below w.heap.size w w1 := ((Below.refl _ _).alloc (Nat.le_refl _) _).grown hgrow1 (by simp) hrow
  go_loopw [1, 6] (fun q s wr => ∃ (k : Nat) (xs : List UInt8), k ≤ n ∧ q = .int .i64 (k : Int) ∧ xs ++ numB k = l ++ numB n ∧ wr.ownsRow w.heap.size TB 1 s xs.length (xs.map byteV) ∧ Below w.heap.size w wr) (fun q _ _ => (intOf q).toNat)
  case atStart => exact ⟨n, l, Nat.le_refl _, rfl, rfl, hown1, hb1⟩
  case round =>
    obtain ⟨k, xs, hk, rfl, hxs, ho, hbl⟩ := hrel
    have hx2 : xs.length ≤ l.length + 10 := by
      have := congrArg List.length hxs
      have := numB_10 (n := n) (by omega)
      simp only [List.length_append] at *
      omega
    obtain ⟨Av, cv, rfl, _, _⟩ := own_val ho
    by_cases h : k < 128
    · have h' : ¬ (128 : Int) ≤ (k : Int) := by omega
      rw [numB_lt h] at hxs
      have HX := Lib.hid hxs
      clear hxs
      have hx : Value.int .u8 (k : Int) = byteV (UInt8.ofNat k) := by
        unfold byteV; rw [UInt8.toNat_ofNat', Nat.mod_eq_of_lt (by omega)]
      have HY := Lib.hid hx
      clear hx
      go_wp2_with (at_builtin
                   refine wpList_appB rfl (.tmp 27) (.tmp 30) 30 rfl i Tryz.underlying30 hi hz hs hby w.heap.size _ xs.length xs rfl (ho.alloc _) Non _ 1 1 [UInt8.ofNat k] rfl rfl (rd_one wr _ _ (by first | exact HY.out | (simp; exact HY.out)) _) (by omega) (by have := hbl.size; simp; omega) ?_
                   intro v2 w2 hown2 hgrow hat)
      go_ret2
      rw [HX.out] at hown2
      refine ⟨_, rfl, ?_, (hbl.alloc hbl.size _).grown hgrow (by have := hbl.size; simp; omega) (fun j hj => (ho.lt j hj).1)⟩
      have e : (l ++ numB n).length = xs.length + 1 := by rw [← HX.out]; simp
      rw [e]; exact hown2
    · have h' : (128 : Int) ≤ (k : Int) := by omega
      rw [numB_ge h, List.append_cons] at hxs
      have HX := Lib.hid hxs
      clear hxs
      have hx : Value.int .u8 ((k : Int) % 128 + 128) = byteV (UInt8.ofNat (k % 128 + 128)) := by
        unfold byteV; rw [UInt8.toNat_ofNat', Nat.mod_eq_of_lt (by omega)]
        congr 1
      have HY := Lib.hid hx
      clear hx
      go_wp2_with (at_builtin
                   refine wpList_appB rfl (.tmp 18) (.tmp 23) 30 rfl i Tryz.underlying30 hi hz hs hby w.heap.size _ xs.length xs rfl (ho.alloc _) Non _ 1 1 [UInt8.ofNat (k % 128 + 128)] rfl rfl (rd_one wr _ _ HY.out _) (by omega) (by have := hbl.size; simp; omega) ?_
                   intro v2 w2 hown2 hgrow hat)
      go_roundw
      case rel => exact ⟨k / 128, xs ++ [UInt8.ofNat (k % 128 + 128)], by omega, by go_num, HX.out, by rw [List.length_append]; exact hown2, (hbl.alloc hbl.size _).grown hgrow (by have := hbl.size; simp; omega) (fun j hj => (ho.lt j hj).1)⟩
      case measure => simp [intOf]; omega

set_option maxHeartbeats 1000000 in
theorem refReadNum_B (w : World) (A : Option Addr) (c : Nat) (l : List UInt8) (hr : Rd Non w A l) (hl : l.length ≤ maxLen) :
    Calls Tryz.prog 136 #[.slice A l.length c] w (ReadDid w l) := by
  unfold maxLen at hl
  go_enter Tryz.func136, Tryz.ntmps136
  go_wp2
  go_loop [5, 6, 7] (fun n wt i => ∃ k a : Nat, k ≤ l.length ∧ i = .int .i64 (k : Int) ∧ n = .int .i64 (a : Int) ∧ wt = .int .i64 ((128 ^ min k 8 : Nat) : Int) ∧ k ≤ 9 ∧ a < 128 ^ k ∧ readNum l = readN (l.drop k) k a) (fun _ _ i => l.length - (intOf i).toNat)
  case atStart => exact ⟨0, 0, by omega, rfl, rfl, rfl, by omega, by simp, rfl⟩
  case round =>
    obtain ⟨k, a, hk, rfl, rfl, rfl, hk9, ha, hrd⟩ := hrel
    by_cases hlt : k < l.length
    · obtain ⟨x, hx⟩ : ∃ x, l[k]? = some x := ⟨_, List.getElem?_eq_getElem hlt⟩
      obtain ⟨ad, rfl, hcl, -⟩ := hr k x hx
      unfold byteV at hcl
      have hdr : l.drop k = x :: l.drop (k + 1) := by
        rw [List.drop_eq_getElem_cons hlt]
        congr 1
        rw [List.getElem?_eq_getElem hlt] at hx
        exact Option.some.inj hx
      rw [hdr, readN] at hrd
      have hxl := x.toNat_lt
      have hlt' : (k : Int) < (l.length : Int) := by omega
      have hm : x.toNat % 128 < 128 := Nat.mod_lt _ (by omega)
      have hs128 : a + x.toNat % 128 * 128 ^ k < 128 ^ (k + 1) := by
        have : x.toNat % 128 * 128 ^ k ≤ 127 * 128 ^ k := Nat.mul_le_mul_right _ (by omega)
        rw [Nat.pow_succ]; omega
      clear hdr hx
      by_cases h1 : k = 9 ∨ (x.toNat = 0 ∧ 0 < k)
      · rw [if_pos h1] at hrd
        have HR := Lib.hid hrd
        clear hrd hs128
        generalize 128 ^ min k 8 = wt at *
        rcases h1 with h1 | ⟨h1, h2⟩
        · have h1' : ((k : Int) == 9) = true := by simp; omega
          clear h1
          go_wp2
          go_ret3
          exact ⟨by rw [HR.out]; rfl, rfl⟩
        · have h1' : ((x.toNat : Int) == 0) = true := by simp; omega
          have h2' : (0 : Int) < (k : Int) := by omega
          clear h1 h2
          by_cases h3 : (k : Int) = 9
          · have h3' : ((k : Int) == 9) = true := by simp; omega
            clear h3
            go_wp2
            go_ret3
            exact ⟨by rw [HR.out]; rfl, rfl⟩
          · have h3' : ((k : Int) == 9) = false := by simp; omega
            clear h3
            go_wp2
            go_ret3
            exact ⟨by rw [HR.out]; rfl, rfl⟩
      · rw [if_neg h1] at hrd
        have h3' : ((k : Int) == 9) = false := by simp; omega
        have hk8 : k ≤ 8 := by omega
        have hle : (128 : Nat) ^ (k + 1) ≤ 128 ^ 9 := Nat.pow_le_pow_right (by omega) (by omega)
        have HP7 := Lib.hid (show k ≠ 8 → a + x.toNat % 128 * 128 ^ k < 72057594037927936 from fun h => by
          have : (128 : Nat) ^ (k + 1) ≤ 128 ^ 8 := Nat.pow_le_pow_right (by omega) (by omega)
          omega)
        have HP8 := Lib.hid (show k = 8 → x.toNat % 128 * 128 ^ k = x.toNat % 128 * 72057594037927936 ∧ a < 72057594037927936 from fun h => by
          subst h
          exact ⟨rfl, by omega⟩)
        have HW8 := Lib.hid (show k < 8 → 128 ^ min (k + 1) 8 = 128 ^ min k 8 * 128 from fun h => by
          rw [Nat.min_eq_left (by omega), Nat.min_eq_left (by omega), Nat.pow_succ])
        have HW9 := Lib.hid (show ¬ k < 8 → 128 ^ min (k + 1) 8 = 128 ^ min k 8 from fun h => by
          rw [Nat.min_eq_right (by omega), Nat.min_eq_right (by omega)])
        have hwt : k < 8 → 128 ^ min k 8 ≤ 562949953421312 := fun h => by
          rw [Nat.min_eq_left (by omega)]
          have : (128 : Nat) ^ k ≤ 128 ^ 7 := Nat.pow_le_pow_right (by omega) (by omega)
          omega
        have hmk : min k 8 = k := Nat.min_eq_left hk8
        have eo : wrap64 ((x.toNat : Int) % 128 * ((128 ^ min k 8 : Nat) : Int)) = ((x.toNat % 128 * 128 ^ k : Nat) : Int) := by
          rw [hmk]
          have e1 : ((x.toNat : Int) % 128 * ((128 ^ k : Nat) : Int)) = ((x.toNat % 128 * 128 ^ k : Nat) : Int) := by push_cast; rfl
          rw [e1]
          unfold wrap64
          omega
        have hlt63 : a + x.toNat % 128 * 128 ^ k < 9223372036854775808 := by omega
        generalize hW : 128 ^ min (k + 1) 8 = wt' at *
        have HW := Lib.hid hW
        clear hW
        generalize 128 ^ min k 8 = wt at *
        generalize x.toNat % 128 * 128 ^ k = p at *
        obtain ⟨n', hn'⟩ : ∃ n', n' = a + p := ⟨_, rfl⟩
        rw [← hn'] at hrd hs128
        have HN := Lib.hid hn'
        have H1 := Lib.hid h1
        have hk0 : x.toNat = 0 → k = 0 := by omega
        clear h1 hle hn' hmk
        have hc : x.toNat = 0 ∧ k = 0 ∨ x.toNat ≠ 0 ∧ x.toNat % 128 = 0 ∧ k = 0 ∨ x.toNat ≠ 0 ∧ x.toNat % 128 = 0 ∧ 0 < k ∨ x.toNat % 128 ≠ 0 ∧ k ≠ 8 ∧ k = 0 ∨ x.toNat % 128 ≠ 0 ∧ k ≠ 8 ∧ 0 < k ∨ k = 8 ∧ 64 < x.toNat % 128 ∨ k = 8 ∧ x.toNat % 128 = 64 ∧ 0 < a ∨ k = 8 ∧ x.toNat % 128 = 64 ∧ a = 0 ∨ k = 8 ∧ x.toNat % 128 ≠ 0 ∧ x.toNat % 128 < 64 := by omega
        clear hk0
        rcases hc with ⟨q1, q2⟩ | ⟨q1, q2, q3⟩ | ⟨q1, q2, q3⟩ | ⟨q1, q2, q3⟩ | ⟨q1, q2, q3⟩ | ⟨q1, q2⟩ | ⟨q1, q2, q3⟩ | ⟨q1, q2, q3⟩ | ⟨q1, q2, q3⟩
        · have hok : ¬ 4611686018427387904 < n' := by have := HN.out; have h7 := HP7.out; have h8 := HP8.out; omega
          rw [if_neg hok] at hrd
          clear hok
          have g3 : ((x.toNat : Int) == 0) = true := by simp; omega
          have g4 : ¬ (0 : Int) < (k : Int) := by omega
          have g1 : ¬ (0 : Int) < (x.toNat : Int) % 128 := by omega
          have HQ1 := Lib.hid q1
          have HQ2 := Lib.hid q2
          clear q1 q2
          have HS := Lib.hid hs128
          clear hs128
          by_cases h8 : x.toNat < 128
          · rw [if_pos h8] at hrd
            have h8' : (x.toNat : Int) < 128 := by omega
            have HR := Lib.hid hrd
            clear hrd
            go_wp2
            go_ret3
            exact ⟨by rw [HR.out, HN.out]; rfl, rfl⟩
          · rw [if_neg h8] at hrd
            have h8' : ¬ (x.toNat : Int) < 128 := by omega
            have HR := Lib.hid hrd
            clear hrd
            by_cases hk8' : k < 8
            · have hk8i : (k : Int) < 8 := by omega
              go_wp2
              go_round
              case rel => exact ⟨k + 1, n', by omega, by go_num, by rw [HN.out]; go_num, by rw [HW.out]; have := HW8.out hk8'; go_num, by omega, HS.out, HR.out⟩
              case measure => simp [intOf] <;> omega
            · have hk8i : ¬ (k : Int) < 8 := by omega
              go_wp2
              all_goals (
                go_round
                case rel => exact ⟨k + 1, n', by omega, by go_num, by rw [HN.out]; go_num, by rw [HW.out]; have := HW9.out hk8'; go_num, by omega, HS.out, HR.out⟩
                case measure => simp [intOf] <;> omega)
        · have hok : ¬ 4611686018427387904 < n' := by have := HN.out; have h7 := HP7.out; have h8 := HP8.out; omega
          rw [if_neg hok] at hrd
          clear hok
          have g3 : ((x.toNat : Int) == 0) = false := by simp; omega
          have g1 : ¬ (0 : Int) < (x.toNat : Int) % 128 := by omega
          have g9 : ¬ (0 : Int) < (k : Int) := by omega
          have HQ1 := Lib.hid q1
          have HQ2 := Lib.hid q2
          have HQ3 := Lib.hid q3
          clear q1 q2 q3
          have HS := Lib.hid hs128
          clear hs128
          by_cases h8 : x.toNat < 128
          · rw [if_pos h8] at hrd
            have h8' : (x.toNat : Int) < 128 := by omega
            have HR := Lib.hid hrd
            clear hrd
            go_wp2
            go_ret3
            exact ⟨by rw [HR.out, HN.out]; rfl, rfl⟩
          · rw [if_neg h8] at hrd
            have h8' : ¬ (x.toNat : Int) < 128 := by omega
            have HR := Lib.hid hrd
            clear hrd
            by_cases hk8' : k < 8
            · have hk8i : (k : Int) < 8 := by omega
              go_wp2
              go_round
              case rel => exact ⟨k + 1, n', by omega, by go_num, by rw [HN.out]; go_num, by rw [HW.out]; have := HW8.out hk8'; go_num, by omega, HS.out, HR.out⟩
              case measure => simp [intOf] <;> omega
            · have hk8i : ¬ (k : Int) < 8 := by omega
              go_wp2
              all_goals (
                go_round
                case rel => exact ⟨k + 1, n', by omega, by go_num, by rw [HN.out]; go_num, by rw [HW.out]; have := HW9.out hk8'; go_num, by omega, HS.out, HR.out⟩
                case measure => simp [intOf] <;> omega)
        · have hok : ¬ 4611686018427387904 < n' := by have := HN.out; have h7 := HP7.out; have h8 := HP8.out; omega
          rw [if_neg hok] at hrd
          clear hok
          have g3 : ((x.toNat : Int) == 0) = false := by simp; omega
          have g1 : ¬ (0 : Int) < (x.toNat : Int) % 128 := by omega
          have g9 : (0 : Int) < (k : Int) := by omega
          have HQ1 := Lib.hid q1
          have HQ2 := Lib.hid q2
          have HQ3 := Lib.hid q3
          clear q1 q2 q3
          have HS := Lib.hid hs128
          clear hs128
          by_cases h8 : x.toNat < 128
          · rw [if_pos h8] at hrd
            have h8' : (x.toNat : Int) < 128 := by omega
            have HR := Lib.hid hrd
            clear hrd
            go_wp2
            go_ret3
            exact ⟨by rw [HR.out, HN.out]; rfl, rfl⟩
          · rw [if_neg h8] at hrd
            have h8' : ¬ (x.toNat : Int) < 128 := by omega
            have HR := Lib.hid hrd
            clear hrd
            by_cases hk8' : k < 8
            · have hk8i : (k : Int) < 8 := by omega
              go_wp2
              go_round
              case rel => exact ⟨k + 1, n', by omega, by go_num, by rw [HN.out]; go_num, by rw [HW.out]; have := HW8.out hk8'; go_num, by omega, HS.out, HR.out⟩
              case measure => simp [intOf] <;> omega
            · have hk8i : ¬ (k : Int) < 8 := by omega
              go_wp2
              all_goals (
                go_round
                case rel => exact ⟨k + 1, n', by omega, by go_num, by rw [HN.out]; go_num, by rw [HW.out]; have := HW9.out hk8'; go_num, by omega, HS.out, HR.out⟩
                case measure => simp [intOf] <;> omega)
        · have hok : ¬ 4611686018427387904 < n' := by have := HN.out; have h7 := HP7.out; have h8 := HP8.out; omega
          rw [if_neg hok] at hrd
          clear hok
          have g3 : ((x.toNat : Int) == 0) = false := by simp; omega
          have g1 : (0 : Int) < (x.toNat : Int) % 128 := by omega
          have g2 : ((k : Int) == 8) = false := by simp; omega
          have g9 : ¬ (0 : Int) < (k : Int) := by omega
          have HQ1 := Lib.hid q1
          have HQ2 := Lib.hid q2
          have HQ3 := Lib.hid q3
          clear q1 q2 q3
          have HS := Lib.hid hs128
          clear hs128
          by_cases h8 : x.toNat < 128
          · rw [if_pos h8] at hrd
            have h8' : (x.toNat : Int) < 128 := by omega
            have HR := Lib.hid hrd
            clear hrd
            go_wp2
            go_ret3
            exact ⟨by rw [HR.out, HN.out]; rfl, rfl⟩
          · rw [if_neg h8] at hrd
            have h8' : ¬ (x.toNat : Int) < 128 := by omega
            have HR := Lib.hid hrd
            clear hrd
            by_cases hk8' : k < 8
            · have hk8i : (k : Int) < 8 := by omega
              go_wp2
              go_round
              case rel => exact ⟨k + 1, n', by omega, by go_num, by rw [HN.out]; go_num, by rw [HW.out]; have := HW8.out hk8'; go_num, by omega, HS.out, HR.out⟩
              case measure => simp [intOf] <;> omega
            · have hk8i : ¬ (k : Int) < 8 := by omega
              go_wp2
              all_goals (
                go_round
                case rel => exact ⟨k + 1, n', by omega, by go_num, by rw [HN.out]; go_num, by rw [HW.out]; have := HW9.out hk8'; go_num, by omega, HS.out, HR.out⟩
                case measure => simp [intOf] <;> omega)
        · have hok : ¬ 4611686018427387904 < n' := by have := HN.out; have h7 := HP7.out; have h8 := HP8.out; omega
          rw [if_neg hok] at hrd
          clear hok
          have g3 : ((x.toNat : Int) == 0) = false := by simp; omega
          have g1 : (0 : Int) < (x.toNat : Int) % 128 := by omega
          have g2 : ((k : Int) == 8) = false := by simp; omega
          have g9 : (0 : Int) < (k : Int) := by omega
          have HQ1 := Lib.hid q1
          have HQ2 := Lib.hid q2
          have HQ3 := Lib.hid q3
          clear q1 q2 q3
          have HS := Lib.hid hs128
          clear hs128
          by_cases h8 : x.toNat < 128
          · rw [if_pos h8] at hrd
            have h8' : (x.toNat : Int) < 128 := by omega
            have HR := Lib.hid hrd
            clear hrd
            go_wp2
            go_ret3
            exact ⟨by rw [HR.out, HN.out]; rfl, rfl⟩
          · rw [if_neg h8] at hrd
            have h8' : ¬ (x.toNat : Int) < 128 := by omega
            have HR := Lib.hid hrd
            clear hrd
            by_cases hk8' : k < 8
            · have hk8i : (k : Int) < 8 := by omega
              go_wp2
              go_round
              case rel => exact ⟨k + 1, n', by omega, by go_num, by rw [HN.out]; go_num, by rw [HW.out]; have := HW8.out hk8'; go_num, by omega, HS.out, HR.out⟩
              case measure => simp [intOf] <;> omega
            · have hk8i : ¬ (k : Int) < 8 := by omega
              go_wp2
              all_goals (
                go_round
                case rel => exact ⟨k + 1, n', by omega, by go_num, by rw [HN.out]; go_num, by rw [HW.out]; have := HW9.out hk8'; go_num, by omega, HS.out, HR.out⟩
                case measure => simp [intOf] <;> omega)
        · have hok : 4611686018427387904 < n' := by have := HN.out; have h7 := HP7.out; have h8 := HP8.out; omega
          rw [if_pos hok] at hrd
          clear hok
          have g3 : ((x.toNat : Int) == 0) = false := by simp; omega
          have g1 : (0 : Int) < (x.toNat : Int) % 128 := by omega
          have g2 : ((k : Int) == 8) = true := by simp; omega
          have g9 : (0 : Int) < (k : Int) := by omega
          have g5 : (64 : Int) < (x.toNat : Int) % 128 := by omega
          have HQ1 := Lib.hid q1
          have HQ2 := Lib.hid q2
          clear q1 q2
          have HR := Lib.hid hrd
          clear hrd
          go_wp2
          go_ret3
          exact ⟨by rw [HR.out]; rfl, rfl⟩
        · have hok : 4611686018427387904 < n' := by have := HN.out; have h7 := HP7.out; have h8 := HP8.out; omega
          rw [if_pos hok] at hrd
          clear hok
          have g3 : ((x.toNat : Int) == 0) = false := by simp; omega
          have g1 : (0 : Int) < (x.toNat : Int) % 128 := by omega
          have g2 : ((k : Int) == 8) = true := by simp; omega
          have g9 : (0 : Int) < (k : Int) := by omega
          have g5 : ¬ (64 : Int) < (x.toNat : Int) % 128 := by omega
          have g6 : ((x.toNat : Int) % 128 == 64) = true := by simp; omega
          have g7 : (0 : Int) < (a : Int) := by omega
          have HQ1 := Lib.hid q1
          have HQ2 := Lib.hid q2
          have HQ3 := Lib.hid q3
          clear q1 q2 q3
          have HR := Lib.hid hrd
          clear hrd
          go_wp2
          go_ret3
          exact ⟨by rw [HR.out]; rfl, rfl⟩
        · have hok : ¬ 4611686018427387904 < n' := by have := HN.out; have h7 := HP7.out; have h8 := HP8.out; omega
          rw [if_neg hok] at hrd
          clear hok
          have g3 : ((x.toNat : Int) == 0) = false := by simp; omega
          have g1 : (0 : Int) < (x.toNat : Int) % 128 := by omega
          have g2 : ((k : Int) == 8) = true := by simp; omega
          have g9 : (0 : Int) < (k : Int) := by omega
          have g5 : ¬ (64 : Int) < (x.toNat : Int) % 128 := by omega
          have g6 : ((x.toNat : Int) % 128 == 64) = true := by simp; omega
          have g7 : ¬ (0 : Int) < (a : Int) := by omega
          have HQ1 := Lib.hid q1
          have HQ2 := Lib.hid q2
          have HQ3 := Lib.hid q3
          clear q1 q2 q3
          have HS := Lib.hid hs128
          clear hs128
          by_cases h8 : x.toNat < 128
          · rw [if_pos h8] at hrd
            have h8' : (x.toNat : Int) < 128 := by omega
            have HR := Lib.hid hrd
            clear hrd
            go_wp2
            go_ret3
            exact ⟨by rw [HR.out, HN.out]; rfl, rfl⟩
          · rw [if_neg h8] at hrd
            have h8' : ¬ (x.toNat : Int) < 128 := by omega
            have HR := Lib.hid hrd
            clear hrd
            by_cases hk8' : k < 8
            · have hk8i : (k : Int) < 8 := by omega
              go_wp2
              go_round
              case rel => exact ⟨k + 1, n', by omega, by go_num, by rw [HN.out]; go_num, by rw [HW.out]; have := HW8.out hk8'; go_num, by omega, HS.out, HR.out⟩
              case measure => simp [intOf] <;> omega
            · have hk8i : ¬ (k : Int) < 8 := by omega
              go_wp2
              all_goals (
                go_round
                case rel => exact ⟨k + 1, n', by omega, by go_num, by rw [HN.out]; go_num, by rw [HW.out]; have := HW9.out hk8'; go_num, by omega, HS.out, HR.out⟩
                case measure => simp [intOf] <;> omega)
        · have hok : ¬ 4611686018427387904 < n' := by have := HN.out; have h7 := HP7.out; have h8 := HP8.out; omega
          rw [if_neg hok] at hrd
          clear hok
          have g3 : ((x.toNat : Int) == 0) = false := by simp; omega
          have g1 : (0 : Int) < (x.toNat : Int) % 128 := by omega
          have g2 : ((k : Int) == 8) = true := by simp; omega
          have g9 : (0 : Int) < (k : Int) := by omega
          have g5 : ¬ (64 : Int) < (x.toNat : Int) % 128 := by omega
          have g6 : ((x.toNat : Int) % 128 == 64) = false := by simp; omega
          have HQ1 := Lib.hid q1
          have HQ2 := Lib.hid q2
          have HQ3 := Lib.hid q3
          clear q1 q2 q3
          have HS := Lib.hid hs128
          clear hs128
          by_cases h8 : x.toNat < 128
          · rw [if_pos h8] at hrd
            have h8' : (x.toNat : Int) < 128 := by omega
            have HR := Lib.hid hrd
            clear hrd
            go_wp2
            go_ret3
            exact ⟨by rw [HR.out, HN.out]; rfl, rfl⟩
          · rw [if_neg h8] at hrd
            have h8' : ¬ (x.toNat : Int) < 128 := by omega
            have HR := Lib.hid hrd
            clear hrd
            by_cases hk8' : k < 8
            · have hk8i : (k : Int) < 8 := by omega
              go_wp2
              go_round
              case rel => exact ⟨k + 1, n', by omega, by go_num, by rw [HN.out]; go_num, by rw [HW.out]; have := HW8.out hk8'; go_num, by omega, HS.out, HR.out⟩
              case measure => simp [intOf] <;> omega
            · have hk8i : ¬ (k : Int) < 8 := by omega
              go_wp2
              all_goals (
                go_round
                case rel => exact ⟨k + 1, n', by omega, by go_num, by rw [HN.out]; go_num, by rw [HW.out]; have := HW9.out hk8'; go_num, by omega, HS.out, HR.out⟩
                case measure => simp [intOf] <;> omega)
    · obtain rfl : k = l.length := by omega
      rw [List.drop_length, readN] at hrd
      have HR := Lib.hid hrd
      clear hrd
      go_wp2
      go_ret3
      unfold ReadDid
      exact ⟨by rw [HR.out]; rfl, rfl⟩
end Go.Proofs.YtediidajdpdeiaaGreatDoor

/- The document's Next, of bytes whose block may have any room behind them (for Parse of what a disk keeps). -/
namespace Go.Proofs.YtediidajdpdeiaaGreatDoor
open Go.RowKit CrcM
set_option maxRecDepth 100000

set_option maxHeartbeats 1000000 in
theorem refSum_S (w : World) (A : Option Addr) (l : List UInt8) (c n : Nat) (hr : Rd Non w A l) (hl : l.length = n) (hn : n ≤ c) (hc : n ≤ maxLen) :
    Calls Tryz.prog 162 #[.slice A n c] w fun e w' => e = .returned (.int .u32 ((sum l).toNat : Int)) ∧ w = w' := by
  unfold maxLen at hc
  have HL := Lib.hid hl
  clear hl
  go_enter Tryz.func162, Tryz.ntmps162
  go_wp2
  go_loop [3, 4] (fun r i => ∃ k : Nat, k ≤ n ∧ i = .int .i64 k ∧ r = .int .u32 ((reg (BitVec.allOnes 32) (l.take k)).toNat : Int)) (fun _ i => n - (intOf i).toNat)
  case atStart => exact ⟨0, by omega, rfl, by simp [reg]⟩
  case round =>
    obtain ⟨k, hk, rfl, rfl⟩ := hrel
    by_cases hlt : k < n
    · obtain ⟨x, hx⟩ : ∃ x, l[k]? = some x := ⟨_, List.getElem?_eq_getElem (by rw [HL.out]; exact hlt)⟩
      obtain ⟨ad, rfl, hcl, -⟩ := hr k x hx
      unfold byteV at hcl
      have e1 : reg (BitVec.allOnes 32) (l.take (k + 1)) = upd (reg (BitVec.allOnes 32) (l.take k)) x := by
        rw [List.take_add_one, hx]; simp [reg]
      have HS := Lib.hid e1
      generalize reg (BitVec.allOnes 32) (l.take k) = R at *
      clear e1 hx
      have hxl := x.toNat_lt
      have hlt' : (k : Int) < (n : Int) := by omega
      go_wp2
      go_loop [3, 5] (fun r i => ∃ (j : Nat) (R' : BitVec 32), j ≤ 8 ∧ i = .int .i64 j ∧ r = .int .u32 (R'.toNat : Int) ∧ docLoop (8 - j) R' (x.toNat / 2 ^ j) = upd R x) (fun _ i => 8 - (intOf i).toNat)
      case atStart => exact ⟨0, R, by omega, rfl, rfl, by simpa using doc8 R x⟩
      case round =>
        obtain ⟨j, R', hj, rfl, rfl, hd⟩ := hrel
        have HD := Lib.hid hd
        clear hd
        by_cases hj8 : j < 8
        · have hj8' : (j : Int) < 8 := by omega
          have ed : docLoop (8 - (j + 1)) (bitDoc R' (x.toNat / 2 ^ j)) (x.toNat / 2 ^ (j + 1)) = upd R x := by
            have h := HD.out
            rw [show 8 - j = (8 - (j + 1)) + 1 by omega, docLoop, Nat.div_div_eq_div_mul, ← Nat.pow_succ] at h
            exact h
          have ED := Lib.hid ed
          clear ed
          go_wp2
          case roundEnd =>
            rename_i hbit
            rw [doc_bit] at hbit
            refine ⟨⟨j + 1, (R' >>> 1) ^^^ 0xedb88320#32, by omega, by go_num, by rw [doc_xor], ?_⟩, by simp [intOf]; omega⟩
            have h := ED.out
            rw [show bitDoc R' (x.toNat / 2 ^ j) = (R' >>> 1) ^^^ 0xedb88320#32 by unfold bitDoc; rw [hbit]; rfl] at h
            exact h
          case roundEnd =>
            rename_i hbit
            rw [doc_bit] at hbit
            refine ⟨⟨j + 1, R' >>> 1, by omega, by go_num, congrArg (Value.int .u32) (doc_shr R'), ?_⟩, by simp [intOf]; omega⟩
            have h := ED.out
            rw [show bitDoc R' (x.toNat / 2 ^ j) = R' >>> 1 by unfold bitDoc; rw [hbit]; rfl] at h
            exact h
        · obtain rfl : j = 8 := by omega
          have h8 : R' = upd R x := HD.out
          subst h8
          go_wp2
          exact ⟨⟨k + 1, by omega, by go_num, by rw [HS.out]⟩, by simp [intOf]; omega⟩
    · obtain rfl : k = n := by omega
      have e : l.take k = l := List.take_of_length_le (by rw [HL.out]; exact Nat.le_refl _)
      rw [e]
      generalize hR : reg (BitVec.allOnes 32) l = R at *
      have es : bits .xor .u32 (R.toNat : Int) 4294967295 = ((sum l).toNat : Int) := by
        have h := bxor_nat R (BitVec.allOnes 32)
        rw [sum, hR, ← BitVec.xor_allOnes, ← h]
        rfl
      have ES := Lib.hid es
      clear es hR e
      go_wp2
      rw [ES.out]
      go_ret
      exact ⟨rfl, rfl⟩

set_option maxHeartbeats 1000000 in
theorem refNext_S (w : World) (A : Option Addr) (l : List UInt8) (c n : Nat) (hr : Rd Non w A l) (hl : l.length = n) (hn : n ≤ c) (hm : n ≤ maxLen) (a : Int) :
    Calls Tryz.prog 138 #[.slice A n c, .int .i64 a] w (NextDid w l a) := by
  unfold maxLen at hm
  obtain ⟨i, hi, hz, hs, hby⟩ := info_parts info_u8
  have HL := Lib.hid hl
  by_cases h0 : a < 0
  · go_enter Tryz.func138, Tryz.ntmps138
    have e : next l a = .error 2 := if_pos (.inl h0)
    clear hl
    go_wp2
    go_ret3
    exact NextDid.err e (Below.refl _ _)
  obtain ⟨m, rfl⟩ : ∃ m : Nat, a = m := ⟨a.toNat, by omega⟩
  by_cases h1 : (n : Int) < (m : Int)
  · go_enter Tryz.func138, Tryz.ntmps138
    have e : next l m = .error 2 := if_pos (.inr (by rw [hl]; exact h1))
    clear hl
    go_wp2
    go_ret3
    exact NextDid.err e (Below.refl _ _)
  have k0 : ¬ ((m : Int) < 0 ∨ (l.length : Int) < m) := by rw [hl]; omega
  by_cases h2 : (n : Int) - (m : Int) < 12
  · go_enter Tryz.func138, Tryz.ntmps138
    have e : next l m = .error 4 := by unfold next; rw [if_neg k0, if_pos (by rw [hl]; exact h2)]
    have k2 : IntKind.i64.wrap ((n : Int) - (m : Int)) = (n : Int) - (m : Int) := by rw [IntKind.wrap_i64]; omega
    clear hl k0
    go_wp2
    go_ret3
    exact NextDid.err e (Below.refl _ _)
  have e := show next l m = _ by
    unfold next; rw [if_neg k0, if_neg (by rw [hl]; exact h2), Int.toNat_natCast]
  have hd : ((l.take (m + 12)).drop m).length = 12 := by rw [List.length_drop, List.length_take, hl]; omega
  have ht : (l.drop (m + 12)).length = n - (m + 12) := by rw [List.length_drop, hl]
  have hget : ∀ k : Nat, k < 12 → l[m + k]? = some (((l.take (m + 12)).drop m).getD k 0) := by
    intro k hk
    rw [List.getD_eq_getElem?_getD, List.getElem?_drop, List.getElem?_take_of_lt (by omega), List.getElem?_eq_getElem (by rw [hl]; omega)]
    rfl
  generalize hhead : (l.take (m + 12)).drop m = head at *
  generalize hrest : l.drop (m + 12) = rest at *
  have E := Lib.hid e
  have HD := Lib.hid hd
  have HT := Lib.hid ht
  have HH := Lib.hid hhead
  have HR := Lib.hid hrest
  have HG := Lib.hid hget
  clear hget hd ht hhead hrest e k0 hl
  go_enter Tryz.func138, Tryz.ntmps138
  have q1 : IntKind.i64.wrap ((n : Int) - (m : Int)) = (n : Int) - (m : Int) := by rw [IntKind.wrap_i64]; omega
  go_wp2
  clear q1
  go_loop [7, 8, 9] (fun s q i => ∃ k : Nat, k ≤ 4 ∧ i = .int .i64 k ∧ q = .int .i64 ((256 ^ k : Nat) : Int) ∧ s = .int .i64 ((numOf k head : Nat) : Int)) (fun _ _ i => 4 - (intOf i).toNat)
  case atStart => exact ⟨0, by omega, rfl, rfl, rfl⟩
  case round =>
    obtain ⟨k, hk, rfl, rfl, rfl⟩ := hrel
    by_cases h4 : k < 4
    · obtain ⟨ad, rfl, hcl, -⟩ := hr (m + k) _ (HG.out k (by omega))
      have hP := numOf_lt k head
      have hx := (head.getD k 0).toNat_lt
      have hS := Lib.hid (show numOf (k + 1) head = numOf k head + (head.getD k 0).toNat * 256 ^ k from rfl)
      unfold byteV at hcl
      generalize head.getD k 0 = x at *
      generalize numOf k head = s at *
      have hp4 : 256 ^ k ≤ 16777216 := by
        have : k = 0 ∨ k = 1 ∨ k = 2 ∨ k = 3 := by omega
        rcases this with rfl | rfl | rfl | rfl <;> simp
      have hps := Lib.hid (Nat.pow_succ 256 k)
      generalize 256 ^ k = q at *
      have hxq : x.toNat * q ≤ 255 * 16777216 := Nat.mul_le_mul (by omega) hp4
      have v1 : (m : Int) + (k : Int) < (n : Int) := by omega
      have v2 : (0 : Int) ≤ (m : Int) + (k : Int) := by omega
      have v3 : ((m : Int) + (k : Int)).toNat = m + k := by omega
      have v4 : (k : Int) < 4 := by omega
      go_wp2
      exact ⟨⟨k + 1, by omega, by go_num, congrArg (Value.int .i64) (by rw [← Nat.succ_eq_add_one, hps.out, Int.natCast_mul]; rfl), congrArg (Value.int .i64) (by rw [hS.out, Int.natCast_add, Int.natCast_mul])⟩, by simp [intOf]; omega⟩
    · obtain rfl : k = 4 := by omega
      rw [numOf_4]
      have k2 := num4_lt head
      generalize hN : num4 head = N at *
      have HN := Lib.hid hN
      clear hN
      have p1 : (m : Int) ≤ (n : Int) := by omega
      have p4 : (m : Int) + 4 ≤ (c : Int) := by omega
      have p5 : (0 : Int) ≤ (m : Int) + 4 := by omega
      have p6 : (m : Int) ≤ (m : Int) + 4 := by omega
      have p7 : (m : Int) + 8 ≤ (c : Int) := by omega
      have p8 : (m : Int) + 4 ≤ (m : Int) + 8 := by omega
      have p9 : (0 : Int) ≤ (m : Int) + 8 := by omega
      have t4 : ((m : Int) + 4).toNat = m + 4 := by omega
      have t8 : ((m : Int) + 8).toNat = m + 8 := by omega
      go_wp2
      have n1 : ¬ c = m := by omega
      have n2 : ¬ c = m + 4 := by omega
      have eh : head = (l.drop m).take 12 := by rw [← HH.out, List.drop_take]; congr 1; omega
      have r4 : Rd Non w (A.map (fun x => x.add m)) (head.take 4) := by
        have h := (hr.drop m c (by rw [HL.out]; exact hn)).take 4
        rw [if_neg (by omega)] at h
        rw [eh, List.take_take]; exact h
      have r8 : Rd Non w (A.map (fun x => { block := x.block, off := x.off + (m + 3 + 1) })) ((head.drop 4).take 4) := by
        have h := (hr.drop (m + 4) c (by rw [HL.out]; exact hn)).take 4
        rw [if_neg n2] at h
        rw [eh, List.drop_take, List.take_take, List.drop_drop]; exact h
      have h4l : (head.take 4).length = 4 := by rw [List.length_take, HD.out]; rfl
      have h8l : ((head.drop 4).take 4).length = 4 := by rw [List.length_take, List.length_drop, HD.out]; rfl
      have hnum : num4 ((head.drop 4).take 4) = num4 (head.drop 4) := by
        match head, HD.out with
        | [_, _, _, _, _, _, _, _, _, _, _, _], _ => rfl
      generalize hl4 : head.take 4 = l4 at *
      generalize hl8 : (head.drop 4).take 4 = l8 at *
      generalize hn8 : num4 (head.drop 4) = n8 at *
      have X4 := Lib.hid h4l
      have X8 := Lib.hid h8l
      have XN := Lib.hid hnum
      have k4 := (sum l4).isLt
      generalize hs4 : (sum l4).toNat = s4 at *
      have S4 := Lib.hid hs4
      clear h4l h8l hnum hl4 hl8 hn8 hs4
      have EH := Lib.hid eh
      clear eh
      have hX := refSum_S w.drew _ l4 (c - m) 4 r4.drew X4.out (by omega) (by unfold maxLen; omega)
      rw [S4.out] at hX
      have s8 : (convert 30 9 (.slice (A.map (fun x => { block := x.block, off := x.off + (m + 3 + 1) })) 4 (c - (m + 4)))).run Tryz.prog w.drew = .ok (str l8) w.drew := by
        have h := run_str r8.drew (c - (m + 4))
        rw [X8.out] at h; exact h
      have q4 : IntKind.i64.wrap ((m : Int) + 4) = (m : Int) + 4 := by rw [IntKind.wrap_i64]; omega
      have q8 : IntKind.i64.wrap ((m : Int) + 8) = (m : Int) + 8 := by rw [IntKind.wrap_i64]; omega
      refine wp_region_T #[[], [], [], [], [], [], [], [], [], [], [], [], [], [], [], [14]] [14] (fun w' => (convert 30 9 (.slice (A.map (fun x => { block := x.block, off := x.off + (m + 3 + 1) })) 4 (c - (m + 4)))).run Tryz.prog w' = .ok (str l8) w' ∧ True) 16 rfl (by kernel_rfl) ?_
      (refine wpF (i := 0) rfl (by kernel_rfl) rfl (fun _ _ _ h => h) (fun _ => by go_simp; try rfl) ?_; (try simp only [Act.put, sA, sB, sC]))
      (refine wpF (i := 1) rfl (by kernel_rfl) rfl (fun _ _ _ h => h) (fun _ => by go_simp; try rfl) ?_; (try simp only [Act.put, sA, sB, sC]))
      (refine wpF (i := 2) rfl (by kernel_rfl) rfl (fun _ _ _ h => h) (fun _ => by go_simp; try rfl) ?_; (try simp only [Act.put, sA, sB, sC]))
      (refine wpF (i := 3) rfl (by kernel_rfl) rfl (fun _ _ _ h => h) (fun _ => by go_simp; try rfl) ?_; (try simp only [Act.put, sA, sB, sC]))
      (refine wpF (i := 4) rfl (by kernel_rfl) rfl (fun _ _ _ h => h) (fun _ => by go_simp; try rfl) ?_; (try simp only [Act.put, sA, sB, sC]))
      (refine wpF (i := 8) rfl (by kernel_rfl) rfl (fun _ _ _ h => h) (fun _ => by go_simp; try rfl) ?_; (try simp only [Act.put, sA, sB, sC]))
      (refine wpF (i := 9) rfl (by kernel_rfl) rfl (fun _ _ _ h => h) (fun _ => by go_simp; try rfl) ?_; (try simp only [Act.put, sA, sB, sC]))
      (refine wpF (i := 10) rfl (by kernel_rfl) rfl (fun _ _ _ h => h) (fun _ => by go_simp; try rfl) ?_; (try simp only [Act.put, sA, sB, sC]))
      (refine wpF (i := 11) rfl (by kernel_rfl) rfl (fun _ _ _ h => h) (fun _ => by go_simp; try rfl) ?_; (try simp only [Act.put, sA, sB, sC]))
      (refine wpF (i := 12) rfl (by kernel_rfl) rfl (fun _ _ _ h => h) (fun _ => by go_simp; try rfl) ?_; (try simp only [Act.put, sA, sB, sC]))
      (refine wpF (i := 13) rfl (by kernel_rfl) rfl (fun _ _ _ h => h) (fun _ => by go_simp; try rfl) ?_; (try simp only [Act.put, sA, sB, sC]))
      (refine wpAnyT_read (i := 14) rfl (by kernel_rfl) rfl (fun _ _ _ h => h) (by kernel_rfl) (⟨s8, trivial⟩) (fun w hS_ => by obtain ⟨s_1, s_2⟩ := hS_; go_simp; try rfl) ?_; (try simp only [Act.put, sA, sB, sC]))
      refine wpAnyT_one (i := 5) rfl (by kernel_rfl) rfl ?_
      intro K_ hK_
      clear q4 q8; go_wp2_with (go_at_call 162; refine hX.mono ?_; rintro e w1 ⟨rfl, rfl⟩)
      refine hK_ _ _ ?_ ?_
      · exact fun _ h => h
      clear hK_ K_
      (try simp only [Act.put, sA, sB, sC])
      refine wpAnyT_one (i := 6) rfl (by kernel_rfl) rfl ?_
      intro K_ hK_
      clear hX; go_wp2_with (go_at_call 161; refine (put_B w _ (Below.refl _ _).drew (.slice none 0 0) [] (World.ownsRow_nil _ _ _ _) (by simp) s4 k4).mono ?_; rintro e w1 ⟨v1, rfl, ho1, hb1⟩; rw [List.nil_append, length_four] at ho1; obtain ⟨A1, c1, rfl, hc1, hm1⟩ := own_val ho1; have s7 := run_str (own_rd ho1 rfl) c1; rw [length_four] at s7; have s9 := run_str (r8.below hb1) (c - (m + 4)); rw [X8.out] at s9)
      refine hK_ _ _ ?_ ?_
      · exact fun _ _ => ⟨s9, trivial⟩
      clear hK_ K_
      (try simp only [Act.put, sA, sB, sC])
      refine wpAnyT_one (i := 7) rfl (by kernel_rfl) rfl ?_
      intro K_ hK_
      go_wp2
      refine hK_ _ _ ?_ ?_
      · exact fun _ h_ => h_
      clear hK_ K_
      (try simp only [Act.put, sA, sB, sC])
      (refine wpF (i := 15) rfl (by kernel_rfl) rfl (fun _ _ _ h => h) (fun _ => by go_simp; try rfl) ?_; (try simp only [Act.put, sA, sB, sC]))
      refine wpAnyT_done (by kernel_rfl) ?_ _
      have hbq := four_beq s4 k4 l8 X8.out
      rw [XN.out] at hbq
      clear s7 s9 s8
      by_cases hs4 : s4 ≠ n8
      · have hb' : (four s4 == l8) = false := by rw [hbq]; exact decide_eq_false hs4
        have e7 : next l (m : Int) = .error 6 := E.out.trans (if_pos hs4)
        clear hbq hs4
        rw [hb']
        go_wp2
        go_ret3
        exact NextDid.err e7 hb1
      have hs4 := Decidable.not_not.1 hs4
      have hb' : (four s4 == l8) = true := by rw [hbq]; exact decide_eq_true hs4
      by_cases hg : 65536 < N
      · have e7 : next l (m : Int) = .error 3 := E.out.trans (by rw [if_neg (fun h => h hs4), if_pos hg])
        have hg' : (65536 : Int) < (N : Int) := by omega
        clear hbq hs4
        rw [hb']
        go_wp2
        go_ret3
        exact NextDid.err e7 hb1
      have hg' : (N : Int) ≤ 65536 := by omega
      by_cases hk : n - (m + 12) < N
      · have e7 : next l (m : Int) = .error 4 := E.out.trans (by rw [if_neg (fun h => h hs4), if_neg hg, if_pos (by rw [HT.out]; exact hk)])
        have hk' : (n : Int) - (m : Int) - 12 < (N : Int) := by omega
        clear hbq hs4
        rw [hb']
        go_wp2
        go_ret3
        exact NextDid.err e7 hb1
      have E2 : next l (m : Int) = if (sum (List.take N rest)).toNat ≠ num4 (List.drop 8 head) then Except.error 6 else Except.ok (List.take N rest, m + 12 + N) :=
        E.out.trans (by rw [if_neg (fun h => h hs4), if_neg hg, if_neg (by rw [HT.out]; exact hk)])
      have E3 := Lib.hid E2
      have hk' : (N : Int) ≤ (n : Int) - (m : Int) - 12 := by omega
      have lN : (rest.take N).length = N := by rw [List.length_take, HT.out]; omega
      have rN : Rd Non w1 (if c = m + 12 then A else A.map (fun x => { block := x.block, off := x.off + (m + 11 + 1) })) (rest.take N) := by
        rw [← HR.out]
        exact (((hr.below hb1).drop (m + 12) c (by rw [HL.out]; exact hn)).take N)
      generalize hlN : rest.take N = lN' at *
      have LN := Lib.hid lN
      clear lN hlN E2 E hbq hs4 hg hk
      rw [hb']
      have p10 : (m : Int) + 12 ≤ (c : Int) := by omega
      have p11 : (m : Int) + 12 + N ≤ (c : Int) := by omega
      have p12 : (0 : Int) ≤ (m : Int) + 12 + N := by omega
      have p13 : (m : Int) + 12 ≤ (m : Int) + 12 + N := by omega
      have p14 : (0 : Int) ≤ (m : Int) + 12 := by omega
      have t12 : ((m : Int) + 12).toNat = m + 12 := by omega
      have t13 : ((m : Int) + 12 + N).toNat = m + 12 + N := by omega
      have n3 : m + 12 + N - (m + 12) = N := by omega
      go_wp2_with (at_builtin
                   generalize hAR : (if c = m + 12 then A else A.map (fun x => { block := x.block, off := x.off + (m + 11 + 1) })) = AR at rN ⊢
                   clear hAR
                   refine wpList_appB rfl (.tmp 66) (.tmp 74) 30 rfl i Tryz.underlying30 hi hz hs hby w1.heap.size _ 0 [] rfl (ownsB_none w1) Non _ N _ lN' rfl LN.out ((rN.mono (fun _ _ h => h.elim)).fr ((Fr.refl _ _).alloc _)) (by omega) (by simp) ?_
                   intro v5 w5 hown5 hgrow5 hat5)
      rw [Nat.zero_add, List.nil_append] at hown5
      obtain ⟨A5, c5, rfl, hc5, hm5⟩ := own_val hown5
      have hB5 := (hb1.alloc hb1.size (.cells #[] TB)).grown hgrow5 (by have := hb1.size; simp; omega) (fun j hj => by have := ((ownsB_none w1).lt j hj).1; have := hb1.size; omega)
      clear hat5 hgrow5
      have n4 : ¬ c = m + 8 := by omega
      have r9 : Rd Non w (A.map (fun x => { block := x.block, off := x.off + (m + 7 + 1) })) (head.drop 8) := by
        have h := (hr.drop (m + 8) c (by rw [HL.out]; exact hn)).take 4
        rw [if_neg n4] at h
        rw [EH.out, List.drop_take, List.drop_drop]; exact h
      have h9l : (head.drop 8).length = 4 := by rw [List.length_drop, HD.out]
      generalize hl9 : head.drop 8 = l9 at *
      have X9 := Lib.hid h9l
      clear h9l hl9
      have rn5 : Rd Non w5 A5 lN' := own_rd hown5 LN.out.symm
      have r95 := r9.below hB5
      have k9 := (sum lN').isLt
      generalize hs9 : (sum lN').toNat = s9 at *
      have S9 := Lib.hid hs9
      generalize hn9 : num4 l9 = n9 at *
      have N9 := Lib.hid hn9
      clear hs9 hn9
      have hX := refSum_B w5.drew A5 lN' c5 N rn5.drew LN.out hc5 hm5
      rw [S9.out] at hX
      have s10 : (convert 30 9 (.slice (A.map (fun x => { block := x.block, off := x.off + (m + 7 + 1) })) 4 (c - (m + 8)))).run Tryz.prog w5.drew = .ok (str l9) w5.drew := by
        have h := run_str r95.drew (c - (m + 8))
        rw [X9.out] at h; exact h
      have p15 : (m : Int) + 8 ≤ (m : Int) + 12 := by omega
      have q8 : IntKind.i64.wrap ((m : Int) + 8) = (m : Int) + 8 := by rw [IntKind.wrap_i64]; omega
      have q12 : IntKind.i64.wrap ((m : Int) + 12) = (m : Int) + 12 := by rw [IntKind.wrap_i64]; omega
      refine wp_region_T #[[], [], [], [], [], [], [], [], [], [], [], [10]] [10] (fun w' => (convert 30 9 (.slice (A.map (fun x => { block := x.block, off := x.off + (m + 7 + 1) })) 4 (c - (m + 8)))).run Tryz.prog w' = .ok (str l9) w' ∧ True) 12 rfl (by kernel_rfl) ?_
      (refine wpF (i := 0) rfl (by kernel_rfl) rfl (fun _ _ _ h => h) (fun _ => by go_simp; try rfl) ?_; (try simp only [Act.put, sA, sB, sC]))
      (refine wpF (i := 4) rfl (by kernel_rfl) rfl (fun _ _ _ h => h) (fun _ => by go_simp; try rfl) ?_; (try simp only [Act.put, sA, sB, sC]))
      (refine wpF (i := 5) rfl (by kernel_rfl) rfl (fun _ _ _ h => h) (fun _ => by go_simp; try rfl) ?_; (try simp only [Act.put, sA, sB, sC]))
      (refine wpF (i := 6) rfl (by kernel_rfl) rfl (fun _ _ _ h => h) (fun _ => by go_simp; try rfl) ?_; (try simp only [Act.put, sA, sB, sC]))
      (refine wpF (i := 7) rfl (by kernel_rfl) rfl (fun _ _ _ h => h) (fun _ => by go_simp; try rfl) ?_; (try simp only [Act.put, sA, sB, sC]))
      (refine wpF (i := 8) rfl (by kernel_rfl) rfl (fun _ _ _ h => h) (fun _ => by go_simp; try rfl) ?_; (try simp only [Act.put, sA, sB, sC]))
      (refine wpF (i := 9) rfl (by kernel_rfl) rfl (fun _ _ _ h => h) (fun _ => by go_simp; try rfl) ?_; (try simp only [Act.put, sA, sB, sC]))
      (refine wpAnyT_read (i := 10) rfl (by kernel_rfl) rfl (fun _ _ _ h => h) (by kernel_rfl) (⟨s10, trivial⟩) (fun w hS_ => by obtain ⟨s_1, s_2⟩ := hS_; go_simp; try rfl) ?_; (try simp only [Act.put, sA, sB, sC]))
      refine wpAnyT_one (i := 1) rfl (by kernel_rfl) rfl ?_
      intro K_ hK_
      clear q8 q12; go_wp2_with (go_at_call 162; refine hX.mono ?_; rintro e w6 ⟨rfl, rfl⟩)
      refine hK_ _ _ ?_ ?_
      · exact fun _ h => h
      clear hK_ K_
      (try simp only [Act.put, sA, sB, sC])
      refine wpAnyT_one (i := 2) rfl (by kernel_rfl) rfl ?_
      intro K_ hK_
      clear hX; go_wp2_with (go_at_call 161; refine (put_B w5 _ (Below.refl _ _).drew (.slice none 0 0) [] (World.ownsRow_nil _ _ _ _) (by simp) s9 k9).mono ?_; rintro e w6 ⟨v6, rfl, ho6, hb6⟩; rw [List.nil_append, length_four] at ho6; obtain ⟨A6, c6, rfl, hc6, hm6⟩ := own_val ho6; have s7 := run_str (own_rd ho6 rfl) c6; rw [length_four] at s7; have s11 := run_str (r95.below hb6) (c - (m + 8)); rw [X9.out] at s11)
      refine hK_ _ _ ?_ ?_
      · exact fun _ _ => ⟨s11, trivial⟩
      clear hK_ K_
      (try simp only [Act.put, sA, sB, sC])
      refine wpAnyT_one (i := 3) rfl (by kernel_rfl) rfl ?_
      intro K_ hK_
      go_wp2
      refine hK_ _ _ ?_ ?_
      · exact fun _ h_ => h_
      clear hK_ K_
      (try simp only [Act.put, sA, sB, sC])
      (refine wpF (i := 11) rfl (by kernel_rfl) rfl (fun _ _ _ h => h) (fun _ => by go_simp; try rfl) ?_; (try simp only [Act.put, sA, sB, sC]))
      refine wpAnyT_done (by kernel_rfl) ?_ _
      have hbq := four_beq s9 k9 l9 X9.out
      rw [N9.out] at hbq
      have hB6 := hB5.trans (hb6.mono hB5.size)
      have hO6 : Own (New w) w6 A5 lN' := (((Own.of_row hown5 LN.out.symm).mono (S' := New w) (fun b (hb : _ ≤ b) => Nat.le_trans hb1.size hb)).fr (Fr.of_below (S := Non) hb6))
      clear s7 s11 s10 hown5 ho6
      by_cases hs9 : s9 ≠ n9
      · have hb' : (four s9 == l9) = false := by rw [hbq]; exact decide_eq_false hs9
        have e7 : next l (m : Int) = .error 6 := E3.out.trans (if_pos hs9)
        clear hbq hs9
        rw [hb']
        go_wp2
        go_ret3
        exact NextDid.err e7 hB6
      · have e7 : next l (m : Int) = .ok (lN', m + 12 + N) := E3.out.trans (if_neg hs9)
        have hs9 := Decidable.not_not.1 hs9
        have hb' : (four s9 == l9) = true := by rw [hbq]; exact decide_eq_true hs9
        have E7 := Lib.hid e7
        clear hbq hs9 e7
        rw [hb']
        go_wp2
        go_ret3
        unfold NextDid
        rw [E7.out]
        exact ⟨A5, c5, by rw [LN.out]; rfl, hO6, by rw [LN.out]; exact hc5, hm5, hB6⟩
end Go.Proofs.YtediidajdpdeiaaGreatDoor

/- Frames, plainly: what Next, Good and All answer of framed bytes. No program is in sight. -/
namespace Go.Proofs.YtediidajdpdeiaaGreatDoor
open CrcM

theorem num4_app (a l : List UInt8) (h : a.length = 4) : num4 (a ++ l) = num4 a := by
  match a, h with
  | [_, _, _, _], _ => rfl
theorem num4_four' (n : Nat) (h : n < 4294967296) : num4 (four n) = n := by
  have := num4_four n h []
  rwa [List.append_nil] at this
theorem num4_inj {a b : List UInt8} (ha : a.length = 4) (hb : b.length = 4) (h : num4 a = num4 b) : a = b := by
  match a, ha, b, hb, h with
  | [a0, a1, a2, a3], _, [b0, b1, b2, b3], _, h =>
    have e : ∀ x0 x1 x2 x3 : UInt8, num4 [x0, x1, x2, x3] = x0.toNat + x1.toNat * 256 + x2.toNat * 65536 + x3.toNat * 16777216 := fun _ _ _ _ => rfl
    rw [e, e] at h
    have := a0.toNat_lt
    have := a1.toNat_lt
    have := a2.toNat_lt
    have := a3.toNat_lt
    have := b0.toNat_lt
    have := b1.toNat_lt
    have := b2.toNat_lt
    have := b3.toNat_lt
    have h0 : a0 = b0 := UInt8.toNat_inj.1 (by omega)
    have h1 : a1 = b1 := UInt8.toNat_inj.1 (by omega)
    have h2 : a2 = b2 := UInt8.toNat_inj.1 (by omega)
    have h3 : a3 = b3 := UInt8.toNat_inj.1 (by omega)
    rw [h0, h1, h2, h3]

/-- what Next answers where twelve bytes stand, and others behind -/
theorem next_of (pre a b c x : List UInt8) (ha : a.length = 4) (hb : b.length = 4) (hc : c.length = 4) :
    next (pre ++ (a ++ (b ++ (c ++ x)))) (pre.length : Int) =
      if (sum a).toNat ≠ num4 b then .error 6
      else if 65536 < num4 a then .error 3
      else if x.length < num4 a then .error 4
      else if (sum (x.take (num4 a))).toNat ≠ num4 c then .error 6
      else .ok (x.take (num4 a), pre.length + 12 + num4 a) := by
  have hL : (pre ++ (a ++ (b ++ (c ++ x)))).length = pre.length + (12 + x.length) := by
    simp only [List.length_append, ha, hb, hc]; omega
  unfold next
  rw [if_neg (by rw [hL]; omega), if_neg (by rw [hL]; omega), Int.toNat_natCast]
  have hd : (pre ++ (a ++ (b ++ (c ++ x)))).drop (pre.length + 12) = x := by
    have h1 : pre ++ (a ++ (b ++ (c ++ x))) = (pre ++ (a ++ (b ++ c))) ++ x := by simp only [List.append_assoc]
    rw [h1]
    exact List.drop_left' (by simp only [List.length_append, ha, hb, hc])
  have ht : ((pre ++ (a ++ (b ++ (c ++ x)))).take (pre.length + 12)).drop pre.length = a ++ (b ++ c) := by
    have h1 : pre ++ (a ++ (b ++ (c ++ x))) = (pre ++ (a ++ (b ++ c))) ++ x := by simp only [List.append_assoc]
    rw [h1, List.take_left' (by simp only [List.length_append, ha, hb, hc]), List.drop_left' rfl]
  have e1 : (a ++ (b ++ c)).take 4 = a := List.take_left' ha
  have e2 : (a ++ (b ++ c)).drop 4 = b ++ c := List.drop_left' ha
  have e3 : (a ++ (b ++ c)).drop 8 = c := by
    rw [← List.append_assoc]
    exact List.drop_left' (by simp only [List.length_append, ha, hb])
  simp only [hd, ht, e1, e2, e3, num4_app a _ ha, num4_app b _ hb]

theorem next_frame (pre body post : List UInt8) (h : body.length ≤ 65536) : next (pre ++ (frame body ++ post)) (pre.length : Int) = .ok (body, pre.length + (frame body).length) := by
  have hs1 := (sum (four body.length)).isLt
  have hs2 := (sum body).isLt
  have e : pre ++ (frame body ++ post) = pre ++ (four body.length ++ (four (sum (four body.length)).toNat ++ (four (sum body).toNat ++ (body ++ post)))) := by
    simp only [frame, List.append_assoc]
  rw [e, next_of _ _ _ _ _ (length_four _) (length_four _) (length_four _), num4_four' body.length (by omega), num4_four' _ hs1, num4_four' _ hs2]
  rw [if_neg (by simp), if_neg (by omega), if_neg (by simp), List.take_left' rfl, if_neg (by simp), length_frame]
  congr 2
  omega

/-- cut anywhere a frame is short -/
theorem next_cut (body : List UInt8) (h : body.length ≤ 65536) (i : Nat) (hi : i < (frame body).length) : next ((frame body).take i) 0 = .error 4 := by
  by_cases h12 : i < 12
  · unfold next
    have hl : ((frame body).take i).length = i := by rw [List.length_take]; omega
    rw [if_neg (by rw [hl]; omega), if_pos (by rw [hl]; omega)]
  · have hs1 := (sum (four body.length)).isLt
    have hs2 := (sum body).isLt
    rw [length_frame] at hi
    have e : (frame body).take i = [] ++ (four body.length ++ (four (sum (four body.length)).toNat ++ (four (sum body).toNat ++ body.take (i - 12)))) := by
      rw [List.nil_append, frame, List.take_append, List.take_append, List.take_append, List.take_of_length_le (by rw [length_four]; omega), List.take_of_length_le (by rw [length_four, length_four]; omega), List.take_of_length_le (by simp only [length_four]; omega)]
      simp only [length_four]
      rw [show i - 4 - 4 - 4 = i - 12 by omega]
    have h0 := next_of [] (four body.length) (four (sum (four body.length)).toNat) (four (sum body).toNat) (body.take (i - 12)) (length_four _) (length_four _) (length_four _)
    rw [← e, num4_four' body.length (by omega), num4_four' _ hs1, num4_four' _ hs2, if_neg (by simp), if_neg (by omega), if_pos (by rw [List.length_take]; omega)] at h0
    exact h0

theorem set_app {α : Type} (l : List α) (i : Nat) (x y : α) (h : l[i]? = some x) : l = l.take i ++ x :: l.drop (i + 1) ∧ l.set i y = l.take i ++ y :: l.drop (i + 1) := by
  obtain ⟨hlt, e⟩ := List.getElem?_eq_some_iff.1 h
  refine ⟨?_, List.set_eq_take_append_cons_drop.trans (if_pos hlt)⟩
  conv => lhs; rw [← List.take_append_drop i l]
  rw [List.drop_eq_getElem_cons hlt, e]

theorem sum_set {l : List UInt8} {i : Nat} {x y : UInt8} (h : l[i]? = some x) (hxy : y ≠ x) : sum (l.set i y) ≠ sum l := by
  obtain ⟨e1, e2⟩ := set_app l i x y h
  intro e
  exact hxy (sum_one ((congrArg sum e2).symm.trans (e.trans (congrArg sum e1))))

/-- frames one behind the other -/
def frames (bs : List (List UInt8)) : List UInt8 := (bs.map frame).flatten
theorem frames_cons (x : List UInt8) (bs : List (List UInt8)) : frames (x :: bs) = frame x ++ frames bs := rfl
theorem frames_append (a b : List (List UInt8)) : frames (a ++ b) = frames a ++ frames b := by simp [frames]
theorem Pos.lt {b : List UInt8} {k p q r : Nat} (h : Pos b k p) (h' : Pos b q r) (hk : k < q) : ∃ z, next b p = .ok z := by
  induction h' with
  | start => omega
  | step h1 h2 ih =>
    rename_i k' at_ body en
    rcases Nat.lt_or_ge k k' with hlt | hge
    · exact ih hlt
    · obtain rfl : k = k' := by omega
      obtain rfl := h.det h1
      exact ⟨_, h2⟩
/-- the last place is the last -/
theorem Pos.end_ {b : List UInt8} {k p q s : Nat} {r r' : Int} (h : Pos b k p) (he : next b p = .error r) (h' : Pos b q s) (he' : next b s = .error r') : k = q ∧ p = s := by
  have hkq : k = q := by
    rcases Nat.lt_trichotomy k q with hlt | rfl | hlt
    · obtain ⟨z, hz⟩ := h.lt h' hlt
      rw [he] at hz; cases hz
    · rfl
    · obtain ⟨z, hz⟩ := h'.lt h hlt
      rw [he'] at hz; cases hz
  subst hkq
  exact ⟨rfl, h.det h'⟩
theorem GoodIs.det {b : List UInt8} {p q : Nat} {r s : Int} (h : GoodIs b p r) (h' : GoodIs b q s) : p = q ∧ r = s := by
  obtain ⟨k, hk, r1, e1, rfl⟩ := h
  obtain ⟨m, hm, r2, e2, rfl⟩ := h'
  obtain ⟨_, rfl⟩ := hk.end_ e1 hm e2
  rw [e1] at e2
  injection e2 with e2
  rw [e2]
  exact ⟨rfl, rfl⟩
/-- what lies behind a place is not ahead of it -/
theorem Pos.mono {b : List UInt8} {k p q s : Nat} (h : Pos b k p) (h' : Pos b q s) (hk : k ≤ q) : p ≤ s := by
  induction h' with
  | start => obtain rfl : k = 0 := by omega
             rw [h.det .start]; exact Nat.le_refl _
  | step h1 h2 ih =>
    rename_i k' at_ body en
    rcases Nat.lt_or_ge k (k' + 1) with hlt | hge
    · have := ih (by omega)
      have := (next_ok h2).1
      simp only at this; omega
    · obtain rfl : k = k' + 1 := by omega
      rw [h.det (.step h1 h2)]
      exact Nat.le_refl _
theorem next_end (b : List UInt8) : next b (b.length : Int) = .error 4 := by
  unfold next
  rw [if_neg (by omega), if_pos (by omega)]
end Go.Proofs.YtediidajdpdeiaaGreatDoor

/- The document's Parse (layer 7): plain, and the walk. -/
namespace Go.Proofs.YtediidajdpdeiaaGreatDoor
open Go.RowKit CrcM
set_option maxRecDepth 100000

/-- a segment's first number (-1: it has none), its records, and how many of its bytes are frames -/
def parseM (b : List UInt8) : Int × List (List UInt8) × Nat := match (framesOf b).1 with
  | [] => (-1, [], 0)
  | hd :: t => match readNum hd with
    | .error _ => (-1, [], 0)
    | .ok (n, s) => if s = hd.length then ((n : Int), t, (framesOf b).2) else (-1, [], 0)

theorem parseM_end {b : List UInt8} {bs : List (List UInt8)} {at_ : Nat} {base : Int} {recs : List (List UInt8)} {r : Int} (hg : Got b bs at_) (he : next b at_ = .error r) (hs : ScanSt (-1) bs base recs) : parseM b = (base, recs, at_) := by
  have hf := hg.all he
  unfold parseM
  cases bs with
  | nil =>
    obtain ⟨rfl, rfl⟩ := hs
    have := hg.zero rfl
    subst this
    rw [hf]
  | cons hd t =>
    obtain ⟨rfl, n, hn, rfl, -⟩ := hs
    rw [hf]
    simp only [hn, if_true]
theorem parseM_bad {b hd : List UInt8} {t : List (List UInt8)} (h : (framesOf b).1 = hd :: t) (hb : ∀ n : Nat, readNum hd ≠ .ok (n, hd.length)) : parseM b = (-1, [], 0) := by
  unfold parseM
  rw [h]
  simp only
  split
  · rfl
  · rename_i n s e
    rw [if_neg]
    intro h1
    subst h1
    exact hb n e

/-- WHAT Parse leaves -/
def ParseDid (w : World) (r : Int × List (List UInt8) × Nat) (e : Ending) (w' : World) : Prop :=
  ∃ R cr vals, e = .returned (.tuple #[.int .i64 r.1, .slice R r.2.1.length cr, .int .i64 (r.2.2 : Int)]) ∧ Row (fun x => w.heap.size ≤ x) w' TBs (.slice R r.2.1.length cr) vals ∧ Recs w' vals r.2.1 ∧ Below w.heap.size w w'

set_option maxHeartbeats 1000000 in
theorem parse_B (w : World) (A : Option Addr) (b : List UInt8) (c : Nat) (hr : Rd Non w A b) (hc : b.length ≤ c) (hl4 : b.length ≤ 8388608) :
    Calls Tryz.prog 79 #[.slice A b.length c] w (ParseDid w (parseM b)) := by
  obtain ⟨ib, hib, hzb, hsb, hbb⟩ := info_parts info_bs
  go_enter Tryz.func79, Tryz.ntmps79
  go_wp2
  go_loopw [5, 6, 7] (fun rv bv av wr => ∃ (bs : List (List UInt8)) (at_ : Nat) (base : Int) (recs : List (List UInt8)) (vals : List Value), bv = .int .i64 base ∧ av = .int .i64 (at_ : Int) ∧ Row (fun x => w.heap.size ≤ x) wr TBs rv vals ∧ Recs wr vals recs ∧ Got b bs at_ ∧ ScanSt (-1) bs base recs ∧ Below w.heap.size w wr) (fun _ _ a _ => b.length - (intOf a).toNat)
  case atStart => exact ⟨[], 0, -1, [], [], rfl, rfl, Row.nil _ _ _, Recs.nil _, .start, ⟨rfl, rfl⟩, Below.refl _ _⟩
  case round =>
    obtain ⟨bs, at_, base, recs, vals, rfl, rfl, hrow, hrec, hgot, hst, hb⟩ := hrel
    obtain ⟨R, cr, rfl, -⟩ := hrow.val
    have hvl : vals.length = recs.length := hrec.1
    obtain ⟨hg1, hg2, -⟩ := hgot.le
    have hnx := refNext_S wr A b c b.length (hr.below hb) rfl hc (by unfold maxLen; omega) (at_ : Int)
    have hfin : ∀ (r : Int) (W' : World), next b at_ = .error r → Below wr.heap.size wr W' → ParseDid w (parseM b) (.returned (.tuple #[.int .i64 base, .slice R vals.length cr, .int .i64 (at_ : Int)])) W' := fun r W' he hb' => by
      rw [parseM_end hgot he hst]
      refine ⟨R, cr, vals, by rw [hvl], ?_, hrec.fr (S' := Non) (Fr.of_below hb'), hb.trans (hb'.mono hb.size)⟩
      rw [← hvl]
      exact hrow.below hb'
    by_cases hlt : at_ < b.length
    · have hlt' : (at_ : Int) < (b.length : Int) := by omega
      cases hn : next b at_ with
      | error r =>
        have hr0 := next_err hn
        have hr1 : (r == 0) = false := beq_eq_false_iff_ne.2 hr0
        have hF := fun W' => hfin r W' hn
        have HN := Lib.hid hn
        clear hn hfin hvl hg1 hg2
        go_wp2_with (go_at_call 138; refine hnx.mono ?_; intro e w2 hd; unfold NextDid at hd; rw [HN.out] at hd; obtain ⟨rfl, hb2⟩ := hd)
        go_ret3
        exact hF _ hb2
      | ok q =>
        obtain ⟨body, en⟩ := q
        have hno := next_ok hn
        simp only at hno
        have hgot2 := hgot.step hn
        have HN := Lib.hid hn
        have hbl : body.length ≤ maxLen := by unfold maxLen; omega
        have HNO := Lib.hid hno
        clear hfin hno
        cases bs with
        | nil =>
          obtain rfl : at_ = 0 := hgot.zero rfl
          obtain ⟨rfl, rfl⟩ := hst
          obtain ⟨tl, htl⟩ := framesOf_first (b := b) hn
          have hv0 : vals = [] := List.eq_nil_of_length_eq_zero hvl
          subst hv0
          have hP := fun h => parseM_bad (b := b) htl h
          clear hn hvl htl
          cases hrn : readNum body with
          | error r =>
            have hr0 := readNum_err hrn
            have hr1 : (r == 0) = false := beq_eq_false_iff_ne.2 hr0
            have hr2 : (r != 0) = true := bne_iff_ne.2 hr0
            have HP := Lib.hid (hP (fun n h => by rw [hrn] at h; cases h))
            have HR := Lib.hid hrn
            clear hP hrn
            go_wp2_with (first
              | (go_at_call 138; refine hnx.mono ?_; intro e w2 hd; unfold NextDid at hd; rw [HN.out] at hd; obtain ⟨A2, c2, rfl, ho2, hc2, hm2, hb2⟩ := hd)
              | (go_at_call 136; refine (refReadNum_B w2 A2 c2 body (ho2.rd _) hbl).mono ?_; unfold ReadDid; rw [HR.out]; rintro e w3 ⟨rfl, rfl⟩))
            go_ret3
            unfold ParseDid
            rw [HP.out]
            exact ⟨none, 0, [], rfl, Row.nil _ _ _, Recs.nil _, hb.trans (hb2.mono hb.size)⟩
          | ok q =>
            obtain ⟨n, sz⟩ := q
            by_cases hsz : sz = body.length
            · subst hsz
              have HR := Lib.hid hrn
              have hrn' := hrn
              clear hP hrn
              go_wp2_with (first
                | (go_at_call 138; refine hnx.mono ?_; intro e w2 hd; unfold NextDid at hd; rw [HN.out] at hd; obtain ⟨A2, c2, rfl, ho2, hc2, hm2, hb2⟩ := hd)
                | (go_at_call 136; refine (refReadNum_B w2 A2 c2 body (ho2.rd _) hbl).mono ?_; unfold ReadDid; rw [HR.out]; rintro e w3 ⟨rfl, rfl⟩))
              go_roundw
              case rel => exact ⟨[body], en, (n : Int), [], [], rfl, rfl, hrow.below hb2, Recs.nil _, hgot2, ⟨rfl, n, HR.out, rfl, .inl (by decide)⟩, hb.trans (hb2.mono hb.size)⟩
              case measure => have := HNO.out; simp [intOf]; omega
            · have heq : ((sz : Int) != (body.length : Int)) = true := by rw [bne_iff_ne]; omega
              have HP := Lib.hid (hP (fun n' h => by rw [hrn] at h; injection h with h; injection h with _ h; exact hsz h))
              have HR := Lib.hid hrn
              clear hP hrn
              go_wp2_with (first
                | (go_at_call 138; refine hnx.mono ?_; intro e w2 hd; unfold NextDid at hd; rw [HN.out] at hd; obtain ⟨A2, c2, rfl, ho2, hc2, hm2, hb2⟩ := hd)
                | (go_at_call 136; refine (refReadNum_B w2 A2 c2 body (ho2.rd _) hbl).mono ?_; unfold ReadDid; rw [HR.out]; rintro e w3 ⟨rfl, rfl⟩))
              go_ret3
              unfold ParseDid
              rw [HP.out]
              exact ⟨none, 0, [], rfl, Row.nil _ _ _, Recs.nil _, hb.trans (hb2.mono hb.size)⟩
        | cons hd0 t =>
          obtain ⟨rfl, n0, hn0, rfl, -⟩ := hst
          rw [List.length_cons] at hg1
          have hpos : ((at_ : Int) == 0) = false := by rw [beq_eq_false_iff_ne]; omega
          have HV4 : vals.length + 1 ≤ maxLen := by unfold maxLen; omega
          have HV5 : (vals.length + 1) * 24 ≤ 140737488355328 := by omega
          have HV := Lib.hid hvl
          have HN0 := Lib.hid hn0
          clear hn hvl hn0
          go_wp2_with (first
            | (go_at_call 138; refine hnx.mono ?_; intro e w2 hd; unfold NextDid at hd; rw [HN.out] at hd; obtain ⟨A2, c2, rfl, ho2, hc2, hm2, hb2⟩ := hd)
            | (at_builtin; refine wpList_append_row rfl (.tmp 47) (.tmp 49) 70 rfl TBs ib _ 24 Tryz.underlying70 hib hzb hsb hbb rfl (.slice R vals.length cr) vals rfl ((hrow.below hb2).below (below_new _ _)) ⟨w2.heap.size, 0, none⟩ (.slice A2 body.length c2) rfl (heap_new_cell _ _ _) rfl HV4 HV5 (by decide) ?_; intro v5 w5 hrow5 hf5 hoth5; obtain ⟨A5, c5, rfl, hc5, hm5⟩ := hrow5.val; rw [List.length_append, List.length_singleton] at hrow5 hc5 ⊢))
          have hbn := below_new w2 (.cells #[.slice A2 body.length c2] TBs)
          have hw2 : w.heap.size ≤ w2.heap.size := Nat.le_trans hb.size hb2.size
          have hb5 : Below w.heap.size w w5 := ((hb.trans (hb2.mono hb.size)).trans (hbn.mono hw2)).trans ⟨hf5.os, hf5.tape, hf5.output, hf5.size, fun x hx => hf5.out x (Nat.lt_of_lt_of_le hx (Nat.le_trans hw2 hbn.size)) (fun hr => by have hr : w.heap.size ≤ x := hr; omega)⟩
          go_roundw
          case rel => exact ⟨(hd0 :: recs) ++ [body], en, (n0 : Int), recs ++ [body], _, rfl, rfl, hrow5.mono (fun x _ hx => hx.elim id (fun q => Nat.le_trans hw2 (Nat.le_trans hbn.size q.1))), (((hrec.fr (S' := Non) (Fr.of_below hb2)).fr (S' := Non) (Fr.of_below hbn)).fr hf5).snoc hc2 hm2 (((ho2.mono (fun _ _ => trivial)).fr (S' := Non) (Fr.of_below hbn)).fr hf5), hgot2, ⟨rfl, n0, HN0.out, rfl, .inl (by decide)⟩, hb5⟩
          case measure => have := HNO.out; simp [intOf]; omega
    · have he : at_ = b.length := by omega
      have hF := hfin 4 wr (by rw [he]; exact next_end b) (Below.refl _ _)
      have hlt' : ¬ (at_ : Int) < (b.length : Int) := by omega
      clear hfin he hvl
      go_wp2
      go_ret3
      exact hF
end Go.Proofs.YtediidajdpdeiaaGreatDoor

/- The document's log (layer 7): plain, in memory, and the walks. -/
namespace Go.Proofs.YtediidajdpdeiaaGreatDoor
open Go.RowKit CrcM
set_option maxRecDepth 100000

abbrev TRl : TypeId := 40
abbrev TPr : TypeId := 138

structure Rg where
  per : Nat
  disks : List Rk
  down : Bool

/-- all bytes of a disk -/
def Rk.all (R : Rk) : List UInt8 := R.kept ++ R.rest

/-- block b is a log of the document's: all of it laid open -/
structure RlogO (S H : Nat → Prop) (w : World) (b : Nat) (A : Option Addr) (c : Nat) (ps : List Nat) (L : Rg) : Prop where
  hS : ∀ x, H x → S x
  hb : H b
  blk : Blk w b TRl #[.int .i64 (L.per : Int), .slice A ps.length c, .bool L.down]
  row : Row H w TPr (.slice A ps.length c) (ps.map ptr)
  disks : Refs S H w ps L.disks
  lt : ∀ x, S x → x < w.heap.size
  per : 1 ≤ L.per ∧ L.per ≤ 1024
  few : L.disks.length ≤ 256
  small : ∀ R ∈ L.disks, R.kept.length + R.rest.length ≤ 4194304

section
variable {S H S' : Nat → Prop} {w w' : World} {b : Nat} {A : Option Addr} {c : Nat} {ps : List Nat} {L : Rg}
theorem RlogO.fr (h : RlogO S H w b A c ps L) (f : Fr S' w w') (hd : ∀ x, S x → S' x → IsB w x) : RlogO S H w' b A c ps L :=
  ⟨h.hS, h.hb, h.blk.fr f (fun hs => h.blk.notB (by decide) (hd _ (h.hS _ h.hb) hs)), h.row.fr f (fun x p q => hd x (h.hS x p) q), h.disks.fr f (fun x p _ q => hd x p q), fun x hx => Nat.lt_of_lt_of_le (h.lt x hx) f.size, h.per, h.few, h.small⟩
theorem RlogO.below (h : RlogO S H w b A c ps L) (hb : Below w.heap.size w w') : RlogO S H w' b A c ps L := h.fr (S' := Non) (Fr.of_below hb) (fun _ _ h => h.elim)
theorem RlogO.mono (h : RlogO S H w b A c ps L) (hs : ∀ x, S x → S' x) (hl : ∀ x, S' x → x < w.heap.size) : RlogO S' H w b A c ps L :=
  ⟨fun x p => hs x (h.hS x p), h.hb, h.blk, h.row, h.disks.mono (fun x _ => hs x) (fun _ _ _ h => h), hl, h.per, h.few, h.small⟩
theorem RlogO.facts {per : Nat} {ds : List Rk} {dn : Bool} (h : RlogO S H w b A c ps ⟨per, ds, dn⟩) :
    w.cell? ⟨b, 0, none⟩ = some (.int .i64 (per : Int)) ∧ w.cell? ⟨b, 1, none⟩ = some (.slice A ps.length c) ∧ w.cell? ⟨b, 2, none⟩ = some (.bool dn) ∧ w.frozen? ⟨b, 1, none⟩ = false ∧ w.frozen? ⟨b, 2, none⟩ = false ∧
    ps.length = ds.length ∧ ps.length ≤ 256 ∧ ps.length ≤ c ∧ c ≤ 9223372036854775807 := by
  have h1 := h.disks.len
  have h2 := h.few
  simp only at h1 h2
  obtain ⟨A', c', h4, h5, h6⟩ := h.row.val
  injection h4 with _ _ h4
  subst h4
  unfold maxLen at h6
  rw [List.length_map] at h5
  exact ⟨h.blk.cell 0 rfl, h.blk.cell 1 rfl, h.blk.cell 2 rfl, h.blk.frozen 1, h.blk.frozen 2, h1, by omega, h5, h6⟩
theorem RlogO.ptrAt (h : RlogO S H w b A c ps L) {k p : Nat} (hp : ps[k]? = some p) : ∃ g o, A = some ⟨g, o, none⟩ ∧ w.cell? ⟨g, o + k, none⟩ = some (.pointer (some ⟨p, 0, none⟩)) := by
  obtain ⟨g, o, c', h1, h2, h3, h4, _⟩ := h.row.cell (k := k) (u := ptr p) (by rw [List.getElem?_map, hp]; rfl)
  injection h1 with h1
  exact ⟨g, o, h1, h4⟩
/-- one disk, and what becomes of the log when it turns -/
theorem RlogO.disk {per : Nat} {ds : List Rk} {dn : Bool} (h : RlogO S H w b A c ps ⟨per, ds, dn⟩) {k p : Nat} {R : Rk} (hp : ps[k]? = some p) (hR : ds[k]? = some R) :
    ∃ (Sd : Nat → Prop) (A1 : Option Addr) (c1 : Nat) (A2 : Option Addr) (c2 : Nat), RefAt Sd w p A1 c1 A2 c2 R ∧ (∀ x, Sd x → S x) ∧
      ∀ w' R', Fr Sd w w' → IsRef (Up Sd w w') w' (.pointer (some ⟨p, 0, none⟩)) R' → R'.kept.length + R'.rest.length ≤ 4194304 → RlogO (Up S w w') H w' b A c ps ⟨per, ds.set k R', dn⟩ := by
  have hH : ∀ x, H x → x < w.heap.size := fun x hx => h.lt x (h.hS x hx)
  obtain ⟨Fi, hF, ⟨A1, c1, A2, c2, hs⟩, hup⟩ := h.disks.at hp hR
  refine ⟨Fi, A1, c1, A2, c2, hs, fun x hx => (hF x hx).1, fun w' R' f hd hsm => ?_⟩
  obtain ⟨p', A1', c1', A2', c2', e, hd⟩ := hd
  injection e with e
  injection e with e
  injection e with e
  subst e
  have hps : ps.set k p = ps := by
    apply List.ext_getElem?
    intro i
    rw [List.getElem?_set]
    split
    · rename_i hi
      subst hi
      rw [if_pos (List.getElem?_eq_some_iff.1 hp).1, hp]
    · rfl
  have hS := hup w' p R' f hH ⟨A1', c1', A2', c2', hd⟩
  rw [hps] at hS
  refine ⟨fun x hx => .inl (h.hS x hx), h.hb, h.blk.fr f (fun hs => (hF b hs).2.1 h.hb), h.row.fr f (fun x p q => ((hF x q).2.1 p).elim), hS, Up.lt h.lt f.size, h.per, by have := h.few; simpa using this, ?_⟩
  intro R2 hR2
  rcases List.mem_or_eq_of_mem_set hR2 with hm | rfl
  · exact h.small R2 hm
  · exact hsm
end
end Go.Proofs.YtediidajdpdeiaaGreatDoor
