/- The document's numbers (layer 1), walked. -/
import Derived.Test.YtediidajdpdeiaaDoorJ2

namespace Go.Proofs.YtediidajdpdeiaaDoor
open Go.RowKit CrcM
set_option maxRecDepth 100000

theorem refNum_B (w : World) (A : Option Addr) (c : Nat) (l : List UInt8) (hr : Rd Non w A l) (hl : l.length ≤ 70368744177664) (n : Nat) (hn : n ≤ 4611686018427387904) :
    Calls Tryd.prog 122 #[.slice A l.length c, .int .i64 (n : Int)] w (NumPair w (l ++ numB n)) := by
  obtain ⟨i, hi, hz, hs, hby⟩ := info_parts info_u8
  have hr1 := hr.fr ((Fr.refl Non w).alloc (.cells #[] TB))
  go_enter Tryd.func122, Tryd.ntmps122
  go_wp2_with (at_builtin
               refine wpList_appB rfl (.tmp 13) (.tmp 14) 22 rfl i Tryd.underlying22 hi hz hs hby w.heap.size _ 0 [] rfl (ownsB_none w) Non A l.length c l rfl rfl hr1 (by omega) (by simp) ?_
               intro v1 w1 hown1 hgrow1 hat1
               rw [Nat.zero_add, List.nil_append] at hown1)
  have hrow : ∀ j, (Value.slice (some ⟨w.heap.size, 0, none⟩) 0 0).ownBlock = some j → w.heap.size ≤ j := fun j hj => Nat.le_of_eq (Option.some.inj hj)
  have hrow : ∀ j, (Value.slice (some ⟨w.heap.size, 0, none⟩) 0 0).ownBlock = some j → w.heap.size ≤ j := fun j hj => Nat.le_of_eq (Option.some.inj hj)
  have hb1 : Below w.heap.size w w1 := ((Below.refl _ _).alloc (Nat.le_refl _) _).grown hgrow1 (by simp) hrow
  go_loopw [1, 6] (fun q s wr => ∃ (k : Nat) (xs : List UInt8), k ≤ n ∧ q = .int .i64 (k : Int) ∧ xs ++ numB k = l ++ numB n ∧ wr.ownsRow w.heap.size TB 1 s xs.length (xs.map byteV) ∧ Below w.heap.size w wr) (fun q _ _ => (intOf q).toNat)
  case atStart => exact ⟨n, l, Nat.le_refl _, rfl, rfl, hown1, hb1⟩
  case round =>
    obtain ⟨k, xs, hk, rfl, hxs, ho, hbl⟩ := hrel
    have hx2 : xs.length ≤ l.length + 10 := by
      have := congrArg List.length hxs
      have := numB_10 (n := n) (by omega)
      simp only [List.length_append] at *
      omega
    obtain ⟨Av, cv, rfl, _, _⟩ := own_val ho
    by_cases h : k < 128
    · have h' : ¬ (128 : Int) ≤ (k : Int) := by omega
      rw [numB_lt h] at hxs
      have HX := Lib.hid hxs
      clear hxs
      have hx : Value.int .u8 (k : Int) = byteV (UInt8.ofNat k) := by
        unfold byteV; rw [UInt8.toNat_ofNat', Nat.mod_eq_of_lt (by omega)]
      have HY := Lib.hid hx
      clear hx
      go_wp2_with (at_builtin
                   refine wpList_appB rfl (.tmp 27) (.tmp 30) 22 rfl i Tryd.underlying22 hi hz hs hby w.heap.size _ xs.length xs rfl (ho.alloc _) Non _ 1 1 [UInt8.ofNat k] rfl rfl (rd_one wr _ _ (by first | exact HY.out | (simp; exact HY.out)) _) (by omega) (by have := hbl.size; simp; omega) ?_
                   intro v2 w2 hown2 hgrow hat)
      go_ret2
      rw [HX.out] at hown2
      refine ⟨_, rfl, ?_, (hbl.alloc hbl.size _).grown hgrow (by have := hbl.size; simp; omega) (fun j hj => (ho.lt j hj).1)⟩
      have e : (l ++ numB n).length = xs.length + 1 := by rw [← HX.out]; simp
      rw [e]; exact hown2
    · have h' : (128 : Int) ≤ (k : Int) := by omega
      rw [numB_ge h, List.append_cons] at hxs
      have HX := Lib.hid hxs
      clear hxs
      have hx : Value.int .u8 ((k : Int) % 128 + 128) = byteV (UInt8.ofNat (k % 128 + 128)) := by
        unfold byteV; rw [UInt8.toNat_ofNat', Nat.mod_eq_of_lt (by omega)]
        congr 1
      have HY := Lib.hid hx
      clear hx
      go_wp2_with (at_builtin
                   refine wpList_appB rfl (.tmp 18) (.tmp 23) 22 rfl i Tryd.underlying22 hi hz hs hby w.heap.size _ xs.length xs rfl (ho.alloc _) Non _ 1 1 [UInt8.ofNat (k % 128 + 128)] rfl rfl (rd_one wr _ _ HY.out _) (by omega) (by have := hbl.size; simp; omega) ?_
                   intro v2 w2 hown2 hgrow hat)
      go_roundw
      case rel => exact ⟨k / 128, xs ++ [UInt8.ofNat (k % 128 + 128)], by omega, by go_num, HX.out, by rw [List.length_append]; exact hown2, (hbl.alloc hbl.size _).grown hgrow (by have := hbl.size; simp; omega) (fun j hj => (ho.lt j hj).1)⟩
      case measure => simp [intOf]; omega

set_option maxHeartbeats 1000000 in
theorem refReadNum_B (w : World) (A : Option Addr) (c : Nat) (l : List UInt8) (hr : Rd Non w A l) (hl : l.length ≤ maxLen) :
    Calls Tryd.prog 128 #[.slice A l.length c] w (ReadDid w l) := by
  unfold maxLen at hl
  go_enter Tryd.func128, Tryd.ntmps128
  go_wp2
  go_loop [5, 6, 7] (fun n wt i => ∃ k a : Nat, k ≤ l.length ∧ i = .int .i64 (k : Int) ∧ n = .int .i64 (a : Int) ∧ wt = .int .i64 ((128 ^ min k 8 : Nat) : Int) ∧ k ≤ 9 ∧ a < 128 ^ k ∧ readNum l = readN (l.drop k) k a) (fun _ _ i => l.length - (intOf i).toNat)
  case atStart => exact ⟨0, 0, by omega, rfl, rfl, rfl, by omega, by simp, rfl⟩
  case round =>
    obtain ⟨k, a, hk, rfl, rfl, rfl, hk9, ha, hrd⟩ := hrel
    by_cases hlt : k < l.length
    · obtain ⟨x, hx⟩ : ∃ x, l[k]? = some x := ⟨_, List.getElem?_eq_getElem hlt⟩
      obtain ⟨ad, rfl, hcl, -⟩ := hr k x hx
      unfold byteV at hcl
      have hdr : l.drop k = x :: l.drop (k + 1) := by
        rw [List.drop_eq_getElem_cons hlt]
        congr 1
        rw [List.getElem?_eq_getElem hlt] at hx
        exact Option.some.inj hx
      rw [hdr, readN] at hrd
      have hxl := x.toNat_lt
      have hlt' : (k : Int) < (l.length : Int) := by omega
      have hm : x.toNat % 128 < 128 := Nat.mod_lt _ (by omega)
      have hs128 : a + x.toNat % 128 * 128 ^ k < 128 ^ (k + 1) := by
        have : x.toNat % 128 * 128 ^ k ≤ 127 * 128 ^ k := Nat.mul_le_mul_right _ (by omega)
        rw [Nat.pow_succ]; omega
      clear hdr hx
      by_cases h1 : k = 9 ∨ (x.toNat = 0 ∧ 0 < k)
      · rw [if_pos h1] at hrd
        have HR := Lib.hid hrd
        clear hrd hs128
        generalize 128 ^ min k 8 = wt at *
        rcases h1 with h1 | ⟨h1, h2⟩
        · have h1' : ((k : Int) == 9) = true := by simp; omega
          clear h1
          go_wp2
          go_ret3
          exact ⟨by rw [HR.out]; rfl, rfl⟩
        · have h1' : ((x.toNat : Int) == 0) = true := by simp; omega
          have h2' : (0 : Int) < (k : Int) := by omega
          clear h1 h2
          by_cases h3 : (k : Int) = 9
          · have h3' : ((k : Int) == 9) = true := by simp; omega
            clear h3
            go_wp2
            go_ret3
            exact ⟨by rw [HR.out]; rfl, rfl⟩
          · have h3' : ((k : Int) == 9) = false := by simp; omega
            clear h3
            go_wp2
            go_ret3
            exact ⟨by rw [HR.out]; rfl, rfl⟩
      · rw [if_neg h1] at hrd
        have h3' : ((k : Int) == 9) = false := by simp; omega
        have hk8 : k ≤ 8 := by omega
        have hle : (128 : Nat) ^ (k + 1) ≤ 128 ^ 9 := Nat.pow_le_pow_right (by omega) (by omega)
        have HP7 := Lib.hid (show k ≠ 8 → a + x.toNat % 128 * 128 ^ k < 72057594037927936 from fun h => by
          have : (128 : Nat) ^ (k + 1) ≤ 128 ^ 8 := Nat.pow_le_pow_right (by omega) (by omega)
          omega)
        have HP8 := Lib.hid (show k = 8 → x.toNat % 128 * 128 ^ k = x.toNat % 128 * 72057594037927936 ∧ a < 72057594037927936 from fun h => by
          subst h
          exact ⟨rfl, by omega⟩)
        have HW8 := Lib.hid (show k < 8 → 128 ^ min (k + 1) 8 = 128 ^ min k 8 * 128 from fun h => by
          rw [Nat.min_eq_left (by omega), Nat.min_eq_left (by omega), Nat.pow_succ])
        have HW9 := Lib.hid (show ¬ k < 8 → 128 ^ min (k + 1) 8 = 128 ^ min k 8 from fun h => by
          rw [Nat.min_eq_right (by omega), Nat.min_eq_right (by omega)])
        have hwt : k < 8 → 128 ^ min k 8 ≤ 562949953421312 := fun h => by
          rw [Nat.min_eq_left (by omega)]
          have : (128 : Nat) ^ k ≤ 128 ^ 7 := Nat.pow_le_pow_right (by omega) (by omega)
          omega
        have hmk : min k 8 = k := Nat.min_eq_left hk8
        have eo : wrap64 ((x.toNat : Int) % 128 * ((128 ^ min k 8 : Nat) : Int)) = ((x.toNat % 128 * 128 ^ k : Nat) : Int) := by
          rw [hmk]
          have e1 : ((x.toNat : Int) % 128 * ((128 ^ k : Nat) : Int)) = ((x.toNat % 128 * 128 ^ k : Nat) : Int) := by push_cast; rfl
          rw [e1]
          unfold wrap64
          omega
        have hlt63 : a + x.toNat % 128 * 128 ^ k < 9223372036854775808 := by omega
        generalize hW : 128 ^ min (k + 1) 8 = wt' at *
        have HW := Lib.hid hW
        clear hW
        generalize 128 ^ min k 8 = wt at *
        generalize x.toNat % 128 * 128 ^ k = p at *
        obtain ⟨n', hn'⟩ : ∃ n', n' = a + p := ⟨_, rfl⟩
        rw [← hn'] at hrd hs128
        have HN := Lib.hid hn'
        have H1 := Lib.hid h1
        have hk0 : x.toNat = 0 → k = 0 := by omega
        clear h1 hle hn' hmk
        have hc : x.toNat = 0 ∧ k = 0 ∨ x.toNat ≠ 0 ∧ x.toNat % 128 = 0 ∧ k = 0 ∨ x.toNat ≠ 0 ∧ x.toNat % 128 = 0 ∧ 0 < k ∨ x.toNat % 128 ≠ 0 ∧ k ≠ 8 ∧ k = 0 ∨ x.toNat % 128 ≠ 0 ∧ k ≠ 8 ∧ 0 < k ∨ k = 8 ∧ 64 < x.toNat % 128 ∨ k = 8 ∧ x.toNat % 128 = 64 ∧ 0 < a ∨ k = 8 ∧ x.toNat % 128 = 64 ∧ a = 0 ∨ k = 8 ∧ x.toNat % 128 ≠ 0 ∧ x.toNat % 128 < 64 := by omega
        clear hk0
        rcases hc with ⟨q1, q2⟩ | ⟨q1, q2, q3⟩ | ⟨q1, q2, q3⟩ | ⟨q1, q2, q3⟩ | ⟨q1, q2, q3⟩ | ⟨q1, q2⟩ | ⟨q1, q2, q3⟩ | ⟨q1, q2, q3⟩ | ⟨q1, q2, q3⟩
        · have hok : ¬ 4611686018427387904 < n' := by have := HN.out; have h7 := HP7.out; have h8 := HP8.out; omega
          rw [if_neg hok] at hrd
          clear hok
          have g3 : ((x.toNat : Int) == 0) = true := by simp; omega
          have g4 : ¬ (0 : Int) < (k : Int) := by omega
          have g1 : ¬ (0 : Int) < (x.toNat : Int) % 128 := by omega
          have HQ1 := Lib.hid q1
          have HQ2 := Lib.hid q2
          clear q1 q2
          have HS := Lib.hid hs128
          clear hs128
          by_cases h8 : x.toNat < 128
          · rw [if_pos h8] at hrd
            have h8' : (x.toNat : Int) < 128 := by omega
            have HR := Lib.hid hrd
            clear hrd
            go_wp2
            go_ret3
            exact ⟨by rw [HR.out, HN.out]; rfl, rfl⟩
          · rw [if_neg h8] at hrd
            have h8' : ¬ (x.toNat : Int) < 128 := by omega
            have HR := Lib.hid hrd
            clear hrd
            by_cases hk8' : k < 8
            · have hk8i : (k : Int) < 8 := by omega
              go_wp2
              go_round
              case rel => exact ⟨k + 1, n', by omega, by go_num, by rw [HN.out]; go_num, by rw [HW.out]; have := HW8.out hk8'; go_num, by omega, HS.out, HR.out⟩
              case measure => simp [intOf] <;> omega
            · have hk8i : ¬ (k : Int) < 8 := by omega
              go_wp2
              all_goals (
                go_round
                case rel => exact ⟨k + 1, n', by omega, by go_num, by rw [HN.out]; go_num, by rw [HW.out]; have := HW9.out hk8'; go_num, by omega, HS.out, HR.out⟩
                case measure => simp [intOf] <;> omega)
        · have hok : ¬ 4611686018427387904 < n' := by have := HN.out; have h7 := HP7.out; have h8 := HP8.out; omega
          rw [if_neg hok] at hrd
          clear hok
          have g3 : ((x.toNat : Int) == 0) = false := by simp; omega
          have g1 : ¬ (0 : Int) < (x.toNat : Int) % 128 := by omega
          have g9 : ¬ (0 : Int) < (k : Int) := by omega
          have HQ1 := Lib.hid q1
          have HQ2 := Lib.hid q2
          have HQ3 := Lib.hid q3
          clear q1 q2 q3
          have HS := Lib.hid hs128
          clear hs128
          by_cases h8 : x.toNat < 128
          · rw [if_pos h8] at hrd
            have h8' : (x.toNat : Int) < 128 := by omega
            have HR := Lib.hid hrd
            clear hrd
            go_wp2
            go_ret3
            exact ⟨by rw [HR.out, HN.out]; rfl, rfl⟩
          · rw [if_neg h8] at hrd
            have h8' : ¬ (x.toNat : Int) < 128 := by omega
            have HR := Lib.hid hrd
            clear hrd
            by_cases hk8' : k < 8
            · have hk8i : (k : Int) < 8 := by omega
              go_wp2
              go_round
              case rel => exact ⟨k + 1, n', by omega, by go_num, by rw [HN.out]; go_num, by rw [HW.out]; have := HW8.out hk8'; go_num, by omega, HS.out, HR.out⟩
              case measure => simp [intOf] <;> omega
            · have hk8i : ¬ (k : Int) < 8 := by omega
              go_wp2
              all_goals (
                go_round
                case rel => exact ⟨k + 1, n', by omega, by go_num, by rw [HN.out]; go_num, by rw [HW.out]; have := HW9.out hk8'; go_num, by omega, HS.out, HR.out⟩
                case measure => simp [intOf] <;> omega)
        · have hok : ¬ 4611686018427387904 < n' := by have := HN.out; have h7 := HP7.out; have h8 := HP8.out; omega
          rw [if_neg hok] at hrd
          clear hok
          have g3 : ((x.toNat : Int) == 0) = false := by simp; omega
          have g1 : ¬ (0 : Int) < (x.toNat : Int) % 128 := by omega
          have g9 : (0 : Int) < (k : Int) := by omega
          have HQ1 := Lib.hid q1
          have HQ2 := Lib.hid q2
          have HQ3 := Lib.hid q3
          clear q1 q2 q3
          have HS := Lib.hid hs128
          clear hs128
          by_cases h8 : x.toNat < 128
          · rw [if_pos h8] at hrd
            have h8' : (x.toNat : Int) < 128 := by omega
            have HR := Lib.hid hrd
            clear hrd
            go_wp2
            go_ret3
            exact ⟨by rw [HR.out, HN.out]; rfl, rfl⟩
          · rw [if_neg h8] at hrd
            have h8' : ¬ (x.toNat : Int) < 128 := by omega
            have HR := Lib.hid hrd
            clear hrd
            by_cases hk8' : k < 8
            · have hk8i : (k : Int) < 8 := by omega
              go_wp2
              go_round
              case rel => exact ⟨k + 1, n', by omega, by go_num, by rw [HN.out]; go_num, by rw [HW.out]; have := HW8.out hk8'; go_num, by omega, HS.out, HR.out⟩
              case measure => simp [intOf] <;> omega
            · have hk8i : ¬ (k : Int) < 8 := by omega
              go_wp2
              all_goals (
                go_round
                case rel => exact ⟨k + 1, n', by omega, by go_num, by rw [HN.out]; go_num, by rw [HW.out]; have := HW9.out hk8'; go_num, by omega, HS.out, HR.out⟩
                case measure => simp [intOf] <;> omega)
        · have hok : ¬ 4611686018427387904 < n' := by have := HN.out; have h7 := HP7.out; have h8 := HP8.out; omega
          rw [if_neg hok] at hrd
          clear hok
          have g3 : ((x.toNat : Int) == 0) = false := by simp; omega
          have g1 : (0 : Int) < (x.toNat : Int) % 128 := by omega
          have g2 : ((k : Int) == 8) = false := by simp; omega
          have g9 : ¬ (0 : Int) < (k : Int) := by omega
          have HQ1 := Lib.hid q1
          have HQ2 := Lib.hid q2
          have HQ3 := Lib.hid q3
          clear q1 q2 q3
          have HS := Lib.hid hs128
          clear hs128
          by_cases h8 : x.toNat < 128
          · rw [if_pos h8] at hrd
            have h8' : (x.toNat : Int) < 128 := by omega
            have HR := Lib.hid hrd
            clear hrd
            go_wp2
            go_ret3
            exact ⟨by rw [HR.out, HN.out]; rfl, rfl⟩
          · rw [if_neg h8] at hrd
            have h8' : ¬ (x.toNat : Int) < 128 := by omega
            have HR := Lib.hid hrd
            clear hrd
            by_cases hk8' : k < 8
            · have hk8i : (k : Int) < 8 := by omega
              go_wp2
              go_round
              case rel => exact ⟨k + 1, n', by omega, by go_num, by rw [HN.out]; go_num, by rw [HW.out]; have := HW8.out hk8'; go_num, by omega, HS.out, HR.out⟩
              case measure => simp [intOf] <;> omega
            · have hk8i : ¬ (k : Int) < 8 := by omega
              go_wp2
              all_goals (
                go_round
                case rel => exact ⟨k + 1, n', by omega, by go_num, by rw [HN.out]; go_num, by rw [HW.out]; have := HW9.out hk8'; go_num, by omega, HS.out, HR.out⟩
                case measure => simp [intOf] <;> omega)
        · have hok : ¬ 4611686018427387904 < n' := by have := HN.out; have h7 := HP7.out; have h8 := HP8.out; omega
          rw [if_neg hok] at hrd
          clear hok
          have g3 : ((x.toNat : Int) == 0) = false := by simp; omega
          have g1 : (0 : Int) < (x.toNat : Int) % 128 := by omega
          have g2 : ((k : Int) == 8) = false := by simp; omega
          have g9 : (0 : Int) < (k : Int) := by omega
          have HQ1 := Lib.hid q1
          have HQ2 := Lib.hid q2
          have HQ3 := Lib.hid q3
          clear q1 q2 q3
          have HS := Lib.hid hs128
          clear hs128
          by_cases h8 : x.toNat < 128
          · rw [if_pos h8] at hrd
            have h8' : (x.toNat : Int) < 128 := by omega
            have HR := Lib.hid hrd
            clear hrd
            go_wp2
            go_ret3
            exact ⟨by rw [HR.out, HN.out]; rfl, rfl⟩
          · rw [if_neg h8] at hrd
            have h8' : ¬ (x.toNat : Int) < 128 := by omega
            have HR := Lib.hid hrd
            clear hrd
            by_cases hk8' : k < 8
            · have hk8i : (k : Int) < 8 := by omega
              go_wp2
              go_round
              case rel => exact ⟨k + 1, n', by omega, by go_num, by rw [HN.out]; go_num, by rw [HW.out]; have := HW8.out hk8'; go_num, by omega, HS.out, HR.out⟩
              case measure => simp [intOf] <;> omega
            · have hk8i : ¬ (k : Int) < 8 := by omega
              go_wp2
              all_goals (
                go_round
                case rel => exact ⟨k + 1, n', by omega, by go_num, by rw [HN.out]; go_num, by rw [HW.out]; have := HW9.out hk8'; go_num, by omega, HS.out, HR.out⟩
                case measure => simp [intOf] <;> omega)
        · have hok : 4611686018427387904 < n' := by have := HN.out; have h7 := HP7.out; have h8 := HP8.out; omega
          rw [if_pos hok] at hrd
          clear hok
          have g3 : ((x.toNat : Int) == 0) = false := by simp; omega
          have g1 : (0 : Int) < (x.toNat : Int) % 128 := by omega
          have g2 : ((k : Int) == 8) = true := by simp; omega
          have g9 : (0 : Int) < (k : Int) := by omega
          have g5 : (64 : Int) < (x.toNat : Int) % 128 := by omega
          have HQ1 := Lib.hid q1
          have HQ2 := Lib.hid q2
          clear q1 q2
          have HR := Lib.hid hrd
          clear hrd
          go_wp2
          go_ret3
          exact ⟨by rw [HR.out]; rfl, rfl⟩
        · have hok : 4611686018427387904 < n' := by have := HN.out; have h7 := HP7.out; have h8 := HP8.out; omega
          rw [if_pos hok] at hrd
          clear hok
          have g3 : ((x.toNat : Int) == 0) = false := by simp; omega
          have g1 : (0 : Int) < (x.toNat : Int) % 128 := by omega
          have g2 : ((k : Int) == 8) = true := by simp; omega
          have g9 : (0 : Int) < (k : Int) := by omega
          have g5 : ¬ (64 : Int) < (x.toNat : Int) % 128 := by omega
          have g6 : ((x.toNat : Int) % 128 == 64) = true := by simp; omega
          have g7 : (0 : Int) < (a : Int) := by omega
          have HQ1 := Lib.hid q1
          have HQ2 := Lib.hid q2
          have HQ3 := Lib.hid q3
          clear q1 q2 q3
          have HR := Lib.hid hrd
          clear hrd
          go_wp2
          go_ret3
          exact ⟨by rw [HR.out]; rfl, rfl⟩
        · have hok : ¬ 4611686018427387904 < n' := by have := HN.out; have h7 := HP7.out; have h8 := HP8.out; omega
          rw [if_neg hok] at hrd
          clear hok
          have g3 : ((x.toNat : Int) == 0) = false := by simp; omega
          have g1 : (0 : Int) < (x.toNat : Int) % 128 := by omega
          have g2 : ((k : Int) == 8) = true := by simp; omega
          have g9 : (0 : Int) < (k : Int) := by omega
          have g5 : ¬ (64 : Int) < (x.toNat : Int) % 128 := by omega
          have g6 : ((x.toNat : Int) % 128 == 64) = true := by simp; omega
          have g7 : ¬ (0 : Int) < (a : Int) := by omega
          have HQ1 := Lib.hid q1
          have HQ2 := Lib.hid q2
          have HQ3 := Lib.hid q3
          clear q1 q2 q3
          have HS := Lib.hid hs128
          clear hs128
          by_cases h8 : x.toNat < 128
          · rw [if_pos h8] at hrd
            have h8' : (x.toNat : Int) < 128 := by omega
            have HR := Lib.hid hrd
            clear hrd
            go_wp2
            go_ret3
            exact ⟨by rw [HR.out, HN.out]; rfl, rfl⟩
          · rw [if_neg h8] at hrd
            have h8' : ¬ (x.toNat : Int) < 128 := by omega
            have HR := Lib.hid hrd
            clear hrd
            by_cases hk8' : k < 8
            · have hk8i : (k : Int) < 8 := by omega
              go_wp2
              go_round
              case rel => exact ⟨k + 1, n', by omega, by go_num, by rw [HN.out]; go_num, by rw [HW.out]; have := HW8.out hk8'; go_num, by omega, HS.out, HR.out⟩
              case measure => simp [intOf] <;> omega
            · have hk8i : ¬ (k : Int) < 8 := by omega
              go_wp2
              all_goals (
                go_round
                case rel => exact ⟨k + 1, n', by omega, by go_num, by rw [HN.out]; go_num, by rw [HW.out]; have := HW9.out hk8'; go_num, by omega, HS.out, HR.out⟩
                case measure => simp [intOf] <;> omega)
        · have hok : ¬ 4611686018427387904 < n' := by have := HN.out; have h7 := HP7.out; have h8 := HP8.out; omega
          rw [if_neg hok] at hrd
          clear hok
          have g3 : ((x.toNat : Int) == 0) = false := by simp; omega
          have g1 : (0 : Int) < (x.toNat : Int) % 128 := by omega
          have g2 : ((k : Int) == 8) = true := by simp; omega
          have g9 : (0 : Int) < (k : Int) := by omega
          have g5 : ¬ (64 : Int) < (x.toNat : Int) % 128 := by omega
          have g6 : ((x.toNat : Int) % 128 == 64) = false := by simp; omega
          have HQ1 := Lib.hid q1
          have HQ2 := Lib.hid q2
          have HQ3 := Lib.hid q3
          clear q1 q2 q3
          have HS := Lib.hid hs128
          clear hs128
          by_cases h8 : x.toNat < 128
          · rw [if_pos h8] at hrd
            have h8' : (x.toNat : Int) < 128 := by omega
            have HR := Lib.hid hrd
            clear hrd
            go_wp2
            go_ret3
            exact ⟨by rw [HR.out, HN.out]; rfl, rfl⟩
          · rw [if_neg h8] at hrd
            have h8' : ¬ (x.toNat : Int) < 128 := by omega
            have HR := Lib.hid hrd
            clear hrd
            by_cases hk8' : k < 8
            · have hk8i : (k : Int) < 8 := by omega
              go_wp2
              go_round
              case rel => exact ⟨k + 1, n', by omega, by go_num, by rw [HN.out]; go_num, by rw [HW.out]; have := HW8.out hk8'; go_num, by omega, HS.out, HR.out⟩
              case measure => simp [intOf] <;> omega
            · have hk8i : ¬ (k : Int) < 8 := by omega
              go_wp2
              all_goals (
                go_round
                case rel => exact ⟨k + 1, n', by omega, by go_num, by rw [HN.out]; go_num, by rw [HW.out]; have := HW9.out hk8'; go_num, by omega, HS.out, HR.out⟩
                case measure => simp [intOf] <;> omega)
    · obtain rfl : k = l.length := by omega
      rw [List.drop_length, readN] at hrd
      have HR := Lib.hid hrd
      clear hrd
      go_wp2
      go_ret3
      unfold ReadDid
      exact ⟨by rw [HR.out]; rfl, rfl⟩
end Go.Proofs.YtediidajdpdeiaaDoor

/- The document's Next, of bytes whose block may have any room behind them (for Parse of what a disk keeps). -/
namespace Go.Proofs.YtediidajdpdeiaaDoor
open Go.RowKit CrcM
set_option maxRecDepth 100000

set_option maxHeartbeats 1000000 in
theorem refSum_S (w : World) (A : Option Addr) (l : List UInt8) (c n : Nat) (hr : Rd Non w A l) (hl : l.length = n) (hn : n ≤ c) (hc : n ≤ maxLen) :
    Calls Tryd.prog 23 #[.slice A n c] w fun e w' => e = .returned (.int .u32 ((sum l).toNat : Int)) ∧ w = w' := by
  unfold maxLen at hc
  have HL := Lib.hid hl
  clear hl
  go_enter Tryd.func23, Tryd.ntmps23
  go_wp2
  go_loop [3, 4] (fun r i => ∃ k : Nat, k ≤ n ∧ i = .int .i64 k ∧ r = .int .u32 ((reg (BitVec.allOnes 32) (l.take k)).toNat : Int)) (fun _ i => n - (intOf i).toNat)
  case atStart => exact ⟨0, by omega, rfl, by simp [reg]⟩
  case round =>
    obtain ⟨k, hk, rfl, rfl⟩ := hrel
    by_cases hlt : k < n
    · obtain ⟨x, hx⟩ : ∃ x, l[k]? = some x := ⟨_, List.getElem?_eq_getElem (by rw [HL.out]; exact hlt)⟩
      obtain ⟨ad, rfl, hcl, -⟩ := hr k x hx
      unfold byteV at hcl
      have e1 : reg (BitVec.allOnes 32) (l.take (k + 1)) = upd (reg (BitVec.allOnes 32) (l.take k)) x := by
        rw [List.take_add_one, hx]; simp [reg]
      have HS := Lib.hid e1
      generalize reg (BitVec.allOnes 32) (l.take k) = R at *
      clear e1 hx
      have hxl := x.toNat_lt
      have hlt' : (k : Int) < (n : Int) := by omega
      go_wp2
      go_loop [3, 5] (fun r i => ∃ (j : Nat) (R' : BitVec 32), j ≤ 8 ∧ i = .int .i64 j ∧ r = .int .u32 (R'.toNat : Int) ∧ docLoop (8 - j) R' (x.toNat / 2 ^ j) = upd R x) (fun _ i => 8 - (intOf i).toNat)
      case atStart => exact ⟨0, R, by omega, rfl, rfl, by simpa using doc8 R x⟩
      case round =>
        obtain ⟨j, R', hj, rfl, rfl, hd⟩ := hrel
        have HD := Lib.hid hd
        clear hd
        by_cases hj8 : j < 8
        · have hj8' : (j : Int) < 8 := by omega
          have ed : docLoop (8 - (j + 1)) (bitDoc R' (x.toNat / 2 ^ j)) (x.toNat / 2 ^ (j + 1)) = upd R x := by
            have h := HD.out
            rw [show 8 - j = (8 - (j + 1)) + 1 by omega, docLoop, Nat.div_div_eq_div_mul, ← Nat.pow_succ] at h
            exact h
          have ED := Lib.hid ed
          clear ed
          go_wp2
          case roundEnd =>
            rename_i hbit
            rw [doc_bit] at hbit
            refine ⟨⟨j + 1, (R' >>> 1) ^^^ 0xedb88320#32, by omega, by go_num, by rw [doc_xor], ?_⟩, by simp [intOf]; omega⟩
            have h := ED.out
            rw [show bitDoc R' (x.toNat / 2 ^ j) = (R' >>> 1) ^^^ 0xedb88320#32 by unfold bitDoc; rw [hbit]; rfl] at h
            exact h
          case roundEnd =>
            rename_i hbit
            rw [doc_bit] at hbit
            refine ⟨⟨j + 1, R' >>> 1, by omega, by go_num, congrArg (Value.int .u32) (doc_shr R'), ?_⟩, by simp [intOf]; omega⟩
            have h := ED.out
            rw [show bitDoc R' (x.toNat / 2 ^ j) = R' >>> 1 by unfold bitDoc; rw [hbit]; rfl] at h
            exact h
        · obtain rfl : j = 8 := by omega
          have h8 : R' = upd R x := HD.out
          subst h8
          go_wp2
          exact ⟨⟨k + 1, by omega, by go_num, by rw [HS.out]⟩, by simp [intOf]; omega⟩
    · obtain rfl : k = n := by omega
      have e : l.take k = l := List.take_of_length_le (by rw [HL.out]; exact Nat.le_refl _)
      rw [e]
      generalize hR : reg (BitVec.allOnes 32) l = R at *
      have es : bits .xor .u32 (R.toNat : Int) 4294967295 = ((sum l).toNat : Int) := by
        have h := bxor_nat R (BitVec.allOnes 32)
        rw [sum, hR, ← BitVec.xor_allOnes, ← h]
        rfl
      have ES := Lib.hid es
      clear es hR e
      go_wp2
      rw [ES.out]
      go_ret
      exact ⟨rfl, rfl⟩

set_option maxHeartbeats 1000000 in
theorem refNext_S (w : World) (A : Option Addr) (l : List UInt8) (c n : Nat) (hr : Rd Non w A l) (hl : l.length = n) (hn : n ≤ c) (hm : n ≤ maxLen) (a : Int) :
    Calls Tryd.prog 29 #[.slice A n c, .int .i64 a] w (NextDid w l a) := by
  unfold maxLen at hm
  obtain ⟨i, hi, hz, hs, hby⟩ := info_parts info_u8
  have HL := Lib.hid hl
  by_cases h0 : a < 0
  · go_enter Tryd.func29, Tryd.ntmps29
    have e : next l a = .error 2 := if_pos (.inl h0)
    clear hl
    go_wp2
    go_ret3
    exact NextDid.err e (Below.refl _ _)
  obtain ⟨m, rfl⟩ : ∃ m : Nat, a = m := ⟨a.toNat, by omega⟩
  by_cases h1 : (n : Int) < (m : Int)
  · go_enter Tryd.func29, Tryd.ntmps29
    have e : next l m = .error 2 := if_pos (.inr (by rw [hl]; exact h1))
    clear hl
    go_wp2
    go_ret3
    exact NextDid.err e (Below.refl _ _)
  have k0 : ¬ ((m : Int) < 0 ∨ (l.length : Int) < m) := by rw [hl]; omega
  by_cases h2 : (n : Int) - (m : Int) < 12
  · go_enter Tryd.func29, Tryd.ntmps29
    have e : next l m = .error 4 := by unfold next; rw [if_neg k0, if_pos (by rw [hl]; exact h2)]
    have k2 : IntKind.i64.wrap ((n : Int) - (m : Int)) = (n : Int) - (m : Int) := by rw [IntKind.wrap_i64]; omega
    clear hl k0
    go_wp2
    go_ret3
    exact NextDid.err e (Below.refl _ _)
  have e := show next l m = _ by
    unfold next; rw [if_neg k0, if_neg (by rw [hl]; exact h2), Int.toNat_natCast]
  have hd : ((l.take (m + 12)).drop m).length = 12 := by rw [List.length_drop, List.length_take, hl]; omega
  have ht : (l.drop (m + 12)).length = n - (m + 12) := by rw [List.length_drop, hl]
  have hget : ∀ k : Nat, k < 12 → l[m + k]? = some (((l.take (m + 12)).drop m).getD k 0) := by
    intro k hk
    rw [List.getD_eq_getElem?_getD, List.getElem?_drop, List.getElem?_take_of_lt (by omega), List.getElem?_eq_getElem (by rw [hl]; omega)]
    rfl
  generalize hhead : (l.take (m + 12)).drop m = head at *
  generalize hrest : l.drop (m + 12) = rest at *
  have E := Lib.hid e
  have HD := Lib.hid hd
  have HT := Lib.hid ht
  have HH := Lib.hid hhead
  have HR := Lib.hid hrest
  have HG := Lib.hid hget
  clear hget hd ht hhead hrest e k0 hl
  go_enter Tryd.func29, Tryd.ntmps29
  have q1 : IntKind.i64.wrap ((n : Int) - (m : Int)) = (n : Int) - (m : Int) := by rw [IntKind.wrap_i64]; omega
  go_wp2
  clear q1
  go_loop [7, 8, 9] (fun s q i => ∃ k : Nat, k ≤ 4 ∧ i = .int .i64 k ∧ q = .int .i64 ((256 ^ k : Nat) : Int) ∧ s = .int .i64 ((numOf k head : Nat) : Int)) (fun _ _ i => 4 - (intOf i).toNat)
  case atStart => exact ⟨0, by omega, rfl, rfl, rfl⟩
  case round =>
    obtain ⟨k, hk, rfl, rfl, rfl⟩ := hrel
    by_cases h4 : k < 4
    · obtain ⟨ad, rfl, hcl, -⟩ := hr (m + k) _ (HG.out k (by omega))
      have hP := numOf_lt k head
      have hx := (head.getD k 0).toNat_lt
      have hS := Lib.hid (show numOf (k + 1) head = numOf k head + (head.getD k 0).toNat * 256 ^ k from rfl)
      unfold byteV at hcl
      generalize head.getD k 0 = x at *
      generalize numOf k head = s at *
      have hp4 : 256 ^ k ≤ 16777216 := by
        have : k = 0 ∨ k = 1 ∨ k = 2 ∨ k = 3 := by omega
        rcases this with rfl | rfl | rfl | rfl <;> simp
      have hps := Lib.hid (Nat.pow_succ 256 k)
      generalize 256 ^ k = q at *
      have hxq : x.toNat * q ≤ 255 * 16777216 := Nat.mul_le_mul (by omega) hp4
      have v1 : (m : Int) + (k : Int) < (n : Int) := by omega
      have v2 : (0 : Int) ≤ (m : Int) + (k : Int) := by omega
      have v3 : ((m : Int) + (k : Int)).toNat = m + k := by omega
      have v4 : (k : Int) < 4 := by omega
      go_wp2
      exact ⟨⟨k + 1, by omega, by go_num, congrArg (Value.int .i64) (by rw [← Nat.succ_eq_add_one, hps.out, Int.natCast_mul]; rfl), congrArg (Value.int .i64) (by rw [hS.out, Int.natCast_add, Int.natCast_mul])⟩, by simp [intOf]; omega⟩
    · obtain rfl : k = 4 := by omega
      rw [numOf_4]
      have k2 := num4_lt head
      generalize hN : num4 head = N at *
      have HN := Lib.hid hN
      clear hN
      have p1 : (m : Int) ≤ (n : Int) := by omega
      have p4 : (m : Int) + 4 ≤ (c : Int) := by omega
      have p5 : (0 : Int) ≤ (m : Int) + 4 := by omega
      have p6 : (m : Int) ≤ (m : Int) + 4 := by omega
      have p7 : (m : Int) + 8 ≤ (c : Int) := by omega
      have p8 : (m : Int) + 4 ≤ (m : Int) + 8 := by omega
      have p9 : (0 : Int) ≤ (m : Int) + 8 := by omega
      have t4 : ((m : Int) + 4).toNat = m + 4 := by omega
      have t8 : ((m : Int) + 8).toNat = m + 8 := by omega
      go_wp2
      have n1 : ¬ c = m := by omega
      have n2 : ¬ c = m + 4 := by omega
      have eh : head = (l.drop m).take 12 := by rw [← HH.out, List.drop_take]; congr 1; omega
      have r4 : Rd Non w (A.map (fun x => x.add m)) (head.take 4) := by
        have h := (hr.drop m c (by rw [HL.out]; exact hn)).take 4
        rw [if_neg (by omega)] at h
        rw [eh, List.take_take]; exact h
      have r8 : Rd Non w (A.map (fun x => { block := x.block, off := x.off + (m + 3 + 1) })) ((head.drop 4).take 4) := by
        have h := (hr.drop (m + 4) c (by rw [HL.out]; exact hn)).take 4
        rw [if_neg n2] at h
        rw [eh, List.drop_take, List.take_take, List.drop_drop]; exact h
      have h4l : (head.take 4).length = 4 := by rw [List.length_take, HD.out]; rfl
      have h8l : ((head.drop 4).take 4).length = 4 := by rw [List.length_take, List.length_drop, HD.out]; rfl
      have hnum : num4 ((head.drop 4).take 4) = num4 (head.drop 4) := by
        match head, HD.out with
        | [_, _, _, _, _, _, _, _, _, _, _, _], _ => rfl
      generalize hl4 : head.take 4 = l4 at *
      generalize hl8 : (head.drop 4).take 4 = l8 at *
      generalize hn8 : num4 (head.drop 4) = n8 at *
      have X4 := Lib.hid h4l
      have X8 := Lib.hid h8l
      have XN := Lib.hid hnum
      have k4 := (sum l4).isLt
      generalize hs4 : (sum l4).toNat = s4 at *
      have S4 := Lib.hid hs4
      clear h4l h8l hnum hl4 hl8 hn8 hs4
      have EH := Lib.hid eh
      clear eh
      have hX := refSum_S w.drew _ l4 (c - m) 4 r4.drew X4.out (by omega) (by unfold maxLen; omega)
      rw [S4.out] at hX
      have s8 : (convert 22 9 (.slice (A.map (fun x => { block := x.block, off := x.off + (m + 3 + 1) })) 4 (c - (m + 4)))).run Tryd.prog w.drew = .ok (str l8) w.drew := by
        have h := run_str r8.drew (c - (m + 4))
        rw [X8.out] at h; exact h
      have q4 : IntKind.i64.wrap ((m : Int) + 4) = (m : Int) + 4 := by rw [IntKind.wrap_i64]; omega
      have q8 : IntKind.i64.wrap ((m : Int) + 8) = (m : Int) + 8 := by rw [IntKind.wrap_i64]; omega
      refine wp_region_T #[[], [], [], [], [], [], [], [], [], [], [], [], [], [], [], [14]] [14] (fun w' => (convert 22 9 (.slice (A.map (fun x => { block := x.block, off := x.off + (m + 3 + 1) })) 4 (c - (m + 4)))).run Tryd.prog w' = .ok (str l8) w' ∧ True) 16 rfl (by kernel_rfl) ?_
      (refine wpAnyT_free (i := 0) rfl (by kernel_rfl) rfl (fun _ _ _ h => h) (by kernel_rfl) (fun _ => by go_simp; try rfl) ?_; (try simp only [Act.put, List.setIfInBounds_toArray, List.set_cons_zero, List.set_cons_succ]))
      (refine wpAnyT_free (i := 1) rfl (by kernel_rfl) rfl (fun _ _ _ h => h) (by kernel_rfl) (fun _ => by go_simp; try rfl) ?_; (try simp only [Act.put, List.setIfInBounds_toArray, List.set_cons_zero, List.set_cons_succ]))
      (refine wpAnyT_free (i := 2) rfl (by kernel_rfl) rfl (fun _ _ _ h => h) (by kernel_rfl) (fun _ => by go_simp; try rfl) ?_; (try simp only [Act.put, List.setIfInBounds_toArray, List.set_cons_zero, List.set_cons_succ]))
      (refine wpAnyT_free (i := 3) rfl (by kernel_rfl) rfl (fun _ _ _ h => h) (by kernel_rfl) (fun _ => by go_simp; try rfl) ?_; (try simp only [Act.put, List.setIfInBounds_toArray, List.set_cons_zero, List.set_cons_succ]))
      (refine wpAnyT_free (i := 4) rfl (by kernel_rfl) rfl (fun _ _ _ h => h) (by kernel_rfl) (fun _ => by go_simp; try rfl) ?_; (try simp only [Act.put, List.setIfInBounds_toArray, List.set_cons_zero, List.set_cons_succ]))
      (refine wpAnyT_free (i := 8) rfl (by kernel_rfl) rfl (fun _ _ _ h => h) (by kernel_rfl) (fun _ => by go_simp; try rfl) ?_; (try simp only [Act.put, List.setIfInBounds_toArray, List.set_cons_zero, List.set_cons_succ]))
      (refine wpAnyT_free (i := 9) rfl (by kernel_rfl) rfl (fun _ _ _ h => h) (by kernel_rfl) (fun _ => by go_simp; try rfl) ?_; (try simp only [Act.put, List.setIfInBounds_toArray, List.set_cons_zero, List.set_cons_succ]))
      (refine wpAnyT_free (i := 10) rfl (by kernel_rfl) rfl (fun _ _ _ h => h) (by kernel_rfl) (fun _ => by go_simp; try rfl) ?_; (try simp only [Act.put, List.setIfInBounds_toArray, List.set_cons_zero, List.set_cons_succ]))
      (refine wpAnyT_free (i := 11) rfl (by kernel_rfl) rfl (fun _ _ _ h => h) (by kernel_rfl) (fun _ => by go_simp; try rfl) ?_; (try simp only [Act.put, List.setIfInBounds_toArray, List.set_cons_zero, List.set_cons_succ]))
      (refine wpAnyT_free (i := 12) rfl (by kernel_rfl) rfl (fun _ _ _ h => h) (by kernel_rfl) (fun _ => by go_simp; try rfl) ?_; (try simp only [Act.put, List.setIfInBounds_toArray, List.set_cons_zero, List.set_cons_succ]))
      (refine wpAnyT_free (i := 13) rfl (by kernel_rfl) rfl (fun _ _ _ h => h) (by kernel_rfl) (fun _ => by go_simp; try rfl) ?_; (try simp only [Act.put, List.setIfInBounds_toArray, List.set_cons_zero, List.set_cons_succ]))
      (refine wpAnyT_read (i := 14) rfl (by kernel_rfl) rfl (fun _ _ _ h => h) (by kernel_rfl) (⟨s8, trivial⟩) (fun w hS_ => by obtain ⟨s_1, s_2⟩ := hS_; go_simp; try rfl) ?_; (try simp only [Act.put, List.setIfInBounds_toArray, List.set_cons_zero, List.set_cons_succ]))
      refine wpAnyT_one (i := 5) rfl (by kernel_rfl) rfl ?_
      intro K_ hK_
      clear q4 q8; go_wp2_with (go_at_call 23; refine hX.mono ?_; rintro e w1 ⟨rfl, rfl⟩)
      refine hK_ _ _ ?_ ?_
      · exact fun _ h => h
      clear hK_ K_
      (try simp only [Act.put, List.setIfInBounds_toArray, List.set_cons_zero, List.set_cons_succ])
      refine wpAnyT_one (i := 6) rfl (by kernel_rfl) rfl ?_
      intro K_ hK_
      clear hX; go_wp2_with (go_at_call 78; refine (put_B w _ (Below.refl _ _).drew (.slice none 0 0) [] (World.ownsRow_nil _ _ _ _) (by simp) s4 k4).mono ?_; rintro e w1 ⟨v1, rfl, ho1, hb1⟩; rw [List.nil_append, length_four] at ho1; obtain ⟨A1, c1, rfl, hc1, hm1⟩ := own_val ho1; have s7 := run_str (own_rd ho1 rfl) c1; rw [length_four] at s7; have s9 := run_str (r8.below hb1) (c - (m + 4)); rw [X8.out] at s9)
      refine hK_ _ _ ?_ ?_
      · exact fun _ _ => ⟨s9, trivial⟩
      clear hK_ K_
      (try simp only [Act.put, List.setIfInBounds_toArray, List.set_cons_zero, List.set_cons_succ])
      refine wpAnyT_one (i := 7) rfl (by kernel_rfl) rfl ?_
      intro K_ hK_
      go_wp2
      refine hK_ _ _ ?_ ?_
      · exact fun _ h_ => h_
      clear hK_ K_
      (try simp only [Act.put, List.setIfInBounds_toArray, List.set_cons_zero, List.set_cons_succ])
      (refine wpAnyT_free (i := 15) rfl (by kernel_rfl) rfl (fun _ _ _ h => h) (by kernel_rfl) (fun _ => by go_simp; try rfl) ?_; (try simp only [Act.put, List.setIfInBounds_toArray, List.set_cons_zero, List.set_cons_succ]))
      refine wpAnyT_done (by kernel_rfl) ?_ _
      have hbq := four_beq s4 k4 l8 X8.out
      rw [XN.out] at hbq
      clear s7 s9 s8
      by_cases hs4 : s4 ≠ n8
      · have hb' : (four s4 == l8) = false := by rw [hbq]; exact decide_eq_false hs4
        have e7 : next l (m : Int) = .error 6 := E.out.trans (if_pos hs4)
        clear hbq hs4
        rw [hb']
        go_wp2
        go_ret3
        exact NextDid.err e7 hb1
      have hs4 := Decidable.not_not.1 hs4
      have hb' : (four s4 == l8) = true := by rw [hbq]; exact decide_eq_true hs4
      by_cases hg : 65536 < N
      · have e7 : next l (m : Int) = .error 3 := E.out.trans (by rw [if_neg (fun h => h hs4), if_pos hg])
        have hg' : (65536 : Int) < (N : Int) := by omega
        clear hbq hs4
        rw [hb']
        go_wp2
        go_ret3
        exact NextDid.err e7 hb1
      have hg' : (N : Int) ≤ 65536 := by omega
      by_cases hk : n - (m + 12) < N
      · have e7 : next l (m : Int) = .error 4 := E.out.trans (by rw [if_neg (fun h => h hs4), if_neg hg, if_pos (by rw [HT.out]; exact hk)])
        have hk' : (n : Int) - (m : Int) - 12 < (N : Int) := by omega
        clear hbq hs4
        rw [hb']
        go_wp2
        go_ret3
        exact NextDid.err e7 hb1
      have E2 : next l (m : Int) = if (sum (List.take N rest)).toNat ≠ num4 (List.drop 8 head) then Except.error 6 else Except.ok (List.take N rest, m + 12 + N) :=
        E.out.trans (by rw [if_neg (fun h => h hs4), if_neg hg, if_neg (by rw [HT.out]; exact hk)])
      have E3 := Lib.hid E2
      have hk' : (N : Int) ≤ (n : Int) - (m : Int) - 12 := by omega
      have lN : (rest.take N).length = N := by rw [List.length_take, HT.out]; omega
      have rN : Rd Non w1 (if c = m + 12 then A else A.map (fun x => { block := x.block, off := x.off + (m + 11 + 1) })) (rest.take N) := by
        rw [← HR.out]
        exact (((hr.below hb1).drop (m + 12) c (by rw [HL.out]; exact hn)).take N)
      generalize hlN : rest.take N = lN' at *
      have LN := Lib.hid lN
      clear lN hlN E2 E hbq hs4 hg hk
      rw [hb']
      have p10 : (m : Int) + 12 ≤ (c : Int) := by omega
      have p11 : (m : Int) + 12 + N ≤ (c : Int) := by omega
      have p12 : (0 : Int) ≤ (m : Int) + 12 + N := by omega
      have p13 : (m : Int) + 12 ≤ (m : Int) + 12 + N := by omega
      have p14 : (0 : Int) ≤ (m : Int) + 12 := by omega
      have t12 : ((m : Int) + 12).toNat = m + 12 := by omega
      have t13 : ((m : Int) + 12 + N).toNat = m + 12 + N := by omega
      have n3 : m + 12 + N - (m + 12) = N := by omega
      go_wp2_with (at_builtin
                   generalize hAR : (if c = m + 12 then A else A.map (fun x => { block := x.block, off := x.off + (m + 11 + 1) })) = AR at rN ⊢
                   clear hAR
                   refine wpList_appB rfl (.tmp 66) (.tmp 74) 22 rfl i Tryd.underlying22 hi hz hs hby w1.heap.size _ 0 [] rfl (ownsB_none w1) Non _ N _ lN' rfl LN.out ((rN.mono (fun _ _ h => h.elim)).fr ((Fr.refl _ _).alloc _)) (by omega) (by simp) ?_
                   intro v5 w5 hown5 hgrow5 hat5)
      rw [Nat.zero_add, List.nil_append] at hown5
      obtain ⟨A5, c5, rfl, hc5, hm5⟩ := own_val hown5
      have hB5 := (hb1.alloc hb1.size (.cells #[] TB)).grown hgrow5 (by have := hb1.size; simp; omega) (fun j hj => by have := ((ownsB_none w1).lt j hj).1; have := hb1.size; omega)
      clear hat5 hgrow5
      have n4 : ¬ c = m + 8 := by omega
      have r9 : Rd Non w (A.map (fun x => { block := x.block, off := x.off + (m + 7 + 1) })) (head.drop 8) := by
        have h := (hr.drop (m + 8) c (by rw [HL.out]; exact hn)).take 4
        rw [if_neg n4] at h
        rw [EH.out, List.drop_take, List.drop_drop]; exact h
      have h9l : (head.drop 8).length = 4 := by rw [List.length_drop, HD.out]
      generalize hl9 : head.drop 8 = l9 at *
      have X9 := Lib.hid h9l
      clear h9l hl9
      have rn5 : Rd Non w5 A5 lN' := own_rd hown5 LN.out.symm
      have r95 := r9.below hB5
      have k9 := (sum lN').isLt
      generalize hs9 : (sum lN').toNat = s9 at *
      have S9 := Lib.hid hs9
      generalize hn9 : num4 l9 = n9 at *
      have N9 := Lib.hid hn9
      clear hs9 hn9
      have hX := refSum_B w5.drew A5 lN' c5 N rn5.drew LN.out hc5 hm5
      rw [S9.out] at hX
      have s10 : (convert 22 9 (.slice (A.map (fun x => { block := x.block, off := x.off + (m + 7 + 1) })) 4 (c - (m + 8)))).run Tryd.prog w5.drew = .ok (str l9) w5.drew := by
        have h := run_str r95.drew (c - (m + 8))
        rw [X9.out] at h; exact h
      have p15 : (m : Int) + 8 ≤ (m : Int) + 12 := by omega
      have q8 : IntKind.i64.wrap ((m : Int) + 8) = (m : Int) + 8 := by rw [IntKind.wrap_i64]; omega
      have q12 : IntKind.i64.wrap ((m : Int) + 12) = (m : Int) + 12 := by rw [IntKind.wrap_i64]; omega
      refine wp_region_T #[[], [], [], [], [], [], [], [], [], [], [], [10]] [10] (fun w' => (convert 22 9 (.slice (A.map (fun x => { block := x.block, off := x.off + (m + 7 + 1) })) 4 (c - (m + 8)))).run Tryd.prog w' = .ok (str l9) w' ∧ True) 12 rfl (by kernel_rfl) ?_
      (refine wpAnyT_free (i := 0) rfl (by kernel_rfl) rfl (fun _ _ _ h => h) (by kernel_rfl) (fun _ => by go_simp; try rfl) ?_; (try simp only [Act.put, List.setIfInBounds_toArray, List.set_cons_zero, List.set_cons_succ]))
      (refine wpAnyT_free (i := 4) rfl (by kernel_rfl) rfl (fun _ _ _ h => h) (by kernel_rfl) (fun _ => by go_simp; try rfl) ?_; (try simp only [Act.put, List.setIfInBounds_toArray, List.set_cons_zero, List.set_cons_succ]))
      (refine wpAnyT_free (i := 5) rfl (by kernel_rfl) rfl (fun _ _ _ h => h) (by kernel_rfl) (fun _ => by go_simp; try rfl) ?_; (try simp only [Act.put, List.setIfInBounds_toArray, List.set_cons_zero, List.set_cons_succ]))
      (refine wpAnyT_free (i := 6) rfl (by kernel_rfl) rfl (fun _ _ _ h => h) (by kernel_rfl) (fun _ => by go_simp; try rfl) ?_; (try simp only [Act.put, List.setIfInBounds_toArray, List.set_cons_zero, List.set_cons_succ]))
      (refine wpAnyT_free (i := 7) rfl (by kernel_rfl) rfl (fun _ _ _ h => h) (by kernel_rfl) (fun _ => by go_simp; try rfl) ?_; (try simp only [Act.put, List.setIfInBounds_toArray, List.set_cons_zero, List.set_cons_succ]))
      (refine wpAnyT_free (i := 8) rfl (by kernel_rfl) rfl (fun _ _ _ h => h) (by kernel_rfl) (fun _ => by go_simp; try rfl) ?_; (try simp only [Act.put, List.setIfInBounds_toArray, List.set_cons_zero, List.set_cons_succ]))
      (refine wpAnyT_free (i := 9) rfl (by kernel_rfl) rfl (fun _ _ _ h => h) (by kernel_rfl) (fun _ => by go_simp; try rfl) ?_; (try simp only [Act.put, List.setIfInBounds_toArray, List.set_cons_zero, List.set_cons_succ]))
      (refine wpAnyT_read (i := 10) rfl (by kernel_rfl) rfl (fun _ _ _ h => h) (by kernel_rfl) (⟨s10, trivial⟩) (fun w hS_ => by obtain ⟨s_1, s_2⟩ := hS_; go_simp; try rfl) ?_; (try simp only [Act.put, List.setIfInBounds_toArray, List.set_cons_zero, List.set_cons_succ]))
      refine wpAnyT_one (i := 1) rfl (by kernel_rfl) rfl ?_
      intro K_ hK_
      clear q8 q12; go_wp2_with (go_at_call 23; refine hX.mono ?_; rintro e w6 ⟨rfl, rfl⟩)
      refine hK_ _ _ ?_ ?_
      · exact fun _ h => h
      clear hK_ K_
      (try simp only [Act.put, List.setIfInBounds_toArray, List.set_cons_zero, List.set_cons_succ])
      refine wpAnyT_one (i := 2) rfl (by kernel_rfl) rfl ?_
      intro K_ hK_
      clear hX; go_wp2_with (go_at_call 78; refine (put_B w5 _ (Below.refl _ _).drew (.slice none 0 0) [] (World.ownsRow_nil _ _ _ _) (by simp) s9 k9).mono ?_; rintro e w6 ⟨v6, rfl, ho6, hb6⟩; rw [List.nil_append, length_four] at ho6; obtain ⟨A6, c6, rfl, hc6, hm6⟩ := own_val ho6; have s7 := run_str (own_rd ho6 rfl) c6; rw [length_four] at s7; have s11 := run_str (r95.below hb6) (c - (m + 8)); rw [X9.out] at s11)
      refine hK_ _ _ ?_ ?_
      · exact fun _ _ => ⟨s11, trivial⟩
      clear hK_ K_
      (try simp only [Act.put, List.setIfInBounds_toArray, List.set_cons_zero, List.set_cons_succ])
      refine wpAnyT_one (i := 3) rfl (by kernel_rfl) rfl ?_
      intro K_ hK_
      go_wp2
      refine hK_ _ _ ?_ ?_
      · exact fun _ h_ => h_
      clear hK_ K_
      (try simp only [Act.put, List.setIfInBounds_toArray, List.set_cons_zero, List.set_cons_succ])
      (refine wpAnyT_free (i := 11) rfl (by kernel_rfl) rfl (fun _ _ _ h => h) (by kernel_rfl) (fun _ => by go_simp; try rfl) ?_; (try simp only [Act.put, List.setIfInBounds_toArray, List.set_cons_zero, List.set_cons_succ]))
      refine wpAnyT_done (by kernel_rfl) ?_ _
      have hbq := four_beq s9 k9 l9 X9.out
      rw [N9.out] at hbq
      have hB6 := hB5.trans (hb6.mono hB5.size)
      have hO6 : Own (New w) w6 A5 lN' := (((Own.of_row hown5 LN.out.symm).mono (S' := New w) (fun b (hb : _ ≤ b) => Nat.le_trans hb1.size hb)).fr (Fr.of_below (S := Non) hb6))
      clear s7 s11 s10 hown5 ho6
      by_cases hs9 : s9 ≠ n9
      · have hb' : (four s9 == l9) = false := by rw [hbq]; exact decide_eq_false hs9
        have e7 : next l (m : Int) = .error 6 := E3.out.trans (if_pos hs9)
        clear hbq hs9
        rw [hb']
        go_wp2
        go_ret3
        exact NextDid.err e7 hB6
      · have e7 : next l (m : Int) = .ok (lN', m + 12 + N) := E3.out.trans (if_neg hs9)
        have hs9 := Decidable.not_not.1 hs9
        have hb' : (four s9 == l9) = true := by rw [hbq]; exact decide_eq_true hs9
        have E7 := Lib.hid e7
        clear hbq hs9 e7
        rw [hb']
        go_wp2
        go_ret3
        unfold NextDid
        rw [E7.out]
        exact ⟨A5, c5, by rw [LN.out]; rfl, hO6, by rw [LN.out]; exact hc5, hm5, hB6⟩
end Go.Proofs.YtediidajdpdeiaaDoor
