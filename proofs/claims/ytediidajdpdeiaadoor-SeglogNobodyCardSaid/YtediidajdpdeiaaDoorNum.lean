/- Numbers as bytes (layer 1): plain functions, and the walks of octet and of the document's answer. -/
import Derived.Test.YtediidajdpdeiaaDoorRef02
namespace Go.Proofs.YtediidajdpdeiaaDoor
open Go.RowKit CrcM
set_option maxRecDepth 100000

/-- a number's bytes -/
def numB (n : Nat) : List UInt8 := if _h : n < 128 then [UInt8.ofNat n] else UInt8.ofNat (n % 128 + 128) :: numB (n / 128)
termination_by n
decreasing_by omega

theorem numB_lt {n : Nat} (h : n < 128) : numB n = [UInt8.ofNat n] := by rw [numB, dif_pos h]
theorem numB_ge {n : Nat} (h : ¬ n < 128) : numB n = UInt8.ofNat (n % 128 + 128) :: numB (n / 128) := by rw [numB, dif_neg h]
theorem numB_le : ∀ (k n : Nat), n < 128 ^ (k + 1) → (numB n).length ≤ k + 1
  | 0, n, h => by rw [numB_lt (by simpa using h)]; simp
  | k + 1, n, h => by
    by_cases h1 : n < 128
    · rw [numB_lt h1]; simp
    · rw [numB_ge h1, List.length_cons]
      have := numB_le k (n / 128) (by rw [Nat.div_lt_iff_lt_mul (by omega)]; rw [Nat.pow_succ] at h; omega)
      omega
theorem numB_10 {n : Nat} (h : n < 18446744073709551616) : (numB n).length ≤ 10 := numB_le 9 n (by omega)
theorem numB_pos (n : Nat) : 1 ≤ (numB n).length := by
  by_cases h : n < 128
  · rw [numB_lt h]; simp
  · rw [numB_ge h]; simp

/-- what stands at the beginning of bytes: a number and how many bytes it has, or why there is none; from the i-th byte on, with what the bytes ahead say -/
def readN : List UInt8 → Nat → Nat → Except Int (Nat × Nat)
  | [], _, _ => .error 4
  | x :: t, i, acc =>
    if i = 9 ∨ (x.toNat = 0 ∧ 0 < i) then .error 5
    else if 4611686018427387904 < acc + x.toNat % 128 * 128 ^ i then .error 5
    else if x.toNat < 128 then .ok (acc + x.toNat % 128 * 128 ^ i, i + 1)
    else readN t (i + 1) (acc + x.toNat % 128 * 128 ^ i)
def readNum (l : List UInt8) : Except Int (Nat × Nat) := readN l 0 0

theorem readN_numB : ∀ (n : Nat) (tail : List UInt8) (i acc : Nat), acc + n * 128 ^ i ≤ 4611686018427387904 → (0 < i → 0 < n) → readN (numB n ++ tail) i acc = .ok (acc + n * 128 ^ i, i + (numB n).length) := by
  intro n
  induction n using Nat.strongRecOn with
  | _ n ih =>
    intro tail i acc h h0
    have h9 : n = 0 ∧ i = 0 ∨ i < 9 := by
      rcases Nat.eq_zero_or_pos n with h1 | h1
      · left; exact ⟨h1, by omega⟩
      · right
        by_cases h2 : i < 9
        · exact h2
        · exfalso
          have : 128 ^ 9 ≤ 128 ^ i := Nat.pow_le_pow_right (by omega) (by omega)
          have : 128 ^ i ≤ n * 128 ^ i := Nat.le_mul_of_pos_left _ h1
          omega
    by_cases h1 : n < 128
    · rw [numB_lt h1]
      have e : (UInt8.ofNat n).toNat = n := by simp; omega
      simp only [List.cons_append, List.nil_append, readN, e, List.length_singleton]
      rw [Nat.mod_eq_of_lt h1]
      rw [if_neg (by omega), if_neg (by omega), if_pos h1]
    · rw [numB_ge h1]
      have e : (UInt8.ofNat (n % 128 + 128)).toNat = n % 128 + 128 := by simp; omega
      have e2 : acc + (n % 128 + 128) % 128 * 128 ^ i + n / 128 * 128 ^ (i + 1) = acc + n * 128 ^ i := by
        have h3 : n % 128 + 128 * (n / 128) = n := Nat.mod_add_div n 128
        have h4 : (n % 128 + 128) % 128 = n % 128 := by omega
        rw [h4, Nat.pow_succ]
        have h5 : n * 128 ^ i = n % 128 * 128 ^ i + 128 * (n / 128) * 128 ^ i := by rw [← Nat.add_mul, h3]
        rw [h5, Nat.mul_comm 128 (n / 128), Nat.mul_assoc (n / 128), Nat.mul_comm 128 (128 ^ i)]
        omega
      simp only [List.cons_append, readN, e, List.length_cons]
      rw [if_neg (by omega), if_neg (by omega), if_neg (by omega), ih (n / 128) (by omega) tail (i + 1) _ (by omega) (fun _ => by omega), e2]
      congr 2; omega
theorem readNum_numB (n : Nat) (h : n ≤ 4611686018427387904) (tail : List UInt8) : readNum (numB n ++ tail) = .ok (n, (numB n).length) := by
  have := readN_numB n tail 0 0 (by simpa using h) (by omega)
  simpa [readNum] using this
theorem readN_le : ∀ (l : List UInt8) (i acc n s : Nat), readN l i acc = .ok (n, s) → n ≤ 4611686018427387904 ∧ i < s ∧ s ≤ i + l.length
  | [], i, acc, n, s, h => by simp [readN] at h
  | x :: t, i, acc, n, s, h => by
    rw [readN] at h
    split at h
    · cases h
    · split at h
      · cases h
      · split at h
        · simp only [Except.ok.injEq, Prod.mk.injEq] at h
          rw [List.length_cons]
          omega
        · have := readN_le t _ _ n s h
          rw [List.length_cons]
          omega

theorem or128 : ∀ x : Fin 256, bits .or .u8 (x.val : Int) 128 = ((x.val % 128 + 128 : Nat) : Int) := by decide +kernel
theorem and127 : ∀ x : Fin 256, bits .and .u8 (x.val : Int) 127 = ((x.val % 128 : Nat) : Int) := by decide +kernel

/-- what a function that writes a number leaves -/
def NumDid (W : World) (l : List UInt8) (e : Ending) (w' : World) : Prop := ∃ v', e = .returned v' ∧ w'.ownsRow W.heap.size TB 1 v' l.length (l.map byteV) ∧ Below W.heap.size W w'

def NumPair (W : World) (l : List UInt8) (e : Ending) (w' : World) : Prop := ∃ v', e = .returned (.tuple #[v', .int .i64 0]) ∧ w'.ownsRow W.heap.size TB 1 v' l.length (l.map byteV) ∧ Below W.heap.size W w'

theorem num_B (W w : World) (hb : Below W.heap.size W w) (v : Value) (l : List UInt8) (hown : w.ownsRow W.heap.size TB 1 v l.length (l.map byteV)) (hl : l.length ≤ 70368744177664) (n : Nat) (hn : n < 9223372036854775808) :
    Calls Tryd.prog 129 #[v, .int .u64 (n : Int)] w (NumDid W (l ++ numB n)) := by
  obtain ⟨i, hi, hz, hs, hby⟩ := info_parts info_u8
  go_enter Tryd.func129, Tryd.ntmps129
  go_wp2
  go_loopw [0, 1] (fun s q wr => ∃ (k : Nat) (xs : List UInt8), k ≤ n ∧ q = .int .u64 (k : Int) ∧ xs ++ numB k = l ++ numB n ∧ wr.ownsRow W.heap.size TB 1 s xs.length (xs.map byteV) ∧ Below W.heap.size W wr) (fun _ q _ => (intOf q).toNat)
  case atStart => exact ⟨n, l, Nat.le_refl _, rfl, rfl, hown, hb⟩
  case round =>
    obtain ⟨k, xs, hk, rfl, hxs, ho, hbl⟩ := hrel
    have hx2 : xs.length ≤ l.length + 10 := by
      have := congrArg List.length hxs
      have := numB_10 (n := n) (by omega)
      simp only [List.length_append] at *
      omega
    obtain ⟨Av, cv, rfl, _, _⟩ := own_val ho
    by_cases h : k < 128
    · have h' : ¬ (128 : Int) ≤ (k : Int) := by omega
      rw [numB_lt h] at hxs
      have HX := Lib.hid hxs
      clear hxs
      have hx : Value.int .u8 (k : Int) = byteV (UInt8.ofNat k) := by
        unfold byteV; rw [UInt8.toNat_ofNat', Nat.mod_eq_of_lt (by omega)]
      have HY := Lib.hid hx
      clear hx
      go_wp2_with (at_builtin
                   refine wpList_appB rfl (.tmp 15) (.tmp 18) 22 rfl i Tryd.underlying22 hi hz hs hby W.heap.size _ xs.length xs rfl (ho.alloc _) Non _ 1 1 [UInt8.ofNat k] rfl rfl (rd_one wr _ _ (by first | exact HY.out | (simp; exact HY.out)) _) (by omega) (by have := hbl.size; simp; omega) ?_
                   intro v2 w2 hown2 hgrow hat)
      go_ret
      rw [HX.out] at hown2
      refine ⟨_, rfl, ?_, (hbl.alloc hbl.size _).grown hgrow (by have := hbl.size; simp; omega) (fun j hj => (ho.lt j hj).1)⟩
      have e : (l ++ numB n).length = xs.length + 1 := by rw [← HX.out]; simp
      rw [e]; exact hown2
    · have h' : (128 : Int) ≤ (k : Int) := by omega
      rw [numB_ge h, List.append_cons] at hxs
      have HX := Lib.hid hxs
      clear hxs
      have hx : Value.int .u8 (bits .or .u8 ((k : Int) % 256) 128) = byteV (UInt8.ofNat (k % 128 + 128)) := by
        have := or128 ⟨k % 256, by omega⟩
        simp only at this
        unfold byteV; rw [UInt8.toNat_ofNat', Nat.mod_eq_of_lt (by omega), show ((k : Int) % 256) = ((k % 256 : Nat) : Int) by omega, this]
        congr 2; omega
      have HY := Lib.hid hx
      clear hx
      go_wp2_with (at_builtin
                   refine wpList_appB rfl (.tmp 9) (.tmp 13) 22 rfl i Tryd.underlying22 hi hz hs hby W.heap.size _ xs.length xs rfl (ho.alloc _) Non _ 1 1 [UInt8.ofNat (k % 128 + 128)] rfl rfl (rd_one wr _ _ HY.out _) (by omega) (by have := hbl.size; simp; omega) ?_
                   intro v2 w2 hown2 hgrow hat)
      go_roundw
      case rel => exact ⟨k / 128, xs ++ [UInt8.ofNat (k % 128 + 128)], by omega, by go_num, HX.out, by rw [List.length_append]; exact hown2, (hbl.alloc hbl.size _).grown hgrow (by have := hbl.size; simp; omega) (fun j hj => (ho.lt j hj).1)⟩
      case measure => simp [intOf]; omega

theorem Num_B (W w : World) (hb : Below W.heap.size W w) (A : Option Addr) (c : Nat) (l : List UInt8) (hr : Rd Non w A l) (hl : l.length ≤ 70368744177664) (n : Nat) (hn : n ≤ 4611686018427387904) :
    Calls Tryd.prog 107 #[.slice A l.length c, .int .i64 (n : Int)] w (NumPair W (l ++ numB n)) := by
  go_enter Tryd.func107, Tryd.ntmps107
  go_wp2_with (first
    | (go_at_call 80; refine (clone_B Non A l c w hr hl).mono ?_; rintro e w1 ⟨A', c', rfl, hor, hc', hm', hbel⟩)
    | (go_at_call 129; refine (num_B W _ (hb.trans (hbel.mono hb.size)) _ l (ownsRow_mono hor hb.size) hl n (by omega)).mono ?_; rintro e w2 ⟨v', rfl, ho, hb2⟩))
  go_ret2
  exact ⟨v', rfl, ho, hb2⟩

theorem and127' (x : UInt8) : bits .and .u8 (x.toNat : Int) 127 = ((x.toNat % 128 : Nat) : Int) := and127 ⟨x.toNat, x.toNat_lt⟩
theorem ofInt64 (n : Nat) : BitVec.ofInt IntKind.i64.bits (n : Int) = BitVec.ofNat 64 n := by
  show BitVec.ofInt 64 _ = _
  exact BitVec.ofInt_natCast ..
theorem bor_i64 (a b i : Nat) (ha : a < 2 ^ i) (hs : a + b * 2 ^ i < 9223372036854775808) : bits .or .i64 (a : Int) ((b * 2 ^ i : Nat) : Int) = ((a + b * 2 ^ i : Nat) : Int) := by
  have h1 : a ||| b * 2 ^ i = a + b * 2 ^ i := or_add a b i ha
  unfold bits
  simp only [ofInt64]
  have e3 : (BitVec.ofNat 64 a ||| BitVec.ofNat 64 (b * 2 ^ i)).toNat = a + b * 2 ^ i := by
    rw [BitVec.toNat_or, BitVec.toNat_ofNat, BitVec.toNat_ofNat, Nat.mod_eq_of_lt (by omega), Nat.mod_eq_of_lt (by omega), h1]
  have h : IntKind.i64.wrap ((a + b * 2 ^ i : Nat) : Int) = ((a + b * 2 ^ i : Nat) : Int) := by rw [IntKind.wrap_i64]; omega
  rw [← e3] at h ⊢
  exact h

/-- what a function that reads a number leaves -/
def ReadDid (w : World) (l : List UInt8) (e : Ending) (w' : World) : Prop :=
  (match readNum l with
    | .ok (n, s) => e = .returned (.tuple #[.int .i64 (n : Int), .int .i64 (s : Int), .int .i64 0])
    | .error r => e = .returned (.tuple #[.int .i64 0, .int .i64 0, .int .i64 r])) ∧ w' = w

theorem ReadNum_B (w : World) (A : Option Addr) (c : Nat) (l : List UInt8) (hr : Rd Non w A l) (hl : l.length ≤ maxLen) :
    Calls Tryd.prog 120 #[.slice A l.length c] w (ReadDid w l) := by
  unfold maxLen at hl
  go_enter Tryd.func120, Tryd.ntmps120
  go_wp2
  go_loop [2, 9] (fun n i => ∃ k a : Nat, k ≤ l.length ∧ i = .int .i64 (k : Int) ∧ n = .int .i64 (a : Int) ∧ k ≤ 9 ∧ a < 128 ^ k ∧ readNum l = readN (l.drop k) k a) (fun _ i => l.length - (intOf i).toNat)
  case atStart => exact ⟨0, 0, by omega, rfl, rfl, by omega, by simp, rfl⟩
  case round =>
    obtain ⟨k, a, hk, rfl, rfl, hk9, ha, hrd⟩ := hrel
    by_cases hlt : k < l.length
    · obtain ⟨x, hx⟩ : ∃ x, l[k]? = some x := ⟨_, List.getElem?_eq_getElem hlt⟩
      obtain ⟨ad, rfl, hcl, -⟩ := hr k x hx
      unfold byteV at hcl
      have hdr : l.drop k = x :: l.drop (k + 1) := by
        rw [List.drop_eq_getElem_cons hlt]
        congr 1
        rw [List.getElem?_eq_getElem hlt] at hx
        exact Option.some.inj hx
      rw [hdr, readN] at hrd
      have hxl := x.toNat_lt
      have hlt' : (k : Int) < (l.length : Int) := by omega
      have hp0 : (128 : Nat) ^ k = 2 ^ (7 * k) := by rw [Nat.pow_mul]
      have hm : x.toNat % 128 < 128 := Nat.mod_lt _ (by omega)
      have hs128 : a + x.toNat % 128 * 128 ^ k < 128 ^ (k + 1) := by
        have : x.toNat % 128 * 128 ^ k ≤ 127 * 128 ^ k := Nat.mul_le_mul_right _ (by omega)
        rw [Nat.pow_succ]; omega
      by_cases h1 : k = 9 ∨ (x.toNat = 0 ∧ 0 < k)
      · rw [if_pos h1] at hrd
        have HR := Lib.hid hrd
        clear hrd
        rcases h1 with h1 | ⟨h1, h2⟩
        · have h1' : ((k : Int) == 9) = true := by simp; omega
          clear h1
          go_wp2
          go_ret3
          exact ⟨by rw [HR.out]; rfl, rfl⟩
        · have h1' : ((x.toNat : Int) == 0) = true := by simp; omega
          have h2' : (0 : Int) < (k : Int) := by omega
          clear h1 h2
          by_cases h3 : (k : Int) = 9
          · have h3' : ((k : Int) == 9) = true := by simp; omega
            clear h3
            go_wp2
            go_ret3
            exact ⟨by rw [HR.out]; rfl, rfl⟩
          · have h3' : ((k : Int) == 9) = false := by simp; omega
            clear h3
            go_wp2
            go_ret3
            exact ⟨by rw [HR.out]; rfl, rfl⟩
      · rw [if_neg h1] at hrd
        have h3' : ((k : Int) == 9) = false := by simp; omega
        have ea := and127' x
        have hk8 : k ≤ 8 := by omega
        have hle : (128 : Nat) ^ (k + 1) ≤ 128 ^ 9 := Nat.pow_le_pow_right (by omega) (by omega)
        have k7 : IntKind.i64.wrap (7 * (k : Int)) = 7 * (k : Int) := by rw [IntKind.wrap_i64]; omega
        have ew : wrap64 ((x.toNat : Int) % 128 * 2 ^ (7 * k)) = ((x.toNat % 128 * 2 ^ (7 * k) : Nat) : Int) := by
          have e1 : ((x.toNat : Int) % 128 * 2 ^ (7 * k)) = ((x.toNat % 128 * 2 ^ (7 * k) : Nat) : Int) := by push_cast; rfl
          rw [e1]
          unfold wrap64
          have : x.toNat % 128 * 2 ^ (7 * k) < 9223372036854775808 := by rw [← hp0]; omega
          omega
        have eo : bits .or .i64 (a : Int) (wrap64 ((x.toNat : Int) % 128 * 2 ^ (7 * k))) = ((a + x.toNat % 128 * 128 ^ k : Nat) : Int) := by
          rw [ew, hp0]
          exact bor_i64 a _ (7 * k) (by rw [← hp0]; exact ha) (by rw [← hp0]; omega)
        have hlt63 : a + x.toNat % 128 * 128 ^ k < 9223372036854775808 := by omega
        generalize a + x.toNat % 128 * 128 ^ k = n' at *
        have H1 := Lib.hid h1
        have hd : ((x.toNat : Int) == 0) = true ∧ ¬ (0 : Int) < (k : Int) ∨ ((x.toNat : Int) == 0) = false := by
          by_cases h : x.toNat = 0
          · left; exact ⟨by simp; omega, by omega⟩
          · right; simp; omega
        clear h1 hp0 hdr hx ew hle
        rcases hd with ⟨h1', h2'⟩ | h1'
        ·
          by_cases hn : 4611686018427387904 < n'
          · rw [if_pos hn] at hrd
            have HR := Lib.hid hrd
            clear hrd
            have hn' : (4611686018427387904 : Int) < (n' : Int) := by omega
            go_wp2
            go_ret3
            exact ⟨by rw [HR.out]; rfl, rfl⟩
          · rw [if_neg hn] at hrd
            have hn' : ¬ (4611686018427387904 : Int) < (n' : Int) := by omega
            have hn0 : ¬ (n' : Int) < 0 := by omega
            by_cases h8 : x.toNat < 128
            · rw [if_pos h8] at hrd
              have h8' : (x.toNat : Int) < 128 := by omega
              have HR := Lib.hid hrd
              clear hrd
              go_wp2
              go_ret3
              exact ⟨by rw [HR.out]; rfl, rfl⟩
            · rw [if_neg h8] at hrd
              have h8' : ¬ (x.toNat : Int) < 128 := by omega
              have HR := Lib.hid hrd
              have HS := Lib.hid hs128
              clear hrd hs128
              go_wp2
              go_round
              case rel => exact ⟨k + 1, n', by omega, by go_num, rfl, by have := H1.out; omega, HS.out, HR.out⟩
              case measure => simp [intOf]; omega
        ·
          by_cases hn : 4611686018427387904 < n'
          · rw [if_pos hn] at hrd
            have HR := Lib.hid hrd
            clear hrd
            have hn' : (4611686018427387904 : Int) < (n' : Int) := by omega
            go_wp2
            go_ret3
            exact ⟨by rw [HR.out]; rfl, rfl⟩
          · rw [if_neg hn] at hrd
            have hn' : ¬ (4611686018427387904 : Int) < (n' : Int) := by omega
            have hn0 : ¬ (n' : Int) < 0 := by omega
            by_cases h8 : x.toNat < 128
            · rw [if_pos h8] at hrd
              have h8' : (x.toNat : Int) < 128 := by omega
              have HR := Lib.hid hrd
              clear hrd
              go_wp2
              go_ret3
              exact ⟨by rw [HR.out]; rfl, rfl⟩
            · rw [if_neg h8] at hrd
              have h8' : ¬ (x.toNat : Int) < 128 := by omega
              have HR := Lib.hid hrd
              have HS := Lib.hid hs128
              clear hrd hs128
              go_wp2
              go_round
              case rel => exact ⟨k + 1, n', by omega, by go_num, rfl, by have := H1.out; omega, HS.out, HR.out⟩
              case measure => simp [intOf]; omega
    · obtain rfl : k = l.length := by omega
      rw [List.drop_length, readN] at hrd
      have HR := Lib.hid hrd
      clear hrd
      go_wp2
      go_ret3
      unfold ReadDid
      exact ⟨by rw [HR.out]; rfl, rfl⟩
end Go.Proofs.YtediidajdpdeiaaDoor
