/- Numbers as bytes (layer 1): plain functions, and the walks of octet and of the document's answer. -/
import Derived.Test.YtediidajdpdeiaaGreatDoorJ1
import Derived.Test.YtediidajdpdeiaaGreatDoorJ0
import Derived.Lib.Hide

namespace Go.Proofs.YtediidajdpdeiaaGreatDoor
open Go.RowKit CrcM
set_option maxRecDepth 100000

/-- a number's bytes -/
def numB (n : Nat) : List UInt8 := if _h : n < 128 then [UInt8.ofNat n] else UInt8.ofNat (n % 128 + 128) :: numB (n / 128)
termination_by n
decreasing_by omega

theorem numB_lt {n : Nat} (h : n < 128) : numB n = [UInt8.ofNat n] := by rw [numB, dif_pos h]
theorem numB_ge {n : Nat} (h : ¬ n < 128) : numB n = UInt8.ofNat (n % 128 + 128) :: numB (n / 128) := by rw [numB, dif_neg h]
theorem numB_le : ∀ (k n : Nat), n < 128 ^ (k + 1) → (numB n).length ≤ k + 1
  | 0, n, h => by rw [numB_lt (by simpa using h)]; simp
  | k + 1, n, h => by
    by_cases h1 : n < 128
    · rw [numB_lt h1]; simp
    · rw [numB_ge h1, List.length_cons]
      have := numB_le k (n / 128) (by rw [Nat.div_lt_iff_lt_mul (by omega)]; rw [Nat.pow_succ] at h; omega)
      omega
theorem numB_10 {n : Nat} (h : n < 18446744073709551616) : (numB n).length ≤ 10 := numB_le 9 n (by omega)
theorem numB_pos (n : Nat) : 1 ≤ (numB n).length := by
  by_cases h : n < 128
  · rw [numB_lt h]; simp
  · rw [numB_ge h]; simp

/-- what stands at the beginning of bytes: a number and how many bytes it has, or why there is none; from the i-th byte on, with what the bytes ahead say -/
def readN : List UInt8 → Nat → Nat → Except Int (Nat × Nat)
  | [], _, _ => .error 4
  | x :: t, i, acc =>
    if i = 9 ∨ (x.toNat = 0 ∧ 0 < i) then .error 5
    else if 4611686018427387904 < acc + x.toNat % 128 * 128 ^ i then .error 5
    else if x.toNat < 128 then .ok (acc + x.toNat % 128 * 128 ^ i, i + 1)
    else readN t (i + 1) (acc + x.toNat % 128 * 128 ^ i)
def readNum (l : List UInt8) : Except Int (Nat × Nat) := readN l 0 0

theorem readN_numB : ∀ (n : Nat) (tail : List UInt8) (i acc : Nat), acc + n * 128 ^ i ≤ 4611686018427387904 → (0 < i → 0 < n) → readN (numB n ++ tail) i acc = .ok (acc + n * 128 ^ i, i + (numB n).length) := by
  intro n
  induction n using Nat.strongRecOn with
  | _ n ih =>
    intro tail i acc h h0
    have h9 : n = 0 ∧ i = 0 ∨ i < 9 := by
      rcases Nat.eq_zero_or_pos n with h1 | h1
      · left; exact ⟨h1, by omega⟩
      · right
        by_cases h2 : i < 9
        · exact h2
        · exfalso
          have : 128 ^ 9 ≤ 128 ^ i := Nat.pow_le_pow_right (by omega) (by omega)
          have : 128 ^ i ≤ n * 128 ^ i := Nat.le_mul_of_pos_left _ h1
          omega
    by_cases h1 : n < 128
    · rw [numB_lt h1]
      have e : (UInt8.ofNat n).toNat = n := by simp; omega
      simp only [List.cons_append, List.nil_append, readN, e, List.length_singleton]
      rw [Nat.mod_eq_of_lt h1]
      rw [if_neg (by omega), if_neg (by omega), if_pos h1]
    · rw [numB_ge h1]
      have e : (UInt8.ofNat (n % 128 + 128)).toNat = n % 128 + 128 := by simp; omega
      have e2 : acc + (n % 128 + 128) % 128 * 128 ^ i + n / 128 * 128 ^ (i + 1) = acc + n * 128 ^ i := by
        have h3 : n % 128 + 128 * (n / 128) = n := Nat.mod_add_div n 128
        have h4 : (n % 128 + 128) % 128 = n % 128 := by omega
        rw [h4, Nat.pow_succ]
        have h5 : n * 128 ^ i = n % 128 * 128 ^ i + 128 * (n / 128) * 128 ^ i := by rw [← Nat.add_mul, h3]
        rw [h5, Nat.mul_comm 128 (n / 128), Nat.mul_assoc (n / 128), Nat.mul_comm 128 (128 ^ i)]
        omega
      simp only [List.cons_append, readN, e, List.length_cons]
      rw [if_neg (by omega), if_neg (by omega), if_neg (by omega), ih (n / 128) (by omega) tail (i + 1) _ (by omega) (fun _ => by omega), e2]
      congr 2; omega
theorem readNum_numB (n : Nat) (h : n ≤ 4611686018427387904) (tail : List UInt8) : readNum (numB n ++ tail) = .ok (n, (numB n).length) := by
  have := readN_numB n tail 0 0 (by simpa using h) (by omega)
  simpa [readNum] using this
theorem readN_le : ∀ (l : List UInt8) (i acc n s : Nat), readN l i acc = .ok (n, s) → n ≤ 4611686018427387904 ∧ i < s ∧ s ≤ i + l.length
  | [], i, acc, n, s, h => by simp [readN] at h
  | x :: t, i, acc, n, s, h => by
    rw [readN] at h
    split at h
    · cases h
    · split at h
      · cases h
      · split at h
        · simp only [Except.ok.injEq, Prod.mk.injEq] at h
          rw [List.length_cons]
          omega
        · have := readN_le t _ _ n s h
          rw [List.length_cons]
          omega

theorem or128 : ∀ x : Fin 256, bits .or .u8 (x.val : Int) 128 = ((x.val % 128 + 128 : Nat) : Int) := by decide +kernel
theorem and127 : ∀ x : Fin 256, bits .and .u8 (x.val : Int) 127 = ((x.val % 128 : Nat) : Int) := by decide +kernel

/-- what a function that writes a number leaves -/
def NumDid (W : World) (l : List UInt8) (e : Ending) (w' : World) : Prop := ∃ v', e = .returned v' ∧ w'.ownsRow W.heap.size TB 1 v' l.length (l.map byteV) ∧ Below W.heap.size W w'

def NumPair (W : World) (l : List UInt8) (e : Ending) (w' : World) : Prop := ∃ v', e = .returned (.tuple #[v', .int .i64 0]) ∧ w'.ownsRow W.heap.size TB 1 v' l.length (l.map byteV) ∧ Below W.heap.size W w'

theorem num_B (W w : World) (hb : Below W.heap.size W w) (v : Value) (l : List UInt8) (hown : w.ownsRow W.heap.size TB 1 v l.length (l.map byteV)) (hl : l.length ≤ 70368744177664) (n : Nat) (hn : n < 9223372036854775808) :
    Calls Tryz.prog 105 #[v, .int .u64 (n : Int)] w (NumDid W (l ++ numB n)) := by
  obtain ⟨i, hi, hz, hs, hby⟩ := info_parts info_u8
  go_enter Tryz.func105, Tryz.ntmps105
  go_wp2
  go_loopw [0, 1] (fun s q wr => ∃ (k : Nat) (xs : List UInt8), k ≤ n ∧ q = .int .u64 (k : Int) ∧ xs ++ numB k = l ++ numB n ∧ wr.ownsRow W.heap.size TB 1 s xs.length (xs.map byteV) ∧ Below W.heap.size W wr) (fun _ q _ => (intOf q).toNat)
  case atStart => exact ⟨n, l, Nat.le_refl _, rfl, rfl, hown, hb⟩
  case round =>
    obtain ⟨k, xs, hk, rfl, hxs, ho, hbl⟩ := hrel
    have hx2 : xs.length ≤ l.length + 10 := by
      have := congrArg List.length hxs
      have := numB_10 (n := n) (by omega)
      simp only [List.length_append] at *
      omega
    obtain ⟨Av, cv, rfl, _, _⟩ := own_val ho
    by_cases h : k < 128
    · have h' : ¬ (128 : Int) ≤ (k : Int) := by omega
      rw [numB_lt h] at hxs
      have HX := Lib.hid hxs
      clear hxs
      have hx : Value.int .u8 (k : Int) = byteV (UInt8.ofNat k) := by
        unfold byteV; rw [UInt8.toNat_ofNat', Nat.mod_eq_of_lt (by omega)]
      have HY := Lib.hid hx
      clear hx
      go_wp2_with (at_builtin
                   refine wpList_appB rfl (.tmp 15) (.tmp 18) 30 rfl i Tryz.underlying30 hi hz hs hby W.heap.size _ xs.length xs rfl (ho.alloc _) Non _ 1 1 [UInt8.ofNat k] rfl rfl (rd_one wr _ _ (by first | exact HY.out | (simp; exact HY.out)) _) (by omega) (by have := hbl.size; simp; omega) ?_
                   intro v2 w2 hown2 hgrow hat)
      go_ret
      rw [HX.out] at hown2
      refine ⟨_, rfl, ?_, (hbl.alloc hbl.size _).grown hgrow (by have := hbl.size; simp; omega) (fun j hj => (ho.lt j hj).1)⟩
      have e : (l ++ numB n).length = xs.length + 1 := by rw [← HX.out]; simp
      rw [e]; exact hown2
    · have h' : (128 : Int) ≤ (k : Int) := by omega
      rw [numB_ge h, List.append_cons] at hxs
      have HX := Lib.hid hxs
      clear hxs
      have hx : Value.int .u8 (bits .or .u8 ((k : Int) % 256) 128) = byteV (UInt8.ofNat (k % 128 + 128)) := by
        have := or128 ⟨k % 256, by omega⟩
        simp only at this
        unfold byteV; rw [UInt8.toNat_ofNat', Nat.mod_eq_of_lt (by omega), show ((k : Int) % 256) = ((k % 256 : Nat) : Int) by omega, this]
        congr 2; omega
      have HY := Lib.hid hx
      clear hx
      go_wp2_with (at_builtin
                   refine wpList_appB rfl (.tmp 9) (.tmp 13) 30 rfl i Tryz.underlying30 hi hz hs hby W.heap.size _ xs.length xs rfl (ho.alloc _) Non _ 1 1 [UInt8.ofNat (k % 128 + 128)] rfl rfl (rd_one wr _ _ HY.out _) (by omega) (by have := hbl.size; simp; omega) ?_
                   intro v2 w2 hown2 hgrow hat)
      go_roundw
      case rel => exact ⟨k / 128, xs ++ [UInt8.ofNat (k % 128 + 128)], by omega, by go_num, HX.out, by rw [List.length_append]; exact hown2, (hbl.alloc hbl.size _).grown hgrow (by have := hbl.size; simp; omega) (fun j hj => (ho.lt j hj).1)⟩
      case measure => simp [intOf]; omega

theorem Num_B (W w : World) (hb : Below W.heap.size W w) (A : Option Addr) (c : Nat) (l : List UInt8) (hr : Rd Non w A l) (hl : l.length ≤ 70368744177664) (n : Nat) (hn : n ≤ 4611686018427387904) :
    Calls Tryz.prog 54 #[.slice A l.length c, .int .i64 (n : Int)] w (NumPair W (l ++ numB n)) := by
  go_enter Tryz.func54, Tryz.ntmps54
  go_wp2_with (first
    | (go_at_call 56; refine (clone_B Non A l c w hr hl).mono ?_; rintro e w1 ⟨A', c', rfl, hor, hc', hm', hbel⟩)
    | (go_at_call 105; refine (num_B W _ (hb.trans (hbel.mono hb.size)) _ l (ownsRow_mono hor hb.size) hl n (by omega)).mono ?_; rintro e w2 ⟨v', rfl, ho, hb2⟩))
  go_ret2
  exact ⟨v', rfl, ho, hb2⟩

theorem and127' (x : UInt8) : bits .and .u8 (x.toNat : Int) 127 = ((x.toNat % 128 : Nat) : Int) := and127 ⟨x.toNat, x.toNat_lt⟩
theorem ofInt64 (n : Nat) : BitVec.ofInt IntKind.i64.bits (n : Int) = BitVec.ofNat 64 n := by
  show BitVec.ofInt 64 _ = _
  exact BitVec.ofInt_natCast ..
theorem bor_i64 (a b i : Nat) (ha : a < 2 ^ i) (hs : a + b * 2 ^ i < 9223372036854775808) : bits .or .i64 (a : Int) ((b * 2 ^ i : Nat) : Int) = ((a + b * 2 ^ i : Nat) : Int) := by
  have h1 : a ||| b * 2 ^ i = a + b * 2 ^ i := or_add a b i ha
  unfold bits
  simp only [ofInt64]
  have e3 : (BitVec.ofNat 64 a ||| BitVec.ofNat 64 (b * 2 ^ i)).toNat = a + b * 2 ^ i := by
    rw [BitVec.toNat_or, BitVec.toNat_ofNat, BitVec.toNat_ofNat, Nat.mod_eq_of_lt (by omega), Nat.mod_eq_of_lt (by omega), h1]
  have h : IntKind.i64.wrap ((a + b * 2 ^ i : Nat) : Int) = ((a + b * 2 ^ i : Nat) : Int) := by rw [IntKind.wrap_i64]; omega
  rw [← e3] at h ⊢
  exact h

/-- what a function that reads a number leaves -/
def ReadDid (w : World) (l : List UInt8) (e : Ending) (w' : World) : Prop :=
  (match readNum l with
    | .ok (n, s) => e = .returned (.tuple #[.int .i64 (n : Int), .int .i64 (s : Int), .int .i64 0])
    | .error r => e = .returned (.tuple #[.int .i64 0, .int .i64 0, .int .i64 r])) ∧ w' = w

theorem ReadNum_B (w : World) (A : Option Addr) (c : Nat) (l : List UInt8) (hr : Rd Non w A l) (hl : l.length ≤ maxLen) :
    Calls Tryz.prog 160 #[.slice A l.length c] w (ReadDid w l) := by
  unfold maxLen at hl
  go_enter Tryz.func160, Tryz.ntmps160
  go_wp2
  go_loop [2, 9] (fun n i => ∃ k a : Nat, k ≤ l.length ∧ i = .int .i64 (k : Int) ∧ n = .int .i64 (a : Int) ∧ k ≤ 9 ∧ a < 128 ^ k ∧ readNum l = readN (l.drop k) k a) (fun _ i => l.length - (intOf i).toNat)
  case atStart => exact ⟨0, 0, by omega, rfl, rfl, by omega, by simp, rfl⟩
  case round =>
    obtain ⟨k, a, hk, rfl, rfl, hk9, ha, hrd⟩ := hrel
    by_cases hlt : k < l.length
    · obtain ⟨x, hx⟩ : ∃ x, l[k]? = some x := ⟨_, List.getElem?_eq_getElem hlt⟩
      obtain ⟨ad, rfl, hcl, -⟩ := hr k x hx
      unfold byteV at hcl
      have hdr : l.drop k = x :: l.drop (k + 1) := by
        rw [List.drop_eq_getElem_cons hlt]
        congr 1
        rw [List.getElem?_eq_getElem hlt] at hx
        exact Option.some.inj hx
      rw [hdr, readN] at hrd
      have hxl := x.toNat_lt
      have hlt' : (k : Int) < (l.length : Int) := by omega
      have hp0 : (128 : Nat) ^ k = 2 ^ (7 * k) := by rw [Nat.pow_mul]
      have hm : x.toNat % 128 < 128 := Nat.mod_lt _ (by omega)
      have hs128 : a + x.toNat % 128 * 128 ^ k < 128 ^ (k + 1) := by
        have : x.toNat % 128 * 128 ^ k ≤ 127 * 128 ^ k := Nat.mul_le_mul_right _ (by omega)
        rw [Nat.pow_succ]; omega
      by_cases h1 : k = 9 ∨ (x.toNat = 0 ∧ 0 < k)
      · rw [if_pos h1] at hrd
        have HR := Lib.hid hrd
        clear hrd
        rcases h1 with h1 | ⟨h1, h2⟩
        · have h1' : ((k : Int) == 9) = true := by simp; omega
          clear h1
          go_wp2
          go_ret3
          exact ⟨by rw [HR.out]; rfl, rfl⟩
        · have h1' : ((x.toNat : Int) == 0) = true := by simp; omega
          have h2' : (0 : Int) < (k : Int) := by omega
          clear h1 h2
          by_cases h3 : (k : Int) = 9
          · have h3' : ((k : Int) == 9) = true := by simp; omega
            clear h3
            go_wp2
            go_ret3
            exact ⟨by rw [HR.out]; rfl, rfl⟩
          · have h3' : ((k : Int) == 9) = false := by simp; omega
            clear h3
            go_wp2
            go_ret3
            exact ⟨by rw [HR.out]; rfl, rfl⟩
      · rw [if_neg h1] at hrd
        have h3' : ((k : Int) == 9) = false := by simp; omega
        have ea := and127' x
        have hk8 : k ≤ 8 := by omega
        have hle : (128 : Nat) ^ (k + 1) ≤ 128 ^ 9 := Nat.pow_le_pow_right (by omega) (by omega)
        have k7 : IntKind.i64.wrap (7 * (k : Int)) = 7 * (k : Int) := by rw [IntKind.wrap_i64]; omega
        have ew : wrap64 ((x.toNat : Int) % 128 * 2 ^ (7 * k)) = ((x.toNat % 128 * 2 ^ (7 * k) : Nat) : Int) := by
          have e1 : ((x.toNat : Int) % 128 * 2 ^ (7 * k)) = ((x.toNat % 128 * 2 ^ (7 * k) : Nat) : Int) := by push_cast; rfl
          rw [e1]
          unfold wrap64
          have : x.toNat % 128 * 2 ^ (7 * k) < 9223372036854775808 := by rw [← hp0]; omega
          omega
        have eo : bits .or .i64 (a : Int) (wrap64 ((x.toNat : Int) % 128 * 2 ^ (7 * k))) = ((a + x.toNat % 128 * 128 ^ k : Nat) : Int) := by
          rw [ew, hp0]
          exact bor_i64 a _ (7 * k) (by rw [← hp0]; exact ha) (by rw [← hp0]; omega)
        have hlt63 : a + x.toNat % 128 * 128 ^ k < 9223372036854775808 := by omega
        generalize a + x.toNat % 128 * 128 ^ k = n' at *
        have H1 := Lib.hid h1
        have hd : ((x.toNat : Int) == 0) = true ∧ ¬ (0 : Int) < (k : Int) ∨ ((x.toNat : Int) == 0) = false := by
          by_cases h : x.toNat = 0
          · left; exact ⟨by simp; omega, by omega⟩
          · right; simp; omega
        clear h1 hp0 hdr hx ew hle
        rcases hd with ⟨h1', h2'⟩ | h1'
        ·
          by_cases hn : 4611686018427387904 < n'
          · rw [if_pos hn] at hrd
            have HR := Lib.hid hrd
            clear hrd
            have hn' : (4611686018427387904 : Int) < (n' : Int) := by omega
            go_wp2
            go_ret3
            exact ⟨by rw [HR.out]; rfl, rfl⟩
          · rw [if_neg hn] at hrd
            have hn' : ¬ (4611686018427387904 : Int) < (n' : Int) := by omega
            have hn0 : ¬ (n' : Int) < 0 := by omega
            by_cases h8 : x.toNat < 128
            · rw [if_pos h8] at hrd
              have h8' : (x.toNat : Int) < 128 := by omega
              have HR := Lib.hid hrd
              clear hrd
              go_wp2
              go_ret3
              exact ⟨by rw [HR.out]; rfl, rfl⟩
            · rw [if_neg h8] at hrd
              have h8' : ¬ (x.toNat : Int) < 128 := by omega
              have HR := Lib.hid hrd
              have HS := Lib.hid hs128
              clear hrd hs128
              go_wp2
              go_round
              case rel => exact ⟨k + 1, n', by omega, by go_num, rfl, by have := H1.out; omega, HS.out, HR.out⟩
              case measure => simp [intOf]; omega
        ·
          by_cases hn : 4611686018427387904 < n'
          · rw [if_pos hn] at hrd
            have HR := Lib.hid hrd
            clear hrd
            have hn' : (4611686018427387904 : Int) < (n' : Int) := by omega
            go_wp2
            go_ret3
            exact ⟨by rw [HR.out]; rfl, rfl⟩
          · rw [if_neg hn] at hrd
            have hn' : ¬ (4611686018427387904 : Int) < (n' : Int) := by omega
            have hn0 : ¬ (n' : Int) < 0 := by omega
            by_cases h8 : x.toNat < 128
            · rw [if_pos h8] at hrd
              have h8' : (x.toNat : Int) < 128 := by omega
              have HR := Lib.hid hrd
              clear hrd
              go_wp2
              go_ret3
              exact ⟨by rw [HR.out]; rfl, rfl⟩
            · rw [if_neg h8] at hrd
              have h8' : ¬ (x.toNat : Int) < 128 := by omega
              have HR := Lib.hid hrd
              have HS := Lib.hid hs128
              clear hrd hs128
              go_wp2
              go_round
              case rel => exact ⟨k + 1, n', by omega, by go_num, rfl, by have := H1.out; omega, HS.out, HR.out⟩
              case measure => simp [intOf]; omega
    · obtain rfl : k = l.length := by omega
      rw [List.drop_length, readN] at hrd
      have HR := Lib.hid hrd
      clear hrd
      go_wp2
      go_ret3
      unfold ReadDid
      exact ⟨by rw [HR.out]; rfl, rfl⟩
end Go.Proofs.YtediidajdpdeiaaGreatDoor

/- What a log of segments is and does (layer 7), as plain functions: no program is in sight. -/
namespace Go.Proofs.YtediidajdpdeiaaGreatDoor
open CrcM

structure Sg where
  d : Dk
  base : Nat
  recs : List (List UInt8)
  safe : Nat

structure Lg where
  per : Nat
  segs : List Sg
  down : Bool

/-- the frame with which a segment begins -/
def headB (base : Nat) : List UInt8 := frame (numB base)

/-- the bodies of the frames from a place on, and where they end -/
def framesF : Nat → List UInt8 → Nat → List (List UInt8) × Nat
  | 0, _, at_ => ([], at_)
  | f + 1, b, at_ => match next b at_ with
    | .error _ => ([], at_)
    | .ok (body, en) => (body :: (framesF f b en).1, (framesF f b en).2)
def framesOf (b : List UInt8) : List (List UInt8) × Nat := framesF (b.length + 1) b 0

namespace Sg
def ok (g : Sg) : Prop := g.base ≤ 4611686018427387904 ∧ g.recs.length ≤ 349525 ∧ g.safe ≤ g.recs.length ∧ (∀ r ∈ g.recs, r.length ≤ 65536)
/-- a segment of a log that is up: its disk is up, and has room for its records -/
def up (g : Sg) : Prop := g.d.down = false ∧ 12 * g.recs.length ≤ g.d.all.length
def sync (g : Sg) : Sg := ⟨g.d.sync.1, g.base, g.recs, g.recs.length⟩
def crash (keep flip : Int) (g : Sg) : Sg := ⟨(g.d.crash keep flip).1, g.base, g.recs, g.safe⟩
def new (base : Nat) : Sg := ⟨(Dk.new.append (headB base)).1, base, [], 0⟩
end Sg

/-- what a segment's disk says when it is read: the segment, and whether all its bytes are frames -/
def scan (D : Dk) (due : Int) : Option (Sg × Bool) :=
  match (framesOf D.all).1 with
  | [] => none
  | hd :: recs => match readNum hd with
    | .error _ => none
    | .ok (n, s) => if s = hd.length ∧ (due < 0 ∨ (n : Int) = due) then some (⟨(D.cut (framesOf D.all).2).1, n, recs, recs.length⟩, decide ((framesOf D.all).2 = D.all.length)) else none

def restartK (per : Nat) (r : Option (Sg × Bool)) (go : Int → List Sg) : List Sg := match r with
  | none => []
  | some (k, whole) => k :: if whole = false ∨ k.recs.length < per then [] else go ((k.base + k.recs.length : Nat) : Int)
def restartS (per : Nat) : List Sg → Int → List Sg
  | [], _ => []
  | g :: t, due => restartK per (scan g.d.restart.1 due) (restartS per t)

def safeS : List Sg → Nat → Nat
  | [], n => n
  | g :: t, _ => if g.safe < g.recs.length then g.base + g.safe else safeS t (g.base + g.safe)

def dropS : List Sg → Int → List Sg
  | a :: b :: t, n => if (b.base : Int) ≤ n then dropS (b :: t) n else a :: b :: t
  | l, _ => l

namespace Lg
def ok (L : Lg) : Prop := 1 ≤ L.per ∧ L.per ≤ 1024 ∧ L.segs.length ≤ 256 ∧ ∀ g ∈ L.segs, g.ok
def up (L : Lg) : Prop := L.down = false → ∀ g ∈ L.segs, g.up
def new (per : Nat) : Lg := ⟨per, [], false⟩
def len (L : Lg) : Nat := if L.down then 0 else match L.segs.getLast? with
  | none => 0
  | some g => g.base + g.recs.length
def base (L : Lg) : Nat := if L.down then 0 else match L.segs.head? with
  | none => 0
  | some g => g.base
def safe (L : Lg) : Nat := if L.down then 0 else safeS L.segs L.base
def recs (L : Lg) : List (List UInt8) := if L.down then [] else L.segs.flatMap (·.recs)
def full (L : Lg) : Bool := match L.segs.getLast? with
  | none => true
  | some g => decide (g.recs.length = L.per)
/-- the segments to which a record is added -/
def room (L : Lg) : List Sg := if L.full then L.segs ++ [Sg.new L.len] else L.segs
def append (L : Lg) (rec : List UInt8) : Lg × Nat × Int :=
  if L.down then (L, 0, 10) else if 65536 < rec.length then (L, 0, 3) else if L.full = true ∧ L.segs.length = 256 then (L, 0, 7)
  else match L.room.getLast? with
  | none => (L, 0, 0)
  | some g => if (g.d.append (frame rec)).2 = 0 then (⟨L.per, L.room.dropLast ++ [⟨(g.d.append (frame rec)).1, g.base, g.recs ++ [rec], g.safe⟩], false⟩, g.base + g.recs.length, 0)
    else (⟨L.per, L.room, false⟩, 0, (g.d.append (frame rec)).2)
def sync (L : Lg) : Lg × Int := if L.down then (L, 10) else (⟨L.per, L.segs.map Sg.sync, false⟩, 0)
def drop (L : Lg) (n : Int) : Lg × Int := if L.down then (L, 10) else if (L.safe : Int) < n then (L, 2) else (⟨L.per, dropS L.segs n, false⟩, 0)
def crash (L : Lg) (keep flip : Int) : Lg × Int := if L.down then (L, 10) else if keep < 0 then (L, 2) else (⟨L.per, L.segs.map (Sg.crash keep flip), true⟩, 0)
def restart (L : Lg) : Lg × Int := if L.down then (⟨L.per, restartS L.per L.segs (-1), false⟩, 0) else (L, 9)
end Lg
end Go.Proofs.YtediidajdpdeiaaGreatDoor

/- append at rows of any type of one cell; blocks that are known whole across appends. -/
namespace Go.Proofs.YtediidajdpdeiaaGreatDoor
open Go.RowKit

section
variable {w w' : World} {b : Nat} {t : TypeId} {cs : Array Value}
theorem Blk.below (h : Blk w b t cs) (hb : Below w.heap.size w w') : Blk w' b t cs := h.eq (hb.block b h.lt)
theorem Blk.grown (h : Blk w b t cs) {row : Option Nat} (hg : w.grownBy w' row) (hn : row ≠ some b) : Blk w' b t cs := h.eq (hg.block b h.lt (fun e => hn e.symm))
/-- a row lies as it lay behind what leaves old blocks alone -/
theorem ownsRow_below {base n sz : Nat} {e : TypeId} {v : Value} {xs : List Value} (h : w.ownsRow base e sz v n xs) (hb : Below w.heap.size w w') : w'.ownsRow base e sz v n xs := by
  refine ⟨h.1, h.2.imp_right ?_⟩
  rintro ⟨g, cap, cur, h1, h2, h3, h4⟩
  exact ⟨g, cap, cur, h1, h2, (hb.block g (Array.getElem?_eq_some_iff.1 h3).1).trans h3, h4⟩
end
section
variable {w w' : World} {S : Nat → Prop} {A : Option Addr} {l : List UInt8}
theorem Own.same (h : Own S w A l) (hk : ∀ b, IsB w b → w'.heap[b]? = w.heap[b]?) : Own S w' A l := fun j x hx => by
  obtain ⟨ad, e, hc, hb, hs⟩ := h j x hx
  have he := hk _ hb
  exact ⟨ad, e, (cell_eq (by rw [add_block]; exact he)).trans hc, hb.eq he, hs⟩
theorem Own.alloc (h : Own S w A l) (o : Obj) : Own S (w.alloc o) A l := h.same fun _ hb => Below.heap_alloc _ _ _ hb.lt
theorem Own.grownI (h : Own S w A l) {row : Option Nat} (hg : w.grownBy w' row) (hr : ∀ j, row = some j → ¬ IsB w j) : Own S w' A l := h.same fun b hb => hg.block b hb.lt fun e => hr b e.symm hb
theorem row_notB {base n sz : Nat} {e : TypeId} {v : Value} {xs : List Value} (h : w.ownsRow base e sz v n xs) (he : e ≠ TB) : ∀ j, v.ownBlock = some j → ¬ IsB w j := by
  intro j hj
  rcases h.2 with ⟨rfl, _⟩ | ⟨g, cap, cur, rfl, _, hg, _⟩
  · simp [Value.ownBlock] at hj
  · simp only [Value.ownBlock, Option.some.injEq] at hj
    subst hj
    exact Blk.notB (t := e) (cs := cur) hg he
end
end Go.Proofs.YtediidajdpdeiaaGreatDoor

/- Rows of values of one cell each, that lie anywhere in a block of one's own: what append, a reslice and a store leave. -/
namespace Go.Proofs.YtediidajdpdeiaaGreatDoor
open Go.RowKit

/-- a slice v of elements of type e reads vals, in a block of S -/
def Row (S : Nat → Prop) (w : World) (e : TypeId) (v : Value) (vals : List Value) : Prop :=
  (v = .slice none 0 0 ∧ vals = []) ∨
  ∃ g o c cur, v = .slice (some ⟨g, o, none⟩) vals.length c ∧ S g ∧ w.heap[g]? = some (.cells cur e (0, 0)) ∧ vals.length ≤ c ∧ c ≤ maxLen ∧ cur.size = o + c ∧ (cur.toList.drop o).take vals.length = vals

section
variable {S S' : Nat → Prop} {w w' : World} {e : TypeId} {v : Value} {vals : List Value}
theorem Row.nil (S : Nat → Prop) (w : World) (e : TypeId) : Row S w e (.slice none 0 0) [] := .inl ⟨rfl, rfl⟩
theorem Row.val (h : Row S w e v vals) : ∃ A c, v = .slice A vals.length c ∧ vals.length ≤ c ∧ c ≤ maxLen := by
  rcases h with ⟨rfl, rfl⟩ | ⟨g, o, c, cur, rfl, _, _, h1, h2, _⟩
  · exact ⟨none, 0, rfl, Nat.le_refl _, Nat.zero_le _⟩
  · exact ⟨_, c, rfl, h1, h2⟩
theorem Row.mono (h : Row S w e v vals) (hs : ∀ b, b < w.heap.size → S b → S' b) : Row S' w e v vals := by
  refine h.imp_right ?_
  rintro ⟨g, o, c, cur, h1, h2, h3, h4⟩
  exact ⟨g, o, c, cur, h1, hs g (Array.getElem?_eq_some_iff.1 h3).1 h2, h3, h4⟩
theorem Row.same (h : Row S w e v vals) (hk : ∀ b, S b → w'.heap[b]? = w.heap[b]?) : Row S w' e v vals := by
  refine h.imp_right ?_
  rintro ⟨g, o, c, cur, h1, h2, h3, h4⟩
  exact ⟨g, o, c, cur, h1, h2, (hk g h2).trans h3, h4⟩
theorem Row.fr (h : Row S w e v vals) (f : Fr S' w w') (hd : ∀ x, S x → S' x → IsB w x) : Row S w' e v vals := by
  refine h.imp_right ?_
  rintro ⟨g, o, c, cur, h1, h2, h3, h4⟩
  refine ⟨g, o, c, cur, h1, h2, ?_, h4⟩
  rw [← h3]
  by_cases hs : S' g
  · exact f.byt g (hd g h2 hs)
  · exact f.out g (Array.getElem?_eq_some_iff.1 h3).1 hs
theorem Row.below (h : Row S w e v vals) (hb : Below w.heap.size w w') : Row S w' e v vals := h.fr (S' := Non) (Fr.of_below hb) fun _ _ h => h.elim
/-- a block of another type has turned -/
theorem Row.otherBlk {b : Nat} {t : TypeId} {cs : Array Value} (h : Row S w e v vals) (hb : Blk w b t cs) (hne : t ≠ e) (f : Fr (fun x => x = b) w w') : Row S w' e v vals := by
  refine h.imp_right ?_
  rintro ⟨g, o, c, cur, h1, h2, h3, h4⟩
  refine ⟨g, o, c, cur, h1, h2, ?_, h4⟩
  rw [← h3]
  refine f.out g (Array.getElem?_eq_some_iff.1 h3).1 fun e' => ?_
  subst e'
  unfold Blk at hb
  rw [h3] at hb
  injection hb with hb
  injection hb with _ hb
  exact hne hb.symm
/-- a row's own block is none of another type -/
theorem Row.ownNe {b : Nat} {t : TypeId} {cs : Array Value} (h : Row S w e v vals) (hb : Blk w b t cs) (hne : t ≠ e) : v.ownBlock ≠ some b := by
  rcases h with ⟨rfl, _⟩ | ⟨g, o, c, cur, rfl, _, h3, _⟩
  · simp [Value.ownBlock]
  · intro e'
    have e' : some g = some b := e'
    injection e' with e'
    subst e'
    unfold Blk at hb
    rw [h3] at hb
    injection hb with hb
    injection hb with _ hb
    exact hne hb.symm
theorem Row.drew (h : Row S w e v vals) : Row S w.drew e v vals := h
/-- the k-th cell -/
theorem Row.cell (h : Row S w e v vals) {k : Nat} {u : Value} (hk : vals[k]? = some u) : ∃ g o c, v = .slice (some ⟨g, o, none⟩) vals.length c ∧ S g ∧ g < w.heap.size ∧ w.cell? ⟨g, o + k, none⟩ = some u ∧ w.frozen? ⟨g, o + k, none⟩ = false := by
  rcases h with ⟨rfl, rfl⟩ | ⟨g, o, c, cur, h1, h2, h3, h4, h5, h6, h7⟩
  · simp at hk
  · refine ⟨g, o, c, h1, h2, (Array.getElem?_eq_some_iff.1 h3).1, ?_, ?_⟩
    · have hlt := (List.getElem?_eq_some_iff.1 hk).1
      rw [← h7, List.getElem?_take_of_lt hlt, List.getElem?_drop] at hk
      simp only [World.cell?, h3]
      simpa using hk
    · simp [World.frozen?, h3]
/-- a reslice from n on, not to the very end of the room -/
theorem Row.drop (h : Row S w e v vals) {n : Nat} (hn : n < vals.length) : ∃ g o c, v = .slice (some ⟨g, o, none⟩) vals.length c ∧ vals.length ≤ c ∧ Row S w e (.slice (some ⟨g, o + n, none⟩) (vals.length - n) (c - n)) (vals.drop n) := by
  rcases h with ⟨rfl, rfl⟩ | ⟨g, o, c, cur, h1, h2, h3, h4, h5, h6, h7⟩
  · simp at hn
  · refine ⟨g, o, c, h1, h4, .inr ⟨g, o + n, c - n, cur, by rw [List.length_drop], h2, h3, by rw [List.length_drop]; omega, by omega, by omega, ?_⟩⟩
    rw [List.length_drop, ← List.drop_drop]
    have := congrArg (List.drop n) h7
    rw [List.drop_take] at this
    exact this
theorem Row.of_own {base n : Nat} {xs : List Value} (h : w.ownsRow base e 1 v n xs) (hS : ∀ g, v.ownBlock = some g → S g) : Row S w e v xs := by
  have hl : xs.length = n := by simpa using h.1
  rcases h.2 with ⟨rfl, rfl⟩ | ⟨g, cap, cur, rfl, hb, hg, hnc, hm, hs, ht⟩
  · exact .inl ⟨rfl, List.eq_nil_of_length_eq_zero hl⟩
  · rw [Nat.mul_one] at hs ht
    exact .inr ⟨g, 0, cap, cur, by rw [hl], hS g rfl, hg, by omega, hm, by omega, by rw [hl]; simpa using ht⟩
end

/-- what an append of one value onto a row leaves -/
theorem run_append_row {P : Program} {S : Nat → Prop} {w : World} {e : TypeId} {v : Value} {vals : List Value} (t ty : TypeId) (i : TypeInfo) (z : Value) (bytes : Nat) (ht : P.underlying t = some (.slice e)) (hi : P.info? e = some i) (hz : i.zero = some z) (hsz : i.size = 1)
    (hby : i.bytes = bytes) (hzs : z.cells.size = 1) (h : Row S w e v vals) (a : Addr) (u : Value) (hu : w.cell? a = some u) (h1 : u.oneCell' = true) (hlen : vals.length + 1 ≤ maxLen) (hbytes : (vals.length + 1) * bytes ≤ 140737488355328) (he : e ≠ TB) :
    ∃ v' w', (Builtin.append_ #[t, t] ty #[v, .slice (some a) 1 1]).run P w = .ok v' w' ∧ Row (Up S w w') w' e v' (vals ++ [u]) ∧ Fr S w w' ∧ (∀ b, b < w.heap.size → v.ownBlock ≠ some b → w'.heap[b]? = w.heap[b]?) := by
  have hnews : ∀ j x, ([u] : List Value)[j]? = some x → w.cell? (a.add j) = some x := by
    intro j x hx
    match j, hx with
    | 0, hx => injection hx with hx; subst hx; simpa [Addr.add] using hu
    | j + 1, hx => simp at hx
  rcases h with ⟨rfl, rfl⟩ | ⟨g, o, c, cur, rfl, h2, h3, h4, h5, h6, h7⟩
  · have hrun := run_append_nil (P := P) w t ty e i z ht hi hz a 1 1 [u] (by rw [hsz]; rfl) hnews (by omega) (by omega) (by rw [hby]; simp at hbytes; omega)
    have hc1 := grownCap_ge w 1 0 e
    have hc2 := grownCap_le_maxLen w 1 0 e (by simp [maxLen])
    refine ⟨_, _, hrun, .inr ⟨w.heap.size, 0, grownCap w 1 0 e, _, rfl, .inr ⟨Nat.le_refl _, by simp⟩, heap_alloc_new w.drew _, hc1, hc2, ?_, ?_⟩, ((Fr.refl S w).drew.alloc _), fun b hb _ => Below.heap_alloc w.drew _ b hb⟩
    · simp [size_zeroCells, hzs]; omega
    · simp
  · by_cases hr : vals.length + 1 ≤ c
    · have hgl := (Array.getElem?_eq_some_iff.1 h3).1
      have hf := run_firstCells_some (P := P) w i.size 1 a 1 1 [u] (by rw [hsz]; rfl) hnews
      have hst := run_storeCells_at P g (o + vals.length) e [u] 0 cur w h3 (by simp; omega) (by intro x hx; rw [List.mem_singleton] at hx; rw [hx]; exact h1)
      simp only [Nat.add_zero] at hst
      have hrun : (Builtin.append_ #[t, t] ty #[.slice (some ⟨g, o, none⟩) vals.length c, .slice (some a) 1 1]).run P w =
          .ok (.slice (some ⟨g, o, none⟩) (vals.length + 1) c) (w.setRow g (cur.toList.take (o + vals.length) ++ [u] ++ cur.toList.drop (o + vals.length + [u].length)).toArray) := by
        rw [hsz] at hf
        simp only [List.length_singleton] at hst ⊢
        simp [Builtin.append_, run_underlying ht, sizeOf, typeInfo, hi, Builtin.lenOf, hr, hf, Addr.add_lit, hst, hsz]
      have hrow := setRow_heap w g cur (cur.toList.take (o + vals.length) ++ [u] ++ cur.toList.drop (o + vals.length + [u].length)).toArray e (0, 0) h3
      have hnb : ¬ IsB w g := by
        rintro ⟨cs, fz, hh⟩
        rw [h3] at hh
        injection hh with hh
        injection hh with _ hh
        exact he hh
      refine ⟨_, _, hrun, .inr ⟨g, o, c, _, by rw [List.length_append]; rfl, .inl h2, hrow, by rw [List.length_append]; simpa using hr, h5, ?_, ?_⟩, ⟨rfl, rfl, rfl, by simp [World.setRow], fun b hb hn => setRow_other w g b _ (fun e => hn (e ▸ h2)), fun b hb => setRow_other w g b _ (fun e => hnb (e ▸ hb))⟩, fun b hb hn => setRow_other w g b _ (fun e => hn (by rw [e]; rfl))⟩
      · simp [List.length_take, List.length_drop]; omega
      · have e1 : (cur.toList.take (o + vals.length)).length = o + vals.length := by rw [List.length_take]; simp; omega
        rw [List.toList_toArray, List.append_assoc, List.drop_append_of_le_length (by omega), List.drop_take, Nat.add_sub_cancel_left, h7, List.length_append, List.length_singleton, ← List.append_assoc]
        exact List.take_left' (by simp)
    · have holds : ∀ j x, vals[j]? = some x → w.cell? ((⟨g, o, none⟩ : Addr).add j) = some x := by
        intro j x hx
        have hlt := (List.getElem?_eq_some_iff.1 hx).1
        rw [← h7, List.getElem?_take_of_lt hlt, List.getElem?_drop] at hx
        rw [add_mk]
        simp only [World.cell?, h3]
        simpa using hx
      have hrun := run_append_grow (P := P) w t ty e i z ht hi hz ⟨g, o, none⟩ vals.length c vals (by rw [hsz, Nat.mul_one]) holds a 1 1 [u] (by rw [hsz]; rfl) hnews (by omega) (by unfold maxLen at hlen; omega) (growslice_fits (by omega) (by rw [hby]; exact hbytes))
      have hc1 := grownCap_ge w (vals.length + 1) c e
      have hc2 := grownCap_le_maxLen w (vals.length + 1) c e hlen
      refine ⟨_, _, hrun, .inr ⟨w.heap.size, 0, grownCap w (vals.length + 1) c e, _, by rw [List.length_append]; rfl, .inr ⟨Nat.le_refl _, by simp⟩, heap_alloc_new w.drew _, by rw [List.length_append]; exact hc1, hc2, ?_, ?_⟩, ((Fr.refl S w).drew.alloc _), fun b hb _ => Below.heap_alloc w.drew _ b hb⟩
      · simp [size_zeroCells, hzs]; omega
      · simp [List.take_append, List.take_of_length_le]

theorem wpList_append_row {P : Program} {S : Nat → Prop} {w : World} {ops : Array Oper} {rest : List Oper} {o : Oper} {a : Act} {Q : Exit → Act → World → Prop} (hgd : o.guard = none) (s x : Operand) (t : TypeId)
    (ho : o.op = .call { callee := .builtin .append, args := #[s, x], argTypes := #[t, t] })
    (e : TypeId) (i : TypeInfo) (z : Value) (bytes : Nat) (ht : P.underlying t = some (.slice e)) (hi : P.info? e = some i) (hz : i.zero = some z) (hsize : i.size = 1) (hby : i.bytes = bytes) (hzs : z.cells.size = 1)
    (v : Value) (vals : List Value) (hs : a.eval s = v) (h : Row S w e v vals) (ad : Addr) (u : Value) (hx : a.eval x = .slice (some ad) 1 1) (hu : w.cell? ad = some u) (h1 : u.oneCell' = true)
    (h63 : vals.length + 1 ≤ maxLen) (hbytes : (vals.length + 1) * bytes ≤ 140737488355328) (he : e ≠ TB)
    (hk : ∀ v' w', Row (Up S w w') w' e v' (vals ++ [u]) → Fr S w w' → (∀ b, b < w.heap.size → v.ownBlock ≠ some b → w'.heap[b]? = w.heap[b]?) → wpList P ops Q rest (a.put o.dst v') w') :
    wpList P ops Q (o :: rest) a w := by
  obtain ⟨v', w', hrun, h2, h3, h4⟩ := run_append_row (P := P) t o.type i z bytes ht hi hz hsize hby hzs h ad u hu h1 h63 hbytes he
  exact wpList_ran hgd (run_builtin2 .append s x t t Builtin.append_ ho hs hx (fun _ _ => rfl) hrun) (hk v' w' h2 h3 h4)

/-- the same within a region -/
theorem oper_append_row {P : Program} {S : Nat → Prop} {w : World} {o : Oper} {a : Act} {K : Act → World → Prop} {Q : Exit → Act → World → Prop} (s x : Operand) (t : TypeId)
    (ho : o.op = .call { callee := .builtin .append, args := #[s, x], argTypes := #[t, t] })
    (e : TypeId) (i : TypeInfo) (z : Value) (bytes : Nat) (ht : P.underlying t = some (.slice e)) (hi : P.info? e = some i) (hz : i.zero = some z) (hsize : i.size = 1) (hby : i.bytes = bytes) (hzs : z.cells.size = 1)
    (v : Value) (vals : List Value) (hs : a.eval s = v) (h : Row S w e v vals) (ad : Addr) (u : Value) (hx : a.eval x = .slice (some ad) 1 1) (hu : w.cell? ad = some u) (h1 : u.oneCell' = true)
    (h63 : vals.length + 1 ≤ maxLen) (hbytes : (vals.length + 1) * bytes ≤ 140737488355328) (he : e ≠ TB)
    (hk : ∀ v' w', Row (Up S w w') w' e v' (vals ++ [u]) → Fr S w w' → (∀ b, b < w.heap.size → v.ownBlock ≠ some b → w'.heap[b]? = w.heap[b]?) → K (a.put o.dst v') w') :
    o.wp P a w K Q := by
  obtain ⟨v', w', hrun, h2, h3, h4⟩ := run_append_row (P := P) t o.type i z bytes ht hi hz hsize hby hzs h ad u hu h1 h63 hbytes he
  have hr := run_builtin2 .append s x t t Builtin.append_ ho hs hx (fun _ _ => rfl) hrun
  unfold Oper.wp
  rw [hr]
  exact hk v' w' h2 h3 h4

/-- a store into a row -/
theorem Row.store {S : Nat → Prop} {w : World} {e : TypeId} {vals : List Value} {g o c : Nat} (h : Row S w e (.slice (some ⟨g, o, none⟩) vals.length c) vals) {k : Nat} (hk : k < vals.length) (u : Value) : Row S (w.setCell ⟨g, o + k, none⟩ u) e (.slice (some ⟨g, o, none⟩) vals.length c) (vals.set k u) := by
  rcases h with ⟨h1, _⟩ | ⟨g', o', c', cur, h1, h2, h3, h4, h5, h6, h7⟩
  · simp at h1
  · simp only [Value.slice.injEq, Option.some.injEq, Addr.mk.injEq, and_true, true_and] at h1
    obtain ⟨⟨rfl, rfl⟩, rfl⟩ := h1
    refine .inr ⟨g, o, c, cur.setIfInBounds (o + k) u, by rw [List.length_set], h2, ?_, by rw [List.length_set]; exact h4, h5, by simpa using h6, ?_⟩
    · simp [World.setCell, Array.getElem?_modify, h3]
    · rw [List.length_set, Array.toList_setIfInBounds]
      have hl : ((cur.toList.drop o).take vals.length).length = vals.length := by rw [h7]
      apply List.ext_getElem?
      intro i
      rw [List.getElem?_take, List.getElem?_drop, List.getElem?_set, List.getElem?_set]
      have e1 : ∀ i, i < vals.length → cur.toList[o + i]? = vals[i]? := by
        intro i hi
        have := congrArg (fun l => l[i]?) h7
        simp only [List.getElem?_take_of_lt hi, List.getElem?_drop] at this
        exact this
      by_cases hi : i < vals.length
      · rw [if_pos hi]
        by_cases hik : k = i
        · subst hik
          rw [if_pos rfl, if_pos rfl, if_pos (by simp; omega), if_pos hi]
        · rw [if_neg (by omega), if_neg hik]
          exact e1 i hi
      · rw [if_neg hi, if_neg (by omega)]
        exact (List.getElem?_eq_none_iff.2 (by omega)).symm
end Go.Proofs.YtediidajdpdeiaaGreatDoor

/- The disk's functions do what the plain functions say: the walks. -/
namespace Go.Proofs.YtediidajdpdeiaaGreatDoor
open Go.RowKit
set_option maxRecDepth 100000

/-- block b is a disk -/
structure DiskAt (S : Nat → Prop) (w : World) (b : Nat) (A : Option Addr) (c : Nat) (D : Dk) : Prop where
  blk : Blk w b 159 #[.bool true, .bool D.down, .slice A D.all.length c, .int .i64 (D.kept : Int)]
  own : Own S w A D.all
  inS : S b
  lt : ∀ x, S x → x < w.heap.size
  cap : D.all.length ≤ c
  ok : D.ok

def IsDisk (S : Nat → Prop) (w : World) (p : Value) (D : Dk) : Prop := ∃ b A c, p = .pointer (some ⟨b, 0, none⟩) ∧ DiskAt S w b A c D

section
variable {S S' : Nat → Prop} {w w' : World} {b : Nat} {A : Option Addr} {c : Nat} {D : Dk} {p : Value}

theorem DiskAt.fr (h : DiskAt S w b A c D) (f : Fr S' w w') (hd : ∀ x, S x → S' x → IsB w x) : DiskAt S w' b A c D :=
  ⟨h.blk.fr f fun hs => h.blk.notB (by decide) (hd _ h.inS hs), h.own.fr f, h.inS, fun x hx => Nat.lt_of_lt_of_le (h.lt x hx) f.size, h.cap, h.ok⟩
theorem IsDisk.fr (h : IsDisk S w p D) (f : Fr S' w w') (hd : ∀ x, S x → S' x → IsB w x) : IsDisk S w' p D := by
  obtain ⟨b, A, c, rfl, h⟩ := h
  exact ⟨b, A, c, rfl, h.fr f hd⟩
theorem DiskAt.lt2 (h : DiskAt S w b A c D) : D.all.length ≤ 4194304 := h.ok.2
end

/-- what a walk wants to know of a disk -/
theorem DiskAt.facts {S : Nat → Prop} {w : World} {b : Nat} {A : Option Addr} {c : Nat} {dn : Bool} {all : List UInt8} {kept : Nat} (h : DiskAt S w b A c ⟨dn, all, kept⟩) :
    w.cell? ⟨b, 0, none⟩ = some (.bool true) ∧ w.cell? ⟨b, 1, none⟩ = some (.bool dn) ∧ w.cell? ⟨b, 2, none⟩ = some (.slice A all.length c) ∧ w.cell? ⟨b, 3, none⟩ = some (.int .i64 (kept : Int)) ∧
    w.frozen? ⟨b, 1, none⟩ = false ∧ w.frozen? ⟨b, 2, none⟩ = false ∧ w.frozen? ⟨b, 3, none⟩ = false ∧ b < w.heap.size ∧ all.length ≤ c ∧ kept ≤ all.length ∧ all.length ≤ 4194304 :=
  ⟨h.blk.cell 0 rfl, h.blk.cell 1 rfl, h.blk.cell 2 rfl, h.blk.cell 3 rfl, h.blk.frozen 1, h.blk.frozen 2, h.blk.frozen 3, h.blk.lt, h.cap, h.ok.1, h.ok.2⟩

theorem none_at {S : Nat → Prop} {w : World} {b : Nat} {A : Option Addr} {c : Nat} {D : Dk} (h : DiskAt S w b A c D) :
    Calls Tryz.prog 103 #[.pointer (some ⟨b, 0, none⟩)] w fun e w' => e = .returned (.bool false) ∧ w = w' := by
  have c0 := h.blk.cell 0 rfl
  go_enter Tryz.func103, Tryz.ntmps103
  go_wp2
  go_ret
  exact ⟨rfl, rfl⟩

theorem asked_at {S : Nat → Prop} {w : World} {b : Nat} {A : Option Addr} {c : Nat} {D : Dk} (h : DiskAt S w b A c D) :
    Calls Tryz.prog 116 #[.pointer (some ⟨b, 0, none⟩)] w fun e w' => e = .returned (.int .i64 (if D.down then 10 else 0)) ∧ w = w' := by
  have c1 := h.blk.cell 1 rfl
  obtain ⟨dn, all, kept⟩ := D
  cases dn
  all_goals
    go_enter Tryz.func116, Tryz.ntmps116
    go_wp2_with (go_at_call 103; refine (none_at h).mono ?_; rintro e w' ⟨rfl, rfl⟩)
    go_ret
    exact ⟨rfl, rfl⟩

/-- WHAT a change of a disk leaves -/
def DiskDid (S : Nat → Prop) (w : World) (p : Value) (r : Dk × Int) (e : Ending) (w' : World) : Prop :=
  e = .returned (.int .i64 r.2) ∧ IsDisk (Up S w w') w' p r.1 ∧ Fr S w w'

theorem DiskAt.notB {S : Nat → Prop} {w : World} {b : Nat} {A : Option Addr} {c : Nat} {D : Dk} (h : DiskAt S w b A c D) : ¬ IsB w b := h.blk.notB (by decide)

/-- nothing was done -/
theorem DiskAt.same {S : Nat → Prop} {w : World} {b : Nat} {A : Option Addr} {c : Nat} {D : Dk} (h : DiskAt S w b A c D) : IsDisk (Up S w w) w (.pointer (some ⟨b, 0, none⟩)) D :=
  ⟨b, A, c, rfl, h.blk, h.own.mono fun _ => .inl, .inl h.inS, fun x hx => hx.elim (h.lt x) (fun h => h.2), h.cap, h.ok⟩

/-- the struct has turned, and there are new blocks -/
theorem DiskAt.turned {S : Nat → Prop} {w w' : World} {b : Nat} {A : Option Addr} {c : Nat} {D : Dk} (h : DiskAt S w b A c D) (f : Fr S w w') {A' : Option Addr} {c' : Nat} {D' : Dk}
    (hb : Blk w' b 159 #[.bool true, .bool D'.down, .slice A' D'.all.length c', .int .i64 (D'.kept : Int)]) (ho : Own (Up S w w') w' A' D'.all) (hc : D'.all.length ≤ c') (hok : D'.ok) :
    IsDisk (Up S w w') w' (.pointer (some ⟨b, 0, none⟩)) D' :=
  ⟨b, A', c', rfl, hb, ho, .inl h.inS, fun x hx => hx.elim (fun hx => Nat.lt_of_lt_of_le (h.lt x hx) f.size) (fun h => h.2), hc, hok⟩

theorem DiskAt.below {S : Nat → Prop} {w w1 : World} {b : Nat} {A : Option Addr} {c : Nat} {D : Dk} (h : DiskAt S w b A c D) (hb : Below w.heap.size w w1) : DiskAt S w1 b A c D :=
  h.fr (S' := Non) (Fr.of_below hb) (fun _ _ h => h.elim)

theorem DiskAt.drew {S : Nat → Prop} {w : World} {b : Nat} {A : Option Addr} {c : Nat} {D : Dk} (h : DiskAt S w b A c D) : DiskAt S w.drew b A c D := ⟨h.blk, h.own, h.inS, h.lt, h.cap, h.ok⟩

theorem append_B {S : Nat → Prop} {w : World} {b : Nat} {A : Option Addr} {c : Nat} {D : Dk} (h : DiskAt S w b A c D) (B : Option Addr) (l : List UInt8) (cb : Nat) (hl : l.length ≤ 70368744177664) (hr : Rd S w B l) :
    Calls Tryz.prog 107 #[.pointer (some ⟨b, 0, none⟩), .slice B l.length cb] w (DiskDid S w (.pointer (some ⟨b, 0, none⟩)) (D.append l)) := by
  have hok' := Dk.ok_append h.ok l
  obtain ⟨dn, all, kept⟩ := D
  obtain ⟨c0, c1, c2, c3, z1, z2, z3, hb, hcap, hk, hall⟩ := h.facts
  obtain ⟨i, hi, hz, hs, hby⟩ := info_parts info_u8
  cases dn
  · by_cases hf : 4194304 < all.length + l.length
    · have e : (Dk.append ⟨false, all, kept⟩ l) = (⟨false, all, kept⟩, 7) := by simp [Dk.append, hf]
      have H := Lib.hid e
      clear e hok'
      go_enter Tryz.func107, Tryz.ntmps107
      go_wp2_with (go_at_call 116; refine (asked_at h).mono ?_; rintro e w' ⟨rfl, rfl⟩)
      go_ret
      rw [H.out]
      exact ⟨rfl, h.same, Fr.refl _ _⟩
    · have e : (Dk.append ⟨false, all, kept⟩ l) = (⟨false, all ++ l, kept⟩, 0) := by simp [Dk.append, hf]
      have H := Lib.hid e
      rw [e] at hok'
      clear e
      rcases Nat.eq_zero_or_pos l.length with h0 | h0
      · obtain rfl := List.eq_nil_of_length_eq_zero h0
        clear h0 hf hl
        have hcz := run_copy_zero (P := Tryz.prog) 30 3 i Tryz.underlying30 hi A B 0 cb
        show Calls _ _ #[_, .slice B 0 cb] w _
        go_enter Tryz.func107, Tryz.ntmps107
        go_wp2_with (first
          | (go_at_call 116; refine (asked_at h).mono ?_; rintro e w' ⟨rfl, rfl⟩)
          | (go_at_call 149; refine (grow_zero A all.length _ (by omega)).mono ?_; rintro e w' ⟨rfl, rfl⟩))
        go_ret
        rw [H.out]
        have F0 : Fr S w (w.setCell ⟨b, 2, none⟩ (.slice A all.length all.length)) := (Fr.refl S w).setCell (p := ⟨b, 2, none⟩) (.inl h.inS) h.notB _
        exact ⟨rfl, h.turned F0 (by simpa using h.blk.set 2 _) (by simpa using (h.own.fr F0).mono fun _ => .inl) (by simp) hok', F0⟩
      · go_enter Tryz.func107, Tryz.ntmps107
        go_wp2_with (first
          | (go_at_call 116; refine (asked_at h).mono ?_; rintro e w' ⟨rfl, rfl⟩)
          | (with_reducible refine wpList_copyB rfl (.tmp 49) (.tmp 50) 30 rfl i Tryz.underlying30 hi hs _ _ _ rfl w.heap.size all.length cur ?fr S B _ _ l rfl rfl ?hr ?hX ?hdl ?hfit ?_)
          | (go_at_call 149; refine (grow_B S A all l.length _ (h.own.rd S) h0 (by omega)).mono ?_; rintro e w' ⟨cg, cur, rfl, hc1, hc2, hcs, hct, rfl⟩))
        all_goals have F0 : Fr S w (((w.setCell ⟨b, 2, none⟩ (.slice (some ⟨w.heap.size, 0, none⟩) (all.length + l.length) cg)).alloc (.cells cur TB)).drew) := (((Fr.refl S w).setCell (p := ⟨b, 2, none⟩) (.inl h.inS) h.notB _).alloc _).drew
        case hr => exact hr.fr F0
        case hdl => rfl
        case hfit => omega
        case fr => exact (Blk.new' _ TB cur (by simp)).drew
        go_ret
        rw [H.out]
        have e2 := List.append_assoc (all.map byteV) (l.map byteV) (cur.toList.drop (all.length + l.length))
        have hrow := setRow_heap _ w.heap.size cur (all.map byteV ++ (l.map byteV ++ cur.toList.drop (all.length + l.length))).toArray TB (0, 0) ((Blk.new' (w.setCell ⟨b, 2, none⟩ (.slice (some ⟨w.heap.size, 0, none⟩) (all.length + l.length) cg)) TB cur (by simp)).drew)
        have F1 := F0.setRow w.heap.size (Nat.le_refl _) (all.map byteV ++ (l.map byteV ++ cur.toList.drop (all.length + l.length))).toArray
        refine ⟨rfl, h.turned F1 ?_ (Own.of_cells _ hrow (.inr ⟨Nat.le_refl _, by simp [World.setRow]⟩) ?_) (by simp; omega) hok', F1⟩
        · exact ((by simpa using (((h.blk.set 2 _).alloc _).drew).setRow _ _ (by omega)))
        · rw [← e2, List.toList_toArray, ← List.map_append, List.take_append_of_le_length (by simp), List.take_of_length_le (by simp)]
  · have e : (Dk.append ⟨true, all, kept⟩ l) = (⟨true, all, kept⟩, 10) := by simp [Dk.append]
    have H := Lib.hid e
    clear e hok'
    go_enter Tryz.func107, Tryz.ntmps107
    go_wp2_with (go_at_call 116; refine (asked_at h).mono ?_; rintro e w' ⟨rfl, rfl⟩)
    go_ret
    rw [H.out]
    exact ⟨rfl, h.same, Fr.refl _ _⟩

theorem sync_B {S : Nat → Prop} {w : World} {b : Nat} {A : Option Addr} {c : Nat} {D : Dk} (h : DiskAt S w b A c D) :
    Calls Tryz.prog 109 #[.pointer (some ⟨b, 0, none⟩)] w (DiskDid S w (.pointer (some ⟨b, 0, none⟩)) D.sync) := by
  have hok' := Dk.ok_sync h.ok
  obtain ⟨dn, all, kept⟩ := D
  obtain ⟨c0, c1, c2, c3, z1, z2, z3, hb, hcap, hk, hall⟩ := h.facts
  cases dn
  all_goals
    go_enter Tryz.func109, Tryz.ntmps109
    go_wp2_with (go_at_call 116; refine (asked_at h).mono ?_; rintro e w' ⟨rfl, rfl⟩)
    go_ret
  · have F0 : Fr S w (w.setCell ⟨b, 3, none⟩ (.int .i64 (all.length : Int))) := (Fr.refl S w).setCell (p := ⟨b, 3, none⟩) (.inl h.inS) h.notB _
    exact ⟨rfl, h.turned F0 (D' := ⟨false, all, all.length⟩) (by simpa using h.blk.set 3 _) ((h.own.fr F0).mono fun _ => .inl) hcap hok', F0⟩
  · exact ⟨rfl, h.same, Fr.refl _ _⟩

theorem restart_B {S : Nat → Prop} {w : World} {b : Nat} {A : Option Addr} {c : Nat} {D : Dk} (h : DiskAt S w b A c D) :
    Calls Tryz.prog 128 #[.pointer (some ⟨b, 0, none⟩)] w (DiskDid S w (.pointer (some ⟨b, 0, none⟩)) D.restart) := by
  have hok' := Dk.ok_restart h.ok
  obtain ⟨dn, all, kept⟩ := D
  obtain ⟨c0, c1, c2, c3, z1, z2, z3, hb, hcap, hk, hall⟩ := h.facts
  cases dn
  all_goals
    go_enter Tryz.func128, Tryz.ntmps128
    go_wp2_with (go_at_call 103; refine (none_at h).mono ?_; rintro e w' ⟨rfl, rfl⟩)
    go_ret
  · exact ⟨rfl, h.same, Fr.refl _ _⟩
  · have F0 : Fr S w ((w.setCell ⟨b, 1, none⟩ (.bool false)).setCell ⟨b, 3, none⟩ (.int .i64 (all.length : Int))) :=
      ((Fr.refl S w).setCell (p := ⟨b, 1, none⟩) (.inl h.inS) h.notB _).setCell (p := ⟨b, 3, none⟩) (.inl h.inS) h.notB _
    exact ⟨rfl, h.turned F0 (D' := ⟨false, all, all.length⟩) (by simpa using (h.blk.set 1 _).set 3 _) ((h.own.fr F0).mono fun _ => .inl) hcap hok', F0⟩

/-- WHAT Read leaves -/
def DiskRead (w : World) (D : Dk) (e : Ending) (w' : World) : Prop :=
  ∃ A' c', e = .returned (.tuple #[.slice A' D.read.1.length c', .int .i64 D.read.2]) ∧ Own (New w) w' A' D.read.1 ∧ D.read.1.length ≤ c' ∧ c' ≤ maxLen ∧ Below w.heap.size w w'

theorem read_B {S : Nat → Prop} {w : World} {b : Nat} {A : Option Addr} {c : Nat} {D : Dk} (h : DiskAt S w b A c D) :
    Calls Tryz.prog 157 #[.pointer (some ⟨b, 0, none⟩)] w (DiskRead w D) := by
  obtain ⟨dn, all, kept⟩ := D
  obtain ⟨c0, c1, c2, c3, z1, z2, z3, hb, hcap, hk, hall⟩ := h.facts
  cases dn
  all_goals
    go_enter Tryz.func157, Tryz.ntmps157
    go_wp2_with (first
      | (go_at_call 116; refine (asked_at h).mono ?_; rintro e w' ⟨rfl, rfl⟩)
      | (go_at_call 56; refine (clone_B S A all c _ (h.own.rd S) (by omega)).mono ?_; rintro e w' ⟨A', c', rfl, hor, hc', hm', hbel⟩; have ho := Own.of_row' hor))
    go_ret2
  · exact ⟨_, _, rfl, ho, hc', hm', hbel⟩
  · exact ⟨none, 0, rfl, Own.nil _ _ _, Nat.le_refl _, Nat.zero_le _, Below.refl _ _⟩

theorem cut_B {S : Nat → Prop} {w : World} {b : Nat} {A : Option Addr} {c : Nat} {D : Dk} (h : DiskAt S w b A c D) (n : Int) :
    Calls Tryz.prog 179 #[.pointer (some ⟨b, 0, none⟩), .int .i64 n] w (DiskDid S w (.pointer (some ⟨b, 0, none⟩)) (D.cut n)) := by
  have hok' := Dk.ok_cut h.ok n
  obtain ⟨dn, all, kept⟩ := D
  obtain ⟨c0, c1, c2, c3, z1, z2, z3, hb, hcap, hk, hall⟩ := h.facts
  cases dn
  · by_cases hn : n < 0 ∨ (all.length : Int) < n
    · have e : (Dk.cut ⟨false, all, kept⟩ n) = (⟨false, all, kept⟩, 2) := by simp [Dk.cut, hn]
      have H := Lib.hid e
      clear e hok'
      go_enter Tryz.func179, Tryz.ntmps179
      go_wp2_with (go_at_call 116; refine (asked_at h).mono ?_; rintro e w' ⟨rfl, rfl⟩)
      all_goals
        go_ret
        rw [H.out]
        exact ⟨rfl, h.same, Fr.refl _ _⟩
    · have e : (Dk.cut ⟨false, all, kept⟩ n) = (⟨false, all.take n.toNat, n.toNat⟩, 0) := by simp [Dk.cut, hn]
      have H := Lib.hid e
      rw [e] at hok'
      clear e
      obtain ⟨m, rfl⟩ : ∃ m : Nat, n = m := ⟨n.toNat, by omega⟩
      rw [Int.toNat_natCast] at H hok'
      have hm : m ≤ all.length := by omega
      go_enter Tryz.func179, Tryz.ntmps179
      go_wp2_with (go_at_call 116; refine (asked_at h).mono ?_; rintro e w' ⟨rfl, rfl⟩)
      go_ret
      rw [H.out]
      have F0 : Fr S w ((w.setCell ⟨b, 2, none⟩ (.slice A m m)).setCell ⟨b, 3, none⟩ (.int .i64 (m : Int))) :=
        ((Fr.refl S w).setCell (p := ⟨b, 2, none⟩) (.inl h.inS) h.notB _).setCell (p := ⟨b, 3, none⟩) (.inl h.inS) h.notB _
      have em : (all.take m).length = m := by rw [List.length_take]; omega
      exact ⟨rfl, h.turned F0 (c' := m) (D' := ⟨false, all.take m, m⟩) (by simpa [em] using (h.blk.set 2 (.slice A m m)).set 3 (.int .i64 (m : Int))) (((h.own.fr F0).take m).mono fun _ => .inl) (by simp only; omega) hok', F0⟩
  · have e : (Dk.cut ⟨true, all, kept⟩ n) = (⟨true, all, kept⟩, 10) := by simp [Dk.cut]
    have H := Lib.hid e
    clear e hok'
    go_enter Tryz.func179, Tryz.ntmps179
    go_wp2_with (go_at_call 116; refine (asked_at h).mono ?_; rintro e w' ⟨rfl, rfl⟩)
    go_ret
    rw [H.out]
    exact ⟨rfl, h.same, Fr.refl _ _⟩

theorem swap_B {S : Nat → Prop} {w : World} {b : Nat} {A : Option Addr} {c : Nat} {D : Dk} (h : DiskAt S w b A c D) (B : Option Addr) (l : List UInt8) (cb : Nat) (hl : l.length ≤ 70368744177664) (hr : Rd S w B l) :
    Calls Tryz.prog 61 #[.pointer (some ⟨b, 0, none⟩), .slice B l.length cb] w (DiskDid S w (.pointer (some ⟨b, 0, none⟩)) (D.swap l)) := by
  have hok' := Dk.ok_swap h.ok l
  obtain ⟨dn, all, kept⟩ := D
  obtain ⟨c0, c1, c2, c3, z1, z2, z3, hb, hcap, hk, hall⟩ := h.facts
  cases dn
  · by_cases hn : 4194304 < l.length
    · have e : (Dk.swap ⟨false, all, kept⟩ l) = (⟨false, all, kept⟩, 7) := by simp [Dk.swap, hn]
      have H := Lib.hid e
      clear e hok'
      go_enter Tryz.func61, Tryz.ntmps61
      go_wp2_with (go_at_call 116; refine (asked_at h).mono ?_; rintro e w' ⟨rfl, rfl⟩)
      go_ret
      rw [H.out]
      exact ⟨rfl, h.same, Fr.refl _ _⟩
    · have e : (Dk.swap ⟨false, all, kept⟩ l) = (⟨false, l, l.length⟩, 0) := by simp [Dk.swap, hn]
      have H := Lib.hid e
      rw [e] at hok'
      clear e
      go_enter Tryz.func61, Tryz.ntmps61
      go_wp2_with (first
        | (go_at_call 116; refine (asked_at h).mono ?_; rintro e w' ⟨rfl, rfl⟩)
        | (go_at_call 56; refine (clone_B S B l cb _ hr (by omega)).mono ?_; rintro e w1 ⟨A', c', rfl, hor, hc', hm', hbel⟩; have ho := Own.of_row' hor; have h1 := h.below hbel; obtain ⟨d0, d1, d2, d3, y1, y2, y3, hb1, -⟩ := h1.facts))
      go_ret
      rw [H.out]
      have F0 : Fr S w ((w1.setCell ⟨b, 2, none⟩ (.slice A' l.length c')).setCell ⟨b, 3, none⟩ (.int .i64 (l.length : Int))) :=
        ((Fr.of_below hbel).setCell (p := ⟨b, 2, none⟩) (.inl h.inS) h.notB _).setCell (p := ⟨b, 3, none⟩) (.inl h.inS) h.notB _
      have F1 : Fr S w1 ((w1.setCell ⟨b, 2, none⟩ (.slice A' l.length c')).setCell ⟨b, 3, none⟩ (.int .i64 (l.length : Int))) :=
        ((Fr.refl S w1).setCell (p := ⟨b, 2, none⟩) (.inl h.inS) h1.notB _).setCell (p := ⟨b, 3, none⟩) (.inl h.inS) h1.notB _
      exact ⟨rfl, h.turned F0 (D' := ⟨false, l, l.length⟩) (by simpa using (h1.blk.set 2 _).set 3 _) ((ho.fr F1).up fun x hx => .inr hx) hc' hok', F0⟩
  · have e : (Dk.swap ⟨true, all, kept⟩ l) = (⟨true, all, kept⟩, 10) := by simp [Dk.swap]
    have H := Lib.hid e
    clear e hok'
    go_enter Tryz.func61, Tryz.ntmps61
    go_wp2_with (go_at_call 116; refine (asked_at h).mono ?_; rintro e w' ⟨rfl, rfl⟩)
    go_ret
    rw [H.out]
    exact ⟨rfl, h.same, Fr.refl _ _⟩

theorem new_B (w : World) : Calls Tryz.prog 47 #[] w fun e w' => ∃ p, e = .returned p ∧ IsDisk (Nw w w') w' p Dk.new ∧ Below w.heap.size w w' := by
  go_enter Tryz.func47, Tryz.ntmps47
  go_wp2
  go_ret
  exact ⟨_, rfl, ⟨_, _, _, rfl, Blk.new _ _ _, Own.nil _ _ _, ⟨Nat.le_refl _, by simp⟩, fun x hx => hx.2, Nat.le_refl _, Dk.ok_new⟩, (Below.refl _ _).alloc (Nat.le_refl _) _⟩

/-- WHAT Kept leaves -/
def BytesNew (w : World) (l : List UInt8) (e : Ending) (w' : World) : Prop :=
  ∃ A' c', e = .returned (.slice A' l.length c') ∧ Own (New w) w' A' l ∧ l.length ≤ c' ∧ c' ≤ maxLen ∧ Below w.heap.size w w'

end Go.Proofs.YtediidajdpdeiaaGreatDoor
