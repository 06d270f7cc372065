/- The functions of package crc: the walks. -/
import Derived.Test.YtediidajdpdeiaaDoorStr
import Derived.Test.YtediidajdpdeiaaDoorRegion
import Derived.Test.YtediidajdpdeiaaDoorCrcM
import Derived.Lib.Hide
namespace Go.Proofs.YtediidajdpdeiaaDoor
open Go.RowKit CrcM
set_option maxRecDepth 100000

/-- the table of half bytes is as the program's text lays it -/
def HalfAt (w : World) : Prop := ∀ i, i < 16 → w.cell? ⟨0, i, none⟩ = some (.int .u32 ((half i).toNat : Int))

theorem HalfAt.below {w w' : World} {B : Nat} (h : HalfAt w) (hb : Below B w w') (h0 : 0 < B) : HalfAt w' := fun i hi => (hb.cell (p := ⟨0, i, none⟩) h0).trans (h i hi)
theorem HalfAt.lt {w : World} (h : HalfAt w) : 0 < w.heap.size := by
  have := cell_lt (h 0 (by omega))
  simpa using this

/-- byte slices in a row -/
def PartsAt (w : World) (P : Option Addr) (parts : List (List UInt8)) : Prop := ∀ j l, parts[j]? = some l → ∃ ad A c, P = some ad ∧ w.cell? (ad.add j) = some (.slice A l.length c) ∧ l.length ≤ maxLen ∧ Rd Non w A l

theorem ofInt32 (n : Nat) : BitVec.ofInt 32 (n : Int) = BitVec.ofNat 32 n := BitVec.ofInt_natCast ..
theorem wrap_u32 (n : Nat) (h : n < 4294967296) : IntKind.u32.wrap (n : Int) = (n : Int) := by
  simp [IntKind.wrap, IntKind.signed, IntKind.bits]; omega
theorem bxor_nat (a b : BitVec 32) : bits .xor .u32 (a.toNat : Int) (b.toNat : Int) = ((a ^^^ b).toNat : Int) := by
  have h := (a ^^^ b).isLt
  have e1 : BitVec.ofInt IntKind.u32.bits (a.toNat : Int) = a := by
    show BitVec.ofInt 32 _ = _
    rw [ofInt32, BitVec.ofNat_toNat, BitVec.setWidth_eq]
  have e2 : BitVec.ofInt IntKind.u32.bits (b.toNat : Int) = b := by
    show BitVec.ofInt 32 _ = _
    rw [ofInt32, BitVec.ofNat_toNat, BitVec.setWidth_eq]
  unfold bits
  simp only [e1, e2]
  exact wrap_u32 _ h
theorem byte32 (x : UInt8) : (BitVec.ofNat 32 x.toNat).toNat = x.toNat := by
  have := x.toNat_lt
  rw [BitVec.toNat_ofNat]; omega
theorem bxor_byte (a : BitVec 32) (x : UInt8) : bits .xor .u32 (a.toNat : Int) (x.toNat : Int) = ((a ^^^ BitVec.ofNat 32 x.toNat).toNat : Int) := by
  rw [← bxor_nat, byte32]
theorem bstep (a : BitVec 32) : bits .xor .u32 ((a.toNat : Int) / 16) ((half (a.toNat % 16)).toNat : Int) = ((bit4 a).toNat : Int) := by
  rw [bit4_table, ← bxor_nat, BitVec.toNat_ushiftRight, Nat.shiftRight_eq_div_pow]
  rfl
theorem band15 (a : BitVec 32) : bits .and .u32 (a.toNat : Int) 15 = ((a.toNat % 16 : Nat) : Int) := by
  have e1 : BitVec.ofInt IntKind.u32.bits (a.toNat : Int) = a := by
    show BitVec.ofInt 32 _ = _
    rw [ofInt32, BitVec.ofNat_toNat, BitVec.setWidth_eq]
  have e2 : BitVec.ofInt IntKind.u32.bits 15 = 15#32 := rfl
  have h := Nat.mod_lt a.toNat (show 0 < 16 by omega)
  unfold bits
  simp only [e1, e2]
  have e3 : (a &&& 15#32 : BitVec 32).toNat = a.toNat % 16 := by
    rw [and15, BitVec.toNat_ofNat]; omega
  have := wrap_u32 (a.toNat % 16) (by omega)
  rw [← this]
  congr 2

theorem ret_int {k : IntKind} {a b : Int} (h : a = b) : Ending.returned (.int k a) = Ending.returned (.int k b) := by rw [h]
theorem bnot (a : BitVec 32) : bits .xor .u32 IntKind.u32.max (a.toNat : Int) = ((~~~ a).toNat : Int) := by
  have e : IntKind.u32.max = ((BitVec.allOnes 32).toNat : Int) := rfl
  rw [e, bxor_nat, BitVec.allOnes_xor]

set_option maxHeartbeats 1000000 in
theorem sum_B (w : World) (hh : HalfAt w) (P : Option Addr) (parts : List (List UInt8)) (pc : Nat) (hp : PartsAt w P parts) (hlen : parts.length ≤ maxLen) :
    Calls Tryd.prog 24 #[.slice P parts.length pc] w fun e w' => e = .returned (.int .u32 ((sum parts.flatten).toNat : Int)) ∧ w = w' := by
  unfold maxLen at hlen
  go_enter Tryd.func24, Tryd.ntmps24
  go_wp2
  go_loop [3, 10] (fun r i => ∃ k : Nat, k ≤ parts.length ∧ i = .int .i64 k ∧ r = .int .u32 ((reg (BitVec.allOnes 32) (parts.take k).flatten).toNat : Int)) (fun _ i => parts.length - (intOf i).toNat)
  case atStart => exact ⟨0, by omega, rfl, by simp [reg]⟩
  case round =>
    obtain ⟨k, hk, rfl, rfl⟩ := hrel
    by_cases hlt : k < parts.length
    · obtain ⟨l, hl⟩ : ∃ l, parts[k]? = some l := ⟨_, List.getElem?_eq_getElem hlt⟩
      obtain ⟨ad, A, c, rfl, hc, hll, hr⟩ := hp k l hl
      have HS := Lib.hid (show (parts.take (k + 1)).flatten = (parts.take k).flatten ++ l by rw [List.take_add_one, hl]; simp)
      generalize (parts.take k).flatten = pre at *
      unfold maxLen at hll
      clear hl
      go_wp2
      go_loop [3, 16] (fun r i => ∃ j : Nat, j ≤ l.length ∧ i = .int .i64 j ∧ r = .int .u32 ((reg (BitVec.allOnes 32) (pre ++ l.take j)).toNat : Int)) (fun _ i => l.length - (intOf i).toNat)
      case atStart => exact ⟨0, by omega, rfl, by simp⟩
      case round =>
        obtain ⟨j, hj, rfl, rfl⟩ := hrel
        by_cases hlj : j < l.length
        · obtain ⟨x, hx⟩ : ∃ x, l[j]? = some x := ⟨_, List.getElem?_eq_getElem hlj⟩
          obtain ⟨bd, rfl, hcx, _⟩ := hr j x hx
          have HT := Lib.hid (show reg (BitVec.allOnes 32) (pre ++ l.take (j + 1)) = upd (reg (BitVec.allOnes 32) (pre ++ l.take j)) x by
            rw [List.take_add_one, hx]; simp [reg, List.foldl_append])
          generalize reg (BitVec.allOnes 32) (pre ++ l.take j) = R at *
          unfold byteV at hcx
          clear hx
          have hxl := x.toNat_lt
          have e1 : bits .xor .u32 (R.toNat : Int) (x.toNat : Int) = ((R ^^^ BitVec.ofNat 32 x.toNat).toNat : Int) := bxor_byte R x
          obtain ⟨R1, hR1⟩ : ∃ R1, R1 = R ^^^ BitVec.ofNat 32 x.toNat := ⟨_, rfl⟩
          rw [← hR1] at e1
          have e2 := band15 R1
          have e3 := hh (R1.toNat % 16) (Nat.mod_lt _ (by omega))
          have e4 := bstep R1
          have e5 := band15 (bit4 R1)
          have e6 := hh ((bit4 R1).toNat % 16) (Nat.mod_lt _ (by omega))
          have e7 := bstep (bit4 R1)
          have b1 := Nat.mod_lt R1.toNat (show 0 < 16 by omega)
          have b2 := Nat.mod_lt (bit4 R1).toNat (show 0 < 16 by omega)
          have HR := Lib.hid hR1
          clear hR1
          go_wp2
          go_round
          case rel => exact ⟨j + 1, by omega, by go_num, by rw [HT.out, HR.out]; rfl⟩
          case measure => simp [intOf]; omega
        · obtain rfl : j = l.length := by omega
          go_wp2
          go_round
          case rel => exact ⟨k + 1, by omega, by go_num, by rw [HS.out, List.take_length]⟩
          case measure => simp [intOf]; omega
    · obtain rfl : k = parts.length := by omega
      have g1 : IntKind.u32.signed = false := rfl
      go_wp2
      go_ret
      exact ⟨ret_int (bnot _), rfl⟩
end Go.Proofs.YtediidajdpdeiaaDoor
