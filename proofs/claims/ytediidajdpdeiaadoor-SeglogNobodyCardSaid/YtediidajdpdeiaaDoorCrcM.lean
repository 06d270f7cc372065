/- The sum of bytes, by half a byte and bit by bit: no program is in sight. -/
namespace Go.Proofs.YtediidajdpdeiaaDoor.CrcM

/-- one bit of the register -/
def bit1 (r : BitVec 32) : BitVec 32 := (r >>> 1) ^^^ (if r.getLsbD 0 then 0xedb88320#32 else 0#32)
def bit4 (r : BitVec 32) : BitVec 32 := bit1 (bit1 (bit1 (bit1 r)))
def bit8 (r : BitVec 32) : BitVec 32 := bit4 (bit4 r)
def upd (r : BitVec 32) (x : UInt8) : BitVec 32 := bit8 (r ^^^ BitVec.ofNat 32 x.toNat)
def reg (r : BitVec 32) (l : List UInt8) : BitVec 32 := l.foldl upd r
def sum (l : List UInt8) : BitVec 32 := ~~~ (reg (BitVec.allOnes 32) l)

def halfN : List Nat := [0x00000000, 0x1db71064, 0x3b6e20c8, 0x26d930ac, 0x76dc4190, 0x6b6b51f4, 0x4db26158, 0x5005713c, 0xedb88320, 0xf00f9344, 0xd6d6a3e8, 0xcb61b38c, 0x9b64c2b0, 0x86d3d2d4, 0xa00ae278, 0xbdbdf21c]
def half (n : Nat) : BitVec 32 := BitVec.ofNat 32 (halfN.getD n 0)

theorem bit1_xor (x y : BitVec 32) : bit1 (x ^^^ y) = bit1 x ^^^ bit1 y := by
  unfold bit1
  rw [BitVec.ushiftRight_xor_distrib, BitVec.getLsbD_xor]
  have c : ∀ a b p : BitVec 32, a ^^^ b ^^^ p = a ^^^ (b ^^^ p) := fun a b p => BitVec.xor_assoc a b p
  have d : ∀ a b p : BitVec 32, a ^^^ b ^^^ p = a ^^^ p ^^^ b := fun a b p => by rw [c, c, BitVec.xor_comm b p]
  have e : ∀ a b p : BitVec 32, a ^^^ p ^^^ (b ^^^ p) = a ^^^ b := fun a b p => by rw [BitVec.xor_comm b p, ← BitVec.xor_assoc, c a p p, BitVec.xor_self, BitVec.xor_zero]
  cases x.getLsbD 0 <;> cases y.getLsbD 0 <;> simp only [Bool.xor_false, Bool.xor_true, Bool.not_true, Bool.not_false, Bool.false_eq_true, if_true, if_false, BitVec.xor_zero]
  · rw [c]
  · rw [d]
  · rw [e]

theorem bit4_xor (x y : BitVec 32) : bit4 (x ^^^ y) = bit4 x ^^^ bit4 y := by unfold bit4; simp only [bit1_xor]
theorem bit8_xor (x y : BitVec 32) : bit8 (x ^^^ y) = bit8 x ^^^ bit8 y := by unfold bit8; simp only [bit4_xor]

theorem bit1_even (x : BitVec 32) (h : x.getLsbD 0 = false) : bit1 x = x >>> 1 := by unfold bit1; rw [h]; simp

theorem bit4_hi (x : BitVec 32) (h : ∀ i, i < 4 → x.getLsbD i = false) : bit4 x = x >>> 4 := by
  unfold bit4
  have g : ∀ k, k < 4 → (x >>> k).getLsbD 0 = false := fun k hk => by rw [BitVec.getLsbD_ushiftRight]; exact h k hk
  rw [bit1_even x (h 0 (by omega)), bit1_even (x >>> 1) (g 1 (by omega)),
    bit1_even (x >>> 1 >>> 1) (by rw [← BitVec.shiftRight_add]; exact g 2 (by omega)), bit1_even (x >>> 1 >>> 1 >>> 1) (by rw [← BitVec.shiftRight_add, ← BitVec.shiftRight_add]; exact g 3 (by omega))]
  simp only [← BitVec.shiftRight_add]

theorem bit4_lo : ∀ n : Fin 16, bit4 (BitVec.ofNat 32 n.val) = half n.val := by decide +kernel

theorem split4 (r : BitVec 32) : r = (r &&& 0xfffffff0#32) ^^^ (r &&& 15#32) := by
  ext i hi
  have h : (0xfffffff0#32).getLsbD i = !(15#32).getLsbD i := by
    have : ∀ i : Fin 32, (0xfffffff0#32).getLsbD i.val = !(15#32).getLsbD i.val := by decide +kernel
    exact this ⟨i, hi⟩
  simp only [BitVec.getLsbD_eq_getElem hi] at h
  simp only [BitVec.getElem_xor, BitVec.getElem_and, h]
  cases r[i] <;> cases (15#32)[i] <;> rfl

theorem and15 (r : BitVec 32) : r &&& 15#32 = BitVec.ofNat 32 (r.toNat % 16) := by
  apply BitVec.eq_of_toNat_eq
  have e : (15#32).toNat = 2 ^ 4 - 1 := rfl
  rw [BitVec.toNat_and, e, Nat.and_two_pow_sub_one_eq_mod, BitVec.toNat_ofNat]
  have := Nat.mod_lt r.toNat (show 0 < 16 by omega)
  omega

theorem bit4_table (r : BitVec 32) : bit4 r = (r >>> 4) ^^^ half (r.toNat % 16) := by
  conv => lhs; rw [split4 r, bit4_xor]
  congr 1
  · rw [bit4_hi]
    · ext i hi
      simp only [BitVec.getElem_ushiftRight, BitVec.getLsbD_and]
      by_cases h : 4 + i < 32
      · have : ∀ i : Fin 32, 4 ≤ i.val → (0xfffffff0#32).getLsbD i.val = true := by decide +kernel
        rw [this ⟨4 + i, h⟩ (by simp)]; simp
      · rw [BitVec.getLsbD_of_ge r (4 + i) (by omega)]; simp
    · intro i hi
      have : ∀ i : Fin 4, (0xfffffff0#32).getLsbD i.val = false := by decide +kernel
      rw [BitVec.getLsbD_and, this ⟨i, hi⟩]; simp
  · rw [and15]
    exact bit4_lo ⟨r.toNat % 16, Nat.mod_lt _ (by omega)⟩

/-- the document's loop: bit k of a byte -/
def bitDoc (r : BitVec 32) (b : Nat) : BitVec 32 := if (r ^^^ BitVec.ofNat 32 b).getLsbD 0 then (r >>> 1) ^^^ 0xedb88320#32 else r >>> 1

theorem bitDoc_eq (r : BitVec 32) (b : Nat) : bitDoc r b ^^^ BitVec.ofNat 32 (b / 2) = bit1 (r ^^^ BitVec.ofNat 32 b) ∨ 2 ^ 32 ≤ b := by
  by_cases hb : 2 ^ 32 ≤ b
  · exact .inr hb
  · left
    have e : BitVec.ofNat 32 (b / 2) = BitVec.ofNat 32 b >>> 1 := by
      apply BitVec.eq_of_toNat_eq
      rw [BitVec.toNat_ushiftRight, BitVec.toNat_ofNat, BitVec.toNat_ofNat, Nat.shiftRight_eq_div_pow, Nat.mod_eq_of_lt (a := b / 2) (by omega), Nat.mod_eq_of_lt (a := b) (by omega)]
    unfold bitDoc bit1
    rw [BitVec.ushiftRight_xor_distrib, e]
    split
    · simp only [BitVec.xor_assoc]; congr 1; rw [BitVec.xor_comm]
    · simp

/-- from a bit's register to the next: what stands behind k bits of the document's loop -/
theorem docRound (r : BitVec 32) (b : Nat) (hb : b < 2 ^ 32) : bitDoc r b = bit1 (r ^^^ BitVec.ofNat 32 b) ^^^ BitVec.ofNat 32 (b / 2) := by
  rcases bitDoc_eq r b with h | h
  · rw [← h, BitVec.xor_assoc, BitVec.xor_self, BitVec.xor_zero]
  · omega

def docLoop : Nat → BitVec 32 → Nat → BitVec 32
  | 0, r, _ => r
  | k + 1, r, b => docLoop k (bitDoc r b) (b / 2)

def iter1 : Nat → BitVec 32 → BitVec 32
  | 0, r => r
  | k + 1, r => iter1 k (bit1 r)

theorem docLoop_eq : ∀ (k : Nat) (r : BitVec 32) (b : Nat), b < 2 ^ 32 → docLoop k r b = iter1 k (r ^^^ BitVec.ofNat 32 b) ^^^ BitVec.ofNat 32 (b / 2 ^ k)
  | 0, r, b, _ => by simp [docLoop, iter1, BitVec.xor_assoc]
  | k + 1, r, b, hb => by
    have e : bit1 (r ^^^ BitVec.ofNat 32 b) ^^^ BitVec.ofNat 32 (b / 2) ^^^ BitVec.ofNat 32 (b / 2) = bit1 (r ^^^ BitVec.ofNat 32 b) := by
      rw [BitVec.xor_assoc, BitVec.xor_self, BitVec.xor_zero]
    rw [docLoop, docLoop_eq k _ _ (by omega), docRound r b hb, iter1, e, Nat.div_div_eq_div_mul, Nat.pow_succ, Nat.mul_comm 2]

theorem doc8 (r : BitVec 32) (x : UInt8) : docLoop 8 r x.toNat = upd r x := by
  have hx := x.toNat_lt
  rw [docLoop_eq 8 r _ (by omega)]
  have : x.toNat / 2 ^ 8 = 0 := by omega
  rw [this]
  simp [iter1, upd, bit8, bit4]

/-! one bit that is turned is told -/
theorem bit1_inj {x y : BitVec 32} (h : bit1 x = bit1 y) : x = y := by
  have h31 : ∀ z : BitVec 32, (bit1 z).getLsbD 31 = z.getLsbD 0 := by
    intro z
    unfold bit1
    rw [BitVec.getLsbD_xor]
    cases hz : z.getLsbD 0 <;> simp
  have h0 : x.getLsbD 0 = y.getLsbD 0 := by rw [← h31 x, ← h31 y, h]
  have hs : x >>> 1 = y >>> 1 := by
    unfold bit1 at h
    rw [h0] at h
    have := congrArg (· ^^^ (if y.getLsbD 0 then 0xedb88320#32 else 0#32)) h
    simpa [BitVec.xor_assoc] using this
  apply BitVec.eq_of_getLsbD_eq
  intro i hi
  rcases Nat.eq_zero_or_pos i with rfl | hp
  · exact h0
  · have := congrArg (fun z => z.getLsbD (i - 1)) hs
    simp only [BitVec.getLsbD_ushiftRight] at this
    rwa [show 1 + (i - 1) = i by omega] at this

theorem bit8_inj {x y : BitVec 32} (h : bit8 x = bit8 y) : x = y := by
  unfold bit8 bit4 at h
  exact bit1_inj (bit1_inj (bit1_inj (bit1_inj (bit1_inj (bit1_inj (bit1_inj (bit1_inj h)))))))

theorem upd_inj {r r' : BitVec 32} {x : UInt8} (h : upd r x = upd r' x) : r = r' := by
  have := bit8_inj h
  have := congrArg (· ^^^ BitVec.ofNat 32 x.toNat) this
  simpa [BitVec.xor_assoc] using this

theorem upd_byte {r : BitVec 32} {x y : UInt8} (h : upd r x = upd r y) : x = y := by
  have h1 := bit8_inj h
  have h2 := congrArg (r ^^^ ·) h1
  simp only [← BitVec.xor_assoc, BitVec.xor_self, BitVec.zero_xor] at h2
  have h3 := congrArg BitVec.toNat h2
  have hx := x.toNat_lt
  have hy := y.toNat_lt
  rw [BitVec.toNat_ofNat, BitVec.toNat_ofNat, Nat.mod_eq_of_lt (by omega), Nat.mod_eq_of_lt (by omega)] at h3
  exact UInt8.toNat_inj.1 h3

theorem reg_inj : ∀ (l : List UInt8) {r r' : BitVec 32}, reg r l = reg r' l → r = r'
  | [], _, _, h => h
  | _ :: l, _, _, h => upd_inj (reg_inj l h)

theorem reg_append (r : BitVec 32) (a b : List UInt8) : reg r (a ++ b) = reg (reg r a) b := List.foldl_append

theorem sum_one {a b : List UInt8} {x y : UInt8} (h : sum (a ++ x :: b) = sum (a ++ y :: b)) : x = y := by
  unfold sum at h
  have h := congrArg (fun z => ~~~ z) h
  simp only [BitVec.not_not] at h
  rw [reg_append, reg_append] at h
  exact upd_byte (reg_inj b h)

/-- a number's four bytes, the lowest first -/
def four (n : Nat) : List UInt8 := [UInt8.ofNat (n % 256), UInt8.ofNat (n / 256 % 256), UInt8.ofNat (n / 65536 % 256), UInt8.ofNat (n / 16777216 % 256)]
/-- the number of the first four bytes -/
def num4 (l : List UInt8) : Nat := (l.getD 0 0).toNat + (l.getD 1 0).toNat * 256 + (l.getD 2 0).toNat * 65536 + (l.getD 3 0).toNat * 16777216
/-- a body's frame -/
def frame (b : List UInt8) : List UInt8 := four b.length ++ (four (sum (four b.length)).toNat ++ (four (sum b).toNat ++ b))
theorem byte_mod (n : Nat) : (UInt8.ofNat (n % 256)).toNat = n % 256 := by
  rw [UInt8.toNat_ofNat']
  exact Nat.mod_mod ..
theorem num4_four (n : Nat) (h : n < 4294967296) (l : List UInt8) : num4 (four n ++ l) = n := by
  unfold num4 four
  simp only [List.cons_append, List.getD_cons_zero, List.getD_cons_succ, byte_mod]
  omega
theorem num4_lt (l : List UInt8) : num4 l < 4294967296 := by
  unfold num4
  have h0 := (l.getD 0 0).toNat_lt
  have h1 := (l.getD 1 0).toNat_lt
  have h2 := (l.getD 2 0).toNat_lt
  have h3 := (l.getD 3 0).toNat_lt
  omega
theorem length_four (n : Nat) : (four n).length = 4 := rfl
theorem length_frame (b : List UInt8) : (frame b).length = b.length + 12 := by
  simp only [frame, List.length_append, length_four]; omega

end Go.Proofs.YtediidajdpdeiaaDoor.CrcM
