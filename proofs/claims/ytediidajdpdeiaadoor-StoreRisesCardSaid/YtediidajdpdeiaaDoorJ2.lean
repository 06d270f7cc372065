/- The document's answer for layer 2, walked; and the law's own little functions. -/
import Derived.Test.YtediidajdpdeiaaDoorJ1
import Derived.Test.YtediidajdpdeiaaDoorJ0

namespace Go.Proofs.YtediidajdpdeiaaDoor
open Go.RowKit CrcM
set_option maxRecDepth 100000

theorem few_B (w : World) (A : Option Addr) (l : List UInt8) (c n : Nat) (hr : Rd Non w A l) (hl : l.length = n) (hn : n ≤ c) (hc : c ≤ maxLen) :
    Calls Tryd.prog 22 #[.slice A n c] w (Cloned w (l.take 3000)) := by
  obtain ⟨i, hi, hz, hs, hb⟩ := info_parts info_u8
  unfold maxLen at hc
  obtain ⟨m, hm⟩ : ∃ m : Nat, m = min n 3000 := ⟨_, rfl⟩
  have hmin : ∀ w, (Builtin.min_ #[3, 3] 3 #[.int .i64 (n : Int), .int .i64 3000]).run Tryd.prog w = .ok (.int .i64 (m : Int)) w := by
    intro w
    simp only [Builtin.min_]
    simp [Builtin.min2]
    split <;> omega
  have hml : (l.take 3000).length = m := by rw [List.length_take, hl]; omega
  have q1 : m ≤ 3000 := by omega
  have q2 : (m : Int) ≤ (c : Int) := by omega
  have q0 : (0 : Int) ≤ (m : Int) := by omega
  have hr2 := hr.take 3000
  generalize l.take 3000 = lt at *
  have HM := Lib.hid hml
  clear hml hl hm
  go_enter Tryd.func22, Tryd.ntmps22
  go_wp2_with (at_builtin
               refine wpList_appB rfl (.tmp 3) (.tmp 8) 22 rfl i Tryd.underlying22 hi hz hs hb w.heap.size _ 0 [] rfl (ownsB_none w) Non A m c lt rfl HM.out (((hr2.mono (fun _ _ h => h.elim)).fr ((Fr.refl _ _).alloc _))) (by omega) (by simp) ?_
               intro v1 w1 hown hgrow hat)
  go_ret
  exact cloned_of lt (by rw [HM.out]; simpa using hown) hgrow

theorem band1 (a : BitVec 32) : bits .and .u32 (a.toNat : Int) 1 = ((a.toNat % 2 : Nat) : Int) := by
  have e1 : BitVec.ofInt IntKind.u32.bits (a.toNat : Int) = a := by
    show BitVec.ofInt 32 _ = _
    rw [ofInt32, BitVec.ofNat_toNat, BitVec.setWidth_eq]
  have e2 : BitVec.ofInt IntKind.u32.bits 1 = 1#32 := rfl
  have h := Nat.mod_lt a.toNat (show 0 < 2 by omega)
  unfold bits
  simp only [e1, e2]
  have e3 : (a &&& 1#32 : BitVec 32).toNat = a.toNat % 2 := by
    rw [BitVec.toNat_and]
    show a.toNat &&& 1 = _
    exact Nat.and_one_is_mod _
  have := wrap_u32 (a.toNat % 2) (by omega)
  rw [← e3] at this ⊢
  exact this
theorem doc_bit (R : BitVec 32) (x : UInt8) (j : Nat) : (bits .and .u32 (bits .xor .u32 (R.toNat : Int) ((x.toNat : Int) / 2 ^ j)) 1 == 1) = (R ^^^ BitVec.ofNat 32 (x.toNat / 2 ^ j)).getLsbD 0 := by
  have hx := x.toNat_lt
  have e0 : ((x.toNat : Int) / 2 ^ j) = ((BitVec.ofNat 32 (x.toNat / 2 ^ j)).toNat : Int) := by
    have : x.toNat / 2 ^ j ≤ x.toNat := Nat.div_le_self _ _
    rw [BitVec.toNat_ofNat, Nat.mod_eq_of_lt (by omega)]
    simp
  rw [e0, bxor_nat, band1]
  generalize R ^^^ BitVec.ofNat 32 (x.toNat / 2 ^ j) = V
  have : V.getLsbD 0 = decide (V.toNat % 2 = 1) := by
    simp [BitVec.getLsbD, Nat.testBit]
    rcases Nat.mod_two_eq_zero_or_one V.toNat with h | h <;> simp [h]
  rw [this]
  rcases Nat.mod_two_eq_zero_or_one V.toNat with h | h <;> simp [h]
theorem doc_xor (R : BitVec 32) : bits .xor .u32 ((R.toNat : Int) / 2) 3988292384 = (((R >>> 1) ^^^ 0xedb88320#32).toNat : Int) := by
  rw [← bxor_nat, BitVec.toNat_ushiftRight, Nat.shiftRight_eq_div_pow]
  rfl
theorem doc_shr (R : BitVec 32) : ((R.toNat : Int) / 2) = ((R >>> 1).toNat : Int) := by
  rw [BitVec.toNat_ushiftRight, Nat.shiftRight_eq_div_pow]
  simp

set_option maxHeartbeats 1000000 in
theorem refSum_B (w : World) (A : Option Addr) (l : List UInt8) (c n : Nat) (hr : Rd Non w A l) (hl : l.length = n) (hn : n ≤ c) (hc : c ≤ maxLen) :
    Calls Tryd.prog 23 #[.slice A n c] w fun e w' => e = .returned (.int .u32 ((sum l).toNat : Int)) ∧ w = w' := by
  unfold maxLen at hc
  have HL := Lib.hid hl
  clear hl
  go_enter Tryd.func23, Tryd.ntmps23
  go_wp2
  go_loop [3, 4] (fun r i => ∃ k : Nat, k ≤ n ∧ i = .int .i64 k ∧ r = .int .u32 ((reg (BitVec.allOnes 32) (l.take k)).toNat : Int)) (fun _ i => n - (intOf i).toNat)
  case atStart => exact ⟨0, by omega, rfl, by simp [reg]⟩
  case round =>
    obtain ⟨k, hk, rfl, rfl⟩ := hrel
    by_cases hlt : k < n
    · obtain ⟨x, hx⟩ : ∃ x, l[k]? = some x := ⟨_, List.getElem?_eq_getElem (by rw [HL.out]; exact hlt)⟩
      obtain ⟨ad, rfl, hcl, -⟩ := hr k x hx
      unfold byteV at hcl
      have e1 : reg (BitVec.allOnes 32) (l.take (k + 1)) = upd (reg (BitVec.allOnes 32) (l.take k)) x := by
        rw [List.take_add_one, hx]; simp [reg]
      have HS := Lib.hid e1
      generalize reg (BitVec.allOnes 32) (l.take k) = R at *
      clear e1 hx
      have hxl := x.toNat_lt
      have hlt' : (k : Int) < (n : Int) := by omega
      go_wp2
      go_loop [3, 5] (fun r i => ∃ (j : Nat) (R' : BitVec 32), j ≤ 8 ∧ i = .int .i64 j ∧ r = .int .u32 (R'.toNat : Int) ∧ docLoop (8 - j) R' (x.toNat / 2 ^ j) = upd R x) (fun _ i => 8 - (intOf i).toNat)
      case atStart => exact ⟨0, R, by omega, rfl, rfl, by simpa using doc8 R x⟩
      case round =>
        obtain ⟨j, R', hj, rfl, rfl, hd⟩ := hrel
        have HD := Lib.hid hd
        clear hd
        by_cases hj8 : j < 8
        · have hj8' : (j : Int) < 8 := by omega
          have ed : docLoop (8 - (j + 1)) (bitDoc R' (x.toNat / 2 ^ j)) (x.toNat / 2 ^ (j + 1)) = upd R x := by
            have h := HD.out
            rw [show 8 - j = (8 - (j + 1)) + 1 by omega, docLoop, Nat.div_div_eq_div_mul, ← Nat.pow_succ] at h
            exact h
          have ED := Lib.hid ed
          clear ed
          go_wp2
          case roundEnd =>
            rename_i hbit
            rw [doc_bit] at hbit
            refine ⟨⟨j + 1, (R' >>> 1) ^^^ 0xedb88320#32, by omega, by go_num, by rw [doc_xor], ?_⟩, by simp [intOf]; omega⟩
            have h := ED.out
            rw [show bitDoc R' (x.toNat / 2 ^ j) = (R' >>> 1) ^^^ 0xedb88320#32 by unfold bitDoc; rw [hbit]; rfl] at h
            exact h
          case roundEnd =>
            rename_i hbit
            rw [doc_bit] at hbit
            refine ⟨⟨j + 1, R' >>> 1, by omega, by go_num, congrArg (Value.int .u32) (doc_shr R'), ?_⟩, by simp [intOf]; omega⟩
            have h := ED.out
            rw [show bitDoc R' (x.toNat / 2 ^ j) = R' >>> 1 by unfold bitDoc; rw [hbit]; rfl] at h
            exact h
        · obtain rfl : j = 8 := by omega
          have h8 : R' = upd R x := HD.out
          subst h8
          go_wp2
          exact ⟨⟨k + 1, by omega, by go_num, by rw [HS.out]⟩, by simp [intOf]; omega⟩
    · obtain rfl : k = n := by omega
      have e : l.take k = l := List.take_of_length_le (by rw [HL.out]; exact Nat.le_refl _)
      rw [e]
      generalize hR : reg (BitVec.allOnes 32) l = R at *
      have es : bits .xor .u32 (R.toNat : Int) 4294967295 = ((sum l).toNat : Int) := by
        have h := bxor_nat R (BitVec.allOnes 32)
        rw [sum, hR, ← BitVec.xor_allOnes, ← h]
        rfl
      have ES := Lib.hid es
      clear es hR e
      go_wp2
      rw [ES.out]
      go_ret
      exact ⟨rfl, rfl⟩

/-- the lowest k bytes of a number -/
def bytesOf : Nat → Nat → List UInt8
  | 0, _ => []
  | k + 1, m => UInt8.ofNat (m % 256) :: bytesOf k (m / 256)
theorem bytesOf_4 (m : Nat) (_h : m < 4294967296) : bytesOf 4 m = four m := by
  simp only [bytesOf, four, Nat.div_div_eq_div_mul]
theorem bytesOf_snoc : ∀ (k m : Nat), bytesOf (k + 1) m = bytesOf k m ++ [UInt8.ofNat (m / 256 ^ k % 256)]
  | 0, m => by simp [bytesOf]
  | k + 1, m => by
    rw [bytesOf, bytesOf_snoc k, bytesOf, List.cons_append, Nat.div_div_eq_div_mul, Nat.pow_succ, Nat.mul_comm 256]
theorem length_bytesOf : ∀ (k m : Nat), (bytesOf k m).length = k
  | 0, _ => rfl
  | k + 1, m => by rw [bytesOf, List.length_cons, length_bytesOf k]
theorem rd_one (w : World) (v : Value) (x : UInt8) (hv : v = byteV x) (S : Nat → Prop) : Rd S (w.alloc (.cells #[v] TB)) (some ⟨w.heap.size, 0, none⟩) [x] := by
  subst hv
  exact (Own.of_cells (fun _ => True) (heap_alloc_new w _) trivial rfl).rd S

theorem put_B (W w : World) (hb : Below W.heap.size W w) (v : Value) (l : List UInt8) (hown : w.ownsRow W.heap.size TB 1 v l.length (l.map byteV)) (hl : l.length ≤ 70368744177664) (m : Nat) (hm : m < 4294967296) :
    Calls Tryd.prog 78 #[v, .int .u32 (m : Int)] w fun e w' => ∃ v', e = .returned v' ∧ w'.ownsRow W.heap.size TB 1 v' (l ++ four m).length ((l ++ four m).map byteV) ∧ Below W.heap.size W w' := by
  obtain ⟨i, hi, hz, hs, hby⟩ := info_parts info_u8
  go_enter Tryd.func78, Tryd.ntmps78
  go_wp2
  go_loopw [0, 1, 5] (fun s q i wr => ∃ k : Nat, k ≤ 4 ∧ i = .int .i64 k ∧ q = .int .u32 ((m / 256 ^ k : Nat) : Int) ∧ wr.ownsRow W.heap.size TB 1 s (l.length + k) ((l ++ bytesOf k m).map byteV) ∧ Below W.heap.size W wr) (fun _ _ i _ => 4 - (intOf i).toNat)
  case atStart => exact ⟨0, by omega, rfl, by simp, by simpa [bytesOf] using hown, hb⟩
  case round =>
    obtain ⟨k, hk, rfl, rfl, ho, hbl⟩ := hrel
    by_cases h4 : k < 4
    · have hq : m / 256 ^ k ≤ m := Nat.div_le_self _ _
      have hd : m / 256 ^ (k + 1) = m / 256 ^ k / 256 := by rw [Nat.pow_succ, Nat.div_div_eq_div_mul]
      have hsn := bytesOf_snoc k m
      generalize m / 256 ^ k = q at *
      have HD := Lib.hid hd
      have HS := Lib.hid hsn
      clear hd hsn
      have hq' : q < 4294967296 := by omega
      have hk' : (k : Int) < 4 := by omega
      obtain ⟨Av, cv, rfl, _, _⟩ := own_val ho
      have hx : Value.int .u8 ((q : Int) % 256) = byteV (UInt8.ofNat (q % 256)) := by
        unfold byteV; rw [byte_mod]; congr 1
      have HX := Lib.hid hx
      clear hx
      go_wp2_with (at_builtin
                   refine wpList_appB rfl (.tmp 10) (.tmp 14) 22 rfl i Tryd.underlying22 hi hz hs hby W.heap.size _ (l.length + k) (l ++ bytesOf k m) rfl (ho.alloc _) Non _ 1 1 [UInt8.ofNat (q % 256)] rfl rfl (rd_one wr _ _ HX.out _) (by omega) (by have := hbl.size; simp; omega) ?_
                   intro v2 w2 hown2 hgrow hat)
      go_roundw
      case rel => exact ⟨k + 1, by omega, by go_num, by rw [HD.out]; go_num, by rw [HS.out, ← List.append_assoc]; exact hown2, (hbl.alloc hbl.size _).grown hgrow (by have := hbl.size; simp; omega) (fun j hj => (ho.lt j hj).1)⟩
      case measure => simp [intOf]; omega
    · obtain rfl : k = 4 := by omega
      go_wp2
      go_ret
      rw [bytesOf_4 m hm] at ho
      exact ⟨_, rfl, by simpa [length_four] using ho, hbl⟩

theorem own_rd {w : World} {base n c : Nat} {A : Option Addr} {l : List UInt8} (h : w.ownsRow base TB 1 (.slice A n c) n (l.map byteV)) (hn : n = l.length) : Rd Non w A l := (Own.of_row h hn).rd _

set_option maxHeartbeats 1000000 in
theorem refFrame_B (w : World) (A : Option Addr) (l : List UInt8) (c n : Nat) (hr : Rd Non w A l) (hl : l.length = n) (hn : n ≤ c) (hc : c ≤ maxLen) :
    Calls Tryd.prog 27 #[.slice A n c] w fun e w' =>
      if n ≤ 65536 then Made w (frame l) 0 e w' else e = .returned (.tuple #[.slice none 0 0, .int .i64 3]) ∧ w' = w := by
  unfold maxLen at hc
  obtain ⟨i, hi, hz, hs, hby⟩ := info_parts info_u8
  by_cases h : n ≤ 65536
  · simp only [if_pos h]
    go_enter Tryd.func27, Tryd.ntmps27
    have g : ¬ (65536 : Int) < (n : Int) := by omega
    have HL := Lib.hid hl
    clear hl
    go_wp2_with (go_at_call 78; refine (put_B w _ (Below.refl _ _) (.slice none 0 0) [] (World.ownsRow_nil _ _ _ _) (by simp) n (by omega)).mono ?_; rintro e w1 ⟨v1, rfl, ho1, hb1⟩; rw [List.nil_append] at ho1)
    obtain ⟨A1, c1, rfl, hc1, hm1⟩ := own_val ho1
    rw [length_four] at ho1 hc1 ⊢
    go_at_call 23
    refine (refSum_B _ A1 (four n) c1 4 (own_rd ho1 rfl) rfl hc1 hm1).mono ?_
    rintro e w2 ⟨rfl, rfl⟩
    have k1 := (sum (four n)).isLt
    generalize hv1 : (sum (four n)).toNat = v1 at *
    have HV1 := Lib.hid hv1
    clear hv1
    go_wp2_with (go_at_call 78; refine (put_B w _ hb1 _ (four n) ho1 (by simp [length_four]) v1 k1).mono ?_; rintro e w2 ⟨v2, rfl, ho2, hb2⟩)
    go_at_call 23
    refine (refSum_B _ A l c n (hr.below hb2) HL.out hn (by unfold maxLen; omega)).mono ?_
    rintro e w3 ⟨rfl, rfl⟩
    have k2 := (sum l).isLt
    generalize hv2 : (sum l).toNat = v3 at *
    have HV2 := Lib.hid hv2
    clear hv2
    go_wp2_with (first
                 | (go_at_call 78; refine (put_B w _ hb2 _ (four n ++ four v1) ho2 (by simp [length_four]) v3 k2).mono ?_; rintro e w3 ⟨v4, rfl, ho3, hb3⟩)
                 | (at_builtin
                    refine wpList_appB rfl (.tmp 20) (.tmp 21) 22 rfl i Tryd.underlying22 hi hz hs hby w.heap.size _ _ ((four n ++ four v1) ++ four v3) rfl ho3 Non A n c l rfl HL.out (hr.below hb3) (by simp [length_four]; omega) hb3.size ?_
                    intro v5 w4 hown4 hgrow4 hat4))
    have hB4 := hb3.grown hgrow4 hb3.size (fun j hj => (ho3.lt j hj).1)
    have eF : (four n ++ four v1 ++ four v3) ++ l = frame l := by
      rw [frame, HL.out, ← HV1.out, ← HV2.out]
      simp only [List.append_assoc]
    rw [eF] at hown4
    have eL : (four n ++ four v1 ++ four v3).length + n = (frame l).length := by rw [← eF]; simp only [List.length_append, HL.out]
    rw [eL] at hown4
    obtain ⟨A5, c5, rfl, hc5, hm5⟩ := own_val hown4
    go_ret2
    exact ⟨A5, c5, rfl, Own.of_row hown4 rfl, hc5, hm5, hB4⟩
  · simp only [if_neg h]
    go_enter Tryd.func27, Tryd.ntmps27
    have g : (65536 : Int) < (n : Int) := by omega
    go_wp2
    go_ret2
    exact ⟨rfl, rfl⟩

/-- the number in the first k bytes -/
def numOf : Nat → List UInt8 → Nat
  | 0, _ => 0
  | k + 1, l => numOf k l + (l.getD k 0).toNat * 256 ^ k
theorem numOf_4 (l : List UInt8) : numOf 4 l = num4 l := by
  simp only [numOf, num4]; omega
theorem numOf_lt : ∀ (k : Nat) (l : List UInt8), numOf k l < 256 ^ k
  | 0, _ => by simp [numOf]
  | k + 1, l => by
    have h := numOf_lt k l
    have hx := (l.getD k 0).toNat_lt
    have hm : (l.getD k 0).toNat * 256 ^ k ≤ 255 * 256 ^ k := Nat.mul_le_mul_right _ (by omega)
    rw [numOf, Nat.pow_succ]
    omega

theorem four_num4 (l : List UInt8) (h : l.length = 4) : four (num4 l) = l := by
  match l, h with
  | [a, b, c, d], _ =>
    have ha := a.toNat_lt
    have hb := b.toNat_lt
    have hc := c.toNat_lt
    have hd := d.toNat_lt
    have e : num4 [a, b, c, d] = a.toNat + b.toNat * 256 + c.toNat * 65536 + d.toNat * 16777216 := rfl
    rw [e]
    unfold four
    have e0 : (a.toNat + b.toNat * 256 + c.toNat * 65536 + d.toNat * 16777216) % 256 = a.toNat := by omega
    have e1 : (a.toNat + b.toNat * 256 + c.toNat * 65536 + d.toNat * 16777216) / 256 % 256 = b.toNat := by omega
    have e2 : (a.toNat + b.toNat * 256 + c.toNat * 65536 + d.toNat * 16777216) / 65536 % 256 = c.toNat := by omega
    have e3 : (a.toNat + b.toNat * 256 + c.toNat * 65536 + d.toNat * 16777216) / 16777216 % 256 = d.toNat := by omega
    rw [e0, e1, e2, e3]
    simp
theorem four_beq (s : Nat) (hs : s < 4294967296) (l : List UInt8) (hl : l.length = 4) : (four s == l) = decide (s = num4 l) := by
  by_cases h : s = num4 l
  · subst h
    rw [four_num4 l hl]; simp
  · have : four s ≠ l := fun e => h (by rw [← e, ← List.append_nil (four s), num4_four s hs])
    simp [h, this]

set_option maxHeartbeats 1000000 in
theorem refNext_B (w : World) (A : Option Addr) (l : List UInt8) (c n : Nat) (hr : Rd Non w A l) (hl : l.length = n) (hn : n ≤ c) (hm : c ≤ maxLen) (a : Int) :
    Calls Tryd.prog 29 #[.slice A n c, .int .i64 a] w (NextDid w l a) := by
  unfold maxLen at hm
  obtain ⟨i, hi, hz, hs, hby⟩ := info_parts info_u8
  have HL := Lib.hid hl
  by_cases h0 : a < 0
  · go_enter Tryd.func29, Tryd.ntmps29
    have e : next l a = .error 2 := if_pos (.inl h0)
    clear hl
    go_wp2
    go_ret3
    exact NextDid.err e (Below.refl _ _)
  obtain ⟨m, rfl⟩ : ∃ m : Nat, a = m := ⟨a.toNat, by omega⟩
  by_cases h1 : (n : Int) < (m : Int)
  · go_enter Tryd.func29, Tryd.ntmps29
    have e : next l m = .error 2 := if_pos (.inr (by rw [hl]; exact h1))
    clear hl
    go_wp2
    go_ret3
    exact NextDid.err e (Below.refl _ _)
  have k0 : ¬ ((m : Int) < 0 ∨ (l.length : Int) < m) := by rw [hl]; omega
  by_cases h2 : (n : Int) - (m : Int) < 12
  · go_enter Tryd.func29, Tryd.ntmps29
    have e : next l m = .error 4 := by unfold next; rw [if_neg k0, if_pos (by rw [hl]; exact h2)]
    have k2 : IntKind.i64.wrap ((n : Int) - (m : Int)) = (n : Int) - (m : Int) := by rw [IntKind.wrap_i64]; omega
    clear hl k0
    go_wp2
    go_ret3
    exact NextDid.err e (Below.refl _ _)
  have e := show next l m = _ by
    unfold next; rw [if_neg k0, if_neg (by rw [hl]; exact h2), Int.toNat_natCast]
  have hd : ((l.take (m + 12)).drop m).length = 12 := by rw [List.length_drop, List.length_take, hl]; omega
  have ht : (l.drop (m + 12)).length = n - (m + 12) := by rw [List.length_drop, hl]
  have hget : ∀ k : Nat, k < 12 → l[m + k]? = some (((l.take (m + 12)).drop m).getD k 0) := by
    intro k hk
    rw [List.getD_eq_getElem?_getD, List.getElem?_drop, List.getElem?_take_of_lt (by omega), List.getElem?_eq_getElem (by rw [hl]; omega)]
    rfl
  generalize hhead : (l.take (m + 12)).drop m = head at *
  generalize hrest : l.drop (m + 12) = rest at *
  have E := Lib.hid e
  have HD := Lib.hid hd
  have HT := Lib.hid ht
  have HH := Lib.hid hhead
  have HR := Lib.hid hrest
  have HG := Lib.hid hget
  clear hget hd ht hhead hrest e k0 hl
  go_enter Tryd.func29, Tryd.ntmps29
  have q1 : IntKind.i64.wrap ((n : Int) - (m : Int)) = (n : Int) - (m : Int) := by rw [IntKind.wrap_i64]; omega
  go_wp2
  clear q1
  go_loop [7, 8, 9] (fun s q i => ∃ k : Nat, k ≤ 4 ∧ i = .int .i64 k ∧ q = .int .i64 ((256 ^ k : Nat) : Int) ∧ s = .int .i64 ((numOf k head : Nat) : Int)) (fun _ _ i => 4 - (intOf i).toNat)
  case atStart => exact ⟨0, by omega, rfl, rfl, rfl⟩
  case round =>
    obtain ⟨k, hk, rfl, rfl, rfl⟩ := hrel
    by_cases h4 : k < 4
    · obtain ⟨ad, rfl, hcl, -⟩ := hr (m + k) _ (HG.out k (by omega))
      have hP := numOf_lt k head
      have hx := (head.getD k 0).toNat_lt
      have hS := Lib.hid (show numOf (k + 1) head = numOf k head + (head.getD k 0).toNat * 256 ^ k from rfl)
      unfold byteV at hcl
      generalize head.getD k 0 = x at *
      generalize numOf k head = s at *
      have hp4 : 256 ^ k ≤ 16777216 := by
        have : k = 0 ∨ k = 1 ∨ k = 2 ∨ k = 3 := by omega
        rcases this with rfl | rfl | rfl | rfl <;> simp
      have hps := Lib.hid (Nat.pow_succ 256 k)
      generalize 256 ^ k = q at *
      have hxq : x.toNat * q ≤ 255 * 16777216 := Nat.mul_le_mul (by omega) hp4
      have v1 : (m : Int) + (k : Int) < (n : Int) := by omega
      have v2 : (0 : Int) ≤ (m : Int) + (k : Int) := by omega
      have v3 : ((m : Int) + (k : Int)).toNat = m + k := by omega
      have v4 : (k : Int) < 4 := by omega
      go_wp2
      exact ⟨⟨k + 1, by omega, by go_num, congrArg (Value.int .i64) (by rw [← Nat.succ_eq_add_one, hps.out, Int.natCast_mul]; rfl), congrArg (Value.int .i64) (by rw [hS.out, Int.natCast_add, Int.natCast_mul])⟩, by simp [intOf]; omega⟩
    · obtain rfl : k = 4 := by omega
      rw [numOf_4]
      have k2 := num4_lt head
      generalize hN : num4 head = N at *
      have HN := Lib.hid hN
      clear hN
      have p1 : (m : Int) ≤ (n : Int) := by omega
      have p4 : (m : Int) + 4 ≤ (c : Int) := by omega
      have p5 : (0 : Int) ≤ (m : Int) + 4 := by omega
      have p6 : (m : Int) ≤ (m : Int) + 4 := by omega
      have p7 : (m : Int) + 8 ≤ (c : Int) := by omega
      have p8 : (m : Int) + 4 ≤ (m : Int) + 8 := by omega
      have p9 : (0 : Int) ≤ (m : Int) + 8 := by omega
      have t4 : ((m : Int) + 4).toNat = m + 4 := by omega
      have t8 : ((m : Int) + 8).toNat = m + 8 := by omega
      go_wp2
      have n1 : ¬ c = m := by omega
      have n2 : ¬ c = m + 4 := by omega
      have eh : head = (l.drop m).take 12 := by rw [← HH.out, List.drop_take]; congr 1; omega
      have r4 : Rd Non w (A.map (fun x => x.add m)) (head.take 4) := by
        have h := (hr.drop m c (by rw [HL.out]; exact hn)).take 4
        rw [if_neg (by omega)] at h
        rw [eh, List.take_take]; exact h
      have r8 : Rd Non w (A.map (fun x => { block := x.block, off := x.off + (m + 3 + 1) })) ((head.drop 4).take 4) := by
        have h := (hr.drop (m + 4) c (by rw [HL.out]; exact hn)).take 4
        rw [if_neg n2] at h
        rw [eh, List.drop_take, List.take_take, List.drop_drop]; exact h
      have h4l : (head.take 4).length = 4 := by rw [List.length_take, HD.out]; rfl
      have h8l : ((head.drop 4).take 4).length = 4 := by rw [List.length_take, List.length_drop, HD.out]; rfl
      have hnum : num4 ((head.drop 4).take 4) = num4 (head.drop 4) := by
        match head, HD.out with
        | [_, _, _, _, _, _, _, _, _, _, _, _], _ => rfl
      generalize hl4 : head.take 4 = l4 at *
      generalize hl8 : (head.drop 4).take 4 = l8 at *
      generalize hn8 : num4 (head.drop 4) = n8 at *
      have X4 := Lib.hid h4l
      have X8 := Lib.hid h8l
      have XN := Lib.hid hnum
      have k4 := (sum l4).isLt
      generalize hs4 : (sum l4).toNat = s4 at *
      have S4 := Lib.hid hs4
      clear h4l h8l hnum hl4 hl8 hn8 hs4
      have EH := Lib.hid eh
      clear eh
      have hX := refSum_B w.drew _ l4 (c - m) 4 r4.drew X4.out (by omega) (by unfold maxLen; omega)
      rw [S4.out] at hX
      have s8 : (convert 22 9 (.slice (A.map (fun x => { block := x.block, off := x.off + (m + 3 + 1) })) 4 (c - (m + 4)))).run Tryd.prog w.drew = .ok (str l8) w.drew := by
        have h := run_str r8.drew (c - (m + 4))
        rw [X8.out] at h; exact h
      have q4 : IntKind.i64.wrap ((m : Int) + 4) = (m : Int) + 4 := by rw [IntKind.wrap_i64]; omega
      have q8 : IntKind.i64.wrap ((m : Int) + 8) = (m : Int) + 8 := by rw [IntKind.wrap_i64]; omega
      refine wp_region_T #[[], [], [], [], [], [], [], [], [], [], [], [], [], [], [], [14]] [14] (fun w' => (convert 22 9 (.slice (A.map (fun x => { block := x.block, off := x.off + (m + 3 + 1) })) 4 (c - (m + 4)))).run Tryd.prog w' = .ok (str l8) w' ∧ True) 16 rfl (by kernel_rfl) ?_
      (refine wpAnyT_free (i := 0) rfl (by kernel_rfl) rfl (fun _ _ _ h => h) (by kernel_rfl) (fun _ => by go_simp; try rfl) ?_; (try simp only [Act.put, List.setIfInBounds_toArray, List.set_cons_zero, List.set_cons_succ]))
      (refine wpAnyT_free (i := 1) rfl (by kernel_rfl) rfl (fun _ _ _ h => h) (by kernel_rfl) (fun _ => by go_simp; try rfl) ?_; (try simp only [Act.put, List.setIfInBounds_toArray, List.set_cons_zero, List.set_cons_succ]))
      (refine wpAnyT_free (i := 2) rfl (by kernel_rfl) rfl (fun _ _ _ h => h) (by kernel_rfl) (fun _ => by go_simp; try rfl) ?_; (try simp only [Act.put, List.setIfInBounds_toArray, List.set_cons_zero, List.set_cons_succ]))
      (refine wpAnyT_free (i := 3) rfl (by kernel_rfl) rfl (fun _ _ _ h => h) (by kernel_rfl) (fun _ => by go_simp; try rfl) ?_; (try simp only [Act.put, List.setIfInBounds_toArray, List.set_cons_zero, List.set_cons_succ]))
      (refine wpAnyT_free (i := 4) rfl (by kernel_rfl) rfl (fun _ _ _ h => h) (by kernel_rfl) (fun _ => by go_simp; try rfl) ?_; (try simp only [Act.put, List.setIfInBounds_toArray, List.set_cons_zero, List.set_cons_succ]))
      (refine wpAnyT_free (i := 8) rfl (by kernel_rfl) rfl (fun _ _ _ h => h) (by kernel_rfl) (fun _ => by go_simp; try rfl) ?_; (try simp only [Act.put, List.setIfInBounds_toArray, List.set_cons_zero, List.set_cons_succ]))
      (refine wpAnyT_free (i := 9) rfl (by kernel_rfl) rfl (fun _ _ _ h => h) (by kernel_rfl) (fun _ => by go_simp; try rfl) ?_; (try simp only [Act.put, List.setIfInBounds_toArray, List.set_cons_zero, List.set_cons_succ]))
      (refine wpAnyT_free (i := 10) rfl (by kernel_rfl) rfl (fun _ _ _ h => h) (by kernel_rfl) (fun _ => by go_simp; try rfl) ?_; (try simp only [Act.put, List.setIfInBounds_toArray, List.set_cons_zero, List.set_cons_succ]))
      (refine wpAnyT_free (i := 11) rfl (by kernel_rfl) rfl (fun _ _ _ h => h) (by kernel_rfl) (fun _ => by go_simp; try rfl) ?_; (try simp only [Act.put, List.setIfInBounds_toArray, List.set_cons_zero, List.set_cons_succ]))
      (refine wpAnyT_free (i := 12) rfl (by kernel_rfl) rfl (fun _ _ _ h => h) (by kernel_rfl) (fun _ => by go_simp; try rfl) ?_; (try simp only [Act.put, List.setIfInBounds_toArray, List.set_cons_zero, List.set_cons_succ]))
      (refine wpAnyT_free (i := 13) rfl (by kernel_rfl) rfl (fun _ _ _ h => h) (by kernel_rfl) (fun _ => by go_simp; try rfl) ?_; (try simp only [Act.put, List.setIfInBounds_toArray, List.set_cons_zero, List.set_cons_succ]))
      (refine wpAnyT_read (i := 14) rfl (by kernel_rfl) rfl (fun _ _ _ h => h) (by kernel_rfl) (⟨s8, trivial⟩) (fun w hS_ => by obtain ⟨s_1, s_2⟩ := hS_; go_simp; try rfl) ?_; (try simp only [Act.put, List.setIfInBounds_toArray, List.set_cons_zero, List.set_cons_succ]))
      refine wpAnyT_one (i := 5) rfl (by kernel_rfl) rfl ?_
      intro K_ hK_
      clear q4 q8; go_wp2_with (go_at_call 23; refine hX.mono ?_; rintro e w1 ⟨rfl, rfl⟩)
      refine hK_ _ _ ?_ ?_
      · exact fun _ h => h
      clear hK_ K_
      (try simp only [Act.put, List.setIfInBounds_toArray, List.set_cons_zero, List.set_cons_succ])
      refine wpAnyT_one (i := 6) rfl (by kernel_rfl) rfl ?_
      intro K_ hK_
      clear hX; go_wp2_with (go_at_call 78; refine (put_B w _ (Below.refl _ _).drew (.slice none 0 0) [] (World.ownsRow_nil _ _ _ _) (by simp) s4 k4).mono ?_; rintro e w1 ⟨v1, rfl, ho1, hb1⟩; rw [List.nil_append, length_four] at ho1; obtain ⟨A1, c1, rfl, hc1, hm1⟩ := own_val ho1; have s7 := run_str (own_rd ho1 rfl) c1; rw [length_four] at s7; have s9 := run_str (r8.below hb1) (c - (m + 4)); rw [X8.out] at s9)
      refine hK_ _ _ ?_ ?_
      · exact fun _ _ => ⟨s9, trivial⟩
      clear hK_ K_
      (try simp only [Act.put, List.setIfInBounds_toArray, List.set_cons_zero, List.set_cons_succ])
      refine wpAnyT_one (i := 7) rfl (by kernel_rfl) rfl ?_
      intro K_ hK_
      go_wp2
      refine hK_ _ _ ?_ ?_
      · exact fun _ h_ => h_
      clear hK_ K_
      (try simp only [Act.put, List.setIfInBounds_toArray, List.set_cons_zero, List.set_cons_succ])
      (refine wpAnyT_free (i := 15) rfl (by kernel_rfl) rfl (fun _ _ _ h => h) (by kernel_rfl) (fun _ => by go_simp; try rfl) ?_; (try simp only [Act.put, List.setIfInBounds_toArray, List.set_cons_zero, List.set_cons_succ]))
      refine wpAnyT_done (by kernel_rfl) ?_ _
      have hbq := four_beq s4 k4 l8 X8.out
      rw [XN.out] at hbq
      clear s7 s9 s8
      by_cases hs4 : s4 ≠ n8
      · have hb' : (four s4 == l8) = false := by rw [hbq]; exact decide_eq_false hs4
        have e7 : next l (m : Int) = .error 6 := E.out.trans (if_pos hs4)
        clear hbq hs4
        rw [hb']
        go_wp2
        go_ret3
        exact NextDid.err e7 hb1
      have hs4 := Decidable.not_not.1 hs4
      have hb' : (four s4 == l8) = true := by rw [hbq]; exact decide_eq_true hs4
      by_cases hg : 65536 < N
      · have e7 : next l (m : Int) = .error 3 := E.out.trans (by rw [if_neg (fun h => h hs4), if_pos hg])
        have hg' : (65536 : Int) < (N : Int) := by omega
        clear hbq hs4
        rw [hb']
        go_wp2
        go_ret3
        exact NextDid.err e7 hb1
      have hg' : (N : Int) ≤ 65536 := by omega
      by_cases hk : n - (m + 12) < N
      · have e7 : next l (m : Int) = .error 4 := E.out.trans (by rw [if_neg (fun h => h hs4), if_neg hg, if_pos (by rw [HT.out]; exact hk)])
        have hk' : (n : Int) - (m : Int) - 12 < (N : Int) := by omega
        clear hbq hs4
        rw [hb']
        go_wp2
        go_ret3
        exact NextDid.err e7 hb1
      have E2 : next l (m : Int) = if (sum (List.take N rest)).toNat ≠ num4 (List.drop 8 head) then Except.error 6 else Except.ok (List.take N rest, m + 12 + N) :=
        E.out.trans (by rw [if_neg (fun h => h hs4), if_neg hg, if_neg (by rw [HT.out]; exact hk)])
      have E3 := Lib.hid E2
      have hk' : (N : Int) ≤ (n : Int) - (m : Int) - 12 := by omega
      have lN : (rest.take N).length = N := by rw [List.length_take, HT.out]; omega
      have rN : Rd Non w1 (if c = m + 12 then A else A.map (fun x => { block := x.block, off := x.off + (m + 11 + 1) })) (rest.take N) := by
        rw [← HR.out]
        exact (((hr.below hb1).drop (m + 12) c (by rw [HL.out]; exact hn)).take N)
      generalize hlN : rest.take N = lN' at *
      have LN := Lib.hid lN
      clear lN hlN E2 E hbq hs4 hg hk
      rw [hb']
      have p10 : (m : Int) + 12 ≤ (c : Int) := by omega
      have p11 : (m : Int) + 12 + N ≤ (c : Int) := by omega
      have p12 : (0 : Int) ≤ (m : Int) + 12 + N := by omega
      have p13 : (m : Int) + 12 ≤ (m : Int) + 12 + N := by omega
      have p14 : (0 : Int) ≤ (m : Int) + 12 := by omega
      have t12 : ((m : Int) + 12).toNat = m + 12 := by omega
      have t13 : ((m : Int) + 12 + N).toNat = m + 12 + N := by omega
      have n3 : m + 12 + N - (m + 12) = N := by omega
      go_wp2_with (at_builtin
                   generalize hAR : (if c = m + 12 then A else A.map (fun x => { block := x.block, off := x.off + (m + 11 + 1) })) = AR at rN ⊢
                   clear hAR
                   refine wpList_appB rfl (.tmp 66) (.tmp 74) 22 rfl i Tryd.underlying22 hi hz hs hby w1.heap.size _ 0 [] rfl (ownsB_none w1) Non _ N _ lN' rfl LN.out ((rN.mono (fun _ _ h => h.elim)).fr ((Fr.refl _ _).alloc _)) (by omega) (by simp) ?_
                   intro v5 w5 hown5 hgrow5 hat5)
      rw [Nat.zero_add, List.nil_append] at hown5
      obtain ⟨A5, c5, rfl, hc5, hm5⟩ := own_val hown5
      have hB5 := (hb1.alloc hb1.size (.cells #[] TB)).grown hgrow5 (by have := hb1.size; simp; omega) (fun j hj => by have := ((ownsB_none w1).lt j hj).1; have := hb1.size; omega)
      clear hat5 hgrow5
      have n4 : ¬ c = m + 8 := by omega
      have r9 : Rd Non w (A.map (fun x => { block := x.block, off := x.off + (m + 7 + 1) })) (head.drop 8) := by
        have h := (hr.drop (m + 8) c (by rw [HL.out]; exact hn)).take 4
        rw [if_neg n4] at h
        rw [EH.out, List.drop_take, List.drop_drop]; exact h
      have h9l : (head.drop 8).length = 4 := by rw [List.length_drop, HD.out]
      generalize hl9 : head.drop 8 = l9 at *
      have X9 := Lib.hid h9l
      clear h9l hl9
      have rn5 : Rd Non w5 A5 lN' := own_rd hown5 LN.out.symm
      have r95 := r9.below hB5
      have k9 := (sum lN').isLt
      generalize hs9 : (sum lN').toNat = s9 at *
      have S9 := Lib.hid hs9
      generalize hn9 : num4 l9 = n9 at *
      have N9 := Lib.hid hn9
      clear hs9 hn9
      have hX := refSum_B w5.drew A5 lN' c5 N rn5.drew LN.out hc5 hm5
      rw [S9.out] at hX
      have s10 : (convert 22 9 (.slice (A.map (fun x => { block := x.block, off := x.off + (m + 7 + 1) })) 4 (c - (m + 8)))).run Tryd.prog w5.drew = .ok (str l9) w5.drew := by
        have h := run_str r95.drew (c - (m + 8))
        rw [X9.out] at h; exact h
      have p15 : (m : Int) + 8 ≤ (m : Int) + 12 := by omega
      have q8 : IntKind.i64.wrap ((m : Int) + 8) = (m : Int) + 8 := by rw [IntKind.wrap_i64]; omega
      have q12 : IntKind.i64.wrap ((m : Int) + 12) = (m : Int) + 12 := by rw [IntKind.wrap_i64]; omega
      refine wp_region_T #[[], [], [], [], [], [], [], [], [], [], [], [10]] [10] (fun w' => (convert 22 9 (.slice (A.map (fun x => { block := x.block, off := x.off + (m + 7 + 1) })) 4 (c - (m + 8)))).run Tryd.prog w' = .ok (str l9) w' ∧ True) 12 rfl (by kernel_rfl) ?_
      (refine wpAnyT_free (i := 0) rfl (by kernel_rfl) rfl (fun _ _ _ h => h) (by kernel_rfl) (fun _ => by go_simp; try rfl) ?_; (try simp only [Act.put, List.setIfInBounds_toArray, List.set_cons_zero, List.set_cons_succ]))
      (refine wpAnyT_free (i := 4) rfl (by kernel_rfl) rfl (fun _ _ _ h => h) (by kernel_rfl) (fun _ => by go_simp; try rfl) ?_; (try simp only [Act.put, List.setIfInBounds_toArray, List.set_cons_zero, List.set_cons_succ]))
      (refine wpAnyT_free (i := 5) rfl (by kernel_rfl) rfl (fun _ _ _ h => h) (by kernel_rfl) (fun _ => by go_simp; try rfl) ?_; (try simp only [Act.put, List.setIfInBounds_toArray, List.set_cons_zero, List.set_cons_succ]))
      (refine wpAnyT_free (i := 6) rfl (by kernel_rfl) rfl (fun _ _ _ h => h) (by kernel_rfl) (fun _ => by go_simp; try rfl) ?_; (try simp only [Act.put, List.setIfInBounds_toArray, List.set_cons_zero, List.set_cons_succ]))
      (refine wpAnyT_free (i := 7) rfl (by kernel_rfl) rfl (fun _ _ _ h => h) (by kernel_rfl) (fun _ => by go_simp; try rfl) ?_; (try simp only [Act.put, List.setIfInBounds_toArray, List.set_cons_zero, List.set_cons_succ]))
      (refine wpAnyT_free (i := 8) rfl (by kernel_rfl) rfl (fun _ _ _ h => h) (by kernel_rfl) (fun _ => by go_simp; try rfl) ?_; (try simp only [Act.put, List.setIfInBounds_toArray, List.set_cons_zero, List.set_cons_succ]))
      (refine wpAnyT_free (i := 9) rfl (by kernel_rfl) rfl (fun _ _ _ h => h) (by kernel_rfl) (fun _ => by go_simp; try rfl) ?_; (try simp only [Act.put, List.setIfInBounds_toArray, List.set_cons_zero, List.set_cons_succ]))
      (refine wpAnyT_read (i := 10) rfl (by kernel_rfl) rfl (fun _ _ _ h => h) (by kernel_rfl) (⟨s10, trivial⟩) (fun w hS_ => by obtain ⟨s_1, s_2⟩ := hS_; go_simp; try rfl) ?_; (try simp only [Act.put, List.setIfInBounds_toArray, List.set_cons_zero, List.set_cons_succ]))
      refine wpAnyT_one (i := 1) rfl (by kernel_rfl) rfl ?_
      intro K_ hK_
      clear q8 q12; go_wp2_with (go_at_call 23; refine hX.mono ?_; rintro e w6 ⟨rfl, rfl⟩)
      refine hK_ _ _ ?_ ?_
      · exact fun _ h => h
      clear hK_ K_
      (try simp only [Act.put, List.setIfInBounds_toArray, List.set_cons_zero, List.set_cons_succ])
      refine wpAnyT_one (i := 2) rfl (by kernel_rfl) rfl ?_
      intro K_ hK_
      clear hX; go_wp2_with (go_at_call 78; refine (put_B w5 _ (Below.refl _ _).drew (.slice none 0 0) [] (World.ownsRow_nil _ _ _ _) (by simp) s9 k9).mono ?_; rintro e w6 ⟨v6, rfl, ho6, hb6⟩; rw [List.nil_append, length_four] at ho6; obtain ⟨A6, c6, rfl, hc6, hm6⟩ := own_val ho6; have s7 := run_str (own_rd ho6 rfl) c6; rw [length_four] at s7; have s11 := run_str (r95.below hb6) (c - (m + 8)); rw [X9.out] at s11)
      refine hK_ _ _ ?_ ?_
      · exact fun _ _ => ⟨s11, trivial⟩
      clear hK_ K_
      (try simp only [Act.put, List.setIfInBounds_toArray, List.set_cons_zero, List.set_cons_succ])
      refine wpAnyT_one (i := 3) rfl (by kernel_rfl) rfl ?_
      intro K_ hK_
      go_wp2
      refine hK_ _ _ ?_ ?_
      · exact fun _ h_ => h_
      clear hK_ K_
      (try simp only [Act.put, List.setIfInBounds_toArray, List.set_cons_zero, List.set_cons_succ])
      (refine wpAnyT_free (i := 11) rfl (by kernel_rfl) rfl (fun _ _ _ h => h) (by kernel_rfl) (fun _ => by go_simp; try rfl) ?_; (try simp only [Act.put, List.setIfInBounds_toArray, List.set_cons_zero, List.set_cons_succ]))
      refine wpAnyT_done (by kernel_rfl) ?_ _
      have hbq := four_beq s9 k9 l9 X9.out
      rw [N9.out] at hbq
      have hB6 := hB5.trans (hb6.mono hB5.size)
      have hO6 : Own (New w) w6 A5 lN' := (((Own.of_row hown5 LN.out.symm).mono (S' := New w) (fun b (hb : _ ≤ b) => Nat.le_trans hb1.size hb)).fr (Fr.of_below (S := Non) hb6))
      clear s7 s11 s10 hown5 ho6
      by_cases hs9 : s9 ≠ n9
      · have hb' : (four s9 == l9) = false := by rw [hbq]; exact decide_eq_false hs9
        have e7 : next l (m : Int) = .error 6 := E3.out.trans (if_pos hs9)
        clear hbq hs9
        rw [hb']
        go_wp2
        go_ret3
        exact NextDid.err e7 hB6
      · have e7 : next l (m : Int) = .ok (lN', m + 12 + N) := E3.out.trans (if_neg hs9)
        have hs9 := Decidable.not_not.1 hs9
        have hb' : (four s9 == l9) = true := by rw [hbq]; exact decide_eq_true hs9
        have E7 := Lib.hid e7
        clear hbq hs9 e7
        rw [hb']
        go_wp2
        go_ret3
        unfold NextDid
        rw [E7.out]
        exact ⟨A5, c5, by rw [LN.out]; rfl, hO6, by rw [LN.out]; exact hc5, hm5, hB6⟩
end Go.Proofs.YtediidajdpdeiaaDoor

/- Numbers as bytes (layer 1): plain functions, and the walks of octet and of the document's answer. -/
namespace Go.Proofs.YtediidajdpdeiaaDoor
open Go.RowKit CrcM
set_option maxRecDepth 100000

/-- a number's bytes -/
def numB (n : Nat) : List UInt8 := if _h : n < 128 then [UInt8.ofNat n] else UInt8.ofNat (n % 128 + 128) :: numB (n / 128)
termination_by n
decreasing_by omega

theorem numB_lt {n : Nat} (h : n < 128) : numB n = [UInt8.ofNat n] := by rw [numB, dif_pos h]
theorem numB_ge {n : Nat} (h : ¬ n < 128) : numB n = UInt8.ofNat (n % 128 + 128) :: numB (n / 128) := by rw [numB, dif_neg h]
theorem numB_le : ∀ (k n : Nat), n < 128 ^ (k + 1) → (numB n).length ≤ k + 1
  | 0, n, h => by rw [numB_lt (by simpa using h)]; simp
  | k + 1, n, h => by
    by_cases h1 : n < 128
    · rw [numB_lt h1]; simp
    · rw [numB_ge h1, List.length_cons]
      have := numB_le k (n / 128) (by rw [Nat.div_lt_iff_lt_mul (by omega)]; rw [Nat.pow_succ] at h; omega)
      omega
theorem numB_10 {n : Nat} (h : n < 18446744073709551616) : (numB n).length ≤ 10 := numB_le 9 n (by omega)
theorem numB_pos (n : Nat) : 1 ≤ (numB n).length := by
  by_cases h : n < 128
  · rw [numB_lt h]; simp
  · rw [numB_ge h]; simp

/-- what stands at the beginning of bytes: a number and how many bytes it has, or why there is none; from the i-th byte on, with what the bytes ahead say -/
def readN : List UInt8 → Nat → Nat → Except Int (Nat × Nat)
  | [], _, _ => .error 4
  | x :: t, i, acc =>
    if i = 9 ∨ (x.toNat = 0 ∧ 0 < i) then .error 5
    else if 4611686018427387904 < acc + x.toNat % 128 * 128 ^ i then .error 5
    else if x.toNat < 128 then .ok (acc + x.toNat % 128 * 128 ^ i, i + 1)
    else readN t (i + 1) (acc + x.toNat % 128 * 128 ^ i)
def readNum (l : List UInt8) : Except Int (Nat × Nat) := readN l 0 0

theorem readN_numB : ∀ (n : Nat) (tail : List UInt8) (i acc : Nat), acc + n * 128 ^ i ≤ 4611686018427387904 → (0 < i → 0 < n) → readN (numB n ++ tail) i acc = .ok (acc + n * 128 ^ i, i + (numB n).length) := by
  intro n
  induction n using Nat.strongRecOn with
  | _ n ih =>
    intro tail i acc h h0
    have h9 : n = 0 ∧ i = 0 ∨ i < 9 := by
      rcases Nat.eq_zero_or_pos n with h1 | h1
      · left; exact ⟨h1, by omega⟩
      · right
        by_cases h2 : i < 9
        · exact h2
        · exfalso
          have : 128 ^ 9 ≤ 128 ^ i := Nat.pow_le_pow_right (by omega) (by omega)
          have : 128 ^ i ≤ n * 128 ^ i := Nat.le_mul_of_pos_left _ h1
          omega
    by_cases h1 : n < 128
    · rw [numB_lt h1]
      have e : (UInt8.ofNat n).toNat = n := by simp; omega
      simp only [List.cons_append, List.nil_append, readN, e, List.length_singleton]
      rw [Nat.mod_eq_of_lt h1]
      rw [if_neg (by omega), if_neg (by omega), if_pos h1]
    · rw [numB_ge h1]
      have e : (UInt8.ofNat (n % 128 + 128)).toNat = n % 128 + 128 := by simp; omega
      have e2 : acc + (n % 128 + 128) % 128 * 128 ^ i + n / 128 * 128 ^ (i + 1) = acc + n * 128 ^ i := by
        have h3 : n % 128 + 128 * (n / 128) = n := Nat.mod_add_div n 128
        have h4 : (n % 128 + 128) % 128 = n % 128 := by omega
        rw [h4, Nat.pow_succ]
        have h5 : n * 128 ^ i = n % 128 * 128 ^ i + 128 * (n / 128) * 128 ^ i := by rw [← Nat.add_mul, h3]
        rw [h5, Nat.mul_comm 128 (n / 128), Nat.mul_assoc (n / 128), Nat.mul_comm 128 (128 ^ i)]
        omega
      simp only [List.cons_append, readN, e, List.length_cons]
      rw [if_neg (by omega), if_neg (by omega), if_neg (by omega), ih (n / 128) (by omega) tail (i + 1) _ (by omega) (fun _ => by omega), e2]
      congr 2; omega
theorem readNum_numB (n : Nat) (h : n ≤ 4611686018427387904) (tail : List UInt8) : readNum (numB n ++ tail) = .ok (n, (numB n).length) := by
  have := readN_numB n tail 0 0 (by simpa using h) (by omega)
  simpa [readNum] using this
theorem readN_le : ∀ (l : List UInt8) (i acc n s : Nat), readN l i acc = .ok (n, s) → n ≤ 4611686018427387904 ∧ i < s ∧ s ≤ i + l.length
  | [], i, acc, n, s, h => by simp [readN] at h
  | x :: t, i, acc, n, s, h => by
    rw [readN] at h
    split at h
    · cases h
    · split at h
      · cases h
      · split at h
        · simp only [Except.ok.injEq, Prod.mk.injEq] at h
          rw [List.length_cons]
          omega
        · have := readN_le t _ _ n s h
          rw [List.length_cons]
          omega

theorem or128 : ∀ x : Fin 256, bits .or .u8 (x.val : Int) 128 = ((x.val % 128 + 128 : Nat) : Int) := by decide +kernel
theorem and127 : ∀ x : Fin 256, bits .and .u8 (x.val : Int) 127 = ((x.val % 128 : Nat) : Int) := by decide +kernel

/-- what a function that writes a number leaves -/
def NumDid (W : World) (l : List UInt8) (e : Ending) (w' : World) : Prop := ∃ v', e = .returned v' ∧ w'.ownsRow W.heap.size TB 1 v' l.length (l.map byteV) ∧ Below W.heap.size W w'

def NumPair (W : World) (l : List UInt8) (e : Ending) (w' : World) : Prop := ∃ v', e = .returned (.tuple #[v', .int .i64 0]) ∧ w'.ownsRow W.heap.size TB 1 v' l.length (l.map byteV) ∧ Below W.heap.size W w'

theorem num_B (W w : World) (hb : Below W.heap.size W w) (v : Value) (l : List UInt8) (hown : w.ownsRow W.heap.size TB 1 v l.length (l.map byteV)) (hl : l.length ≤ 70368744177664) (n : Nat) (hn : n < 9223372036854775808) :
    Calls Tryd.prog 129 #[v, .int .u64 (n : Int)] w (NumDid W (l ++ numB n)) := by
  obtain ⟨i, hi, hz, hs, hby⟩ := info_parts info_u8
  go_enter Tryd.func129, Tryd.ntmps129
  go_wp2
  go_loopw [0, 1] (fun s q wr => ∃ (k : Nat) (xs : List UInt8), k ≤ n ∧ q = .int .u64 (k : Int) ∧ xs ++ numB k = l ++ numB n ∧ wr.ownsRow W.heap.size TB 1 s xs.length (xs.map byteV) ∧ Below W.heap.size W wr) (fun _ q _ => (intOf q).toNat)
  case atStart => exact ⟨n, l, Nat.le_refl _, rfl, rfl, hown, hb⟩
  case round =>
    obtain ⟨k, xs, hk, rfl, hxs, ho, hbl⟩ := hrel
    have hx2 : xs.length ≤ l.length + 10 := by
      have := congrArg List.length hxs
      have := numB_10 (n := n) (by omega)
      simp only [List.length_append] at *
      omega
    obtain ⟨Av, cv, rfl, _, _⟩ := own_val ho
    by_cases h : k < 128
    · have h' : ¬ (128 : Int) ≤ (k : Int) := by omega
      rw [numB_lt h] at hxs
      have HX := Lib.hid hxs
      clear hxs
      have hx : Value.int .u8 (k : Int) = byteV (UInt8.ofNat k) := by
        unfold byteV; rw [UInt8.toNat_ofNat', Nat.mod_eq_of_lt (by omega)]
      have HY := Lib.hid hx
      clear hx
      go_wp2_with (at_builtin
                   refine wpList_appB rfl (.tmp 15) (.tmp 18) 22 rfl i Tryd.underlying22 hi hz hs hby W.heap.size _ xs.length xs rfl (ho.alloc _) Non _ 1 1 [UInt8.ofNat k] rfl rfl (rd_one wr _ _ (by first | exact HY.out | (simp; exact HY.out)) _) (by omega) (by have := hbl.size; simp; omega) ?_
                   intro v2 w2 hown2 hgrow hat)
      go_ret
      rw [HX.out] at hown2
      refine ⟨_, rfl, ?_, (hbl.alloc hbl.size _).grown hgrow (by have := hbl.size; simp; omega) (fun j hj => (ho.lt j hj).1)⟩
      have e : (l ++ numB n).length = xs.length + 1 := by rw [← HX.out]; simp
      rw [e]; exact hown2
    · have h' : (128 : Int) ≤ (k : Int) := by omega
      rw [numB_ge h, List.append_cons] at hxs
      have HX := Lib.hid hxs
      clear hxs
      have hx : Value.int .u8 (bits .or .u8 ((k : Int) % 256) 128) = byteV (UInt8.ofNat (k % 128 + 128)) := by
        have := or128 ⟨k % 256, by omega⟩
        simp only at this
        unfold byteV; rw [UInt8.toNat_ofNat', Nat.mod_eq_of_lt (by omega), show ((k : Int) % 256) = ((k % 256 : Nat) : Int) by omega, this]
        congr 2; omega
      have HY := Lib.hid hx
      clear hx
      go_wp2_with (at_builtin
                   refine wpList_appB rfl (.tmp 9) (.tmp 13) 22 rfl i Tryd.underlying22 hi hz hs hby W.heap.size _ xs.length xs rfl (ho.alloc _) Non _ 1 1 [UInt8.ofNat (k % 128 + 128)] rfl rfl (rd_one wr _ _ HY.out _) (by omega) (by have := hbl.size; simp; omega) ?_
                   intro v2 w2 hown2 hgrow hat)
      go_roundw
      case rel => exact ⟨k / 128, xs ++ [UInt8.ofNat (k % 128 + 128)], by omega, by go_num, HX.out, by rw [List.length_append]; exact hown2, (hbl.alloc hbl.size _).grown hgrow (by have := hbl.size; simp; omega) (fun j hj => (ho.lt j hj).1)⟩
      case measure => simp [intOf]; omega

theorem Num_B (W w : World) (hb : Below W.heap.size W w) (A : Option Addr) (c : Nat) (l : List UInt8) (hr : Rd Non w A l) (hl : l.length ≤ 70368744177664) (n : Nat) (hn : n ≤ 4611686018427387904) :
    Calls Tryd.prog 107 #[.slice A l.length c, .int .i64 (n : Int)] w (NumPair W (l ++ numB n)) := by
  go_enter Tryd.func107, Tryd.ntmps107
  go_wp2_with (first
    | (go_at_call 80; refine (clone_B Non A l c w hr hl).mono ?_; rintro e w1 ⟨A', c', rfl, hor, hc', hm', hbel⟩)
    | (go_at_call 129; refine (num_B W _ (hb.trans (hbel.mono hb.size)) _ l (ownsRow_mono hor hb.size) hl n (by omega)).mono ?_; rintro e w2 ⟨v', rfl, ho, hb2⟩))
  go_ret2
  exact ⟨v', rfl, ho, hb2⟩

theorem and127' (x : UInt8) : bits .and .u8 (x.toNat : Int) 127 = ((x.toNat % 128 : Nat) : Int) := and127 ⟨x.toNat, x.toNat_lt⟩
theorem ofInt64 (n : Nat) : BitVec.ofInt IntKind.i64.bits (n : Int) = BitVec.ofNat 64 n := by
  show BitVec.ofInt 64 _ = _
  exact BitVec.ofInt_natCast ..
theorem bor_i64 (a b i : Nat) (ha : a < 2 ^ i) (hs : a + b * 2 ^ i < 9223372036854775808) : bits .or .i64 (a : Int) ((b * 2 ^ i : Nat) : Int) = ((a + b * 2 ^ i : Nat) : Int) := by
  have h1 : a ||| b * 2 ^ i = a + b * 2 ^ i := or_add a b i ha
  unfold bits
  simp only [ofInt64]
  have e3 : (BitVec.ofNat 64 a ||| BitVec.ofNat 64 (b * 2 ^ i)).toNat = a + b * 2 ^ i := by
    rw [BitVec.toNat_or, BitVec.toNat_ofNat, BitVec.toNat_ofNat, Nat.mod_eq_of_lt (by omega), Nat.mod_eq_of_lt (by omega), h1]
  have h : IntKind.i64.wrap ((a + b * 2 ^ i : Nat) : Int) = ((a + b * 2 ^ i : Nat) : Int) := by rw [IntKind.wrap_i64]; omega
  rw [← e3] at h ⊢
  exact h

/-- what a function that reads a number leaves -/
def ReadDid (w : World) (l : List UInt8) (e : Ending) (w' : World) : Prop :=
  (match readNum l with
    | .ok (n, s) => e = .returned (.tuple #[.int .i64 (n : Int), .int .i64 (s : Int), .int .i64 0])
    | .error r => e = .returned (.tuple #[.int .i64 0, .int .i64 0, .int .i64 r])) ∧ w' = w

theorem ReadNum_B (w : World) (A : Option Addr) (c : Nat) (l : List UInt8) (hr : Rd Non w A l) (hl : l.length ≤ maxLen) :
    Calls Tryd.prog 120 #[.slice A l.length c] w (ReadDid w l) := by
  unfold maxLen at hl
  go_enter Tryd.func120, Tryd.ntmps120
  go_wp2
  go_loop [2, 9] (fun n i => ∃ k a : Nat, k ≤ l.length ∧ i = .int .i64 (k : Int) ∧ n = .int .i64 (a : Int) ∧ k ≤ 9 ∧ a < 128 ^ k ∧ readNum l = readN (l.drop k) k a) (fun _ i => l.length - (intOf i).toNat)
  case atStart => exact ⟨0, 0, by omega, rfl, rfl, by omega, by simp, rfl⟩
  case round =>
    obtain ⟨k, a, hk, rfl, rfl, hk9, ha, hrd⟩ := hrel
    by_cases hlt : k < l.length
    · obtain ⟨x, hx⟩ : ∃ x, l[k]? = some x := ⟨_, List.getElem?_eq_getElem hlt⟩
      obtain ⟨ad, rfl, hcl, -⟩ := hr k x hx
      unfold byteV at hcl
      have hdr : l.drop k = x :: l.drop (k + 1) := by
        rw [List.drop_eq_getElem_cons hlt]
        congr 1
        rw [List.getElem?_eq_getElem hlt] at hx
        exact Option.some.inj hx
      rw [hdr, readN] at hrd
      have hxl := x.toNat_lt
      have hlt' : (k : Int) < (l.length : Int) := by omega
      have hp0 : (128 : Nat) ^ k = 2 ^ (7 * k) := by rw [Nat.pow_mul]
      have hm : x.toNat % 128 < 128 := Nat.mod_lt _ (by omega)
      have hs128 : a + x.toNat % 128 * 128 ^ k < 128 ^ (k + 1) := by
        have : x.toNat % 128 * 128 ^ k ≤ 127 * 128 ^ k := Nat.mul_le_mul_right _ (by omega)
        rw [Nat.pow_succ]; omega
      by_cases h1 : k = 9 ∨ (x.toNat = 0 ∧ 0 < k)
      · rw [if_pos h1] at hrd
        have HR := Lib.hid hrd
        clear hrd
        rcases h1 with h1 | ⟨h1, h2⟩
        · have h1' : ((k : Int) == 9) = true := by simp; omega
          clear h1
          go_wp2
          go_ret3
          exact ⟨by rw [HR.out]; rfl, rfl⟩
        · have h1' : ((x.toNat : Int) == 0) = true := by simp; omega
          have h2' : (0 : Int) < (k : Int) := by omega
          clear h1 h2
          by_cases h3 : (k : Int) = 9
          · have h3' : ((k : Int) == 9) = true := by simp; omega
            clear h3
            go_wp2
            go_ret3
            exact ⟨by rw [HR.out]; rfl, rfl⟩
          · have h3' : ((k : Int) == 9) = false := by simp; omega
            clear h3
            go_wp2
            go_ret3
            exact ⟨by rw [HR.out]; rfl, rfl⟩
      · rw [if_neg h1] at hrd
        have h3' : ((k : Int) == 9) = false := by simp; omega
        have ea := and127' x
        have hk8 : k ≤ 8 := by omega
        have hle : (128 : Nat) ^ (k + 1) ≤ 128 ^ 9 := Nat.pow_le_pow_right (by omega) (by omega)
        have k7 : IntKind.i64.wrap (7 * (k : Int)) = 7 * (k : Int) := by rw [IntKind.wrap_i64]; omega
        have ew : wrap64 ((x.toNat : Int) % 128 * 2 ^ (7 * k)) = ((x.toNat % 128 * 2 ^ (7 * k) : Nat) : Int) := by
          have e1 : ((x.toNat : Int) % 128 * 2 ^ (7 * k)) = ((x.toNat % 128 * 2 ^ (7 * k) : Nat) : Int) := by push_cast; rfl
          rw [e1]
          unfold wrap64
          have : x.toNat % 128 * 2 ^ (7 * k) < 9223372036854775808 := by rw [← hp0]; omega
          omega
        have eo : bits .or .i64 (a : Int) (wrap64 ((x.toNat : Int) % 128 * 2 ^ (7 * k))) = ((a + x.toNat % 128 * 128 ^ k : Nat) : Int) := by
          rw [ew, hp0]
          exact bor_i64 a _ (7 * k) (by rw [← hp0]; exact ha) (by rw [← hp0]; omega)
        have hlt63 : a + x.toNat % 128 * 128 ^ k < 9223372036854775808 := by omega
        generalize a + x.toNat % 128 * 128 ^ k = n' at *
        have H1 := Lib.hid h1
        have hd : ((x.toNat : Int) == 0) = true ∧ ¬ (0 : Int) < (k : Int) ∨ ((x.toNat : Int) == 0) = false := by
          by_cases h : x.toNat = 0
          · left; exact ⟨by simp; omega, by omega⟩
          · right; simp; omega
        clear h1 hp0 hdr hx ew hle
        rcases hd with ⟨h1', h2'⟩ | h1'
        ·
          by_cases hn : 4611686018427387904 < n'
          · rw [if_pos hn] at hrd
            have HR := Lib.hid hrd
            clear hrd
            have hn' : (4611686018427387904 : Int) < (n' : Int) := by omega
            go_wp2
            go_ret3
            exact ⟨by rw [HR.out]; rfl, rfl⟩
          · rw [if_neg hn] at hrd
            have hn' : ¬ (4611686018427387904 : Int) < (n' : Int) := by omega
            have hn0 : ¬ (n' : Int) < 0 := by omega
            by_cases h8 : x.toNat < 128
            · rw [if_pos h8] at hrd
              have h8' : (x.toNat : Int) < 128 := by omega
              have HR := Lib.hid hrd
              clear hrd
              go_wp2
              go_ret3
              exact ⟨by rw [HR.out]; rfl, rfl⟩
            · rw [if_neg h8] at hrd
              have h8' : ¬ (x.toNat : Int) < 128 := by omega
              have HR := Lib.hid hrd
              have HS := Lib.hid hs128
              clear hrd hs128
              go_wp2
              go_round
              case rel => exact ⟨k + 1, n', by omega, by go_num, rfl, by have := H1.out; omega, HS.out, HR.out⟩
              case measure => simp [intOf]; omega
        ·
          by_cases hn : 4611686018427387904 < n'
          · rw [if_pos hn] at hrd
            have HR := Lib.hid hrd
            clear hrd
            have hn' : (4611686018427387904 : Int) < (n' : Int) := by omega
            go_wp2
            go_ret3
            exact ⟨by rw [HR.out]; rfl, rfl⟩
          · rw [if_neg hn] at hrd
            have hn' : ¬ (4611686018427387904 : Int) < (n' : Int) := by omega
            have hn0 : ¬ (n' : Int) < 0 := by omega
            by_cases h8 : x.toNat < 128
            · rw [if_pos h8] at hrd
              have h8' : (x.toNat : Int) < 128 := by omega
              have HR := Lib.hid hrd
              clear hrd
              go_wp2
              go_ret3
              exact ⟨by rw [HR.out]; rfl, rfl⟩
            · rw [if_neg h8] at hrd
              have h8' : ¬ (x.toNat : Int) < 128 := by omega
              have HR := Lib.hid hrd
              have HS := Lib.hid hs128
              clear hrd hs128
              go_wp2
              go_round
              case rel => exact ⟨k + 1, n', by omega, by go_num, rfl, by have := H1.out; omega, HS.out, HR.out⟩
              case measure => simp [intOf]; omega
    · obtain rfl : k = l.length := by omega
      rw [List.drop_length, readN] at hrd
      have HR := Lib.hid hrd
      clear hrd
      go_wp2
      go_ret3
      unfold ReadDid
      exact ⟨by rw [HR.out]; rfl, rfl⟩
end Go.Proofs.YtediidajdpdeiaaDoor

/- What a log of segments is and does (layer 7), as plain functions: no program is in sight. -/
namespace Go.Proofs.YtediidajdpdeiaaDoor
open CrcM

structure Sg where
  d : Dk
  base : Nat
  recs : List (List UInt8)
  safe : Nat

structure Lg where
  per : Nat
  segs : List Sg
  down : Bool

/-- the frame with which a segment begins -/
def headB (base : Nat) : List UInt8 := frame (numB base)

/-- the bodies of the frames from a place on, and where they end -/
def framesF : Nat → List UInt8 → Nat → List (List UInt8) × Nat
  | 0, _, at_ => ([], at_)
  | f + 1, b, at_ => match next b at_ with
    | .error _ => ([], at_)
    | .ok (body, en) => (body :: (framesF f b en).1, (framesF f b en).2)
def framesOf (b : List UInt8) : List (List UInt8) × Nat := framesF (b.length + 1) b 0

namespace Sg
def ok (g : Sg) : Prop := g.base ≤ 4611686018427387904 ∧ g.recs.length ≤ 349525 ∧ g.safe ≤ g.recs.length ∧ (∀ r ∈ g.recs, r.length ≤ 65536)
/-- a segment of a log that is up: its disk is up, and has room for its records -/
def up (g : Sg) : Prop := g.d.down = false ∧ 12 * g.recs.length ≤ g.d.all.length
def sync (g : Sg) : Sg := ⟨g.d.sync.1, g.base, g.recs, g.recs.length⟩
def crash (keep flip : Int) (g : Sg) : Sg := ⟨(g.d.crash keep flip).1, g.base, g.recs, g.safe⟩
def new (base : Nat) : Sg := ⟨(Dk.new.append (headB base)).1, base, [], 0⟩
end Sg

/-- what a segment's disk says when it is read: the segment, and whether all its bytes are frames -/
def scan (D : Dk) (due : Int) : Option (Sg × Bool) :=
  match (framesOf D.all).1 with
  | [] => none
  | hd :: recs => match readNum hd with
    | .error _ => none
    | .ok (n, s) => if s = hd.length ∧ (due < 0 ∨ (n : Int) = due) then some (⟨(D.cut (framesOf D.all).2).1, n, recs, recs.length⟩, decide ((framesOf D.all).2 = D.all.length)) else none

def restartK (per : Nat) (r : Option (Sg × Bool)) (go : Int → List Sg) : List Sg := match r with
  | none => []
  | some (k, whole) => k :: if whole = false ∨ k.recs.length < per then [] else go ((k.base + k.recs.length : Nat) : Int)
def restartS (per : Nat) : List Sg → Int → List Sg
  | [], _ => []
  | g :: t, due => restartK per (scan g.d.restart.1 due) (restartS per t)

def safeS : List Sg → Nat → Nat
  | [], n => n
  | g :: t, _ => if g.safe < g.recs.length then g.base + g.safe else safeS t (g.base + g.safe)

def dropS : List Sg → Int → List Sg
  | a :: b :: t, n => if (b.base : Int) ≤ n then dropS (b :: t) n else a :: b :: t
  | l, _ => l

namespace Lg
def ok (L : Lg) : Prop := 1 ≤ L.per ∧ L.per ≤ 1024 ∧ L.segs.length ≤ 256 ∧ ∀ g ∈ L.segs, g.ok
def up (L : Lg) : Prop := L.down = false → ∀ g ∈ L.segs, g.up
def new (per : Nat) : Lg := ⟨per, [], false⟩
def len (L : Lg) : Nat := if L.down then 0 else match L.segs.getLast? with
  | none => 0
  | some g => g.base + g.recs.length
def base (L : Lg) : Nat := if L.down then 0 else match L.segs.head? with
  | none => 0
  | some g => g.base
def safe (L : Lg) : Nat := if L.down then 0 else safeS L.segs L.base
def recs (L : Lg) : List (List UInt8) := if L.down then [] else L.segs.flatMap (·.recs)
def full (L : Lg) : Bool := match L.segs.getLast? with
  | none => true
  | some g => decide (g.recs.length = L.per)
/-- the segments to which a record is added -/
def room (L : Lg) : List Sg := if L.full then L.segs ++ [Sg.new L.len] else L.segs
def append (L : Lg) (rec : List UInt8) : Lg × Nat × Int :=
  if L.down then (L, 0, 10) else if 65536 < rec.length then (L, 0, 3) else if L.full = true ∧ L.segs.length = 256 then (L, 0, 7)
  else match L.room.getLast? with
  | none => (L, 0, 0)
  | some g => if (g.d.append (frame rec)).2 = 0 then (⟨L.per, L.room.dropLast ++ [⟨(g.d.append (frame rec)).1, g.base, g.recs ++ [rec], g.safe⟩], false⟩, g.base + g.recs.length, 0)
    else (⟨L.per, L.room, false⟩, 0, (g.d.append (frame rec)).2)
def sync (L : Lg) : Lg × Int := if L.down then (L, 10) else (⟨L.per, L.segs.map Sg.sync, false⟩, 0)
def drop (L : Lg) (n : Int) : Lg × Int := if L.down then (L, 10) else if (L.safe : Int) < n then (L, 2) else (⟨L.per, dropS L.segs n, false⟩, 0)
def crash (L : Lg) (keep flip : Int) : Lg × Int := if L.down then (L, 10) else if keep < 0 then (L, 2) else (⟨L.per, L.segs.map (Sg.crash keep flip), true⟩, 0)
def restart (L : Lg) : Lg × Int := if L.down then (⟨L.per, restartS L.per L.segs (-1), false⟩, 0) else (L, 9)
end Lg
end Go.Proofs.YtediidajdpdeiaaDoor
