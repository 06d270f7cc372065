/- Frames: the walks of crc.four, crc.number, crc.Frame, crc.Next. -/
import Derived.Test.YtediidajdpdeiaaDoorConcat
namespace Go.Proofs.YtediidajdpdeiaaDoor
open Go.RowKit CrcM
set_option maxRecDepth 100000

theorem four_B (w : World) (n : Nat) (hn : n < 4294967296) :
    Calls Tryd.prog 76 #[.int .u32 (n : Int)] w (Cloned w (four n)) := by
  go_enter Tryd.func76, Tryd.ntmps76
  go_wp2
  go_ret
  have e : (#[.int .u8 ((n : Int) % 256), .int .u8 ((n : Int) / 256 % 256), .int .u8 ((n : Int) / 65536 % 256), .int .u8 ((n : Int) / 16777216)] : Array Value).toList = (four n).map byteV := by
    have a0 : (n : Int) % 256 = ((n % 256 : Nat) : Int) := by omega
    have a1 : (n : Int) / 256 % 256 = ((n / 256 % 256 : Nat) : Int) := by omega
    have a2 : (n : Int) / 65536 % 256 = ((n / 65536 % 256 : Nat) : Int) := by omega
    have a3 : (n : Int) / 16777216 = ((n / 16777216 % 256 : Nat) : Int) := by omega
    rw [a0, a1, a2, a3]
    simp only [four, List.map_cons, List.map_nil, byteV, byte_mod]
  refine ⟨some ⟨w.heap.size, 0, none⟩, 4, rfl, ⟨by rw [List.length_map]; rfl, .inr ⟨w.heap.size, 4, _, rfl, Nat.le_refl _, heap_alloc_new w _, Nat.le_refl _, by simp [maxLen], rfl, ?_⟩⟩, Nat.le_refl _, by simp [maxLen], (Below.refl _ _).alloc (Nat.le_refl _) _⟩
  rw [e]
  exact List.take_of_length_le (by simp [length_four])

theorem ofNat32 (n : Nat) (h : n < 4294967296) : BitVec.ofInt IntKind.u32.bits (n : Int) = BitVec.ofNat 32 n := by
  show BitVec.ofInt 32 _ = _
  rw [ofInt32]
theorem bor_nat (a b : Nat) (ha : a < 4294967296) (hb : b < 4294967296) : bits .or .u32 (a : Int) (b : Int) = ((a ||| b : Nat) : Int) := by
  have h : a ||| b < 2 ^ 32 := Nat.or_lt_two_pow (by omega) (by omega)
  have h' : a ||| b < 4294967296 := h
  unfold bits
  simp only [ofNat32 a ha, ofNat32 b hb]
  have e3 : (BitVec.ofNat 32 a ||| BitVec.ofNat 32 b).toNat = a ||| b := by
    rw [BitVec.toNat_or, BitVec.toNat_ofNat, BitVec.toNat_ofNat, Nat.mod_eq_of_lt ha, Nat.mod_eq_of_lt hb]
  have := wrap_u32 (a ||| b) h'
  rw [← e3] at this ⊢
  exact this
theorem or_add (a b i : Nat) (h : a < 2 ^ i) : a ||| b * 2 ^ i = a + b * 2 ^ i := by
  have := Nat.shiftLeft_add_eq_or_of_lt h b
  rw [Nat.shiftLeft_eq] at this
  rw [Nat.or_comm, ← this, Nat.add_comm]
theorem num4_val (x0 x1 x2 x3 : UInt8) (l : List UInt8) : bits BinOp.or IntKind.u32
              (bits BinOp.or IntKind.u32
                (bits BinOp.or IntKind.u32 (IntKind.u32.wrap x0.toNat)
                  (IntKind.u32.wrap (IntKind.u32.wrap x1.toNat * 256)))
                (IntKind.u32.wrap (IntKind.u32.wrap x2.toNat * 65536)))
              (IntKind.u32.wrap (IntKind.u32.wrap x3.toNat * 16777216)) = ((num4 (x0 :: x1 :: x2 :: x3 :: l) : Nat) : Int) := by
  have b0 := x0.toNat_lt
  have b1 := x1.toNat_lt
  have b2 := x2.toNat_lt
  have b3 := x3.toNat_lt
  have w0 : IntKind.u32.wrap (x0.toNat : Int) = (x0.toNat : Int) := wrap_u32 _ (by omega)
  have w1 : IntKind.u32.wrap (x1.toNat : Int) = (x1.toNat : Int) := wrap_u32 _ (by omega)
  have w2 : IntKind.u32.wrap (x2.toNat : Int) = (x2.toNat : Int) := wrap_u32 _ (by omega)
  have w3 : IntKind.u32.wrap (x3.toNat : Int) = (x3.toNat : Int) := wrap_u32 _ (by omega)
  rw [w0, w1, w2, w3]
  have v1 : IntKind.u32.wrap ((x1.toNat : Int) * 256) = ((x1.toNat * 256 : Nat) : Int) := wrap_u32 (x1.toNat * 256) (by omega)
  have v2 : IntKind.u32.wrap ((x2.toNat : Int) * 65536) = ((x2.toNat * 65536 : Nat) : Int) := wrap_u32 (x2.toNat * 65536) (by omega)
  have v3 : IntKind.u32.wrap ((x3.toNat : Int) * 16777216) = ((x3.toNat * 16777216 : Nat) : Int) := wrap_u32 (x3.toNat * 16777216) (by omega)
  rw [v1, v2, v3, bor_nat _ _ (by omega) (by omega)]
  have o1 : x0.toNat ||| x1.toNat * 256 = x0.toNat + x1.toNat * 256 := or_add _ _ 8 (by omega)
  rw [o1, bor_nat _ _ (by omega) (by omega)]
  have o2 : x0.toNat + x1.toNat * 256 ||| x2.toNat * 65536 = x0.toNat + x1.toNat * 256 + x2.toNat * 65536 := or_add _ _ 16 (by omega)
  rw [o2, bor_nat _ _ (by omega) (by omega)]
  have o3 : x0.toNat + x1.toNat * 256 + x2.toNat * 65536 ||| x3.toNat * 16777216 = x0.toNat + x1.toNat * 256 + x2.toNat * 65536 + x3.toNat * 16777216 := or_add _ _ 24 (by omega)
  rw [o3]
  rfl

theorem number_B (w : World) (A : Option Addr) (l : List UInt8) (n c : Nat) (hr : Rd Non w A l) (hl : l.length = n) (h4 : 4 ≤ n) :
    Calls Tryd.prog 79 #[.slice A n c] w fun e w' => e = .returned (.int .u32 (num4 l : Int)) ∧ w' = w.drew := by
  obtain ⟨x0, x1, x2, x3, l', rfl⟩ : ∃ x0 x1 x2 x3 l', l = x0 :: x1 :: x2 :: x3 :: l' := by
    match l, hl with
    | x0 :: x1 :: x2 :: x3 :: l', _ => exact ⟨x0, x1, x2, x3, l', rfl⟩
    | [], h => simp at h; omega
    | [_], h => simp at h; omega
    | [_, _], h => simp at h; omega
    | [_, _, _], h => simp at h; omega
  obtain ⟨ad, rfl, c0, _⟩ := hr 0 x0 rfl
  obtain ⟨ad1, e1, c1, _⟩ := hr 1 x1 rfl
  obtain ⟨ad2, e2, c2, _⟩ := hr 2 x2 rfl
  obtain ⟨ad3, e3, c3, _⟩ := hr 3 x3 rfl
  injection e1 with e1; subst e1
  injection e2 with e2; subst e2
  injection e3 with e3; subst e3
  unfold byteV at c0 c1 c2 c3
  have b0 := x0.toNat_lt
  have b1 := x1.toNat_lt
  have b2 := x2.toNat_lt
  have b3 := x3.toNat_lt
  have c0 : w.cell? ad = some (.int .u8 (x0.toNat : Int)) := c0
  have n0 : 0 < n := by omega
  have n1 : 1 < n := by omega
  have n2 : 2 < n := by omega
  have n3 : 3 < n := by omega
  have g0 : (0 : Int) < (n : Int) := by omega
  have g1 : (1 : Int) < (n : Int) := by omega
  have g2 : (2 : Int) < (n : Int) := by omega
  have g3 : (3 : Int) < (n : Int) := by omega
  clear hr hl
  obtain ⟨g, o, sp⟩ := ad
  obtain rfl : sp = none := by
    cases sp with
    | none => rfl
    | some _ =>
      exfalso
      unfold World.cell? at c0
      split at c0 <;> simp_all
  go_enter Tryd.func79, Tryd.ntmps79
  go_wp2
  refine wp_region_T #[[], [], [], [2], [], [], [], [6], [6], [2, 6], [], [], [], [12], [12], [2, 6, 12], [], [], [], [18], [18], [2, 6, 12, 18], [2, 6, 12, 18]] [2, 6, 12, 18] (fun w' => w'.cell? ⟨g, o, none⟩ = some (.int .u8 (x0.toNat : Int)) ∧ w'.cell? ⟨g, o + 1, none⟩ = some (.int .u8 (x1.toNat : Int)) ∧ w'.cell? ⟨g, o + 2, none⟩ = some (.int .u8 (x2.toNat : Int)) ∧ w'.cell? ⟨g, o + 3, none⟩ = some (.int .u8 (x3.toNat : Int))) 23 rfl (by kernel_rfl) ?_
  (refine wpAnyT_free (i := 0) rfl (by kernel_rfl) rfl (fun _ _ _ h => h) (by kernel_rfl) (fun _ => by go_simp; try rfl) ?_; (try simp only [Act.put, List.setIfInBounds_toArray, List.set_cons_zero, List.set_cons_succ]))
  (refine wpAnyT_free (i := 1) rfl (by kernel_rfl) rfl (fun _ _ _ h => h) (by kernel_rfl) (fun _ => by go_simp; try rfl) ?_; (try simp only [Act.put, List.setIfInBounds_toArray, List.set_cons_zero, List.set_cons_succ]))
  (refine wpAnyT_read (i := 2) rfl (by kernel_rfl) rfl (fun _ _ _ h => h) (by kernel_rfl) (⟨c0, c1, c2, c3⟩) (fun w hS_ => by obtain ⟨s_1, s_2⟩ := hS_; go_simp; try rfl) ?_; (try simp only [Act.put, List.setIfInBounds_toArray, List.set_cons_zero, List.set_cons_succ]))
  (refine wpAnyT_free (i := 3) rfl (by kernel_rfl) rfl (fun _ _ _ h => h) (by kernel_rfl) (fun _ => by go_simp; try rfl) ?_; (try simp only [Act.put, List.setIfInBounds_toArray, List.set_cons_zero, List.set_cons_succ]))
  (refine wpAnyT_free (i := 4) rfl (by kernel_rfl) rfl (fun _ _ _ h => h) (by kernel_rfl) (fun _ => by go_simp; try rfl) ?_; (try simp only [Act.put, List.setIfInBounds_toArray, List.set_cons_zero, List.set_cons_succ]))
  (refine wpAnyT_free (i := 5) rfl (by kernel_rfl) rfl (fun _ _ _ h => h) (by kernel_rfl) (fun _ => by go_simp; try rfl) ?_; (try simp only [Act.put, List.setIfInBounds_toArray, List.set_cons_zero, List.set_cons_succ]))
  (refine wpAnyT_read (i := 6) rfl (by kernel_rfl) rfl (fun _ _ _ h => h) (by kernel_rfl) (⟨c0, c1, c2, c3⟩) (fun w hS_ => by obtain ⟨s_1, s_2⟩ := hS_; go_simp; try rfl) ?_; (try simp only [Act.put, List.setIfInBounds_toArray, List.set_cons_zero, List.set_cons_succ]))
  (refine wpAnyT_free (i := 7) rfl (by kernel_rfl) rfl (fun _ _ _ h => h) (by kernel_rfl) (fun _ => by go_simp; try rfl) ?_; (try simp only [Act.put, List.setIfInBounds_toArray, List.set_cons_zero, List.set_cons_succ]))
  (refine wpAnyT_free (i := 8) rfl (by kernel_rfl) rfl (fun _ _ _ h => h) (by kernel_rfl) (fun _ => by go_simp; try rfl) ?_; (try simp only [Act.put, List.setIfInBounds_toArray, List.set_cons_zero, List.set_cons_succ]))
  (refine wpAnyT_free (i := 9) rfl (by kernel_rfl) rfl (fun _ _ _ h => h) (by kernel_rfl) (fun _ => by go_simp; try rfl) ?_; (try simp only [Act.put, List.setIfInBounds_toArray, List.set_cons_zero, List.set_cons_succ]))
  (refine wpAnyT_free (i := 10) rfl (by kernel_rfl) rfl (fun _ _ _ h => h) (by kernel_rfl) (fun _ => by go_simp; try rfl) ?_; (try simp only [Act.put, List.setIfInBounds_toArray, List.set_cons_zero, List.set_cons_succ]))
  (refine wpAnyT_free (i := 11) rfl (by kernel_rfl) rfl (fun _ _ _ h => h) (by kernel_rfl) (fun _ => by go_simp; try rfl) ?_; (try simp only [Act.put, List.setIfInBounds_toArray, List.set_cons_zero, List.set_cons_succ]))
  (refine wpAnyT_read (i := 12) rfl (by kernel_rfl) rfl (fun _ _ _ h => h) (by kernel_rfl) (⟨c0, c1, c2, c3⟩) (fun w hS_ => by obtain ⟨s_1, s_2⟩ := hS_; go_simp; try rfl) ?_; (try simp only [Act.put, List.setIfInBounds_toArray, List.set_cons_zero, List.set_cons_succ]))
  (refine wpAnyT_free (i := 13) rfl (by kernel_rfl) rfl (fun _ _ _ h => h) (by kernel_rfl) (fun _ => by go_simp; try rfl) ?_; (try simp only [Act.put, List.setIfInBounds_toArray, List.set_cons_zero, List.set_cons_succ]))
  (refine wpAnyT_free (i := 14) rfl (by kernel_rfl) rfl (fun _ _ _ h => h) (by kernel_rfl) (fun _ => by go_simp; try rfl) ?_; (try simp only [Act.put, List.setIfInBounds_toArray, List.set_cons_zero, List.set_cons_succ]))
  (refine wpAnyT_free (i := 15) rfl (by kernel_rfl) rfl (fun _ _ _ h => h) (by kernel_rfl) (fun _ => by go_simp; try rfl) ?_; (try simp only [Act.put, List.setIfInBounds_toArray, List.set_cons_zero, List.set_cons_succ]))
  (refine wpAnyT_free (i := 16) rfl (by kernel_rfl) rfl (fun _ _ _ h => h) (by kernel_rfl) (fun _ => by go_simp; try rfl) ?_; (try simp only [Act.put, List.setIfInBounds_toArray, List.set_cons_zero, List.set_cons_succ]))
  (refine wpAnyT_free (i := 17) rfl (by kernel_rfl) rfl (fun _ _ _ h => h) (by kernel_rfl) (fun _ => by go_simp; try rfl) ?_; (try simp only [Act.put, List.setIfInBounds_toArray, List.set_cons_zero, List.set_cons_succ]))
  (refine wpAnyT_read (i := 18) rfl (by kernel_rfl) rfl (fun _ _ _ h => h) (by kernel_rfl) (⟨c0, c1, c2, c3⟩) (fun w hS_ => by obtain ⟨s_1, s_2⟩ := hS_; go_simp; try rfl) ?_; (try simp only [Act.put, List.setIfInBounds_toArray, List.set_cons_zero, List.set_cons_succ]))
  (refine wpAnyT_free (i := 19) rfl (by kernel_rfl) rfl (fun _ _ _ h => h) (by kernel_rfl) (fun _ => by go_simp; try rfl) ?_; (try simp only [Act.put, List.setIfInBounds_toArray, List.set_cons_zero, List.set_cons_succ]))
  (refine wpAnyT_free (i := 20) rfl (by kernel_rfl) rfl (fun _ _ _ h => h) (by kernel_rfl) (fun _ => by go_simp; try rfl) ?_; (try simp only [Act.put, List.setIfInBounds_toArray, List.set_cons_zero, List.set_cons_succ]))
  (refine wpAnyT_free (i := 21) rfl (by kernel_rfl) rfl (fun _ _ _ h => h) (by kernel_rfl) (fun _ => by go_simp; try rfl) ?_; (try simp only [Act.put, List.setIfInBounds_toArray, List.set_cons_zero, List.set_cons_succ]))
  (refine wpAnyT_free (i := 22) rfl (by kernel_rfl) rfl (fun _ _ _ h => h) (by kernel_rfl) (fun _ => by go_simp; try rfl) ?_; (try simp only [Act.put, List.setIfInBounds_toArray, List.set_cons_zero, List.set_cons_succ]))
  refine wpAnyT_done (by kernel_rfl) ?_ _
  rw [num4_val x0 x1 x2 x3 l']
  go_wp2
  go_ret
  exact ⟨rfl, rfl⟩

theorem below_new (w : World) (o : Obj) : Below w.heap.size w (w.alloc o) := (Below.refl _ _).alloc (Nat.le_refl _) o
theorem parts_blk {w : World} {g : Nat} {t : TypeId} {vs : Array Value} (h : Blk w g t vs) (parts : List (List UInt8)) (hv : ∀ (j : Nat) (l : List UInt8), parts[j]? = some l → ∃ A c, vs[j]? = some (Value.slice A l.length c) ∧ l.length ≤ maxLen ∧ Rd Non w A l) : PartsAt w (some ⟨g, 0, none⟩) parts := fun j l hj => by
  obtain ⟨A, c, e, hm, hr⟩ := hv j l hj
  refine ⟨_, A, c, rfl, ?_, hm, hr⟩
  rw [add_mk, Nat.zero_add]
  exact h.cell j e
theorem parts_1 {w : World} {t : TypeId} {A : Option Addr} {l : List UInt8} {c n : Nat} (hn : l.length = n) (hr : Rd Non w A l) (hm : n ≤ maxLen) : PartsAt (w.alloc (.cells #[.slice A n c] t)) (some ⟨w.heap.size, 0, none⟩) [l] := by
  subst hn
  refine parts_blk (Blk.new w t _) _ ?_
  intro j x hj
  match j, hj with
  | 0, hj => injection hj with hj; subst hj; exact ⟨A, c, rfl, hm, hr.below (below_new w _)⟩
  | j + 1, hj => simp at hj
theorem sum_1 (w : World) (hh : HalfAt w) (A : Option Addr) (l : List UInt8) (c n : Nat) (t : TypeId) (hn : l.length = n) (hr : Rd Non w A l) (hm : n ≤ maxLen) :
    Calls Tryd.prog 24 #[.slice (some ⟨w.heap.size, 0, none⟩) 1 1] (w.alloc (.cells #[.slice A n c] t)) fun e w' => e = .returned (.int .u32 ((sum l).toNat : Int)) ∧ w.alloc (.cells #[.slice A n c] t) = w' := by
  refine (sum_B _ (hh.below (below_new _ _) hh.lt) _ [l] 1 (parts_1 hn hr hm) (by simp [maxLen])).mono ?_
  rintro e w2 ⟨rfl, rfl⟩
  rw [show [l].flatten = l from List.append_nil _]
  exact ⟨rfl, rfl⟩
theorem sum_1d (w : World) (hh : HalfAt w) (A : Option Addr) (l : List UInt8) (c n : Nat) (t : TypeId) (hn : l.length = n) (hr : Rd Non w A l) (hm : n ≤ maxLen) :
    Calls Tryd.prog 24 #[.slice (some ⟨w.heap.size, 0, none⟩) 1 1] (w.alloc (.cells #[.slice A n c] t)).drew fun e w' => e = .returned (.int .u32 ((sum l).toNat : Int)) ∧ (w.alloc (.cells #[.slice A n c] t)).drew = w' := by
  have hp : PartsAt (w.alloc (.cells #[.slice A n c] t)).drew (some ⟨w.heap.size, 0, none⟩) [l] := parts_1 hn hr hm
  have hh1 : HalfAt (w.alloc (.cells #[.slice A n c] t)).drew := hh.below (below_new w _).drew hh.lt
  refine (sum_B _ hh1 _ [l] 1 hp (by simp [maxLen])).mono ?_
  rintro e w2 ⟨rfl, rfl⟩
  rw [show [l].flatten = l from List.append_nil _]
  exact ⟨rfl, rfl⟩
theorem Cloned.rd {w w' : World} {A : Option Addr} {c : Nat} {l : List UInt8} (h : w'.ownsRow w.heap.size TB 1 (.slice A l.length c) l.length (l.map byteV)) : Rd Non w' A l := (Own.of_row' h).rd _

/-- what a function that makes a row of bytes and a code leaves -/
def Made (w : World) (l : List UInt8) (r : Int) (e : Ending) (w' : World) : Prop :=
  ∃ A' c', e = .returned (.tuple #[.slice A' l.length c', .int .i64 r]) ∧ Own (New w) w' A' l ∧ l.length ≤ c' ∧ c' ≤ maxLen ∧ Below w.heap.size w w'

/-- the same, and the row is one's own -/
def MadeR (w : World) (l : List UInt8) (r : Int) (e : Ending) (w' : World) : Prop :=
  ∃ A' c', e = .returned (.tuple #[.slice A' l.length c', .int .i64 r]) ∧ w'.ownsRow w.heap.size TB 1 (.slice A' l.length c') l.length (l.map byteV) ∧ l.length ≤ c' ∧ c' ≤ maxLen ∧ Below w.heap.size w w'
theorem MadeR.made {w w' : World} {l : List UInt8} {r : Int} {e : Ending} (h : MadeR w l r e w') : Made w l r e w' := by
  obtain ⟨A', c', h1, h2, h3, h4, h5⟩ := h
  exact ⟨A', c', h1, Own.of_row' h2, h3, h4, h5⟩
theorem ownsRow_mono {w : World} {base base' : Nat} {e : TypeId} {size : Nat} {v : Value} {n : Nat} {xs : List Value} (h : w.ownsRow base e size v n xs) (hb : base' ≤ base) : w.ownsRow base' e size v n xs := by
  refine ⟨h.1, h.2.imp_right ?_⟩
  rintro ⟨g, cap, cur, h1, h2, h3⟩
  exact ⟨g, cap, cur, h1, by omega, h3⟩

theorem frame_R (w : World) (hh : HalfAt w) (A : Option Addr) (l : List UInt8) (c n : Nat) (hr : Rd Non w A l) (hl : l.length = n) (hn : n ≤ maxLen) :
    Calls Tryd.prog 26 #[.slice A n c] w fun e w' =>
      if n ≤ 65536 then MadeR w (frame l) 0 e w' else e = .returned (.tuple #[.slice none 0 0, .int .i64 3]) ∧ w' = w := by
  unfold maxLen at hn
  by_cases h : n ≤ 65536
  · simp only [if_pos h]
    go_enter Tryd.func26, Tryd.ntmps26
    have g : ¬ (65536 : Int) < (n : Int) := by omega
    have HL := Lib.hid hl
    clear hl
    go_wp2_with (go_at_call 76; refine (four_B _ n (by omega)).mono ?_; rintro e w1 ⟨A1, c1, rfl, ho1, hc1, hm1, hb1⟩)
    have r1 := Cloned.rd ho1
    have hh1 := hh.below hb1 hh.lt
    clear ho1
    rw [length_four] at hc1 ⊢
    go_at_call 24
    refine (sum_1 _ hh1 A1 (four n) c1 4 _ (length_four n) r1 (by simp [maxLen])).mono ?_
    rintro e w2 ⟨rfl, rfl⟩
    have k1 := (sum (four n)).isLt
    have hb2 := hb1.alloc hb1.size (.cells #[.slice A1 4 c1] 22)
    have hh2 := hh.below hb2 hh.lt
    have r2 := r1.below (below_new w1 (.cells #[.slice A1 4 c1] 22))
    generalize w1.alloc (.cells #[.slice A1 4 c1] 22) = w2 at *
    generalize hv1 : (sum (four n)).toNat = v1 at *
    have HV1 := Lib.hid hv1
    clear hv1 hb1 hh1 r1
    go_wp2_with (go_at_call 76; refine (four_B _ v1 k1).mono ?_; rintro e w3 ⟨A2, c2, rfl, ho2, hc2, hm2, hb3⟩)
    have r3 := Cloned.rd ho2
    rw [length_four] at hc2 ⊢
    clear ho2
    have hR3 := r2.below hb3
    have hB3 := hb2.trans (hb3.mono hb2.size)
    have hr3 := hr.below hB3
    go_at_call 24
    refine (sum_1 _ (hh.below hB3 hh.lt) A l c n _ HL.out hr3 (by simp [maxLen]; omega)).mono ?_
    rintro e w4 ⟨rfl, rfl⟩
    have k2 := (sum l).isLt
    have hB4 := hB3.alloc hB3.size (.cells #[.slice A n c] 22)
    have hb4 := below_new w3 (.cells #[.slice A n c] 22)
    generalize w3.alloc (.cells #[.slice A n c] 22) = w4 at *
    generalize hv2 : (sum l).toNat = v2 at *
    have HV2 := Lib.hid hv2
    have hR4 := hR3.below hb4
    have r4 := r3.below hb4
    clear hv2 hB3 hr3 r3 hR3 hb4 hb3 r2 hh2 hb2
    go_wp2_with (go_at_call 76; refine (four_B _ v2 k2).mono ?_; rintro e w5 ⟨A3, c3, rfl, ho3, hc3, hm3, hb5⟩)
    have r5 := Cloned.rd ho3
    rw [length_four] at hc3 ⊢
    clear ho3
    have hR5 := hR4.below hb5
    have q5 := r4.below hb5
    have hB5 := hB4.trans (hb5.mono hB4.size)
    have hr5 := hr.below hB5
    have hB6 := hB5.alloc hB5.size (.cells #[.slice A1 4 c1, .slice A2 4 c2, .slice A3 4 c3, .slice A n c] 22)
    have hb6 := below_new w5 (.cells #[.slice A1 4 c1, .slice A2 4 c2, .slice A3 4 c3, .slice A n c] 22)
    have hP : PartsAt (w5.alloc (.cells #[.slice A1 4 c1, .slice A2 4 c2, .slice A3 4 c3, .slice A n c] 22)) (some ⟨w5.heap.size, 0, none⟩) [four n, four v1, four v2, l] := by
      refine parts_blk (Blk.new w5 _ _) _ ?_
      intro j x hj
      match j, hj with
      | 0, hj => injection hj with hj; subst hj; exact ⟨A1, c1, rfl, by simp [maxLen, length_four], hR5.below hb6⟩
      | 1, hj => injection hj with hj; subst hj; exact ⟨A2, c2, rfl, by simp [maxLen, length_four], q5.below hb6⟩
      | 2, hj => injection hj with hj; subst hj; exact ⟨A3, c3, rfl, by simp [maxLen, length_four], r5.below hb6⟩
      | 3, hj => injection hj with hj; subst hj; exact ⟨A, c, by rw [HL.out]; rfl, by rw [HL.out]; exact hn, hr5.below hb6⟩
      | j + 4, hj => simp at hj
    have eF : [four n, four v1, four v2, l].flatten = frame l := by
      rw [← HV1.out, ← HV2.out]
      simp only [frame, HL.out, List.flatten_cons, List.flatten_nil, List.append_nil]
    generalize w5.alloc (.cells #[.slice A1 4 c1, .slice A2 4 c2, .slice A3 4 c3, .slice A n c] 22) = w6 at *
    go_at_call 77
    refine (concat_B w6 _ [four n, four v1, four v2, l] 4 hP (by simp [maxLen]) (by rw [eF, length_frame, HL.out]; omega)).mono ?_
    rw [eF]
    rintro e w7 ⟨A7, c7, rfl, ho7, hc7, hm7, hb7⟩
    have hB7 := hB6.trans (hb7.mono hB6.size)
    have hO := ownsRow_mono ho7 hB6.size
    clear ho7 hP eF hb6
    go_wp2
    go_ret2
    exact ⟨A7, c7, rfl, hO, hc7, hm7, hB7⟩
  · simp only [if_neg h]
    go_enter Tryd.func26, Tryd.ntmps26
    have g : (65536 : Int) < (n : Int) := by omega
    go_wp2
    go_ret2
    exact ⟨rfl, rfl⟩
theorem frame_B (w : World) (hh : HalfAt w) (A : Option Addr) (l : List UInt8) (c n : Nat) (hr : Rd Non w A l) (hl : l.length = n) (hn : n ≤ maxLen) :
    Calls Tryd.prog 26 #[.slice A n c] w fun e w' =>
      if n ≤ 65536 then Made w (frame l) 0 e w' else e = .returned (.tuple #[.slice none 0 0, .int .i64 3]) ∧ w' = w := by
  refine (frame_R w hh A l c n hr hl hn).mono fun e w' h => ?_
  by_cases hn : n ≤ 65536
  · simp only [if_pos hn] at h ⊢; exact h.made
  · simp only [if_neg hn] at h ⊢; exact h
end Go.Proofs.YtediidajdpdeiaaDoor
