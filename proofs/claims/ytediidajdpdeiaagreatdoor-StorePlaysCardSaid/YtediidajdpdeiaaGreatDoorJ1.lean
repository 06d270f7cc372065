/- slices.Concat at lists of bytes: the walk. -/
import Derived.Test.YtediidajdpdeiaaGreatDoorJ0
import Derived.OwnWalk

namespace Go.Proofs.YtediidajdpdeiaaGreatDoor
open Go.RowKit
set_option maxRecDepth 100000

theorem Rd.below {w w' : World} {A : Option Addr} {l : List UInt8} (h : Rd Non w A l) (hb : Below w.heap.size w w') : Rd Non w' A l := h.fr (Fr.of_below hb)
theorem PartsAt.below {w w' : World} {P : Option Addr} {parts : List (List UInt8)} (h : PartsAt w P parts) (hb : Below w.heap.size w w') : PartsAt w' P parts := fun j l hl => by
  obtain ⟨ad, A, c, e, hc, hm, hr⟩ := h j l hl
  exact ⟨ad, A, c, e, (hb.cell (p := ad.add j) (cell_lt hc)).trans hc, hm, hr.below hb⟩

theorem grow_nil (m : Nat) (w : World) (hm : m ≤ 70368744177664) :
    Calls Tryz.prog 149 #[.slice none 0 0, .int .i64 m] w fun e w' => ∃ v, e = .returned v ∧ w'.ownsRow w.heap.size TB 1 v 0 (([] : List UInt8).map byteV) ∧ Below w.heap.size w w' := by
  rcases Nat.eq_zero_or_pos m with h0 | h0
  · subst h0
    refine (grow_zero none 0 w (by omega)).mono ?_
    rintro e w' ⟨rfl, rfl⟩
    exact ⟨_, rfl, World.ownsRow_nil _ _ _ _, Below.refl _ _⟩
  · refine (grow_B Non none [] m w (Rd.nil _ _ _) h0 (by simpa using hm)).mono ?_
    rintro e w' ⟨c, cur, rfl, h1, h2, h3, h4, rfl⟩
    refine ⟨_, rfl, ⟨by simp, .inr ⟨w.heap.size, c, cur, rfl, Nat.le_refl _, heap_alloc_new w.drew _, by simp, h2, by omega, by simp⟩⟩, (Below.refl _ _).drew.alloc (by exact Nat.le_refl _) _⟩

theorem flatten_take_le (parts : List (List UInt8)) (k : Nat) : (parts.take k).flatten.length ≤ parts.flatten.length := by
  have h := congrArg (fun l : List (List UInt8) => l.flatten.length) (List.take_append_drop k parts)
  simp only [List.flatten_append, List.length_append] at h
  omega

set_option maxHeartbeats 1000000 in
theorem concat_B (w : World) (P : Option Addr) (parts : List (List UInt8)) (pc : Nat) (hp : PartsAt w P parts) (hlen : parts.length ≤ maxLen) (htot : parts.flatten.length ≤ 70368744177664) :
    Calls Tryz.prog 114 #[.slice P parts.length pc] w (Cloned w parts.flatten) := by
  unfold maxLen at hlen
  obtain ⟨i, hi, hz, hs, hb⟩ := info_parts info_u8
  go_enter Tryz.func114, Tryz.ntmps114
  go_wp2
  go_loop [3, 11] (fun r i => ∃ k : Nat, k ≤ parts.length ∧ i = .int .i64 k ∧ r = .int .i64 ((parts.take k).flatten.length : Int)) (fun _ i => parts.length - (intOf i).toNat)
  case atStart => exact ⟨0, by omega, rfl, rfl⟩
  case round =>
    obtain ⟨k, hk, rfl, rfl⟩ := hrel
    by_cases hlt : k < parts.length
    · obtain ⟨l, hl⟩ : ∃ l, parts[k]? = some l := ⟨_, List.getElem?_eq_getElem hlt⟩
      obtain ⟨ad, A, c, rfl, hc, hll, hr⟩ := hp k l hl
      have e1 : (parts.take (k + 1)).flatten.length = (parts.take k).flatten.length + l.length := by rw [List.take_add_one, hl]; simp
      have e2 := flatten_take_le parts (k + 1)
      rw [e1] at e2
      have HS := Lib.hid e1
      generalize (parts.take k).flatten.length = n at *
      clear hl e1
      go_wp2
      go_round
      case rel => exact ⟨k + 1, by omega, by go_num, by rw [HS.out]; go_num⟩
      case measure => simp [intOf]; omega
    · obtain rfl : k = parts.length := by omega
      have e3 : (parts.take parts.length).flatten.length = parts.flatten.length := by rw [List.take_length]
      rw [e3]
      generalize hn : parts.flatten.length = n at *
      have HN := Lib.hid hn
      clear hn e3
      go_wp2_with (go_at_call 149; refine (grow_nil n _ htot).mono ?_; rintro e w1 ⟨v1, rfl, ho, hb1⟩)
      go_loopw [6, 27] (fun v i wr => ∃ j : Nat, j ≤ parts.length ∧ i = .int .i64 j ∧ wr.ownsRow w.heap.size TB 1 v (parts.take j).flatten.length ((parts.take j).flatten.map byteV) ∧ Below w.heap.size w wr) (fun _ i _ => parts.length - (intOf i).toNat)
      case atStart => exact ⟨0, by omega, rfl, by simpa using ho, hb1⟩
      case round =>
        obtain ⟨j, hj, rfl, hown, hbel⟩ := hrel
        by_cases hlj : j < parts.length
        · obtain ⟨l, hl⟩ : ∃ l, parts[j]? = some l := ⟨_, List.getElem?_eq_getElem hlj⟩
          obtain ⟨ad, A, c, rfl, hc, hll, hr⟩ := hp.below hbel j l hl
          have e1 : (parts.take (j + 1)).flatten = (parts.take j).flatten ++ l := by rw [List.take_add_one, hl]; simp
          have e2 := flatten_take_le parts (j + 1)
          rw [HN.out, e1, List.length_append] at e2
          have HS := Lib.hid e1
          generalize (parts.take j).flatten = pre at *
          clear hl e1
          obtain ⟨Av, cv, rfl, _, _⟩ := own_val hown
          go_wp2_with (at_builtin
                       refine wpList_appB rfl (.tmp 31) (.tmp 32) 30 rfl i Tryz.underlying30 hi hz hs hb w.heap.size _ pre.length pre rfl hown Non A l.length c l rfl rfl hr (by omega) hbel.size ?_
                       intro v2 w2 hown2 hgrow hat)
          go_roundw
          case rel => exact ⟨j + 1, by omega, by go_num, by rw [HS.out, List.length_append]; exact hown2, hbel.grown hgrow hbel.size (fun k hk => (hown.lt k hk).1)⟩
          case measure => simp [intOf]; omega
        · obtain rfl : j = parts.length := by omega
          rw [List.take_length] at hown
          obtain ⟨Av, cv, rfl, hc1, hc2⟩ := own_val hown
          go_wp2
          go_ret
          exact ⟨Av, cv, rfl, hown, hc1, hc2, hbel⟩
end Go.Proofs.YtediidajdpdeiaaGreatDoor

/- Frames: the walks of crc.four, crc.number, crc.Frame, crc.Next. -/
namespace Go.Proofs.YtediidajdpdeiaaGreatDoor
open Go.RowKit CrcM
set_option maxRecDepth 100000

theorem four_B (w : World) (n : Nat) (hn : n < 4294967296) :
    Calls Tryz.prog 113 #[.int .u32 (n : Int)] w (Cloned w (four n)) := by
  go_enter Tryz.func113, Tryz.ntmps113
  go_wp2
  go_ret
  have e : (#[.int .u8 ((n : Int) % 256), .int .u8 ((n : Int) / 256 % 256), .int .u8 ((n : Int) / 65536 % 256), .int .u8 ((n : Int) / 16777216)] : Array Value).toList = (four n).map byteV := by
    have a0 : (n : Int) % 256 = ((n % 256 : Nat) : Int) := by omega
    have a1 : (n : Int) / 256 % 256 = ((n / 256 % 256 : Nat) : Int) := by omega
    have a2 : (n : Int) / 65536 % 256 = ((n / 65536 % 256 : Nat) : Int) := by omega
    have a3 : (n : Int) / 16777216 = ((n / 16777216 % 256 : Nat) : Int) := by omega
    rw [a0, a1, a2, a3]
    simp only [four, List.map_cons, List.map_nil, byteV, byte_mod]
  refine ⟨some ⟨w.heap.size, 0, none⟩, 4, rfl, ⟨by rw [List.length_map]; rfl, .inr ⟨w.heap.size, 4, _, rfl, Nat.le_refl _, heap_alloc_new w _, Nat.le_refl _, by simp [maxLen], rfl, ?_⟩⟩, Nat.le_refl _, by simp [maxLen], (Below.refl _ _).alloc (Nat.le_refl _) _⟩
  rw [e]
  exact List.take_of_length_le (by simp [length_four])

theorem ofNat32 (n : Nat) (_h : n < 4294967296) : BitVec.ofInt IntKind.u32.bits (n : Int) = BitVec.ofNat 32 n := by
  show BitVec.ofInt 32 _ = _
  rw [ofInt32]
theorem bor_nat (a b : Nat) (ha : a < 4294967296) (hb : b < 4294967296) : bits .or .u32 (a : Int) (b : Int) = ((a ||| b : Nat) : Int) := by
  have h : a ||| b < 2 ^ 32 := Nat.or_lt_two_pow (by omega) (by omega)
  have h' : a ||| b < 4294967296 := h
  unfold bits
  simp only [ofNat32 a ha, ofNat32 b hb]
  have e3 : (BitVec.ofNat 32 a ||| BitVec.ofNat 32 b).toNat = a ||| b := by
    rw [BitVec.toNat_or, BitVec.toNat_ofNat, BitVec.toNat_ofNat, Nat.mod_eq_of_lt ha, Nat.mod_eq_of_lt hb]
  have := wrap_u32 (a ||| b) h'
  rw [← e3] at this ⊢
  exact this
theorem or_add (a b i : Nat) (h : a < 2 ^ i) : a ||| b * 2 ^ i = a + b * 2 ^ i := by
  have := Nat.shiftLeft_add_eq_or_of_lt h b
  rw [Nat.shiftLeft_eq] at this
  rw [Nat.or_comm, ← this, Nat.add_comm]
theorem num4_val (x0 x1 x2 x3 : UInt8) (l : List UInt8) : bits BinOp.or IntKind.u32
              (bits BinOp.or IntKind.u32
                (bits BinOp.or IntKind.u32 (IntKind.u32.wrap x0.toNat)
                  (IntKind.u32.wrap (IntKind.u32.wrap x1.toNat * 256)))
                (IntKind.u32.wrap (IntKind.u32.wrap x2.toNat * 65536)))
              (IntKind.u32.wrap (IntKind.u32.wrap x3.toNat * 16777216)) = ((num4 (x0 :: x1 :: x2 :: x3 :: l) : Nat) : Int) := by
  have b0 := x0.toNat_lt
  have b1 := x1.toNat_lt
  have b2 := x2.toNat_lt
  have b3 := x3.toNat_lt
  have w0 : IntKind.u32.wrap (x0.toNat : Int) = (x0.toNat : Int) := wrap_u32 _ (by omega)
  have w1 : IntKind.u32.wrap (x1.toNat : Int) = (x1.toNat : Int) := wrap_u32 _ (by omega)
  have w2 : IntKind.u32.wrap (x2.toNat : Int) = (x2.toNat : Int) := wrap_u32 _ (by omega)
  have w3 : IntKind.u32.wrap (x3.toNat : Int) = (x3.toNat : Int) := wrap_u32 _ (by omega)
  rw [w0, w1, w2, w3]
  have v1 : IntKind.u32.wrap ((x1.toNat : Int) * 256) = ((x1.toNat * 256 : Nat) : Int) := wrap_u32 (x1.toNat * 256) (by omega)
  have v2 : IntKind.u32.wrap ((x2.toNat : Int) * 65536) = ((x2.toNat * 65536 : Nat) : Int) := wrap_u32 (x2.toNat * 65536) (by omega)
  have v3 : IntKind.u32.wrap ((x3.toNat : Int) * 16777216) = ((x3.toNat * 16777216 : Nat) : Int) := wrap_u32 (x3.toNat * 16777216) (by omega)
  rw [v1, v2, v3, bor_nat _ _ (by omega) (by omega)]
  have o1 : x0.toNat ||| x1.toNat * 256 = x0.toNat + x1.toNat * 256 := or_add _ _ 8 (by omega)
  rw [o1, bor_nat _ _ (by omega) (by omega)]
  have o2 : x0.toNat + x1.toNat * 256 ||| x2.toNat * 65536 = x0.toNat + x1.toNat * 256 + x2.toNat * 65536 := or_add _ _ 16 (by omega)
  rw [o2, bor_nat _ _ (by omega) (by omega)]
  have o3 : x0.toNat + x1.toNat * 256 + x2.toNat * 65536 ||| x3.toNat * 16777216 = x0.toNat + x1.toNat * 256 + x2.toNat * 65536 + x3.toNat * 16777216 := or_add _ _ 24 (by omega)
  rw [o3]
  rfl

theorem number_B (w : World) (A : Option Addr) (l : List UInt8) (n c : Nat) (hr : Rd Non w A l) (hl : l.length = n) (h4 : 4 ≤ n) :
    Calls Tryz.prog 180 #[.slice A n c] w fun e w' => e = .returned (.int .u32 (num4 l : Int)) ∧ w' = w.drew := by
  obtain ⟨x0, x1, x2, x3, l', rfl⟩ : ∃ x0 x1 x2 x3 l', l = x0 :: x1 :: x2 :: x3 :: l' := by
    match l, hl with
    | x0 :: x1 :: x2 :: x3 :: l', _ => exact ⟨x0, x1, x2, x3, l', rfl⟩
    | [], h => simp at h; omega
    | [_], h => simp at h; omega
    | [_, _], h => simp at h; omega
    | [_, _, _], h => simp at h; omega
  obtain ⟨ad, rfl, c0, _⟩ := hr 0 x0 rfl
  obtain ⟨ad1, e1, c1, _⟩ := hr 1 x1 rfl
  obtain ⟨ad2, e2, c2, _⟩ := hr 2 x2 rfl
  obtain ⟨ad3, e3, c3, _⟩ := hr 3 x3 rfl
  injection e1 with e1; subst e1
  injection e2 with e2; subst e2
  injection e3 with e3; subst e3
  unfold byteV at c0 c1 c2 c3
  have b0 := x0.toNat_lt
  have b1 := x1.toNat_lt
  have b2 := x2.toNat_lt
  have b3 := x3.toNat_lt
  have c0 : w.cell? ad = some (.int .u8 (x0.toNat : Int)) := c0
  have n0 : 0 < n := by omega
  have n1 : 1 < n := by omega
  have n2 : 2 < n := by omega
  have n3 : 3 < n := by omega
  have g0 : (0 : Int) < (n : Int) := by omega
  have g1 : (1 : Int) < (n : Int) := by omega
  have g2 : (2 : Int) < (n : Int) := by omega
  have g3 : (3 : Int) < (n : Int) := by omega
  clear hr hl
  obtain ⟨g, o, sp⟩ := ad
  obtain rfl : sp = none := by
    cases sp with
    | none => rfl
    | some _ =>
      exfalso
      unfold World.cell? at c0
      split at c0 <;> simp_all
  go_enter Tryz.func180, Tryz.ntmps180
  go_wp2
  refine wp_region_T #[[], [], [], [2], [], [], [], [6], [6], [2, 6], [], [], [], [12], [12], [2, 6, 12], [], [], [], [18], [18], [2, 6, 12, 18], [2, 6, 12, 18]] [2, 6, 12, 18] (fun w' => w'.cell? ⟨g, o, none⟩ = some (.int .u8 (x0.toNat : Int)) ∧ w'.cell? ⟨g, o + 1, none⟩ = some (.int .u8 (x1.toNat : Int)) ∧ w'.cell? ⟨g, o + 2, none⟩ = some (.int .u8 (x2.toNat : Int)) ∧ w'.cell? ⟨g, o + 3, none⟩ = some (.int .u8 (x3.toNat : Int))) 23 rfl (by kernel_rfl) ?_
  (refine wpF (i := 0) rfl (by kernel_rfl) rfl (fun _ _ _ h => h) (fun _ => by go_simp; try rfl) ?_; (try simp only [Act.put, sA, sB, sC]))
  (refine wpF (i := 1) rfl (by kernel_rfl) rfl (fun _ _ _ h => h) (fun _ => by go_simp; try rfl) ?_; (try simp only [Act.put, sA, sB, sC]))
  (refine wpAnyT_read (i := 2) rfl (by kernel_rfl) rfl (fun _ _ _ h => h) (by kernel_rfl) (⟨c0, c1, c2, c3⟩) (fun w hS_ => by obtain ⟨s_1, s_2, s_3, s_4⟩ := hS_; go_simp; try rfl) ?_; (try simp only [Act.put, sA, sB, sC]))
  (refine wpF (i := 3) rfl (by kernel_rfl) rfl (fun _ _ _ h => h) (fun _ => by go_simp; try rfl) ?_; (try simp only [Act.put, sA, sB, sC]))
  (refine wpF (i := 4) rfl (by kernel_rfl) rfl (fun _ _ _ h => h) (fun _ => by go_simp; try rfl) ?_; (try simp only [Act.put, sA, sB, sC]))
  (refine wpF (i := 5) rfl (by kernel_rfl) rfl (fun _ _ _ h => h) (fun _ => by go_simp; try rfl) ?_; (try simp only [Act.put, sA, sB, sC]))
  (refine wpAnyT_read (i := 6) rfl (by kernel_rfl) rfl (fun _ _ _ h => h) (by kernel_rfl) (⟨c0, c1, c2, c3⟩) (fun w hS_ => by obtain ⟨s_1, s_2, s_3, s_4⟩ := hS_; go_simp; try rfl) ?_; (try simp only [Act.put, sA, sB, sC]))
  (refine wpF (i := 7) rfl (by kernel_rfl) rfl (fun _ _ _ h => h) (fun _ => by go_simp; try rfl) ?_; (try simp only [Act.put, sA, sB, sC]))
  (refine wpF (i := 8) rfl (by kernel_rfl) rfl (fun _ _ _ h => h) (fun _ => by go_simp; try rfl) ?_; (try simp only [Act.put, sA, sB, sC]))
  (refine wpF (i := 9) rfl (by kernel_rfl) rfl (fun _ _ _ h => h) (fun _ => by go_simp; try rfl) ?_; (try simp only [Act.put, sA, sB, sC]))
  (refine wpF (i := 10) rfl (by kernel_rfl) rfl (fun _ _ _ h => h) (fun _ => by go_simp; try rfl) ?_; (try simp only [Act.put, sA, sB, sC]))
  (refine wpF (i := 11) rfl (by kernel_rfl) rfl (fun _ _ _ h => h) (fun _ => by go_simp; try rfl) ?_; (try simp only [Act.put, sA, sB, sC]))
  (refine wpAnyT_read (i := 12) rfl (by kernel_rfl) rfl (fun _ _ _ h => h) (by kernel_rfl) (⟨c0, c1, c2, c3⟩) (fun w hS_ => by obtain ⟨s_1, s_2, s_3, s_4⟩ := hS_; go_simp; try rfl) ?_; (try simp only [Act.put, sA, sB, sC]))
  (refine wpF (i := 13) rfl (by kernel_rfl) rfl (fun _ _ _ h => h) (fun _ => by go_simp; try rfl) ?_; (try simp only [Act.put, sA, sB, sC]))
  (refine wpF (i := 14) rfl (by kernel_rfl) rfl (fun _ _ _ h => h) (fun _ => by go_simp; try rfl) ?_; (try simp only [Act.put, sA, sB, sC]))
  (refine wpF (i := 15) rfl (by kernel_rfl) rfl (fun _ _ _ h => h) (fun _ => by go_simp; try rfl) ?_; (try simp only [Act.put, sA, sB, sC]))
  (refine wpF (i := 16) rfl (by kernel_rfl) rfl (fun _ _ _ h => h) (fun _ => by go_simp; try rfl) ?_; (try simp only [Act.put, sA, sB, sC]))
  (refine wpF (i := 17) rfl (by kernel_rfl) rfl (fun _ _ _ h => h) (fun _ => by go_simp; try rfl) ?_; (try simp only [Act.put, sA, sB, sC]))
  (refine wpAnyT_read (i := 18) rfl (by kernel_rfl) rfl (fun _ _ _ h => h) (by kernel_rfl) (⟨c0, c1, c2, c3⟩) (fun w hS_ => by obtain ⟨s_1, s_2, s_3, s_4⟩ := hS_; go_simp; try rfl) ?_; (try simp only [Act.put, sA, sB, sC]))
  (refine wpF (i := 19) rfl (by kernel_rfl) rfl (fun _ _ _ h => h) (fun _ => by go_simp; try rfl) ?_; (try simp only [Act.put, sA, sB, sC]))
  (refine wpF (i := 20) rfl (by kernel_rfl) rfl (fun _ _ _ h => h) (fun _ => by go_simp; try rfl) ?_; (try simp only [Act.put, sA, sB, sC]))
  (refine wpF (i := 21) rfl (by kernel_rfl) rfl (fun _ _ _ h => h) (fun _ => by go_simp; try rfl) ?_; (try simp only [Act.put, sA, sB, sC]))
  (refine wpF (i := 22) rfl (by kernel_rfl) rfl (fun _ _ _ h => h) (fun _ => by go_simp; try rfl) ?_; (try simp only [Act.put, sA, sB, sC]))
  refine wpAnyT_done (by kernel_rfl) ?_ _
  rw [num4_val x0 x1 x2 x3 l']
  go_wp2
  go_ret
  exact ⟨rfl, rfl⟩

theorem below_new (w : World) (o : Obj) : Below w.heap.size w (w.alloc o) := (Below.refl _ _).alloc (Nat.le_refl _) o
theorem parts_blk {w : World} {g : Nat} {t : TypeId} {vs : Array Value} (h : Blk w g t vs) (parts : List (List UInt8)) (hv : ∀ (j : Nat) (l : List UInt8), parts[j]? = some l → ∃ A c, vs[j]? = some (Value.slice A l.length c) ∧ l.length ≤ maxLen ∧ Rd Non w A l) : PartsAt w (some ⟨g, 0, none⟩) parts := fun j l hj => by
  obtain ⟨A, c, e, hm, hr⟩ := hv j l hj
  refine ⟨_, A, c, rfl, ?_, hm, hr⟩
  rw [add_mk, Nat.zero_add]
  exact h.cell j e
theorem parts_1 {w : World} {t : TypeId} {A : Option Addr} {l : List UInt8} {c n : Nat} (hn : l.length = n) (hr : Rd Non w A l) (hm : n ≤ maxLen) : PartsAt (w.alloc (.cells #[.slice A n c] t)) (some ⟨w.heap.size, 0, none⟩) [l] := by
  subst hn
  refine parts_blk (Blk.new w t _) _ ?_
  intro j x hj
  match j, hj with
  | 0, hj => injection hj with hj; subst hj; exact ⟨A, c, rfl, hm, hr.below (below_new w _)⟩
  | j + 1, hj => simp at hj
theorem sum_1 (w : World) (hh : HalfAt w) (A : Option Addr) (l : List UInt8) (c n : Nat) (t : TypeId) (hn : l.length = n) (hr : Rd Non w A l) (hm : n ≤ maxLen) :
    Calls Tryz.prog 115 #[.slice (some ⟨w.heap.size, 0, none⟩) 1 1] (w.alloc (.cells #[.slice A n c] t)) fun e w' => e = .returned (.int .u32 ((sum l).toNat : Int)) ∧ w.alloc (.cells #[.slice A n c] t) = w' := by
  refine (sum_B _ (hh.below (below_new _ _) hh.lt) _ [l] 1 (parts_1 hn hr hm) (by simp [maxLen])).mono ?_
  rintro e w2 ⟨rfl, rfl⟩
  rw [show [l].flatten = l from List.append_nil _]
  exact ⟨rfl, rfl⟩
theorem sum_1d (w : World) (hh : HalfAt w) (A : Option Addr) (l : List UInt8) (c n : Nat) (t : TypeId) (hn : l.length = n) (hr : Rd Non w A l) (hm : n ≤ maxLen) :
    Calls Tryz.prog 115 #[.slice (some ⟨w.heap.size, 0, none⟩) 1 1] (w.alloc (.cells #[.slice A n c] t)).drew fun e w' => e = .returned (.int .u32 ((sum l).toNat : Int)) ∧ (w.alloc (.cells #[.slice A n c] t)).drew = w' := by
  have hp : PartsAt (w.alloc (.cells #[.slice A n c] t)).drew (some ⟨w.heap.size, 0, none⟩) [l] := parts_1 hn hr hm
  have hh1 : HalfAt (w.alloc (.cells #[.slice A n c] t)).drew := hh.below (below_new w _).drew hh.lt
  refine (sum_B _ hh1 _ [l] 1 hp (by simp [maxLen])).mono ?_
  rintro e w2 ⟨rfl, rfl⟩
  rw [show [l].flatten = l from List.append_nil _]
  exact ⟨rfl, rfl⟩
theorem Cloned.rd {w w' : World} {A : Option Addr} {c : Nat} {l : List UInt8} (h : w'.ownsRow w.heap.size TB 1 (.slice A l.length c) l.length (l.map byteV)) : Rd Non w' A l := (Own.of_row' h).rd _

/-- what a function that makes a row of bytes and a code leaves -/
def Made (w : World) (l : List UInt8) (r : Int) (e : Ending) (w' : World) : Prop :=
  ∃ A' c', e = .returned (.tuple #[.slice A' l.length c', .int .i64 r]) ∧ Own (New w) w' A' l ∧ l.length ≤ c' ∧ c' ≤ maxLen ∧ Below w.heap.size w w'

/-- the same, and the row is one's own -/
def MadeR (w : World) (l : List UInt8) (r : Int) (e : Ending) (w' : World) : Prop :=
  ∃ A' c', e = .returned (.tuple #[.slice A' l.length c', .int .i64 r]) ∧ w'.ownsRow w.heap.size TB 1 (.slice A' l.length c') l.length (l.map byteV) ∧ l.length ≤ c' ∧ c' ≤ maxLen ∧ Below w.heap.size w w'
theorem MadeR.made {w w' : World} {l : List UInt8} {r : Int} {e : Ending} (h : MadeR w l r e w') : Made w l r e w' := by
  obtain ⟨A', c', h1, h2, h3, h4, h5⟩ := h
  exact ⟨A', c', h1, Own.of_row' h2, h3, h4, h5⟩
theorem ownsRow_mono {w : World} {base base' : Nat} {e : TypeId} {size : Nat} {v : Value} {n : Nat} {xs : List Value} (h : w.ownsRow base e size v n xs) (hb : base' ≤ base) : w.ownsRow base' e size v n xs := by
  refine ⟨h.1, h.2.imp_right ?_⟩
  rintro ⟨g, cap, cur, h1, h2, h3⟩
  exact ⟨g, cap, cur, h1, by omega, h3⟩

theorem frame_R (w : World) (hh : HalfAt w) (A : Option Addr) (l : List UInt8) (c n : Nat) (hr : Rd Non w A l) (hl : l.length = n) (hn : n ≤ maxLen) :
    Calls Tryz.prog 60 #[.slice A n c] w fun e w' =>
      if n ≤ 65536 then MadeR w (frame l) 0 e w' else e = .returned (.tuple #[.slice none 0 0, .int .i64 3]) ∧ w' = w := by
  unfold maxLen at hn
  by_cases h : n ≤ 65536
  · simp only [if_pos h]
    go_enter Tryz.func60, Tryz.ntmps60
    have g : ¬ (65536 : Int) < (n : Int) := by omega
    have HL := Lib.hid hl
    clear hl
    go_wp2_with (go_at_call 113; refine (four_B _ n (by omega)).mono ?_; rintro e w1 ⟨A1, c1, rfl, ho1, hc1, hm1, hb1⟩)
    have r1 := Cloned.rd ho1
    have hh1 := hh.below hb1 hh.lt
    clear ho1
    rw [length_four] at hc1 ⊢
    go_at_call 115
    refine (sum_1 _ hh1 A1 (four n) c1 4 _ (length_four n) r1 (by simp [maxLen])).mono ?_
    rintro e w2 ⟨rfl, rfl⟩
    have k1 := (sum (four n)).isLt
    have hb2 := hb1.alloc hb1.size (.cells #[.slice A1 4 c1] 30)
    have hh2 := hh.below hb2 hh.lt
    have r2 := r1.below (below_new w1 (.cells #[.slice A1 4 c1] 30))
    generalize w1.alloc (.cells #[.slice A1 4 c1] 30) = w2 at *
    generalize hv1 : (sum (four n)).toNat = v1 at *
    have HV1 := Lib.hid hv1
    clear hv1 hb1 hh1 r1
    go_wp2_with (go_at_call 113; refine (four_B _ v1 k1).mono ?_; rintro e w3 ⟨A2, c2, rfl, ho2, hc2, hm2, hb3⟩)
    have r3 := Cloned.rd ho2
    rw [length_four] at hc2 ⊢
    clear ho2
    have hR3 := r2.below hb3
    have hB3 := hb2.trans (hb3.mono hb2.size)
    have hr3 := hr.below hB3
    go_at_call 115
    refine (sum_1 _ (hh.below hB3 hh.lt) A l c n _ HL.out hr3 (by simp [maxLen]; omega)).mono ?_
    rintro e w4 ⟨rfl, rfl⟩
    have k2 := (sum l).isLt
    have hB4 := hB3.alloc hB3.size (.cells #[.slice A n c] 30)
    have hb4 := below_new w3 (.cells #[.slice A n c] 30)
    generalize w3.alloc (.cells #[.slice A n c] 30) = w4 at *
    generalize hv2 : (sum l).toNat = v2 at *
    have HV2 := Lib.hid hv2
    have hR4 := hR3.below hb4
    have r4 := r3.below hb4
    clear hv2 hB3 hr3 r3 hR3 hb4 hb3 r2 hh2 hb2
    go_wp2_with (go_at_call 113; refine (four_B _ v2 k2).mono ?_; rintro e w5 ⟨A3, c3, rfl, ho3, hc3, hm3, hb5⟩)
    have r5 := Cloned.rd ho3
    rw [length_four] at hc3 ⊢
    clear ho3
    have hR5 := hR4.below hb5
    have q5 := r4.below hb5
    have hB5 := hB4.trans (hb5.mono hB4.size)
    have hr5 := hr.below hB5
    have hB6 := hB5.alloc hB5.size (.cells #[.slice A1 4 c1, .slice A2 4 c2, .slice A3 4 c3, .slice A n c] 30)
    have hb6 := below_new w5 (.cells #[.slice A1 4 c1, .slice A2 4 c2, .slice A3 4 c3, .slice A n c] 30)
    have hP : PartsAt (w5.alloc (.cells #[.slice A1 4 c1, .slice A2 4 c2, .slice A3 4 c3, .slice A n c] 30)) (some ⟨w5.heap.size, 0, none⟩) [four n, four v1, four v2, l] := by
      refine parts_blk (Blk.new w5 _ _) _ ?_
      intro j x hj
      match j, hj with
      | 0, hj => injection hj with hj; subst hj; exact ⟨A1, c1, rfl, by simp [maxLen, length_four], hR5.below hb6⟩
      | 1, hj => injection hj with hj; subst hj; exact ⟨A2, c2, rfl, by simp [maxLen, length_four], q5.below hb6⟩
      | 2, hj => injection hj with hj; subst hj; exact ⟨A3, c3, rfl, by simp [maxLen, length_four], r5.below hb6⟩
      | 3, hj => injection hj with hj; subst hj; exact ⟨A, c, by rw [HL.out]; rfl, by rw [HL.out]; exact hn, hr5.below hb6⟩
      | j + 4, hj => simp at hj
    have eF : [four n, four v1, four v2, l].flatten = frame l := by
      rw [← HV1.out, ← HV2.out]
      simp only [frame, HL.out, List.flatten_cons, List.flatten_nil, List.append_nil]
    generalize w5.alloc (.cells #[.slice A1 4 c1, .slice A2 4 c2, .slice A3 4 c3, .slice A n c] 30) = w6 at *
    go_at_call 114
    refine (concat_B w6 _ [four n, four v1, four v2, l] 4 hP (by simp [maxLen]) (by rw [eF, length_frame, HL.out]; omega)).mono ?_
    rw [eF]
    rintro e w7 ⟨A7, c7, rfl, ho7, hc7, hm7, hb7⟩
    have hB7 := hB6.trans (hb7.mono hB6.size)
    have hO := ownsRow_mono ho7 hB6.size
    clear ho7 hP eF hb6
    go_wp2
    go_ret2
    exact ⟨A7, c7, rfl, hO, hc7, hm7, hB7⟩
  · simp only [if_neg h]
    go_enter Tryz.func60, Tryz.ntmps60
    have g : (65536 : Int) < (n : Int) := by omega
    go_wp2
    go_ret2
    exact ⟨rfl, rfl⟩
theorem frame_B (w : World) (hh : HalfAt w) (A : Option Addr) (l : List UInt8) (c n : Nat) (hr : Rd Non w A l) (hl : l.length = n) (hn : n ≤ maxLen) :
    Calls Tryz.prog 60 #[.slice A n c] w fun e w' =>
      if n ≤ 65536 then Made w (frame l) 0 e w' else e = .returned (.tuple #[.slice none 0 0, .int .i64 3]) ∧ w' = w := by
  refine (frame_R w hh A l c n hr hl hn).mono fun e w' h => ?_
  by_cases hn : n ≤ 65536
  · simp only [if_pos hn] at h ⊢; exact h.made
  · simp only [if_neg hn] at h ⊢; exact h
end Go.Proofs.YtediidajdpdeiaaGreatDoor

/- crc.Next: the walk. -/
namespace Go.Proofs.YtediidajdpdeiaaGreatDoor
open Go.RowKit CrcM
set_option maxRecDepth 100000

/-- what Next answers -/
def next (b : List UInt8) (a : Int) : Except Int (List UInt8 × Nat) :=
  if a < 0 ∨ (b.length : Int) < a then .error 2
  else if (b.length : Int) - a < 12 then .error 4
  else
    let head := (b.take (a.toNat + 12)).drop a.toNat
    let rest := b.drop (a.toNat + 12)
    let n := num4 head
    if (sum (head.take 4)).toNat ≠ num4 (head.drop 4) then .error 6
    else if 65536 < n then .error 3
    else if rest.length < n then .error 4
    else if (sum (rest.take n)).toNat ≠ num4 (head.drop 8) then .error 6
    else .ok (rest.take n, a.toNat + 12 + n)

def NextDid (w : World) (b : List UInt8) (a : Int) (e : Ending) (w' : World) : Prop :=
  match next b a with
  | .error r => e = .returned (.tuple #[.slice none 0 0, .int .i64 0, .int .i64 r]) ∧ Below w.heap.size w w'
  | .ok p => ∃ A' c', e = .returned (.tuple #[.slice A' p.1.length c', .int .i64 (p.2 : Int), .int .i64 0]) ∧ Own (New w) w' A' p.1 ∧ p.1.length ≤ c' ∧ c' ≤ maxLen ∧ Below w.heap.size w w'

theorem NextDid.err {w w' : World} {b : List UInt8} {a r : Int} (h : next b a = .error r) (hb : Below w.heap.size w w') : NextDid w b a (.returned (.tuple #[.slice none 0 0, .int .i64 0, .int .i64 r])) w' := by
  unfold NextDid; rw [h]; exact ⟨rfl, hb⟩

set_option maxHeartbeats 1000000 in
theorem next_B (w : World) (hh : HalfAt w) (A : Option Addr) (l : List UInt8) (c n : Nat) (hr : Rd Non w A l) (hl : l.length = n) (hn : n ≤ c) (hm : c ≤ maxLen) (a : Int) :
    Calls Tryz.prog 158 #[.slice A n c, .int .i64 a] w (NextDid w l a) := by
  unfold maxLen at hm
  have HL := Lib.hid hl
  by_cases h0 : a < 0
  · go_enter Tryz.func158, Tryz.ntmps158
    have e : next l a = .error 2 := if_pos (.inl h0)
    clear hl
    go_wp2
    go_ret3
    exact NextDid.err e (Below.refl _ _)
  obtain ⟨m, rfl⟩ : ∃ m : Nat, a = m := ⟨a.toNat, by omega⟩
  by_cases h1 : (n : Int) < (m : Int)
  · go_enter Tryz.func158, Tryz.ntmps158
    have e : next l m = .error 2 := if_pos (.inr (by rw [hl]; exact h1))
    clear hl
    go_wp2
    go_ret3
    exact NextDid.err e (Below.refl _ _)
  have k0 : ¬ ((m : Int) < 0 ∨ (l.length : Int) < m) := by rw [hl]; omega
  by_cases h2 : (n : Int) - (m : Int) < 12
  · go_enter Tryz.func158, Tryz.ntmps158
    have e : next l m = .error 4 := by unfold next; rw [if_neg k0, if_pos (by rw [hl]; exact h2)]
    have k2 : IntKind.i64.wrap ((n : Int) - (m : Int)) = (n : Int) - (m : Int) := by rw [IntKind.wrap_i64]; omega
    clear hl k0
    go_wp2
    go_ret3
    exact NextDid.err e (Below.refl _ _)
  have e := show next l m = _ by
    unfold next; rw [if_neg k0, if_neg (by rw [hl]; exact h2), Int.toNat_natCast]
  have hd : ((l.take (m + 12)).drop m).length = 12 := by rw [List.length_drop, List.length_take, hl]; omega
  have ht : (l.drop (m + 12)).length = n - (m + 12) := by rw [List.length_drop, hl]
  generalize hhead : (l.take (m + 12)).drop m = head at *
  generalize hrest : l.drop (m + 12) = rest at *
  have E := Lib.hid e
  have HD := Lib.hid hd
  have HT := Lib.hid ht
  have HH := Lib.hid hhead
  have HR := Lib.hid hrest
  have p0 : (0 : Int) ≤ (m : Int) := by omega
  have p1 : (m : Int) ≤ (n : Int) := by omega
  have p2 : (m : Int) + 12 ≤ (c : Int) := by omega
  have p3 : (m : Int) ≤ (m : Int) + 12 := by omega
  have p4 : (m : Int) + 12 ≤ (n : Int) := by omega
  have p5 : ((m : Int) + 12).toNat = m + 12 := by omega
  have p6 : (0 : Int) ≤ (m : Int) + 12 := by omega
  have hrh : Rd Non w (if c = m then A else A.map (·.add m)) head := by
    rw [← hhead]
    exact (hr.take (m + 12)).drop m c (by rw [List.length_take, hl]; omega)
  have hrr : Rd Non w (if c = m + 12 then A else A.map (fun x => { block := x.block, off := x.off + (m + 11 + 1) })) rest := by
    rw [← hrest]
    exact hr.drop (m + 12) c (by rw [hl]; exact hn)
  clear hd ht hhead hrest e k0 hl
  go_enter Tryz.func158, Tryz.ntmps158
  have q1 : IntKind.i64.wrap ((n : Int) - (m : Int)) = (n : Int) - (m : Int) := by rw [IntKind.wrap_i64]; omega
  go_wp2
  clear q1
  have q2 : IntKind.i64.wrap ((m : Int) + 12) = (m : Int) + 12 := by rw [IntKind.wrap_i64]; omega
  refine wp_region_T #[[], [], [], [], [], [], [], [], [], [], []] [] (fun _ => True) 11 rfl (by kernel_rfl) ?_
  (refine wpF (i := 0) rfl (by kernel_rfl) rfl (fun _ _ _ h => h) (fun _ => by go_simp; try rfl) ?_; (try simp only [Act.put, sA, sB, sC]))
  (refine wpF (i := 1) rfl (by kernel_rfl) rfl (fun _ _ _ h => h) (fun _ => by go_simp; try rfl) ?_; (try simp only [Act.put, sA, sB, sC]))
  (refine wpF (i := 2) rfl (by kernel_rfl) rfl (fun _ _ _ h => h) (fun _ => by go_simp; try rfl) ?_; (try simp only [Act.put, sA, sB, sC]))
  (refine wpF (i := 3) rfl (by kernel_rfl) rfl (fun _ _ _ h => h) (fun _ => by go_simp; try rfl) ?_; (try simp only [Act.put, sA, sB, sC]))
  (refine wpF (i := 4) rfl (by kernel_rfl) rfl (fun _ _ _ h => h) (fun _ => by go_simp; try rfl) ?_; (try simp only [Act.put, sA, sB, sC]))
  (refine wpF (i := 5) rfl (by kernel_rfl) rfl (fun _ _ _ h => h) (fun _ => by go_simp; try rfl) ?_; (try simp only [Act.put, sA, sB, sC]))
  (refine wpF (i := 6) rfl (by kernel_rfl) rfl (fun _ _ _ h => h) (fun _ => by go_simp; try rfl) ?_; (try simp only [Act.put, sA, sB, sC]))
  (refine wpF (i := 7) rfl (by kernel_rfl) rfl (fun _ _ _ h => h) (fun _ => by go_simp; try rfl) ?_; (try simp only [Act.put, sA, sB, sC]))
  (refine wpF (i := 8) rfl (by kernel_rfl) rfl (fun _ _ _ h => h) (fun _ => by go_simp; try rfl) ?_; (try simp only [Act.put, sA, sB, sC]))
  (refine wpF (i := 9) rfl (by kernel_rfl) rfl (fun _ _ _ h => h) (fun _ => by go_simp; try rfl) ?_; (try simp only [Act.put, sA, sB, sC]))
  (refine wpF (i := 10) rfl (by kernel_rfl) rfl (fun _ _ _ h => h) (fun _ => by go_simp; try rfl) ?_; (try simp only [Act.put, sA, sB, sC]))
  refine wpAnyT_done (by kernel_rfl) ?_ _
  clear q2
  generalize (if c = m then A else A.map (·.add m)) = AH at *
  generalize (if c = m + 12 then A else A.map (fun x => { block := x.block, off := x.off + (m + 11 + 1) })) = AR at *
  obtain ⟨ch, hch⟩ : ∃ ch, c - m = ch := ⟨_, rfl⟩
  obtain ⟨cr, hcr⟩ : ∃ cr, c - (m + 12) = cr := ⟨_, rfl⟩
  obtain ⟨nr, hnr⟩ : ∃ nr, n - (m + 12) = nr := ⟨_, rfl⟩
  rw [hch, hcr, hnr]
  have u1 : 12 ≤ ch := by omega
  have v1 : (4 : Int) ≤ (ch : Int) := by omega
  have v2 : (8 : Int) ≤ (ch : Int) := by omega
  have u2 : nr ≤ cr := by omega
  have u3 : cr ≤ 2 ^ 63 - 1 := by omega
  have u4 : rest.length = nr := by rw [HT.out]; omega
  have U4 := Lib.hid u4
  have u5 : (m : Int) + nr + 12 ≤ 2 ^ 63 - 1 := by omega
  clear hch hcr hnr u4 p1 p2 p3 p4 p5 p6 h1 h2 hn
  generalize hN : num4 head = N at *
  have k2 : N < 4294967296 := hN ▸ num4_lt head
  have HN := Lib.hid hN
  go_wp2_with (go_at_call 180; refine (number_B _ AH head 12 ch hrh.drew HD.out (by omega)).mono ?_; rintro e w2 ⟨rfl, rfl⟩)
  have h4 : (head.take 4).length = 4 := by rw [List.length_take, HD.out]; rfl
  have h8 : (head.drop 4).length = 8 := by rw [List.length_drop, HD.out]
  have h9 : (head.drop 8).length = 4 := by rw [List.length_drop, HD.out]
  have r4 := hrh.take 4
  have r8 := hrh.drop 4 ch (by rw [HD.out]; exact u1)
  have r9 := hrh.drop 8 ch (by rw [HD.out]; exact u1)
  have x4 : ¬ ch = 4 := by omega
  have x8 : ¬ ch = 8 := by omega
  rw [if_neg x4] at r8
  rw [if_neg x8] at r9
  generalize hA4 : head.take 4 = l4 at *
  generalize hA8 : head.drop 4 = l8 at *
  generalize hA9 : head.drop 8 = l9 at *
  have X4 := Lib.hid h4
  have X8 := Lib.hid h8
  have X9 := Lib.hid h9
  clear h4 h8 h9 hA4 hA8 hA9 hN
  generalize hE : next l (m : Int) = E1 at *
  have HE := Lib.hid hE
  clear hE
  generalize hS4 : (sum l4).toNat = s4 at *
  generalize hN8 : num4 l8 = n8 at *
  have HS4 := Lib.hid hS4
  have HN8 := Lib.hid hN8
  clear hS4 hN8
  generalize hw0 : w.drew.drew = w0 at *
  have hb0 : Below w.heap.size w w0 := hw0 ▸ (Below.refl _ _).drew.drew
  have hh0 : HalfAt w0 := hh.below hb0 hh.lt
  have r40 := r4.below hb0
  have r80 := r8.below hb0
  have r90 := r9.below hb0
  have hrr0 := hrr.below hb0
  clear r4 r8 r9 hrh hw0
  refine wp_region_T #[[], [], [], [], [], [], [], [], []] [] (fun _ => True) 9 rfl (by kernel_rfl) ?_
  (refine wpF (i := 0) rfl (by kernel_rfl) rfl (fun _ _ _ h => h) (fun _ => by go_simp; try rfl) ?_; (try simp only [Act.put, sA, sB, sC]))
  (refine wpF (i := 1) rfl (by kernel_rfl) rfl (fun _ _ _ h => h) (fun _ => by go_simp; try rfl) ?_; (try simp only [Act.put, sA, sB, sC]))
  (refine wpF (i := 4) rfl (by kernel_rfl) rfl (fun _ _ _ h => h) (fun _ => by go_simp; try rfl) ?_; (try simp only [Act.put, sA, sB, sC]))
  (refine wpF (i := 5) rfl (by kernel_rfl) rfl (fun _ _ _ h => h) (fun _ => by go_simp; try rfl) ?_; (try simp only [Act.put, sA, sB, sC]))
  refine wpAnyT_sink (i := 2) rfl (by kernel_rfl) rfl (by kernel_rfl) ?_
  intro K_ hK_
  go_step; go_simp
  (try (refine hK_ _ _ ?_; clear hK_ K_))
  (try simp only [Act.put, sA, sB, sC])
  refine wpAnyT_sink (i := 3) rfl (by kernel_rfl) rfl (by kernel_rfl) ?_
  intro K_ hK_
  go_wp2_with ((go_at_call 115; refine (sum_1d _ hh0 AH l4 ch 4 _ X4.out r40 (by simp [maxLen])).mono ?_; rintro e w1 ⟨rfl, rfl⟩; rw [HS4.out]))
  (try (refine hK_ _ _ ?_; clear hK_ K_))
  (try simp only [Act.put, sA, sB, sC])
  refine wpAnyT_sink (i := 6) rfl (by kernel_rfl) rfl (by kernel_rfl) ?_
  intro K_ hK_
  have r81 : Rd Non (w0.alloc (.cells #[.slice AH 4 ch] 30)).drew (AH.map fun x => { block := x.block, off := x.off + 4 }) l8 := (r80.below (below_new _ _)).drew; have hX := number_B _ _ l8 8 (ch - 4) r81 X8.out (by omega); rw [HN8.out] at hX; clear r81; go_wp2_with (go_at_call 180; refine hX.mono ?_; rintro e w2 ⟨rfl, rfl⟩)
  (try (refine hK_ _ _ ?_; clear hK_ K_))
  (try simp only [Act.put, sA, sB, sC])
  (refine wpF (i := 7) rfl (by kernel_rfl) rfl (fun _ _ _ h => h) (fun _ => by go_simp; try rfl) ?_; (try simp only [Act.put, sA, sB, sC]))
  (refine wpF (i := 8) rfl (by kernel_rfl) rfl (fun _ _ _ h => h) (fun _ => by go_simp; try rfl) ?_; (try simp only [Act.put, sA, sB, sC]))
  refine wpAnyT_done (by kernel_rfl) ?_ _
  clear hX
  have hb1 : Below w.heap.size w (w0.alloc (.cells #[.slice AH 4 ch] 30)).drew.drew := (hb0.alloc hb0.size _).drew.drew
  have hb01 : Below w0.heap.size w0 (w0.alloc (.cells #[.slice AH 4 ch] 30)).drew.drew := (below_new w0 _).drew.drew
  generalize (w0.alloc (.cells #[.slice AH 4 ch] 30)).drew.drew = w1 at *
  have hh1 : HalfAt w1 := hh.below hb1 hh.lt
  have r91 := r90.below hb01
  have hrr1 := hrr0.below hb01
  clear r90 r80 r40 hrr0 hb01 hh0
  by_cases hs : s4 ≠ n8
  · have bs : ((s4 : Int) != (n8 : Int)) = true := by simp; omega
    rw [bs]
    have e6 : E1 = .error 6 := by rw [E.out, if_pos hs]
    clear hs bs
    have e7 : next l (m : Int) = .error 6 := HE.out.trans e6
    clear e6
    go_wp2
    go_ret3
    exact NextDid.err e7 hb1
  have hs := Decidable.not_not.1 hs
  have bs : ((s4 : Int) != (n8 : Int)) = false := by simp; omega
  rw [bs]
  by_cases hg : 65536 < N
  · have e7 : next l (m : Int) = .error 3 := HE.out.trans (by rw [E.out, if_neg (fun h => h hs), if_pos hg])
    have hg' : (65536 : Int) < (N : Int) := by omega
    clear hs bs
    go_wp2
    go_ret3
    exact NextDid.err e7 hb1
  by_cases hk : nr < N
  · have e7 : next l (m : Int) = .error 4 := HE.out.trans (by rw [E.out, if_neg (fun h => h hs), if_neg hg, if_pos (by rw [U4.out]; exact hk)])
    have hg' : ¬ (65536 : Int) < (N : Int) := by omega
    have hk' : (nr : Int) < (N : Int) := by omega
    clear hs bs
    go_wp2
    go_ret3
    exact NextDid.err e7 hb1
  have E2 : E1 = if (sum (List.take N rest)).toNat ≠ num4 l9 then Except.error 6 else Except.ok (List.take N rest, m + 12 + N) := by
    rw [E.out, if_neg (fun h => h hs), if_neg hg, if_neg (by rw [U4.out]; exact hk)]
  have E3 := Lib.hid E2
  clear E E2 hs bs
  have hg' : ¬ (65536 : Int) < (N : Int) := by omega
  have hk' : ¬ (nr : Int) < (N : Int) := by omega
  have lN : (rest.take N).length = N := by rw [List.length_take, U4.out]; omega
  have LN := Lib.hid lN
  clear lN
  have rN := hrr1.take N
  have mN : (N : Int) ≤ (cr : Int) := by omega
  have nN : (0 : Int) ≤ (N : Int) := by omega
  generalize hlN : rest.take N = lN at *
  have HLN := Lib.hid hlN
  clear hlN
  generalize hS9 : (sum lN).toNat = s9 at *
  generalize hN9 : num4 l9 = n9 at *
  have HS9 := Lib.hid hS9
  have HN9 := Lib.hid hN9
  clear hS9 hN9 hrr1 hrr
  go_wp2
  have mN9 : N ≤ maxLen := by unfold maxLen; omega
  refine wp_region_T #[[], [], [], [], [], [], [], [], [], []] [] (fun _ => True) 10 rfl (by kernel_rfl) ?_
  (refine wpF (i := 0) rfl (by kernel_rfl) rfl (fun _ _ _ h => h) (fun _ => by go_simp; try rfl) ?_; (try simp only [Act.put, sA, sB, sC]))
  (refine wpF (i := 1) rfl (by kernel_rfl) rfl (fun _ _ _ h => h) (fun _ => by go_simp; try rfl) ?_; (try simp only [Act.put, sA, sB, sC]))
  (refine wpF (i := 2) rfl (by kernel_rfl) rfl (fun _ _ _ h => h) (fun _ => by go_simp; try rfl) ?_; (try simp only [Act.put, sA, sB, sC]))
  (refine wpF (i := 5) rfl (by kernel_rfl) rfl (fun _ _ _ h => h) (fun _ => by go_simp; try rfl) ?_; (try simp only [Act.put, sA, sB, sC]))
  (refine wpF (i := 6) rfl (by kernel_rfl) rfl (fun _ _ _ h => h) (fun _ => by go_simp; try rfl) ?_; (try simp only [Act.put, sA, sB, sC]))
  refine wpAnyT_sink (i := 3) rfl (by kernel_rfl) rfl (by kernel_rfl) ?_
  intro K_ hK_
  go_step; go_simp
  (try (refine hK_ _ _ ?_; clear hK_ K_))
  (try simp only [Act.put, sA, sB, sC])
  refine wpAnyT_sink (i := 4) rfl (by kernel_rfl) rfl (by kernel_rfl) ?_
  intro K_ hK_
  go_wp2_with ((go_at_call 115; refine (sum_1d _ hh1 AR lN cr N _ LN.out rN mN9).mono ?_; rintro e w3 ⟨rfl, rfl⟩; rw [HS9.out]))
  (try (refine hK_ _ _ ?_; clear hK_ K_))
  (try simp only [Act.put, sA, sB, sC])
  refine wpAnyT_sink (i := 7) rfl (by kernel_rfl) rfl (by kernel_rfl) ?_
  intro K_ hK_
  have r93 : Rd Non (w1.alloc (.cells #[.slice AR N cr] 30)).drew (AH.map fun x => { block := x.block, off := x.off + 8 }) l9 := (r91.below (below_new _ _)).drew; have hX := number_B _ _ l9 4 (ch - 8) r93 X9.out (by omega); rw [HN9.out] at hX; clear r93; go_wp2_with (go_at_call 180; refine hX.mono ?_; rintro e w2 ⟨rfl, rfl⟩)
  (try (refine hK_ _ _ ?_; clear hK_ K_))
  (try simp only [Act.put, sA, sB, sC])
  (refine wpF (i := 8) rfl (by kernel_rfl) rfl (fun _ _ _ h => h) (fun _ => by go_simp; try rfl) ?_; (try simp only [Act.put, sA, sB, sC]))
  (refine wpF (i := 9) rfl (by kernel_rfl) rfl (fun _ _ _ h => h) (fun _ => by go_simp; try rfl) ?_; (try simp only [Act.put, sA, sB, sC]))
  refine wpAnyT_done (by kernel_rfl) ?_ _
  clear hX
  have hb3 : Below w.heap.size w (w1.alloc (.cells #[.slice AR N cr] 30)).drew.drew := (hb1.alloc hb1.size _).drew.drew
  have hb13 : Below w1.heap.size w1 (w1.alloc (.cells #[.slice AR N cr] 30)).drew.drew := (below_new w1 _).drew.drew
  generalize (w1.alloc (.cells #[.slice AR N cr] 30)).drew.drew = w3 at *
  have rN3 := rN.below hb13
  clear rN r91 hb13 hb1 hh1
  by_cases hs : s9 ≠ n9
  · have bs : ((s9 : Int) != (n9 : Int)) = true := by simp; omega
    rw [bs]
    have e7 : next l (m : Int) = .error 6 := HE.out.trans (by rw [E3.out, if_pos hs])
    clear hs bs
    go_wp2
    go_ret3
    exact NextDid.err e7 hb3
  have e7 : next l (m : Int) = .ok (lN, m + 12 + N) := HE.out.trans (by rw [E3.out, if_neg hs])
  have hs := Decidable.not_not.1 hs
  have bs : ((s9 : Int) != (n9 : Int)) = false := by simp; omega
  rw [bs]
  have HE7 := Lib.hid e7
  clear hs bs e7
  have q2 : (m : Int) + 12 ≤ 2 ^ 63 - 1 := by omega
  have q3 : (m : Int) + 12 + N ≤ 2 ^ 63 - 1 := by omega
  have q4 : (0 : Int) ≤ (m : Int) + 12 + N := by omega
  have hcl := clone_B Non AR lN cr w3 rN3 (by rw [LN.out]; omega)
  rw [LN.out] at hcl
  go_wp2_with (go_at_call 56; refine hcl.mono ?_; rintro e w4 ⟨A5, c5, rfl, ho5, hc5, hm5, hb5⟩)
  go_ret3
  unfold NextDid
  rw [HE7.out]
  refine ⟨A5, c5, ?_, (Own.of_row' ho5).mono (fun b (hb : _ ≤ b) => Nat.le_trans hb3.size hb), hc5, hm5, hb3.trans (hb5.mono hb3.size)⟩
  rfl
end Go.Proofs.YtediidajdpdeiaaGreatDoor

/- The document's answer for layer 2, walked; and the law's own little functions. -/
namespace Go.Proofs.YtediidajdpdeiaaGreatDoor
open Go.RowKit CrcM
set_option maxRecDepth 100000

theorem band1 (a : BitVec 32) : bits .and .u32 (a.toNat : Int) 1 = ((a.toNat % 2 : Nat) : Int) := by
  have e1 : BitVec.ofInt IntKind.u32.bits (a.toNat : Int) = a := by
    show BitVec.ofInt 32 _ = _
    rw [ofInt32, BitVec.ofNat_toNat, BitVec.setWidth_eq]
  have e2 : BitVec.ofInt IntKind.u32.bits 1 = 1#32 := rfl
  have h := Nat.mod_lt a.toNat (show 0 < 2 by omega)
  unfold bits
  simp only [e1, e2]
  have e3 : (a &&& 1#32 : BitVec 32).toNat = a.toNat % 2 := by
    rw [BitVec.toNat_and]
    show a.toNat &&& 1 = _
    exact Nat.and_one_is_mod _
  have := wrap_u32 (a.toNat % 2) (by omega)
  rw [← e3] at this ⊢
  exact this
theorem doc_bit (R : BitVec 32) (x : UInt8) (j : Nat) : (bits .and .u32 (bits .xor .u32 (R.toNat : Int) ((x.toNat : Int) / 2 ^ j)) 1 == 1) = (R ^^^ BitVec.ofNat 32 (x.toNat / 2 ^ j)).getLsbD 0 := by
  have hx := x.toNat_lt
  have e0 : ((x.toNat : Int) / 2 ^ j) = ((BitVec.ofNat 32 (x.toNat / 2 ^ j)).toNat : Int) := by
    have : x.toNat / 2 ^ j ≤ x.toNat := Nat.div_le_self _ _
    rw [BitVec.toNat_ofNat, Nat.mod_eq_of_lt (by omega)]
    simp
  rw [e0, bxor_nat, band1]
  generalize R ^^^ BitVec.ofNat 32 (x.toNat / 2 ^ j) = V
  have : V.getLsbD 0 = decide (V.toNat % 2 = 1) := by
    simp [BitVec.getLsbD, Nat.testBit]
    rcases Nat.mod_two_eq_zero_or_one V.toNat with h | h <;> simp [h]
  rw [this]
  rcases Nat.mod_two_eq_zero_or_one V.toNat with h | h <;> simp [h]
theorem doc_xor (R : BitVec 32) : bits .xor .u32 ((R.toNat : Int) / 2) 3988292384 = (((R >>> 1) ^^^ 0xedb88320#32).toNat : Int) := by
  rw [← bxor_nat, BitVec.toNat_ushiftRight, Nat.shiftRight_eq_div_pow]
  rfl
theorem doc_shr (R : BitVec 32) : ((R.toNat : Int) / 2) = ((R >>> 1).toNat : Int) := by
  rw [BitVec.toNat_ushiftRight, Nat.shiftRight_eq_div_pow]
  simp

set_option maxHeartbeats 1000000 in
theorem refSum_B (w : World) (A : Option Addr) (l : List UInt8) (c n : Nat) (hr : Rd Non w A l) (hl : l.length = n) (hn : n ≤ c) (hc : c ≤ maxLen) :
    Calls Tryz.prog 162 #[.slice A n c] w fun e w' => e = .returned (.int .u32 ((sum l).toNat : Int)) ∧ w = w' := by
  unfold maxLen at hc
  have HL := Lib.hid hl
  clear hl
  go_enter Tryz.func162, Tryz.ntmps162
  go_wp2
  go_loop [3, 4] (fun r i => ∃ k : Nat, k ≤ n ∧ i = .int .i64 k ∧ r = .int .u32 ((reg (BitVec.allOnes 32) (l.take k)).toNat : Int)) (fun _ i => n - (intOf i).toNat)
  case atStart => exact ⟨0, by omega, rfl, by simp [reg]⟩
  case round =>
    obtain ⟨k, hk, rfl, rfl⟩ := hrel
    by_cases hlt : k < n
    · obtain ⟨x, hx⟩ : ∃ x, l[k]? = some x := ⟨_, List.getElem?_eq_getElem (by rw [HL.out]; exact hlt)⟩
      obtain ⟨ad, rfl, hcl, -⟩ := hr k x hx
      unfold byteV at hcl
      have e1 : reg (BitVec.allOnes 32) (l.take (k + 1)) = upd (reg (BitVec.allOnes 32) (l.take k)) x := by
        rw [List.take_add_one, hx]; simp [reg]
      have HS := Lib.hid e1
      generalize reg (BitVec.allOnes 32) (l.take k) = R at *
      clear e1 hx
      have hxl := x.toNat_lt
      have hlt' : (k : Int) < (n : Int) := by omega
      go_wp2
      go_loop [3, 5] (fun r i => ∃ (j : Nat) (R' : BitVec 32), j ≤ 8 ∧ i = .int .i64 j ∧ r = .int .u32 (R'.toNat : Int) ∧ docLoop (8 - j) R' (x.toNat / 2 ^ j) = upd R x) (fun _ i => 8 - (intOf i).toNat)
      case atStart => exact ⟨0, R, by omega, rfl, rfl, by simpa using doc8 R x⟩
      case round =>
        obtain ⟨j, R', hj, rfl, rfl, hd⟩ := hrel
        have HD := Lib.hid hd
        clear hd
        by_cases hj8 : j < 8
        · have hj8' : (j : Int) < 8 := by omega
          have ed : docLoop (8 - (j + 1)) (bitDoc R' (x.toNat / 2 ^ j)) (x.toNat / 2 ^ (j + 1)) = upd R x := by
            have h := HD.out
            rw [show 8 - j = (8 - (j + 1)) + 1 by omega, docLoop, Nat.div_div_eq_div_mul, ← Nat.pow_succ] at h
            exact h
          have ED := Lib.hid ed
          clear ed
          go_wp2
          case roundEnd =>
            rename_i hbit
            rw [doc_bit] at hbit
            refine ⟨⟨j + 1, (R' >>> 1) ^^^ 0xedb88320#32, by omega, by go_num, by rw [doc_xor], ?_⟩, by simp [intOf]; omega⟩
            have h := ED.out
            rw [show bitDoc R' (x.toNat / 2 ^ j) = (R' >>> 1) ^^^ 0xedb88320#32 by unfold bitDoc; rw [hbit]; rfl] at h
            exact h
          case roundEnd =>
            rename_i hbit
            rw [doc_bit] at hbit
            refine ⟨⟨j + 1, R' >>> 1, by omega, by go_num, congrArg (Value.int .u32) (doc_shr R'), ?_⟩, by simp [intOf]; omega⟩
            have h := ED.out
            rw [show bitDoc R' (x.toNat / 2 ^ j) = R' >>> 1 by unfold bitDoc; rw [hbit]; rfl] at h
            exact h
        · obtain rfl : j = 8 := by omega
          have h8 : R' = upd R x := HD.out
          subst h8
          go_wp2
          exact ⟨⟨k + 1, by omega, by go_num, by rw [HS.out]⟩, by simp [intOf]; omega⟩
    · obtain rfl : k = n := by omega
      have e : l.take k = l := List.take_of_length_le (by rw [HL.out]; exact Nat.le_refl _)
      rw [e]
      generalize hR : reg (BitVec.allOnes 32) l = R at *
      have es : bits .xor .u32 (R.toNat : Int) 4294967295 = ((sum l).toNat : Int) := by
        have h := bxor_nat R (BitVec.allOnes 32)
        rw [sum, hR, ← BitVec.xor_allOnes, ← h]
        rfl
      have ES := Lib.hid es
      clear es hR e
      go_wp2
      rw [ES.out]
      go_ret
      exact ⟨rfl, rfl⟩

/-- the lowest k bytes of a number -/
def bytesOf : Nat → Nat → List UInt8
  | 0, _ => []
  | k + 1, m => UInt8.ofNat (m % 256) :: bytesOf k (m / 256)
theorem bytesOf_4 (m : Nat) (_h : m < 4294967296) : bytesOf 4 m = four m := by
  simp only [bytesOf, four, Nat.div_div_eq_div_mul]
theorem bytesOf_snoc : ∀ (k m : Nat), bytesOf (k + 1) m = bytesOf k m ++ [UInt8.ofNat (m / 256 ^ k % 256)]
  | 0, m => by simp [bytesOf]
  | k + 1, m => by
    rw [bytesOf, bytesOf_snoc k, bytesOf, List.cons_append, Nat.div_div_eq_div_mul, Nat.pow_succ, Nat.mul_comm 256]
theorem rd_one (w : World) (v : Value) (x : UInt8) (hv : v = byteV x) (S : Nat → Prop) : Rd S (w.alloc (.cells #[v] TB)) (some ⟨w.heap.size, 0, none⟩) [x] := by
  subst hv
  exact (Own.of_cells (fun _ => True) (heap_alloc_new w _) trivial rfl).rd S

theorem put_B (W w : World) (hb : Below W.heap.size W w) (v : Value) (l : List UInt8) (hown : w.ownsRow W.heap.size TB 1 v l.length (l.map byteV)) (hl : l.length ≤ 70368744177664) (m : Nat) (hm : m < 4294967296) :
    Calls Tryz.prog 161 #[v, .int .u32 (m : Int)] w fun e w' => ∃ v', e = .returned v' ∧ w'.ownsRow W.heap.size TB 1 v' (l ++ four m).length ((l ++ four m).map byteV) ∧ Below W.heap.size W w' := by
  obtain ⟨i, hi, hz, hs, hby⟩ := info_parts info_u8
  go_enter Tryz.func161, Tryz.ntmps161
  go_wp2
  go_loopw [0, 1, 5] (fun s q i wr => ∃ k : Nat, k ≤ 4 ∧ i = .int .i64 k ∧ q = .int .u32 ((m / 256 ^ k : Nat) : Int) ∧ wr.ownsRow W.heap.size TB 1 s (l.length + k) ((l ++ bytesOf k m).map byteV) ∧ Below W.heap.size W wr) (fun _ _ i _ => 4 - (intOf i).toNat)
  case atStart => exact ⟨0, by omega, rfl, by simp, by simpa [bytesOf] using hown, hb⟩
  case round =>
    obtain ⟨k, hk, rfl, rfl, ho, hbl⟩ := hrel
    by_cases h4 : k < 4
    · have hq : m / 256 ^ k ≤ m := Nat.div_le_self _ _
      have hd : m / 256 ^ (k + 1) = m / 256 ^ k / 256 := by rw [Nat.pow_succ, Nat.div_div_eq_div_mul]
      have hsn := bytesOf_snoc k m
      generalize m / 256 ^ k = q at *
      have HD := Lib.hid hd
      have HS := Lib.hid hsn
      clear hd hsn
      have hq' : q < 4294967296 := by omega
      have hk' : (k : Int) < 4 := by omega
      obtain ⟨Av, cv, rfl, _, _⟩ := own_val ho
      have hx : Value.int .u8 ((q : Int) % 256) = byteV (UInt8.ofNat (q % 256)) := by
        unfold byteV; rw [byte_mod]; congr 1
      have HX := Lib.hid hx
      clear hx
      go_wp2_with (at_builtin
                   refine wpList_appB rfl (.tmp 10) (.tmp 14) 30 rfl i Tryz.underlying30 hi hz hs hby W.heap.size _ (l.length + k) (l ++ bytesOf k m) rfl (ho.alloc _) Non _ 1 1 [UInt8.ofNat (q % 256)] rfl rfl (rd_one wr _ _ HX.out _) (by omega) (by have := hbl.size; simp; omega) ?_
                   intro v2 w2 hown2 hgrow hat)
      go_roundw
      case rel => exact ⟨k + 1, by omega, by go_num, by rw [HD.out]; go_num, by rw [HS.out, ← List.append_assoc]; exact hown2, (hbl.alloc hbl.size _).grown hgrow (by have := hbl.size; simp; omega) (fun j hj => (ho.lt j hj).1)⟩
      case measure => simp [intOf]; omega
    · obtain rfl : k = 4 := by omega
      go_wp2
      go_ret
      rw [bytesOf_4 m hm] at ho
      exact ⟨_, rfl, by simpa [length_four] using ho, hbl⟩

theorem own_rd {w : World} {base n c : Nat} {A : Option Addr} {l : List UInt8} (h : w.ownsRow base TB 1 (.slice A n c) n (l.map byteV)) (hn : n = l.length) : Rd Non w A l := (Own.of_row h hn).rd _

set_option maxHeartbeats 1000000 in
theorem refFrame_B (w : World) (A : Option Addr) (l : List UInt8) (c n : Nat) (hr : Rd Non w A l) (hl : l.length = n) (hn : n ≤ c) (hc : c ≤ maxLen) :
    Calls Tryz.prog 153 #[.slice A n c] w fun e w' =>
      if n ≤ 65536 then Made w (frame l) 0 e w' else e = .returned (.tuple #[.slice none 0 0, .int .i64 3]) ∧ w' = w := by
  unfold maxLen at hc
  obtain ⟨i, hi, hz, hs, hby⟩ := info_parts info_u8
  by_cases h : n ≤ 65536
  · simp only [if_pos h]
    go_enter Tryz.func153, Tryz.ntmps153
    have g : ¬ (65536 : Int) < (n : Int) := by omega
    have HL := Lib.hid hl
    clear hl
    go_wp2_with (go_at_call 161; refine (put_B w _ (Below.refl _ _) (.slice none 0 0) [] (World.ownsRow_nil _ _ _ _) (by simp) n (by omega)).mono ?_; rintro e w1 ⟨v1, rfl, ho1, hb1⟩; rw [List.nil_append] at ho1)
    obtain ⟨A1, c1, rfl, hc1, hm1⟩ := own_val ho1
    rw [length_four] at ho1 hc1 ⊢
    go_at_call 162
    refine (refSum_B _ A1 (four n) c1 4 (own_rd ho1 rfl) rfl hc1 hm1).mono ?_
    rintro e w2 ⟨rfl, rfl⟩
    have k1 := (sum (four n)).isLt
    generalize hv1 : (sum (four n)).toNat = v1 at *
    have HV1 := Lib.hid hv1
    clear hv1
    go_wp2_with (go_at_call 161; refine (put_B w _ hb1 _ (four n) ho1 (by simp [length_four]) v1 k1).mono ?_; rintro e w2 ⟨v2, rfl, ho2, hb2⟩)
    go_at_call 162
    refine (refSum_B _ A l c n (hr.below hb2) HL.out hn (by unfold maxLen; omega)).mono ?_
    rintro e w3 ⟨rfl, rfl⟩
    have k2 := (sum l).isLt
    generalize hv2 : (sum l).toNat = v3 at *
    have HV2 := Lib.hid hv2
    clear hv2
    go_wp2_with (first
                 | (go_at_call 161; refine (put_B w _ hb2 _ (four n ++ four v1) ho2 (by simp [length_four]) v3 k2).mono ?_; rintro e w3 ⟨v4, rfl, ho3, hb3⟩)
                 | (at_builtin
                    refine wpList_appB rfl (.tmp 20) (.tmp 21) 30 rfl i Tryz.underlying30 hi hz hs hby w.heap.size _ _ ((four n ++ four v1) ++ four v3) rfl ho3 Non A n c l rfl HL.out (hr.below hb3) (by simp [length_four]; omega) hb3.size ?_
                    intro v5 w4 hown4 hgrow4 hat4))
    have hB4 := hb3.grown hgrow4 hb3.size (fun j hj => (ho3.lt j hj).1)
    have eF : (four n ++ four v1 ++ four v3) ++ l = frame l := by
      rw [frame, HL.out, ← HV1.out, ← HV2.out]
      simp only [List.append_assoc]
    rw [eF] at hown4
    have eL : (four n ++ four v1 ++ four v3).length + n = (frame l).length := by rw [← eF]; simp only [List.length_append, HL.out]
    rw [eL] at hown4
    obtain ⟨A5, c5, rfl, hc5, hm5⟩ := own_val hown4
    go_ret2
    exact ⟨A5, c5, rfl, Own.of_row hown4 rfl, hc5, hm5, hB4⟩
  · simp only [if_neg h]
    go_enter Tryz.func153, Tryz.ntmps153
    have g : (65536 : Int) < (n : Int) := by omega
    go_wp2
    go_ret2
    exact ⟨rfl, rfl⟩

/-- the number in the first k bytes -/
def numOf : Nat → List UInt8 → Nat
  | 0, _ => 0
  | k + 1, l => numOf k l + (l.getD k 0).toNat * 256 ^ k
theorem numOf_4 (l : List UInt8) : numOf 4 l = num4 l := by
  simp only [numOf, num4]; omega
theorem numOf_lt : ∀ (k : Nat) (l : List UInt8), numOf k l < 256 ^ k
  | 0, _ => by simp [numOf]
  | k + 1, l => by
    have h := numOf_lt k l
    have hx := (l.getD k 0).toNat_lt
    have hm : (l.getD k 0).toNat * 256 ^ k ≤ 255 * 256 ^ k := Nat.mul_le_mul_right _ (by omega)
    rw [numOf, Nat.pow_succ]
    omega

theorem four_num4 (l : List UInt8) (h : l.length = 4) : four (num4 l) = l := by
  match l, h with
  | [a, b, c, d], _ =>
    have ha := a.toNat_lt
    have hb := b.toNat_lt
    have hc := c.toNat_lt
    have hd := d.toNat_lt
    have e : num4 [a, b, c, d] = a.toNat + b.toNat * 256 + c.toNat * 65536 + d.toNat * 16777216 := rfl
    rw [e]
    unfold four
    have e0 : (a.toNat + b.toNat * 256 + c.toNat * 65536 + d.toNat * 16777216) % 256 = a.toNat := by omega
    have e1 : (a.toNat + b.toNat * 256 + c.toNat * 65536 + d.toNat * 16777216) / 256 % 256 = b.toNat := by omega
    have e2 : (a.toNat + b.toNat * 256 + c.toNat * 65536 + d.toNat * 16777216) / 65536 % 256 = c.toNat := by omega
    have e3 : (a.toNat + b.toNat * 256 + c.toNat * 65536 + d.toNat * 16777216) / 16777216 % 256 = d.toNat := by omega
    rw [e0, e1, e2, e3]
    simp
theorem four_beq (s : Nat) (hs : s < 4294967296) (l : List UInt8) (hl : l.length = 4) : (four s == l) = decide (s = num4 l) := by
  by_cases h : s = num4 l
  · subst h
    rw [four_num4 l hl]; simp
  · have : four s ≠ l := fun e => h (by rw [← e, ← List.append_nil (four s), num4_four s hs])
    simp [h, this]

end Go.Proofs.YtediidajdpdeiaaGreatDoor
