/- The document's Next, of bytes whose block may have any room behind them (for Parse of what a disk keeps). -/
import Derived.Test.YtediidajdpdeiaaDoorJ2
import Derived.Test.YtediidajdpdeiaaDoorJ8
import Derived.Test.YtediidajdpdeiaaDoorJ14
import Derived.Test.YtediidajdpdeiaaDoorJ10
import Derived.Test.YtediidajdpdeiaaDoorJ13
import Derived.Test.YtediidajdpdeiaaDoorJ11

namespace Go.Proofs.YtediidajdpdeiaaDoor
open Go.RowKit CrcM
set_option maxRecDepth 100000

set_option maxHeartbeats 1000000 in
theorem refSum_S (w : World) (A : Option Addr) (l : List UInt8) (c n : Nat) (hr : Rd Non w A l) (hl : l.length = n) (hn : n ≤ c) (hc : n ≤ maxLen) :
    Calls Tryd.prog 23 #[.slice A n c] w fun e w' => e = .returned (.int .u32 ((sum l).toNat : Int)) ∧ w = w' := by
  unfold maxLen at hc
  have HL := Lib.hid hl
  clear hl
  go_enter Tryd.func23, Tryd.ntmps23
  go_wp2
  go_loop [3, 4] (fun r i => ∃ k : Nat, k ≤ n ∧ i = .int .i64 k ∧ r = .int .u32 ((reg (BitVec.allOnes 32) (l.take k)).toNat : Int)) (fun _ i => n - (intOf i).toNat)
  case atStart => exact ⟨0, by omega, rfl, by simp [reg]⟩
  case round =>
    obtain ⟨k, hk, rfl, rfl⟩ := hrel
    by_cases hlt : k < n
    · obtain ⟨x, hx⟩ : ∃ x, l[k]? = some x := ⟨_, List.getElem?_eq_getElem (by rw [HL.out]; exact hlt)⟩
      obtain ⟨ad, rfl, hcl, -⟩ := hr k x hx
      unfold byteV at hcl
      have e1 : reg (BitVec.allOnes 32) (l.take (k + 1)) = upd (reg (BitVec.allOnes 32) (l.take k)) x := by
        rw [List.take_add_one, hx]; simp [reg]
      have HS := Lib.hid e1
      generalize reg (BitVec.allOnes 32) (l.take k) = R at *
      clear e1 hx
      have hxl := x.toNat_lt
      have hlt' : (k : Int) < (n : Int) := by omega
      go_wp2
      go_loop [3, 5] (fun r i => ∃ (j : Nat) (R' : BitVec 32), j ≤ 8 ∧ i = .int .i64 j ∧ r = .int .u32 (R'.toNat : Int) ∧ docLoop (8 - j) R' (x.toNat / 2 ^ j) = upd R x) (fun _ i => 8 - (intOf i).toNat)
      case atStart => exact ⟨0, R, by omega, rfl, rfl, by simpa using doc8 R x⟩
      case round =>
        obtain ⟨j, R', hj, rfl, rfl, hd⟩ := hrel
        have HD := Lib.hid hd
        clear hd
        by_cases hj8 : j < 8
        · have hj8' : (j : Int) < 8 := by omega
          have ed : docLoop (8 - (j + 1)) (bitDoc R' (x.toNat / 2 ^ j)) (x.toNat / 2 ^ (j + 1)) = upd R x := by
            have h := HD.out
            rw [show 8 - j = (8 - (j + 1)) + 1 by omega, docLoop, Nat.div_div_eq_div_mul, ← Nat.pow_succ] at h
            exact h
          have ED := Lib.hid ed
          clear ed
          go_wp2
          case roundEnd =>
            rename_i hbit
            rw [doc_bit] at hbit
            refine ⟨⟨j + 1, (R' >>> 1) ^^^ 0xedb88320#32, by omega, by go_num, by rw [doc_xor], ?_⟩, by simp [intOf]; omega⟩
            have h := ED.out
            rw [show bitDoc R' (x.toNat / 2 ^ j) = (R' >>> 1) ^^^ 0xedb88320#32 by unfold bitDoc; rw [hbit]; rfl] at h
            exact h
          case roundEnd =>
            rename_i hbit
            rw [doc_bit] at hbit
            refine ⟨⟨j + 1, R' >>> 1, by omega, by go_num, congrArg (Value.int .u32) (doc_shr R'), ?_⟩, by simp [intOf]; omega⟩
            have h := ED.out
            rw [show bitDoc R' (x.toNat / 2 ^ j) = R' >>> 1 by unfold bitDoc; rw [hbit]; rfl] at h
            exact h
        · obtain rfl : j = 8 := by omega
          have h8 : R' = upd R x := HD.out
          subst h8
          go_wp2
          exact ⟨⟨k + 1, by omega, by go_num, by rw [HS.out]⟩, by simp [intOf]; omega⟩
    · obtain rfl : k = n := by omega
      have e : l.take k = l := List.take_of_length_le (by rw [HL.out]; exact Nat.le_refl _)
      rw [e]
      generalize hR : reg (BitVec.allOnes 32) l = R at *
      have es : bits .xor .u32 (R.toNat : Int) 4294967295 = ((sum l).toNat : Int) := by
        have h := bxor_nat R (BitVec.allOnes 32)
        rw [sum, hR, ← BitVec.xor_allOnes, ← h]
        rfl
      have ES := Lib.hid es
      clear es hR e
      go_wp2
      rw [ES.out]
      go_ret
      exact ⟨rfl, rfl⟩

set_option maxHeartbeats 1000000 in
theorem refNext_S (w : World) (A : Option Addr) (l : List UInt8) (c n : Nat) (hr : Rd Non w A l) (hl : l.length = n) (hn : n ≤ c) (hm : n ≤ maxLen) (a : Int) :
    Calls Tryd.prog 29 #[.slice A n c, .int .i64 a] w (NextDid w l a) := by
  unfold maxLen at hm
  obtain ⟨i, hi, hz, hs, hby⟩ := info_parts info_u8
  have HL := Lib.hid hl
  by_cases h0 : a < 0
  · go_enter Tryd.func29, Tryd.ntmps29
    have e : next l a = .error 2 := if_pos (.inl h0)
    clear hl
    go_wp2
    go_ret3
    exact NextDid.err e (Below.refl _ _)
  obtain ⟨m, rfl⟩ : ∃ m : Nat, a = m := ⟨a.toNat, by omega⟩
  by_cases h1 : (n : Int) < (m : Int)
  · go_enter Tryd.func29, Tryd.ntmps29
    have e : next l m = .error 2 := if_pos (.inr (by rw [hl]; exact h1))
    clear hl
    go_wp2
    go_ret3
    exact NextDid.err e (Below.refl _ _)
  have k0 : ¬ ((m : Int) < 0 ∨ (l.length : Int) < m) := by rw [hl]; omega
  by_cases h2 : (n : Int) - (m : Int) < 12
  · go_enter Tryd.func29, Tryd.ntmps29
    have e : next l m = .error 4 := by unfold next; rw [if_neg k0, if_pos (by rw [hl]; exact h2)]
    have k2 : IntKind.i64.wrap ((n : Int) - (m : Int)) = (n : Int) - (m : Int) := by rw [IntKind.wrap_i64]; omega
    clear hl k0
    go_wp2
    go_ret3
    exact NextDid.err e (Below.refl _ _)
  have e := show next l m = _ by
    unfold next; rw [if_neg k0, if_neg (by rw [hl]; exact h2), Int.toNat_natCast]
  have hd : ((l.take (m + 12)).drop m).length = 12 := by rw [List.length_drop, List.length_take, hl]; omega
  have ht : (l.drop (m + 12)).length = n - (m + 12) := by rw [List.length_drop, hl]
  have hget : ∀ k : Nat, k < 12 → l[m + k]? = some (((l.take (m + 12)).drop m).getD k 0) := by
    intro k hk
    rw [List.getD_eq_getElem?_getD, List.getElem?_drop, List.getElem?_take_of_lt (by omega), List.getElem?_eq_getElem (by rw [hl]; omega)]
    rfl
  generalize hhead : (l.take (m + 12)).drop m = head at *
  generalize hrest : l.drop (m + 12) = rest at *
  have E := Lib.hid e
  have HD := Lib.hid hd
  have HT := Lib.hid ht
  have HH := Lib.hid hhead
  have HR := Lib.hid hrest
  have HG := Lib.hid hget
  clear hget hd ht hhead hrest e k0 hl
  go_enter Tryd.func29, Tryd.ntmps29
  have q1 : IntKind.i64.wrap ((n : Int) - (m : Int)) = (n : Int) - (m : Int) := by rw [IntKind.wrap_i64]; omega
  go_wp2
  clear q1
  go_loop [7, 8, 9] (fun s q i => ∃ k : Nat, k ≤ 4 ∧ i = .int .i64 k ∧ q = .int .i64 ((256 ^ k : Nat) : Int) ∧ s = .int .i64 ((numOf k head : Nat) : Int)) (fun _ _ i => 4 - (intOf i).toNat)
  case atStart => exact ⟨0, by omega, rfl, rfl, rfl⟩
  case round =>
    obtain ⟨k, hk, rfl, rfl, rfl⟩ := hrel
    by_cases h4 : k < 4
    · obtain ⟨ad, rfl, hcl, -⟩ := hr (m + k) _ (HG.out k (by omega))
      have hP := numOf_lt k head
      have hx := (head.getD k 0).toNat_lt
      have hS := Lib.hid (show numOf (k + 1) head = numOf k head + (head.getD k 0).toNat * 256 ^ k from rfl)
      unfold byteV at hcl
      generalize head.getD k 0 = x at *
      generalize numOf k head = s at *
      have hp4 : 256 ^ k ≤ 16777216 := by
        have : k = 0 ∨ k = 1 ∨ k = 2 ∨ k = 3 := by omega
        rcases this with rfl | rfl | rfl | rfl <;> simp
      have hps := Lib.hid (Nat.pow_succ 256 k)
      generalize 256 ^ k = q at *
      have hxq : x.toNat * q ≤ 255 * 16777216 := Nat.mul_le_mul (by omega) hp4
      have v1 : (m : Int) + (k : Int) < (n : Int) := by omega
      have v2 : (0 : Int) ≤ (m : Int) + (k : Int) := by omega
      have v3 : ((m : Int) + (k : Int)).toNat = m + k := by omega
      have v4 : (k : Int) < 4 := by omega
      go_wp2
      exact ⟨⟨k + 1, by omega, by go_num, congrArg (Value.int .i64) (by rw [← Nat.succ_eq_add_one, hps.out, Int.natCast_mul]; rfl), congrArg (Value.int .i64) (by rw [hS.out, Int.natCast_add, Int.natCast_mul])⟩, by simp [intOf]; omega⟩
    · obtain rfl : k = 4 := by omega
      rw [numOf_4]
      have k2 := num4_lt head
      generalize hN : num4 head = N at *
      have HN := Lib.hid hN
      clear hN
      have p1 : (m : Int) ≤ (n : Int) := by omega
      have p4 : (m : Int) + 4 ≤ (c : Int) := by omega
      have p5 : (0 : Int) ≤ (m : Int) + 4 := by omega
      have p6 : (m : Int) ≤ (m : Int) + 4 := by omega
      have p7 : (m : Int) + 8 ≤ (c : Int) := by omega
      have p8 : (m : Int) + 4 ≤ (m : Int) + 8 := by omega
      have p9 : (0 : Int) ≤ (m : Int) + 8 := by omega
      have t4 : ((m : Int) + 4).toNat = m + 4 := by omega
      have t8 : ((m : Int) + 8).toNat = m + 8 := by omega
      go_wp2
      have n1 : ¬ c = m := by omega
      have n2 : ¬ c = m + 4 := by omega
      have eh : head = (l.drop m).take 12 := by rw [← HH.out, List.drop_take]; congr 1; omega
      have r4 : Rd Non w (A.map (fun x => x.add m)) (head.take 4) := by
        have h := (hr.drop m c (by rw [HL.out]; exact hn)).take 4
        rw [if_neg (by omega)] at h
        rw [eh, List.take_take]; exact h
      have r8 : Rd Non w (A.map (fun x => { block := x.block, off := x.off + (m + 3 + 1) })) ((head.drop 4).take 4) := by
        have h := (hr.drop (m + 4) c (by rw [HL.out]; exact hn)).take 4
        rw [if_neg n2] at h
        rw [eh, List.drop_take, List.take_take, List.drop_drop]; exact h
      have h4l : (head.take 4).length = 4 := by rw [List.length_take, HD.out]; rfl
      have h8l : ((head.drop 4).take 4).length = 4 := by rw [List.length_take, List.length_drop, HD.out]; rfl
      have hnum : num4 ((head.drop 4).take 4) = num4 (head.drop 4) := by
        match head, HD.out with
        | [_, _, _, _, _, _, _, _, _, _, _, _], _ => rfl
      generalize hl4 : head.take 4 = l4 at *
      generalize hl8 : (head.drop 4).take 4 = l8 at *
      generalize hn8 : num4 (head.drop 4) = n8 at *
      have X4 := Lib.hid h4l
      have X8 := Lib.hid h8l
      have XN := Lib.hid hnum
      have k4 := (sum l4).isLt
      generalize hs4 : (sum l4).toNat = s4 at *
      have S4 := Lib.hid hs4
      clear h4l h8l hnum hl4 hl8 hn8 hs4
      have EH := Lib.hid eh
      clear eh
      have hX := refSum_S w.drew _ l4 (c - m) 4 r4.drew X4.out (by omega) (by unfold maxLen; omega)
      rw [S4.out] at hX
      have s8 : (convert 22 9 (.slice (A.map (fun x => { block := x.block, off := x.off + (m + 3 + 1) })) 4 (c - (m + 4)))).run Tryd.prog w.drew = .ok (str l8) w.drew := by
        have h := run_str r8.drew (c - (m + 4))
        rw [X8.out] at h; exact h
      have q4 : IntKind.i64.wrap ((m : Int) + 4) = (m : Int) + 4 := by rw [IntKind.wrap_i64]; omega
      have q8 : IntKind.i64.wrap ((m : Int) + 8) = (m : Int) + 8 := by rw [IntKind.wrap_i64]; omega
      refine wp_region_T #[[], [], [], [], [], [], [], [], [], [], [], [], [], [], [], [14]] [14] (fun w' => (convert 22 9 (.slice (A.map (fun x => { block := x.block, off := x.off + (m + 3 + 1) })) 4 (c - (m + 4)))).run Tryd.prog w' = .ok (str l8) w' ∧ True) 16 rfl (by kernel_rfl) ?_
      (refine wpAnyT_free (i := 0) rfl (by kernel_rfl) rfl (fun _ _ _ h => h) (by kernel_rfl) (fun _ => by go_simp; try rfl) ?_; (try simp only [Act.put, List.setIfInBounds_toArray, List.set_cons_zero, List.set_cons_succ]))
      (refine wpAnyT_free (i := 1) rfl (by kernel_rfl) rfl (fun _ _ _ h => h) (by kernel_rfl) (fun _ => by go_simp; try rfl) ?_; (try simp only [Act.put, List.setIfInBounds_toArray, List.set_cons_zero, List.set_cons_succ]))
      (refine wpAnyT_free (i := 2) rfl (by kernel_rfl) rfl (fun _ _ _ h => h) (by kernel_rfl) (fun _ => by go_simp; try rfl) ?_; (try simp only [Act.put, List.setIfInBounds_toArray, List.set_cons_zero, List.set_cons_succ]))
      (refine wpAnyT_free (i := 3) rfl (by kernel_rfl) rfl (fun _ _ _ h => h) (by kernel_rfl) (fun _ => by go_simp; try rfl) ?_; (try simp only [Act.put, List.setIfInBounds_toArray, List.set_cons_zero, List.set_cons_succ]))
      (refine wpAnyT_free (i := 4) rfl (by kernel_rfl) rfl (fun _ _ _ h => h) (by kernel_rfl) (fun _ => by go_simp; try rfl) ?_; (try simp only [Act.put, List.setIfInBounds_toArray, List.set_cons_zero, List.set_cons_succ]))
      (refine wpAnyT_free (i := 8) rfl (by kernel_rfl) rfl (fun _ _ _ h => h) (by kernel_rfl) (fun _ => by go_simp; try rfl) ?_; (try simp only [Act.put, List.setIfInBounds_toArray, List.set_cons_zero, List.set_cons_succ]))
      (refine wpAnyT_free (i := 9) rfl (by kernel_rfl) rfl (fun _ _ _ h => h) (by kernel_rfl) (fun _ => by go_simp; try rfl) ?_; (try simp only [Act.put, List.setIfInBounds_toArray, List.set_cons_zero, List.set_cons_succ]))
      (refine wpAnyT_free (i := 10) rfl (by kernel_rfl) rfl (fun _ _ _ h => h) (by kernel_rfl) (fun _ => by go_simp; try rfl) ?_; (try simp only [Act.put, List.setIfInBounds_toArray, List.set_cons_zero, List.set_cons_succ]))
      (refine wpAnyT_free (i := 11) rfl (by kernel_rfl) rfl (fun _ _ _ h => h) (by kernel_rfl) (fun _ => by go_simp; try rfl) ?_; (try simp only [Act.put, List.setIfInBounds_toArray, List.set_cons_zero, List.set_cons_succ]))
      (refine wpAnyT_free (i := 12) rfl (by kernel_rfl) rfl (fun _ _ _ h => h) (by kernel_rfl) (fun _ => by go_simp; try rfl) ?_; (try simp only [Act.put, List.setIfInBounds_toArray, List.set_cons_zero, List.set_cons_succ]))
      (refine wpAnyT_free (i := 13) rfl (by kernel_rfl) rfl (fun _ _ _ h => h) (by kernel_rfl) (fun _ => by go_simp; try rfl) ?_; (try simp only [Act.put, List.setIfInBounds_toArray, List.set_cons_zero, List.set_cons_succ]))
      (refine wpAnyT_read (i := 14) rfl (by kernel_rfl) rfl (fun _ _ _ h => h) (by kernel_rfl) (⟨s8, trivial⟩) (fun w hS_ => by obtain ⟨s_1, s_2⟩ := hS_; go_simp; try rfl) ?_; (try simp only [Act.put, List.setIfInBounds_toArray, List.set_cons_zero, List.set_cons_succ]))
      refine wpAnyT_one (i := 5) rfl (by kernel_rfl) rfl ?_
      intro K_ hK_
      clear q4 q8; go_wp2_with (go_at_call 23; refine hX.mono ?_; rintro e w1 ⟨rfl, rfl⟩)
      refine hK_ _ _ ?_ ?_
      · exact fun _ h => h
      clear hK_ K_
      (try simp only [Act.put, List.setIfInBounds_toArray, List.set_cons_zero, List.set_cons_succ])
      refine wpAnyT_one (i := 6) rfl (by kernel_rfl) rfl ?_
      intro K_ hK_
      clear hX; go_wp2_with (go_at_call 78; refine (put_B w _ (Below.refl _ _).drew (.slice none 0 0) [] (World.ownsRow_nil _ _ _ _) (by simp) s4 k4).mono ?_; rintro e w1 ⟨v1, rfl, ho1, hb1⟩; rw [List.nil_append, length_four] at ho1; obtain ⟨A1, c1, rfl, hc1, hm1⟩ := own_val ho1; have s7 := run_str (own_rd ho1 rfl) c1; rw [length_four] at s7; have s9 := run_str (r8.below hb1) (c - (m + 4)); rw [X8.out] at s9)
      refine hK_ _ _ ?_ ?_
      · exact fun _ _ => ⟨s9, trivial⟩
      clear hK_ K_
      (try simp only [Act.put, List.setIfInBounds_toArray, List.set_cons_zero, List.set_cons_succ])
      refine wpAnyT_one (i := 7) rfl (by kernel_rfl) rfl ?_
      intro K_ hK_
      go_wp2
      refine hK_ _ _ ?_ ?_
      · exact fun _ h_ => h_
      clear hK_ K_
      (try simp only [Act.put, List.setIfInBounds_toArray, List.set_cons_zero, List.set_cons_succ])
      (refine wpAnyT_free (i := 15) rfl (by kernel_rfl) rfl (fun _ _ _ h => h) (by kernel_rfl) (fun _ => by go_simp; try rfl) ?_; (try simp only [Act.put, List.setIfInBounds_toArray, List.set_cons_zero, List.set_cons_succ]))
      refine wpAnyT_done (by kernel_rfl) ?_ _
      have hbq := four_beq s4 k4 l8 X8.out
      rw [XN.out] at hbq
      clear s7 s9 s8
      by_cases hs4 : s4 ≠ n8
      · have hb' : (four s4 == l8) = false := by rw [hbq]; exact decide_eq_false hs4
        have e7 : next l (m : Int) = .error 6 := E.out.trans (if_pos hs4)
        clear hbq hs4
        rw [hb']
        go_wp2
        go_ret3
        exact NextDid.err e7 hb1
      have hs4 := Decidable.not_not.1 hs4
      have hb' : (four s4 == l8) = true := by rw [hbq]; exact decide_eq_true hs4
      by_cases hg : 65536 < N
      · have e7 : next l (m : Int) = .error 3 := E.out.trans (by rw [if_neg (fun h => h hs4), if_pos hg])
        have hg' : (65536 : Int) < (N : Int) := by omega
        clear hbq hs4
        rw [hb']
        go_wp2
        go_ret3
        exact NextDid.err e7 hb1
      have hg' : (N : Int) ≤ 65536 := by omega
      by_cases hk : n - (m + 12) < N
      · have e7 : next l (m : Int) = .error 4 := E.out.trans (by rw [if_neg (fun h => h hs4), if_neg hg, if_pos (by rw [HT.out]; exact hk)])
        have hk' : (n : Int) - (m : Int) - 12 < (N : Int) := by omega
        clear hbq hs4
        rw [hb']
        go_wp2
        go_ret3
        exact NextDid.err e7 hb1
      have E2 : next l (m : Int) = if (sum (List.take N rest)).toNat ≠ num4 (List.drop 8 head) then Except.error 6 else Except.ok (List.take N rest, m + 12 + N) :=
        E.out.trans (by rw [if_neg (fun h => h hs4), if_neg hg, if_neg (by rw [HT.out]; exact hk)])
      have E3 := Lib.hid E2
      have hk' : (N : Int) ≤ (n : Int) - (m : Int) - 12 := by omega
      have lN : (rest.take N).length = N := by rw [List.length_take, HT.out]; omega
      have rN : Rd Non w1 (if c = m + 12 then A else A.map (fun x => { block := x.block, off := x.off + (m + 11 + 1) })) (rest.take N) := by
        rw [← HR.out]
        exact (((hr.below hb1).drop (m + 12) c (by rw [HL.out]; exact hn)).take N)
      generalize hlN : rest.take N = lN' at *
      have LN := Lib.hid lN
      clear lN hlN E2 E hbq hs4 hg hk
      rw [hb']
      have p10 : (m : Int) + 12 ≤ (c : Int) := by omega
      have p11 : (m : Int) + 12 + N ≤ (c : Int) := by omega
      have p12 : (0 : Int) ≤ (m : Int) + 12 + N := by omega
      have p13 : (m : Int) + 12 ≤ (m : Int) + 12 + N := by omega
      have p14 : (0 : Int) ≤ (m : Int) + 12 := by omega
      have t12 : ((m : Int) + 12).toNat = m + 12 := by omega
      have t13 : ((m : Int) + 12 + N).toNat = m + 12 + N := by omega
      have n3 : m + 12 + N - (m + 12) = N := by omega
      go_wp2_with (at_builtin
                   generalize hAR : (if c = m + 12 then A else A.map (fun x => { block := x.block, off := x.off + (m + 11 + 1) })) = AR at rN ⊢
                   clear hAR
                   refine wpList_appB rfl (.tmp 66) (.tmp 74) 22 rfl i Tryd.underlying22 hi hz hs hby w1.heap.size _ 0 [] rfl (ownsB_none w1) Non _ N _ lN' rfl LN.out ((rN.mono (fun _ _ h => h.elim)).fr ((Fr.refl _ _).alloc _)) (by omega) (by simp) ?_
                   intro v5 w5 hown5 hgrow5 hat5)
      rw [Nat.zero_add, List.nil_append] at hown5
      obtain ⟨A5, c5, rfl, hc5, hm5⟩ := own_val hown5
      have hB5 := (hb1.alloc hb1.size (.cells #[] TB)).grown hgrow5 (by have := hb1.size; simp; omega) (fun j hj => by have := ((ownsB_none w1).lt j hj).1; have := hb1.size; omega)
      clear hat5 hgrow5
      have n4 : ¬ c = m + 8 := by omega
      have r9 : Rd Non w (A.map (fun x => { block := x.block, off := x.off + (m + 7 + 1) })) (head.drop 8) := by
        have h := (hr.drop (m + 8) c (by rw [HL.out]; exact hn)).take 4
        rw [if_neg n4] at h
        rw [EH.out, List.drop_take, List.drop_drop]; exact h
      have h9l : (head.drop 8).length = 4 := by rw [List.length_drop, HD.out]
      generalize hl9 : head.drop 8 = l9 at *
      have X9 := Lib.hid h9l
      clear h9l hl9
      have rn5 : Rd Non w5 A5 lN' := own_rd hown5 LN.out.symm
      have r95 := r9.below hB5
      have k9 := (sum lN').isLt
      generalize hs9 : (sum lN').toNat = s9 at *
      have S9 := Lib.hid hs9
      generalize hn9 : num4 l9 = n9 at *
      have N9 := Lib.hid hn9
      clear hs9 hn9
      have hX := refSum_B w5.drew A5 lN' c5 N rn5.drew LN.out hc5 hm5
      rw [S9.out] at hX
      have s10 : (convert 22 9 (.slice (A.map (fun x => { block := x.block, off := x.off + (m + 7 + 1) })) 4 (c - (m + 8)))).run Tryd.prog w5.drew = .ok (str l9) w5.drew := by
        have h := run_str r95.drew (c - (m + 8))
        rw [X9.out] at h; exact h
      have p15 : (m : Int) + 8 ≤ (m : Int) + 12 := by omega
      have q8 : IntKind.i64.wrap ((m : Int) + 8) = (m : Int) + 8 := by rw [IntKind.wrap_i64]; omega
      have q12 : IntKind.i64.wrap ((m : Int) + 12) = (m : Int) + 12 := by rw [IntKind.wrap_i64]; omega
      refine wp_region_T #[[], [], [], [], [], [], [], [], [], [], [], [10]] [10] (fun w' => (convert 22 9 (.slice (A.map (fun x => { block := x.block, off := x.off + (m + 7 + 1) })) 4 (c - (m + 8)))).run Tryd.prog w' = .ok (str l9) w' ∧ True) 12 rfl (by kernel_rfl) ?_
      (refine wpAnyT_free (i := 0) rfl (by kernel_rfl) rfl (fun _ _ _ h => h) (by kernel_rfl) (fun _ => by go_simp; try rfl) ?_; (try simp only [Act.put, List.setIfInBounds_toArray, List.set_cons_zero, List.set_cons_succ]))
      (refine wpAnyT_free (i := 4) rfl (by kernel_rfl) rfl (fun _ _ _ h => h) (by kernel_rfl) (fun _ => by go_simp; try rfl) ?_; (try simp only [Act.put, List.setIfInBounds_toArray, List.set_cons_zero, List.set_cons_succ]))
      (refine wpAnyT_free (i := 5) rfl (by kernel_rfl) rfl (fun _ _ _ h => h) (by kernel_rfl) (fun _ => by go_simp; try rfl) ?_; (try simp only [Act.put, List.setIfInBounds_toArray, List.set_cons_zero, List.set_cons_succ]))
      (refine wpAnyT_free (i := 6) rfl (by kernel_rfl) rfl (fun _ _ _ h => h) (by kernel_rfl) (fun _ => by go_simp; try rfl) ?_; (try simp only [Act.put, List.setIfInBounds_toArray, List.set_cons_zero, List.set_cons_succ]))
      (refine wpAnyT_free (i := 7) rfl (by kernel_rfl) rfl (fun _ _ _ h => h) (by kernel_rfl) (fun _ => by go_simp; try rfl) ?_; (try simp only [Act.put, List.setIfInBounds_toArray, List.set_cons_zero, List.set_cons_succ]))
      (refine wpAnyT_free (i := 8) rfl (by kernel_rfl) rfl (fun _ _ _ h => h) (by kernel_rfl) (fun _ => by go_simp; try rfl) ?_; (try simp only [Act.put, List.setIfInBounds_toArray, List.set_cons_zero, List.set_cons_succ]))
      (refine wpAnyT_free (i := 9) rfl (by kernel_rfl) rfl (fun _ _ _ h => h) (by kernel_rfl) (fun _ => by go_simp; try rfl) ?_; (try simp only [Act.put, List.setIfInBounds_toArray, List.set_cons_zero, List.set_cons_succ]))
      (refine wpAnyT_read (i := 10) rfl (by kernel_rfl) rfl (fun _ _ _ h => h) (by kernel_rfl) (⟨s10, trivial⟩) (fun w hS_ => by obtain ⟨s_1, s_2⟩ := hS_; go_simp; try rfl) ?_; (try simp only [Act.put, List.setIfInBounds_toArray, List.set_cons_zero, List.set_cons_succ]))
      refine wpAnyT_one (i := 1) rfl (by kernel_rfl) rfl ?_
      intro K_ hK_
      clear q8 q12; go_wp2_with (go_at_call 23; refine hX.mono ?_; rintro e w6 ⟨rfl, rfl⟩)
      refine hK_ _ _ ?_ ?_
      · exact fun _ h => h
      clear hK_ K_
      (try simp only [Act.put, List.setIfInBounds_toArray, List.set_cons_zero, List.set_cons_succ])
      refine wpAnyT_one (i := 2) rfl (by kernel_rfl) rfl ?_
      intro K_ hK_
      clear hX; go_wp2_with (go_at_call 78; refine (put_B w5 _ (Below.refl _ _).drew (.slice none 0 0) [] (World.ownsRow_nil _ _ _ _) (by simp) s9 k9).mono ?_; rintro e w6 ⟨v6, rfl, ho6, hb6⟩; rw [List.nil_append, length_four] at ho6; obtain ⟨A6, c6, rfl, hc6, hm6⟩ := own_val ho6; have s7 := run_str (own_rd ho6 rfl) c6; rw [length_four] at s7; have s11 := run_str (r95.below hb6) (c - (m + 8)); rw [X9.out] at s11)
      refine hK_ _ _ ?_ ?_
      · exact fun _ _ => ⟨s11, trivial⟩
      clear hK_ K_
      (try simp only [Act.put, List.setIfInBounds_toArray, List.set_cons_zero, List.set_cons_succ])
      refine wpAnyT_one (i := 3) rfl (by kernel_rfl) rfl ?_
      intro K_ hK_
      go_wp2
      refine hK_ _ _ ?_ ?_
      · exact fun _ h_ => h_
      clear hK_ K_
      (try simp only [Act.put, List.setIfInBounds_toArray, List.set_cons_zero, List.set_cons_succ])
      (refine wpAnyT_free (i := 11) rfl (by kernel_rfl) rfl (fun _ _ _ h => h) (by kernel_rfl) (fun _ => by go_simp; try rfl) ?_; (try simp only [Act.put, List.setIfInBounds_toArray, List.set_cons_zero, List.set_cons_succ]))
      refine wpAnyT_done (by kernel_rfl) ?_ _
      have hbq := four_beq s9 k9 l9 X9.out
      rw [N9.out] at hbq
      have hB6 := hB5.trans (hb6.mono hB5.size)
      have hO6 : Own (New w) w6 A5 lN' := (((Own.of_row hown5 LN.out.symm).mono (S' := New w) (fun b (hb : _ ≤ b) => Nat.le_trans hb1.size hb)).fr (Fr.of_below (S := Non) hb6))
      clear s7 s11 s10 hown5 ho6
      by_cases hs9 : s9 ≠ n9
      · have hb' : (four s9 == l9) = false := by rw [hbq]; exact decide_eq_false hs9
        have e7 : next l (m : Int) = .error 6 := E3.out.trans (if_pos hs9)
        clear hbq hs9
        rw [hb']
        go_wp2
        go_ret3
        exact NextDid.err e7 hB6
      · have e7 : next l (m : Int) = .ok (lN', m + 12 + N) := E3.out.trans (if_neg hs9)
        have hs9 := Decidable.not_not.1 hs9
        have hb' : (four s9 == l9) = true := by rw [hbq]; exact decide_eq_true hs9
        have E7 := Lib.hid e7
        clear hbq hs9 e7
        rw [hb']
        go_wp2
        go_ret3
        unfold NextDid
        rw [E7.out]
        exact ⟨A5, c5, by rw [LN.out]; rfl, hO6, by rw [LN.out]; exact hc5, hm5, hB6⟩
end Go.Proofs.YtediidajdpdeiaaDoor

/- The document's Parse (layer 7): plain, and the walk. -/
namespace Go.Proofs.YtediidajdpdeiaaDoor
open Go.RowKit CrcM
set_option maxRecDepth 100000

/-- a segment's first number (-1: it has none), its records, and how many of its bytes are frames -/
def parseM (b : List UInt8) : Int × List (List UInt8) × Nat := match (framesOf b).1 with
  | [] => (-1, [], 0)
  | hd :: t => match readNum hd with
    | .error _ => (-1, [], 0)
    | .ok (n, s) => if s = hd.length then ((n : Int), t, (framesOf b).2) else (-1, [], 0)

theorem parseM_end {b : List UInt8} {bs : List (List UInt8)} {at_ : Nat} {base : Int} {recs : List (List UInt8)} {r : Int} (hg : Got b bs at_) (he : next b at_ = .error r) (hs : ScanSt (-1) bs base recs) : parseM b = (base, recs, at_) := by
  have hf := hg.all he
  unfold parseM
  cases bs with
  | nil =>
    obtain ⟨rfl, rfl⟩ := hs
    have := hg.zero rfl
    subst this
    rw [hf]
  | cons hd t =>
    obtain ⟨rfl, n, hn, rfl, -⟩ := hs
    rw [hf]
    simp only [hn, if_true]
theorem parseM_bad {b hd : List UInt8} {t : List (List UInt8)} (h : (framesOf b).1 = hd :: t) (hb : ∀ n : Nat, readNum hd ≠ .ok (n, hd.length)) : parseM b = (-1, [], 0) := by
  unfold parseM
  rw [h]
  simp only
  split
  · rfl
  · rename_i n s e
    rw [if_neg]
    intro h1
    subst h1
    exact hb n e

/-- WHAT Parse leaves -/
def ParseDid (w : World) (r : Int × List (List UInt8) × Nat) (e : Ending) (w' : World) : Prop :=
  ∃ R cr vals, e = .returned (.tuple #[.int .i64 r.1, .slice R r.2.1.length cr, .int .i64 (r.2.2 : Int)]) ∧ Row (fun x => w.heap.size ≤ x) w' TBs (.slice R r.2.1.length cr) vals ∧ Recs w' vals r.2.1 ∧ Below w.heap.size w w'

set_option maxHeartbeats 1000000 in
theorem parse_B (w : World) (A : Option Addr) (b : List UInt8) (c : Nat) (hr : Rd Non w A b) (hc : b.length ≤ c) (hl4 : b.length ≤ 8388608) :
    Calls Tryd.prog 101 #[.slice A b.length c] w (ParseDid w (parseM b)) := by
  obtain ⟨ib, hib, hzb, hsb, hbb⟩ := info_parts info_bs
  go_enter Tryd.func101, Tryd.ntmps101
  go_wp2
  go_loopw [5, 6, 7] (fun rv bv av wr => ∃ (bs : List (List UInt8)) (at_ : Nat) (base : Int) (recs : List (List UInt8)) (vals : List Value), bv = .int .i64 base ∧ av = .int .i64 (at_ : Int) ∧ Row (fun x => w.heap.size ≤ x) wr TBs rv vals ∧ Recs wr vals recs ∧ Got b bs at_ ∧ ScanSt (-1) bs base recs ∧ Below w.heap.size w wr) (fun _ _ a _ => b.length - (intOf a).toNat)
  case atStart => exact ⟨[], 0, -1, [], [], rfl, rfl, Row.nil _ _ _, Recs.nil _, .start, ⟨rfl, rfl⟩, Below.refl _ _⟩
  case round =>
    obtain ⟨bs, at_, base, recs, vals, rfl, rfl, hrow, hrec, hgot, hst, hb⟩ := hrel
    obtain ⟨R, cr, rfl, -⟩ := hrow.val
    have hvl : vals.length = recs.length := hrec.1
    obtain ⟨hg1, hg2, -⟩ := hgot.le
    have hnx := refNext_S wr A b c b.length (hr.below hb) rfl hc (by unfold maxLen; omega) (at_ : Int)
    have hfin : ∀ (r : Int) (W' : World), next b at_ = .error r → Below wr.heap.size wr W' → ParseDid w (parseM b) (.returned (.tuple #[.int .i64 base, .slice R vals.length cr, .int .i64 (at_ : Int)])) W' := fun r W' he hb' => by
      rw [parseM_end hgot he hst]
      refine ⟨R, cr, vals, by rw [hvl], ?_, hrec.fr (S' := Non) (Fr.of_below hb'), hb.trans (hb'.mono hb.size)⟩
      rw [← hvl]
      exact hrow.below hb'
    by_cases hlt : at_ < b.length
    · have hlt' : (at_ : Int) < (b.length : Int) := by omega
      cases hn : next b at_ with
      | error r =>
        have hr0 := next_err hn
        have hr1 : (r == 0) = false := beq_eq_false_iff_ne.2 hr0
        have hF := fun W' => hfin r W' hn
        have HN := Lib.hid hn
        clear hn hfin hvl hg1 hg2
        go_wp2_with (go_at_call 29; refine hnx.mono ?_; intro e w2 hd; unfold NextDid at hd; rw [HN.out] at hd; obtain ⟨rfl, hb2⟩ := hd)
        go_ret3
        exact hF _ hb2
      | ok q =>
        obtain ⟨body, en⟩ := q
        have hno := next_ok hn
        simp only at hno
        have hgot2 := hgot.step hn
        have HN := Lib.hid hn
        have hbl : body.length ≤ maxLen := by unfold maxLen; omega
        have HNO := Lib.hid hno
        clear hfin hno
        cases bs with
        | nil =>
          obtain rfl : at_ = 0 := hgot.zero rfl
          obtain ⟨rfl, rfl⟩ := hst
          obtain ⟨tl, htl⟩ := framesOf_first (b := b) hn
          have hv0 : vals = [] := List.eq_nil_of_length_eq_zero hvl
          subst hv0
          have hP := fun h => parseM_bad (b := b) htl h
          clear hn hvl htl
          cases hrn : readNum body with
          | error r =>
            have hr0 := readNum_err hrn
            have hr1 : (r == 0) = false := beq_eq_false_iff_ne.2 hr0
            have hr2 : (r != 0) = true := bne_iff_ne.2 hr0
            have HP := Lib.hid (hP (fun n h => by rw [hrn] at h; cases h))
            have HR := Lib.hid hrn
            clear hP hrn
            go_wp2_with (first
              | (go_at_call 29; refine hnx.mono ?_; intro e w2 hd; unfold NextDid at hd; rw [HN.out] at hd; obtain ⟨A2, c2, rfl, ho2, hc2, hm2, hb2⟩ := hd)
              | (go_at_call 128; refine (refReadNum_B w2 A2 c2 body (ho2.rd _) hbl).mono ?_; unfold ReadDid; rw [HR.out]; rintro e w3 ⟨rfl, rfl⟩))
            go_ret3
            unfold ParseDid
            rw [HP.out]
            exact ⟨none, 0, [], rfl, Row.nil _ _ _, Recs.nil _, hb.trans (hb2.mono hb.size)⟩
          | ok q =>
            obtain ⟨n, sz⟩ := q
            by_cases hsz : sz = body.length
            · subst hsz
              have HR := Lib.hid hrn
              have hrn' := hrn
              clear hP hrn
              go_wp2_with (first
                | (go_at_call 29; refine hnx.mono ?_; intro e w2 hd; unfold NextDid at hd; rw [HN.out] at hd; obtain ⟨A2, c2, rfl, ho2, hc2, hm2, hb2⟩ := hd)
                | (go_at_call 128; refine (refReadNum_B w2 A2 c2 body (ho2.rd _) hbl).mono ?_; unfold ReadDid; rw [HR.out]; rintro e w3 ⟨rfl, rfl⟩))
              go_roundw
              case rel => exact ⟨[body], en, (n : Int), [], [], rfl, rfl, hrow.below hb2, Recs.nil _, hgot2, ⟨rfl, n, HR.out, rfl, .inl (by decide)⟩, hb.trans (hb2.mono hb.size)⟩
              case measure => have := HNO.out; simp [intOf]; omega
            · have heq : ((sz : Int) != (body.length : Int)) = true := by rw [bne_iff_ne]; omega
              have HP := Lib.hid (hP (fun n' h => by rw [hrn] at h; injection h with h; injection h with _ h; exact hsz h))
              have HR := Lib.hid hrn
              clear hP hrn
              go_wp2_with (first
                | (go_at_call 29; refine hnx.mono ?_; intro e w2 hd; unfold NextDid at hd; rw [HN.out] at hd; obtain ⟨A2, c2, rfl, ho2, hc2, hm2, hb2⟩ := hd)
                | (go_at_call 128; refine (refReadNum_B w2 A2 c2 body (ho2.rd _) hbl).mono ?_; unfold ReadDid; rw [HR.out]; rintro e w3 ⟨rfl, rfl⟩))
              go_ret3
              unfold ParseDid
              rw [HP.out]
              exact ⟨none, 0, [], rfl, Row.nil _ _ _, Recs.nil _, hb.trans (hb2.mono hb.size)⟩
        | cons hd0 t =>
          obtain ⟨rfl, n0, hn0, rfl, -⟩ := hst
          rw [List.length_cons] at hg1
          have hpos : ((at_ : Int) == 0) = false := by rw [beq_eq_false_iff_ne]; omega
          have HV4 : vals.length + 1 ≤ maxLen := by unfold maxLen; omega
          have HV5 : (vals.length + 1) * 24 ≤ 140737488355328 := by omega
          have HV := Lib.hid hvl
          have HN0 := Lib.hid hn0
          clear hn hvl hn0
          go_wp2_with (first
            | (go_at_call 29; refine hnx.mono ?_; intro e w2 hd; unfold NextDid at hd; rw [HN.out] at hd; obtain ⟨A2, c2, rfl, ho2, hc2, hm2, hb2⟩ := hd)
            | (at_builtin; refine wpList_append_row rfl (.tmp 47) (.tmp 49) 45 rfl TBs ib _ 24 Tryd.underlying45 hib hzb hsb hbb rfl (.slice R vals.length cr) vals rfl ((hrow.below hb2).below (below_new _ _)) ⟨w2.heap.size, 0, none⟩ (.slice A2 body.length c2) rfl (heap_new_cell _ _ _) rfl HV4 HV5 (by decide) ?_; intro v5 w5 hrow5 hf5 hoth5; obtain ⟨A5, c5, rfl, hc5, hm5⟩ := hrow5.val; rw [List.length_append, List.length_singleton] at hrow5 hc5 ⊢))
          have hbn := below_new w2 (.cells #[.slice A2 body.length c2] TBs)
          have hw2 : w.heap.size ≤ w2.heap.size := Nat.le_trans hb.size hb2.size
          have hb5 : Below w.heap.size w w5 := ((hb.trans (hb2.mono hb.size)).trans (hbn.mono hw2)).trans ⟨hf5.os, hf5.tape, hf5.output, hf5.size, fun x hx => hf5.out x (Nat.lt_of_lt_of_le hx (Nat.le_trans hw2 hbn.size)) (fun hr => by have hr : w.heap.size ≤ x := hr; omega)⟩
          go_roundw
          case rel => exact ⟨(hd0 :: recs) ++ [body], en, (n0 : Int), recs ++ [body], _, rfl, rfl, hrow5.mono (fun x _ hx => hx.elim id (fun q => Nat.le_trans hw2 (Nat.le_trans hbn.size q.1))), (((hrec.fr (S' := Non) (Fr.of_below hb2)).fr (S' := Non) (Fr.of_below hbn)).fr hf5).snoc hc2 hm2 (((ho2.mono (fun _ _ => trivial)).fr (S' := Non) (Fr.of_below hbn)).fr hf5), hgot2, ⟨rfl, n0, HN0.out, rfl, .inl (by decide)⟩, hb5⟩
          case measure => have := HNO.out; simp [intOf]; omega
    · have he : at_ = b.length := by omega
      have hF := hfin 4 wr (by rw [he]; exact next_end b) (Below.refl _ _)
      have hlt' : ¬ (at_ : Int) < (b.length : Int) := by omega
      clear hfin he hvl
      go_wp2
      go_ret3
      exact hF
end Go.Proofs.YtediidajdpdeiaaDoor

/- The document's log (layer 7): plain, in memory, and the walks. -/
namespace Go.Proofs.YtediidajdpdeiaaDoor
open Go.RowKit CrcM
set_option maxRecDepth 100000

abbrev TRl : TypeId := 86
abbrev TPr : TypeId := 91

structure Rg where
  per : Nat
  disks : List Rk
  down : Bool

/-- all bytes of a disk -/
def Rk.all (R : Rk) : List UInt8 := R.kept ++ R.rest

/-- block b is a log of the document's: all of it laid open -/
structure RlogO (S H : Nat → Prop) (w : World) (b : Nat) (A : Option Addr) (c : Nat) (ps : List Nat) (L : Rg) : Prop where
  hS : ∀ x, H x → S x
  hb : H b
  blk : Blk w b TRl #[.int .i64 (L.per : Int), .slice A ps.length c, .bool L.down]
  row : Row H w TPr (.slice A ps.length c) (ps.map ptr)
  disks : Refs S H w ps L.disks
  lt : ∀ x, S x → x < w.heap.size
  per : 1 ≤ L.per ∧ L.per ≤ 1024
  few : L.disks.length ≤ 256
  small : ∀ R ∈ L.disks, R.kept.length + R.rest.length ≤ 4194304

section
variable {S H S' : Nat → Prop} {w w' : World} {b : Nat} {A : Option Addr} {c : Nat} {ps : List Nat} {L : Rg}
theorem RlogO.fr (h : RlogO S H w b A c ps L) (f : Fr S' w w') (hd : ∀ x, S x → S' x → IsB w x) : RlogO S H w' b A c ps L :=
  ⟨h.hS, h.hb, h.blk.fr f (fun hs => h.blk.notB (by decide) (hd _ (h.hS _ h.hb) hs)), h.row.fr f (fun x p q => hd x (h.hS x p) q), h.disks.fr f (fun x p _ q => hd x p q), fun x hx => Nat.lt_of_lt_of_le (h.lt x hx) f.size, h.per, h.few, h.small⟩
theorem RlogO.below (h : RlogO S H w b A c ps L) (hb : Below w.heap.size w w') : RlogO S H w' b A c ps L := h.fr (S' := Non) (Fr.of_below hb) (fun _ _ h => h.elim)
theorem RlogO.mono (h : RlogO S H w b A c ps L) (hs : ∀ x, S x → S' x) (hl : ∀ x, S' x → x < w.heap.size) : RlogO S' H w b A c ps L :=
  ⟨fun x p => hs x (h.hS x p), h.hb, h.blk, h.row, h.disks.mono (fun x _ => hs x) (fun _ _ _ h => h), hl, h.per, h.few, h.small⟩
theorem RlogO.facts {per : Nat} {ds : List Rk} {dn : Bool} (h : RlogO S H w b A c ps ⟨per, ds, dn⟩) :
    w.cell? ⟨b, 0, none⟩ = some (.int .i64 (per : Int)) ∧ w.cell? ⟨b, 1, none⟩ = some (.slice A ps.length c) ∧ w.cell? ⟨b, 2, none⟩ = some (.bool dn) ∧ w.frozen? ⟨b, 1, none⟩ = false ∧ w.frozen? ⟨b, 2, none⟩ = false ∧
    ps.length = ds.length ∧ ps.length ≤ 256 ∧ ps.length ≤ c ∧ c ≤ 9223372036854775807 := by
  have h1 := h.disks.len
  have h2 := h.few
  simp only at h1 h2
  obtain ⟨A', c', h4, h5, h6⟩ := h.row.val
  injection h4 with _ _ h4
  subst h4
  unfold maxLen at h6
  rw [List.length_map] at h5
  exact ⟨h.blk.cell 0 rfl, h.blk.cell 1 rfl, h.blk.cell 2 rfl, h.blk.frozen 1, h.blk.frozen 2, h1, by omega, h5, h6⟩
theorem RlogO.ptrAt (h : RlogO S H w b A c ps L) {k p : Nat} (hp : ps[k]? = some p) : ∃ g o, A = some ⟨g, o, none⟩ ∧ w.cell? ⟨g, o + k, none⟩ = some (.pointer (some ⟨p, 0, none⟩)) := by
  obtain ⟨g, o, c', h1, h2, h3, h4, _⟩ := h.row.cell (k := k) (u := ptr p) (by rw [List.getElem?_map, hp]; rfl)
  injection h1 with h1
  exact ⟨g, o, h1, h4⟩
/-- one disk, and what becomes of the log when it turns -/
theorem RlogO.disk {per : Nat} {ds : List Rk} {dn : Bool} (h : RlogO S H w b A c ps ⟨per, ds, dn⟩) {k p : Nat} {R : Rk} (hp : ps[k]? = some p) (hR : ds[k]? = some R) :
    ∃ (Sd : Nat → Prop) (A1 : Option Addr) (c1 : Nat) (A2 : Option Addr) (c2 : Nat), RefAt Sd w p A1 c1 A2 c2 R ∧ (∀ x, Sd x → S x) ∧
      ∀ w' R', Fr Sd w w' → IsRef (Up Sd w w') w' (.pointer (some ⟨p, 0, none⟩)) R' → R'.kept.length + R'.rest.length ≤ 4194304 → RlogO (Up S w w') H w' b A c ps ⟨per, ds.set k R', dn⟩ := by
  have hH : ∀ x, H x → x < w.heap.size := fun x hx => h.lt x (h.hS x hx)
  obtain ⟨Fi, hF, ⟨A1, c1, A2, c2, hs⟩, hup⟩ := h.disks.at hp hR
  refine ⟨Fi, A1, c1, A2, c2, hs, fun x hx => (hF x hx).1, fun w' R' f hd hsm => ?_⟩
  obtain ⟨p', A1', c1', A2', c2', e, hd⟩ := hd
  injection e with e
  injection e with e
  injection e with e
  subst e
  have hps : ps.set k p = ps := by
    apply List.ext_getElem?
    intro i
    rw [List.getElem?_set]
    split
    · rename_i hi
      subst hi
      rw [if_pos (List.getElem?_eq_some_iff.1 hp).1, hp]
    · rfl
  have hS := hup w' p R' f hH ⟨A1', c1', A2', c2', hd⟩
  rw [hps] at hS
  refine ⟨fun x hx => .inl (h.hS x hx), h.hb, h.blk.fr f (fun hs => (hF b hs).2.1 h.hb), h.row.fr f (fun x p q => ((hF x q).2.1 p).elim), hS, Up.lt h.lt f.size, h.per, by have := h.few; simpa using this, ?_⟩
  intro R2 hR2
  rcases List.mem_or_eq_of_mem_set hR2 with hm | rfl
  · exact h.small R2 hm
  · exact hsm
end
end Go.Proofs.YtediidajdpdeiaaDoor

/- The document's log: all bytes of a disk; the walk (layer 7). -/
namespace Go.Proofs.YtediidajdpdeiaaDoor
open Go.RowKit CrcM
set_option maxRecDepth 100000

theorem oper_appB {P : Program} {w : World} {o : Oper} {a : Act} {K : Act → World → Prop} {Q : Exit → Act → World → Prop} (s x : Operand) (t : TypeId)
    (ho : o.op = .call { callee := .builtin .append, args := #[s, x], argTypes := #[t, t] })
    (i : TypeInfo) (ht : P.underlying t = some (.slice TB)) (hi : P.info? TB = some i) (hz : i.zero = some (.int .u8 0)) (hsize : i.size = 1) (hby : i.bytes = 1)
    (base : Nat) (v : Value) (n : Nat) (xs : List UInt8) (hs : a.eval s = v) (hown : w.ownsRow base TB 1 v n (xs.map byteV))
    (S : Nat → Prop) (A : Option Addr) (m c : Nat) (l : List UInt8) (hx : a.eval x = .slice A m c) (hl : l.length = m) (hr : Rd S w A l)
    (hbytes : n + m ≤ 140737488355328) (hbase : base ≤ w.heap.size)
    (h : ∀ v' w', w'.ownsRow base TB 1 v' (n + m) ((xs ++ l).map byteV) → w.grownBy w' v.ownBlock → K (a.put o.dst v') w') : o.wp P a w K Q := by
  obtain ⟨v', w', hrun, h2, h3, _⟩ := run_append_rd (P := P) (w := w) base t o.type TB i (.int .u8 0) 1 1 ht hi hz hsize hby rfl (by omega) v n (xs.map byteV) hown A m c (l.map byteV) (by simp [hl])
    (fun j u hu => by
      rw [List.getElem?_map] at hu
      cases hj : l[j]? with
      | none => rw [hj] at hu; cases hu
      | some y =>
        rw [hj] at hu
        obtain ⟨ad, e, hc, _⟩ := hr j y hj
        injection hu with hu
        exact ⟨ad, e, by rw [← hu]; exact hc⟩) byteV_one (by simp only [maxLen]; omega) (by omega) hbase
  rw [← List.map_append] at h2
  have hr2 := run_builtin2 .append s x t t Builtin.append_ ho hs hx (fun _ _ => rfl) hrun
  unfold Oper.wp
  rw [hr2]
  exact h v' w' h2 h3

theorem refAll_B {S : Nat → Prop} {w : World} {b : Nat} {A1 A2 : Option Addr} {c1 c2 : Nat} {R : Rk} (h : RefAt S w b A1 c1 A2 c2 R) (hsm : R.kept.length + R.rest.length ≤ 4194304) :
    Calls Tryd.prog 102 #[.pointer (some ⟨b, 0, none⟩)] w (Cloned w R.all) := by
  obtain ⟨i, hi, hz, hs, hby⟩ := info_parts info_u8
  obtain ⟨kept, rest, dn⟩ := R
  obtain ⟨d0, d1, d2, z0, z1, z2, hb, hc1, hc2, hok⟩ := h.facts
  have r1 := h.own1
  have r2 := h.own2
  simp only at r1 r2 hsm
  obtain ⟨m, hm⟩ : ∃ m, kept.length = m := ⟨_, rfl⟩
  obtain ⟨n, hn⟩ : ∃ n, rest.length = n := ⟨_, rfl⟩
  have HM := Lib.hid hm
  have HN := Lib.hid hn
  rw [hm] at d0 hsm hc1
  rw [hn] at d1 hsm hc2
  clear hm hn
  go_enter Tryd.func102, Tryd.ntmps102
  go_wp2
  refine wp_region_T #[[], [], [], [], [], [4], [], [], [], [], [4, 9], [4, 9]] [4, 9] (fun w' => w'.cell? ⟨b, 0, none⟩ = some (.slice A1 m c1) ∧ w'.cell? ⟨b, 1, none⟩ = some (.slice A2 n c2)) 12 rfl (by kernel_rfl) ?_
  (refine wpAnyT_free (i := 1) rfl (by kernel_rfl) rfl (fun _ _ _ h => h) (by kernel_rfl) (fun _ => by go_simp; try rfl) ?_; (try simp only [Act.put, List.setIfInBounds_toArray, List.set_cons_zero, List.set_cons_succ]))
  (refine wpAnyT_free (i := 2) rfl (by kernel_rfl) rfl (fun _ _ _ h => h) (by kernel_rfl) (fun _ => by go_simp; try rfl) ?_; (try simp only [Act.put, List.setIfInBounds_toArray, List.set_cons_zero, List.set_cons_succ]))
  (refine wpAnyT_free (i := 3) rfl (by kernel_rfl) rfl (fun _ _ _ h => h) (by kernel_rfl) (fun _ => by go_simp; try rfl) ?_; (try simp only [Act.put, List.setIfInBounds_toArray, List.set_cons_zero, List.set_cons_succ]))
  (refine wpAnyT_read (i := 4) rfl (by kernel_rfl) rfl (fun _ _ _ h => h) (by kernel_rfl) (⟨d0, d1⟩) (fun w hS_ => by obtain ⟨s_1, s_2⟩ := hS_; go_simp; try rfl) ?_; (try simp only [Act.put, List.setIfInBounds_toArray, List.set_cons_zero, List.set_cons_succ]))
  (refine wpAnyT_free (i := 6) rfl (by kernel_rfl) rfl (fun _ _ _ h => h) (by kernel_rfl) (fun _ => by go_simp; try rfl) ?_; (try simp only [Act.put, List.setIfInBounds_toArray, List.set_cons_zero, List.set_cons_succ]))
  (refine wpAnyT_free (i := 7) rfl (by kernel_rfl) rfl (fun _ _ _ h => h) (by kernel_rfl) (fun _ => by go_simp; try rfl) ?_; (try simp only [Act.put, List.setIfInBounds_toArray, List.set_cons_zero, List.set_cons_succ]))
  (refine wpAnyT_free (i := 8) rfl (by kernel_rfl) rfl (fun _ _ _ h => h) (by kernel_rfl) (fun _ => by go_simp; try rfl) ?_; (try simp only [Act.put, List.setIfInBounds_toArray, List.set_cons_zero, List.set_cons_succ]))
  (refine wpAnyT_read (i := 9) rfl (by kernel_rfl) rfl (fun _ _ _ h => h) (by kernel_rfl) (⟨d0, d1⟩) (fun w hS_ => by obtain ⟨s_1, s_2⟩ := hS_; go_simp; try rfl) ?_; (try simp only [Act.put, List.setIfInBounds_toArray, List.set_cons_zero, List.set_cons_succ]))
  refine wpAnyT_one (i := 0) rfl (by kernel_rfl) rfl ?_
  intro K_ hK_
  go_wp2
  refine hK_ _ _ ?_ ?_
  · exact fun _ _ => ⟨((below_new w _).cell (p := ⟨b, 0, none⟩) (cell_lt d0)).trans d0, ((below_new w _).cell (p := ⟨b, 1, none⟩) (cell_lt d1)).trans d1⟩
  clear hK_ K_
  (try simp only [Act.put, List.setIfInBounds_toArray, List.set_cons_zero, List.set_cons_succ])
  refine wpAnyT_one (i := 5) rfl (by kernel_rfl) rfl ?_
  intro K_ hK_
  refine oper_appB (.tmp 3) (.tmp 7) 22 rfl i Tryd.underlying22 hi hz hs hby w.heap.size (.slice (some ⟨w.heap.size, 0, none⟩) 0 0) 0 [] rfl (ownsB_none w) Non A1 m c1 kept rfl HM.out ((r1.rd Non).fr (Fr.of_below (below_new w _).drew)) (by omega) (by simp) ?_; intro v1 w1 ho1 hg1; rw [Nat.zero_add, List.nil_append] at ho1; obtain ⟨A3, c3, rfl, hc3, hm3⟩ := own_val ho1; have hb1 : Below w.heap.size w w1 := ((below_new w (.cells #[] TB)).drew).grown hg1 (by simp) (fun j hj => by injection hj with hj; subst hj; exact Nat.le_refl _)
  refine hK_ _ _ ?_ ?_
  · exact fun _ _ => ⟨(hb1.cell (p := ⟨b, 0, none⟩) (cell_lt d0)).trans d0, (hb1.cell (p := ⟨b, 1, none⟩) (cell_lt d1)).trans d1⟩
  clear hK_ K_
  (try simp only [Act.put, List.setIfInBounds_toArray, List.set_cons_zero, List.set_cons_succ])
  refine wpAnyT_sink (i := 10) rfl (by kernel_rfl) rfl (by kernel_rfl) ?_
  intro K_ hK_
  refine oper_appB (.tmp 8) (.tmp 12) 22 rfl i Tryd.underlying22 hi hz hs hby w.heap.size (.slice A3 m c3) m kept rfl ho1 Non A2 n c2 rest rfl HN.out ((r2.rd Non).fr (Fr.of_below hb1)) (by omega) hb1.size ?_; intro v2 w2 ho2 hg2; obtain ⟨A4, c4, rfl, hc4, hm4⟩ := own_val ho2; have hb2 : Below w.heap.size w w2 := hb1.grown hg2 hb1.size (fun j hj => (ho1.lt j hj).1)
  (try (refine hK_ _ _ ?_; clear hK_ K_))
  (try simp only [Act.put, List.setIfInBounds_toArray, List.set_cons_zero, List.set_cons_succ])
  (refine wpAnyT_free (i := 11) rfl (by kernel_rfl) rfl (fun _ _ _ h => h) (by kernel_rfl) (fun _ => by go_simp; try rfl) ?_; (try simp only [Act.put, List.setIfInBounds_toArray, List.set_cons_zero, List.set_cons_succ]))
  refine wpAnyT_done (by kernel_rfl) ?_ _
  go_wp2
  go_ret
  have e : m + n = (kept ++ rest).length := by rw [List.length_append, HM.out, HN.out]
  rw [e] at ho2 hc4 ⊢
  exact ⟨A4, c4, rfl, ho2, hc4, hm4, hb2⟩
end Go.Proofs.YtediidajdpdeiaaDoor

/- A disk and the document's disk side by side, in plain words. -/
namespace Go.Proofs.YtediidajdpdeiaaDoor
open Go.RowKit

/-- the document's disk of a disk -/
def Dk.ref (D : Dk) : Rk := ⟨D.all.take D.kept, D.all.drop D.kept, D.down⟩
theorem ref_new : Dk.new.ref = Rk.new := rfl
theorem ref_append {D : Dk} (h : D.ok) (l : List UInt8) : (D.append l).1.ref = (D.ref.append l).1 ∧ (D.append l).2 = (D.ref.append l).2 := by
  obtain ⟨dn, all, kept⟩ := D
  obtain ⟨h1, h2⟩ := h
  simp only at h1 h2
  cases dn
  · have e : (all.take kept).length + (all.drop kept).length + l.length = all.length + l.length := by rw [List.length_take, List.length_drop]; omega
    by_cases hf : 4194304 < all.length + l.length
    · have hf' : 4194304 < (all.take kept).length + (all.drop kept).length + l.length := by omega
      have eD : Dk.append ⟨false, all, kept⟩ l = (⟨false, all, kept⟩, 7) := by simp [Dk.append, hf]
      have eR : Rk.append ⟨all.take kept, all.drop kept, false⟩ l = (⟨all.take kept, all.drop kept, false⟩, 7) := by unfold Rk.append; rw [if_neg (by simp), if_pos hf']
      show (Dk.append ⟨false, all, kept⟩ l).1.ref = (Rk.append ⟨all.take kept, all.drop kept, false⟩ l).1 ∧ _ = (Rk.append ⟨all.take kept, all.drop kept, false⟩ l).2
      rw [eD, eR]
      exact ⟨rfl, rfl⟩
    · have hf' : ¬ 4194304 < (all.take kept).length + (all.drop kept).length + l.length := by omega
      have e1 : kept - all.length = 0 := by omega
      have eD : Dk.append ⟨false, all, kept⟩ l = (⟨false, all ++ l, kept⟩, 0) := by simp [Dk.append, hf]
      have eR : Rk.append ⟨all.take kept, all.drop kept, false⟩ l = (⟨all.take kept, all.drop kept ++ l, false⟩, 0) := by unfold Rk.append; rw [if_neg (by simp), if_neg hf']
      show (Dk.append ⟨false, all, kept⟩ l).1.ref = (Rk.append ⟨all.take kept, all.drop kept, false⟩ l).1 ∧ _ = (Rk.append ⟨all.take kept, all.drop kept, false⟩ l).2
      rw [eD, eR]
      refine ⟨?_, rfl⟩
      simp [Dk.ref, List.take_append, List.drop_append, e1]
  · simp [Dk.append, Dk.ref, Rk.append]
theorem ref_sync {D : Dk} : D.sync.1.ref = D.ref.sync.1 ∧ D.sync.2 = D.ref.sync.2 := by
  obtain ⟨dn, all, kept⟩ := D
  cases dn <;> simp [Dk.sync, Dk.ref, Rk.sync]
theorem ref_cut {D : Dk} (n : Int) : (D.cut n).1.ref = (D.ref.cut n).1 ∧ (D.cut n).2 = (D.ref.cut n).2 := by
  obtain ⟨dn, all, kept⟩ := D
  cases dn
  · by_cases h : n < 0 ∨ (all.length : Int) < n
    · simp [Dk.cut, Dk.ref, Rk.cut, h]
    · simp [Dk.cut, Dk.ref, Rk.cut, h, List.take_take]
  · simp [Dk.cut, Dk.ref, Rk.cut]
theorem ref_swap {D : Dk} (l : List UInt8) : (D.swap l).1.ref = (D.ref.swap l).1 ∧ (D.swap l).2 = (D.ref.swap l).2 := by
  obtain ⟨dn, all, kept⟩ := D
  cases dn
  · by_cases h : 4194304 < l.length <;> simp [Dk.swap, Dk.ref, Rk.swap, h]
  · simp [Dk.swap, Dk.ref, Rk.swap]
theorem ref_crash {D : Dk} (h : D.ok) (k f : Int) : (D.crash k f).1.ref = (D.ref.crash k f).1 ∧ (D.crash k f).2 = (D.ref.crash k f).2 := by
  obtain ⟨dn, all, kept⟩ := D
  obtain ⟨h1, h2⟩ := h
  simp only at h1 h2
  cases dn
  · by_cases hk : k < 0
    · simp [Dk.crash, Dk.ref, Rk.crash, hk]
    · have e : (all.take kept).length = kept := by rw [List.length_take]; omega
      simp only [Dk.crash, Dk.ref, Rk.crash, hk]
      simp [List.take_left' e, List.drop_left' e]
  · simp [Dk.crash, Dk.ref, Rk.crash]
theorem ref_restart {D : Dk} : D.restart.1.ref = D.ref.restart.1 ∧ D.restart.2 = D.ref.restart.2 := by
  obtain ⟨dn, all, kept⟩ := D
  cases dn <;> simp [Dk.restart, Dk.ref, Rk.restart]
theorem ref_read {D : Dk} : D.read = D.ref.read := by
  obtain ⟨dn, all, kept⟩ := D
  cases dn <;> simp [Dk.read, Dk.ref, Rk.read]

end Go.Proofs.YtediidajdpdeiaaDoor

/- A log and the document's log side by side (layer 7), in plain words. -/
namespace Go.Proofs.YtediidajdpdeiaaDoor
open CrcM

def Lg.ref (L : Lg) : Rg := ⟨L.per, L.segs.map (fun g => g.d.ref), L.down⟩

theorem parse_segB {base : Nat} {recs : List (List UInt8)} (hb : base ≤ 4611686018427387904) (h : ∀ r ∈ recs, r.length ≤ 65536) : parseM (segB base recs) = ((base : Int), recs, (segB base recs).length) := by
  have hbod : ∀ b ∈ numB base :: recs, b.length ≤ 65536 := by
    intro b hb'
    rcases List.mem_cons.1 hb' with rfl | hb'
    · have := numB_10 (n := base) (by omega); omega
    · exact h b hb'
  obtain ⟨m, s', hm, hfo, hall, hj⟩ := framesOf_near hbod (Near.refl _)
  have hme : m = (numB base :: recs).length := Nat.le_antisymm hm (hj _ (Nat.le_refl _) (by rw [List.take_length]; exact List.prefix_refl _))
  have hrn : readNum (numB base) = .ok (base, (numB base).length) := by
    have := readNum_numB base hb []
    rw [List.append_nil] at this
    exact this
  rw [hme, List.take_length] at hfo
  unfold parseM segB
  rw [hfo]
  simp only [hrn, if_true]
theorem parse_nil : parseM [] = (-1, [], 0) := by
  have : framesOf [] = ([], 0) := by
    have hn : next [] ((0 : Nat) : Int) = .error 4 := next_end []
    unfold framesOf
    rw [framesF, hn]
  unfold parseM
  rw [this]
theorem ref_all (D : Dk) : D.ref.all = D.all := List.take_append_drop _ _

theorem Sg.inv.parse {per n : Nat} {g : Sg} (h : g.inv per n) (hd : g.d.down = false) (hn : n ≤ 4611686018427387904) : parseM g.d.all = ((g.base : Int), g.recs, g.d.all.length) := by
  rw [h.inv0.full hd]
  exact parse_segB (by have := h.inv0.top; omega) (fun r hr => by have := h.inv0.short r hr; omega)
theorem Sg.inv.parseKept {per n : Nat} {g : Sg} (h : g.inv per n) (hn : n ≤ 4611686018427387904) : (parseM g.d.ref.kept).2.1 = g.recs.take g.safe := by
  show (parseM (g.d.all.take g.d.kept)).2.1 = _
  rcases h.inv0.kept with ⟨h1, h2⟩ | ⟨h1, h2⟩
  · have e : g.d.all.take g.d.kept = segB g.base (g.recs.take g.safe) := by
      rw [h1]
      exact (List.prefix_iff_eq_take.1 h2).symm
    rw [e, parse_segB (by have := h.inv0.top; omega) (fun r hr => by have := h.inv0.short r (List.mem_of_mem_take hr); omega)]
  · rw [h1, h2, List.take_zero, List.take_zero, parse_nil]
end Go.Proofs.YtediidajdpdeiaaDoor

/- The document's log (layer 7): what it tells; the walks. -/
namespace Go.Proofs.YtediidajdpdeiaaDoor
open Go.RowKit CrcM
set_option maxRecDepth 100000

/-- what is read of a disk of a log that is up -/
theorem parse_up {w : World} {g : Sg} {per n : Nat} (hi : g.inv per n) (hn : n ≤ 4611686018427387904) (hd : g.d.down = false) {A : Option Addr} {c : Nat} (hc : g.d.ref.all.length ≤ c) (hl : g.d.ref.all.length ≤ 4194304) (hO : Rd Non w A g.d.ref.all) :
    Calls Tryd.prog 101 #[.slice A g.d.ref.all.length c] w (ParseDid w ((g.base : Int), g.recs, g.d.all.length)) := by
  have := parse_B w A g.d.ref.all c hO hc (by omega)
  rw [ref_all, hi.parse hd hn] at this
  rw [ref_all]
  exact this

section
variable {S H : Nat → Prop} {w : World} {b : Nat} {A : Option Addr} {c : Nat} {ps : List Nat} {L : Lg} {n : Nat}
theorem refBase_B (h : RlogO S H w b A c ps L.ref) (hinv : L.inv n) (hn : n ≤ 1048576) : Calls Tryd.prog 53 #[.pointer (some ⟨b, 0, none⟩)] w (Told w (.int .i64 (L.base : Int))) := by
  have hdn := hinv.down
  have hsg := hinv.segs
  obtain ⟨per, gs, dn⟩ := L
  obtain ⟨c0, c1, c2, z1, z2, q1, q2, q3, q4⟩ := h.facts
  cases dn
  · cases gs with
    | nil =>
      obtain rfl := List.eq_nil_of_length_eq_zero q1
      go_enter Tryd.func53, Tryd.ntmps53
      go_wp2
      go_ret
      exact ⟨rfl, Below.refl _ _⟩
    | cons g gs =>
      have hgi := hsg g (List.mem_cons_self ..)
      have hgd := hdn g (List.mem_cons_self ..)
      simp only at hgi hgd
      have hpl : 0 < ps.length := by rw [q1]; simp
      obtain ⟨p, hp⟩ : ∃ p, ps[0]? = some p := ⟨_, List.getElem?_eq_getElem hpl⟩
      obtain ⟨ga, oa, rfl, ca⟩ := h.ptrAt hp
      obtain ⟨Sd, A1, c1', A2, c2', href, hSd, -⟩ := h.disk (k := 0) hp (R := g.d.ref) rfl
      have hsm := h.small g.d.ref (List.mem_cons_self ..)
      have hal := refAll_B href hsm
      have hl4 : g.d.all.length ≤ 4194304 := by rw [← ref_all, Rk.all, List.length_append]; exact hsm
      have k1 : ((ps.length : Int) == 0) = false := by rw [beq_eq_false_iff_ne]; omega
      have k2 : (0 : Int) < (ps.length : Int) := by omega
      have ca' : w.cell? ⟨ga, oa, none⟩ = some (.pointer (some ⟨p, 0, none⟩)) := ca
      clear q1 hp href ca
      go_enter Tryd.func53, Tryd.ntmps53
      go_wp2_with (first
        | (go_at_call 102; refine hal.mono ?_; rintro e w1 ⟨A3, c3, rfl, ho3, hc3, hm3, hb3⟩; have hO3 := (Own.of_row' ho3).mono (S' := fun _ => True) (fun _ _ => trivial); have hpa := parse_up hgi (by omega) hgd hc3 (by rw [ref_all]; exact hl4) ((Own.of_row' ho3).rd Non); clear hal)
        | (go_at_call 101; refine hpa.mono ?_; rintro e w2 ⟨R, cr, vals, rfl, -, -, hb4⟩; clear hpa))
      go_ret
      exact ⟨rfl, hb3.trans (hb4.mono hb3.size)⟩
  · go_enter Tryd.func53, Tryd.ntmps53
    go_wp2
    go_ret
    exact ⟨rfl, Below.refl _ _⟩
end
end Go.Proofs.YtediidajdpdeiaaDoor
