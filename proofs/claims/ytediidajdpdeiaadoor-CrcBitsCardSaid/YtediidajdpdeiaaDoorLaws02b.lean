/- The laws of layer 2 on what is framed, and on long bodies: the walks. -/
import Derived.Test.YtediidajdpdeiaaDoorLaws02
import Derived.Test.YtediidajdpdeiaaDoorDiskM
namespace Go.Proofs.YtediidajdpdeiaaDoor
open Go.RowKit CrcM
set_option maxRecDepth 100000

theorem backLaw_02 (W : World) (hh : HalfAt W) (A : Option Addr) (b : List UInt8) (c : Nat) (hr : Rd Non W A b) (hn : b.length ≤ c) (hm : c ≤ maxLen)
    (B : Option Addr) (b' : List UInt8) (d : Nat) (hs : Rd Non W B b') (hn' : b'.length ≤ d) (hm' : d ≤ maxLen) (n : Int) (hi : i64 n) :
    Calls Tryd.prog 7 #[.slice A b.length c, .slice B b'.length d, .int .i64 n] W fun e w' => e = .returned (.bool true) ∧ Below W.heap.size W w' := by
  obtain ⟨i, hi0, hz, hsz, hby⟩ := info_parts info_u8
  have hfew := few_B W A b c b.length hr rfl hn hm
  have hl : (b.take 3000).length ≤ 3000 := by rw [List.length_take]; omega
  have hl' : (b'.take 3000).length ≤ 3000 := by rw [List.length_take]; omega
  have hfew2 := fun (w : World) (hb : Below W.heap.size W w) => few_B w B b' d b'.length (hs.below hb) rfl hn' hm'
  generalize b.take 3000 = l at *
  generalize b'.take 3000 = l' at *
  clear hr hn hm hs hn' hm'
  obtain ⟨m, hm⟩ : ∃ m, l.length = m := ⟨_, rfl⟩
  obtain ⟨m', hm'⟩ : ∃ m, l'.length = m := ⟨_, rfl⟩
  have HM := Lib.hid hm
  have HM' := Lib.hid hm'
  rw [hm] at hl
  rw [hm'] at hl'
  have hF := fun (w : World) (hh : HalfAt w) (A : Option Addr) (c : Nat) (hr : Rd Non w A l) => by
    have h := frame_B w hh A l c m hr HM.out (by unfold maxLen; omega)
    simpa only [if_pos (show m ≤ 65536 by omega)] using h
  have fl : (frame l).length = m + 12 := by rw [length_frame, HM.out]
  have k1 := next_frame (l'.take (m' / 2)) l (l'.drop (m' / 2)) (by rw [HM.out]; omega)
  have k2 := fun j hj => next_cut l (by rw [HM.out]; omega) j hj
  have e1 : (l'.take (m' / 2)).length = m' / 2 := by rw [List.length_take, HM'.out]; omega
  have e2 : (l'.drop (m' / 2)).length = m' - m' / 2 := by rw [List.length_drop, HM'.out]
  rw [fl, e1] at k1
  rw [fl] at k2
  generalize hfr : frame l = fr at *
  have FL := Lib.hid fl
  have K1 := Lib.hid k1
  have K2 := Lib.hid k2
  have E1 := Lib.hid e1
  have E2 := Lib.hid e2
  clear k1 k2 fl e1 e2 hfr hm hm'
  unfold i64 at hi
  obtain ⟨h, hh2⟩ : ∃ h, h = m' / 2 := ⟨_, rfl⟩
  have u1 : (m' : Int) / 2 = (h : Int) := by omega
  have u2 : h ≤ m' := by omega
  rw [← hh2] at K1 E1 E2
  clear hh2
  have hb := rem_any n ((m : Int) + 12) (by omega)
  obtain ⟨j, hk1, hk2, hk3⟩ := rem_up n ((m : Int) + 12) (by omega)
  generalize ht : n.tmod ((m : Int) + 12) = t at *
  have J1 := Lib.hid hk1
  have J2 := Lib.hid hk2
  have HT := Lib.hid ht
  clear hk1 hk2 ht
  have lj : (fr.take j).length = j := by rw [List.length_take, FL.out]; omega
  have LJ := Lib.hid lj
  clear lj
  go_enter Tryd.func7, Tryd.ntmps7
  go_wp2_with (first
    | (go_at_call 22; refine hfew.mono ?_; rintro e w1 ⟨A1, c1, rfl, ho1, hc1, hm1, hb1⟩; have r1 := own_rd ho1 rfl; rw [HM.out] at hc1 ⊢; clear hfew ho1; have hX := hfew2 w1 hb1; clear hfew2)
    | (go_at_call 22; refine hX.mono ?_; rintro e w2 ⟨A2, c2, rfl, ho2, hc2, hm2, hb2⟩; have r2 := own_rd ho2 rfl; rw [HM'.out] at hc2 ⊢; have r12 := r1.below hb2; have hB2 := hb1.trans (hb2.mono hb1.size); clear hX ho2 r1 hb1 hb2)
    | fail)
  have q0 : (0 : Int) ≤ (h : Int) := by omega
  have q1 : (h : Int) ≤ (m' : Int) := by omega
  have q2 : (h : Int) ≤ (c2 : Int) := by omega
  have rh := r2.take h
  have rd := r2.drop h c2 (by rw [HM'.out]; exact hc2)
  have q3 : IntKind.i64.wrap (h : Int) = (h : Int) := by rw [IntKind.wrap_i64]; omega
  refine wp_region_T #[[], [], [], [], [], [], [], [], [], [], [], []] [] (fun _ => True) 12 rfl (by kernel_rfl) ?_
  (refine wpAnyT_free (i := 0) rfl (by kernel_rfl) rfl (fun _ _ _ h => h) (by kernel_rfl) (fun _ => by go_simp; try rfl) ?_; (try simp only [Act.put, List.setIfInBounds_toArray, List.set_cons_zero, List.set_cons_succ]))
  (refine wpAnyT_free (i := 1) rfl (by kernel_rfl) rfl (fun _ _ _ h => h) (by kernel_rfl) (fun _ => by go_simp; try rfl) ?_; (try simp only [Act.put, List.setIfInBounds_toArray, List.set_cons_zero, List.set_cons_succ]))
  (refine wpAnyT_free (i := 2) rfl (by kernel_rfl) rfl (fun _ _ _ h => h) (by kernel_rfl) (fun _ => by go_simp; try rfl) ?_; (try simp only [Act.put, List.setIfInBounds_toArray, List.set_cons_zero, List.set_cons_succ]))
  (refine wpAnyT_free (i := 3) rfl (by kernel_rfl) rfl (fun _ _ _ h => h) (by kernel_rfl) (fun _ => by go_simp; try rfl) ?_; (try simp only [Act.put, List.setIfInBounds_toArray, List.set_cons_zero, List.set_cons_succ]))
  (refine wpAnyT_free (i := 4) rfl (by kernel_rfl) rfl (fun _ _ _ h => h) (by kernel_rfl) (fun _ => by go_simp; try rfl) ?_; (try simp only [Act.put, List.setIfInBounds_toArray, List.set_cons_zero, List.set_cons_succ]))
  (refine wpAnyT_free (i := 5) rfl (by kernel_rfl) rfl (fun _ _ _ h => h) (by kernel_rfl) (fun _ => by go_simp; try rfl) ?_; (try simp only [Act.put, List.setIfInBounds_toArray, List.set_cons_zero, List.set_cons_succ]))
  (refine wpAnyT_free (i := 6) rfl (by kernel_rfl) rfl (fun _ _ _ h => h) (by kernel_rfl) (fun _ => by go_simp; try rfl) ?_; (try simp only [Act.put, List.setIfInBounds_toArray, List.set_cons_zero, List.set_cons_succ]))
  (refine wpAnyT_free (i := 7) rfl (by kernel_rfl) rfl (fun _ _ _ h => h) (by kernel_rfl) (fun _ => by go_simp; try rfl) ?_; (try simp only [Act.put, List.setIfInBounds_toArray, List.set_cons_zero, List.set_cons_succ]))
  (refine wpAnyT_free (i := 8) rfl (by kernel_rfl) rfl (fun _ _ _ h => h) (by kernel_rfl) (fun _ => by go_simp; try rfl) ?_; (try simp only [Act.put, List.setIfInBounds_toArray, List.set_cons_zero, List.set_cons_succ]))
  (refine wpAnyT_free (i := 9) rfl (by kernel_rfl) rfl (fun _ _ _ h => h) (by kernel_rfl) (fun _ => by go_simp; try rfl) ?_; (try simp only [Act.put, List.setIfInBounds_toArray, List.set_cons_zero, List.set_cons_succ]))
  (refine wpAnyT_free (i := 10) rfl (by kernel_rfl) rfl (fun _ _ _ h => h) (by kernel_rfl) (fun _ => by go_simp; try rfl) ?_; (try simp only [Act.put, List.setIfInBounds_toArray, List.set_cons_zero, List.set_cons_succ]))
  (refine wpAnyT_free (i := 11) rfl (by kernel_rfl) rfl (fun _ _ _ h => h) (by kernel_rfl) (fun _ => by go_simp; try rfl) ?_; (try simp only [Act.put, List.setIfInBounds_toArray, List.set_cons_zero, List.set_cons_succ]))
  refine wpAnyT_done (by kernel_rfl) ?_ _
  clear r2 q3
  generalize (if c2 = h then A2 else A2.map (·.add h)) = AR at *
  go_wp2_with (first
    | (go_at_call 26; go_loud (refine (hF w2.drew (hh.below hB2.drew hh.lt) A1 c1 r12.drew).mono ?_; rintro e w3 ⟨A3, c3, rfl, ho3, hc3, hm3, hb3⟩; rw [FL.out] at hc3 ⊢; have r3 := ho3.rd Non; have rh3 := rh.drew.below hb3; have rd3 := rd.drew.below hb3; have r13 := r12.drew.below hb3; have hB3 := hB2.drew.trans (hb3.mono hB2.size); clear hF ho3 hb3 hB2 rh rd r12))
    | (at_builtin
       refine wpList_appB rfl (.tmp 45) (.tmp 46) 22 rfl i Tryd.underlying22 hi0 hz hsz hby w3.heap.size (.slice (some ⟨w3.heap.size, 0, none⟩) 0 0) 0 [] rfl (ownsB_none w3) Non A2 h c2 (l'.take h) rfl E1.out (rh3.below (below_new w3 _)) (by omega) (by simp) ?_
       intro v4 w4 ho4 hg4 ha4
       rw [Nat.zero_add, List.nil_append] at ho4
       obtain ⟨A4, c4, rfl, hc4, hm4⟩ := own_val ho4
       have hb4 : Below w3.heap.size w3 w4 := (below_new w3 _).grown hg4 (by simp) (fun j hj => by injection hj with hj; subst hj; exact Nat.le_refl _)
       clear hg4 ha4)
    | (at_builtin
       refine wpList_appB rfl (.tmp 47) (.tmp 48) 22 rfl i Tryd.underlying22 hi0 hz hsz hby w3.heap.size (.slice A4 h c4) h _ rfl ho4 Non A3 (m + 12) c3 fr rfl FL.out (r3.below hb4) (by omega) hb4.size ?_
       intro v5 w5 ho5 hg5 ha5
       obtain ⟨A5, c5, rfl, hc5, hm5⟩ := own_val ho5
       have hb5 : Below w3.heap.size w3 w5 := hb4.grown hg5 hb4.size (fun j hj => (ho4.lt j hj).1)
       clear hg5 ha5 ho4 hb4)
    | (at_builtin
       refine wpList_appB rfl (.tmp 49) (.tmp 50) 22 rfl i Tryd.underlying22 hi0 hz hsz hby w3.heap.size (.slice A5 (h + (m + 12)) c5) (h + (m + 12)) _ rfl ho5 Non AR (m' - h) (c2 - h) (l'.drop h) rfl E2.out (rd3.below hb5) (by omega) hb5.size ?_
       intro v6 w6 ho6 hg6 ha6
       obtain ⟨A6, c6, rfl, hc6, hm6⟩ := own_val ho6
       have hb6 : Below w3.heap.size w3 w6 := hb5.grown hg6 hb5.size (fun j hj => (ho5.lt j hj).1)
       clear hg6 ha6 ho5 hb5)
    | (go_at_call 28
       rw [List.append_assoc] at ho6
       have hB6 := hB3.trans (hb6.mono hB3.size)
       have hl6 : (l'.take h ++ (fr ++ l'.drop h)).length = h + (m + 12) + (m' - h) := by simp only [List.length_append, E1.out, E2.out, FL.out]; omega
       refine (next_B w6 (hh.below hB6 hh.lt) A6 _ c6 _ (own_rd ho6 hl6.symm) hl6 hc6 hm6 (h : Int)).mono ?_
       intro e w7 hd
       unfold NextDid at hd
       rw [K1.out] at hd
       obtain ⟨A7, c7, rfl, ho7, hc7, hm7, hb7⟩ := hd
       simp only at ho7 hc7
       rw [HM.out] at hc7
       have s1 := run_str (ho7.rd Non) c7
       have s2 := run_str ((r13.below hb6).below hb7) c1
       rw [HM.out] at s1 s2
       simp only [HM.out]
       rw [show ((h + (m + 12) : Nat) : Int) = (h : Int) + ((m : Int) + 12) by omega]
       have r37 := (r3.below hb6).below hb7
       have hB7 := hB6.trans (hb7.mono hB6.size)
       have ht := HT.out
       have hj1 := J1.out
       have hj2 := J2.out
       have j0 : (0 : Int) ≤ (j : Int) := by omega
       have j1 : (j : Int) ≤ (c3 : Int) := by omega
       clear hl6 ho6 ho7 r3 rh3 rd3 r13 hB3 hb6 hb7 hB6)
    | (go_at_call 28
       refine (next_B w7 (hh.below hB7 hh.lt) A3 (fr.take j) c3 j (r37.take j) LJ.out (by omega) hm3 0).mono ?_
       intro e w8 hd
       unfold NextDid at hd
       rw [K2.out j (by omega)] at hd
       obtain ⟨rfl, hb8⟩ := hd
       have hB8 := hB7.trans (hb8.mono hB7.size)
       clear hb8 s1 s2 hj1 hj2 ht)
    | (go_at_call 25; refine (works_02 w8 (hh.below hB8 hh.lt)).mono ?_; rintro e w9 ⟨rfl, hb9⟩)
    | fail)
  go_ret
  exact ⟨rfl, hB8.trans (hb9.mono hB8.size)⟩

theorem tbits_all : ∀ (x : Fin 256) (k : Fin 8), bits .xor .u8 (x.val : Int) (2 ^ min k.val 8 % 256) = ((UInt8.ofNat x.val ^^^ UInt8.ofNat (2 ^ k.val)).toNat : Int) := by decide +kernel
theorem tbits (x : UInt8) (k : Nat) (hk : k < 8) : Value.int .u8 (bits .xor .u8 (x.toNat : Int) (2 ^ min k 8 % 256)) = byteV (turnByte x k) := by
  have := tbits_all ⟨x.toNat, x.toNat_lt⟩ ⟨k, hk⟩
  simp only [UInt8.ofNat_toNat] at this
  rw [this]; rfl
theorem tne_all : ∀ (x : Fin 256) (k : Fin 8), UInt8.ofNat x.val ^^^ UInt8.ofNat (2 ^ k.val) ≠ UInt8.ofNat x.val := by decide +kernel
theorem turnByte_ne (x : UInt8) (k : Nat) (hk : k < 8) : turnByte x k ≠ x := by
  have := tne_all ⟨x.toNat, x.toNat_lt⟩ ⟨k, hk⟩
  simp only [UInt8.ofNat_toNat] at this
  exact this

theorem bitsLaw_02 (W : World) (hh : HalfAt W) (A : Option Addr) (b : List UInt8) (c : Nat) (hr : Rd Non W A b) (hn : b.length ≤ c) (hm : c ≤ maxLen) (n : Int) (hi : i64 n) :
    Calls Tryd.prog 8 #[.slice A b.length c, .int .i64 n] W fun e w' => e = .returned (.bool true) ∧ Below W.heap.size W w' := by
  have hfew := few_B W A b c b.length hr rfl hn hm
  have hl : (b.take 3000).length ≤ 3000 := by rw [List.length_take]; omega
  generalize b.take 3000 = l at *
  clear hr hn hm
  obtain ⟨m, hm⟩ : ∃ m, l.length = m := ⟨_, rfl⟩
  have HM := Lib.hid hm
  rw [hm] at hl
  have hF := fun (w : World) (hh : HalfAt w) (A : Option Addr) (c : Nat) (hr : Rd Non w A l) => by
    have h := frame_R w hh A l c m hr HM.out (by unfold maxLen; omega)
    simpa only [if_pos (show m ≤ 65536 by omega)] using h
  have fl : (frame l).length = m + 12 := by rw [length_frame, HM.out]
  have K2 := Lib.hid (fun (i : Nat) x y hx hxy => next_turned l (by rw [HM.out]; omega) i x y hx hxy)
  generalize hfr : frame l = fr at *
  have FL := Lib.hid fl
  clear fl hfr hm
  unfold i64 at hi
  have hb := rem_any n (8 * ((m : Int) + 12)) (by omega)
  obtain ⟨k, hk1, hk2, hk3⟩ := rem_up n (8 * ((m : Int) + 12)) (by omega)
  generalize ht : n.tmod (8 * ((m : Int) + 12)) = t at *
  go_enter Tryd.func8, Tryd.ntmps8
  go_wp2_with (first
    | (go_at_call 22; refine hfew.mono ?_; rintro e w1 ⟨A1, c1, rfl, ho1, hc1, hm1, hb1⟩; have r1 := own_rd ho1 rfl; rw [HM.out] at hc1 ⊢; clear hfew ho1)
    | (go_at_call 26; refine (hF w1 (hh.below hb1 hh.lt) A1 c1 r1).mono ?_; rintro e w2 ⟨A2, c2, rfl, ho2, hc2, hm2, hb2⟩; rw [FL.out] at hc2 ho2 ⊢; have hB2 := hb1.trans (hb2.mono hb1.size); clear hF r1)
    | fail)
  clear hk1 hk2 ht hb
  obtain ⟨g, cap, hv, hg1, hg2⟩ := ho2.form (by omega)
  obtain ⟨rfl, rfl⟩ : A2 = some ⟨g, 0, none⟩ ∧ c2 = cap := by injection hv with h1 _ h2; exact ⟨h1, h2⟩
  clear hv
  obtain ⟨x, hx⟩ : ∃ x, fr[k / 8]? = some x := ⟨_, List.getElem?_eq_getElem (by rw [FL.out]; omega)⟩
  have hxc : w2.cell? ⟨g, k / 8, none⟩ = some (.int .u8 (x.toNat : Int)) := by
    rw [ho2.cellAt _ (by omega), List.getElem?_map, hx]; rfl
  have hxf := ho2.frozenAt (k / 8)
  have hN := K2.out (k / 8) x (turnByte x (k % 8)) hx (turnByte_ne x _ (by omega))
  have HN := Lib.hid hN
  have hst := (ho2.stored (k / 8) (byteV (turnByte x (k % 8)))).1
  rw [← List.map_set] at hst
  have eb := tbits x (k % 8) (by omega)
  have q1 : (0 : Int) ≤ (k : Int) / 8 := by omega
  have q2 : (k : Int) / 8 < (m : Int) + 12 := by omega
  have q3 : IntKind.i64.wrap ((k : Int) / 8) = (k : Int) / 8 := by rw [IntKind.wrap_i64]; omega
  have q5 : ((k : Int) / 8).toNat = k / 8 := by omega
  have q6 : IntKind.i64.wrap ((k : Int) % 8) = (k : Int) % 8 := by rw [IntKind.wrap_i64]; omega
  have q7 : (0 : Int) ≤ (k : Int) % 8 := by omega
  have q8 : ((k : Int) % 8).toNat = k % 8 := by omega
  clear hx hN
  refine wp_region_T #[[], [], [], [], [], [], [], [], [4], [4], [4]] [4] (fun w' => w'.cell? ⟨g, k / 8, none⟩ = some (.int .u8 (x.toNat : Int)) ∧ True) 11 rfl (by kernel_rfl) ?_
  (refine wpAnyT_free (i := 0) rfl (by kernel_rfl) rfl (fun _ _ _ h => h) (by kernel_rfl) (fun _ => by go_simp; try rfl) ?_; (try simp only [Act.put, List.setIfInBounds_toArray, List.set_cons_zero, List.set_cons_succ]))
  (refine wpAnyT_free (i := 1) rfl (by kernel_rfl) rfl (fun _ _ _ h => h) (by kernel_rfl) (fun _ => by go_simp; try rfl) ?_; (try simp only [Act.put, List.setIfInBounds_toArray, List.set_cons_zero, List.set_cons_succ]))
  (refine wpAnyT_free (i := 2) rfl (by kernel_rfl) rfl (fun _ _ _ h => h) (by kernel_rfl) (fun _ => by go_simp; try rfl) ?_; (try simp only [Act.put, List.setIfInBounds_toArray, List.set_cons_zero, List.set_cons_succ]))
  (refine wpAnyT_free (i := 3) rfl (by kernel_rfl) rfl (fun _ _ _ h => h) (by kernel_rfl) (fun _ => by go_simp; try rfl) ?_; (try simp only [Act.put, List.setIfInBounds_toArray, List.set_cons_zero, List.set_cons_succ]))
  (refine wpAnyT_read (i := 4) rfl (by kernel_rfl) rfl (fun _ _ _ h => h) (by kernel_rfl) (⟨hxc, trivial⟩) (fun w hS_ => by obtain ⟨s_1, s_2⟩ := hS_; go_simp; try rfl) ?_; (try simp only [Act.put, List.setIfInBounds_toArray, List.set_cons_zero, List.set_cons_succ]))
  (refine wpAnyT_free (i := 5) rfl (by kernel_rfl) rfl (fun _ _ _ h => h) (by kernel_rfl) (fun _ => by go_simp; try rfl) ?_; (try simp only [Act.put, List.setIfInBounds_toArray, List.set_cons_zero, List.set_cons_succ]))
  (refine wpAnyT_free (i := 6) rfl (by kernel_rfl) rfl (fun _ _ _ h => h) (by kernel_rfl) (fun _ => by go_simp; try rfl) ?_; (try simp only [Act.put, List.setIfInBounds_toArray, List.set_cons_zero, List.set_cons_succ]))
  (refine wpAnyT_free (i := 7) rfl (by kernel_rfl) rfl (fun _ _ _ h => h) (by kernel_rfl) (fun _ => by go_simp; try rfl) ?_; (try simp only [Act.put, List.setIfInBounds_toArray, List.set_cons_zero, List.set_cons_succ]))
  (refine wpAnyT_free (i := 8) rfl (by kernel_rfl) rfl (fun _ _ _ h => h) (by kernel_rfl) (fun _ => by go_simp; try rfl) ?_; (try simp only [Act.put, List.setIfInBounds_toArray, List.set_cons_zero, List.set_cons_succ]))
  (refine wpAnyT_free (i := 9) rfl (by kernel_rfl) rfl (fun _ _ _ h => h) (by kernel_rfl) (fun _ => by go_simp; try rfl) ?_; (try simp only [Act.put, List.setIfInBounds_toArray, List.set_cons_zero, List.set_cons_succ]))
  refine wpAnyT_sink (i := 10) rfl (by kernel_rfl) rfl (by kernel_rfl) ?_
  intro K_ hK_
  clear q3 q6; go_wp2
  (try (refine hK_ _ _ ?_; clear hK_ K_))
  (try simp only [Act.put, List.setIfInBounds_toArray, List.set_cons_zero, List.set_cons_succ])
  refine wpAnyT_done (by kernel_rfl) ?_ _
  rw [eb]
  have hB3 : Below W.heap.size W (w2.setCell ⟨g, k / 8, none⟩ (byteV (turnByte x (k % 8)))).drew := (hB2.setCell (p := ⟨g, k / 8, none⟩) (Nat.le_trans hb1.size hg1) _).drew
  have r3 : Rd Non (w2.setCell ⟨g, k / 8, none⟩ (byteV (turnByte x (k % 8)))).drew (some ⟨g, 0, none⟩) (fr.set (k / 8) (turnByte x (k % 8))) := (own_rd hst (by rw [List.length_set, FL.out])).drew
  have ls : (fr.set (k / 8) (turnByte x (k % 8))).length = m + 12 := by rw [List.length_set, FL.out]
  generalize (w2.setCell ⟨g, k / 8, none⟩ (byteV (turnByte x (k % 8)))).drew = w3 at *
  generalize fr.set (k / 8) (turnByte x (k % 8)) = fs at *
  have LS := Lib.hid ls
  clear hst eb ho2 ls hxc hxf q1 q2 q5 q7 q8
  go_wp2_with (first
    | (go_at_call 28
       refine (next_B w3 (hh.below hB3 hh.lt) _ fs c2 (m + 12) r3 LS.out hc2 hm2 0).mono ?_
       intro e w4 hd
       unfold NextDid at hd
       rw [HN.out] at hd
       obtain ⟨rfl, hb4⟩ := hd
       have hB4 := hB3.trans (hb4.mono hB3.size)
       clear hb4)
    | (go_at_call 25; refine (works_02 w4 (hh.below hB4 hh.lt)).mono ?_; rintro e w5 ⟨rfl, hb5⟩))
  go_ret
  exact ⟨rfl, hB4.trans (hb5.mono hB4.size)⟩

/-- what a loop that writes c into a row of zeros leaves -/
theorem longLaw_02 (W : World) (hh : HalfAt W) (n : Int) (hi : i64 n) (x : UInt8) :
    Calls Tryd.prog 6 #[.int .i64 n, .int .u8 (x.toNat : Int)] W fun e w' => e = .returned (.bool true) ∧ Below W.heap.size W w' := by
  unfold i64 at hi
  have hb := rem_any n 6 (by omega)
  obtain ⟨k, hk1, hk2, hk3⟩ := rem_up n 6 (by omega)
  generalize ht : n.tmod 6 = t at *
  obtain ⟨i0, hi0, hz, hsz, hby⟩ := info_parts info_u8
  obtain ⟨N, hN⟩ : ∃ N : Nat, (65536 : Int) + (k : Int) - 3 = (N : Int) := ⟨65533 + k, by omega⟩
  have hN1 : N ≤ 65538 := by omega
  obtain ⟨w1, hmk, ho1, hg1⟩ := run_makeSlice_full (P := Tryd.prog) (w := W) W.heap.size 22 TB i0 (.int .u8 0) 1 Tryd.underlying22 hi0 hz hsz .i64 .i64 N (by omega) (by rw [hby]; omega) (by unfold maxLen; omega) (Nat.le_refl _)
  have hB1 : Below W.heap.size W w1 := (Below.refl _ _).grown hg1 (Nat.le_refl _) (fun _ h => by cases h)
  have e0 : (madeCells (Value.int .u8 0).cells (N * 1)).toList = (List.replicate N (0 : UInt8)).map byteV := by
    simp only [madeCells, List.map_replicate, Array.toList_map, Array.toList_range]
    rw [List.eq_replicate_iff]
    refine ⟨by simp, fun b hb => ?_⟩
    obtain ⟨x, _, rfl⟩ := List.mem_map.1 hb
    simp [Value.cells, Nat.mod_one, byteV]
  rw [e0] at ho1
  clear e0 hg1
  go_enter Tryd.func6, Tryd.ntmps6
  go_wp2
  clear hmk ht hk1 hk2
  go_loopw [6] (fun i wr => ∃ (j : Nat) (l : List UInt8), i = .int .i64 j ∧ j ≤ N + 996 ∧ l.length = N ∧ wr.ownsRow W.heap.size TB 1 (.slice (some ⟨W.heap.size, 0, none⟩) N N) N (l.map byteV) ∧ Below W.heap.size W wr) (fun i _ => N + 997 - (intOf i).toNat)
  case atStart => exact ⟨0, List.replicate N 0, rfl, by omega, by simp, ho1, hB1⟩
  case round =>
    obtain ⟨j, l, rfl, hj, hl, ho, hb⟩ := hrel
    have HL := Lib.hid hl
    clear hl
    by_cases hlt : j < N
    · obtain ⟨y, hy⟩ : ∃ y, l[j]? = some y := ⟨_, List.getElem?_eq_getElem (by rw [HL.out]; exact hlt)⟩
      have hyc : wr.cell? ⟨W.heap.size, j, none⟩ = some (.int .u8 (y.toNat : Int)) := by
        rw [ho.cellAt _ (by omega), List.getElem?_map, hy]; rfl
      have hyf := ho.frozenAt j
      have hst := (ho.stored j (byteV x)).1
      rw [← List.map_set] at hst
      have hB := hb.setCell (p := ⟨W.heap.size, j, none⟩) (Nat.le_refl _) (byteV x)
      unfold byteV at hst hB
      have hlt' : (j : Int) < (N : Int) := by omega
      clear hy
      go_wp2
      go_roundw
      case rel => exact ⟨j + 997, l.set j x, by go_num, by omega, by rw [List.length_set]; exact HL.out, hst, hB⟩
      case measure => simp [intOf]; omega
    · have hge : (N : Int) ≤ (j : Int) := by omega
      have hF := frame_B wr (hh.below hb hh.lt) (some ⟨W.heap.size, 0, none⟩) l N N (own_rd ho HL.out.symm) HL.out (by unfold maxLen; omega)
      have hG := fun (w : World) (hr : Rd Non w (some ⟨W.heap.size, 0, none⟩) l) => refFrame_B w (some ⟨W.heap.size, 0, none⟩) l N N hr HL.out (Nat.le_refl _) (by unfold maxLen; omega)
      have r0 := own_rd ho HL.out.symm
      generalize frame l = fr at *
      clear ho hj
      by_cases h6 : N ≤ 65536
      · simp only [if_pos h6] at hF hG
        go_wp2_with (first
          | (go_at_call 26; refine hF.mono ?_; rintro e w2 ⟨A2, c2, rfl, ho2, hc2, hm2, hb2⟩; have r2 := ho2.rd Non; have r02 := r0.below hb2; have hB2 := hb.trans (hb2.mono hb.size); clear hF ho2 r0)
          | (go_at_call 27; refine (hG w2 r02).mono ?_; rintro e w3 ⟨A3, c3, rfl, ho3, hc3, hm3, hb3⟩; have s1 := run_str (ho3.rd Non) c3; have s2 := run_str (r2.below hb3) c2; have hB3 := hB2.trans (hb3.mono hB2.size); clear hG ho3 r2 r02)
          | (go_at_call 25; refine (works_02 w3 (hh.below hB3 hh.lt)).mono ?_; rintro e w4 ⟨rfl, hb4⟩))
        go_ret
        exact ⟨rfl, hB3.trans (hb4.mono hB3.size)⟩
      · simp only [if_neg h6] at hF hG
        go_wp2_with (first
          | (go_at_call 26; refine hF.mono ?_; rintro e w2 ⟨rfl, rfl⟩; clear hF)
          | (go_at_call 27; refine (hG _ r0).mono ?_; rintro e w3 ⟨rfl, rfl⟩; have s1 := run_str (Rd.nil Non w3 none) 0; simp only [List.length_nil] at s1; clear hG)
          | (go_at_call 25; refine (works_02 _ (hh.below hb hh.lt)).mono ?_; rintro e w4 ⟨rfl, hb4⟩))
        go_ret
        exact ⟨rfl, hb.trans (hb4.mono hb.size)⟩
end Go.Proofs.YtediidajdpdeiaaDoor
