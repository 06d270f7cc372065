/- crc.Next: the walk. -/
import Derived.Test.YtediidajdpdeiaaDoorFrame
import Derived.OwnWalk
namespace Go.Proofs.YtediidajdpdeiaaDoor
open Go.RowKit CrcM
set_option maxRecDepth 100000

/-- what Next answers -/
def next (b : List UInt8) (a : Int) : Except Int (List UInt8 × Nat) :=
  if a < 0 ∨ (b.length : Int) < a then .error 2
  else if (b.length : Int) - a < 12 then .error 4
  else
    let head := (b.take (a.toNat + 12)).drop a.toNat
    let rest := b.drop (a.toNat + 12)
    let n := num4 head
    if (sum (head.take 4)).toNat ≠ num4 (head.drop 4) then .error 6
    else if 65536 < n then .error 3
    else if rest.length < n then .error 4
    else if (sum (rest.take n)).toNat ≠ num4 (head.drop 8) then .error 6
    else .ok (rest.take n, a.toNat + 12 + n)

def NextDid (w : World) (b : List UInt8) (a : Int) (e : Ending) (w' : World) : Prop :=
  match next b a with
  | .error r => e = .returned (.tuple #[.slice none 0 0, .int .i64 0, .int .i64 r]) ∧ Below w.heap.size w w'
  | .ok p => ∃ A' c', e = .returned (.tuple #[.slice A' p.1.length c', .int .i64 (p.2 : Int), .int .i64 0]) ∧ Own (New w) w' A' p.1 ∧ p.1.length ≤ c' ∧ c' ≤ maxLen ∧ Below w.heap.size w w'

theorem NextDid.err {w w' : World} {b : List UInt8} {a r : Int} (h : next b a = .error r) (hb : Below w.heap.size w w') : NextDid w b a (.returned (.tuple #[.slice none 0 0, .int .i64 0, .int .i64 r])) w' := by
  unfold NextDid; rw [h]; exact ⟨rfl, hb⟩

set_option maxHeartbeats 1000000 in
theorem next_B (w : World) (hh : HalfAt w) (A : Option Addr) (l : List UInt8) (c n : Nat) (hr : Rd Non w A l) (hl : l.length = n) (hn : n ≤ c) (hm : c ≤ maxLen) (a : Int) :
    Calls Tryd.prog 28 #[.slice A n c, .int .i64 a] w (NextDid w l a) := by
  unfold maxLen at hm
  have HL := Lib.hid hl
  by_cases h0 : a < 0
  · go_enter Tryd.func28, Tryd.ntmps28
    have e : next l a = .error 2 := if_pos (.inl h0)
    clear hl
    go_wp2
    go_ret3
    exact NextDid.err e (Below.refl _ _)
  obtain ⟨m, rfl⟩ : ∃ m : Nat, a = m := ⟨a.toNat, by omega⟩
  by_cases h1 : (n : Int) < (m : Int)
  · go_enter Tryd.func28, Tryd.ntmps28
    have e : next l m = .error 2 := if_pos (.inr (by rw [hl]; exact h1))
    clear hl
    go_wp2
    go_ret3
    exact NextDid.err e (Below.refl _ _)
  have k0 : ¬ ((m : Int) < 0 ∨ (l.length : Int) < m) := by rw [hl]; omega
  by_cases h2 : (n : Int) - (m : Int) < 12
  · go_enter Tryd.func28, Tryd.ntmps28
    have e : next l m = .error 4 := by unfold next; rw [if_neg k0, if_pos (by rw [hl]; exact h2)]
    have k2 : IntKind.i64.wrap ((n : Int) - (m : Int)) = (n : Int) - (m : Int) := by rw [IntKind.wrap_i64]; omega
    clear hl k0
    go_wp2
    go_ret3
    exact NextDid.err e (Below.refl _ _)
  have e := show next l m = _ by
    unfold next; rw [if_neg k0, if_neg (by rw [hl]; exact h2), Int.toNat_natCast]
  have hd : ((l.take (m + 12)).drop m).length = 12 := by rw [List.length_drop, List.length_take, hl]; omega
  have ht : (l.drop (m + 12)).length = n - (m + 12) := by rw [List.length_drop, hl]
  generalize hhead : (l.take (m + 12)).drop m = head at *
  generalize hrest : l.drop (m + 12) = rest at *
  have E := Lib.hid e
  have HD := Lib.hid hd
  have HT := Lib.hid ht
  have HH := Lib.hid hhead
  have HR := Lib.hid hrest
  have p0 : (0 : Int) ≤ (m : Int) := by omega
  have p1 : (m : Int) ≤ (n : Int) := by omega
  have p2 : (m : Int) + 12 ≤ (c : Int) := by omega
  have p3 : (m : Int) ≤ (m : Int) + 12 := by omega
  have p4 : (m : Int) + 12 ≤ (n : Int) := by omega
  have p5 : ((m : Int) + 12).toNat = m + 12 := by omega
  have p6 : (0 : Int) ≤ (m : Int) + 12 := by omega
  have hrh : Rd Non w (if c = m then A else A.map (·.add m)) head := by
    rw [← hhead]
    exact (hr.take (m + 12)).drop m c (by rw [List.length_take, hl]; omega)
  have hrr : Rd Non w (if c = m + 12 then A else A.map (fun x => { block := x.block, off := x.off + (m + 11 + 1) })) rest := by
    rw [← hrest]
    exact hr.drop (m + 12) c (by rw [hl]; exact hn)
  clear hd ht hhead hrest e k0 hl
  go_enter Tryd.func28, Tryd.ntmps28
  have q1 : IntKind.i64.wrap ((n : Int) - (m : Int)) = (n : Int) - (m : Int) := by rw [IntKind.wrap_i64]; omega
  go_wp2
  clear q1
  have q2 : IntKind.i64.wrap ((m : Int) + 12) = (m : Int) + 12 := by rw [IntKind.wrap_i64]; omega
  refine wp_region_T #[[], [], [], [], [], [], [], [], [], [], []] [] (fun _ => True) 11 rfl (by kernel_rfl) ?_
  (refine wpAnyT_free (i := 0) rfl (by kernel_rfl) rfl (fun _ _ _ h => h) (by kernel_rfl) (fun _ => by go_simp; try rfl) ?_; (try simp only [Act.put, List.setIfInBounds_toArray, List.set_cons_zero, List.set_cons_succ]))
  (refine wpAnyT_free (i := 1) rfl (by kernel_rfl) rfl (fun _ _ _ h => h) (by kernel_rfl) (fun _ => by go_simp; try rfl) ?_; (try simp only [Act.put, List.setIfInBounds_toArray, List.set_cons_zero, List.set_cons_succ]))
  (refine wpAnyT_free (i := 2) rfl (by kernel_rfl) rfl (fun _ _ _ h => h) (by kernel_rfl) (fun _ => by go_simp; try rfl) ?_; (try simp only [Act.put, List.setIfInBounds_toArray, List.set_cons_zero, List.set_cons_succ]))
  (refine wpAnyT_free (i := 3) rfl (by kernel_rfl) rfl (fun _ _ _ h => h) (by kernel_rfl) (fun _ => by go_simp; try rfl) ?_; (try simp only [Act.put, List.setIfInBounds_toArray, List.set_cons_zero, List.set_cons_succ]))
  (refine wpAnyT_free (i := 4) rfl (by kernel_rfl) rfl (fun _ _ _ h => h) (by kernel_rfl) (fun _ => by go_simp; try rfl) ?_; (try simp only [Act.put, List.setIfInBounds_toArray, List.set_cons_zero, List.set_cons_succ]))
  (refine wpAnyT_free (i := 5) rfl (by kernel_rfl) rfl (fun _ _ _ h => h) (by kernel_rfl) (fun _ => by go_simp; try rfl) ?_; (try simp only [Act.put, List.setIfInBounds_toArray, List.set_cons_zero, List.set_cons_succ]))
  (refine wpAnyT_free (i := 6) rfl (by kernel_rfl) rfl (fun _ _ _ h => h) (by kernel_rfl) (fun _ => by go_simp; try rfl) ?_; (try simp only [Act.put, List.setIfInBounds_toArray, List.set_cons_zero, List.set_cons_succ]))
  (refine wpAnyT_free (i := 7) rfl (by kernel_rfl) rfl (fun _ _ _ h => h) (by kernel_rfl) (fun _ => by go_simp; try rfl) ?_; (try simp only [Act.put, List.setIfInBounds_toArray, List.set_cons_zero, List.set_cons_succ]))
  (refine wpAnyT_free (i := 8) rfl (by kernel_rfl) rfl (fun _ _ _ h => h) (by kernel_rfl) (fun _ => by go_simp; try rfl) ?_; (try simp only [Act.put, List.setIfInBounds_toArray, List.set_cons_zero, List.set_cons_succ]))
  (refine wpAnyT_free (i := 9) rfl (by kernel_rfl) rfl (fun _ _ _ h => h) (by kernel_rfl) (fun _ => by go_simp; try rfl) ?_; (try simp only [Act.put, List.setIfInBounds_toArray, List.set_cons_zero, List.set_cons_succ]))
  (refine wpAnyT_free (i := 10) rfl (by kernel_rfl) rfl (fun _ _ _ h => h) (by kernel_rfl) (fun _ => by go_simp; try rfl) ?_; (try simp only [Act.put, List.setIfInBounds_toArray, List.set_cons_zero, List.set_cons_succ]))
  refine wpAnyT_done (by kernel_rfl) ?_ _
  clear q2
  generalize (if c = m then A else A.map (·.add m)) = AH at *
  generalize (if c = m + 12 then A else A.map (fun x => { block := x.block, off := x.off + (m + 11 + 1) })) = AR at *
  obtain ⟨ch, hch⟩ : ∃ ch, c - m = ch := ⟨_, rfl⟩
  obtain ⟨cr, hcr⟩ : ∃ cr, c - (m + 12) = cr := ⟨_, rfl⟩
  obtain ⟨nr, hnr⟩ : ∃ nr, n - (m + 12) = nr := ⟨_, rfl⟩
  rw [hch, hcr, hnr]
  have u1 : 12 ≤ ch := by omega
  have v1 : (4 : Int) ≤ (ch : Int) := by omega
  have v2 : (8 : Int) ≤ (ch : Int) := by omega
  have u2 : nr ≤ cr := by omega
  have u3 : cr ≤ 2 ^ 63 - 1 := by omega
  have u4 : rest.length = nr := by rw [HT.out]; omega
  have U4 := Lib.hid u4
  have u5 : (m : Int) + nr + 12 ≤ 2 ^ 63 - 1 := by omega
  clear hch hcr hnr u4 p1 p2 p3 p4 p5 p6 h1 h2 hn
  generalize hN : num4 head = N at *
  have k2 : N < 4294967296 := hN ▸ num4_lt head
  have HN := Lib.hid hN
  go_wp2_with (go_at_call 79; refine (number_B _ AH head 12 ch hrh.drew HD.out (by omega)).mono ?_; rintro e w2 ⟨rfl, rfl⟩)
  have h4 : (head.take 4).length = 4 := by rw [List.length_take, HD.out]; rfl
  have h8 : (head.drop 4).length = 8 := by rw [List.length_drop, HD.out]
  have h9 : (head.drop 8).length = 4 := by rw [List.length_drop, HD.out]
  have r4 := hrh.take 4
  have r8 := hrh.drop 4 ch (by rw [HD.out]; exact u1)
  have r9 := hrh.drop 8 ch (by rw [HD.out]; exact u1)
  have x4 : ¬ ch = 4 := by omega
  have x8 : ¬ ch = 8 := by omega
  rw [if_neg x4] at r8
  rw [if_neg x8] at r9
  generalize hA4 : head.take 4 = l4 at *
  generalize hA8 : head.drop 4 = l8 at *
  generalize hA9 : head.drop 8 = l9 at *
  have X4 := Lib.hid h4
  have X8 := Lib.hid h8
  have X9 := Lib.hid h9
  clear h4 h8 h9 hA4 hA8 hA9 hN
  generalize hE : next l (m : Int) = E1 at *
  have HE := Lib.hid hE
  clear hE
  generalize hS4 : (sum l4).toNat = s4 at *
  generalize hN8 : num4 l8 = n8 at *
  have HS4 := Lib.hid hS4
  have HN8 := Lib.hid hN8
  clear hS4 hN8
  generalize hw0 : w.drew.drew = w0 at *
  have hb0 : Below w.heap.size w w0 := hw0 ▸ (Below.refl _ _).drew.drew
  have hh0 : HalfAt w0 := hh.below hb0 hh.lt
  have r40 := r4.below hb0
  have r80 := r8.below hb0
  have r90 := r9.below hb0
  have hrr0 := hrr.below hb0
  clear r4 r8 r9 hrh hw0
  refine wp_region_T #[[], [], [], [], [], [], [], [], []] [] (fun _ => True) 9 rfl (by kernel_rfl) ?_
  (refine wpAnyT_free (i := 0) rfl (by kernel_rfl) rfl (fun _ _ _ h => h) (by kernel_rfl) (fun _ => by go_simp; try rfl) ?_; (try simp only [Act.put, List.setIfInBounds_toArray, List.set_cons_zero, List.set_cons_succ]))
  (refine wpAnyT_free (i := 1) rfl (by kernel_rfl) rfl (fun _ _ _ h => h) (by kernel_rfl) (fun _ => by go_simp; try rfl) ?_; (try simp only [Act.put, List.setIfInBounds_toArray, List.set_cons_zero, List.set_cons_succ]))
  (refine wpAnyT_free (i := 4) rfl (by kernel_rfl) rfl (fun _ _ _ h => h) (by kernel_rfl) (fun _ => by go_simp; try rfl) ?_; (try simp only [Act.put, List.setIfInBounds_toArray, List.set_cons_zero, List.set_cons_succ]))
  (refine wpAnyT_free (i := 5) rfl (by kernel_rfl) rfl (fun _ _ _ h => h) (by kernel_rfl) (fun _ => by go_simp; try rfl) ?_; (try simp only [Act.put, List.setIfInBounds_toArray, List.set_cons_zero, List.set_cons_succ]))
  refine wpAnyT_sink (i := 2) rfl (by kernel_rfl) rfl (by kernel_rfl) ?_
  intro K_ hK_
  go_step; go_simp
  (try (refine hK_ _ _ ?_; clear hK_ K_))
  (try simp only [Act.put, List.setIfInBounds_toArray, List.set_cons_zero, List.set_cons_succ])
  refine wpAnyT_sink (i := 3) rfl (by kernel_rfl) rfl (by kernel_rfl) ?_
  intro K_ hK_
  go_wp2_with ((go_at_call 24; refine (sum_1d _ hh0 AH l4 ch 4 _ X4.out r40 (by simp [maxLen])).mono ?_; rintro e w1 ⟨rfl, rfl⟩; rw [HS4.out]))
  (try (refine hK_ _ _ ?_; clear hK_ K_))
  (try simp only [Act.put, List.setIfInBounds_toArray, List.set_cons_zero, List.set_cons_succ])
  refine wpAnyT_sink (i := 6) rfl (by kernel_rfl) rfl (by kernel_rfl) ?_
  intro K_ hK_
  have r81 : Rd Non (w0.alloc (.cells #[.slice AH 4 ch] 22)).drew (AH.map fun x => { block := x.block, off := x.off + 4 }) l8 := (r80.below (below_new _ _)).drew; have hX := number_B _ _ l8 8 (ch - 4) r81 X8.out (by omega); rw [HN8.out] at hX; clear r81; go_wp2_with (go_at_call 79; refine hX.mono ?_; rintro e w2 ⟨rfl, rfl⟩)
  (try (refine hK_ _ _ ?_; clear hK_ K_))
  (try simp only [Act.put, List.setIfInBounds_toArray, List.set_cons_zero, List.set_cons_succ])
  (refine wpAnyT_free (i := 7) rfl (by kernel_rfl) rfl (fun _ _ _ h => h) (by kernel_rfl) (fun _ => by go_simp; try rfl) ?_; (try simp only [Act.put, List.setIfInBounds_toArray, List.set_cons_zero, List.set_cons_succ]))
  (refine wpAnyT_free (i := 8) rfl (by kernel_rfl) rfl (fun _ _ _ h => h) (by kernel_rfl) (fun _ => by go_simp; try rfl) ?_; (try simp only [Act.put, List.setIfInBounds_toArray, List.set_cons_zero, List.set_cons_succ]))
  refine wpAnyT_done (by kernel_rfl) ?_ _
  clear hX
  have hb1 : Below w.heap.size w (w0.alloc (.cells #[.slice AH 4 ch] 22)).drew.drew := (hb0.alloc hb0.size _).drew.drew
  have hb01 : Below w0.heap.size w0 (w0.alloc (.cells #[.slice AH 4 ch] 22)).drew.drew := (below_new w0 _).drew.drew
  generalize (w0.alloc (.cells #[.slice AH 4 ch] 22)).drew.drew = w1 at *
  have hh1 : HalfAt w1 := hh.below hb1 hh.lt
  have r91 := r90.below hb01
  have hrr1 := hrr0.below hb01
  clear r90 r80 r40 hrr0 hb01 hh0
  by_cases hs : s4 ≠ n8
  · have bs : ((s4 : Int) != (n8 : Int)) = true := by simp; omega
    rw [bs]
    have e6 : E1 = .error 6 := by rw [E.out, if_pos hs]
    clear hs bs
    have e7 : next l (m : Int) = .error 6 := HE.out.trans e6
    clear e6
    go_wp2
    go_ret3
    exact NextDid.err e7 hb1
  have hs := Decidable.not_not.1 hs
  have bs : ((s4 : Int) != (n8 : Int)) = false := by simp; omega
  rw [bs]
  by_cases hg : 65536 < N
  · have e7 : next l (m : Int) = .error 3 := HE.out.trans (by rw [E.out, if_neg (fun h => h hs), if_pos hg])
    have hg' : (65536 : Int) < (N : Int) := by omega
    clear hs bs
    go_wp2
    go_ret3
    exact NextDid.err e7 hb1
  by_cases hk : nr < N
  · have e7 : next l (m : Int) = .error 4 := HE.out.trans (by rw [E.out, if_neg (fun h => h hs), if_neg hg, if_pos (by rw [U4.out]; exact hk)])
    have hg' : ¬ (65536 : Int) < (N : Int) := by omega
    have hk' : (nr : Int) < (N : Int) := by omega
    clear hs bs
    go_wp2
    go_ret3
    exact NextDid.err e7 hb1
  have E2 : E1 = if (sum (List.take N rest)).toNat ≠ num4 l9 then Except.error 6 else Except.ok (List.take N rest, m + 12 + N) := by
    rw [E.out, if_neg (fun h => h hs), if_neg hg, if_neg (by rw [U4.out]; exact hk)]
  have E3 := Lib.hid E2
  clear E E2 hs bs
  have hg' : ¬ (65536 : Int) < (N : Int) := by omega
  have hk' : ¬ (nr : Int) < (N : Int) := by omega
  have lN : (rest.take N).length = N := by rw [List.length_take, U4.out]; omega
  have LN := Lib.hid lN
  clear lN
  have rN := hrr1.take N
  have mN : (N : Int) ≤ (cr : Int) := by omega
  have nN : (0 : Int) ≤ (N : Int) := by omega
  generalize hlN : rest.take N = lN at *
  have HLN := Lib.hid hlN
  clear hlN
  generalize hS9 : (sum lN).toNat = s9 at *
  generalize hN9 : num4 l9 = n9 at *
  have HS9 := Lib.hid hS9
  have HN9 := Lib.hid hN9
  clear hS9 hN9 hrr1 hrr
  go_wp2
  have mN9 : N ≤ maxLen := by unfold maxLen; omega
  refine wp_region_T #[[], [], [], [], [], [], [], [], [], []] [] (fun _ => True) 10 rfl (by kernel_rfl) ?_
  (refine wpAnyT_free (i := 0) rfl (by kernel_rfl) rfl (fun _ _ _ h => h) (by kernel_rfl) (fun _ => by go_simp; try rfl) ?_; (try simp only [Act.put, List.setIfInBounds_toArray, List.set_cons_zero, List.set_cons_succ]))
  (refine wpAnyT_free (i := 1) rfl (by kernel_rfl) rfl (fun _ _ _ h => h) (by kernel_rfl) (fun _ => by go_simp; try rfl) ?_; (try simp only [Act.put, List.setIfInBounds_toArray, List.set_cons_zero, List.set_cons_succ]))
  (refine wpAnyT_free (i := 2) rfl (by kernel_rfl) rfl (fun _ _ _ h => h) (by kernel_rfl) (fun _ => by go_simp; try rfl) ?_; (try simp only [Act.put, List.setIfInBounds_toArray, List.set_cons_zero, List.set_cons_succ]))
  (refine wpAnyT_free (i := 5) rfl (by kernel_rfl) rfl (fun _ _ _ h => h) (by kernel_rfl) (fun _ => by go_simp; try rfl) ?_; (try simp only [Act.put, List.setIfInBounds_toArray, List.set_cons_zero, List.set_cons_succ]))
  (refine wpAnyT_free (i := 6) rfl (by kernel_rfl) rfl (fun _ _ _ h => h) (by kernel_rfl) (fun _ => by go_simp; try rfl) ?_; (try simp only [Act.put, List.setIfInBounds_toArray, List.set_cons_zero, List.set_cons_succ]))
  refine wpAnyT_sink (i := 3) rfl (by kernel_rfl) rfl (by kernel_rfl) ?_
  intro K_ hK_
  go_step; go_simp
  (try (refine hK_ _ _ ?_; clear hK_ K_))
  (try simp only [Act.put, List.setIfInBounds_toArray, List.set_cons_zero, List.set_cons_succ])
  refine wpAnyT_sink (i := 4) rfl (by kernel_rfl) rfl (by kernel_rfl) ?_
  intro K_ hK_
  go_wp2_with ((go_at_call 24; refine (sum_1d _ hh1 AR lN cr N _ LN.out rN mN9).mono ?_; rintro e w3 ⟨rfl, rfl⟩; rw [HS9.out]))
  (try (refine hK_ _ _ ?_; clear hK_ K_))
  (try simp only [Act.put, List.setIfInBounds_toArray, List.set_cons_zero, List.set_cons_succ])
  refine wpAnyT_sink (i := 7) rfl (by kernel_rfl) rfl (by kernel_rfl) ?_
  intro K_ hK_
  have r93 : Rd Non (w1.alloc (.cells #[.slice AR N cr] 22)).drew (AH.map fun x => { block := x.block, off := x.off + 8 }) l9 := (r91.below (below_new _ _)).drew; have hX := number_B _ _ l9 4 (ch - 8) r93 X9.out (by omega); rw [HN9.out] at hX; clear r93; go_wp2_with (go_at_call 79; refine hX.mono ?_; rintro e w2 ⟨rfl, rfl⟩)
  (try (refine hK_ _ _ ?_; clear hK_ K_))
  (try simp only [Act.put, List.setIfInBounds_toArray, List.set_cons_zero, List.set_cons_succ])
  (refine wpAnyT_free (i := 8) rfl (by kernel_rfl) rfl (fun _ _ _ h => h) (by kernel_rfl) (fun _ => by go_simp; try rfl) ?_; (try simp only [Act.put, List.setIfInBounds_toArray, List.set_cons_zero, List.set_cons_succ]))
  (refine wpAnyT_free (i := 9) rfl (by kernel_rfl) rfl (fun _ _ _ h => h) (by kernel_rfl) (fun _ => by go_simp; try rfl) ?_; (try simp only [Act.put, List.setIfInBounds_toArray, List.set_cons_zero, List.set_cons_succ]))
  refine wpAnyT_done (by kernel_rfl) ?_ _
  clear hX
  have hb3 : Below w.heap.size w (w1.alloc (.cells #[.slice AR N cr] 22)).drew.drew := (hb1.alloc hb1.size _).drew.drew
  have hb13 : Below w1.heap.size w1 (w1.alloc (.cells #[.slice AR N cr] 22)).drew.drew := (below_new w1 _).drew.drew
  generalize (w1.alloc (.cells #[.slice AR N cr] 22)).drew.drew = w3 at *
  have rN3 := rN.below hb13
  clear rN r91 hb13 hb1 hh1
  by_cases hs : s9 ≠ n9
  · have bs : ((s9 : Int) != (n9 : Int)) = true := by simp; omega
    rw [bs]
    have e7 : next l (m : Int) = .error 6 := HE.out.trans (by rw [E3.out, if_pos hs])
    clear hs bs
    go_wp2
    go_ret3
    exact NextDid.err e7 hb3
  have e7 : next l (m : Int) = .ok (lN, m + 12 + N) := HE.out.trans (by rw [E3.out, if_neg hs])
  have hs := Decidable.not_not.1 hs
  have bs : ((s9 : Int) != (n9 : Int)) = false := by simp; omega
  rw [bs]
  have HE7 := Lib.hid e7
  clear hs bs e7
  have q2 : (m : Int) + 12 ≤ 2 ^ 63 - 1 := by omega
  have q3 : (m : Int) + 12 + N ≤ 2 ^ 63 - 1 := by omega
  have q4 : (0 : Int) ≤ (m : Int) + 12 + N := by omega
  have hcl := clone_B Non AR lN cr w3 rN3 (by rw [LN.out]; omega)
  rw [LN.out] at hcl
  go_wp2_with (go_at_call 80; refine hcl.mono ?_; rintro e w4 ⟨A5, c5, rfl, ho5, hc5, hm5, hb5⟩)
  go_ret3
  unfold NextDid
  rw [HE7.out]
  refine ⟨A5, c5, ?_, (Own.of_row' ho5).mono (fun b (hb : _ ≤ b) => Nat.le_trans hb3.size hb), hc5, hm5, hb3.trans (hb5.mono hb3.size)⟩
  rfl
end Go.Proofs.YtediidajdpdeiaaDoor
