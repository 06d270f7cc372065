/- The laws of layer 2 that compare with the document: the walks. -/
import Derived.Test.YtediidajdpdeiaaDoorWorks02
import Derived.Test.YtediidajdpdeiaaDoorRowL
namespace Go.Proofs.YtediidajdpdeiaaDoor
open Go.RowKit CrcM
set_option maxRecDepth 100000

theorem goodLaw_02 (W : World) (hh : HalfAt W) (A : Option Addr) (b : List UInt8) (c : Nat) (hr : Rd Non W A b) (hn : b.length ≤ c) (hm : c ≤ maxLen) :
    Calls Tryd.prog 5 #[.slice A b.length c] W fun e w' => e = .returned (.bool true) ∧ Below W.heap.size W w' := by
  have hfew := few_B W A b c b.length hr rfl hn hm
  have hl : (b.take 3000).length ≤ 3000 := by rw [List.length_take]; omega
  generalize b.take 3000 = l at *
  go_enter Tryd.func5, Tryd.ntmps5
  go_wp2_with (first
    | (go_at_call 22; refine hfew.mono ?_; rintro e w1 ⟨A1, c1, rfl, ho1, hc1, hm1, hb1⟩; have r1 := own_rd ho1 rfl; clear hfew ho1)
    | (go_at_call 30; refine (good_B w1 (hh.below hb1 hh.lt) A1 l c1 l.length r1 rfl hc1 hm1).mono ?_; rintro e w2 ⟨at_, r, hg, rfl, hb2⟩; have hB2 := hb1.trans (hb2.mono hb1.size); have r2 := r1.below hb2; have Hg := Lib.hid hg; clear hg)
    | (go_at_call 31; refine (refGood_B w2 A1 l c1 l.length r2 rfl hc1 hm1).mono ?_; rintro e w3 ⟨at1, s, hg1, rfl, hb3⟩; obtain ⟨rfl, rfl⟩ := Hg.out.det hg1; have hB3 := hB2.trans (hb3.mono hB2.size); clear hg1 Hg hb1 hb2 hb3 hB2 r1 r2)
    | (go_at_call 25; refine (works_02 w3 (hh.below hB3 hh.lt)).mono ?_; rintro e w4 ⟨rfl, hb4⟩))
  go_ret
  exact ⟨rfl, hB3.trans (hb4.mono hB3.size)⟩

theorem framesLaw_02 (W : World) (hh : HalfAt W) (A : Option Addr) (b : List UInt8) (c : Nat) (hr : Rd Non W A b) (hn : b.length ≤ c) (hm : c ≤ maxLen)
    (B : Option Addr) (b' : List UInt8) (d : Nat) (hs : Rd Non W B b') (hn' : b'.length ≤ d) (hm' : d ≤ maxLen) (n : Int) (hi : i64 n) :
    Calls Tryd.prog 4 #[.slice A b.length c, .slice B b'.length d, .int .i64 n] W fun e w' => e = .returned (.bool true) ∧ Below W.heap.size W w' := by
  have hfew := few_B W A b c b.length hr rfl hn hm
  have hl : (b.take 3000).length ≤ 3000 := by rw [List.length_take]; omega
  have hl' : (b'.take 3000).length ≤ 3000 := by rw [List.length_take]; omega
  have hfew2 := fun (w : World) (hb : Below W.heap.size W w) => few_B w B b' d b'.length (hs.below hb) rfl hn' hm'
  generalize b.take 3000 = l at *
  generalize b'.take 3000 = l' at *
  have hF := fun (w : World) (hh : HalfAt w) (A : Option Addr) (c : Nat) (hr : Rd Non w A l) => by
    have h := frame_B w hh A l c l.length hr rfl (by unfold maxLen; omega)
    simpa only [if_pos (show l.length ≤ 65536 by omega)] using h
  have hG := fun (w : World) (A : Option Addr) (c : Nat) (hr : Rd Non w A l) (h1 : l.length ≤ c) (h2 : c ≤ maxLen) => by
    have h := refFrame_B w A l c l.length hr rfl h1 h2
    simpa only [if_pos (show l.length ≤ 65536 by omega)] using h
  unfold i64 at hi
  generalize hfr : frame l = fr at *
  clear hfr hr hn hm hs hn' hm'
  cases hx : next l' n
  all_goals
    have HX := Lib.hid hx
    clear hx
    go_enter Tryd.func4, Tryd.ntmps4
    go_wp2_with (first
      | (go_at_call 22; refine hfew.mono ?_; rintro e w1 ⟨A1, c1, rfl, ho1, hc1, hm1, hb1⟩; have r1 := own_rd ho1 rfl; clear hfew ho1; have hX := hfew2 w1 hb1; clear hfew2)
      | (go_at_call 22; refine hX.mono ?_; rintro e w2 ⟨A2, c2, rfl, ho2, hc2, hm2, hb2⟩; have r2 := own_rd ho2 rfl; have r12 := r1.below hb2; have hB2 := hb1.trans (hb2.mono hb1.size); clear hX ho2 r1 hb1 hb2)
      | (go_at_call 26; refine (hF w2 (hh.below hB2 hh.lt) A1 c1 r12).mono ?_; rintro e w3 ⟨A3, c3, rfl, ho3, hc3, hm3, hb3⟩; have q3 := ho3.rd Non; have r3 := r2.below hb3; have r13 := r12.below hb3; have hB3 := hB2.trans (hb3.mono hB2.size); clear hF ho3 r2 r12 hb3 hB2)
      | (go_at_call 27; refine (hG w3 A1 c1 r13 hc1 hm1).mono ?_; rintro e w4 ⟨A4, c4, rfl, ho4, hc4, hm4, hb4⟩; have p4 := ho4.rd Non; have q4 := q3.below hb4; have r4 := r3.below hb4; have hB4 := hB3.trans (hb4.mono hB3.size); clear hG ho4 q3 r3 r13 hb4 hB3)
      | (go_at_call 28; refine (next_B w4 (hh.below hB4 hh.lt) A2 l' c2 l'.length r4 rfl hc2 hm2 n).mono ?_; intro e w5 hd; unfold NextDid at hd; rw [HX.out] at hd; first | (obtain ⟨rfl, hb5⟩ := hd; have n5 := Rd.nil Non w5 none) | (obtain ⟨A5, c5, rfl, ho5, hc5, hm5, hb5⟩ := hd; have n5 := ho5.rd Non; clear ho5)
         have p5 := p4.below hb5; have q5 := q4.below hb5; have r5 := r4.below hb5; have hB5 := hB4.trans (hb5.mono hB4.size); clear p4 q4 r4 hb5 hB4)
      | (go_at_call 29; refine (refNext_B w5 A2 l' c2 l'.length r5 rfl hc2 hm2 n).mono ?_; intro e w6 hd; unfold NextDid at hd; rw [HX.out] at hd; first | (obtain ⟨rfl, hb6⟩ := hd; have m6 := Rd.nil Non w6 none; have k4 := run_str m6 0) | (obtain ⟨A6, c6, rfl, ho6, hc6, hm6, hb6⟩ := hd; have m6 := ho6.rd Non; have k4 := run_str m6 c6; clear ho6)
         have hB6 := hB5.trans (hb6.mono hB5.size)
         have k1 := run_str (q5.below hb6) c3; have k2 := run_str (p5.below hb6) c4; have n6 := n5.below hb6; first | have k3 := run_str n6 c5 | have k3 := run_str n6 0
         try simp only [List.length_nil] at k3
         try simp only [List.length_nil] at k4
         clear n5 p5 q5 r5 hb6 hB5 m6 n6)
      | (go_at_call 25; refine (works_02 w6 (hh.below hB6 hh.lt)).mono ?_; rintro e w7 ⟨rfl, hb7⟩)
      | fail)
    go_ret
    exact ⟨rfl, hB6.trans (hb7.mono hB6.size)⟩

theorem sum_parts (w : World) (hh : HalfAt w) (vs : Array Value) (t : TypeId) (parts : List (List UInt8)) (n : Nat) (hl : parts.length = n) (hn : n ≤ maxLen) (l : List UInt8) (hf : parts.flatten = l)
    (hv : ∀ (j : Nat) (l : List UInt8), parts[j]? = some l → ∃ A c, vs[j]? = some (Value.slice A l.length c) ∧ l.length ≤ maxLen ∧ Rd Non w A l) :
    Calls Tryd.prog 24 #[.slice (some ⟨w.heap.size, 0, none⟩) n n] (w.alloc (.cells vs t)).drew fun e w' => e = .returned (.int .u32 ((sum l).toNat : Int)) ∧ (w.alloc (.cells vs t)).drew = w' := by
  subst hl
  subst hf
  have hh1 : HalfAt (w.alloc (.cells vs t)).drew := hh.below (below_new w _).drew hh.lt
  have hp : PartsAt (w.alloc (.cells vs t)).drew (some ⟨w.heap.size, 0, none⟩) parts := parts_blk ((Blk.new w t vs).drew) parts fun j l hj => by
    obtain ⟨A, c, e, hm, hr⟩ := hv j l hj
    exact ⟨A, c, e, hm, (hr.below (below_new w _)).drew⟩
  exact sum_B _ hh1 _ parts _ hp hn

set_option maxHeartbeats 1000000 in
theorem sumsLaw_02 (W : World) (hh : HalfAt W) (A : Option Addr) (b : List UInt8) (c : Nat) (hr : Rd Non W A b) (hn : b.length ≤ c) (hm : c ≤ maxLen) (n : Int) (hi : i64 n) :
    Calls Tryd.prog 3 #[.slice A b.length c, .int .i64 n] W fun e w' => e = .returned (.bool true) ∧ Below W.heap.size W w' := by
  have hfew := few_B W A b c b.length hr rfl hn hm
  have hl : (b.take 3000).length ≤ 3000 := by rw [List.length_take]; omega
  generalize b.take 3000 = l at *
  clear hr hn hm
  unfold i64 at hi
  obtain ⟨m, hm⟩ : ∃ m, l.length = m := ⟨_, rfl⟩
  have HM := Lib.hid hm
  rw [hm] at hl
  clear hm
  have hb := rem_any n ((m : Int) + 1) (by omega)
  obtain ⟨k, hk1, hk2, hk3⟩ := rem_up n ((m : Int) + 1) (by omega)
  generalize ht : n.tmod ((m : Int) + 1) = t at *
  rw [← Int.add_assoc] at hk1 hk2
  have K1 := Lib.hid hk1
  have K2 := Lib.hid hk2
  have HT := Lib.hid ht
  clear hk1 hk2 ht
  go_enter Tryd.func3, Tryd.ntmps3
  go_wp2_with (first
    | (go_at_call 22; refine hfew.mono ?_; rintro e w1 ⟨A1, c1, rfl, ho1, hc1, hm1, hb1⟩; have r1 := own_rd ho1 rfl; rw [HM.out] at hc1 ⊢; clear hfew ho1; have ht := HT.out; have hk1 := K1.out; have hk2 := K2.out)
    | (go_at_call 23; refine (refSum_B w1 A1 l c1 m r1 HM.out hc1 hm1).mono ?_; rintro e w2 ⟨rfl, rfl⟩)
    | fail)
  clear hk1 hk2 ht HT K1 K2 hb
  have hk : k ≤ m := by omega
  have q0 : (0 : Int) ≤ (k : Int) := by omega
  have q1 : (k : Int) ≤ (m : Int) := by omega
  have q2 : (k : Int) ≤ (c1 : Int) := by omega
  have hh1 := hh.below hb1 hh.lt
  have rk := r1.take k
  have rd := r1.drop k c1 (by rw [HM.out]; exact hc1)
  have lk : (l.take k).length = k := by rw [List.length_take, HM.out]; omega
  have ld : (l.drop k).length = m - k := by rw [List.length_drop, HM.out]
  have hm9 : m ≤ maxLen := by unfold maxLen; omega
  generalize hA2 : (if c1 = k then A1 else A1.map (·.add k)) = A2 at *
  generalize hw2 : w1.alloc (.cells #[.slice A1 m c1] 22) = w2
  have b12 : Below w1.heap.size w1 w2 := hw2 ▸ below_new w1 _
  have z2 : w2.heap.size = w1.heap.size + 1 := by rw [← hw2]; simp
  generalize hw3 : w2.alloc (.cells #[.slice A1 k c1, .slice A2 (m - k) (c1 - k)] 22) = w3
  have b23 : Below w2.heap.size w2 w3 := hw3 ▸ below_new w2 _
  have z3 : w3.heap.size = w1.heap.size + 2 := by rw [← hw3]; simp [z2]
  have b13 := b12.trans (b23.mono b12.size)
  have S1 := sum_parts w1 hh1 #[.slice A1 m c1] 22 [l] 1 rfl (by simp [maxLen]) l (by simp) (fun j x hx => by
    match j, hx with
    | 0, hx => injection hx with hx; subst hx; exact ⟨A1, c1, by rw [HM.out]; rfl, by rw [HM.out]; exact hm9, r1⟩
    | j + 1, hx => simp at hx)
  have S2 := sum_parts w2 (hh1.below b12 hh1.lt) #[.slice A1 k c1, .slice A2 (m - k) (c1 - k)] 22 [l.take k, l.drop k] 2 rfl (by simp [maxLen]) l (by simp) (fun j x hx => by
    match j, hx with
    | 0, hx => injection hx with hx; subst hx; exact ⟨A1, c1, by rw [lk]; rfl, by rw [lk]; omega, rk.below b12⟩
    | 1, hx => injection hx with hx; subst hx; exact ⟨A2, c1 - k, by rw [ld]; rfl, by rw [ld]; omega, rd.below b12⟩
    | j + 2, hx => simp at hx)
  have S3 := sum_parts w3 (hh1.below b13 hh1.lt) #[.slice none 0 0, .slice A1 k c1, .slice none 0 0, .slice A2 (m - k) (c1 - k)] 22 [[], l.take k, [], l.drop k] 4 rfl (by simp [maxLen]) l (by simp) (fun j x hx => by
    match j, hx with
    | 0, hx => injection hx with hx; subst hx; exact ⟨none, 0, rfl, by simp, Rd.nil _ _ _⟩
    | 1, hx => injection hx with hx; subst hx; exact ⟨A1, c1, by rw [lk]; rfl, by rw [lk]; omega, rk.below b13⟩
    | 2, hx => injection hx with hx; subst hx; exact ⟨none, 0, rfl, by simp, Rd.nil _ _ _⟩
    | 3, hx => injection hx with hx; subst hx; exact ⟨A2, c1 - k, by rw [ld]; rfl, by rw [ld]; omega, rd.below b13⟩
    | j + 4, hx => simp at hx)
  rw [hw2] at S1
  rw [hw3] at S2
  rw [z2] at S2
  rw [z3] at S3
  have hB3 := hb1.trans (b13.mono hb1.size)
  have hB4 := hB3.alloc hB3.size (.cells #[.slice none 0 0, .slice A1 k c1, .slice none 0 0, .slice A2 (m - k) (c1 - k)] 22)
  generalize hw4 : w3.alloc (.cells #[.slice none 0 0, .slice A1 k c1, .slice none 0 0, .slice A2 (m - k) (c1 - k)] 22) = w4 at *
  generalize hs : (sum l).toNat = s at *
  have hw := works_02 w4.drew (hh.below hB4.drew hh.lt)
  clear rk rd lk ld hs hh1 b12 b23 b13 hB3 r1
  refine wp_region_T #[[], [], [], [], [], [], [], [], [], [], [], [], [], [], [], [], [], [], [], [], [], [], [], [], [], [], [], [], [], [], [], [], []] [] (fun _ => True) 33 rfl (by kernel_rfl) ?_
  (refine wpAnyT_free (i := 0) rfl (by kernel_rfl) rfl (fun _ _ _ h => h) (by kernel_rfl) (fun _ => by go_simp; try rfl) ?_; (try simp only [Act.put, List.setIfInBounds_toArray, List.set_cons_zero, List.set_cons_succ]))
  (refine wpAnyT_free (i := 3) rfl (by kernel_rfl) rfl (fun _ _ _ h => h) (by kernel_rfl) (fun _ => by go_simp; try rfl) ?_; (try simp only [Act.put, List.setIfInBounds_toArray, List.set_cons_zero, List.set_cons_succ]))
  refine wpAnyT_sink (i := 1) rfl (by kernel_rfl) rfl (by kernel_rfl) ?_
  intro K_ hK_
  go_step; go_simp
  (try (refine hK_ _ _ ?_; clear hK_ K_))
  (try simp only [Act.put, List.setIfInBounds_toArray, List.set_cons_zero, List.set_cons_succ])
  refine wpAnyT_sink (i := 2) rfl (by kernel_rfl) rfl (by kernel_rfl) ?_
  intro K_ hK_
  go_wp2_with ((go_at_call 24; refine S1.mono ?_; rintro e wA ⟨rfl, rfl⟩; clear S1))
  (try (refine hK_ _ _ ?_; clear hK_ K_))
  (try simp only [Act.put, List.setIfInBounds_toArray, List.set_cons_zero, List.set_cons_succ])
  (refine wpAnyT_free (i := 4) rfl (by kernel_rfl) rfl (fun _ _ _ h => h) (by kernel_rfl) (fun _ => by go_simp; try rfl) ?_; (try simp only [Act.put, List.setIfInBounds_toArray, List.set_cons_zero, List.set_cons_succ]))
  (refine wpAnyT_free (i := 5) rfl (by kernel_rfl) rfl (fun _ _ _ h => h) (by kernel_rfl) (fun _ => by go_simp; try rfl) ?_; (try simp only [Act.put, List.setIfInBounds_toArray, List.set_cons_zero, List.set_cons_succ]))
  first
  | (refine wpAnyT_skip (i := 6) rfl (by kernel_rfl) ?hw_ (fun _ _ _ h => h) (fun h_ => absurd h_ (by decide)) ?_; (case hw_ => simp [Region.wanted, yielded]; done); (try simp only [Act.put, List.setIfInBounds_toArray, List.set_cons_zero, List.set_cons_succ]))
  | (refine wpAnyT_free (i := 6) rfl (by kernel_rfl) (by simp [Region.wanted, yielded]) (fun _ _ _ h => h) (by kernel_rfl) (fun _ => by go_simp; try rfl) ?_; (try simp only [Act.put, List.setIfInBounds_toArray, List.set_cons_zero, List.set_cons_succ]))
  first
  | (refine wpAnyT_skip (i := 7) rfl (by kernel_rfl) ?hw_ (fun _ _ _ h => h) (fun h_ => absurd h_ (by decide)) ?_; (case hw_ => simp [Region.wanted, yielded]; done); (try simp only [Act.put, List.setIfInBounds_toArray, List.set_cons_zero, List.set_cons_succ]))
  | (refine wpAnyT_free (i := 7) rfl (by kernel_rfl) (by simp [Region.wanted, yielded]) (fun _ _ _ h => h) (by kernel_rfl) (fun _ => by go_simp; try rfl) ?_; (try simp only [Act.put, List.setIfInBounds_toArray, List.set_cons_zero, List.set_cons_succ]))
  first
  | (refine wpAnyT_skip (i := 8) rfl (by kernel_rfl) ?hw_ (fun _ _ _ h => h) (fun h_ => absurd h_ (by decide)) ?_; (case hw_ => simp [Region.wanted, yielded]; done); (try simp only [Act.put, List.setIfInBounds_toArray, List.set_cons_zero, List.set_cons_succ]))
  | (refine wpAnyT_free (i := 8) rfl (by kernel_rfl) (by simp [Region.wanted, yielded]) (fun _ _ _ h => h) (by kernel_rfl) (fun _ => by go_simp; try rfl) ?_; (try simp only [Act.put, List.setIfInBounds_toArray, List.set_cons_zero, List.set_cons_succ]))
  first
  | (refine wpAnyT_skip (i := 9) rfl (by kernel_rfl) ?hw_ (fun _ _ _ h => h) (fun h_ => absurd h_ (by decide)) ?_; (case hw_ => simp [Region.wanted, yielded]; done); (try simp only [Act.put, List.setIfInBounds_toArray, List.set_cons_zero, List.set_cons_succ]))
  | (refine wpAnyT_free (i := 9) rfl (by kernel_rfl) (by simp [Region.wanted, yielded]) (fun _ _ _ h => h) (by kernel_rfl) (fun _ => by go_simp; try rfl) ?_; (try simp only [Act.put, List.setIfInBounds_toArray, List.set_cons_zero, List.set_cons_succ]))
  first
  | (refine wpAnyT_skip (i := 10) rfl (by kernel_rfl) ?hw_ (fun _ _ _ h => h) (fun h_ => absurd h_ (by decide)) ?_; (case hw_ => simp [Region.wanted, yielded]; done); (try simp only [Act.put, List.setIfInBounds_toArray, List.set_cons_zero, List.set_cons_succ]))
  | (refine wpAnyT_free (i := 10) rfl (by kernel_rfl) (by simp [Region.wanted, yielded]) (fun _ _ _ h => h) (by kernel_rfl) (fun _ => by go_simp; try rfl) ?_; (try simp only [Act.put, List.setIfInBounds_toArray, List.set_cons_zero, List.set_cons_succ]))
  first
  | (refine wpAnyT_skip (i := 11) rfl (by kernel_rfl) ?hw_ (fun _ _ _ h => h) (fun h_ => absurd h_ (by decide)) ?_; (case hw_ => simp [Region.wanted, yielded]; done); (try simp only [Act.put, List.setIfInBounds_toArray, List.set_cons_zero, List.set_cons_succ]))
  | (refine wpAnyT_free (i := 11) rfl (by kernel_rfl) (by simp [Region.wanted, yielded]) (fun _ _ _ h => h) (by kernel_rfl) (fun _ => by go_simp; try rfl) ?_; (try simp only [Act.put, List.setIfInBounds_toArray, List.set_cons_zero, List.set_cons_succ]))
  first
  | (refine wpAnyT_skip (i := 14) rfl (by kernel_rfl) ?hw_ (fun _ _ _ h => h) (fun h_ => absurd h_ (by decide)) ?_; (case hw_ => simp [Region.wanted, yielded]; done); (try simp only [Act.put, List.setIfInBounds_toArray, List.set_cons_zero, List.set_cons_succ]))
  | (refine wpAnyT_free (i := 14) rfl (by kernel_rfl) (by simp [Region.wanted, yielded]) (fun _ _ _ h => h) (by kernel_rfl) (fun _ => by go_simp; try rfl) ?_; (try simp only [Act.put, List.setIfInBounds_toArray, List.set_cons_zero, List.set_cons_succ]))
  first
  | (refine wpAnyT_skip (i := 12) rfl (by kernel_rfl) ?hw_ (fun _ _ _ h => h) (fun h_ => absurd h_ (by decide)) ?_; (case hw_ => simp [Region.wanted, yielded]; done); (try simp only [Act.put, List.setIfInBounds_toArray, List.set_cons_zero, List.set_cons_succ]))
  | (refine wpAnyT_sink (i := 12) rfl (by kernel_rfl) (by simp [Region.wanted, yielded]) (by kernel_rfl) ?_
     intro K_ hK_
     go_step; go_simp
     (try (refine hK_ _ _ ?_; clear hK_ K_))
     (try simp only [Act.put, List.setIfInBounds_toArray, List.set_cons_zero, List.set_cons_succ]))
  first
  | (refine wpAnyT_skip (i := 13) rfl (by kernel_rfl) ?hw_ (fun _ _ _ h => h) (fun h_ => absurd h_ (by decide)) ?_; (case hw_ => simp [Region.wanted, yielded]; done); (try simp only [Act.put, List.setIfInBounds_toArray, List.set_cons_zero, List.set_cons_succ]))
  | (refine wpAnyT_sink (i := 13) rfl (by kernel_rfl) (by simp [Region.wanted, yielded]) (by kernel_rfl) ?_
     intro K_ hK_
     go_wp2_with ((go_at_call 24; refine S2.mono ?_; rintro e wA ⟨rfl, rfl⟩; clear S2))
     (try (refine hK_ _ _ ?_; clear hK_ K_))
     (try simp only [Act.put, List.setIfInBounds_toArray, List.set_cons_zero, List.set_cons_succ]))
  first
  | (refine wpAnyT_skip (i := 15) rfl (by kernel_rfl) ?hw_ (fun _ _ _ h => h) (fun h_ => absurd h_ (by decide)) ?_; (case hw_ => simp [Region.wanted, yielded]; done); (try simp only [Act.put, List.setIfInBounds_toArray, List.set_cons_zero, List.set_cons_succ]))
  | (refine wpAnyT_free (i := 15) rfl (by kernel_rfl) (by simp [Region.wanted, yielded]) (fun _ _ _ h => h) (by kernel_rfl) (fun _ => by go_simp; try rfl) ?_; (try simp only [Act.put, List.setIfInBounds_toArray, List.set_cons_zero, List.set_cons_succ]))
  (refine wpAnyT_free (i := 16) rfl (by kernel_rfl) rfl (fun _ _ _ h => h) (by kernel_rfl) (fun _ => by go_simp; try rfl) ?_; (try simp only [Act.put, List.setIfInBounds_toArray, List.set_cons_zero, List.set_cons_succ]))
  (refine wpAnyT_free (i := 17) rfl (by kernel_rfl) rfl (fun _ _ _ h => h) (by kernel_rfl) (fun _ => by go_simp; try rfl) ?_; (try simp only [Act.put, List.setIfInBounds_toArray, List.set_cons_zero, List.set_cons_succ]))
  first
  | (refine wpAnyT_skip (i := 18) rfl (by kernel_rfl) ?hw_ (fun _ _ _ h => h) (fun h_ => absurd h_ (by decide)) ?_; (case hw_ => simp [Region.wanted, yielded]; done); (try simp only [Act.put, List.setIfInBounds_toArray, List.set_cons_zero, List.set_cons_succ]))
  | (refine wpAnyT_free (i := 18) rfl (by kernel_rfl) (by simp [Region.wanted, yielded]) (fun _ _ _ h => h) (by kernel_rfl) (fun _ => by go_simp; try rfl) ?_; (try simp only [Act.put, List.setIfInBounds_toArray, List.set_cons_zero, List.set_cons_succ]))
  first
  | (refine wpAnyT_skip (i := 19) rfl (by kernel_rfl) ?hw_ (fun _ _ _ h => h) (fun h_ => absurd h_ (by decide)) ?_; (case hw_ => simp [Region.wanted, yielded]; done); (try simp only [Act.put, List.setIfInBounds_toArray, List.set_cons_zero, List.set_cons_succ]))
  | (refine wpAnyT_free (i := 19) rfl (by kernel_rfl) (by simp [Region.wanted, yielded]) (fun _ _ _ h => h) (by kernel_rfl) (fun _ => by go_simp; try rfl) ?_; (try simp only [Act.put, List.setIfInBounds_toArray, List.set_cons_zero, List.set_cons_succ]))
  first
  | (refine wpAnyT_skip (i := 20) rfl (by kernel_rfl) ?hw_ (fun _ _ _ h => h) (fun h_ => absurd h_ (by decide)) ?_; (case hw_ => simp [Region.wanted, yielded]; done); (try simp only [Act.put, List.setIfInBounds_toArray, List.set_cons_zero, List.set_cons_succ]))
  | (refine wpAnyT_free (i := 20) rfl (by kernel_rfl) (by simp [Region.wanted, yielded]) (fun _ _ _ h => h) (by kernel_rfl) (fun _ => by go_simp; try rfl) ?_; (try simp only [Act.put, List.setIfInBounds_toArray, List.set_cons_zero, List.set_cons_succ]))
  first
  | (refine wpAnyT_skip (i := 21) rfl (by kernel_rfl) ?hw_ (fun _ _ _ h => h) (fun h_ => absurd h_ (by decide)) ?_; (case hw_ => simp [Region.wanted, yielded]; done); (try simp only [Act.put, List.setIfInBounds_toArray, List.set_cons_zero, List.set_cons_succ]))
  | (refine wpAnyT_free (i := 21) rfl (by kernel_rfl) (by simp [Region.wanted, yielded]) (fun _ _ _ h => h) (by kernel_rfl) (fun _ => by go_simp; try rfl) ?_; (try simp only [Act.put, List.setIfInBounds_toArray, List.set_cons_zero, List.set_cons_succ]))
  first
  | (refine wpAnyT_skip (i := 22) rfl (by kernel_rfl) ?hw_ (fun _ _ _ h => h) (fun h_ => absurd h_ (by decide)) ?_; (case hw_ => simp [Region.wanted, yielded]; done); (try simp only [Act.put, List.setIfInBounds_toArray, List.set_cons_zero, List.set_cons_succ]))
  | (refine wpAnyT_free (i := 22) rfl (by kernel_rfl) (by simp [Region.wanted, yielded]) (fun _ _ _ h => h) (by kernel_rfl) (fun _ => by go_simp; try rfl) ?_; (try simp only [Act.put, List.setIfInBounds_toArray, List.set_cons_zero, List.set_cons_succ]))
  first
  | (refine wpAnyT_skip (i := 23) rfl (by kernel_rfl) ?hw_ (fun _ _ _ h => h) (fun h_ => absurd h_ (by decide)) ?_; (case hw_ => simp [Region.wanted, yielded]; done); (try simp only [Act.put, List.setIfInBounds_toArray, List.set_cons_zero, List.set_cons_succ]))
  | (refine wpAnyT_free (i := 23) rfl (by kernel_rfl) (by simp [Region.wanted, yielded]) (fun _ _ _ h => h) (by kernel_rfl) (fun _ => by go_simp; try rfl) ?_; (try simp only [Act.put, List.setIfInBounds_toArray, List.set_cons_zero, List.set_cons_succ]))
  first
  | (refine wpAnyT_skip (i := 26) rfl (by kernel_rfl) ?hw_ (fun _ _ _ h => h) (fun h_ => absurd h_ (by decide)) ?_; (case hw_ => simp [Region.wanted, yielded]; done); (try simp only [Act.put, List.setIfInBounds_toArray, List.set_cons_zero, List.set_cons_succ]))
  | (refine wpAnyT_free (i := 26) rfl (by kernel_rfl) (by simp [Region.wanted, yielded]) (fun _ _ _ h => h) (by kernel_rfl) (fun _ => by go_simp; try rfl) ?_; (try simp only [Act.put, List.setIfInBounds_toArray, List.set_cons_zero, List.set_cons_succ]))
  first
  | (refine wpAnyT_skip (i := 24) rfl (by kernel_rfl) ?hw_ (fun _ _ _ h => h) (fun h_ => absurd h_ (by decide)) ?_; (case hw_ => simp [Region.wanted, yielded]; done); (try simp only [Act.put, List.setIfInBounds_toArray, List.set_cons_zero, List.set_cons_succ]))
  | (refine wpAnyT_sink (i := 24) rfl (by kernel_rfl) (by simp [Region.wanted, yielded]) (by kernel_rfl) ?_
     intro K_ hK_
     go_step; go_simp
     (try (refine hK_ _ _ ?_; clear hK_ K_))
     (try simp only [Act.put, List.setIfInBounds_toArray, List.set_cons_zero, List.set_cons_succ]))
  first
  | (refine wpAnyT_skip (i := 25) rfl (by kernel_rfl) ?hw_ (fun _ _ _ h => h) (fun h_ => absurd h_ (by decide)) ?_; (case hw_ => simp [Region.wanted, yielded]; done); (try simp only [Act.put, List.setIfInBounds_toArray, List.set_cons_zero, List.set_cons_succ]))
  | (refine wpAnyT_sink (i := 25) rfl (by kernel_rfl) (by simp [Region.wanted, yielded]) (by kernel_rfl) ?_
     intro K_ hK_
     go_wp2_with ((go_at_call 24; refine S3.mono ?_; rintro e wA ⟨rfl, rfl⟩; clear S3))
     (try (refine hK_ _ _ ?_; clear hK_ K_))
     (try simp only [Act.put, List.setIfInBounds_toArray, List.set_cons_zero, List.set_cons_succ]))
  first
  | (refine wpAnyT_skip (i := 27) rfl (by kernel_rfl) ?hw_ (fun _ _ _ h => h) (fun h_ => absurd h_ (by decide)) ?_; (case hw_ => simp [Region.wanted, yielded]; done); (try simp only [Act.put, List.setIfInBounds_toArray, List.set_cons_zero, List.set_cons_succ]))
  | (refine wpAnyT_free (i := 27) rfl (by kernel_rfl) (by simp [Region.wanted, yielded]) (fun _ _ _ h => h) (by kernel_rfl) (fun _ => by go_simp; try rfl) ?_; (try simp only [Act.put, List.setIfInBounds_toArray, List.set_cons_zero, List.set_cons_succ]))
  (refine wpAnyT_free (i := 28) rfl (by kernel_rfl) rfl (fun _ _ _ h => h) (by kernel_rfl) (fun _ => by go_simp; try rfl) ?_; (try simp only [Act.put, List.setIfInBounds_toArray, List.set_cons_zero, List.set_cons_succ]))
  (refine wpAnyT_free (i := 29) rfl (by kernel_rfl) rfl (fun _ _ _ h => h) (by kernel_rfl) (fun _ => by go_simp; try rfl) ?_; (try simp only [Act.put, List.setIfInBounds_toArray, List.set_cons_zero, List.set_cons_succ]))
  first
  | (refine wpAnyT_skip (i := 30) rfl (by kernel_rfl) ?hw_ (fun _ _ _ h => h) (fun h_ => absurd h_ (by decide)) ?_; (case hw_ => simp [Region.wanted, yielded]; done); (try simp only [Act.put, List.setIfInBounds_toArray, List.set_cons_zero, List.set_cons_succ]))
  | (refine wpAnyT_sink (i := 30) rfl (by kernel_rfl) (by simp [Region.wanted, yielded]) (by kernel_rfl) ?_
     intro K_ hK_
     go_wp2_with ((go_at_call 25; refine hw.mono ?_; rintro e wB ⟨rfl, hbB⟩))
     (try (refine hK_ _ _ ?_; clear hK_ K_))
     (try simp only [Act.put, List.setIfInBounds_toArray, List.set_cons_zero, List.set_cons_succ]))
  (refine wpAnyT_free (i := 31) rfl (by kernel_rfl) rfl (fun _ _ _ h => h) (by kernel_rfl) (fun _ => by go_simp; try rfl) ?_; (try simp only [Act.put, List.setIfInBounds_toArray, List.set_cons_zero, List.set_cons_succ]))
  (refine wpAnyT_free (i := 32) rfl (by kernel_rfl) rfl (fun _ _ _ h => h) (by kernel_rfl) (fun _ => by go_simp; try rfl) ?_; (try simp only [Act.put, List.setIfInBounds_toArray, List.set_cons_zero, List.set_cons_succ]))
  refine wpAnyT_done (by kernel_rfl) ?_ _
  go_wp2
  go_ret
  exact ⟨rfl, hB4.drew.trans (hbB.mono hB4.drew.size)⟩
end Go.Proofs.YtediidajdpdeiaaDoor
