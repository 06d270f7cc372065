/- DiskWhole: the walk. -/
import Derived.Test.YtediidajdpdeiaaPlays06
namespace Go.Proofs.Ytediidajdpdeiaa
open Go.RowKit

theorem up_plays (acts : List Act06) : (plays06 acts).down = false := by
  unfold plays06
  simp only
  split
  · unfold Dk.restart; rw [if_pos (by assumption)]
  · rename_i h; simpa using h
theorem ok_plays (acts : List Act06) : (plays06 acts).ok := by
  have h : ∀ (l : List Act06) (D : Dk), D.ok → (l.foldl Dk.act D).ok := by
    intro l
    induction l with
    | nil => exact fun _ h => h
    | cons a l ih =>
      intro D hD
      rw [List.foldl_cons]
      refine ih _ ?_
      unfold Dk.act
      repeat' split
      · exact Dk.ok_append hD _
      · exact Dk.ok_sync hD
      · exact Dk.ok_cut hD _
      · exact Dk.ok_swap hD _
      · exact Dk.ok_crash hD _ _
      · exact Dk.ok_restart hD
      · exact hD
  unfold plays06
  simp only
  split
  · exact Dk.ok_restart (h _ _ Dk.ok_new)
  · exact h _ _ Dk.ok_new

theorem rem_any (n : Int) (m : Int) (hm : 0 < m) : -m < n.tmod m ∧ n.tmod m < m := by
  have h1 := Int.tmod_lt_of_pos n hm
  have h2 := Int.tmod_lt_of_pos (-n) hm
  rw [Int.neg_tmod] at h2
  exact ⟨by omega, h1⟩

theorem run_rem {P : Program} (t : TypeId) (n m r : Int) (hm : 0 < m) (hm2 : m ≤ 9223372036854775807) (hr : r = n.tmod m) (w : World) :
    (binOp .rem t (.int .i64 n) (.int .i64 m)).run P w = .ok (.int .i64 r) w := by
  subst hr
  simp only [binOp, Op.intDiv]
  rw [if_neg (by simp), if_neg (by omega)]
  rfl

set_option maxHeartbeats 1000000 in
set_option maxRecDepth 100000 in
theorem whole_06 (W : World) (A : Option Addr) (acts : List Act06) (c : Nat) (hA : ActsAt W A acts) (hlen : acts.length ≤ maxLen)
    (B : Option Addr) (bb : List UInt8) (cb : Nat) (hB : RdB W B bb) (hcb : bb.length ≤ cb) (hcm : cb ≤ maxLen) (n : Int) (hn : i64 n) :
    Calls Try.prog 3 #[.slice A acts.length c, .slice B bb.length cb, .int .i64 n] W fun e w' => e = .returned (.bool true) ∧ Below W.heap.size W w' := by
  obtain ⟨l, hl⟩ : ∃ l, l = bb.take 500 := ⟨_, rfl⟩
  have l1 : l.length ≤ bb.length := by rw [hl, List.length_take]; omega
  have l2 : l.length ≤ 500 := by rw [hl, List.length_take]; omega
  have l3 : (l.length : Int) ≤ (cb : Int) := by omega
  have hr : RdB W B l := hl ▸ hB.take 500
  have hmin : ∀ w, (Builtin.min_ #[3, 3] 3 #[.int .i64 (bb.length : Int), .int .i64 500]).run Try.prog w = .ok (.int .i64 (l.length : Int)) w := by
    intro w
    rw [run_min_int2]
    have : (l.length : Int) = if (500 : Int) < (bb.length : Int) then 500 else (bb.length : Int) := by rw [hl, List.length_take]; split <;> omega
    rw [this]
  have kc := fun (w : World) (C : Array Value) (n c : Nat) => Lib.run_convert_bytes_const (P := Try.prog) w 23 TB C n c Try.underlying23 Try.underlying5
  have hup := up_plays acts
  have hcall := plays_06 W A acts c hA hlen
  generalize plays06 acts = D at *
  obtain ⟨dn, al, kp⟩ := D
  simp only at hup
  subst hup
  obtain ⟨D2, hD2⟩ : ∃ D2 r2, Dk.append ⟨false, al, kp⟩ [115, 111, 109, 101] = (D2, r2) := ⟨_, _, rfl⟩
  obtain ⟨r2, hD2⟩ := hD2
  have hd2 : D2.down = false := by
    unfold Dk.append at hD2
    simp only [Bool.false_eq_true, if_false] at hD2
    split at hD2 <;> (injection hD2 with h1 _; rw [← h1])
  obtain ⟨dn2, al2, kp2⟩ := D2
  simp only at hd2
  subst hd2
  have e3 : Dk.swap ⟨false, al2, kp2⟩ l = (⟨false, l, l.length⟩, 0) := by
    unfold Dk.swap; rw [if_neg (by simp), if_neg (by omega)]
  have e4 : Dk.crash ⟨false, l, l.length⟩ 0 n = (⟨true, l, l.length⟩, 0) := by
    unfold Dk.crash; rw [if_neg (by simp), if_neg (by omega)]; simp [torn, turn]
  have e5 : Dk.append ⟨true, l, l.length⟩ l = (⟨true, l, l.length⟩, 10) := by simp [Dk.append]
  have e6 : Dk.restart ⟨true, l, l.length⟩ = (⟨false, l, l.length⟩, 0) := by simp [Dk.restart]
  have e7 : Dk.read ⟨false, l, l.length⟩ = (l, 0) := by simp [Dk.read]
  have e8 : Dk.append ⟨false, l, l.length⟩ [109, 111, 114, 101] = (⟨false, l ++ [109, 111, 114, 101], l.length⟩, 0) := by
    unfold Dk.append; rw [if_neg (by simp), if_neg (by simp; omega)]
  obtain ⟨t, ht⟩ : ∃ t, t = n.tmod ((l.length : Int) + 1) := ⟨_, rfl⟩
  have bt := rem_any n ((l.length : Int) + 1) (by omega)
  rw [← ht] at bt
  obtain ⟨u, hu⟩ : ∃ u, u = (t + (l.length : Int) + 1).tmod ((l.length : Int) + 1) := ⟨_, rfl⟩
  have bu := rem_any (t + (l.length : Int) + 1) ((l.length : Int) + 1) (by omega)
  have bu0 : 0 ≤ u := by rw [hu]; exact Int.tmod_nonneg _ (by omega)
  rw [← hu] at bu
  obtain ⟨m, rfl⟩ : ∃ m : Nat, u = m := ⟨u.toNat, by omega⟩
  have e9 : Dk.cut ⟨false, l ++ [109, 111, 114, 101], l.length⟩ m = (⟨false, l.take m, m⟩, 0) := by
    unfold Dk.cut; rw [if_neg (by simp), if_neg (by simp; omega), Int.toNat_natCast, List.take_append_of_le_length (by omega)]
  have em : (l.take m).length = m := by rw [List.length_take]; omega
  have e10 : Dk.crash ⟨false, l.take m, m⟩ 9 0 = (⟨true, l.take m, m⟩, 0) := by
    unfold Dk.crash; rw [if_neg (by simp), if_neg (by omega)]; simp [torn, turn, em, List.take_take]
  have e11 : Dk.restart ⟨true, l.take m, m⟩ = (⟨false, l.take m, m⟩, 0) := by simp [Dk.restart]; omega
  have e12 : Dk.read ⟨false, l.take m, m⟩ = (l.take m, 0) := by simp [Dk.read]
  have H3 := Lib.hid e3
  have H4 := Lib.hid e4
  have H5 := Lib.hid e5
  have H6 := Lib.hid e6
  have H7 := Lib.hid e7
  have H8 := Lib.hid e8
  have H9 := Lib.hid e9
  have H10 := Lib.hid e10
  have H11 := Lib.hid e11
  have H12 := Lib.hid e12
  have H2 := Lib.hid hD2
  have hC : (wrap64 (wrap64 (n.tmod ((l.length : Int) + 1) + (l.length : Int)) + 1)).tmod ((l.length : Int) + 1) = (m : Int) := by
    have w1 : wrap64 (t + (l.length : Int)) = t + (l.length : Int) := by unfold wrap64; omega
    have w2 : wrap64 (t + (l.length : Int) + 1) = t + (l.length : Int) + 1 := by unfold wrap64; omega
    rw [← ht, w1, w2, hu]
  have HC := Lib.hid hC
  have u1 : (m : Int) ≤ (cb : Int) := by omega
  have HM := Lib.hid em
  clear hl hB hA e3 e4 e5 e6 e7 e8 e9 e10 e11 e12 hD2 hu ht em hC bt bu bu0
  unfold i64 at hn
  go_enter Try.func3, Try.ntmps3
  go_wp2_with (first
    | (go_at_call 8; refine hcall.mono ?_; rintro e w1 ⟨b, rfl, h1⟩; clear hcall)
    | (go_at_call 9; refine (append_L' (h1.mono ((Below.refl _ _).alloc (Nat.le_refl _) _)) _ [115, 111, 109, 101] 4 _ r2 H2.out (by decide) (Arg.lit _ (heap_alloc_new _ _) (by rfl))).mono ?_; rintro e w2 ⟨rfl, h2⟩; clear h1)
    | (go_at_call 10; refine (swap_L' h2 B l cb _ 0 H3.out (by omega) (hr.arg h2.below)).mono ?_; rintro e w3 ⟨rfl, h3⟩; clear h2)
    | (go_at_call 11; refine (crash_L' h3 0 n _ 0 H4.out (by decide) hn.2 (by decide) hn.1).mono ?_; rintro e w4 ⟨rfl, h4⟩; clear h3)
    | (go_at_call 9; refine (append_L' h4 B l cb _ 10 H5.out (by omega) (hr.arg h4.below)).mono ?_; rintro e w5 ⟨rfl, h5⟩; clear h4)
    | (go_at_call 12; refine (restart_L' h5 _ 0 H6.out).mono ?_; rintro e w6 ⟨rfl, h6⟩; clear h5)
    | (go_at_call 13; refine (read_L' h6 l 0 H7.out).mono ?_; rintro e w7 ⟨A', c', rfl, ha, hc, hm, h7⟩; clear hc hm h6; have ks := run_str (ha Non (fun _ h => h.elim)) c'; have ks2 := run_str (hr.arg h7.below Non (fun _ h => h.elim)) cb; clear ha)
    | (go_at_call 9; refine (append_L' (h7.mono ((Below.refl _ _).alloc (Nat.le_refl _) _)) _ [109, 111, 114, 101] 4 _ 0 H8.out (by decide) (Arg.lit _ (heap_alloc_new _ _) (by rfl))).mono ?_; rintro e w8 ⟨rfl, h8⟩; clear h7)
    | (go_at_call 14; rw [HC.out]; refine (cut_L' h8 m _ 0 H9.out).mono ?_; rintro e w9 ⟨rfl, h9⟩; clear h8)
    | (go_at_call 11; refine (crash_L' h9 9 0 _ 0 H10.out (by decide) (by decide) (by decide) (by decide)).mono ?_; rintro e w10 ⟨rfl, h10⟩; clear h9)
    | (go_at_call 12; refine (restart_L' h10 _ 0 H11.out).mono ?_; rintro e w11 ⟨rfl, h11⟩; clear h10)
    | (go_at_call 13; refine (read_L' h11 (l.take m) 0 H12.out).mono ?_; rintro e w12 ⟨A2, c2, rfl, ha, hc, hm, h12⟩; rw [HM.out]; clear hc hm h11))
  have s1 : (convert 23 9 (.slice A2 m c2)).run Try.prog w12.drew = .ok (.string ⟨(l.take m).toArray⟩) w12.drew := by
    have h := run_str (ha Non (fun _ h => h.elim)).drew c2
    rw [HM.out] at h
    exact h
  have s2 : (convert 23 9 (.slice B m cb)).run Try.prog w12.drew = .ok (.string ⟨(l.take m).toArray⟩) w12.drew := by
    have h := run_str ((hr.arg h12.below Non (fun _ h => h.elim)).take m).drew cb
    rw [HM.out] at h
    exact h
  clear ks ks2
  refine wp_region_T #[[], [], [], [], [], [], [1, 5], [1, 5], [1, 5], [1, 5], [1, 5]] [1, 5] (fun w' => (convert 23 9 (.slice A2 m c2)).run Try.prog w' = .ok (.string ⟨(l.take m).toArray⟩) w' ∧ (convert 23 9 (.slice B m cb)).run Try.prog w' = .ok (.string ⟨(l.take m).toArray⟩) w') 11 rfl (by kernel_rfl) ?_
  (refine wpAnyT_free (i := 0) rfl (by kernel_rfl) rfl (fun _ _ _ h => h) (by kernel_rfl) (fun _ => by go_simp; try rfl) ?_; (try simp only [Act.put, List.setIfInBounds_toArray, List.set_cons_zero, List.set_cons_succ]))
  (refine wpAnyT_read (i := 1) rfl (by kernel_rfl) rfl (fun _ _ _ h => h) (by kernel_rfl) (⟨s1, s2⟩) (fun w hS_ => by obtain ⟨s_1, s_2⟩ := hS_; go_simp; try rfl) ?_; (try simp only [Act.put, List.setIfInBounds_toArray, List.set_cons_zero, List.set_cons_succ]))
  (refine wpAnyT_free (i := 2) rfl (by kernel_rfl) rfl (fun _ _ _ h => h) (by kernel_rfl) (fun _ => by go_simp; try rfl) ?_; (try simp only [Act.put, List.setIfInBounds_toArray, List.set_cons_zero, List.set_cons_succ]))
  (refine wpAnyT_free (i := 3) rfl (by kernel_rfl) rfl (fun _ _ _ h => h) (by kernel_rfl) (fun _ => by go_simp; try rfl) ?_; (try simp only [Act.put, List.setIfInBounds_toArray, List.set_cons_zero, List.set_cons_succ]))
  (refine wpAnyT_free (i := 4) rfl (by kernel_rfl) rfl (fun _ _ _ h => h) (by kernel_rfl) (fun _ => by go_simp; try rfl) ?_; (try simp only [Act.put, List.setIfInBounds_toArray, List.set_cons_zero, List.set_cons_succ]))
  (refine wpAnyT_read (i := 5) rfl (by kernel_rfl) rfl (fun _ _ _ h => h) (by kernel_rfl) (⟨s1, s2⟩) (fun w hS_ => by obtain ⟨s_1, s_2⟩ := hS_; go_simp; try rfl) ?_; (try simp only [Act.put, List.setIfInBounds_toArray, List.set_cons_zero, List.set_cons_succ]))
  (refine wpAnyT_free (i := 6) rfl (by kernel_rfl) rfl (fun _ _ _ h => h) (by kernel_rfl) (fun _ => by go_simp; try rfl) ?_; (try simp only [Act.put, List.setIfInBounds_toArray, List.set_cons_zero, List.set_cons_succ]))
  (refine wpAnyT_free (i := 7) rfl (by kernel_rfl) rfl (fun _ _ _ h => h) (by kernel_rfl) (fun _ => by go_simp; try rfl) ?_; (try simp only [Act.put, List.setIfInBounds_toArray, List.set_cons_zero, List.set_cons_succ]))
  first
  | (refine wpAnyT_skip (i := 8) rfl (by kernel_rfl) ?hw_ (fun _ _ _ h => h) (fun h_ => absurd h_ (by decide)) ?_; (case hw_ => simp [Region.wanted, yielded]; done); (try simp only [Act.put, List.setIfInBounds_toArray, List.set_cons_zero, List.set_cons_succ]))
  | (refine wpAnyT_sink (i := 8) rfl (by kernel_rfl) (by simp [Region.wanted, yielded]) (by kernel_rfl) ?_
     intro K_ hK_
     go_wp2_with ((go_at_call 15; refine (works_06 W _ h12.below.drew).mono ?_; rintro e w13 ⟨rfl, h13⟩))
     (try (refine hK_ _ _ ?_; clear hK_ K_))
     (try simp only [Act.put, List.setIfInBounds_toArray, List.set_cons_zero, List.set_cons_succ]))
  (refine wpAnyT_free (i := 9) rfl (by kernel_rfl) rfl (fun _ _ _ h => h) (by kernel_rfl) (fun _ => by go_simp; try rfl) ?_; (try simp only [Act.put, List.setIfInBounds_toArray, List.set_cons_zero, List.set_cons_succ]))
  (refine wpAnyT_free (i := 10) rfl (by kernel_rfl) rfl (fun _ _ _ h => h) (by kernel_rfl) (fun _ => by go_simp; try rfl) ?_; (try simp only [Act.put, List.setIfInBounds_toArray, List.set_cons_zero, List.set_cons_succ]))
  refine wpAnyT_done (by kernel_rfl) ?_ _
  go_wp2
  go_ret
  exact ⟨rfl, h13⟩
end Go.Proofs.Ytediidajdpdeiaa
