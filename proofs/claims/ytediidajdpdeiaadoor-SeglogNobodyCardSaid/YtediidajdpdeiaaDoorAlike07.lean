/- The laws' own helper 'alike' (layer 7): are two lists of records the same? -/
import Derived.Test.YtediidajdpdeiaaDoorLaw07
namespace Go.Proofs.YtediidajdpdeiaaDoor
open Go.RowKit CrcM
set_option maxRecDepth 100000

theorem take_eq_step {α : Type} {xs ys : List α} {k : Nat} {x : α} (h : xs.take k = ys.take k) (ha : xs[k]? = some x) (hb : ys[k]? = some x) : xs.take (k + 1) = ys.take (k + 1) := by
  rw [List.take_add_one, List.take_add_one, h, ha, hb]

theorem alike_B {Sa Sb : Nat → Prop} (w : World) (A : Option Addr) (xs : List (List UInt8)) (ca : Nat) (va : List Value) (B : Option Addr) (ys : List (List UInt8)) (cb : Nat) (vb : List Value)
    (ha : Row Sa w TBs (.slice A xs.length ca) va) (ra : Recs w va xs) (hb : Row Sb w TBs (.slice B ys.length cb) vb) (rb : Recs w vb ys) :
    Calls Tryd.prog 45 #[.slice A xs.length ca, .slice B ys.length cb] w fun e w' => e = .returned (.bool (decide (xs = ys))) ∧ Below w.heap.size w w' := by
  have hla : xs.length ≤ 9223372036854775807 := by
    obtain ⟨A', c', h1, h2, h3⟩ := ha.val
    injection h1 with _ h4 _
    unfold maxLen at h3
    omega
  by_cases hl : xs.length = ys.length
  · have HL := Lib.hid hl
    have hl' : ((xs.length : Int) == (ys.length : Int)) = true := by rw [beq_iff_eq]; omega
    have hl2 : ¬ ¬ (xs.length : Int) = (ys.length : Int) := by omega
    go_enter Tryd.func45, Tryd.ntmps45
    go_wp2
    go_loopw [13] (fun i wr => ∃ k : Nat, k ≤ xs.length ∧ i = .int .i64 (k : Int) ∧ xs.take k = ys.take k ∧ Below w.heap.size w wr) (fun i _ => xs.length - (intOf i).toNat)
    case atStart => exact ⟨0, Nat.zero_le _, rfl, rfl, Below.refl _ _⟩
    case round =>
      obtain ⟨k, hk, rfl, heq, hb9⟩ := hrel
      have HK := Lib.hid heq
      clear heq
      by_cases hlt : k < xs.length
      · obtain ⟨x, hx⟩ : ∃ x, xs[k]? = some x := ⟨_, List.getElem?_eq_getElem hlt⟩
        obtain ⟨y, hy⟩ : ∃ y, ys[k]? = some y := ⟨_, List.getElem?_eq_getElem (by have := HL.out; omega)⟩
        obtain ⟨A1, c1, hv1, -, -, ho1⟩ := ra.2 k x hx
        obtain ⟨B1, d1, hv2, -, -, ho2⟩ := rb.2 k y hy
        obtain ⟨g1, o1, e1, hA, -, -, hc1, -⟩ := ha.cell hv1
        obtain ⟨g2, o2, e2, hB, -, -, hc2, -⟩ := hb.cell hv2
        injection hA with hA q1 q2
        injection hB with hB q3 q4
        subst hA
        subst hB
        clear q1 q2 q3 q4
        have m1 := (hb9.cell (p := ⟨g1, o1 + k, none⟩) (cell_lt hc1)).trans hc1
        have m2 := (hb9.cell (p := ⟨g2, o2 + k, none⟩) (cell_lt hc2)).trans hc2
        have s1 : (convert 22 9 (.slice A1 x.length c1)).run Tryd.prog wr.drew = .ok (.string ⟨x.toArray⟩) wr.drew := run_str (((ho1.fr (S' := Non) (Fr.of_below hb9)).rd Non).drew) c1
        have s2 : (convert 22 9 (.slice B1 y.length d1)).run Tryd.prog wr.drew = .ok (.string ⟨y.toArray⟩) wr.drew := run_str (((ho2.fr (S' := Non) (Fr.of_below hb9)).rd Non).drew) d1
        have hlt' : (k : Int) < (xs.length : Int) := by omega
        have hlt2 : (k : Int) < (ys.length : Int) := by omega
        have HX := Lib.hid hx
        have HY := Lib.hid hy
        clear hx hy hv1 hv2 hc1 hc2 ho1 ho2
        by_cases hxy : x = y
        · subst hxy
          go_wp2
          refine wp_region_T #[[], [], [], [], [3], [], [], [], [], [8], [3, 4, 8, 9]] [3, 4, 8, 9] (fun w' => w'.cell? ⟨g1, o1 + k, none⟩ = some (.slice A1 x.length c1) ∧ w'.cell? ⟨g2, o2 + k, none⟩ = some (.slice B1 x.length d1) ∧ (convert 22 9 (.slice A1 x.length c1)).run Tryd.prog w' = .ok (.string ⟨x.toArray⟩) w' ∧ (convert 22 9 (.slice B1 x.length d1)).run Tryd.prog w' = .ok (.string ⟨x.toArray⟩) w') 11 rfl (by kernel_rfl) ?_
          (refine wpAnyT_free (i := 0) rfl (by kernel_rfl) rfl (fun _ _ _ h => h) (by kernel_rfl) (fun _ => by go_simp; try rfl) ?_; (try simp only [Act.put, List.setIfInBounds_toArray, List.set_cons_zero, List.set_cons_succ]))
          (refine wpAnyT_free (i := 1) rfl (by kernel_rfl) rfl (fun _ _ _ h => h) (by kernel_rfl) (fun _ => by go_simp; try rfl) ?_; (try simp only [Act.put, List.setIfInBounds_toArray, List.set_cons_zero, List.set_cons_succ]))
          (refine wpAnyT_free (i := 2) rfl (by kernel_rfl) rfl (fun _ _ _ h => h) (by kernel_rfl) (fun _ => by go_simp; try rfl) ?_; (try simp only [Act.put, List.setIfInBounds_toArray, List.set_cons_zero, List.set_cons_succ]))
          (refine wpAnyT_read (i := 3) rfl (by kernel_rfl) rfl (fun _ _ _ h => h) (by kernel_rfl) (⟨m1, m2, s1, s2⟩) (fun w hS_ => by obtain ⟨s_1, s_2, s_3, s_4⟩ := hS_; go_simp; try rfl) ?_; (try simp only [Act.put, List.setIfInBounds_toArray, List.set_cons_zero, List.set_cons_succ]))
          (refine wpAnyT_read (i := 4) rfl (by kernel_rfl) rfl (fun _ _ _ h => h) (by kernel_rfl) (⟨m1, m2, s1, s2⟩) (fun w hS_ => by obtain ⟨s_1, s_2, s_3, s_4⟩ := hS_; go_simp; try rfl) ?_; (try simp only [Act.put, List.setIfInBounds_toArray, List.set_cons_zero, List.set_cons_succ]))
          (refine wpAnyT_free (i := 5) rfl (by kernel_rfl) rfl (fun _ _ _ h => h) (by kernel_rfl) (fun _ => by go_simp; try rfl) ?_; (try simp only [Act.put, List.setIfInBounds_toArray, List.set_cons_zero, List.set_cons_succ]))
          (refine wpAnyT_free (i := 6) rfl (by kernel_rfl) rfl (fun _ _ _ h => h) (by kernel_rfl) (fun _ => by go_simp; try rfl) ?_; (try simp only [Act.put, List.setIfInBounds_toArray, List.set_cons_zero, List.set_cons_succ]))
          (refine wpAnyT_free (i := 7) rfl (by kernel_rfl) rfl (fun _ _ _ h => h) (by kernel_rfl) (fun _ => by go_simp; try rfl) ?_; (try simp only [Act.put, List.setIfInBounds_toArray, List.set_cons_zero, List.set_cons_succ]))
          (refine wpAnyT_read (i := 8) rfl (by kernel_rfl) rfl (fun _ _ _ h => h) (by kernel_rfl) (⟨m1, m2, s1, s2⟩) (fun w hS_ => by obtain ⟨s_1, s_2, s_3, s_4⟩ := hS_; go_simp; try rfl) ?_; (try simp only [Act.put, List.setIfInBounds_toArray, List.set_cons_zero, List.set_cons_succ]))
          (refine wpAnyT_read (i := 9) rfl (by kernel_rfl) rfl (fun _ _ _ h => h) (by kernel_rfl) (⟨m1, m2, s1, s2⟩) (fun w hS_ => by obtain ⟨s_1, s_2, s_3, s_4⟩ := hS_; go_simp; try rfl) ?_; (try simp only [Act.put, List.setIfInBounds_toArray, List.set_cons_zero, List.set_cons_succ]))
          (refine wpAnyT_free (i := 10) rfl (by kernel_rfl) rfl (fun _ _ _ h => h) (by kernel_rfl) (fun _ => by go_simp; try rfl) ?_; (try simp only [Act.put, List.setIfInBounds_toArray, List.set_cons_zero, List.set_cons_succ]))
          refine wpAnyT_done (by kernel_rfl) ?_ _
          go_wp2
          go_roundw
          case rel => exact ⟨k + 1, by omega, by go_num, take_eq_step HK.out HX.out HY.out, hb9.drew⟩
          case measure => simp [intOf]; omega
        · have hne : decide (xs = ys) = false := by
            rw [decide_eq_false_iff_not]
            rintro rfl
            rw [HX.out] at HY
            have := HY.out
            injection this with this
            exact hxy this
          have HE := Lib.hid hne
          have hxy2 : (x == y) = false := beq_eq_false_iff_ne.2 hxy
          clear hne
          go_wp2
          refine wp_region_T #[[], [], [], [], [3], [], [], [], [], [8], [3, 4, 8, 9]] [3, 4, 8, 9] (fun w' => w'.cell? ⟨g1, o1 + k, none⟩ = some (.slice A1 x.length c1) ∧ w'.cell? ⟨g2, o2 + k, none⟩ = some (.slice B1 y.length d1) ∧ (convert 22 9 (.slice A1 x.length c1)).run Tryd.prog w' = .ok (.string ⟨x.toArray⟩) w' ∧ (convert 22 9 (.slice B1 y.length d1)).run Tryd.prog w' = .ok (.string ⟨y.toArray⟩) w') 11 rfl (by kernel_rfl) ?_
          (refine wpAnyT_free (i := 0) rfl (by kernel_rfl) rfl (fun _ _ _ h => h) (by kernel_rfl) (fun _ => by go_simp; try rfl) ?_; (try simp only [Act.put, List.setIfInBounds_toArray, List.set_cons_zero, List.set_cons_succ]))
          (refine wpAnyT_free (i := 1) rfl (by kernel_rfl) rfl (fun _ _ _ h => h) (by kernel_rfl) (fun _ => by go_simp; try rfl) ?_; (try simp only [Act.put, List.setIfInBounds_toArray, List.set_cons_zero, List.set_cons_succ]))
          (refine wpAnyT_free (i := 2) rfl (by kernel_rfl) rfl (fun _ _ _ h => h) (by kernel_rfl) (fun _ => by go_simp; try rfl) ?_; (try simp only [Act.put, List.setIfInBounds_toArray, List.set_cons_zero, List.set_cons_succ]))
          (refine wpAnyT_read (i := 3) rfl (by kernel_rfl) rfl (fun _ _ _ h => h) (by kernel_rfl) (⟨m1, m2, s1, s2⟩) (fun w hS_ => by obtain ⟨s_1, s_2, s_3, s_4⟩ := hS_; go_simp; try rfl) ?_; (try simp only [Act.put, List.setIfInBounds_toArray, List.set_cons_zero, List.set_cons_succ]))
          (refine wpAnyT_read (i := 4) rfl (by kernel_rfl) rfl (fun _ _ _ h => h) (by kernel_rfl) (⟨m1, m2, s1, s2⟩) (fun w hS_ => by obtain ⟨s_1, s_2, s_3, s_4⟩ := hS_; go_simp; try rfl) ?_; (try simp only [Act.put, List.setIfInBounds_toArray, List.set_cons_zero, List.set_cons_succ]))
          (refine wpAnyT_free (i := 5) rfl (by kernel_rfl) rfl (fun _ _ _ h => h) (by kernel_rfl) (fun _ => by go_simp; try rfl) ?_; (try simp only [Act.put, List.setIfInBounds_toArray, List.set_cons_zero, List.set_cons_succ]))
          (refine wpAnyT_free (i := 6) rfl (by kernel_rfl) rfl (fun _ _ _ h => h) (by kernel_rfl) (fun _ => by go_simp; try rfl) ?_; (try simp only [Act.put, List.setIfInBounds_toArray, List.set_cons_zero, List.set_cons_succ]))
          (refine wpAnyT_free (i := 7) rfl (by kernel_rfl) rfl (fun _ _ _ h => h) (by kernel_rfl) (fun _ => by go_simp; try rfl) ?_; (try simp only [Act.put, List.setIfInBounds_toArray, List.set_cons_zero, List.set_cons_succ]))
          (refine wpAnyT_read (i := 8) rfl (by kernel_rfl) rfl (fun _ _ _ h => h) (by kernel_rfl) (⟨m1, m2, s1, s2⟩) (fun w hS_ => by obtain ⟨s_1, s_2, s_3, s_4⟩ := hS_; go_simp; try rfl) ?_; (try simp only [Act.put, List.setIfInBounds_toArray, List.set_cons_zero, List.set_cons_succ]))
          (refine wpAnyT_read (i := 9) rfl (by kernel_rfl) rfl (fun _ _ _ h => h) (by kernel_rfl) (⟨m1, m2, s1, s2⟩) (fun w hS_ => by obtain ⟨s_1, s_2, s_3, s_4⟩ := hS_; go_simp; try rfl) ?_; (try simp only [Act.put, List.setIfInBounds_toArray, List.set_cons_zero, List.set_cons_succ]))
          (refine wpAnyT_free (i := 10) rfl (by kernel_rfl) rfl (fun _ _ _ h => h) (by kernel_rfl) (fun _ => by go_simp; try rfl) ?_; (try simp only [Act.put, List.setIfInBounds_toArray, List.set_cons_zero, List.set_cons_succ]))
          refine wpAnyT_done (by kernel_rfl) ?_ _
          go_wp2
          go_ret
          exact ⟨by rw [HE.out]; rfl, hb9.drew⟩
      · obtain rfl : k = xs.length := by omega
        have he : decide (xs = ys) = true := by
          rw [decide_eq_true_iff]
          have := HK.out
          rw [List.take_length, List.take_of_length_le (by rw [HL.out]; omega)] at this
          exact this
        have HE := Lib.hid he
        clear he
        go_wp2
        go_ret
        exact ⟨by rw [HE.out]; rfl, hb9⟩
  · have hne : decide (xs = ys) = false := by
      rw [decide_eq_false_iff_not]
      rintro rfl
      exact hl rfl
    have HE := Lib.hid hne
    have hl' : ((xs.length : Int) == (ys.length : Int)) = false := by rw [beq_eq_false_iff_ne]; omega
    have hl2 : ¬ (xs.length : Int) = (ys.length : Int) := by omega
    clear hne
    go_enter Tryd.func45, Tryd.ntmps45
    go_wp2
    go_ret
    exact ⟨by rw [HE.out]; rfl, Below.refl _ _⟩
end Go.Proofs.YtediidajdpdeiaaDoor
