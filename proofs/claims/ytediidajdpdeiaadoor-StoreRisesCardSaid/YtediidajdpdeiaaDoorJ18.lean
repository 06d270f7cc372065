/- The laws' own helper 'alike' (layer 7): are two lists of records the same? -/
import Derived.Test.YtediidajdpdeiaaDoorJ12
import Derived.Test.YtediidajdpdeiaaDoorRows
import Derived.Test.YtediidajdpdeiaaDoorTie
import Derived.Test.YtediidajdpdeiaaDoorJ11
import Derived.Test.YtediidajdpdeiaaDoorJ1
import Derived.JoinedCond
import Derived.Lib.SmallJoins
import Derived.Lib.LaidTab
import Derived.Lay
import Derived.LaidOnce
import Derived.SevenTiedAt
import Derived.Test.YtediidajdpdeiaaDoorJ17
import Derived.Lib.ConvBytes
import Derived.Test.YtediidajdpdeiaaDoorJ16

namespace Go.Proofs.YtediidajdpdeiaaDoor
open Go.RowKit CrcM
set_option maxRecDepth 100000

theorem take_eq_step {α : Type} {xs ys : List α} {k : Nat} {x : α} (h : xs.take k = ys.take k) (ha : xs[k]? = some x) (hb : ys[k]? = some x) : xs.take (k + 1) = ys.take (k + 1) := by
  rw [List.take_add_one, List.take_add_one, h, ha, hb]

theorem alike_B {Sa Sb : Nat → Prop} (w : World) (A : Option Addr) (xs : List (List UInt8)) (ca : Nat) (va : List Value) (B : Option Addr) (ys : List (List UInt8)) (cb : Nat) (vb : List Value)
    (ha : Row Sa w TBs (.slice A xs.length ca) va) (ra : Recs w va xs) (hb : Row Sb w TBs (.slice B ys.length cb) vb) (rb : Recs w vb ys) :
    Calls Tryd.prog 45 #[.slice A xs.length ca, .slice B ys.length cb] w fun e w' => e = .returned (.bool (decide (xs = ys))) ∧ Below w.heap.size w w' := by
  have hla : xs.length ≤ 9223372036854775807 := by
    obtain ⟨A', c', h1, h2, h3⟩ := ha.val
    injection h1 with _ h4 _
    unfold maxLen at h3
    omega
  by_cases hl : xs.length = ys.length
  · have HL := Lib.hid hl
    have hl' : ((xs.length : Int) == (ys.length : Int)) = true := by rw [beq_iff_eq]; omega
    have hl2 : ¬ ¬ (xs.length : Int) = (ys.length : Int) := by omega
    go_enter Tryd.func45, Tryd.ntmps45
    go_wp2
    go_loopw [13] (fun i wr => ∃ k : Nat, k ≤ xs.length ∧ i = .int .i64 (k : Int) ∧ xs.take k = ys.take k ∧ Below w.heap.size w wr) (fun i _ => xs.length - (intOf i).toNat)
    case atStart => exact ⟨0, Nat.zero_le _, rfl, rfl, Below.refl _ _⟩
    case round =>
      obtain ⟨k, hk, rfl, heq, hb9⟩ := hrel
      have HK := Lib.hid heq
      clear heq
      by_cases hlt : k < xs.length
      · obtain ⟨x, hx⟩ : ∃ x, xs[k]? = some x := ⟨_, List.getElem?_eq_getElem hlt⟩
        obtain ⟨y, hy⟩ : ∃ y, ys[k]? = some y := ⟨_, List.getElem?_eq_getElem (by have := HL.out; omega)⟩
        obtain ⟨A1, c1, hv1, -, -, ho1⟩ := ra.2 k x hx
        obtain ⟨B1, d1, hv2, -, -, ho2⟩ := rb.2 k y hy
        obtain ⟨g1, o1, e1, hA, -, -, hc1, -⟩ := ha.cell hv1
        obtain ⟨g2, o2, e2, hB, -, -, hc2, -⟩ := hb.cell hv2
        injection hA with hA q1 q2
        injection hB with hB q3 q4
        subst hA
        subst hB
        clear q1 q2 q3 q4
        have m1 := (hb9.cell (p := ⟨g1, o1 + k, none⟩) (cell_lt hc1)).trans hc1
        have m2 := (hb9.cell (p := ⟨g2, o2 + k, none⟩) (cell_lt hc2)).trans hc2
        have s1 : (convert 22 9 (.slice A1 x.length c1)).run Tryd.prog wr.drew = .ok (.string ⟨x.toArray⟩) wr.drew := run_str (((ho1.fr (S' := Non) (Fr.of_below hb9)).rd Non).drew) c1
        have s2 : (convert 22 9 (.slice B1 y.length d1)).run Tryd.prog wr.drew = .ok (.string ⟨y.toArray⟩) wr.drew := run_str (((ho2.fr (S' := Non) (Fr.of_below hb9)).rd Non).drew) d1
        have hlt' : (k : Int) < (xs.length : Int) := by omega
        have hlt2 : (k : Int) < (ys.length : Int) := by omega
        have HX := Lib.hid hx
        have HY := Lib.hid hy
        clear hx hy hv1 hv2 hc1 hc2 ho1 ho2
        by_cases hxy : x = y
        · subst hxy
          go_wp2
          refine wp_region_T #[[], [], [], [], [3], [], [], [], [], [8], [3, 4, 8, 9]] [3, 4, 8, 9] (fun w' => w'.cell? ⟨g1, o1 + k, none⟩ = some (.slice A1 x.length c1) ∧ w'.cell? ⟨g2, o2 + k, none⟩ = some (.slice B1 x.length d1) ∧ (convert 22 9 (.slice A1 x.length c1)).run Tryd.prog w' = .ok (.string ⟨x.toArray⟩) w' ∧ (convert 22 9 (.slice B1 x.length d1)).run Tryd.prog w' = .ok (.string ⟨x.toArray⟩) w') 11 rfl (by kernel_rfl) ?_
          (refine wpAnyT_free (i := 0) rfl (by kernel_rfl) rfl (fun _ _ _ h => h) (by kernel_rfl) (fun _ => by go_simp; try rfl) ?_; (try simp only [Act.put, List.setIfInBounds_toArray, List.set_cons_zero, List.set_cons_succ]))
          (refine wpAnyT_free (i := 1) rfl (by kernel_rfl) rfl (fun _ _ _ h => h) (by kernel_rfl) (fun _ => by go_simp; try rfl) ?_; (try simp only [Act.put, List.setIfInBounds_toArray, List.set_cons_zero, List.set_cons_succ]))
          (refine wpAnyT_free (i := 2) rfl (by kernel_rfl) rfl (fun _ _ _ h => h) (by kernel_rfl) (fun _ => by go_simp; try rfl) ?_; (try simp only [Act.put, List.setIfInBounds_toArray, List.set_cons_zero, List.set_cons_succ]))
          (refine wpAnyT_read (i := 3) rfl (by kernel_rfl) rfl (fun _ _ _ h => h) (by kernel_rfl) (⟨m1, m2, s1, s2⟩) (fun w hS_ => by obtain ⟨s_1, s_2, s_3, s_4⟩ := hS_; go_simp; try rfl) ?_; (try simp only [Act.put, List.setIfInBounds_toArray, List.set_cons_zero, List.set_cons_succ]))
          (refine wpAnyT_read (i := 4) rfl (by kernel_rfl) rfl (fun _ _ _ h => h) (by kernel_rfl) (⟨m1, m2, s1, s2⟩) (fun w hS_ => by obtain ⟨s_1, s_2, s_3, s_4⟩ := hS_; go_simp; try rfl) ?_; (try simp only [Act.put, List.setIfInBounds_toArray, List.set_cons_zero, List.set_cons_succ]))
          (refine wpAnyT_free (i := 5) rfl (by kernel_rfl) rfl (fun _ _ _ h => h) (by kernel_rfl) (fun _ => by go_simp; try rfl) ?_; (try simp only [Act.put, List.setIfInBounds_toArray, List.set_cons_zero, List.set_cons_succ]))
          (refine wpAnyT_free (i := 6) rfl (by kernel_rfl) rfl (fun _ _ _ h => h) (by kernel_rfl) (fun _ => by go_simp; try rfl) ?_; (try simp only [Act.put, List.setIfInBounds_toArray, List.set_cons_zero, List.set_cons_succ]))
          (refine wpAnyT_free (i := 7) rfl (by kernel_rfl) rfl (fun _ _ _ h => h) (by kernel_rfl) (fun _ => by go_simp; try rfl) ?_; (try simp only [Act.put, List.setIfInBounds_toArray, List.set_cons_zero, List.set_cons_succ]))
          (refine wpAnyT_read (i := 8) rfl (by kernel_rfl) rfl (fun _ _ _ h => h) (by kernel_rfl) (⟨m1, m2, s1, s2⟩) (fun w hS_ => by obtain ⟨s_1, s_2, s_3, s_4⟩ := hS_; go_simp; try rfl) ?_; (try simp only [Act.put, List.setIfInBounds_toArray, List.set_cons_zero, List.set_cons_succ]))
          (refine wpAnyT_read (i := 9) rfl (by kernel_rfl) rfl (fun _ _ _ h => h) (by kernel_rfl) (⟨m1, m2, s1, s2⟩) (fun w hS_ => by obtain ⟨s_1, s_2, s_3, s_4⟩ := hS_; go_simp; try rfl) ?_; (try simp only [Act.put, List.setIfInBounds_toArray, List.set_cons_zero, List.set_cons_succ]))
          (refine wpAnyT_free (i := 10) rfl (by kernel_rfl) rfl (fun _ _ _ h => h) (by kernel_rfl) (fun _ => by go_simp; try rfl) ?_; (try simp only [Act.put, List.setIfInBounds_toArray, List.set_cons_zero, List.set_cons_succ]))
          refine wpAnyT_done (by kernel_rfl) ?_ _
          go_wp2
          go_roundw
          case rel => exact ⟨k + 1, by omega, by go_num, take_eq_step HK.out HX.out HY.out, hb9.drew⟩
          case measure => simp [intOf]; omega
        · have hne : decide (xs = ys) = false := by
            rw [decide_eq_false_iff_not]
            rintro rfl
            rw [HX.out] at HY
            have := HY.out
            injection this with this
            exact hxy this
          have HE := Lib.hid hne
          have hxy2 : (x == y) = false := beq_eq_false_iff_ne.2 hxy
          clear hne
          go_wp2
          refine wp_region_T #[[], [], [], [], [3], [], [], [], [], [8], [3, 4, 8, 9]] [3, 4, 8, 9] (fun w' => w'.cell? ⟨g1, o1 + k, none⟩ = some (.slice A1 x.length c1) ∧ w'.cell? ⟨g2, o2 + k, none⟩ = some (.slice B1 y.length d1) ∧ (convert 22 9 (.slice A1 x.length c1)).run Tryd.prog w' = .ok (.string ⟨x.toArray⟩) w' ∧ (convert 22 9 (.slice B1 y.length d1)).run Tryd.prog w' = .ok (.string ⟨y.toArray⟩) w') 11 rfl (by kernel_rfl) ?_
          (refine wpAnyT_free (i := 0) rfl (by kernel_rfl) rfl (fun _ _ _ h => h) (by kernel_rfl) (fun _ => by go_simp; try rfl) ?_; (try simp only [Act.put, List.setIfInBounds_toArray, List.set_cons_zero, List.set_cons_succ]))
          (refine wpAnyT_free (i := 1) rfl (by kernel_rfl) rfl (fun _ _ _ h => h) (by kernel_rfl) (fun _ => by go_simp; try rfl) ?_; (try simp only [Act.put, List.setIfInBounds_toArray, List.set_cons_zero, List.set_cons_succ]))
          (refine wpAnyT_free (i := 2) rfl (by kernel_rfl) rfl (fun _ _ _ h => h) (by kernel_rfl) (fun _ => by go_simp; try rfl) ?_; (try simp only [Act.put, List.setIfInBounds_toArray, List.set_cons_zero, List.set_cons_succ]))
          (refine wpAnyT_read (i := 3) rfl (by kernel_rfl) rfl (fun _ _ _ h => h) (by kernel_rfl) (⟨m1, m2, s1, s2⟩) (fun w hS_ => by obtain ⟨s_1, s_2, s_3, s_4⟩ := hS_; go_simp; try rfl) ?_; (try simp only [Act.put, List.setIfInBounds_toArray, List.set_cons_zero, List.set_cons_succ]))
          (refine wpAnyT_read (i := 4) rfl (by kernel_rfl) rfl (fun _ _ _ h => h) (by kernel_rfl) (⟨m1, m2, s1, s2⟩) (fun w hS_ => by obtain ⟨s_1, s_2, s_3, s_4⟩ := hS_; go_simp; try rfl) ?_; (try simp only [Act.put, List.setIfInBounds_toArray, List.set_cons_zero, List.set_cons_succ]))
          (refine wpAnyT_free (i := 5) rfl (by kernel_rfl) rfl (fun _ _ _ h => h) (by kernel_rfl) (fun _ => by go_simp; try rfl) ?_; (try simp only [Act.put, List.setIfInBounds_toArray, List.set_cons_zero, List.set_cons_succ]))
          (refine wpAnyT_free (i := 6) rfl (by kernel_rfl) rfl (fun _ _ _ h => h) (by kernel_rfl) (fun _ => by go_simp; try rfl) ?_; (try simp only [Act.put, List.setIfInBounds_toArray, List.set_cons_zero, List.set_cons_succ]))
          (refine wpAnyT_free (i := 7) rfl (by kernel_rfl) rfl (fun _ _ _ h => h) (by kernel_rfl) (fun _ => by go_simp; try rfl) ?_; (try simp only [Act.put, List.setIfInBounds_toArray, List.set_cons_zero, List.set_cons_succ]))
          (refine wpAnyT_read (i := 8) rfl (by kernel_rfl) rfl (fun _ _ _ h => h) (by kernel_rfl) (⟨m1, m2, s1, s2⟩) (fun w hS_ => by obtain ⟨s_1, s_2, s_3, s_4⟩ := hS_; go_simp; try rfl) ?_; (try simp only [Act.put, List.setIfInBounds_toArray, List.set_cons_zero, List.set_cons_succ]))
          (refine wpAnyT_read (i := 9) rfl (by kernel_rfl) rfl (fun _ _ _ h => h) (by kernel_rfl) (⟨m1, m2, s1, s2⟩) (fun w hS_ => by obtain ⟨s_1, s_2, s_3, s_4⟩ := hS_; go_simp; try rfl) ?_; (try simp only [Act.put, List.setIfInBounds_toArray, List.set_cons_zero, List.set_cons_succ]))
          (refine wpAnyT_free (i := 10) rfl (by kernel_rfl) rfl (fun _ _ _ h => h) (by kernel_rfl) (fun _ => by go_simp; try rfl) ?_; (try simp only [Act.put, List.setIfInBounds_toArray, List.set_cons_zero, List.set_cons_succ]))
          refine wpAnyT_done (by kernel_rfl) ?_ _
          go_wp2
          go_ret
          exact ⟨by rw [HE.out]; rfl, hb9.drew⟩
      · obtain rfl : k = xs.length := by omega
        have he : decide (xs = ys) = true := by
          rw [decide_eq_true_iff]
          have := HK.out
          rw [List.take_length, List.take_of_length_le (by rw [HL.out]; omega)] at this
          exact this
        have HE := Lib.hid he
        clear he
        go_wp2
        go_ret
        exact ⟨by rw [HE.out]; rfl, hb9⟩
  · have hne : decide (xs = ys) = false := by
      rw [decide_eq_false_iff_not]
      rintro rfl
      exact hl rfl
    have HE := Lib.hid hne
    have hl' : ((xs.length : Int) == (ys.length : Int)) = false := by rw [beq_eq_false_iff_ne]; omega
    have hl2 : ¬ (xs.length : Int) = (ys.length : Int) := by omega
    clear hne
    go_enter Tryd.func45, Tryd.ntmps45
    go_wp2
    go_ret
    exact ⟨by rw [HE.out]; rfl, Below.refl _ _⟩
end Go.Proofs.YtediidajdpdeiaaDoor

/- From a walk of a law to its row and card, where the row lists the variable crc.half; little arithmetic. -/
namespace Go.Proofs.YtediidajdpdeiaaDoor
open Go.RowKit Go.ChangeShapes Go.WideShapes Go.ChangeAt CrcM

theorem own_knob : ownKnob Tryd.prog.godebug = none := by kernel_rfl
theorem laid_out : laidOutB Tryd.prog = true := by kernel_rfl
theorem cells_u8 : Tryd.prog.cellsOf TB = 1 := by kernel_rfl
def i64 (n : Int) : Prop := -9223372036854775808 ≤ n ∧ n ≤ 9223372036854775807

theorem rem_any (n : Int) (m : Int) (hm : 0 < m) : -m < n.tmod m ∧ n.tmod m < m := by
  have h1 := Int.tmod_lt_of_pos n hm
  have h2 := Int.tmod_lt_of_pos (-n) hm
  rw [Int.neg_tmod] at h2
  exact ⟨by omega, h1⟩
/-- (n % m + m) % m lies from 0 to m -/
theorem rem_up (n : Int) (m : Int) (hm : 0 < m) : ∃ k : Nat, (n.tmod m + m).tmod m = (k : Int) ∧ (n.tmod m + m) % m = (k : Int) ∧ (k : Int) < m := by
  have h := rem_any n m hm
  have e : (n.tmod m + m).tmod m = (n.tmod m + m) % m := Int.tmod_eq_emod_of_nonneg (by omega)
  have h0 := Int.emod_nonneg (n.tmod m + m) (show m ≠ 0 by omega)
  have h1 := Int.emod_lt_of_pos (n.tmod m + m) hm
  exact ⟨((n.tmod m + m) % m).toNat, by rw [e, Int.toNat_of_nonneg h0], by rw [Int.toNat_of_nonneg h0], by rw [Int.toNat_of_nonneg h0]; exact h1⟩

/-- the row's condition gives the table -/
theorem halfAt_of_laid {W : World} (h : laidMetH Tryd.prog [("raceway/crc.half", Rows.laid_raceway_crc_half)] W) : HalfAt W := by
  rw [MakeChecks.laidMetH_plain _ _ _ (by kernel_rfl)] at h
  have hT : Lib.TabIs Tryd.prog W "raceway/crc.half" .u32 (halfN.map fun n : Nat => (n : Int)) :=
    Lib.tabIs_of_head (rest := []) (g := 0) (t := 117) (e := 24) (n := 16) (by kernel_rfl) (by kernel_rfl) Tryd.underlying117 Tryd.underlying24 (by kernel_rfl) (by kernel_rfl) h
  intro i hi
  have h1 := hT.cell (g := 0) (by kernel_rfl) i (by simpa [halfN] using hi)
  rw [h1]
  congr 2
  have : ∀ i : Fin 16, (halfN.map fun n : Nat => (n : Int)).getD i.val 0 = ((half i.val).toNat : Int) := by decide +kernel
  exact this ⟨i, hi⟩

theorem RdB.rd {W : World} {A : Option Addr} {l : List UInt8} (h : RdB W A l) : Rd Non W A l := fun j x hx => by
  obtain ⟨ad, e, _, hc⟩ := h j x hx
  exact ⟨ad, e, hc, .inl fun h => h.elim⟩

section
variable {H : Type} {enc : TypeId × Value → H} {W W' : World}

theorem i64_of {n : Int} (h : (Lit.int .i64 n).wf = true) : i64 n := by
  simpa [Lit.wf, IntKind.min, IntKind.max, IntKind.signed, IntKind.bits, i64] using h
theorem u8_of {n : Int} (h : (Lit.int .u8 n).wf = true) : ∃ x : UInt8, n = (x.toNat : Int) := by
  have h' : 0 ≤ n ∧ n ≤ 255 := by simpa [Lit.wf, IntKind.min, IntKind.max, IntKind.signed, IntKind.bits] using h
  refine ⟨UInt8.ofNat n.toNat, ?_⟩
  rw [UInt8.toNat_ofNat', Nat.mod_eq_of_lt (by omega)]
  omega

/-- lists of bytes that were there at W -/
def RdBs (W : World) (A : Option Addr) (ls : List (List UInt8)) : Prop := ∀ j l, ls[j]? = some l → ∃ g o B c, A = some ⟨g, o, none⟩ ∧ g < W.heap.size ∧ W.cell? ⟨g, o + j, none⟩ = some (.slice B l.length c) ∧ l.length ≤ c ∧ c ≤ maxLen ∧ RdB W B l

theorem post_law {f : Func} {s : ChangeSpec} {args : Array Value} {ds : List (DataW H)} {before : List MemPlace}
    (hW : DataW.Whole enc Tryd.prog f.params.toList s.vars false W args.toList ds [] before) (hrt : f.resultTypes.toList = [4] ∧ f.resultTypes.size = 1)
    (hvars : s.vars = []) (hr : (f.params.toList.all fun t => Tryd.prog.readableRec t && decide (t < Tryd.prog.types.size)) = true)
    (hs : s.fn H (ds ++ []) = { results := [.lit (.bool true)], args := ds }) (hb : Below W.heap.size W W') : s.post enc Tryd.prog f false true false false W args (.bool true) W' := by
  have hW' := hW
  obtain ⟨p, q, hA, hV, rfl, _, _⟩ := hW
  rw [hvars] at hV
  obtain ⟨_, rfl⟩ := trodVars_none hV
  rw [List.append_nil] at hW'
  refine ⟨ds, [], p, [], p, [], by simpa using hW', ?_, ?_, ?_, hb.frame _, fun h => by cases h⟩
  · rw [hs, hrt.1, hrt.2]
    exact trodAll_cons_mk (shut_bool Tryd.underlying4 _) trodAll_mk0
  · rw [hs]
    exact trodAll_below laid_out _ _ _ _ hr hA hb fun x hx => by simpa using hW'.lt x hx
  · rw [hs, hvars]; rfl
end
end Go.Proofs.YtediidajdpdeiaaDoor

/- The calls that the laws of the log play (layer 7): the walk. -/
namespace Go.Proofs.YtediidajdpdeiaaDoor
open Go.RowKit CrcM
set_option maxRecDepth 100000

/-- a call -/
structure Act07 where
  kind : Int
  n : Int
  flip : Int
  b : List UInt8

/-- calls that lie in memory, as the law was handed them -/
def ActsAt (W : World) (A : Option Addr) (acts : List Act07) : Prop := ∀ j a, acts[j]? = some a → ∃ g o B c, A = some ⟨g, o, none⟩ ∧ g < W.heap.size ∧
  W.cell? ⟨g, o + j * 4, none⟩ = some (.int .i64 a.kind) ∧ W.cell? ⟨g, o + j * 4 + 1, none⟩ = some (.int .i64 a.n) ∧ W.cell? ⟨g, o + j * 4 + 2, none⟩ = some (.int .i64 a.flip) ∧
  W.cell? ⟨g, o + j * 4 + 3, none⟩ = some (.slice B a.b.length c) ∧ a.b.length ≤ c ∧ c ≤ maxLen ∧ RdB W B a.b ∧ i64 a.kind ∧ i64 a.n ∧ i64 a.flip

/-- WHAT plays leaves: a log that is up and has the law -/
def Played (W : World) (e : Ending) (w' : World) : Prop := ∃ b L, e = .returned (.pointer (some ⟨b, 0, none⟩)) ∧ LiveG W w' b L Non ∧ L.inv 60 ∧ L.down = false

set_option maxHeartbeats 1000000 in
theorem plays_07 (W : World) (hh : HalfAt W) (per : Int) (A : Option Addr) (acts : List Act07) (c : Nat) (hA : ActsAt W A acts) (hlen : acts.length ≤ maxLen) :
    Calls Tryd.prog 42 #[.int .i64 per, .slice A acts.length c] W (Played W) := by
  unfold maxLen at hlen
  obtain ⟨kp, hp1, hp2, hp3⟩ := rem_up per 9 (by decide)
  have hpr := rem_any per 9 (by decide)
  have wz1 : IntKind.i64.wrap (per.tmod 9) = per.tmod 9 := by rw [IntKind.wrap_i64]; omega
  have wz2 : IntKind.i64.wrap (per.tmod 9 + 9) = per.tmod 9 + 9 := by rw [IntKind.wrap_i64]; omega
  have wz3 : IntKind.i64.wrap (kp : Int) = (kp : Int) := by rw [IntKind.wrap_i64]; omega
  have wz4 : IntKind.i64.wrap (1 + (kp : Int)) = 1 + (kp : Int) := by rw [IntKind.wrap_i64]; omega
  go_enter Tryd.func42, Tryd.ntmps42
  go_wp2_with (go_at_call 34; refine (new_G (Below.refl _ _) (1 + (kp : Int)) (by omega) (by omega)).mono ?_; rintro e w1 ⟨b, rfl, h1, -⟩)
  have hinv0 : (Lg.new (1 + (kp : Int)).toNat).inv 0 := Lg.inv_new (by omega) (by omega)
  have h1' := h1.sub (X' := Non) (fun _ h => h.elim)
  generalize Lg.new (1 + (kp : Int)).toNat = L0 at *
  clear wz1 wz2 wz3 wz4 hp1 hp2 hp3 hpr h1
  go_loopw [7] (fun i wr => ∃ (k : Nat) (L : Lg), k ≤ acts.length ∧ k ≤ 50 ∧ i = .int .i64 k ∧ L.inv k ∧ LiveG W wr b L Non) (fun i _ => 50 - (intOf i).toNat)
  case atStart => exact ⟨0, L0, by omega, by omega, rfl, hinv0, h1'⟩
  case round =>
    obtain ⟨k, L, hk, hk6, rfl, hinv, hL⟩ := hrel
    obtain ⟨i0, i1, i2, i3, i4⟩ := hinv.calls (by omega)
    have hlL := hinv.len_le
    by_cases hlt : k < acts.length ∧ k < 50
    · obtain ⟨hlt, hlt6⟩ := hlt
      obtain ⟨a, ha⟩ : ∃ a, acts[k]? = some a := ⟨_, List.getElem?_eq_getElem hlt⟩
      obtain ⟨g, o, B, cb, rfl, hg, e0, e1, e2, e3, hcb, hcm, hB, ik, inn, ifl⟩ := hA k a ha
      have hbel := hL.below
      have f0 : wr.cell? ⟨g, o + k * 4, none⟩ = some (.int .i64 a.kind) := (hbel.cell (p := ⟨g, o + k * 4, none⟩) hg).trans e0
      have f1 : wr.cell? ⟨g, o + k * 4 + 1, none⟩ = some (.int .i64 a.n) := (hbel.cell (p := ⟨g, o + k * 4 + 1, none⟩) hg).trans e1
      have f2 : wr.cell? ⟨g, o + k * 4 + 2, none⟩ = some (.int .i64 a.flip) := (hbel.cell (p := ⟨g, o + k * 4 + 2, none⟩) hg).trans e2
      have f3 : wr.cell? ⟨g, o + k * 4 + 3, none⟩ = some (.slice B a.b.length cb) := (hbel.cell (p := ⟨g, o + k * 4 + 3, none⟩) hg).trans e3
      clear e0 e1 e2 e3 ha
      obtain ⟨kd, n, fl, bb⟩ := a
      simp only at f0 f1 f2 f3 hcb hB ik inn ifl
      obtain ⟨l, hl⟩ : ∃ l, l = bb.take 300 := ⟨_, rfl⟩
      have l1 : l.length ≤ bb.length := by rw [hl, List.length_take]; omega
      have l2 : l.length ≤ 300 := by rw [hl, List.length_take]; omega
      have l3 : (l.length : Int) ≤ (cb : Int) := by omega
      have hr : RdB W B l := hl ▸ hB.take 300
      have hmin : ∀ w, (Builtin.min_ #[3, 3] 3 #[.int .i64 (bb.length : Int), .int .i64 300]).run Tryd.prog w = .ok (.int .i64 (l.length : Int)) w := by
        intro w
        rw [run_min_int2]
        have : (l.length : Int) = if (300 : Int) < (bb.length : Int) then 300 else (bb.length : Int) := by rw [hl, List.length_take]; split <;> omega
        rw [this]
      have i0' := i0 l (by omega)
      clear hl hB hcb hA i0
      have hL' := hL.mono' ((Below.refl wr.heap.size wr).alloc (Nat.le_refl _) (.cells #[.int .i64 kd, .int .i64 n, .int .i64 fl, .slice B bb.length cb] 69))
      have KL := Lib.hid hlt
      unfold i64 at ik inn ifl
      by_cases k0 : kd = 0
      · subst k0
        go_wp2_with (go_at_call 35; refine (append_G hL' hh (by omega) B l cb (hr.arg hL'.below) (by omega)).mono ?_; rintro e w2 ⟨rfl, h2, -⟩)
        go_roundw
        case rel => exact ⟨k + 1, _, by omega, by omega, by go_num, i0', h2⟩
        case measure => simp [intOf]; omega
      have n0 : (kd == 0) = false := by simpa using k0
      by_cases k1 : kd = 1
      · subst k1
        go_wp2_with (go_at_call 46; refine (sync_G hL').mono ?_; rintro e w2 ⟨rfl, h2, -⟩)
        go_roundw
        case rel => exact ⟨k + 1, _, by omega, by omega, by go_num, i1, h2⟩
        case measure => simp [intOf]; omega
      have n1 : (kd == 1) = false := by simpa using k1
      by_cases k2 : kd = 2
      · subst k2
        go_wp2_with (go_at_call 47; refine (drop_G hL' n).mono ?_; rintro e w2 ⟨rfl, h2, -⟩)
        go_roundw
        case rel => exact ⟨k + 1, _, by omega, by omega, by go_num, i2 n, h2⟩
        case measure => simp [intOf]; omega
      have n2 : (kd == 2) = false := by simpa using k2
      by_cases k3 : kd = 3
      · subst k3
        go_wp2_with (go_at_call 43; refine (crash_G hL' n fl inn.2 ifl.2 inn.1 ifl.1).mono ?_; rintro e w2 ⟨rfl, h2, -⟩)
        go_roundw
        case rel => exact ⟨k + 1, _, by omega, by omega, by go_num, i3 n fl, h2⟩
        case measure => simp [intOf]; omega
      have n3 : (kd == 3) = false := by simpa using k3
      by_cases k4 : kd = 4
      · subst k4
        go_wp2_with (go_at_call 44; refine (restart_G hL' hh).mono ?_; rintro e w2 ⟨rfl, h2, -⟩)
        go_roundw
        case rel => exact ⟨k + 1, _, by omega, by omega, by go_num, i4, h2⟩
        case measure => simp [intOf]; omega
      have n4 : (kd == 4) = false := by simpa using k4
      go_wp2
      go_roundw
      case rel => exact ⟨k + 1, _, by omega, by omega, by go_num, hinv.mono (by omega), hL'⟩
      case measure => simp [intOf]; omega
    · have hge : acts.length ≤ k ∨ 50 ≤ k := by omega
      have hinv' : L.inv 60 := hinv.mono (by omega)
      by_cases hk2 : k < acts.length
      all_goals
        clear hA i0 i1 i2 i3 i4
        cases hd : L.down
        · go_wp2_with (first
            | (go_at_call 48; refine (down_G hL).mono ?_; rw [hd]; rintro e w2 ⟨rfl, rfl⟩))
          go_ret
          exact ⟨b, L, rfl, hL, hinv', hd⟩
        · obtain ⟨L', hr, hR⟩ := hinv'.restart hd (by omega)
          have HR := Lib.hid hr
          clear hr
          go_wp2_with (first
            | (go_at_call 48; refine (down_G hL).mono ?_; rw [hd]; rintro e w2 ⟨rfl, rfl⟩)
            | (go_at_call 44; refine (restart_G hL hh).mono ?_; rw [HR.out]; rintro e w2 ⟨rfl, h2, -⟩))
          go_ret
          exact ⟨b, L', rfl, h2, hR.inv, hR.down⟩
end Go.Proofs.YtediidajdpdeiaaDoor

/- The chapter's example (layer 7), in plain words. -/
namespace Go.Proofs.YtediidajdpdeiaaDoor
open CrcM

def exB (k : Nat) : List UInt8 := [UInt8.ofNat (120 + k)]
def exL : Nat → Lg
  | 0 => Lg.new 2
  | k + 1 => ((exL k).append (exB k)).1
def exL3 : Lg := (exL 3).sync.1
def exL4 : Lg := (exL3.append [119]).1
def exL5 : Lg := (exL4.crash 0 0).1
def exL6 : Lg := exL5.restart.1
theorem ex_len : ∀ k : Fin 4, (exL k.val).len ≤ 4611686018427387904 := by decide +kernel
theorem ex_vals : exL3.len ≤ 4611686018427387904 ∧ exL4.len = 4 ∧ exL4.safe = 3 ∧ (exL4.crash 0 0).2 = 0 ∧ exL5.restart.2 = 0 ∧ exL6.len = 3 ∧ exL6.segs.length = 2 := by decide +kernel
end Go.Proofs.YtediidajdpdeiaaDoor

/- The chapter's example (layer 7): the walk. -/
namespace Go.Proofs.YtediidajdpdeiaaDoor
open Go.RowKit CrcM
set_option maxRecDepth 100000

theorem bytesWorld_below (w : World) (e : TypeId) (s : ByteArray) : Below w.heap.size w (Lib.bytesWorld w e s) :=
  ⟨rfl, rfl, rfl, by rw [Lib.bytesWorld_size]; omega, fun j hj => Lib.bytesWorld_at_old w e s j hj⟩
theorem bytesWorld_arg (W w : World) (l : List UInt8) : Arg W (Lib.bytesWorld w TB ⟨l.toArray⟩) (some ⟨w.heap.size, 0, none⟩) l :=
  (Own.of_cells (S := fun _ => True) (Lib.bytesWorld_at_new w TB ⟨l.toArray⟩) trivial (by
    unfold Lib.bytesCells
    rw [Array.toList_append]
    simp [byteV])).arg

theorem works_07 (W w : World) (hb : Below W.heap.size W w) (hh : HalfAt W) : Calls Tryd.prog 41 #[] w fun e w' => e = .returned (.bool true) ∧ Below W.heap.size W w' := by
  have kc := fun (w : World) (C : Array Value) (n c : Nat) => Lib.run_convert_bytes_const (P := Tryd.prog) w 22 TB C n c Tryd.underlying22 Tryd.underlying5
  have ks := fun (w : World) (s : ByteArray) => Lib.run_convert_string_bytes (P := Tryd.prog) w 9 22 TB s Tryd.underlying9 Tryd.underlying22 Tryd.underlying5
  go_enter Tryd.func41, Tryd.ntmps41
  go_wp2_with (go_at_call 34; refine (new_G hb 2 (by decide) (by decide)).mono ?_; rintro e w1 ⟨b, rfl, h1, hb1⟩)
  have hlit := Blk.new w1 9 #[.string ⟨#[120]⟩, .string ⟨#[121]⟩, .string ⟨#[122]⟩]
  have h2 := h1.mono (below_new w1 (.cells #[.string ⟨#[120]⟩, .string ⟨#[121]⟩, .string ⟨#[122]⟩] 9))
  have h2' := h2.sub (X' := fun x => x = w1.heap.size) (fun x e => .inr ⟨by omega, by simp [e]⟩)
  have hcell : ∀ k, k < 3 → ∀ w' : World, w'.heap[w1.heap.size]? = some (Obj.cells #[.string ⟨#[120]⟩, .string ⟨#[121]⟩, .string ⟨#[122]⟩] 9 (0, 0)) → w'.cell? ⟨w1.heap.size, k, none⟩ = some (.string ⟨(exB k).toArray⟩) := fun k hk w' hw => by
    have hB : Blk w' w1.heap.size 9 #[.string ⟨#[120]⟩, .string ⟨#[121]⟩, .string ⟨#[122]⟩] := hw
    refine hB.cell k ?_
    match k, hk with
    | 0, _ => rfl
    | 1, _ => rfl
    | 2, _ => rfl
  go_loopw [17] (fun i wr => ∃ k : Nat, k ≤ 3 ∧ i = .int .i64 (k : Int) ∧ LiveG W wr b (exL k) (fun x => x = w1.heap.size) ∧ wr.heap[w1.heap.size]? = some (Obj.cells #[.string ⟨#[120]⟩, .string ⟨#[121]⟩, .string ⟨#[122]⟩] 9 (0, 0))) (fun i _ => 3 - (intOf i).toNat)
  case atStart => exact ⟨0, by omega, rfl, h2', hlit⟩
  case round =>
    obtain ⟨k, hk, rfl, hL, hcs⟩ := hrel
    by_cases hlt : k < 3
    · have a1 := hcell k hlt wr hcs
      have hl := ex_len ⟨k, by omega⟩
      have hlt' : (k : Int) < 3 := by omega
      have hbl : (exB k).length ≤ 70368744177664 := by unfold exB; simp
      clear hcell
      go_wp2_with (go_at_call 35; refine (append_G (hL.mono' (bytesWorld_below wr TB ⟨(exB k).toArray⟩)) hh hl _ (exB k) _ (bytesWorld_arg W wr (exB k)) hbl).mono ?_; rintro e w2 ⟨rfl, h2, hx, -⟩)
      go_roundw
      case rel => exact ⟨k + 1, by omega, by go_num, h2, ((hx _ rfl).trans (Lib.bytesWorld_at_old _ _ _ _ (hL.ltX _ rfl))).trans hcs⟩
      case measure => simp [intOf]; omega
    · obtain rfl : k = 3 := by omega
      obtain ⟨v1, v2, v3, v4, v5, v6, v7⟩ := ex_vals
      have hL0 := hL.sub (X' := Non) (fun _ h => h.elim)
      clear hcell hL hcs hlit h1 h2 h2'
      go_wp2_with (first
        | (go_at_call 46; refine (sync_G hL0).mono ?_; rintro e w3 ⟨rfl, h3, -⟩)
        | (go_at_call 35; refine (append_G (L := exL3) (h3.mono' ((below_new w3 (.cells #[.int .u8 119] TB (1, 2))))) hh v1 _ [119] _ (Arg.lit _ (heap_alloc_new _ _) (by rfl)) (by decide)).mono ?_; rintro e w4 ⟨rfl, h4, -⟩; have hL4 := len_G (L := exL4) h4; rw [v2] at hL4)
        | (go_at_call 37; refine hL4.mono ?_; rintro e w5 ⟨rfl, h5, -⟩; have hS5 := safe_G h5; rw [v3] at hS5; clear hL4)
        | (go_at_call 38; refine hS5.mono ?_; rintro e w6 ⟨rfl, h6, -⟩; have hC6 := crash_G h6 0 0 (by decide) (by decide) (by decide) (by decide); unfold LiveGDid at hC6; rw [v4] at hC6)
        | (go_at_call 43; refine hC6.mono ?_; rintro e w7 ⟨rfl, h7, -⟩; have hR7 := restart_G (L := exL5) h7 hh; unfold LiveGDid at hR7; rw [v5] at hR7)
        | (go_at_call 44; refine hR7.mono ?_; rintro e w8 ⟨rfl, h8, -⟩; have hL8 := len_G (L := exL6) h8; rw [v6] at hL8)
        | (go_at_call 37; refine hL8.mono ?_; rintro e w9 ⟨rfl, h9, -⟩; have hs9 := segments_G h9; unfold SegsLen at hs9; rw [v7] at hs9)
        | (go_at_call 36; refine hs9.mono ?_; rintro e w10 ⟨A10, c10, rfl, h10, -⟩))
      go_ret
      exact ⟨rfl, h10.below⟩
end Go.Proofs.YtediidajdpdeiaaDoor

/- Lists of records that a law holds (layer 7): what stays of them, and parts of them. -/
namespace Go.Proofs.YtediidajdpdeiaaDoor
open Go.RowKit CrcM
set_option maxRecDepth 100000

/-- a list of records in X -/
def Held (X : Nat → Prop) (w : World) (A : Option Addr) (c : Nat) (recs : List (List UInt8)) : Prop := ∃ vals, Row X w TBs (.slice A recs.length c) vals ∧ Recs w vals recs

section
variable {X X' : Nat → Prop} {w w' : World} {A : Option Addr} {c : Nat} {recs : List (List UInt8)}
theorem Own.bk {S : Nat → Prop} {A : Option Addr} {l : List UInt8} (h : Own S w A l) (k : BK w w') : Own S w' A l := fun j x hx => by
  obtain ⟨ad, e, hc, hb, hs⟩ := h j x hx
  exact ⟨ad, e, (cell_eq (by rw [add_block]; exact k _ hb)).trans hc, hb.eq (k _ hb), hs⟩
theorem Recs.bk {vals : List Value} (h : Recs w vals recs) (k : BK w w') : Recs w' vals recs :=
  ⟨h.1, fun i r hr => by
    obtain ⟨A, c, h1, h2, h3, h4⟩ := h.2 i r hr
    exact ⟨A, c, h1, h2, h3, h4.bk k⟩⟩
theorem Held.xk (h : Held X w A c recs) (k : XK X w w') (kb : BK w w') : Held X w' A c recs := by
  obtain ⟨vals, h1, h2⟩ := h
  exact ⟨vals, h1.same k, h2.bk kb⟩
theorem Held.below (h : Held X w A c recs) (hb : Below w.heap.size w w') : Held X w' A c recs := by
  obtain ⟨vals, h1, h2⟩ := h
  exact ⟨vals, Row.below h1 hb, h2.fr (Fr.of_below (S := Non) hb)⟩
theorem Held.mono (h : Held X w A c recs) (hs : ∀ x, X x → X' x) : Held X' w A c recs := by
  obtain ⟨vals, h1, h2⟩ := h
  exact ⟨vals, h1.mono (fun x _ hx => hs x hx), h2⟩
theorem Held.cap (h : Held X w A c recs) : recs.length ≤ c ∧ c ≤ maxLen := by
  obtain ⟨vals, h1, h2⟩ := h
  obtain ⟨A', c', e, h3, h4⟩ := h1.val
  injection e with e1 e2 e3
  subst e3
  exact ⟨by omega, h4⟩
theorem Held.take (h : Held X w A c recs) (n : Nat) (hn : n ≤ recs.length) : ∃ vals, Row X w TBs (.slice A n c) vals ∧ Recs w vals (recs.take n) := by
  obtain ⟨vals, h1, h2⟩ := h
  have hr : Recs w (vals.take n) (recs.take n) := by
    refine ⟨by rw [List.length_take, List.length_take, h2.1], fun i r hr => ?_⟩
    rw [List.getElem?_take] at hr
    split at hr
    · rename_i hi
      obtain ⟨A, c, h3, h4⟩ := h2.2 i r hr
      exact ⟨A, c, by rw [List.getElem?_take_of_lt hi]; exact h3, h4⟩
    · cases hr
  refine ⟨vals.take n, ?_, hr⟩
  have hvl := h2.1
  rcases h1 with ⟨e, h3⟩ | ⟨g, o, c', cur, e, h3, h4, h5, h6, h7, h8⟩
  · injection e with e1 e2 e3
    subst e1 e3
    obtain rfl : n = 0 := by omega
    exact .inl ⟨rfl, rfl⟩
  · injection e with e1 e2 e3
    subst e1 e3
    refine .inr ⟨g, o, c, cur, by rw [List.length_take]; congr 1; omega, h3, h4, by rw [List.length_take]; omega, h6, h7, ?_⟩
    rw [List.length_take, Nat.min_eq_left (by omega), ← h8, List.take_take, Nat.min_eq_left (by omega)]
theorem Held.drop (h : Held X w A c recs) (n : Nat) (hn : n < recs.length) : ∃ g o, A = some ⟨g, o, none⟩ ∧ Held X w (some ⟨g, o + n, none⟩) (c - n) (recs.drop n) := by
  obtain ⟨vals, h1, h2⟩ := h
  have hvl := h2.1
  obtain ⟨g, o, c', e, h3, h4⟩ := h1.drop (n := n) (by omega)
  injection e with e1 e2 e3
  subst e1 e3
  refine ⟨g, o, rfl, vals.drop n, ?_, ?_⟩
  · rw [List.length_drop, ← hvl]
    exact h4
  · refine ⟨by rw [List.length_drop, List.length_drop, hvl], fun i r hr => ?_⟩
    rw [List.getElem?_drop] at hr
    obtain ⟨A, c, h5, h6⟩ := h2.2 _ r hr
    exact ⟨A, c, by rw [List.getElem?_drop]; exact h5, h6⟩
theorem alike_H {Xa Xb : Nat → Prop} {B : Option Addr} {cb : Nat} {ys : List (List UInt8)} (ha : Held Xa w A c recs) (hb : Held Xb w B cb ys) :
    Calls Tryd.prog 45 #[.slice A recs.length c, .slice B ys.length cb] w fun e w' => e = .returned (.bool (decide (recs = ys))) ∧ Below w.heap.size w w' := by
  obtain ⟨va, h1, h2⟩ := ha
  obtain ⟨vb, h3, h4⟩ := hb
  exact alike_B w A recs c va B ys cb vb h1 h2 h3 h4
theorem alike_take {Xa Xb : Nat → Prop} {B : Option Addr} {cb : Nat} {ys : List (List UInt8)} (ha : Held Xa w A c recs) (hb : Held Xb w B cb ys) (n : Nat) (hn : n ≤ ys.length) :
    Calls Tryd.prog 45 #[.slice A recs.length c, .slice B n cb] w fun e w' => e = .returned (.bool (decide (recs = ys.take n))) ∧ Below w.heap.size w w' := by
  obtain ⟨va, h1, h2⟩ := ha
  obtain ⟨vb, h3, h4⟩ := hb.take n hn
  have hl : (ys.take n).length = n := by rw [List.length_take]; omega
  have := alike_B w A recs c va B (ys.take n) cb vb h1 h2 (by rw [hl]; exact h3) h4
  rw [hl] at this
  exact this
theorem alike_take2 {Xa Xb : Nat → Prop} {B : Option Addr} {cb : Nat} {ys : List (List UInt8)} (ha : Held Xa w A c recs) (hb : Held Xb w B cb ys) (n : Nat) (hn : n ≤ recs.length) :
    Calls Tryd.prog 45 #[.slice A n c, .slice B ys.length cb] w fun e w' => e = .returned (.bool (decide (recs.take n = ys))) ∧ Below w.heap.size w w' := by
  obtain ⟨va, h1, h2⟩ := ha.take n hn
  obtain ⟨vb, h3, h4⟩ := hb
  have hl : (recs.take n).length = n := by rw [List.length_take]; omega
  have := alike_B w A (recs.take n) c va B ys cb vb (by rw [hl]; exact h1) h2 h3 h4
  rw [hl] at this
  exact this
theorem alike_nil (w : World) (A B : Option Addr) (ca cb : Nat) : Calls Tryd.prog 45 #[.slice A 0 ca, .slice B 0 cb] w fun e w' => e = .returned (.bool true) ∧ Below w.heap.size w w' := by
  go_enter Tryd.func45, Tryd.ntmps45
  go_wp2
  go_loopw [13] (fun i wr => i = .int .i64 0 ∧ Below w.heap.size w wr) (fun _ _ => 0)
  case atStart => exact ⟨rfl, Below.refl _ _⟩
  case round =>
    obtain ⟨rfl, hb9⟩ := hrel
    go_wp2
    go_ret
    exact ⟨rfl, hb9⟩
end

/-- WHAT all leaves, for a law -/
theorem all_H {W w : World} {b : Nat} {L : Lg} {X : Nat → Prop} (h : LiveG W w b L X) {m : Nat} (hinv : L.inv m) (hm : m ≤ 1048576) :
    Calls Tryd.prog 40 #[.pointer (some ⟨b, 0, none⟩)] w fun e w' => ∃ A c, e = .returned (.tuple #[.slice A L.recs.length c, .bool true]) ∧ Held (Up X w w') w' A c L.recs ∧ LiveG W w' b L (Up X w w') ∧ Below w.heap.size w w' := by
  refine (all_G h hinv hm).mono ?_
  rintro e w' ⟨A, c, vals, rfl, h1, h2, h3, h4⟩
  exact ⟨A, c, rfl, ⟨vals, h1.mono (fun x hl hx => .inr ⟨hx, hl⟩), h2⟩, h3, h4⟩
end Go.Proofs.YtediidajdpdeiaaDoor

/- A store's Restart (layer 8): what is known on the way. -/
namespace Go.Proofs.YtediidajdpdeiaaDoor
open Go.RowKit CrcM
set_option maxRecDepth 100000

/-- numbers within what a store takes -/
def Rc.ok : Rc → Prop
  | .prom b => b ≤ 1099511627776
  | .acc slot ballot v => slot ≤ 1099511627776 ∧ ballot ≤ 1099511627776 ∧ v.length ≤ 32768
  | .forget n => n ≤ 1099511627776

theorem DiskAt.kp {S : Nat → Prop} {w w' : World} {b : Nat} {A : Option Addr} {c : Nat} {D : Dk} (h : DiskAt S w b A c D) (hk : ∀ x, S x → w'.heap[x]? = w.heap[x]?) (hs : w.heap.size ≤ w'.heap.size) (kb : BK w w') : DiskAt S w' b A c D :=
  ⟨h.blk.eq (hk _ h.inS), h.own.bk kb, h.inS, fun x hx => Nat.lt_of_lt_of_le (h.lt x hx) hs, h.cap, h.ok⟩
theorem SegAt.kp {S : Nat → Prop} {w w' : World} {b : Nat} {g : Sg} (h : SegAt S w b g) (hk : ∀ x, S x → w'.heap[x]? = w.heap[x]?) (hs : w.heap.size ≤ w'.heap.size) (kb : BK w w') : SegAt S w' b g := by
  obtain ⟨⟨Sd, Sh, db, A, c, rv, vals, h1, h2, h3, h4, h5, h6, h7, h8⟩, hlt⟩ := h
  exact ⟨⟨Sd, Sh, db, A, c, rv, vals, h1, h2, fun x p q => (h3 x p q).eq (hk x (h1 x p)), h4, h5.eq (hk _ (h2 _ h4)), h6.kp (fun x hx => hk x (h1 x hx)) hs kb, h7.same (fun x hx => hk x (h2 x hx)), h8.bk kb⟩, fun x hx => Nat.lt_of_lt_of_le (hlt x hx) hs⟩
theorem LogAt.kp {S : Nat → Prop} {w w' : World} {b : Nat} {L : Lg} (h : LogAt S w b L) (hk : ∀ x, S x → w'.heap[x]? = w.heap[x]?) (hs : w.heap.size ≤ w'.heap.size) (kb : BK w w') : LogAt S w' b L := by
  obtain ⟨hu, H, A, c, ps, h⟩ := h
  refine ⟨hu, H, A, c, ps, h.hS, h.hb, h.blk.eq (hk _ (h.hS _ h.hb)), h.row.same (fun x hx => hk x (h.hS x hx)), ?_, fun x hx => Nat.lt_of_lt_of_le (h.lt x hx) hs, h.ok, fun _ _ => trivial⟩
  obtain ⟨F, h1, h2, h3, h4⟩ := h.segs
  exact ⟨F, fun i x hx => ⟨(h1 i x hx).1, (h1 i x hx).2.1, Nat.lt_of_lt_of_le (h1 i x hx).2.2 hs⟩, fun i j x n p q => (h2 i j x n p q).eq (hk x (h1 i x p).1), h3, fun i p g hp hg => (h4 i p g hp hg).kp (fun x hx => hk x (h1 i x hx).1) hs kb⟩
theorem BK.grown {w w' : World} {row : Option Nat} (hg : w.grownBy w' row) (hr : ∀ r, row = some r → ∃ o : Obj, w.heap[r]? = some o ∧ o.isCells = false) : BK w w' := fun b hb => by
  obtain ⟨cs, fz, hb⟩ := hb
  exact (CK.grown hg hr).2 _ _ _ _ hb

section
variable {S S1 S2 : Nat → Prop} {w w' : World} {b lb db mb : Nat} {s : So}
theorem SoO.kp (h : SoO S S1 S2 w b lb db mb s) (hk : ∀ x, S x → w'.heap[x]? = w.heap[x]?) (hs : w.heap.size ≤ w'.heap.size) (kb : BK w w') : SoO S S1 S2 w' b lb db mb s := by
  obtain ⟨A, c, hd⟩ := h.snap
  exact ⟨h.blk.eq (hk _ h.hb), h.log.kp (fun x hx => hk x (h.h1 x hx)) hs kb, ⟨A, c, hd.kp (fun x hx => hk x (h.h2 x hx)) hs kb⟩, h.map.keep (hk _ h.hm) kb, h.h1, h.h2, h.hb, h.hm, h.d12, h.d1, h.d2, fun x hx => Nat.lt_of_lt_of_le (h.lt x hx) hs, h.per, h.ok⟩

/-- what is left of a down store when its log and its disk have been brought up, and its map has been emptied -/
def So.fresh (s : So) : So := ⟨s.per, s.log.restart.1, s.snap.restart.1, St.new⟩
/-- the store at the records -/
structure AtRecs (S : Nat → Prop) (w : World) (b lb db mb sx : Nat) (s : So) (st : St) (S1 S2 : Nat → Prop) (W : World) : Prop where
  so : SoO (Up S w W) S1 S2 W b lb db mb ⟨s.per, s.log.restart.1, s.snap.restart.1, st⟩
  fr : Fr S w W
  bx : Blk W sx 94 #[.pointer (some ⟨b, 0, none⟩)]
  hsx : w.heap.size ≤ sx

theorem bigB {Z : Held3} (h : ∀ z ∈ Z, z.1 ≤ 4611686018427387904) : (slotsOf Z).filter (fun p => decide (4611686018427387905 ≤ p.1)) = [] := by
  unfold slotsOf
  rw [List.filter_eq_nil_iff]
  intro p hp
  obtain ⟨z, hz, rfl⟩ := List.mem_map.1 hp
  have := h z hz
  have : ¬ 4611686018427387905 ≤ z.1 := by omega
  exact fun hd => this (of_decide_eq_true hd)
end

theorem Dk.restart_all' (D : Dk) : D.restart.1.all = D.all := by unfold Dk.restart; split <;> rfl


theorem play_len (s : St) (r : Rc) : (Rc.play s r).slots.length ≤ s.slots.length + 1 := by
  cases r with
  | prom b => exact Nat.le_succ _
  | acc k b v => exact (length_putN k ⟨b, v⟩ s.slots)
  | forget n => exact Nat.le_trans (List.length_filter_le _ _) (Nat.le_succ _)
theorem St.ok.play {s : St} (h : s.ok) {r : Rc} (hr : r.ok) (hf : s.slots.length < 1048575) : (Rc.play s r).ok := by
  have h1 := h.pr
  have h2 := h.ba
  cases r with
  | prom b =>
    have : b ≤ 1099511627776 := hr
    exact ⟨show max s.promised b ≤ _ by omega, h.ba, h.few, h.rise, h.all⟩
  | acc k b v =>
    obtain ⟨q1, q2, q3⟩ := hr
    have hp := h.put (p := max s.promised b) (k := k) (n := b) (v := v) (by omega) q1 q2 q3 hf
    exact hp
  | forget n => exact h.rise' hr
theorem plays_ok : ∀ (rcs : List Rc) (s : St), s.ok → (∀ r ∈ rcs, r.ok) → s.slots.length + rcs.length ≤ 1048575 → (rcs.foldl Rc.play s).ok ∧ (rcs.foldl Rc.play s).slots.length ≤ s.slots.length + rcs.length
  | [], s, h, _, _ => ⟨h, Nat.le_refl _⟩
  | r :: t, s, h, hr, hf => by
    have hl := play_len s r
    rw [List.length_cons] at hf
    obtain ⟨k1, k2⟩ := plays_ok t (Rc.play s r) (h.play (hr _ (List.mem_cons_self ..)) (by omega)) (fun x hx => hr x (List.mem_cons_of_mem _ hx)) (by omega)
    exact ⟨k1, by rw [List.length_cons]; exact Nat.le_trans k2 (by omega)⟩
theorem foldl_take_succ {α β : Type} (f : β → α → β) (s : β) {l : List α} {k : Nat} {x : α} (h : l[k]? = some x) : (l.take (k + 1)).foldl f s = f ((l.take k).foldl f s) x := by
  rw [List.take_add_one, h, List.foldl_append]
  rfl
/-- what has grown is left away -/
theorem SoO.shrink {S S' S1 S2 : Nat → Prop} {w w' : World} {b lb db mb : Nat} {s s' : So} (h : SoO S S1 S2 w b lb db mb s) (h' : SoO S' S1 S2 w' b lb db mb s') (hs : w.heap.size ≤ w'.heap.size) : SoO S S1 S2 w' b lb db mb s' :=
  ⟨h'.blk, h'.log, h'.snap, h'.map, h.h1, h.h2, h.hb, h.hm, h.d12, h.d1, h.d2, fun x hx => Nat.lt_of_lt_of_le (h.lt x hx) hs, h'.per, h'.ok⟩
theorem numR_snd : ∀ (n : Nat) (rs : List (List UInt8)), (numR n rs).map Prod.snd = rs
  | _, [] => rfl
  | n, r :: t => by
    unfold numR
    rw [List.map_cons, numR_snd (n + 1) t]
theorem numS_recs (gs : List Sg) : (numS gs).map Prod.snd = recsS gs := by
  unfold numS recsS
  rw [List.map_flatMap]
  congr 1
  funext g
  exact numR_snd _ _
end Go.Proofs.YtediidajdpdeiaaDoor
