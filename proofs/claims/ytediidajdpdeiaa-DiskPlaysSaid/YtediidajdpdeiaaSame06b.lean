/- DiskPlays: the walks of does and of the law. -/
import Derived.Test.YtediidajdpdeiaaSame06
namespace Go.Proofs.Ytediidajdpdeiaa
open Go.RowKit
set_option maxRecDepth 100000

def Dk.act2 (D : Dk) (a : Act06) : Dk :=
  if a.kind = 0 then (D.append (a.b.take 500)).1 else if a.kind = 1 then D.sync.1 else if a.kind = 2 then (D.cut a.n).1 else if a.kind = 3 then (D.swap (a.b.take 500)).1
  else if a.kind = 4 then (D.crash a.n a.flip).1 else D.restart.1

theorem Both.drewB {X : Nat → Prop} {W w : World} {b r : Nat} {D : Dk} {R : Rk} (h : Both X W w b r D R) : Both X W w.drew b r D R := h.mono ⟨rfl, rfl, rfl, Nat.le_refl _, fun _ _ => rfl⟩
theorem ownsRow_bk2 {w w' : World} {base n c : Nat} {A : Option Addr} {xs : List Value} (h : w.ownsRow base TB 1 (.slice A n c) n xs) (k : BK w w') : w'.ownsRow base TB 1 (.slice A n c) n xs := ownsRow_bk h k
theorem xor255_all : ∀ x : Fin 256, bits .xor .u8 (x.val : Int) 255 = ((UInt8.ofNat (x.val ^^^ 255)).toNat : Int) := by decide +kernel
theorem xor255 (x : UInt8) : ∃ y : UInt8, bits .xor .u8 (x.toNat : Int) 255 = (y.toNat : Int) := ⟨_, xor255_all ⟨x.toNat, x.toNat_lt⟩⟩

set_option maxHeartbeats 2000000 in
theorem does_06 (W w : World) (b r : Nat) (D : Dk) (hB : Both Non W w b r D D.ref) (a : Act06) (B : Option Addr) (cb : Nat) (hrb : RdB W B a.b) (hcb : a.b.length ≤ cb) (hcm : cb ≤ maxLen) (ik : i64 a.kind) (inn : i64 a.n) (ifl : i64 a.flip) :
    Calls Try.prog 22 #[.pointer (some ⟨b, 0, none⟩), .pointer (some ⟨r, 0, none⟩), .agg #[.int .i64 a.kind, .int .i64 a.n, .int .i64 a.flip, .slice B a.b.length cb]] w
      fun e w' => e = .returned (.bool true) ∧ Both Non W w' b r (D.act2 a) (D.act2 a).ref := by
  obtain ⟨i, hi, hz, hs, hby⟩ := info_parts info_u8
  obtain ⟨kd, n, fl, bb⟩ := a
  simp only at hrb hcb ik inn ifl
  obtain ⟨l, hl⟩ : ∃ l, bb.take 500 = l := ⟨_, rfl⟩
  have hr : RdB W B l := hl ▸ hrb.take 500
  obtain ⟨m, hm⟩ : ∃ m, l.length = m := ⟨_, rfl⟩
  have l1 : m ≤ bb.length := by rw [← hm, ← hl, List.length_take]; omega
  have l2 : m ≤ 500 := by rw [← hm, ← hl, List.length_take]; omega
  have l3 : (m : Int) ≤ (cb : Int) := by omega
  have hmin : ∀ w, (Builtin.min_ #[3, 3] 3 #[.int .i64 (bb.length : Int), .int .i64 500]).run Try.prog w = .ok (.int .i64 (m : Int)) w := by
    intro w
    rw [run_min_int2]
    have : (m : Int) = if (500 : Int) < (bb.length : Int) then 500 else (bb.length : Int) := by rw [← hm, ← hl, List.length_take]; split <;> omega
    rw [this]
  have HM := Lib.hid hm
  have HL := Lib.hid hl
  obtain ⟨D', hD'⟩ : ∃ D', D.act2 ⟨kd, n, fl, bb⟩ = D' := ⟨_, rfl⟩
  rw [hD']
  have HD := Lib.hid hD'
  have hok := hB.ok.1
  have HOK := Lib.hid hok
  clear hm hl hD' hrb hok
  have z0 : Blk (w.alloc (.cells #[.int .i64 kd, .int .i64 n, .int .i64 fl, .slice B bb.length cb] 37)) w.heap.size 37 #[.int .i64 kd, .int .i64 n, .int .i64 fl, .slice B bb.length cb] := Blk.new _ _ _
  have b01 : Below w.heap.size w (w.alloc (.cells #[.int .i64 kd, .int .i64 n, .int .i64 fl, .slice B bb.length cb] 37)) := (Below.refl _ _).alloc (Nat.le_refl _) _
  unfold i64 at ik inn ifl
  go_enter Try.func22, Try.ntmps22
  generalize hw0 : w.alloc (.cells #[.int .i64 kd, .int .i64 n, .int .i64 fl, .slice B bb.length cb] 37) = w0 at *
  have HW := Lib.hid (show W.heap.size ≤ w.heap.size ∧ w.heap.size ≤ w0.heap.size from ⟨hB.below.size, b01.size⟩)
  have x0 : w0.cell? ⟨w.heap.size, 0, none⟩ = some (.int .i64 kd) := z0.cell 0 rfl
  have x1 : w0.cell? ⟨w.heap.size, 1, none⟩ = some (.int .i64 n) := z0.cell 1 rfl
  have x2 : w0.cell? ⟨w.heap.size, 2, none⟩ = some (.int .i64 fl) := z0.cell 2 rfl
  have x3 : w0.cell? ⟨w.heap.size, 3, none⟩ = some (.slice B bb.length cb) := z0.cell 3 rfl
  have x4 := z0.lt
  by_cases kz0 : kd = 0
  · subst kz0
    go_wp2_with (first
      | (at_builtin
         refine wpList_appB rfl (.tmp 11) (.tmp 18) 23 rfl i Try.underlying23 hi hz hs hby w0.heap.size (.slice (some ⟨w0.heap.size, 0, none⟩) 0 0) 0 [] rfl (ownsB_none w0) Non B m cb l rfl HM.out (((hr.arg hB.below) Non (fun _ h => h.elim)).fr ((Fr.of_below b01).alloc _)) (by omega) (by simp) ?_
         intro v1 w1 ho1 hg1 ha1
         rw [Nat.zero_add, List.nil_append] at ho1
         obtain ⟨A1, c1, rfl, hc1, hm1⟩ := own_val ho1
         have hb1 : Below w0.heap.size w0 w1 := ((Below.refl _ _).alloc (Nat.le_refl _) _).grown hg1 (by simp) (fun j hj => by injection hj with hj; subst hj; exact Nat.le_refl _)
         have hB1 := (hB.also (b01.trans (hb1.mono b01.size)))
         have z1 := z0.eq (hb1.block w.heap.size z0.lt)
         have hby1 : Byt w1 A1 l := (Own.of_row ho1 HM.out.symm).mono fun _ _ => trivial
         clear hg1 ha1 x0 x1 x2 x3 x4
         have x0 : w1.cell? ⟨w.heap.size, 0, none⟩ = some (.int .i64 0) := z1.cell 0 rfl
         have x1 : w1.cell? ⟨w.heap.size, 1, none⟩ = some (.int .i64 n) := z1.cell 1 rfl
         have x2 : w1.cell? ⟨w.heap.size, 2, none⟩ = some (.int .i64 fl) := z1.cell 2 rfl)
      | (go_at_call 9; have hop := append_2 hB1 A1 l c1 (by rw [HM.out]; omega) hby1; rw [HM.out] at hop; refine hop.mono ?_; rintro e w2 ⟨rfl, h2, k2, f2⟩; clear hop)
      | (go_at_call 28; have hop := refAppend_2 h2 A1 l c1 (by rw [HM.out]; omega) (hby1.bk k2); rw [HM.out] at hop; refine hop.mono ?_; rintro e w3 ⟨rfl, h3, k3, f3⟩; clear hop h2; have RF := ref_append HOK.out l; rw [← RF.2])
      | fail)
    rw [← RF.1] at h3
    generalize hQ : D.append l = q at *
    obtain ⟨D2, cd⟩ := q
    obtain rfl : D2 = D' := by have := HD.out; simp only [Dk.act2] at this; simpa [HL.out, hQ] using this
    simp only at h3
    have hgA := ho1.lt
    have ho3 := ownsRow_bk2 (ownsRow_bk2 ho1 k2) k3
    clear RF HD ho1 hby1 hB1 z1 z0 hb1 b01 x0 x1 x2 f2 f3
    try simp only
    go_wp2_with fail
    go_loopw [74] (fun i wr => ∃ (p : Nat) (lp : List UInt8), p ≤ m ∧ i = .int .i64 p ∧ lp.length = m ∧ wr.ownsRow w0.heap.size TB 1 (.slice A1 m c1) m (lp.map byteV) ∧ Both (Nw w w1) W wr b r D2 D2.ref) (fun i _ => m - (intOf i).toNat)
    case atStart => exact ⟨0, l, by omega, rfl, HM.out, ho3, h3⟩
    case round =>
      obtain ⟨p, lp, hp, rfl, hlp, hop, hbt⟩ := hrel
      have HLP := Lib.hid hlp
      clear hlp ho3 h3
      by_cases hpm : p < m
      · obtain ⟨x, hx⟩ : ∃ x, lp[p]? = some x := ⟨_, List.getElem?_eq_getElem (by rw [HLP.out]; exact hpm)⟩
        obtain ⟨y, hy⟩ := xor255 x
        obtain ⟨g, cap, hv, hg1, hg2⟩ := hop.form (by omega)
        obtain ⟨rfl, rfl⟩ : A1 = some ⟨g, 0, none⟩ ∧ c1 = cap := by injection hv with h1 _ h2; exact ⟨h1, h2⟩
        obtain ⟨hg3, hg4⟩ := hgA g rfl
        have hxc : wr.cell? ⟨g, p, none⟩ = some (.int .u8 (x.toNat : Int)) := by
          rw [hop.cellAt _ (by omega), List.getElem?_map, hx]; rfl
        have hxf := hop.frozenAt p
        have hst := (hop.stored p (byteV y)).1
        rw [← List.map_set] at hst
        have hwW := HW.out
        have hb2 := hbt.far (p := ⟨g, p, none⟩) ⟨by show w.heap.size ≤ g; omega, hg4⟩ (by show W.heap.size ≤ g; omega) (byteV y)
        unfold byteV at hst hb2
        have hpm' : (p : Int) < (m : Int) := by omega
        clear hx hv
        go_wp2
        go_roundw
        case rel => exact ⟨p + 1, lp.set p y, by omega, by go_num, by rw [List.length_set]; exact HLP.out, hst, hb2⟩
        case measure => simp [intOf]; omega
      · obtain rfl : p = m := by omega
        go_wp2
        go_ret
        exact ⟨rfl, hbt.non⟩
  by_cases kz1 : kd = 1
  · subst kz1
    go_wp2_with (first
      | (at_builtin
         refine wpList_appB rfl (.tmp 11) (.tmp 18) 23 rfl i Try.underlying23 hi hz hs hby w0.heap.size (.slice (some ⟨w0.heap.size, 0, none⟩) 0 0) 0 [] rfl (ownsB_none w0) Non B m cb l rfl HM.out (((hr.arg hB.below) Non (fun _ h => h.elim)).fr ((Fr.of_below b01).alloc _)) (by omega) (by simp) ?_
         intro v1 w1 ho1 hg1 ha1
         rw [Nat.zero_add, List.nil_append] at ho1
         obtain ⟨A1, c1, rfl, hc1, hm1⟩ := own_val ho1
         have hb1 : Below w0.heap.size w0 w1 := ((Below.refl _ _).alloc (Nat.le_refl _) _).grown hg1 (by simp) (fun j hj => by injection hj with hj; subst hj; exact Nat.le_refl _)
         have hB1 := (hB.also (b01.trans (hb1.mono b01.size)))
         have z1 := z0.eq (hb1.block w.heap.size z0.lt)
         have hby1 : Byt w1 A1 l := (Own.of_row ho1 HM.out.symm).mono fun _ _ => trivial
         clear hg1 ha1 x0 x1 x2 x3 x4
         have x0 : w1.cell? ⟨w.heap.size, 0, none⟩ = some (.int .i64 1) := z1.cell 0 rfl
         have x1 : w1.cell? ⟨w.heap.size, 1, none⟩ = some (.int .i64 n) := z1.cell 1 rfl
         have x2 : w1.cell? ⟨w.heap.size, 2, none⟩ = some (.int .i64 fl) := z1.cell 2 rfl)
      | (go_at_call 17; have hop := sync_2 hB1; refine hop.mono ?_; rintro e w2 ⟨rfl, h2, k2, f2⟩; clear hop)
      | (go_at_call 29; have hop := refSync_2 h2; refine hop.mono ?_; rintro e w3 ⟨rfl, h3, k3, f3⟩; clear hop h2; have RF := ref_sync (D := D); rw [← RF.2])
      | fail)
    rw [← RF.1] at h3
    generalize hQ : D.sync = q at *
    obtain ⟨D2, cd⟩ := q
    obtain rfl : D2 = D' := by have := HD.out; simp only [Dk.act2] at this; simpa [hQ] using this
    simp only at h3
    have hgA := ho1.lt
    have ho3 := ownsRow_bk2 (ownsRow_bk2 ho1 k2) k3
    clear RF HD ho1 hby1 hB1 z1 z0 hb1 b01 x0 x1 x2 f2 f3
    try simp only
    go_wp2_with fail
    go_loopw [74] (fun i wr => ∃ (p : Nat) (lp : List UInt8), p ≤ m ∧ i = .int .i64 p ∧ lp.length = m ∧ wr.ownsRow w0.heap.size TB 1 (.slice A1 m c1) m (lp.map byteV) ∧ Both (Nw w w1) W wr b r D2 D2.ref) (fun i _ => m - (intOf i).toNat)
    case atStart => exact ⟨0, l, by omega, rfl, HM.out, ho3, h3⟩
    case round =>
      obtain ⟨p, lp, hp, rfl, hlp, hop, hbt⟩ := hrel
      have HLP := Lib.hid hlp
      clear hlp ho3 h3
      by_cases hpm : p < m
      · obtain ⟨x, hx⟩ : ∃ x, lp[p]? = some x := ⟨_, List.getElem?_eq_getElem (by rw [HLP.out]; exact hpm)⟩
        obtain ⟨y, hy⟩ := xor255 x
        obtain ⟨g, cap, hv, hg1, hg2⟩ := hop.form (by omega)
        obtain ⟨rfl, rfl⟩ : A1 = some ⟨g, 0, none⟩ ∧ c1 = cap := by injection hv with h1 _ h2; exact ⟨h1, h2⟩
        obtain ⟨hg3, hg4⟩ := hgA g rfl
        have hxc : wr.cell? ⟨g, p, none⟩ = some (.int .u8 (x.toNat : Int)) := by
          rw [hop.cellAt _ (by omega), List.getElem?_map, hx]; rfl
        have hxf := hop.frozenAt p
        have hst := (hop.stored p (byteV y)).1
        rw [← List.map_set] at hst
        have hwW := HW.out
        have hb2 := hbt.far (p := ⟨g, p, none⟩) ⟨by show w.heap.size ≤ g; omega, hg4⟩ (by show W.heap.size ≤ g; omega) (byteV y)
        unfold byteV at hst hb2
        have hpm' : (p : Int) < (m : Int) := by omega
        clear hx hv
        go_wp2
        go_roundw
        case rel => exact ⟨p + 1, lp.set p y, by omega, by go_num, by rw [List.length_set]; exact HLP.out, hst, hb2⟩
        case measure => simp [intOf]; omega
      · obtain rfl : p = m := by omega
        go_wp2
        go_ret
        exact ⟨rfl, hbt.non⟩
  by_cases kz2 : kd = 2
  · subst kz2
    go_wp2_with (first
      | (at_builtin
         refine wpList_appB rfl (.tmp 11) (.tmp 18) 23 rfl i Try.underlying23 hi hz hs hby w0.heap.size (.slice (some ⟨w0.heap.size, 0, none⟩) 0 0) 0 [] rfl (ownsB_none w0) Non B m cb l rfl HM.out (((hr.arg hB.below) Non (fun _ h => h.elim)).fr ((Fr.of_below b01).alloc _)) (by omega) (by simp) ?_
         intro v1 w1 ho1 hg1 ha1
         rw [Nat.zero_add, List.nil_append] at ho1
         obtain ⟨A1, c1, rfl, hc1, hm1⟩ := own_val ho1
         have hb1 : Below w0.heap.size w0 w1 := ((Below.refl _ _).alloc (Nat.le_refl _) _).grown hg1 (by simp) (fun j hj => by injection hj with hj; subst hj; exact Nat.le_refl _)
         have hB1 := (hB.also (b01.trans (hb1.mono b01.size)))
         have z1 := z0.eq (hb1.block w.heap.size z0.lt)
         have hby1 : Byt w1 A1 l := (Own.of_row ho1 HM.out.symm).mono fun _ _ => trivial
         clear hg1 ha1 x0 x1 x2 x3 x4
         have x0 : w1.cell? ⟨w.heap.size, 0, none⟩ = some (.int .i64 2) := z1.cell 0 rfl
         have x1 : w1.cell? ⟨w.heap.size, 1, none⟩ = some (.int .i64 n) := z1.cell 1 rfl
         have x2 : w1.cell? ⟨w.heap.size, 2, none⟩ = some (.int .i64 fl) := z1.cell 2 rfl)
      | fail)
    refine wp_region_T #[[], [], [], [2], [], [], [], [2, 6], [2, 6], [2, 6]] [2, 6] (fun w' => w'.cell? ⟨w.heap.size, 1, none⟩ = some (.int .i64 n) ∧ True) 10 rfl (by kernel_rfl) ?_
    (refine wpAnyT_free (i := 0) rfl (by kernel_rfl) rfl (fun _ _ _ h => h) (by kernel_rfl) (fun _ => by go_simp; try rfl) ?_; (try simp only [Act.put, List.setIfInBounds_toArray, List.set_cons_zero, List.set_cons_succ]))
    (refine wpAnyT_free (i := 1) rfl (by kernel_rfl) rfl (fun _ _ _ h => h) (by kernel_rfl) (fun _ => by go_simp; try rfl) ?_; (try simp only [Act.put, List.setIfInBounds_toArray, List.set_cons_zero, List.set_cons_succ]))
    (refine wpAnyT_read (i := 2) rfl (by kernel_rfl) rfl (fun _ _ _ h => h) (by kernel_rfl) (⟨x1, trivial⟩) (fun w hS_ => by obtain ⟨s_1, s_2⟩ := hS_; go_simp; try rfl) ?_; (try simp only [Act.put, List.setIfInBounds_toArray, List.set_cons_zero, List.set_cons_succ]))
    (refine wpAnyT_free (i := 4) rfl (by kernel_rfl) rfl (fun _ _ _ h => h) (by kernel_rfl) (fun _ => by go_simp; try rfl) ?_; (try simp only [Act.put, List.setIfInBounds_toArray, List.set_cons_zero, List.set_cons_succ]))
    (refine wpAnyT_free (i := 5) rfl (by kernel_rfl) rfl (fun _ _ _ h => h) (by kernel_rfl) (fun _ => by go_simp; try rfl) ?_; (try simp only [Act.put, List.setIfInBounds_toArray, List.set_cons_zero, List.set_cons_succ]))
    (refine wpAnyT_read (i := 6) rfl (by kernel_rfl) rfl (fun _ _ _ h => h) (by kernel_rfl) (⟨x1, trivial⟩) (fun w hS_ => by obtain ⟨s_1, s_2⟩ := hS_; go_simp; try rfl) ?_; (try simp only [Act.put, List.setIfInBounds_toArray, List.set_cons_zero, List.set_cons_succ]))
    refine wpAnyT_one (i := 3) rfl (by kernel_rfl) rfl ?_
    intro K_ hK_
    go_wp2_with ((go_at_call 14; have hop := cut_2 hB1.drewB n; refine hop.mono ?_; rintro e w2 ⟨rfl, h2, k2, f2⟩; clear hop; have zz := z1.eq (f2 _ ⟨Nat.le_refl _, z1.lt⟩); have y1 : w2.cell? ⟨w.heap.size, 1, none⟩ = some (.int .i64 n) := zz.cell 1 rfl; have y2 : w2.cell? ⟨w.heap.size, 2, none⟩ = some (.int .i64 fl) := zz.cell 2 rfl))
    refine hK_ _ _ ?_ ?_
    · exact fun _ _ => ⟨y1, trivial⟩
    clear hK_ K_
    (try simp only [Act.put, List.setIfInBounds_toArray, List.set_cons_zero, List.set_cons_succ])
    refine wpAnyT_sink (i := 7) rfl (by kernel_rfl) rfl (by kernel_rfl) ?_
    intro K_ hK_
    go_wp2_with ((go_at_call 30; have hop := refCut_2 h2 n; refine hop.mono ?_; rintro e w3 ⟨rfl, h3, k3, f3⟩; clear hop h2; have RF := ref_cut (D := D) n; rw [← RF.2]))
    (try (refine hK_ _ _ ?_; clear hK_ K_))
    (try simp only [Act.put, List.setIfInBounds_toArray, List.set_cons_zero, List.set_cons_succ])
    (refine wpAnyT_free (i := 8) rfl (by kernel_rfl) rfl (fun _ _ _ h => h) (by kernel_rfl) (fun _ => by go_simp; try rfl) ?_; (try simp only [Act.put, List.setIfInBounds_toArray, List.set_cons_zero, List.set_cons_succ]))
    (refine wpAnyT_free (i := 9) rfl (by kernel_rfl) rfl (fun _ _ _ h => h) (by kernel_rfl) (fun _ => by go_simp; try rfl) ?_; (try simp only [Act.put, List.setIfInBounds_toArray, List.set_cons_zero, List.set_cons_succ]))
    refine wpAnyT_done (by kernel_rfl) ?_ _
    rw [← RF.1] at h3
    generalize hQ : D.cut n = q at *
    obtain ⟨D2, cd⟩ := q
    obtain rfl : D2 = D' := by have := HD.out; simp only [Dk.act2] at this; simpa [hQ] using this
    simp only at h3
    have hgA := ho1.lt
    have ho3 := ownsRow_bk2 (ownsRow_bk2 ho1 k2) k3
    clear RF HD ho1 hby1 hB1 z1 z0 hb1 b01 x0 x1 x2 f2 f3 zz y1 y2
    try simp only
    go_wp2_with fail
    go_loopw [74] (fun i wr => ∃ (p : Nat) (lp : List UInt8), p ≤ m ∧ i = .int .i64 p ∧ lp.length = m ∧ wr.ownsRow w0.heap.size TB 1 (.slice A1 m c1) m (lp.map byteV) ∧ Both (Nw w w1) W wr b r D2 D2.ref) (fun i _ => m - (intOf i).toNat)
    case atStart => exact ⟨0, l, by omega, rfl, HM.out, ho3, h3⟩
    case round =>
      obtain ⟨p, lp, hp, rfl, hlp, hop, hbt⟩ := hrel
      have HLP := Lib.hid hlp
      clear hlp ho3 h3
      by_cases hpm : p < m
      · obtain ⟨x, hx⟩ : ∃ x, lp[p]? = some x := ⟨_, List.getElem?_eq_getElem (by rw [HLP.out]; exact hpm)⟩
        obtain ⟨y, hy⟩ := xor255 x
        obtain ⟨g, cap, hv, hg1, hg2⟩ := hop.form (by omega)
        obtain ⟨rfl, rfl⟩ : A1 = some ⟨g, 0, none⟩ ∧ c1 = cap := by injection hv with h1 _ h2; exact ⟨h1, h2⟩
        obtain ⟨hg3, hg4⟩ := hgA g rfl
        have hxc : wr.cell? ⟨g, p, none⟩ = some (.int .u8 (x.toNat : Int)) := by
          rw [hop.cellAt _ (by omega), List.getElem?_map, hx]; rfl
        have hxf := hop.frozenAt p
        have hst := (hop.stored p (byteV y)).1
        rw [← List.map_set] at hst
        have hwW := HW.out
        have hb2 := hbt.far (p := ⟨g, p, none⟩) ⟨by show w.heap.size ≤ g; omega, hg4⟩ (by show W.heap.size ≤ g; omega) (byteV y)
        unfold byteV at hst hb2
        have hpm' : (p : Int) < (m : Int) := by omega
        clear hx hv
        go_wp2
        go_roundw
        case rel => exact ⟨p + 1, lp.set p y, by omega, by go_num, by rw [List.length_set]; exact HLP.out, hst, hb2⟩
        case measure => simp [intOf]; omega
      · obtain rfl : p = m := by omega
        go_wp2
        go_ret
        exact ⟨rfl, hbt.non⟩
  by_cases kz3 : kd = 3
  · subst kz3
    go_wp2_with (first
      | (at_builtin
         refine wpList_appB rfl (.tmp 11) (.tmp 18) 23 rfl i Try.underlying23 hi hz hs hby w0.heap.size (.slice (some ⟨w0.heap.size, 0, none⟩) 0 0) 0 [] rfl (ownsB_none w0) Non B m cb l rfl HM.out (((hr.arg hB.below) Non (fun _ h => h.elim)).fr ((Fr.of_below b01).alloc _)) (by omega) (by simp) ?_
         intro v1 w1 ho1 hg1 ha1
         rw [Nat.zero_add, List.nil_append] at ho1
         obtain ⟨A1, c1, rfl, hc1, hm1⟩ := own_val ho1
         have hb1 : Below w0.heap.size w0 w1 := ((Below.refl _ _).alloc (Nat.le_refl _) _).grown hg1 (by simp) (fun j hj => by injection hj with hj; subst hj; exact Nat.le_refl _)
         have hB1 := (hB.also (b01.trans (hb1.mono b01.size)))
         have z1 := z0.eq (hb1.block w.heap.size z0.lt)
         have hby1 : Byt w1 A1 l := (Own.of_row ho1 HM.out.symm).mono fun _ _ => trivial
         clear hg1 ha1 x0 x1 x2 x3 x4
         have x0 : w1.cell? ⟨w.heap.size, 0, none⟩ = some (.int .i64 3) := z1.cell 0 rfl
         have x1 : w1.cell? ⟨w.heap.size, 1, none⟩ = some (.int .i64 n) := z1.cell 1 rfl
         have x2 : w1.cell? ⟨w.heap.size, 2, none⟩ = some (.int .i64 fl) := z1.cell 2 rfl)
      | (go_at_call 10; have hop := swap_2 hB1 A1 l c1 (by rw [HM.out]; omega) hby1; rw [HM.out] at hop; refine hop.mono ?_; rintro e w2 ⟨rfl, h2, k2, f2⟩; clear hop)
      | (go_at_call 31; have hop := refSwap_2 h2 A1 l c1 (by rw [HM.out]; omega) (hby1.bk k2); rw [HM.out] at hop; refine hop.mono ?_; rintro e w3 ⟨rfl, h3, k3, f3⟩; clear hop h2; have RF := ref_swap (D := D) l; rw [← RF.2])
      | fail)
    rw [← RF.1] at h3
    generalize hQ : D.swap l = q at *
    obtain ⟨D2, cd⟩ := q
    obtain rfl : D2 = D' := by have := HD.out; simp only [Dk.act2] at this; simpa [HL.out, hQ] using this
    simp only at h3
    have hgA := ho1.lt
    have ho3 := ownsRow_bk2 (ownsRow_bk2 ho1 k2) k3
    clear RF HD ho1 hby1 hB1 z1 z0 hb1 b01 x0 x1 x2 f2 f3
    try simp only
    go_wp2_with fail
    go_loopw [74] (fun i wr => ∃ (p : Nat) (lp : List UInt8), p ≤ m ∧ i = .int .i64 p ∧ lp.length = m ∧ wr.ownsRow w0.heap.size TB 1 (.slice A1 m c1) m (lp.map byteV) ∧ Both (Nw w w1) W wr b r D2 D2.ref) (fun i _ => m - (intOf i).toNat)
    case atStart => exact ⟨0, l, by omega, rfl, HM.out, ho3, h3⟩
    case round =>
      obtain ⟨p, lp, hp, rfl, hlp, hop, hbt⟩ := hrel
      have HLP := Lib.hid hlp
      clear hlp ho3 h3
      by_cases hpm : p < m
      · obtain ⟨x, hx⟩ : ∃ x, lp[p]? = some x := ⟨_, List.getElem?_eq_getElem (by rw [HLP.out]; exact hpm)⟩
        obtain ⟨y, hy⟩ := xor255 x
        obtain ⟨g, cap, hv, hg1, hg2⟩ := hop.form (by omega)
        obtain ⟨rfl, rfl⟩ : A1 = some ⟨g, 0, none⟩ ∧ c1 = cap := by injection hv with h1 _ h2; exact ⟨h1, h2⟩
        obtain ⟨hg3, hg4⟩ := hgA g rfl
        have hxc : wr.cell? ⟨g, p, none⟩ = some (.int .u8 (x.toNat : Int)) := by
          rw [hop.cellAt _ (by omega), List.getElem?_map, hx]; rfl
        have hxf := hop.frozenAt p
        have hst := (hop.stored p (byteV y)).1
        rw [← List.map_set] at hst
        have hwW := HW.out
        have hb2 := hbt.far (p := ⟨g, p, none⟩) ⟨by show w.heap.size ≤ g; omega, hg4⟩ (by show W.heap.size ≤ g; omega) (byteV y)
        unfold byteV at hst hb2
        have hpm' : (p : Int) < (m : Int) := by omega
        clear hx hv
        go_wp2
        go_roundw
        case rel => exact ⟨p + 1, lp.set p y, by omega, by go_num, by rw [List.length_set]; exact HLP.out, hst, hb2⟩
        case measure => simp [intOf]; omega
      · obtain rfl : p = m := by omega
        go_wp2
        go_ret
        exact ⟨rfl, hbt.non⟩
  by_cases kz4 : kd = 4
  · subst kz4
    go_wp2_with (first
      | (at_builtin
         refine wpList_appB rfl (.tmp 11) (.tmp 18) 23 rfl i Try.underlying23 hi hz hs hby w0.heap.size (.slice (some ⟨w0.heap.size, 0, none⟩) 0 0) 0 [] rfl (ownsB_none w0) Non B m cb l rfl HM.out (((hr.arg hB.below) Non (fun _ h => h.elim)).fr ((Fr.of_below b01).alloc _)) (by omega) (by simp) ?_
         intro v1 w1 ho1 hg1 ha1
         rw [Nat.zero_add, List.nil_append] at ho1
         obtain ⟨A1, c1, rfl, hc1, hm1⟩ := own_val ho1
         have hb1 : Below w0.heap.size w0 w1 := ((Below.refl _ _).alloc (Nat.le_refl _) _).grown hg1 (by simp) (fun j hj => by injection hj with hj; subst hj; exact Nat.le_refl _)
         have hB1 := (hB.also (b01.trans (hb1.mono b01.size)))
         have z1 := z0.eq (hb1.block w.heap.size z0.lt)
         have hby1 : Byt w1 A1 l := (Own.of_row ho1 HM.out.symm).mono fun _ _ => trivial
         clear hg1 ha1 x0 x1 x2 x3 x4
         have x0 : w1.cell? ⟨w.heap.size, 0, none⟩ = some (.int .i64 4) := z1.cell 0 rfl
         have x1 : w1.cell? ⟨w.heap.size, 1, none⟩ = some (.int .i64 n) := z1.cell 1 rfl
         have x2 : w1.cell? ⟨w.heap.size, 2, none⟩ = some (.int .i64 fl) := z1.cell 2 rfl)
      | fail)
    refine wp_region_T #[[], [], [], [], [], [2, 4], [], [], [], [], [], [2, 4, 8, 10], [2, 4, 8, 10], [2, 4, 8, 10]] [2, 4, 8, 10] (fun w' => w'.cell? ⟨w.heap.size, 1, none⟩ = some (.int .i64 n) ∧ w'.cell? ⟨w.heap.size, 2, none⟩ = some (.int .i64 fl)) 14 rfl (by kernel_rfl) ?_
    (refine wpAnyT_free (i := 0) rfl (by kernel_rfl) rfl (fun _ _ _ h => h) (by kernel_rfl) (fun _ => by go_simp; try rfl) ?_; (try simp only [Act.put, List.setIfInBounds_toArray, List.set_cons_zero, List.set_cons_succ]))
    (refine wpAnyT_free (i := 1) rfl (by kernel_rfl) rfl (fun _ _ _ h => h) (by kernel_rfl) (fun _ => by go_simp; try rfl) ?_; (try simp only [Act.put, List.setIfInBounds_toArray, List.set_cons_zero, List.set_cons_succ]))
    (refine wpAnyT_read (i := 2) rfl (by kernel_rfl) rfl (fun _ _ _ h => h) (by kernel_rfl) (⟨x1, x2⟩) (fun w hS_ => by obtain ⟨s_1, s_2⟩ := hS_; go_simp; try rfl) ?_; (try simp only [Act.put, List.setIfInBounds_toArray, List.set_cons_zero, List.set_cons_succ]))
    (refine wpAnyT_free (i := 3) rfl (by kernel_rfl) rfl (fun _ _ _ h => h) (by kernel_rfl) (fun _ => by go_simp; try rfl) ?_; (try simp only [Act.put, List.setIfInBounds_toArray, List.set_cons_zero, List.set_cons_succ]))
    (refine wpAnyT_read (i := 4) rfl (by kernel_rfl) rfl (fun _ _ _ h => h) (by kernel_rfl) (⟨x1, x2⟩) (fun w hS_ => by obtain ⟨s_1, s_2⟩ := hS_; go_simp; try rfl) ?_; (try simp only [Act.put, List.setIfInBounds_toArray, List.set_cons_zero, List.set_cons_succ]))
    (refine wpAnyT_free (i := 6) rfl (by kernel_rfl) rfl (fun _ _ _ h => h) (by kernel_rfl) (fun _ => by go_simp; try rfl) ?_; (try simp only [Act.put, List.setIfInBounds_toArray, List.set_cons_zero, List.set_cons_succ]))
    (refine wpAnyT_free (i := 7) rfl (by kernel_rfl) rfl (fun _ _ _ h => h) (by kernel_rfl) (fun _ => by go_simp; try rfl) ?_; (try simp only [Act.put, List.setIfInBounds_toArray, List.set_cons_zero, List.set_cons_succ]))
    (refine wpAnyT_read (i := 8) rfl (by kernel_rfl) rfl (fun _ _ _ h => h) (by kernel_rfl) (⟨x1, x2⟩) (fun w hS_ => by obtain ⟨s_1, s_2⟩ := hS_; go_simp; try rfl) ?_; (try simp only [Act.put, List.setIfInBounds_toArray, List.set_cons_zero, List.set_cons_succ]))
    (refine wpAnyT_free (i := 9) rfl (by kernel_rfl) rfl (fun _ _ _ h => h) (by kernel_rfl) (fun _ => by go_simp; try rfl) ?_; (try simp only [Act.put, List.setIfInBounds_toArray, List.set_cons_zero, List.set_cons_succ]))
    (refine wpAnyT_read (i := 10) rfl (by kernel_rfl) rfl (fun _ _ _ h => h) (by kernel_rfl) (⟨x1, x2⟩) (fun w hS_ => by obtain ⟨s_1, s_2⟩ := hS_; go_simp; try rfl) ?_; (try simp only [Act.put, List.setIfInBounds_toArray, List.set_cons_zero, List.set_cons_succ]))
    refine wpAnyT_one (i := 5) rfl (by kernel_rfl) rfl ?_
    intro K_ hK_
    go_wp2_with ((go_at_call 11; have hop := crash_2 hB1.drewB n fl inn ifl; refine hop.mono ?_; rintro e w2 ⟨rfl, h2, k2, f2⟩; clear hop; have zz := z1.eq (f2 _ ⟨Nat.le_refl _, z1.lt⟩); have y1 : w2.cell? ⟨w.heap.size, 1, none⟩ = some (.int .i64 n) := zz.cell 1 rfl; have y2 : w2.cell? ⟨w.heap.size, 2, none⟩ = some (.int .i64 fl) := zz.cell 2 rfl))
    refine hK_ _ _ ?_ ?_
    · exact fun _ _ => ⟨y1, y2⟩
    clear hK_ K_
    (try simp only [Act.put, List.setIfInBounds_toArray, List.set_cons_zero, List.set_cons_succ])
    refine wpAnyT_sink (i := 11) rfl (by kernel_rfl) rfl (by kernel_rfl) ?_
    intro K_ hK_
    go_wp2_with ((go_at_call 32; have hop := refCrash_2 h2 n fl inn ifl (by have := HOK.out.2; show (D.all.drop D.kept).length ≤ _; rw [List.length_drop]; omega); refine hop.mono ?_; rintro e w3 ⟨rfl, h3, k3, f3⟩; clear hop h2; have RF := ref_crash HOK.out n fl; rw [← RF.2]))
    (try (refine hK_ _ _ ?_; clear hK_ K_))
    (try simp only [Act.put, List.setIfInBounds_toArray, List.set_cons_zero, List.set_cons_succ])
    (refine wpAnyT_free (i := 12) rfl (by kernel_rfl) rfl (fun _ _ _ h => h) (by kernel_rfl) (fun _ => by go_simp; try rfl) ?_; (try simp only [Act.put, List.setIfInBounds_toArray, List.set_cons_zero, List.set_cons_succ]))
    (refine wpAnyT_free (i := 13) rfl (by kernel_rfl) rfl (fun _ _ _ h => h) (by kernel_rfl) (fun _ => by go_simp; try rfl) ?_; (try simp only [Act.put, List.setIfInBounds_toArray, List.set_cons_zero, List.set_cons_succ]))
    refine wpAnyT_done (by kernel_rfl) ?_ _
    rw [← RF.1] at h3
    generalize hQ : D.crash n fl = q at *
    obtain ⟨D2, cd⟩ := q
    obtain rfl : D2 = D' := by have := HD.out; simp only [Dk.act2] at this; simpa [hQ] using this
    simp only at h3
    have hgA := ho1.lt
    have ho3 := ownsRow_bk2 (ownsRow_bk2 ho1 k2) k3
    clear RF HD ho1 hby1 hB1 z1 z0 hb1 b01 x0 x1 x2 f2 f3 zz y1 y2
    try simp only
    go_wp2_with fail
    go_loopw [74] (fun i wr => ∃ (p : Nat) (lp : List UInt8), p ≤ m ∧ i = .int .i64 p ∧ lp.length = m ∧ wr.ownsRow w0.heap.size TB 1 (.slice A1 m c1) m (lp.map byteV) ∧ Both (Nw w w1) W wr b r D2 D2.ref) (fun i _ => m - (intOf i).toNat)
    case atStart => exact ⟨0, l, by omega, rfl, HM.out, ho3, h3⟩
    case round =>
      obtain ⟨p, lp, hp, rfl, hlp, hop, hbt⟩ := hrel
      have HLP := Lib.hid hlp
      clear hlp ho3 h3
      by_cases hpm : p < m
      · obtain ⟨x, hx⟩ : ∃ x, lp[p]? = some x := ⟨_, List.getElem?_eq_getElem (by rw [HLP.out]; exact hpm)⟩
        obtain ⟨y, hy⟩ := xor255 x
        obtain ⟨g, cap, hv, hg1, hg2⟩ := hop.form (by omega)
        obtain ⟨rfl, rfl⟩ : A1 = some ⟨g, 0, none⟩ ∧ c1 = cap := by injection hv with h1 _ h2; exact ⟨h1, h2⟩
        obtain ⟨hg3, hg4⟩ := hgA g rfl
        have hxc : wr.cell? ⟨g, p, none⟩ = some (.int .u8 (x.toNat : Int)) := by
          rw [hop.cellAt _ (by omega), List.getElem?_map, hx]; rfl
        have hxf := hop.frozenAt p
        have hst := (hop.stored p (byteV y)).1
        rw [← List.map_set] at hst
        have hwW := HW.out
        have hb2 := hbt.far (p := ⟨g, p, none⟩) ⟨by show w.heap.size ≤ g; omega, hg4⟩ (by show W.heap.size ≤ g; omega) (byteV y)
        unfold byteV at hst hb2
        have hpm' : (p : Int) < (m : Int) := by omega
        clear hx hv
        go_wp2
        go_roundw
        case rel => exact ⟨p + 1, lp.set p y, by omega, by go_num, by rw [List.length_set]; exact HLP.out, hst, hb2⟩
        case measure => simp [intOf]; omega
      · obtain rfl : p = m := by omega
        go_wp2
        go_ret
        exact ⟨rfl, hbt.non⟩
  · have n0 : (kd == 0) = false := by simpa using kz0
    have n1 : (kd == 1) = false := by simpa using kz1
    have n2 : (kd == 2) = false := by simpa using kz2
    have n3 : (kd == 3) = false := by simpa using kz3
    have n4 : (kd == 4) = false := by simpa using kz4
    go_wp2_with (first
      | (at_builtin
         refine wpList_appB rfl (.tmp 11) (.tmp 18) 23 rfl i Try.underlying23 hi hz hs hby w0.heap.size (.slice (some ⟨w0.heap.size, 0, none⟩) 0 0) 0 [] rfl (ownsB_none w0) Non B m cb l rfl HM.out (((hr.arg hB.below) Non (fun _ h => h.elim)).fr ((Fr.of_below b01).alloc _)) (by omega) (by simp) ?_
         intro v1 w1 ho1 hg1 ha1
         rw [Nat.zero_add, List.nil_append] at ho1
         obtain ⟨A1, c1, rfl, hc1, hm1⟩ := own_val ho1
         have hb1 : Below w0.heap.size w0 w1 := ((Below.refl _ _).alloc (Nat.le_refl _) _).grown hg1 (by simp) (fun j hj => by injection hj with hj; subst hj; exact Nat.le_refl _)
         have hB1 := (hB.also (b01.trans (hb1.mono b01.size)))
         have z1 := z0.eq (hb1.block w.heap.size z0.lt)
         have hby1 : Byt w1 A1 l := (Own.of_row ho1 HM.out.symm).mono fun _ _ => trivial
         clear hg1 ha1 x0 x1 x2 x3 x4
         have x0 : w1.cell? ⟨w.heap.size, 0, none⟩ = some (.int .i64 kd) := z1.cell 0 rfl
         have x1 : w1.cell? ⟨w.heap.size, 1, none⟩ = some (.int .i64 n) := z1.cell 1 rfl
         have x2 : w1.cell? ⟨w.heap.size, 2, none⟩ = some (.int .i64 fl) := z1.cell 2 rfl)
      | (go_at_call 12; have hop := restart_2 hB1; refine hop.mono ?_; rintro e w2 ⟨rfl, h2, k2, f2⟩; clear hop)
      | (go_at_call 33; have hop := refRestart_2 h2; refine hop.mono ?_; rintro e w3 ⟨rfl, h3, k3, f3⟩; clear hop h2; have RF := ref_restart (D := D); rw [← RF.2])
      | fail)
    rw [← RF.1] at h3
    generalize hQ : D.restart = q at *
    obtain ⟨D2, cd⟩ := q
    obtain rfl : D2 = D' := by have := HD.out; simp only [Dk.act2] at this; simpa [kz0, kz1, kz2, kz3, kz4, hQ] using this
    simp only at h3
    have hgA := ho1.lt
    have ho3 := ownsRow_bk2 (ownsRow_bk2 ho1 k2) k3
    clear RF HD ho1 hby1 hB1 z1 z0 hb1 b01 x0 x1 x2 f2 f3
    try simp only
    go_wp2_with fail
    go_loopw [74] (fun i wr => ∃ (p : Nat) (lp : List UInt8), p ≤ m ∧ i = .int .i64 p ∧ lp.length = m ∧ wr.ownsRow w0.heap.size TB 1 (.slice A1 m c1) m (lp.map byteV) ∧ Both (Nw w w1) W wr b r D2 D2.ref) (fun i _ => m - (intOf i).toNat)
    case atStart => exact ⟨0, l, by omega, rfl, HM.out, ho3, h3⟩
    case round =>
      obtain ⟨p, lp, hp, rfl, hlp, hop, hbt⟩ := hrel
      have HLP := Lib.hid hlp
      clear hlp ho3 h3
      by_cases hpm : p < m
      · obtain ⟨x, hx⟩ : ∃ x, lp[p]? = some x := ⟨_, List.getElem?_eq_getElem (by rw [HLP.out]; exact hpm)⟩
        obtain ⟨y, hy⟩ := xor255 x
        obtain ⟨g, cap, hv, hg1, hg2⟩ := hop.form (by omega)
        obtain ⟨rfl, rfl⟩ : A1 = some ⟨g, 0, none⟩ ∧ c1 = cap := by injection hv with h1 _ h2; exact ⟨h1, h2⟩
        obtain ⟨hg3, hg4⟩ := hgA g rfl
        have hxc : wr.cell? ⟨g, p, none⟩ = some (.int .u8 (x.toNat : Int)) := by
          rw [hop.cellAt _ (by omega), List.getElem?_map, hx]; rfl
        have hxf := hop.frozenAt p
        have hst := (hop.stored p (byteV y)).1
        rw [← List.map_set] at hst
        have hwW := HW.out
        have hb2 := hbt.far (p := ⟨g, p, none⟩) ⟨by show w.heap.size ≤ g; omega, hg4⟩ (by show W.heap.size ≤ g; omega) (byteV y)
        unfold byteV at hst hb2
        have hpm' : (p : Int) < (m : Int) := by omega
        clear hx hv
        go_wp2
        go_roundw
        case rel => exact ⟨p + 1, lp.set p y, by omega, by go_num, by rw [List.length_set]; exact HLP.out, hst, hb2⟩
        case measure => simp [intOf]; omega
      · obtain rfl : p = m := by omega
        go_wp2
        go_ret
        exact ⟨rfl, hbt.non⟩
end Go.Proofs.Ytediidajdpdeiaa
