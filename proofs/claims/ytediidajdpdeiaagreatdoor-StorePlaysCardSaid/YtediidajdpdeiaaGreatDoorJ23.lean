/- A call on both stores (layer 8): Promise, Sync, Snapshot, Forget, Crash, Restart; the walks. -/
import Derived.Test.YtediidajdpdeiaaGreatDoorJ22

namespace Go.Proofs.YtediidajdpdeiaaGreatDoor
open Go.RowKit CrcM
set_option maxRecDepth 100000

set_option maxHeartbeats 4000000 in
theorem does_promise8 {W w : World} {b r k : Nat} {s : So} {st0 : St} {rcs : List Rc} (h : BothS W w b r s s.per s.log st0) (hh : HalfAt W) (hf : s.Fine 301 k st0 rcs) (hk : k < 100) (kd n sl fl : Int) (bb : List UInt8) (B : Option Addr) (cb : Nat) (hcb : bb.length ≤ cb) (_hcm : cb ≤ maxLen) (hB : RdB W B bb) (_inn : i64 n) (_isl : i64 sl) (_ifl : i64 fl) (hkd : kd = 0) :
    Calls Tryz.prog 12 #[.pointer (some ⟨b, 0, none⟩), .pointer (some ⟨r, 0, none⟩), .agg #[.int .i64 kd, .int .i64 n, .int .i64 sl, .int .i64 fl, .slice B bb.length cb]] w (DoesDid8 W b r (k + 1)) := by
  obtain ⟨iu, hiu, hzu, hsu, hbu⟩ := info_parts info_u8
  have hi := hf.inv
  obtain ⟨l, hl⟩ : ∃ l, l = bb.take 300 := ⟨_, rfl⟩
  obtain ⟨m, hm⟩ : ∃ m, l.length = m := ⟨_, rfl⟩
  have l1 : m ≤ bb.length := by rw [← hm, hl, List.length_take]; omega
  have l2 : m ≤ 300 := by rw [← hm, hl, List.length_take]; omega
  have l3 : (m : Int) ≤ (cb : Int) := by omega
  have hr : RdB W B l := hl ▸ hB.take 300
  have hmin := fun w => min300 bb l m hl hm w
  have HM := Lib.hid hm
  clear hm hl hB
  have hb1 := below_new w (.cells #[.int .i64 kd, .int .i64 n, .int .i64 sl, .int .i64 fl, .slice B bb.length cb] TA8)
  have B1 := Blk.new w TA8 #[.int .i64 kd, .int .i64 n, .int .i64 sl, .int .i64 fl, .slice B bb.length cb]
  have hlt1 := B1.lt
  have f4 := B1.cell 4 (v := .slice B bb.length cb) rfl
  have B2 := B1.alloc (.cells #[] TB)
  have f4' := B2.cell 4 (v := .slice B bb.length cb) rfl
  have hb2 : Below w.heap.size w ((w.alloc (.cells #[.int .i64 kd, .int .i64 n, .int .i64 sl, .int .i64 fl, .slice B bb.length cb] TA8)).alloc (.cells #[] TB)) := hb1.alloc hb1.size _
  have how := act8_row w (.cells #[.int .i64 kd, .int .i64 n, .int .i64 sl, .int .i64 fl, .slice B bb.length cb] TA8)
  have hrr := (hr.arg (h.mono hb2).below) Non (fun _ h => h.elim)
  have e1 : (w.alloc (.cells #[.int .i64 kd, .int .i64 n, .int .i64 sl, .int .i64 fl, .slice B bb.length cb] TA8)).heap.size = w.heap.size + 1 := by simp
  have key := does_key8 h kd n sl fl B bb.length cb l m
  subst hkd
  obtain ⟨rs', hf'⟩ := (hf.calls8 (by omega)).1 n
  have hper := promise_per s n
  have hc1 : ∀ w' T, LiveS W w' b s T → Calls Tryz.prog 62 #[.pointer (some ⟨b, 0, none⟩), .int .i64 n] w' (LiveSDid W w' b T (s.promise n)) := fun w' T hT => promise_S hT hh hi n
  have hc2 : ∀ w' T, IsRef8 T w' r s.per s.log st0 → Calls Tryz.prog 63 #[.pointer (some ⟨r, 0, none⟩), .int .i64 n] w' (RefDid8 T w' r s.per (s.promise n).1.log st0 (s.promise n).2) := fun w' T ⟨_, _, _, _, _, _, _, _, _, h2⟩ => refPromise_B8 h2 hi n
  obtain ⟨⟨s', q⟩, hsq⟩ : ∃ x, s.promise n = x := ⟨_, rfl⟩
  rw [hsq] at hc1 hc2 hf' hper
  simp only at hc1 hc2 hf' hper
  clear hsq
  go_enter Tryz.func12, Tryz.ntmps12
  go_wp2_with (first
    | (at_builtin; refine wpList_appB rfl (.tmp 13) (.tmp 20) 30 rfl iu Tryz.underlying30 hiu hzu hsu hbu (w.heap.size + 1) _ 0 [] rfl how Non B m cb l rfl HM.out hrr (by omega) (by simp) ?_; intro v3 w3 hown hgrow hat; obtain ⟨A3, c3, rfl, hown3, hc3, hm3, hb3, hl3, h3, g0, g1, g2, g3⟩ := key v3 w3 hown hgrow; clear hown hgrow hat key))
  refine wp_region_T #[[], [], [], [2], [], [], [], [2, 6], [2, 6], [2, 6]] [2, 6] (fun w' => w'.cell? ⟨w.heap.size, 1, none⟩ = some (.int .i64 n) ∧ True) 10 rfl (by kernel_rfl) ?_
  (refine wpF (i := 0) rfl (by kernel_rfl) rfl (fun _ _ _ h => h) (fun _ => by go_simp; try rfl) ?_; (try simp only [Act.put, sA, sB, sC]))
  (refine wpF (i := 1) rfl (by kernel_rfl) rfl (fun _ _ _ h => h) (fun _ => by go_simp; try rfl) ?_; (try simp only [Act.put, sA, sB, sC]))
  (refine wpAnyT_read (i := 2) rfl (by kernel_rfl) rfl (fun _ _ _ h => h) (by kernel_rfl) (⟨g1, trivial⟩) (fun w hS_ => by obtain ⟨s_1, s_2⟩ := hS_; go_simp; try rfl) ?_; (try simp only [Act.put, sA, sB, sC]))
  (refine wpF (i := 4) rfl (by kernel_rfl) rfl (fun _ _ _ h => h) (fun _ => by go_simp; try rfl) ?_; (try simp only [Act.put, sA, sB, sC]))
  (refine wpF (i := 5) rfl (by kernel_rfl) rfl (fun _ _ _ h => h) (fun _ => by go_simp; try rfl) ?_; (try simp only [Act.put, sA, sB, sC]))
  (refine wpAnyT_read (i := 6) rfl (by kernel_rfl) rfl (fun _ _ _ h => h) (by kernel_rfl) (⟨g1, trivial⟩) (fun w hS_ => by obtain ⟨s_1, s_2⟩ := hS_; go_simp; try rfl) ?_; (try simp only [Act.put, sA, sB, sC]))
  refine wpAnyT_one (i := 3) rfl (by kernel_rfl) rfl ?_
  intro K_ hK_
  go_wp2_with ((go_at_call 62; refine (h.storeK hb3.drew (fun T hT => hc1 _ T hT)).mono ?_; rintro e w4 ⟨rfl, h4, -, -, q4⟩))
  refine hK_ _ _ ?_ ?_
  · exact fun _ _ => ⟨(cell_eq (a := ⟨w.heap.size, 1, none⟩) (q4 w.heap.size (Nat.le_refl _) hl3)).trans g1, trivial⟩
  clear hK_ K_
  (try simp only [Act.put, sA, sB, sC])
  refine wpAnyT_sink (i := 7) rfl (by kernel_rfl) rfl (by kernel_rfl) ?_
  intro K_ hK_
  go_wp2_with ((go_at_call 63; refine (h4.refd (fun T hT => hc2 _ T hT)).mono ?_; rintro e w5 ⟨rfl, h5⟩))
  (try (refine hK_ _ _ ?_; clear hK_ K_))
  (try simp only [Act.put, sA, sB, sC])
  (refine wpF (i := 8) rfl (by kernel_rfl) rfl (fun _ _ _ h => h) (fun _ => by go_simp; try rfl) ?_; (try simp only [Act.put, sA, sB, sC]))
  (refine wpF (i := 9) rfl (by kernel_rfl) rfl (fun _ _ _ h => h) (fun _ => by go_simp; try rfl) ?_; (try simp only [Act.put, sA, sB, sC]))
  refine wpAnyT_done (by kernel_rfl) ?_ _
  go_wp2
  go_ret
  exact ⟨by simp, s', st0, rs', by rw [hper]; exact h5, hf'⟩
set_option maxHeartbeats 4000000 in
theorem does_sync8 {W w : World} {b r k : Nat} {s : So} {st0 : St} {rcs : List Rc} (h : BothS W w b r s s.per s.log st0) (_hh : HalfAt W) (hf : s.Fine 301 k st0 rcs) (hk : k < 100) (kd n sl fl : Int) (bb : List UInt8) (B : Option Addr) (cb : Nat) (hcb : bb.length ≤ cb) (_hcm : cb ≤ maxLen) (hB : RdB W B bb) (_inn : i64 n) (_isl : i64 sl) (_ifl : i64 fl) (hkd : kd = 2) :
    Calls Tryz.prog 12 #[.pointer (some ⟨b, 0, none⟩), .pointer (some ⟨r, 0, none⟩), .agg #[.int .i64 kd, .int .i64 n, .int .i64 sl, .int .i64 fl, .slice B bb.length cb]] w (DoesDid8 W b r (k + 1)) := by
  obtain ⟨iu, hiu, hzu, hsu, hbu⟩ := info_parts info_u8
  have hi := hf.inv
  obtain ⟨l, hl⟩ : ∃ l, l = bb.take 300 := ⟨_, rfl⟩
  obtain ⟨m, hm⟩ : ∃ m, l.length = m := ⟨_, rfl⟩
  have l1 : m ≤ bb.length := by rw [← hm, hl, List.length_take]; omega
  have l2 : m ≤ 300 := by rw [← hm, hl, List.length_take]; omega
  have l3 : (m : Int) ≤ (cb : Int) := by omega
  have hr : RdB W B l := hl ▸ hB.take 300
  have hmin := fun w => min300 bb l m hl hm w
  have HM := Lib.hid hm
  clear hm hl hB
  have hb1 := below_new w (.cells #[.int .i64 kd, .int .i64 n, .int .i64 sl, .int .i64 fl, .slice B bb.length cb] TA8)
  have B1 := Blk.new w TA8 #[.int .i64 kd, .int .i64 n, .int .i64 sl, .int .i64 fl, .slice B bb.length cb]
  have hlt1 := B1.lt
  have f4 := B1.cell 4 (v := .slice B bb.length cb) rfl
  have B2 := B1.alloc (.cells #[] TB)
  have f4' := B2.cell 4 (v := .slice B bb.length cb) rfl
  have hb2 : Below w.heap.size w ((w.alloc (.cells #[.int .i64 kd, .int .i64 n, .int .i64 sl, .int .i64 fl, .slice B bb.length cb] TA8)).alloc (.cells #[] TB)) := hb1.alloc hb1.size _
  have how := act8_row w (.cells #[.int .i64 kd, .int .i64 n, .int .i64 sl, .int .i64 fl, .slice B bb.length cb] TA8)
  have hrr := (hr.arg (h.mono hb2).below) Non (fun _ h => h.elim)
  have e1 : (w.alloc (.cells #[.int .i64 kd, .int .i64 n, .int .i64 sl, .int .i64 fl, .slice B bb.length cb] TA8)).heap.size = w.heap.size + 1 := by simp
  have key := does_key8 h kd n sl fl B bb.length cb l m
  subst hkd
  obtain ⟨rs', hf'⟩ := (hf.calls8 (by omega)).2.2.1
  have hper : s.sync.1.per = s.per := rfl
  have hlog : s.sync.1.log = s.log.sync.1 := rfl
  have hk2 : s.sync.2 = s.log.sync.2 := rfl
  have hc1 : ∀ w' T, LiveS W w' b s T → Calls Tryz.prog 65 #[.pointer (some ⟨b, 0, none⟩)] w' (LiveSDid W w' b T s.sync) := fun w' T hT => sync_S hT
  have hc2 : ∀ w' T1 H lr A c ps, RlogO T1 H w' lr A c ps s.log.ref → Calls Tryz.prog 66 #[.pointer (some ⟨lr, 0, none⟩)] w' (RlogDid T1 w' (.pointer (some ⟨lr, 0, none⟩)) (s.log.sync.1.ref, s.log.sync.2)) := fun w' T1 H lr A c ps hl => refLogSync_B hl hi.log
  rw [← hlog, ← hk2] at hc2
  obtain ⟨⟨s', q⟩, hsq⟩ : ∃ x, s.sync = x := ⟨_, rfl⟩
  rw [hsq] at hc1 hc2 hf' hper
  simp only at hc1 hc2 hf' hper
  clear hsq
  clear hlog hk2
  go_enter Tryz.func12, Tryz.ntmps12
  go_wp2_with (first
    | (at_builtin; refine wpList_appB rfl (.tmp 13) (.tmp 20) 30 rfl iu Tryz.underlying30 hiu hzu hsu hbu (w.heap.size + 1) _ 0 [] rfl how Non B m cb l rfl HM.out hrr (by omega) (by simp) ?_; intro v3 w3 hown hgrow hat; obtain ⟨A3, c3, rfl, hown3, hc3, hm3, hb3, hl3, h3, g0, g1, g2, g3⟩ := key v3 w3 hown hgrow; clear hown hgrow hat key))
  obtain ⟨lr3, hL3⟩ := h3.logIn
  have p3 := hL3.ptr
  refine wp_region_T #[[], [], [], [], [], [], [5], [5], [5]] [5] (fun w' => w'.cell? ⟨r, 1, none⟩ = some (.pointer (some ⟨lr3, 0, none⟩)) ∧ True) 9 rfl (by kernel_rfl) ?_
  (refine wpF (i := 0) rfl (by kernel_rfl) rfl (fun _ _ _ h => h) (fun _ => by go_simp; try rfl) ?_; (try simp only [Act.put, sA, sB, sC]))
  (refine wpF (i := 2) rfl (by kernel_rfl) rfl (fun _ _ _ h => h) (fun _ => by go_simp; try rfl) ?_; (try simp only [Act.put, sA, sB, sC]))
  (refine wpF (i := 3) rfl (by kernel_rfl) rfl (fun _ _ _ h => h) (fun _ => by go_simp; try rfl) ?_; (try simp only [Act.put, sA, sB, sC]))
  (refine wpF (i := 4) rfl (by kernel_rfl) rfl (fun _ _ _ h => h) (fun _ => by go_simp; try rfl) ?_; (try simp only [Act.put, sA, sB, sC]))
  (refine wpAnyT_read (i := 5) rfl (by kernel_rfl) rfl (fun _ _ _ h => h) (by kernel_rfl) (⟨p3, trivial⟩) (fun w hS_ => by obtain ⟨s_1, s_2⟩ := hS_; go_simp; try rfl) ?_; (try simp only [Act.put, sA, sB, sC]))
  refine wpAnyT_one (i := 1) rfl (by kernel_rfl) rfl ?_
  intro K_ hK_
  go_wp2_with ((go_at_call 65; refine (h.storeK hb3.drew (fun T hT => hc1 _ T hT)).mono ?_; rintro e w4 ⟨rfl, h4, -, r4, -⟩; have p4 := (cell_eq (a := ⟨r, 1, none⟩) r4).trans p3; have hL4 := h4.logAt p4))
  refine hK_ _ _ ?_ ?_
  · exact fun _ _ => ⟨p4, trivial⟩
  clear hK_ K_
  (try simp only [Act.put, sA, sB, sC])
  refine wpAnyT_sink (i := 6) rfl (by kernel_rfl) rfl (by kernel_rfl) ?_
  intro K_ hK_
  go_wp2_with ((go_at_call 66; refine (hL4.turn (fun T1 H A c ps hl => hc2 _ T1 H _ A c ps hl)).mono ?_; rintro e w5 ⟨rfl, h5⟩))
  (try (refine hK_ _ _ ?_; clear hK_ K_))
  (try simp only [Act.put, sA, sB, sC])
  (refine wpF (i := 7) rfl (by kernel_rfl) rfl (fun _ _ _ h => h) (fun _ => by go_simp; try rfl) ?_; (try simp only [Act.put, sA, sB, sC]))
  (refine wpF (i := 8) rfl (by kernel_rfl) rfl (fun _ _ _ h => h) (fun _ => by go_simp; try rfl) ?_; (try simp only [Act.put, sA, sB, sC]))
  refine wpAnyT_done (by kernel_rfl) ?_ _
  go_wp2
  go_ret
  exact ⟨by simp, s', st0, rs', by rw [hper]; exact h5, hf'⟩
set_option maxHeartbeats 4000000 in
theorem does_snap8 {W w : World} {b r k : Nat} {s : So} {st0 : St} {rcs : List Rc} (h : BothS W w b r s s.per s.log st0) (hh : HalfAt W) (hf : s.Fine 301 k st0 rcs) (hk : k < 100) (kd n sl fl : Int) (bb : List UInt8) (B : Option Addr) (cb : Nat) (hcb : bb.length ≤ cb) (_hcm : cb ≤ maxLen) (hB : RdB W B bb) (_inn : i64 n) (_isl : i64 sl) (_ifl : i64 fl) (hkd : kd = 3) :
    Calls Tryz.prog 12 #[.pointer (some ⟨b, 0, none⟩), .pointer (some ⟨r, 0, none⟩), .agg #[.int .i64 kd, .int .i64 n, .int .i64 sl, .int .i64 fl, .slice B bb.length cb]] w (DoesDid8 W b r (k + 1)) := by
  obtain ⟨iu, hiu, hzu, hsu, hbu⟩ := info_parts info_u8
  have hi := hf.inv
  obtain ⟨l, hl⟩ : ∃ l, l = bb.take 300 := ⟨_, rfl⟩
  obtain ⟨m, hm⟩ : ∃ m, l.length = m := ⟨_, rfl⟩
  have l1 : m ≤ bb.length := by rw [← hm, hl, List.length_take]; omega
  have l2 : m ≤ 300 := by rw [← hm, hl, List.length_take]; omega
  have l3 : (m : Int) ≤ (cb : Int) := by omega
  have hr : RdB W B l := hl ▸ hB.take 300
  have hmin := fun w => min300 bb l m hl hm w
  have HM := Lib.hid hm
  clear hm hl hB
  have hb1 := below_new w (.cells #[.int .i64 kd, .int .i64 n, .int .i64 sl, .int .i64 fl, .slice B bb.length cb] TA8)
  have B1 := Blk.new w TA8 #[.int .i64 kd, .int .i64 n, .int .i64 sl, .int .i64 fl, .slice B bb.length cb]
  have hlt1 := B1.lt
  have f4 := B1.cell 4 (v := .slice B bb.length cb) rfl
  have B2 := B1.alloc (.cells #[] TB)
  have f4' := B2.cell 4 (v := .slice B bb.length cb) rfl
  have hb2 : Below w.heap.size w ((w.alloc (.cells #[.int .i64 kd, .int .i64 n, .int .i64 sl, .int .i64 fl, .slice B bb.length cb] TA8)).alloc (.cells #[] TB)) := hb1.alloc hb1.size _
  have how := act8_row w (.cells #[.int .i64 kd, .int .i64 n, .int .i64 sl, .int .i64 fl, .slice B bb.length cb] TA8)
  have hrr := (hr.arg (h.mono hb2).below) Non (fun _ h => h.elim)
  have e1 : (w.alloc (.cells #[.int .i64 kd, .int .i64 n, .int .i64 sl, .int .i64 fl, .slice B bb.length cb] TA8)).heap.size = w.heap.size + 1 := by simp
  have key := does_key8 h kd n sl fl B bb.length cb l m
  subst hkd
  cases hdn : s.log.down
  · obtain ⟨s', hs', hf', hlog, hst⟩ := hf.snap8 hdn
    have hper : s'.per = s.per := by
      have : s.snapshot.1.per = s.per := by unfold So.snapshot; rw [hdn]; simp only [Bool.false_eq_true, if_false]; split <;> rfl
      rw [hs'] at this; exact this
    have hc1 : ∀ w' T, LiveS W w' b s T → Calls Tryz.prog 11 #[.pointer (some ⟨b, 0, none⟩)] w' (LiveSDid W w' b T s.snapshot) := fun w' T hT => snapshot_S hT hh
    have hc2 : ∀ w' T, IsRef8 T w' r s.per s.log st0 → Calls Tryz.prog 67 #[.pointer (some ⟨r, 0, none⟩)] w' (RefDid8 T w' r s.per (Lg.new s.per) s.st 0) := fun w' T ⟨_, _, _, _, _, _, _, _, _, h2⟩ => refSnapshot_B8 h2 hi hdn
    rw [hs'] at hc1
    rw [← hlog] at hc2
    have HF := Lib.hid (hf'.mono (Nat.le_refl _) (Nat.le_succ k) (by omega))
    have HPR := Lib.hid hper
    clear hdn hs' hlog hst hf' hper
    go_enter Tryz.func12, Tryz.ntmps12
    go_wp2_with (first
      | (at_builtin; refine wpList_appB rfl (.tmp 13) (.tmp 20) 30 rfl iu Tryz.underlying30 hiu hzu hsu hbu (w.heap.size + 1) _ 0 [] rfl how Non B m cb l rfl HM.out hrr (by omega) (by simp) ?_; intro v3 w3 hown hgrow hat; obtain ⟨A3, c3, rfl, hown3, hc3, hm3, hb3, hl3, h3, g0, g1, g2, g3⟩ := key v3 w3 hown hgrow; clear hown hgrow hat key)
      | (go_at_call 11; refine (h3.store (fun T hT => hc1 _ T hT)).mono ?_; rintro e w4 ⟨rfl, h4, -⟩)
      | (go_at_call 67; refine (h4.refd (fun T hT => hc2 _ T hT)).mono ?_; rintro e w5 ⟨rfl, h5⟩))
    go_ret
    exact ⟨by simp, s', s.st, [], by rw [HPR.out]; exact h5, HF.out⟩
  · have hs' : s.snapshot = (s, 10) := by unfold So.snapshot; rw [hdn, if_pos rfl]
    have hc1 : ∀ w' T, LiveS W w' b s T → Calls Tryz.prog 11 #[.pointer (some ⟨b, 0, none⟩)] w' (LiveSDid W w' b T s.snapshot) := fun w' T hT => snapshot_S hT hh
    have hc2 : ∀ w' T, IsRef8 T w' r s.per s.log st0 → Calls Tryz.prog 67 #[.pointer (some ⟨r, 0, none⟩)] w' (RefDid8 T w' r s.per s.log st0 10) := fun w' T ⟨_, _, _, _, _, _, _, _, _, h2⟩ => refSnapDown_B8 h2 hdn
    rw [hs'] at hc1
    have HF := Lib.hid (hf.mono (Nat.le_refl _) (Nat.le_succ k) (by omega))
    clear hdn hs'
    go_enter Tryz.func12, Tryz.ntmps12
    go_wp2_with (first
      | (at_builtin; refine wpList_appB rfl (.tmp 13) (.tmp 20) 30 rfl iu Tryz.underlying30 hiu hzu hsu hbu (w.heap.size + 1) _ 0 [] rfl how Non B m cb l rfl HM.out hrr (by omega) (by simp) ?_; intro v3 w3 hown hgrow hat; obtain ⟨A3, c3, rfl, hown3, hc3, hm3, hb3, hl3, h3, g0, g1, g2, g3⟩ := key v3 w3 hown hgrow; clear hown hgrow hat key)
      | (go_at_call 11; refine (h3.store (fun T hT => hc1 _ T hT)).mono ?_; rintro e w4 ⟨rfl, h4, -⟩)
      | (go_at_call 67; refine (h4.refd (fun T hT => hc2 _ T hT)).mono ?_; rintro e w5 ⟨rfl, h5⟩))
    go_ret
    exact ⟨by simp, s, st0, rcs, h5, HF.out⟩
set_option maxHeartbeats 4000000 in
theorem does_forget8 {W w : World} {b r k : Nat} {s : So} {st0 : St} {rcs : List Rc} (h : BothS W w b r s s.per s.log st0) (hh : HalfAt W) (hf : s.Fine 301 k st0 rcs) (hk : k < 100) (kd n sl fl : Int) (bb : List UInt8) (B : Option Addr) (cb : Nat) (hcb : bb.length ≤ cb) (_hcm : cb ≤ maxLen) (hB : RdB W B bb) (_inn : i64 n) (isl : i64 sl) (_ifl : i64 fl) (hkd : kd = 7) :
    Calls Tryz.prog 12 #[.pointer (some ⟨b, 0, none⟩), .pointer (some ⟨r, 0, none⟩), .agg #[.int .i64 kd, .int .i64 n, .int .i64 sl, .int .i64 fl, .slice B bb.length cb]] w (DoesDid8 W b r (k + 1)) := by
  obtain ⟨iu, hiu, hzu, hsu, hbu⟩ := info_parts info_u8
  unfold i64 at isl
  have hi := hf.inv
  obtain ⟨l, hl⟩ : ∃ l, l = bb.take 300 := ⟨_, rfl⟩
  obtain ⟨m, hm⟩ : ∃ m, l.length = m := ⟨_, rfl⟩
  have l1 : m ≤ bb.length := by rw [← hm, hl, List.length_take]; omega
  have l2 : m ≤ 300 := by rw [← hm, hl, List.length_take]; omega
  have l3 : (m : Int) ≤ (cb : Int) := by omega
  have hr : RdB W B l := hl ▸ hB.take 300
  have hmin := fun w => min300 bb l m hl hm w
  have HM := Lib.hid hm
  clear hm hl hB
  have hb1 := below_new w (.cells #[.int .i64 kd, .int .i64 n, .int .i64 sl, .int .i64 fl, .slice B bb.length cb] TA8)
  have B1 := Blk.new w TA8 #[.int .i64 kd, .int .i64 n, .int .i64 sl, .int .i64 fl, .slice B bb.length cb]
  have hlt1 := B1.lt
  have f4 := B1.cell 4 (v := .slice B bb.length cb) rfl
  have B2 := B1.alloc (.cells #[] TB)
  have f4' := B2.cell 4 (v := .slice B bb.length cb) rfl
  have hb2 : Below w.heap.size w ((w.alloc (.cells #[.int .i64 kd, .int .i64 n, .int .i64 sl, .int .i64 fl, .slice B bb.length cb] TA8)).alloc (.cells #[] TB)) := hb1.alloc hb1.size _
  have how := act8_row w (.cells #[.int .i64 kd, .int .i64 n, .int .i64 sl, .int .i64 fl, .slice B bb.length cb] TA8)
  have hrr := (hr.arg (h.mono hb2).below) Non (fun _ h => h.elim)
  have e1 : (w.alloc (.cells #[.int .i64 kd, .int .i64 n, .int .i64 sl, .int .i64 fl, .slice B bb.length cb] TA8)).heap.size = w.heap.size + 1 := by simp
  have key := does_key8 h kd n sl fl B bb.length cb l m
  subst hkd
  obtain ⟨z, hz⟩ : ∃ z, z = if 300 < sl ∧ sl ≤ 1099511627776 then sl % 300 else sl := ⟨_, rfl⟩
  obtain ⟨rs', hf'⟩ := (hf.calls8 (by omega)).2.2.2.2 z
  have hper := forget_per s z
  have hc1 : ∀ w' T, LiveS W w' b s T → Calls Tryz.prog 68 #[.pointer (some ⟨b, 0, none⟩), .int .i64 z] w' (LiveSDid W w' b T (s.forget z)) := fun w' T hT => forget_S hT hh hi z
  have hc2 : ∀ w' T, IsRef8 T w' r s.per s.log st0 → Calls Tryz.prog 69 #[.pointer (some ⟨r, 0, none⟩), .int .i64 z] w' (RefDid8 T w' r s.per (s.forget z).1.log st0 (s.forget z).2) := fun w' T ⟨_, _, _, _, _, _, _, _, _, h2⟩ => refForget_B8 h2 hi z
  obtain ⟨⟨s', q⟩, hsq⟩ : ∃ x, s.forget z = x := ⟨_, rfl⟩
  rw [hsq] at hc1 hc2 hf' hper
  simp only at hc1 hc2 hf' hper
  clear hsq
  by_cases hA : 300 < sl
  · by_cases hB : sl ≤ 1099511627776
    · rw [if_pos ⟨hA, hB⟩] at hz
      have wz : sl % 300 = z := hz.symm
      clear hz
      go_enter Tryz.func12, Tryz.ntmps12
      go_wp2_with (first
        | (at_builtin; refine wpList_appB rfl (.tmp 13) (.tmp 20) 30 rfl iu Tryz.underlying30 hiu hzu hsu hbu (w.heap.size + 1) _ 0 [] rfl how Non B m cb l rfl HM.out hrr (by omega) (by simp) ?_; intro v3 w3 hown hgrow hat; obtain ⟨A3, c3, rfl, hown3, hc3, hm3, hb3, hl3, h3, g0, g1, g2, g3⟩ := key v3 w3 hown hgrow; clear hown hgrow hat key)
        | (go_at_call 68; refine (h3.store (fun T hT => hc1 _ T hT)).mono ?_; rintro e w4 ⟨rfl, h4, -⟩)
        | (go_at_call 69; refine (h4.refd (fun T hT => hc2 _ T hT)).mono ?_; rintro e w5 ⟨rfl, h5⟩))
      go_ret
      exact ⟨by simp, s', st0, rs', by rw [hper]; exact h5, hf'⟩
    · rw [if_neg (fun q => hB q.2)] at hz
      subst hz
      go_enter Tryz.func12, Tryz.ntmps12
      go_wp2_with (first
        | (at_builtin; refine wpList_appB rfl (.tmp 13) (.tmp 20) 30 rfl iu Tryz.underlying30 hiu hzu hsu hbu (w.heap.size + 1) _ 0 [] rfl how Non B m cb l rfl HM.out hrr (by omega) (by simp) ?_; intro v3 w3 hown hgrow hat; obtain ⟨A3, c3, rfl, hown3, hc3, hm3, hb3, hl3, h3, g0, g1, g2, g3⟩ := key v3 w3 hown hgrow; clear hown hgrow hat key)
        | (go_at_call 68; refine (h3.store (fun T hT => hc1 _ T hT)).mono ?_; rintro e w4 ⟨rfl, h4, -⟩)
        | (go_at_call 69; refine (h4.refd (fun T hT => hc2 _ T hT)).mono ?_; rintro e w5 ⟨rfl, h5⟩))
      go_ret
      exact ⟨by simp, s', st0, rs', by rw [hper]; exact h5, hf'⟩
  · rw [if_neg (fun q => hA q.1)] at hz
    subst hz
    go_enter Tryz.func12, Tryz.ntmps12
    go_wp2_with (first
      | (at_builtin; refine wpList_appB rfl (.tmp 13) (.tmp 20) 30 rfl iu Tryz.underlying30 hiu hzu hsu hbu (w.heap.size + 1) _ 0 [] rfl how Non B m cb l rfl HM.out hrr (by omega) (by simp) ?_; intro v3 w3 hown hgrow hat; obtain ⟨A3, c3, rfl, hown3, hc3, hm3, hb3, hl3, h3, g0, g1, g2, g3⟩ := key v3 w3 hown hgrow; clear hown hgrow hat key)
      | (go_at_call 68; refine (h3.store (fun T hT => hc1 _ T hT)).mono ?_; rintro e w4 ⟨rfl, h4, -⟩)
      | (go_at_call 69; refine (h4.refd (fun T hT => hc2 _ T hT)).mono ?_; rintro e w5 ⟨rfl, h5⟩))
    go_ret
    exact ⟨by simp, s', st0, rs', by rw [hper]; exact h5, hf'⟩
set_option maxHeartbeats 4000000 in
theorem does_crash8 {W w : World} {b r k : Nat} {s : So} {st0 : St} {rcs : List Rc} (h : BothS W w b r s s.per s.log st0) (_hh : HalfAt W) (hf : s.Fine 301 k st0 rcs) (hk : k < 100) (kd n sl fl : Int) (bb : List UInt8) (B : Option Addr) (cb : Nat) (hcb : bb.length ≤ cb) (_hcm : cb ≤ maxLen) (hB : RdB W B bb) (inn : i64 n) (_isl : i64 sl) (ifl : i64 fl) (hkd : kd = 4) :
    Calls Tryz.prog 12 #[.pointer (some ⟨b, 0, none⟩), .pointer (some ⟨r, 0, none⟩), .agg #[.int .i64 kd, .int .i64 n, .int .i64 sl, .int .i64 fl, .slice B bb.length cb]] w (DoesDid8 W b r (k + 1)) := by
  obtain ⟨iu, hiu, hzu, hsu, hbu⟩ := info_parts info_u8
  unfold i64 at inn ifl
  have hi := hf.inv
  obtain ⟨l, hl⟩ : ∃ l, l = bb.take 300 := ⟨_, rfl⟩
  obtain ⟨m, hm⟩ : ∃ m, l.length = m := ⟨_, rfl⟩
  have l1 : m ≤ bb.length := by rw [← hm, hl, List.length_take]; omega
  have l2 : m ≤ 300 := by rw [← hm, hl, List.length_take]; omega
  have l3 : (m : Int) ≤ (cb : Int) := by omega
  have hr : RdB W B l := hl ▸ hB.take 300
  have hmin := fun w => min300 bb l m hl hm w
  have HM := Lib.hid hm
  clear hm hl hB
  have hb1 := below_new w (.cells #[.int .i64 kd, .int .i64 n, .int .i64 sl, .int .i64 fl, .slice B bb.length cb] TA8)
  have B1 := Blk.new w TA8 #[.int .i64 kd, .int .i64 n, .int .i64 sl, .int .i64 fl, .slice B bb.length cb]
  have hlt1 := B1.lt
  have f4 := B1.cell 4 (v := .slice B bb.length cb) rfl
  have B2 := B1.alloc (.cells #[] TB)
  have f4' := B2.cell 4 (v := .slice B bb.length cb) rfl
  have hb2 : Below w.heap.size w ((w.alloc (.cells #[.int .i64 kd, .int .i64 n, .int .i64 sl, .int .i64 fl, .slice B bb.length cb] TA8)).alloc (.cells #[] TB)) := hb1.alloc hb1.size _
  have how := act8_row w (.cells #[.int .i64 kd, .int .i64 n, .int .i64 sl, .int .i64 fl, .slice B bb.length cb] TA8)
  have hrr := (hr.arg (h.mono hb2).below) Non (fun _ h => h.elim)
  have e1 : (w.alloc (.cells #[.int .i64 kd, .int .i64 n, .int .i64 sl, .int .i64 fl, .slice B bb.length cb] TA8)).heap.size = w.heap.size + 1 := by simp
  have key := does_key8 h kd n sl fl B bb.length cb l m
  subst hkd
  obtain ⟨rs', hf'⟩ := (hf.calls8 (by omega)).2.2.2.1 n fl
  have hper := crash_per s n fl
  have hE : (s.crash n fl).1.log = (s.log.crash n fl).1 ∧ (s.crash n fl).2 = (s.log.crash n fl).2 := by
    unfold So.crash
    split
    · rename_i q; exact ⟨rfl, q.symm⟩
    · exact ⟨rfl, rfl⟩
  have hc1 : ∀ w' T, LiveS W w' b s T → Calls Tryz.prog 70 #[.pointer (some ⟨b, 0, none⟩), .int .i64 n, .int .i64 fl] w' (LiveSDid W w' b T (s.crash n fl)) := fun w' T hT => crash_S hT n fl inn ifl
  have hc2 : ∀ w' T1 H lr A c ps, RlogO T1 H w' lr A c ps s.log.ref → Calls Tryz.prog 71 #[.pointer (some ⟨lr, 0, none⟩), .int .i64 n, .int .i64 fl] w' (RlogDid T1 w' (.pointer (some ⟨lr, 0, none⟩)) ((s.log.crash n fl).1.ref, (s.log.crash n fl).2)) := fun w' T1 H lr A c ps hl => refLogCrash_B hl hi.log n fl inn.2 ifl.2 inn.1 ifl.1
  rw [← hE.1, ← hE.2] at hc2
  clear hE
  obtain ⟨⟨s', q⟩, hsq⟩ : ∃ x, s.crash n fl = x := ⟨_, rfl⟩
  rw [hsq] at hc1 hc2 hf' hper
  simp only at hc1 hc2 hf' hper
  clear hsq
  go_enter Tryz.func12, Tryz.ntmps12
  go_wp2_with (first
    | (at_builtin; refine wpList_appB rfl (.tmp 13) (.tmp 20) 30 rfl iu Tryz.underlying30 hiu hzu hsu hbu (w.heap.size + 1) _ 0 [] rfl how Non B m cb l rfl HM.out hrr (by omega) (by simp) ?_; intro v3 w3 hown hgrow hat; obtain ⟨A3, c3, rfl, hown3, hc3, hm3, hb3, hl3, h3, g0, g1, g2, g3⟩ := key v3 w3 hown hgrow; clear hown hgrow hat key))
  obtain ⟨lr3, hL3⟩ := h3.logIn
  have p3 := hL3.ptr
  refine wp_region_T #[[], [], [], [], [], [2, 4], [], [], [], [], [], [], [], [], [2, 4, 9, 11, 13], [2, 4, 9, 11, 13], [2, 4, 9, 11, 13]] [2, 4, 9, 11, 13] (fun w' => w'.cell? ⟨r, 1, none⟩ = some (.pointer (some ⟨lr3, 0, none⟩)) ∧ w'.cell? ⟨w.heap.size, 1, none⟩ = some (.int .i64 n) ∧ w'.cell? ⟨w.heap.size, 3, none⟩ = some (.int .i64 fl)) 17 rfl (by kernel_rfl) ?_
  (refine wpF (i := 0) rfl (by kernel_rfl) rfl (fun _ _ _ h => h) (fun _ => by go_simp; try rfl) ?_; (try simp only [Act.put, sA, sB, sC]))
  (refine wpF (i := 1) rfl (by kernel_rfl) rfl (fun _ _ _ h => h) (fun _ => by go_simp; try rfl) ?_; (try simp only [Act.put, sA, sB, sC]))
  (refine wpAnyT_read (i := 2) rfl (by kernel_rfl) rfl (fun _ _ _ h => h) (by kernel_rfl) (⟨p3, g1, g3⟩) (fun w hS_ => by obtain ⟨s_1, s_2, s_3⟩ := hS_; go_simp; try rfl) ?_; (try simp only [Act.put, sA, sB, sC]))
  (refine wpF (i := 3) rfl (by kernel_rfl) rfl (fun _ _ _ h => h) (fun _ => by go_simp; try rfl) ?_; (try simp only [Act.put, sA, sB, sC]))
  (refine wpAnyT_read (i := 4) rfl (by kernel_rfl) rfl (fun _ _ _ h => h) (by kernel_rfl) (⟨p3, g1, g3⟩) (fun w hS_ => by obtain ⟨s_1, s_2, s_3⟩ := hS_; go_simp; try rfl) ?_; (try simp only [Act.put, sA, sB, sC]))
  (refine wpF (i := 6) rfl (by kernel_rfl) rfl (fun _ _ _ h => h) (fun _ => by go_simp; try rfl) ?_; (try simp only [Act.put, sA, sB, sC]))
  (refine wpF (i := 7) rfl (by kernel_rfl) rfl (fun _ _ _ h => h) (fun _ => by go_simp; try rfl) ?_; (try simp only [Act.put, sA, sB, sC]))
  (refine wpF (i := 8) rfl (by kernel_rfl) rfl (fun _ _ _ h => h) (fun _ => by go_simp; try rfl) ?_; (try simp only [Act.put, sA, sB, sC]))
  (refine wpAnyT_read (i := 9) rfl (by kernel_rfl) rfl (fun _ _ _ h => h) (by kernel_rfl) (⟨p3, g1, g3⟩) (fun w hS_ => by obtain ⟨s_1, s_2, s_3⟩ := hS_; go_simp; try rfl) ?_; (try simp only [Act.put, sA, sB, sC]))
  (refine wpF (i := 10) rfl (by kernel_rfl) rfl (fun _ _ _ h => h) (fun _ => by go_simp; try rfl) ?_; (try simp only [Act.put, sA, sB, sC]))
  (refine wpAnyT_read (i := 11) rfl (by kernel_rfl) rfl (fun _ _ _ h => h) (by kernel_rfl) (⟨p3, g1, g3⟩) (fun w hS_ => by obtain ⟨s_1, s_2, s_3⟩ := hS_; go_simp; try rfl) ?_; (try simp only [Act.put, sA, sB, sC]))
  (refine wpF (i := 12) rfl (by kernel_rfl) rfl (fun _ _ _ h => h) (fun _ => by go_simp; try rfl) ?_; (try simp only [Act.put, sA, sB, sC]))
  (refine wpAnyT_read (i := 13) rfl (by kernel_rfl) rfl (fun _ _ _ h => h) (by kernel_rfl) (⟨p3, g1, g3⟩) (fun w hS_ => by obtain ⟨s_1, s_2, s_3⟩ := hS_; go_simp; try rfl) ?_; (try simp only [Act.put, sA, sB, sC]))
  refine wpAnyT_one (i := 5) rfl (by kernel_rfl) rfl ?_
  intro K_ hK_
  go_wp2_with ((go_at_call 70; refine (h.storeK hb3.drew (fun T hT => hc1 _ T hT)).mono ?_; rintro e w4 ⟨rfl, h4, -, r4, q4⟩; have p4 := (cell_eq (a := ⟨r, 1, none⟩) r4).trans p3; have hL4 := h4.logAt p4))
  refine hK_ _ _ ?_ ?_
  · exact fun _ _ => ⟨p4, (cell_eq (a := ⟨w.heap.size, 1, none⟩) (q4 w.heap.size (Nat.le_refl _) hl3)).trans g1, (cell_eq (a := ⟨w.heap.size, 3, none⟩) (q4 w.heap.size (Nat.le_refl _) hl3)).trans g3⟩
  clear hK_ K_
  (try simp only [Act.put, sA, sB, sC])
  refine wpAnyT_sink (i := 14) rfl (by kernel_rfl) rfl (by kernel_rfl) ?_
  intro K_ hK_
  go_wp2_with ((go_at_call 71; refine (hL4.turn (fun T1 H A c ps hl => hc2 _ T1 H _ A c ps hl)).mono ?_; rintro e w5 ⟨rfl, h5⟩))
  (try (refine hK_ _ _ ?_; clear hK_ K_))
  (try simp only [Act.put, sA, sB, sC])
  (refine wpF (i := 15) rfl (by kernel_rfl) rfl (fun _ _ _ h => h) (fun _ => by go_simp; try rfl) ?_; (try simp only [Act.put, sA, sB, sC]))
  (refine wpF (i := 16) rfl (by kernel_rfl) rfl (fun _ _ _ h => h) (fun _ => by go_simp; try rfl) ?_; (try simp only [Act.put, sA, sB, sC]))
  refine wpAnyT_done (by kernel_rfl) ?_ _
  go_wp2
  go_ret
  exact ⟨by simp, s', st0, rs', by rw [hper]; exact h5, hf'⟩
set_option maxHeartbeats 4000000 in
theorem does_restart8 {W w : World} {b r k : Nat} {s : So} {st0 : St} {rcs : List Rc} (h : BothS W w b r s s.per s.log st0) (hh : HalfAt W) (hf : s.Fine 301 k st0 rcs) (hk : k < 100) (kd n sl fl : Int) (bb : List UInt8) (B : Option Addr) (cb : Nat) (hcb : bb.length ≤ cb) (_hcm : cb ≤ maxLen) (hB : RdB W B bb) (_inn : i64 n) (_isl : i64 sl) (_ifl : i64 fl) (k0 : kd ≠ 0) (k1 : kd ≠ 1) (k2 : kd ≠ 2) (k3 : kd ≠ 3) (k4 : kd ≠ 4) (k7 : kd ≠ 7) :
    Calls Tryz.prog 12 #[.pointer (some ⟨b, 0, none⟩), .pointer (some ⟨r, 0, none⟩), .agg #[.int .i64 kd, .int .i64 n, .int .i64 sl, .int .i64 fl, .slice B bb.length cb]] w (DoesDid8 W b r (k + 1)) := by
  obtain ⟨iu, hiu, hzu, hsu, hbu⟩ := info_parts info_u8
  have hi := hf.inv
  obtain ⟨l, hl⟩ : ∃ l, l = bb.take 300 := ⟨_, rfl⟩
  obtain ⟨m, hm⟩ : ∃ m, l.length = m := ⟨_, rfl⟩
  have l1 : m ≤ bb.length := by rw [← hm, hl, List.length_take]; omega
  have l2 : m ≤ 300 := by rw [← hm, hl, List.length_take]; omega
  have l3 : (m : Int) ≤ (cb : Int) := by omega
  have hr : RdB W B l := hl ▸ hB.take 300
  have hmin := fun w => min300 bb l m hl hm w
  have HM := Lib.hid hm
  clear hm hl hB
  have hb1 := below_new w (.cells #[.int .i64 kd, .int .i64 n, .int .i64 sl, .int .i64 fl, .slice B bb.length cb] TA8)
  have B1 := Blk.new w TA8 #[.int .i64 kd, .int .i64 n, .int .i64 sl, .int .i64 fl, .slice B bb.length cb]
  have hlt1 := B1.lt
  have f4 := B1.cell 4 (v := .slice B bb.length cb) rfl
  have B2 := B1.alloc (.cells #[] TB)
  have f4' := B2.cell 4 (v := .slice B bb.length cb) rfl
  have hb2 : Below w.heap.size w ((w.alloc (.cells #[.int .i64 kd, .int .i64 n, .int .i64 sl, .int .i64 fl, .slice B bb.length cb] TA8)).alloc (.cells #[] TB)) := hb1.alloc hb1.size _
  have how := act8_row w (.cells #[.int .i64 kd, .int .i64 n, .int .i64 sl, .int .i64 fl, .slice B bb.length cb] TA8)
  have hrr := (hr.arg (h.mono hb2).below) Non (fun _ h => h.elim)
  have e1 : (w.alloc (.cells #[.int .i64 kd, .int .i64 n, .int .i64 sl, .int .i64 fl, .slice B bb.length cb] TA8)).heap.size = w.heap.size + 1 := by simp
  have key := does_key8 h kd n sl fl B bb.length cb l m
  have n0 : (kd == 0) = false := by simpa using k0
  have n1 : (kd == 1) = false := by simpa using k1
  have n2 : (kd == 2) = false := by simpa using k2
  have n3 : (kd == 3) = false := by simpa using k3
  have n4 : (kd == 4) = false := by simpa using k4
  have n7 : (kd == 7) = false := by simpa using k7
  cases hdn : s.log.down
  · have HS := Lib.hid (show s.log.restart = (s.log, 9) from by unfold Lg.restart; rw [hdn]; rfl)
    have hc2 : ∀ w' T1 H lr A c ps, RlogO T1 H w' lr A c ps s.log.ref → Calls Tryz.prog 73 #[.pointer (some ⟨lr, 0, none⟩)] w' (RlogDid T1 w' (.pointer (some ⟨lr, 0, none⟩)) (s.log.restart.1.ref, s.log.restart.2)) := fun w' T1 H lr A c ps hl => refLogRestart_B hl hi.log
    rw [HS.out] at hc2
    simp only at hc2
    have HD := Lib.hid hdn
    have HF := Lib.hid (hf.mono (Nat.le_refl _) (Nat.le_succ k) (by omega))
    clear hdn
    go_enter Tryz.func12, Tryz.ntmps12
    go_wp2_with (first
      | (at_builtin; refine wpList_appB rfl (.tmp 13) (.tmp 20) 30 rfl iu Tryz.underlying30 hiu hzu hsu hbu (w.heap.size + 1) _ 0 [] rfl how Non B m cb l rfl HM.out hrr (by omega) (by simp) ?_; intro v3 w3 hown hgrow hat; obtain ⟨A3, c3, rfl, hown3, hc3, hm3, hb3, hl3, h3, g0, g1, g2, g3⟩ := key v3 w3 hown hgrow; clear hown hgrow hat key))
    obtain ⟨lr3, hL3⟩ := h3.logIn
    have p3 := hL3.ptr
    refine wp_region_T #[[], [], [], [], [], [], [5], [5], [5]] [5] (fun w' => w'.cell? ⟨r, 1, none⟩ = some (.pointer (some ⟨lr3, 0, none⟩)) ∧ True) 9 rfl (by kernel_rfl) ?_
    (refine wpF (i := 0) rfl (by kernel_rfl) rfl (fun _ _ _ h => h) (fun _ => by go_simp; try rfl) ?_; (try simp only [Act.put, sA, sB, sC]))
    (refine wpF (i := 2) rfl (by kernel_rfl) rfl (fun _ _ _ h => h) (fun _ => by go_simp; try rfl) ?_; (try simp only [Act.put, sA, sB, sC]))
    (refine wpF (i := 3) rfl (by kernel_rfl) rfl (fun _ _ _ h => h) (fun _ => by go_simp; try rfl) ?_; (try simp only [Act.put, sA, sB, sC]))
    (refine wpF (i := 4) rfl (by kernel_rfl) rfl (fun _ _ _ h => h) (fun _ => by go_simp; try rfl) ?_; (try simp only [Act.put, sA, sB, sC]))
    (refine wpAnyT_read (i := 5) rfl (by kernel_rfl) rfl (fun _ _ _ h => h) (by kernel_rfl) (⟨p3, trivial⟩) (fun w hS_ => by obtain ⟨s_1, s_2⟩ := hS_; go_simp; try rfl) ?_; (try simp only [Act.put, sA, sB, sC]))
    refine wpAnyT_one (i := 1) rfl (by kernel_rfl) rfl ?_
    intro K_ hK_
    go_wp2_with ((go_at_call 72; refine (h.storeK hb3.drew (fun T hT => restartUp_S hT hh HD.out)).mono ?_; rintro e w4 ⟨rfl, h4, -, r4, -⟩; have p4 := (cell_eq (a := ⟨r, 1, none⟩) r4).trans p3; have hL4 := h4.logAt p4))
    refine hK_ _ _ ?_ ?_
    · exact fun _ _ => ⟨p4, trivial⟩
    clear hK_ K_
    (try simp only [Act.put, sA, sB, sC])
    refine wpAnyT_sink (i := 6) rfl (by kernel_rfl) rfl (by kernel_rfl) ?_
    intro K_ hK_
    go_wp2_with ((go_at_call 73; refine (hL4.turn (fun T1 H A c ps hl => hc2 _ T1 H _ A c ps hl)).mono ?_; rintro e w5 ⟨rfl, h5⟩))
    (try (refine hK_ _ _ ?_; clear hK_ K_))
    (try simp only [Act.put, sA, sB, sC])
    (refine wpF (i := 7) rfl (by kernel_rfl) rfl (fun _ _ _ h => h) (fun _ => by go_simp; try rfl) ?_; (try simp only [Act.put, sA, sB, sC]))
    (refine wpF (i := 8) rfl (by kernel_rfl) rfl (fun _ _ _ h => h) (fun _ => by go_simp; try rfl) ?_; (try simp only [Act.put, sA, sB, sC]))
    refine wpAnyT_done (by kernel_rfl) ?_ _
    go_wp2
    go_ret
    exact ⟨by simp, s, st0, rcs, h5, HF.out⟩
  · have HS := Lib.hid (show s.log.restart.2 = 0 from by unfold Lg.restart; rw [hdn]; rfl)
    have hc2 : ∀ w' T1 H lr A c ps, RlogO T1 H w' lr A c ps s.log.ref → Calls Tryz.prog 73 #[.pointer (some ⟨lr, 0, none⟩)] w' (RlogDid T1 w' (.pointer (some ⟨lr, 0, none⟩)) (s.log.restart.1.ref, s.log.restart.2)) := fun w' T1 H lr A c ps hl => refLogRestart_B hl hi.log
    rw [HS.out] at hc2
    obtain ⟨L', hL'⟩ : ∃ L', s.log.restart.1 = L' := ⟨_, rfl⟩
    rw [hL'] at hc2
    have HLL := Lib.hid hL'
    clear hL'
    have HD := Lib.hid hdn
    clear hdn
    go_enter Tryz.func12, Tryz.ntmps12
    go_wp2_with (first
      | (at_builtin; refine wpList_appB rfl (.tmp 13) (.tmp 20) 30 rfl iu Tryz.underlying30 hiu hzu hsu hbu (w.heap.size + 1) _ 0 [] rfl how Non B m cb l rfl HM.out hrr (by omega) (by simp) ?_; intro v3 w3 hown hgrow hat; obtain ⟨A3, c3, rfl, hown3, hc3, hm3, hb3, hl3, h3, g0, g1, g2, g3⟩ := key v3 w3 hown hgrow; clear hown hgrow hat key))
    obtain ⟨lr3, hL3⟩ := h3.logIn
    have p3 := hL3.ptr
    refine wp_region_T #[[], [], [], [], [], [], [5], [5], [5]] [5] (fun w' => w'.cell? ⟨r, 1, none⟩ = some (.pointer (some ⟨lr3, 0, none⟩)) ∧ True) 9 rfl (by kernel_rfl) ?_
    (refine wpF (i := 0) rfl (by kernel_rfl) rfl (fun _ _ _ h => h) (fun _ => by go_simp; try rfl) ?_; (try simp only [Act.put, sA, sB, sC]))
    (refine wpF (i := 2) rfl (by kernel_rfl) rfl (fun _ _ _ h => h) (fun _ => by go_simp; try rfl) ?_; (try simp only [Act.put, sA, sB, sC]))
    (refine wpF (i := 3) rfl (by kernel_rfl) rfl (fun _ _ _ h => h) (fun _ => by go_simp; try rfl) ?_; (try simp only [Act.put, sA, sB, sC]))
    (refine wpF (i := 4) rfl (by kernel_rfl) rfl (fun _ _ _ h => h) (fun _ => by go_simp; try rfl) ?_; (try simp only [Act.put, sA, sB, sC]))
    (refine wpAnyT_read (i := 5) rfl (by kernel_rfl) rfl (fun _ _ _ h => h) (by kernel_rfl) (⟨p3, trivial⟩) (fun w hS_ => by obtain ⟨s_1, s_2⟩ := hS_; go_simp; try rfl) ?_; (try simp only [Act.put, sA, sB, sC]))
    refine wpAnyT_one (i := 1) rfl (by kernel_rfl) rfl ?_
    intro K_ hK_
    go_wp2_with ((go_at_call 72; refine (h.riseK hb3.drew (fun T hT => restart_S hT hh hi HD.out)).mono ?_; rintro e w4 ⟨j, s', rfl, h4, r4, hro⟩; have p4 := (cell_eq (a := ⟨r, 1, none⟩) r4).trans p3; have hL4 := h4.logAt p4))
    refine hK_ _ _ ?_ ?_
    · exact fun _ _ => ⟨p4, trivial⟩
    clear hK_ K_
    (try simp only [Act.put, sA, sB, sC])
    refine wpAnyT_sink (i := 6) rfl (by kernel_rfl) rfl (by kernel_rfl) ?_
    intro K_ hK_
    go_wp2_with ((go_at_call 73; refine (hL4.turn (fun T1 H A c ps hl => hc2 _ T1 H _ A c ps hl)).mono ?_; rintro e w5 ⟨rfl, h5⟩))
    (try (refine hK_ _ _ ?_; clear hK_ K_))
    (try simp only [Act.put, sA, sB, sC])
    (refine wpF (i := 7) rfl (by kernel_rfl) rfl (fun _ _ _ h => h) (fun _ => by go_simp; try rfl) ?_; (try simp only [Act.put, sA, sB, sC]))
    (refine wpF (i := 8) rfl (by kernel_rfl) rfl (fun _ _ _ h => h) (fun _ => by go_simp; try rfl) ?_; (try simp only [Act.put, sA, sB, sC]))
    refine wpAnyT_done (by kernel_rfl) ?_ _
    go_wp2
    go_ret
    exact ⟨by simp, s', st0, _, by rw [hro.per, hro.log, HLL.out]; exact h5, (hf.rose hro).mono (Nat.le_refl _) (Nat.le_succ k) (by omega)⟩
end Go.Proofs.YtediidajdpdeiaaGreatDoor

/- A call on both stores (layer 8): Accept; the walk. -/
namespace Go.Proofs.YtediidajdpdeiaaGreatDoor
open Go.RowKit CrcM
set_option maxRecDepth 100000

set_option maxHeartbeats 4000000 in
theorem does_accept8 {W w : World} {b r k : Nat} {s : So} {st0 : St} {rcs : List Rc} (h : BothS W w b r s s.per s.log st0) (hh : HalfAt W) (hf : s.Fine 301 k st0 rcs) (hk : k < 100) (kd n sl fl : Int) (bb : List UInt8) (B : Option Addr) (cb : Nat) (hcb : bb.length ≤ cb) (_hcm : cb ≤ maxLen) (hB : RdB W B bb) (_inn : i64 n) (isl : i64 sl) (_ifl : i64 fl) (hkd : kd = 1) :
    Calls Tryz.prog 12 #[.pointer (some ⟨b, 0, none⟩), .pointer (some ⟨r, 0, none⟩), .agg #[.int .i64 kd, .int .i64 n, .int .i64 sl, .int .i64 fl, .slice B bb.length cb]] w (DoesDid8 W b r (k + 1)) := by
  obtain ⟨iu, hiu, hzu, hsu, hbu⟩ := info_parts info_u8
  unfold i64 at isl
  have hi := hf.inv
  obtain ⟨l, hl⟩ : ∃ l, l = bb.take 300 := ⟨_, rfl⟩
  obtain ⟨m, hm⟩ : ∃ m, l.length = m := ⟨_, rfl⟩
  have l1 : m ≤ bb.length := by rw [← hm, hl, List.length_take]; omega
  have l2 : m ≤ 300 := by rw [← hm, hl, List.length_take]; omega
  have l3 : (m : Int) ≤ (cb : Int) := by omega
  have hr : RdB W B l := hl ▸ hB.take 300
  have hmin := fun w => min300 bb l m hl hm w
  have HM := Lib.hid hm
  clear hm hl hB
  have hb1 := below_new w (.cells #[.int .i64 kd, .int .i64 n, .int .i64 sl, .int .i64 fl, .slice B bb.length cb] TA8)
  have B1 := Blk.new w TA8 #[.int .i64 kd, .int .i64 n, .int .i64 sl, .int .i64 fl, .slice B bb.length cb]
  have hlt1 := B1.lt
  have f4 := B1.cell 4 (v := .slice B bb.length cb) rfl
  have B2 := B1.alloc (.cells #[] TB)
  have f4' := B2.cell 4 (v := .slice B bb.length cb) rfl
  have hb2 : Below w.heap.size w ((w.alloc (.cells #[.int .i64 kd, .int .i64 n, .int .i64 sl, .int .i64 fl, .slice B bb.length cb] TA8)).alloc (.cells #[] TB)) := hb1.alloc hb1.size _
  have how := act8_row w (.cells #[.int .i64 kd, .int .i64 n, .int .i64 sl, .int .i64 fl, .slice B bb.length cb] TA8)
  have hrr := (hr.arg (h.mono hb2).below) Non (fun _ h => h.elim)
  have e1 : (w.alloc (.cells #[.int .i64 kd, .int .i64 n, .int .i64 sl, .int .i64 fl, .slice B bb.length cb] TA8)).heap.size = w.heap.size + 1 := by simp
  have key := does_key8 h kd n sl fl B bb.length cb l m
  subst hkd
  obtain ⟨z, hz⟩ : ∃ z, z = if 300 < sl ∧ sl ≤ 1099511627776 then sl % 300 else sl := ⟨_, rfl⟩
  obtain ⟨rs', hf'⟩ := (hf.calls8 (by omega)).2.1 z n l (by rw [HM.out]; omega) (fun hok => by
    have h1 := hok.1
    have h2 := hok.2
    rw [hz] at h1 h2 ⊢
    split
    · omega
    · rename_i q
      rw [if_neg q] at h2
      omega)
  have hper := accept_per s z n l
  have hcA : ∀ q w3 A3 c3, Below w.heap.size w w3 → w.heap.size ≤ q → q < w3.heap.size → Own Ever w3 A3 l → Calls Tryz.prog 10 #[.pointer (some ⟨b, 0, none⟩), .int .i64 z, .int .i64 n, .slice A3 m c3] w3 fun e w' => e = .returned (.int .i64 (s.accept z n l).2) ∧ BothSH q W w' b r (s.accept z n l).1 s.per s.log st0 ∧ BK w3 w' ∧ ∀ x, w.heap.size ≤ x → x < w3.heap.size → w'.heap[x]? = w3.heap[x]? := fun q w3 A3 c3 hb3 hq1 hq2 hO3 => by
    have := h.holdAccept hb3 hq1 hq2 hh hi.len_ok (by have := hf.few; omega) z n A3 l c3 hO3 (by rw [HM.out]; omega)
    rw [HM.out] at this
    exact this
  have hcR : ∀ q w5 A5 c5 s', BothSH q W w5 b r s' s.per s.log st0 → Own Ever w5 A5 l → Calls Tryz.prog 64 #[.pointer (some ⟨r, 0, none⟩), .int .i64 z, .int .i64 n, .slice A5 m c5] w5 fun e w' => e = .returned (.int .i64 (s.accept z n l).2) ∧ BothSH q W w' b r s' s.per (s.accept z n l).1.log st0 ∧ BK w5 w' := fun q w5 A5 c5 s' h5 hO5 => by
    have := h5.refAccept hi z n A5 l c5 hO5 (by rw [HM.out]; omega)
    rw [HM.out] at this
    exact this
  obtain ⟨⟨s', ec⟩, hsq⟩ : ∃ x, s.accept z n l = x := ⟨_, rfl⟩
  rw [hsq] at hcA hcR hf' hper
  simp only at hcA hcR hf' hper
  clear hsq
  by_cases hA : 300 < sl
  · by_cases hB : sl ≤ 1099511627776
    · rw [if_pos ⟨hA, hB⟩] at hz
      have wz : sl % 300 = z := hz.symm
      clear hz
      go_enter Tryz.func12, Tryz.ntmps12
      go_wp2_with (first
        | (at_builtin; refine wpList_appB rfl (.tmp 13) (.tmp 20) 30 rfl iu Tryz.underlying30 hiu hzu hsu hbu (w.heap.size + 1) _ 0 [] rfl how Non B m cb l rfl HM.out hrr (by omega) (by simp) ?_; intro v3 w3 hown hgrow hat; obtain ⟨A3, c3, rfl, hown3, hc3, hm3, hb3, hl3, h3, g0, g1, g2, g3⟩ := key v3 w3 hown hgrow; clear hown hgrow hat key)
        | (go_at_call 10; obtain ⟨q, hq1, hq2, hq3⟩ := row_at hown3 hl3; have hO3 : Own Ever w3 A3 l := (Own.of_row hown3 HM.out.symm).mono (fun _ _ => trivial); refine (hcA q w3 A3 c3 hb3 hq1 hq2 hO3).mono ?_; rintro e w4 ⟨rfl, h4, k4, q4⟩; replace g1 := (cell_eq (a := ⟨w.heap.size, 1, none⟩) (q4 w.heap.size (Nat.le_refl _) hl3)).trans g1; clear g0 g2 g3 q4))
      have hown4 := own_bk hown3 k4
      have hO4 := hO3.bk k4
      have b45 : Below w4.heap.size w4 (w4.drew.alloc (.cells #[] TB)) := ((Below.refl w4.heap.size w4).drew).alloc (Nat.le_refl _) _
      have how4 := ownsB_none w4.drew
      have hr4 := (hO4.rd Non).fr (Fr.of_below b45)
      have hlt4 := cell_lt g1
      refine wp_region_T #[[], [], [], [], [], [], [], [3], [3]] [3] (fun w' => w'.cell? ⟨w.heap.size, 1, none⟩ = some (.int .i64 n) ∧ True) 9 rfl (by kernel_rfl) ?_
      (refine wpF (i := 0) rfl (by kernel_rfl) rfl (fun _ _ _ h => h) (fun _ => by go_simp; try rfl) ?_; (try simp only [Act.put, sA, sB, sC]))
      (refine wpF (i := 1) rfl (by kernel_rfl) rfl (fun _ _ _ h => h) (fun _ => by go_simp; try rfl) ?_; (try simp only [Act.put, sA, sB, sC]))
      (refine wpF (i := 2) rfl (by kernel_rfl) rfl (fun _ _ _ h => h) (fun _ => by go_simp; try rfl) ?_; (try simp only [Act.put, sA, sB, sC]))
      (refine wpAnyT_read (i := 3) rfl (by kernel_rfl) rfl (fun _ _ _ h => h) (by kernel_rfl) (⟨g1, trivial⟩) (fun w hS_ => by obtain ⟨s_1, s_2⟩ := hS_; go_simp; try rfl) ?_; (try simp only [Act.put, sA, sB, sC]))
      (refine wpF (i := 5) rfl (by kernel_rfl) rfl (fun _ _ _ h => h) (fun _ => by go_simp; try rfl) ?_; (try simp only [Act.put, sA, sB, sC]))
      refine wpAnyT_one (i := 4) rfl (by kernel_rfl) rfl ?_
      intro K_ hK_
      go_wp2
      refine hK_ _ _ ?_ ?_
      · exact fun _ _ => ⟨(b45.cell (p := ⟨w.heap.size, 1, none⟩) hlt4).trans g1, trivial⟩
      clear hK_ K_
      (try simp only [Act.put, sA, sB, sC])
      refine wpAnyT_one (i := 6) rfl (by kernel_rfl) rfl ?_
      intro K_ hK_
      refine wp_appB (.tmp 57) (.tmp 58) 30 rfl iu Tryz.underlying30 hiu hzu hsu hbu w4.heap.size _ 0 [] rfl how4 Non A3 m c3 l rfl HM.out hr4 (by omega) (by simp) ?_; intro v5 w5 hown hgrow hat; have b5 : Below w4.heap.size w4 w5 := b45.grown hgrow b45.size (fun j hj => by injection hj with hj; subst hj; exact Nat.le_refl _); rw [Nat.zero_add, List.nil_append] at hown; obtain ⟨A5, c5, rfl, hc5, hm5⟩ := own_val hown; have hO5 : Own Ever w5 A5 l := (Own.of_row hown HM.out.symm).mono (fun _ _ => trivial); have h5 := h4.mono b5; have g15 := (b5.cell (p := ⟨w.heap.size, 1, none⟩) hlt4).trans g1; have hown5 := own_bk hown4 (BK.below b5); clear hown hgrow hat
      refine hK_ _ _ ?_ ?_
      · exact fun _ _ => ⟨g15, trivial⟩
      clear hK_ K_
      (try simp only [Act.put, sA, sB, sC])
      refine wpAnyT_sink (i := 7) rfl (by kernel_rfl) rfl (by kernel_rfl) ?_
      intro K_ hK_
      go_wp2_with ((go_at_call 64; refine (hcR q w5 A5 c5 s' h5 hO5).mono ?_; rintro e w6 ⟨rfl, h6, k6⟩; have hown6 := own_bk hown5 k6))
      (try (refine hK_ _ _ ?_; clear hK_ K_))
      (try simp only [Act.put, sA, sB, sC])
      (refine wpF (i := 8) rfl (by kernel_rfl) rfl (fun _ _ _ h => h) (fun _ => by go_simp; try rfl) ?_; (try simp only [Act.put, sA, sB, sC]))
      refine wpAnyT_done (by kernel_rfl) ?_ _
      clear how4 hr4 b45
      go_wp2
      go_loopw [63] (fun i wr => ∃ (j : Nat) (l' : List UInt8), j ≤ m ∧ i = .int .i64 (j : Int) ∧ l'.length = m ∧ wr.ownsRow (w.heap.size + 1) TB 1 (.slice A3 m c3) m (l'.map byteV) ∧ Mut q w6 wr) (fun i _ => m - (intOf i).toNat)
      case atStart => exact ⟨0, l, Nat.zero_le _, rfl, HM.out, hown6, Mut.refl _ _⟩
      case round =>
        obtain ⟨j, l', hj, rfl, hl', hoj, hmu⟩ := hrel
        have HL' := Lib.hid hl'
        clear hl' hown6
        by_cases hlt : j < m
        · have hlt' : (j : Int) < (m : Int) := by omega
          obtain rfl := hq3.resolve_left (by omega)
          obtain ⟨x, hx⟩ : ∃ x, l'[j]? = some x := ⟨_, List.getElem?_eq_getElem (by rw [HL'.out]; exact hlt)⟩
          have hxc : wr.cell? ⟨q, j, none⟩ = some (.int .u8 (x.toNat : Int)) := by
            rw [hoj.cellAt _ (by omega), List.getElem?_map, hx]; rfl
          have hxf := hoj.frozenAt j
          have hst := (hoj.stored j (byteV (x ^^^ 255))).1
          rw [← List.map_set] at hst
          have EB := Lib.hid (xor255 x)
          have hmu' := hmu.setCell j (byteV (x ^^^ 255))
          have hj0 : (0 : Int) ≤ (j : Int) := by omega
          clear hx
          go_wp2
          rw [EB.out]
          go_roundw
          case rel => exact ⟨j + 1, l'.set j (x ^^^ 255), by omega, by go_num, by rw [List.length_set, HL'.out], hst, hmu'⟩
          case measure => simp [intOf]; omega
        · obtain rfl : j = m := by omega
          have h7 := h6.free hmu
          go_wp2
          go_ret
          exact ⟨by simp, s', st0, rs', by rw [hper]; exact h7, hf'⟩
    · rw [if_neg (fun q => hB q.2)] at hz
      subst hz
      go_enter Tryz.func12, Tryz.ntmps12
      go_wp2_with (first
        | (at_builtin; refine wpList_appB rfl (.tmp 13) (.tmp 20) 30 rfl iu Tryz.underlying30 hiu hzu hsu hbu (w.heap.size + 1) _ 0 [] rfl how Non B m cb l rfl HM.out hrr (by omega) (by simp) ?_; intro v3 w3 hown hgrow hat; obtain ⟨A3, c3, rfl, hown3, hc3, hm3, hb3, hl3, h3, g0, g1, g2, g3⟩ := key v3 w3 hown hgrow; clear hown hgrow hat key)
        | (go_at_call 10; obtain ⟨q, hq1, hq2, hq3⟩ := row_at hown3 hl3; have hO3 : Own Ever w3 A3 l := (Own.of_row hown3 HM.out.symm).mono (fun _ _ => trivial); refine (hcA q w3 A3 c3 hb3 hq1 hq2 hO3).mono ?_; rintro e w4 ⟨rfl, h4, k4, q4⟩; replace g1 := (cell_eq (a := ⟨w.heap.size, 1, none⟩) (q4 w.heap.size (Nat.le_refl _) hl3)).trans g1; clear g0 g2 g3 q4))
      have hown4 := own_bk hown3 k4
      have hO4 := hO3.bk k4
      have b45 : Below w4.heap.size w4 (w4.drew.alloc (.cells #[] TB)) := ((Below.refl w4.heap.size w4).drew).alloc (Nat.le_refl _) _
      have how4 := ownsB_none w4.drew
      have hr4 := (hO4.rd Non).fr (Fr.of_below b45)
      have hlt4 := cell_lt g1
      refine wp_region_T #[[], [], [], [], [], [], [], [3], [3]] [3] (fun w' => w'.cell? ⟨w.heap.size, 1, none⟩ = some (.int .i64 n) ∧ True) 9 rfl (by kernel_rfl) ?_
      (refine wpF (i := 0) rfl (by kernel_rfl) rfl (fun _ _ _ h => h) (fun _ => by go_simp; try rfl) ?_; (try simp only [Act.put, sA, sB, sC]))
      (refine wpF (i := 1) rfl (by kernel_rfl) rfl (fun _ _ _ h => h) (fun _ => by go_simp; try rfl) ?_; (try simp only [Act.put, sA, sB, sC]))
      (refine wpF (i := 2) rfl (by kernel_rfl) rfl (fun _ _ _ h => h) (fun _ => by go_simp; try rfl) ?_; (try simp only [Act.put, sA, sB, sC]))
      (refine wpAnyT_read (i := 3) rfl (by kernel_rfl) rfl (fun _ _ _ h => h) (by kernel_rfl) (⟨g1, trivial⟩) (fun w hS_ => by obtain ⟨s_1, s_2⟩ := hS_; go_simp; try rfl) ?_; (try simp only [Act.put, sA, sB, sC]))
      (refine wpF (i := 5) rfl (by kernel_rfl) rfl (fun _ _ _ h => h) (fun _ => by go_simp; try rfl) ?_; (try simp only [Act.put, sA, sB, sC]))
      refine wpAnyT_one (i := 4) rfl (by kernel_rfl) rfl ?_
      intro K_ hK_
      go_wp2
      refine hK_ _ _ ?_ ?_
      · exact fun _ _ => ⟨(b45.cell (p := ⟨w.heap.size, 1, none⟩) hlt4).trans g1, trivial⟩
      clear hK_ K_
      (try simp only [Act.put, sA, sB, sC])
      refine wpAnyT_one (i := 6) rfl (by kernel_rfl) rfl ?_
      intro K_ hK_
      refine wp_appB (.tmp 57) (.tmp 58) 30 rfl iu Tryz.underlying30 hiu hzu hsu hbu w4.heap.size _ 0 [] rfl how4 Non A3 m c3 l rfl HM.out hr4 (by omega) (by simp) ?_; intro v5 w5 hown hgrow hat; have b5 : Below w4.heap.size w4 w5 := b45.grown hgrow b45.size (fun j hj => by injection hj with hj; subst hj; exact Nat.le_refl _); rw [Nat.zero_add, List.nil_append] at hown; obtain ⟨A5, c5, rfl, hc5, hm5⟩ := own_val hown; have hO5 : Own Ever w5 A5 l := (Own.of_row hown HM.out.symm).mono (fun _ _ => trivial); have h5 := h4.mono b5; have g15 := (b5.cell (p := ⟨w.heap.size, 1, none⟩) hlt4).trans g1; have hown5 := own_bk hown4 (BK.below b5); clear hown hgrow hat
      refine hK_ _ _ ?_ ?_
      · exact fun _ _ => ⟨g15, trivial⟩
      clear hK_ K_
      (try simp only [Act.put, sA, sB, sC])
      refine wpAnyT_sink (i := 7) rfl (by kernel_rfl) rfl (by kernel_rfl) ?_
      intro K_ hK_
      go_wp2_with ((go_at_call 64; refine (hcR q w5 A5 c5 s' h5 hO5).mono ?_; rintro e w6 ⟨rfl, h6, k6⟩; have hown6 := own_bk hown5 k6))
      (try (refine hK_ _ _ ?_; clear hK_ K_))
      (try simp only [Act.put, sA, sB, sC])
      (refine wpF (i := 8) rfl (by kernel_rfl) rfl (fun _ _ _ h => h) (fun _ => by go_simp; try rfl) ?_; (try simp only [Act.put, sA, sB, sC]))
      refine wpAnyT_done (by kernel_rfl) ?_ _
      clear how4 hr4 b45
      go_wp2
      go_loopw [63] (fun i wr => ∃ (j : Nat) (l' : List UInt8), j ≤ m ∧ i = .int .i64 (j : Int) ∧ l'.length = m ∧ wr.ownsRow (w.heap.size + 1) TB 1 (.slice A3 m c3) m (l'.map byteV) ∧ Mut q w6 wr) (fun i _ => m - (intOf i).toNat)
      case atStart => exact ⟨0, l, Nat.zero_le _, rfl, HM.out, hown6, Mut.refl _ _⟩
      case round =>
        obtain ⟨j, l', hj, rfl, hl', hoj, hmu⟩ := hrel
        have HL' := Lib.hid hl'
        clear hl' hown6
        by_cases hlt : j < m
        · have hlt' : (j : Int) < (m : Int) := by omega
          obtain rfl := hq3.resolve_left (by omega)
          obtain ⟨x, hx⟩ : ∃ x, l'[j]? = some x := ⟨_, List.getElem?_eq_getElem (by rw [HL'.out]; exact hlt)⟩
          have hxc : wr.cell? ⟨q, j, none⟩ = some (.int .u8 (x.toNat : Int)) := by
            rw [hoj.cellAt _ (by omega), List.getElem?_map, hx]; rfl
          have hxf := hoj.frozenAt j
          have hst := (hoj.stored j (byteV (x ^^^ 255))).1
          rw [← List.map_set] at hst
          have EB := Lib.hid (xor255 x)
          have hmu' := hmu.setCell j (byteV (x ^^^ 255))
          have hj0 : (0 : Int) ≤ (j : Int) := by omega
          clear hx
          go_wp2
          rw [EB.out]
          go_roundw
          case rel => exact ⟨j + 1, l'.set j (x ^^^ 255), by omega, by go_num, by rw [List.length_set, HL'.out], hst, hmu'⟩
          case measure => simp [intOf]; omega
        · obtain rfl : j = m := by omega
          have h7 := h6.free hmu
          go_wp2
          go_ret
          exact ⟨by simp, s', st0, rs', by rw [hper]; exact h7, hf'⟩
  · rw [if_neg (fun q => hA q.1)] at hz
    subst hz
    go_enter Tryz.func12, Tryz.ntmps12
    go_wp2_with (first
      | (at_builtin; refine wpList_appB rfl (.tmp 13) (.tmp 20) 30 rfl iu Tryz.underlying30 hiu hzu hsu hbu (w.heap.size + 1) _ 0 [] rfl how Non B m cb l rfl HM.out hrr (by omega) (by simp) ?_; intro v3 w3 hown hgrow hat; obtain ⟨A3, c3, rfl, hown3, hc3, hm3, hb3, hl3, h3, g0, g1, g2, g3⟩ := key v3 w3 hown hgrow; clear hown hgrow hat key)
      | (go_at_call 10; obtain ⟨q, hq1, hq2, hq3⟩ := row_at hown3 hl3; have hO3 : Own Ever w3 A3 l := (Own.of_row hown3 HM.out.symm).mono (fun _ _ => trivial); refine (hcA q w3 A3 c3 hb3 hq1 hq2 hO3).mono ?_; rintro e w4 ⟨rfl, h4, k4, q4⟩; replace g1 := (cell_eq (a := ⟨w.heap.size, 1, none⟩) (q4 w.heap.size (Nat.le_refl _) hl3)).trans g1; clear g0 g2 g3 q4))
    have hown4 := own_bk hown3 k4
    have hO4 := hO3.bk k4
    have b45 : Below w4.heap.size w4 (w4.drew.alloc (.cells #[] TB)) := ((Below.refl w4.heap.size w4).drew).alloc (Nat.le_refl _) _
    have how4 := ownsB_none w4.drew
    have hr4 := (hO4.rd Non).fr (Fr.of_below b45)
    have hlt4 := cell_lt g1
    refine wp_region_T #[[], [], [], [], [], [], [], [3], [3]] [3] (fun w' => w'.cell? ⟨w.heap.size, 1, none⟩ = some (.int .i64 n) ∧ True) 9 rfl (by kernel_rfl) ?_
    (refine wpF (i := 0) rfl (by kernel_rfl) rfl (fun _ _ _ h => h) (fun _ => by go_simp; try rfl) ?_; (try simp only [Act.put, sA, sB, sC]))
    (refine wpF (i := 1) rfl (by kernel_rfl) rfl (fun _ _ _ h => h) (fun _ => by go_simp; try rfl) ?_; (try simp only [Act.put, sA, sB, sC]))
    (refine wpF (i := 2) rfl (by kernel_rfl) rfl (fun _ _ _ h => h) (fun _ => by go_simp; try rfl) ?_; (try simp only [Act.put, sA, sB, sC]))
    (refine wpAnyT_read (i := 3) rfl (by kernel_rfl) rfl (fun _ _ _ h => h) (by kernel_rfl) (⟨g1, trivial⟩) (fun w hS_ => by obtain ⟨s_1, s_2⟩ := hS_; go_simp; try rfl) ?_; (try simp only [Act.put, sA, sB, sC]))
    (refine wpF (i := 5) rfl (by kernel_rfl) rfl (fun _ _ _ h => h) (fun _ => by go_simp; try rfl) ?_; (try simp only [Act.put, sA, sB, sC]))
    refine wpAnyT_one (i := 4) rfl (by kernel_rfl) rfl ?_
    intro K_ hK_
    go_wp2
    refine hK_ _ _ ?_ ?_
    · exact fun _ _ => ⟨(b45.cell (p := ⟨w.heap.size, 1, none⟩) hlt4).trans g1, trivial⟩
    clear hK_ K_
    (try simp only [Act.put, sA, sB, sC])
    refine wpAnyT_one (i := 6) rfl (by kernel_rfl) rfl ?_
    intro K_ hK_
    refine wp_appB (.tmp 57) (.tmp 58) 30 rfl iu Tryz.underlying30 hiu hzu hsu hbu w4.heap.size _ 0 [] rfl how4 Non A3 m c3 l rfl HM.out hr4 (by omega) (by simp) ?_; intro v5 w5 hown hgrow hat; have b5 : Below w4.heap.size w4 w5 := b45.grown hgrow b45.size (fun j hj => by injection hj with hj; subst hj; exact Nat.le_refl _); rw [Nat.zero_add, List.nil_append] at hown; obtain ⟨A5, c5, rfl, hc5, hm5⟩ := own_val hown; have hO5 : Own Ever w5 A5 l := (Own.of_row hown HM.out.symm).mono (fun _ _ => trivial); have h5 := h4.mono b5; have g15 := (b5.cell (p := ⟨w.heap.size, 1, none⟩) hlt4).trans g1; have hown5 := own_bk hown4 (BK.below b5); clear hown hgrow hat
    refine hK_ _ _ ?_ ?_
    · exact fun _ _ => ⟨g15, trivial⟩
    clear hK_ K_
    (try simp only [Act.put, sA, sB, sC])
    refine wpAnyT_sink (i := 7) rfl (by kernel_rfl) rfl (by kernel_rfl) ?_
    intro K_ hK_
    go_wp2_with ((go_at_call 64; refine (hcR q w5 A5 c5 s' h5 hO5).mono ?_; rintro e w6 ⟨rfl, h6, k6⟩; have hown6 := own_bk hown5 k6))
    (try (refine hK_ _ _ ?_; clear hK_ K_))
    (try simp only [Act.put, sA, sB, sC])
    (refine wpF (i := 8) rfl (by kernel_rfl) rfl (fun _ _ _ h => h) (fun _ => by go_simp; try rfl) ?_; (try simp only [Act.put, sA, sB, sC]))
    refine wpAnyT_done (by kernel_rfl) ?_ _
    clear how4 hr4 b45
    go_wp2
    go_loopw [63] (fun i wr => ∃ (j : Nat) (l' : List UInt8), j ≤ m ∧ i = .int .i64 (j : Int) ∧ l'.length = m ∧ wr.ownsRow (w.heap.size + 1) TB 1 (.slice A3 m c3) m (l'.map byteV) ∧ Mut q w6 wr) (fun i _ => m - (intOf i).toNat)
    case atStart => exact ⟨0, l, Nat.zero_le _, rfl, HM.out, hown6, Mut.refl _ _⟩
    case round =>
      obtain ⟨j, l', hj, rfl, hl', hoj, hmu⟩ := hrel
      have HL' := Lib.hid hl'
      clear hl' hown6
      by_cases hlt : j < m
      · have hlt' : (j : Int) < (m : Int) := by omega
        obtain rfl := hq3.resolve_left (by omega)
        obtain ⟨x, hx⟩ : ∃ x, l'[j]? = some x := ⟨_, List.getElem?_eq_getElem (by rw [HL'.out]; exact hlt)⟩
        have hxc : wr.cell? ⟨q, j, none⟩ = some (.int .u8 (x.toNat : Int)) := by
          rw [hoj.cellAt _ (by omega), List.getElem?_map, hx]; rfl
        have hxf := hoj.frozenAt j
        have hst := (hoj.stored j (byteV (x ^^^ 255))).1
        rw [← List.map_set] at hst
        have EB := Lib.hid (xor255 x)
        have hmu' := hmu.setCell j (byteV (x ^^^ 255))
        have hj0 : (0 : Int) ≤ (j : Int) := by omega
        clear hx
        go_wp2
        rw [EB.out]
        go_roundw
        case rel => exact ⟨j + 1, l'.set j (x ^^^ 255), by omega, by go_num, by rw [List.length_set, HL'.out], hst, hmu'⟩
        case measure => simp [intOf]; omega
      · obtain rfl : j = m := by omega
        have h7 := h6.free hmu
        go_wp2
        go_ret
        exact ⟨by simp, s', st0, rs', by rw [hper]; exact h7, hf'⟩
end Go.Proofs.YtediidajdpdeiaaGreatDoor
