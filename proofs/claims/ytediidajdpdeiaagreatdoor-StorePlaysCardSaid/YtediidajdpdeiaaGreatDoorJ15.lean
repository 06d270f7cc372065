/- The log's Copy (layer 7): the walk. -/
import Derived.Test.YtediidajdpdeiaaGreatDoorJ6
import Derived.Test.YtediidajdpdeiaaGreatDoorJ12
import Derived.Test.YtediidajdpdeiaaGreatDoorJ13
import Derived.Test.YtediidajdpdeiaaGreatDoorJ4

namespace Go.Proofs.YtediidajdpdeiaaGreatDoor
open Go.RowKit CrcM
set_option maxRecDepth 100000

theorem ownsBs_none (w : World) : (w.alloc (.cells #[] TBs)).ownsRow w.heap.size TBs 1 (.slice (some ⟨w.heap.size, 0, none⟩) 0 0) 0 [] :=
  World.ownsRow_made w #[] 0 (Nat.le_refl _) (by simp [maxLen]) (by simp)

/-- WHAT a clone of a row of records leaves -/
def ClonedR (w : World) (vals : List Value) (e : Ending) (w' : World) : Prop := ∃ R c, e = .returned (.slice R vals.length c) ∧ Row (Nw w w') w' TBs (.slice R vals.length c) vals ∧ Below w.heap.size w w'
theorem cloneRow_B {S : Nat → Prop} {w : World} {R : Option Addr} {n c : Nat} {vals : List Value} (hn : n = vals.length) (hr : Row S w TBs (.slice R n c) vals) (h1 : ∀ u ∈ vals, u.oneCell' = true) (hl : n ≤ 349525) :
    Calls Tryz.prog 102 #[.slice R n c] w (ClonedR w vals) := by
  obtain ⟨ib, hib, hzb, hsb, hbb⟩ := info_parts info_bs
  subst hn
  rcases R with _ | ad
  · have hv : vals = [] ∧ c = 0 := by
      rcases hr with ⟨h, rfl⟩ | ⟨g, o, c', cur, h, -⟩
      · injection h with _ _ h
        exact ⟨rfl, h⟩
      · injection h with h
        cases h
    obtain ⟨rfl, rfl⟩ := hv
    have hnil := fun (w : World) => Lib.run_eql_slice_nil w (P := Tryz.prog) 70 TBs none 0 0 0 0 Tryz.underlying70
    go_enter Tryz.func102, Tryz.ntmps102
    go_wp2
    go_ret
    exact ⟨none, 0, rfl, Row.nil _ _ _, Below.refl _ _⟩
  · have hnil := fun (w : World) => Lib.run_eql_slice_nil w (P := Tryz.prog) 70 TBs (some ad) vals.length c 0 0 Tryz.underlying70
    have hb0 := below_new w (.cells #[] TBs)
    have hr0 := hr.below hb0
    go_enter Tryz.func102, Tryz.ntmps102
    go_wp2_with (at_builtin; refine wpList_append_rd rfl (.tmp 5) (.tmp 6) 70 rfl TBs ib _ 24 Tryz.underlying70 hib hzb hsb hbb rfl w.heap.size _ 0 [] rfl (ownsBs_none w) _ (some ad) vals.length c vals rfl rfl hr0 h1 (by unfold maxLen; omega) (by omega) hb0.size ?_; intro v1 w1 ho1 hg1; rw [Nat.zero_add, List.nil_append] at ho1; obtain ⟨A1, c1, rfl, hc1, hm1⟩ := own_val ho1)
    go_ret
    have hb1 : Below w.heap.size w w1 := hb0.grown hg1 hb0.size (fun j hj => by injection hj with hj; subst hj; exact Nat.le_refl _)
    exact ⟨A1, c1, rfl, (Row.of_own ho1 (S := fun x => w.heap.size ≤ x) (fun g hg => own_grown ho1 hg)).mono (fun x hx hs => ⟨hs, hx⟩), hb1⟩

section
variable {S H : Nat → Prop} {w : World} {b : Nat} {A : Option Addr} {c : Nat} {ps : List Nat} {L : Lg}
/-- WHAT Copy leaves -/
def CopyDid (w : World) (L : Lg) (e : Ending) (w' : World) : Prop := ∃ b', e = .returned (.pointer (some ⟨b', 0, none⟩)) ∧ LogAt (Nw w w') w' b' L ∧ Below w.heap.size w w'
theorem copyL (h : LogO S H w b A c ps L) (hu : L.up) : Calls Tryz.prog 50 #[.pointer (some ⟨b, 0, none⟩)] w (CopyDid w L) := by
  obtain ⟨ip, hip, hzp, hsp, hbp⟩ := info_parts info_ps
  obtain ⟨per, gs, dn⟩ := L
  have hok := h.ok
  obtain ⟨c0, c1, c2, z1, z2, q0, q1, q2, q3, q4⟩ := h.facts
  have HQ := Lib.hid q1
  have HU := Lib.hid hu
  have HOK := Lib.hid hok
  clear q1 hu hok
  go_enter Tryz.func50, Tryz.ntmps50
  go_wp2_with (go_at_call 101; refine (noneL h).mono ?_; rintro e w' ⟨rfl, rfl⟩)
  refine wp_region_T #[[], [], [], [], [], [], [], [], [3, 7], [3, 7], [3, 7]] [3, 7] (fun w' => w'.cell? ⟨b, 0, none⟩ = some (.int .i64 (per : Int)) ∧ w'.cell? ⟨b, 2, none⟩ = some (.bool dn)) 11 rfl (by kernel_rfl) ?_
  (refine wpF (i := 0) rfl (by kernel_rfl) rfl (fun _ _ _ h => h) (fun _ => by go_simp; try rfl) ?_; (try simp only [Act.put, sA, sB, sC]))
  (refine wpF (i := 1) rfl (by kernel_rfl) rfl (fun _ _ _ h => h) (fun _ => by go_simp; try rfl) ?_; (try simp only [Act.put, sA, sB, sC]))
  (refine wpF (i := 2) rfl (by kernel_rfl) rfl (fun _ _ _ h => h) (fun _ => by go_simp; try rfl) ?_; (try simp only [Act.put, sA, sB, sC]))
  (refine wpAnyT_read (i := 3) rfl (by kernel_rfl) rfl (fun _ _ _ h => h) (by kernel_rfl) (⟨c0, c2⟩) (fun w hS_ => by obtain ⟨s_1, s_2⟩ := hS_; go_simp; try rfl) ?_; (try simp only [Act.put, sA, sB, sC]))
  (refine wpF (i := 4) rfl (by kernel_rfl) rfl (fun _ _ _ h => h) (fun _ => by go_simp; try rfl) ?_; (try simp only [Act.put, sA, sB, sC]))
  (refine wpF (i := 5) rfl (by kernel_rfl) rfl (fun _ _ _ h => h) (fun _ => by go_simp; try rfl) ?_; (try simp only [Act.put, sA, sB, sC]))
  (refine wpF (i := 6) rfl (by kernel_rfl) rfl (fun _ _ _ h => h) (fun _ => by go_simp; try rfl) ?_; (try simp only [Act.put, sA, sB, sC]))
  (refine wpAnyT_read (i := 7) rfl (by kernel_rfl) rfl (fun _ _ _ h => h) (by kernel_rfl) (⟨c0, c2⟩) (fun w hS_ => by obtain ⟨s_1, s_2⟩ := hS_; go_simp; try rfl) ?_; (try simp only [Act.put, sA, sB, sC]))
  (refine wpF (i := 8) rfl (by kernel_rfl) rfl (fun _ _ _ h => h) (fun _ => by go_simp; try rfl) ?_; (try simp only [Act.put, sA, sB, sC]))
  refine wpAnyT_sink (i := 9) rfl (by kernel_rfl) rfl (by kernel_rfl) ?_
  intro K_ hK_
  go_wp2
  (try (refine hK_ _ _ ?_; clear hK_ K_))
  (try simp only [Act.put, sA, sB, sC])
  (refine wpF (i := 10) rfl (by kernel_rfl) rfl (fun _ _ _ h => h) (fun _ => by go_simp; try rfl) ?_; (try simp only [Act.put, sA, sB, sC]))
  refine wpAnyT_done (by kernel_rfl) ?_ _
  have hb0 : Below w.heap.size w (w.alloc (.cells #[.int .i64 (per : Int), .slice none 0 0, .bool dn] TLg)).drew := (((Below.refl w.heap.size w)).alloc (Nat.le_refl _) _).drew
  have hL0 : LogO (Nw w (w.alloc (.cells #[.int .i64 (per : Int), .slice none 0 0, .bool dn] TLg)).drew) (Nw w (w.alloc (.cells #[.int .i64 (per : Int), .slice none 0 0, .bool dn] TLg)).drew) (w.alloc (.cells #[.int .i64 (per : Int), .slice none 0 0, .bool dn] TLg)).drew w.heap.size none 0 [] ⟨per, gs.take 0, dn⟩ :=
    ⟨fun _ h => h, ⟨Nat.le_refl _, by simp⟩, (Blk.new _ _ _).drew, Row.nil _ _ _, Segs.nil _ _ _, fun x hx => hx.2, ⟨HOK.out.1, HOK.out.2.1, by simp, fun g hg => by simp at hg⟩, fun _ _ => trivial⟩
  generalize (w.alloc (.cells #[.int .i64 (per : Int), .slice none 0 0, .bool dn] TLg)).drew = w1 at *
  have c1' := (h.below hb0).facts.2.1
  clear c0 c1 c2 z1 z2 q0
  go_wp2
  clear c1'
  go_loopw [24] (fun i wr => ∃ (k : Nat) (Hk : Nat → Prop) (A' : Option Addr) (c' : Nat) (qs : List Nat), k ≤ ps.length ∧ i = .int .i64 (k : Int) ∧ qs.length = k ∧ LogO (Nw w wr) Hk wr w.heap.size A' c' qs ⟨per, gs.take k, dn⟩ ∧ Below w.heap.size w wr) (fun i _ => ps.length - (intOf i).toNat)
  case atStart => exact ⟨0, _, none, 0, [], Nat.zero_le _, rfl, rfl, hL0, hb0⟩
  case round =>
    obtain ⟨k, Hk, A', c', qs, hk, rfl, hql, hl, hb⟩ := hrel
    have HQL := Lib.hid hql
    clear hql
    by_cases hlt : k < ps.length
    · obtain ⟨g, hg⟩ : ∃ g, gs[k]? = some g := ⟨_, List.getElem?_eq_getElem (show k < gs.length by have := HQ.out; omega)⟩
      obtain ⟨p, hp⟩ : ∃ p, ps[k]? = some p := ⟨_, List.getElem?_eq_getElem hlt⟩
      have h2 := h.below hb
      obtain ⟨Fi, hF, hs, -⟩ := h2.segs.at hp hg
      obtain ⟨⟨Sd, Sh, db, Rd, cR, rv, vals, k1, k2, k3, k4, k5, k6, k7, k8⟩, hslt⟩ := hs
      obtain ⟨R, cr, rfl, hcr, hmr⟩ := k7.val
      obtain ⟨ga, oa, rfl, ca⟩ := h2.ptrAt2 hp
      have hvl := k8.1
      have htk : gs.take (k + 1) = gs.take k ++ [g] := by rw [List.take_add_one, hg]; rfl
      have HT := Lib.hid htk
      have HG := Lib.hid hg
      have s0 := k5.cell 0 (v := .pointer (some ⟨db, 0, none⟩)) rfl
      have s1 := k5.cell 1 (v := .int .i64 (g.base : Int)) rfl
      have s2 := k5.cell 2 (v := .slice R vals.length cr) rfl
      have s3 := k5.cell 3 (v := .int .i64 (g.safe : Int)) rfl
      have hlt' : (k : Int) < (ps.length : Int) := by omega
      have HV := Lib.hid hvl
      clear htk hg hp hvl
      have hbn := below_new wr (.cells #[.pointer (some ⟨db, 0, none⟩), .int .i64 (g.base : Int), .slice R vals.length cr, .int .i64 (g.safe : Int)] TSg)
      have B2 := Blk.new wr TSg #[.pointer (some ⟨db, 0, none⟩), .int .i64 (g.base : Int), .slice R vals.length cr, .int .i64 (g.safe : Int)]
      have hN2 : wr.heap.size < (wr.alloc (.cells #[.pointer (some ⟨db, 0, none⟩), .int .i64 (g.base : Int), .slice R vals.length cr, .int .i64 (g.safe : Int)] TSg)).heap.size := B2.lt
      have t0 := (hbn.cell (p := ⟨p, 0, none⟩) (cell_lt s0)).trans s0
      have t2 := (hbn.cell (p := ⟨p, 2, none⟩) (cell_lt s2)).trans s2
      have hd2 := (k6.below hbn).drew
      have hr2 := k7.below hbn
      have hc2 := k8.fr (S' := Non) (Fr.of_below hbn)
      have hl2 := hl.below hbn
      have hfew : vals.length ≤ 349525 := by rw [HV.out]; exact (HOK.out.2.2.2 g (List.mem_of_getElem? HG.out)).2.1
      go_wp2
      change Code.wp _ _ _ _ (wr.alloc (.cells #[.pointer (some ⟨db, 0, none⟩), .int .i64 (g.base : Int), .slice R vals.length cr, .int .i64 (g.safe : Int)] TSg))
      generalize wr.alloc (.cells #[.pointer (some ⟨db, 0, none⟩), .int .i64 (g.base : Int), .slice R vals.length cr, .int .i64 (g.safe : Int)] TSg) = w2 at *
      refine wp_region_T #[[], [], [], [], [3], [], [], [], [], [3, 8], [3, 8], [3, 8], [3, 8], [3, 8]] [3, 8] (fun w' => w'.cell? ⟨p, 0, none⟩ = some (.pointer (some ⟨db, 0, none⟩)) ∧ w'.cell? ⟨p, 2, none⟩ = some (.slice R vals.length cr)) 14 rfl (by kernel_rfl) ?_
      (refine wpF (i := 0) rfl (by kernel_rfl) rfl (fun _ _ _ h => h) (fun _ => by go_simp; try rfl) ?_; (try simp only [Act.put, sA, sB, sC]))
      (refine wpF (i := 1) rfl (by kernel_rfl) rfl (fun _ _ _ h => h) (fun _ => by go_simp; try rfl) ?_; (try simp only [Act.put, sA, sB, sC]))
      (refine wpF (i := 2) rfl (by kernel_rfl) rfl (fun _ _ _ h => h) (fun _ => by go_simp; try rfl) ?_; (try simp only [Act.put, sA, sB, sC]))
      (refine wpAnyT_read (i := 3) rfl (by kernel_rfl) rfl (fun _ _ _ h => h) (by kernel_rfl) (⟨t0, t2⟩) (fun w hS_ => by obtain ⟨s_1, s_2⟩ := hS_; go_simp; try rfl) ?_; (try simp only [Act.put, sA, sB, sC]))
      (refine wpF (i := 5) rfl (by kernel_rfl) rfl (fun _ _ _ h => h) (fun _ => by go_simp; try rfl) ?_; (try simp only [Act.put, sA, sB, sC]))
      (refine wpF (i := 6) rfl (by kernel_rfl) rfl (fun _ _ _ h => h) (fun _ => by go_simp; try rfl) ?_; (try simp only [Act.put, sA, sB, sC]))
      (refine wpF (i := 7) rfl (by kernel_rfl) rfl (fun _ _ _ h => h) (fun _ => by go_simp; try rfl) ?_; (try simp only [Act.put, sA, sB, sC]))
      (refine wpAnyT_read (i := 8) rfl (by kernel_rfl) rfl (fun _ _ _ h => h) (by kernel_rfl) (⟨t0, t2⟩) (fun w hS_ => by obtain ⟨s_1, s_2⟩ := hS_; go_simp; try rfl) ?_; (try simp only [Act.put, sA, sB, sC]))
      refine wpAnyT_one (i := 4) rfl (by kernel_rfl) rfl ?_
      intro K_ hK_
      go_wp2_with ((go_at_call 51; refine (copy_B hd2).mono ?_; rintro e w3 ⟨p3, rfl, ⟨d3, A3, c3, rfl, hd3⟩, hb3⟩; have hcl := cloneRow_B rfl ((hr2.drew).below hb3) hc2.one hfew))
      refine hK_ _ _ ?_ ?_
      · exact fun _ _ => ⟨(hb3.cell (p := ⟨p, 0, none⟩) (cell_lt t0)).trans t0, (hb3.cell (p := ⟨p, 2, none⟩) (cell_lt t2)).trans t2⟩
      clear hK_ K_
      (try simp only [Act.put, sA, sB, sC])
      refine wpAnyT_sink (i := 9) rfl (by kernel_rfl) rfl (by kernel_rfl) ?_
      intro K_ hK_
      go_wp2_with ((go_at_call 102; refine hcl.mono ?_; rintro e w4 ⟨R4, c4, rfl, hrow4, hb4⟩; have B4 := (B2.drew.below' hb3).below' hb4; have y0 := B4.cell 0 (v := .pointer (some ⟨db, 0, none⟩)) rfl; have yf0 := B4.frozen 0; have B5 := B4.set 0 (.pointer (some ⟨d3, 0, none⟩)); have y2 := B5.cell 2 (v := .slice R vals.length cr) (by simp); have yf2 := B5.frozen 2))
      (try (refine hK_ _ _ ?_; clear hK_ K_))
      (try simp only [Act.put, sA, sB, sC])
      (refine wpF (i := 10) rfl (by kernel_rfl) rfl (fun _ _ _ h => h) (fun _ => by go_simp; try rfl) ?_; (try simp only [Act.put, sA, sB, sC]))
      refine wpAnyT_sink (i := 11) rfl (by kernel_rfl) rfl (by kernel_rfl) ?_
      intro K_ hK_
      go_wp2
      (try (refine hK_ _ _ ?_; clear hK_ K_))
      (try simp only [Act.put, sA, sB, sC])
      (refine wpF (i := 12) rfl (by kernel_rfl) rfl (fun _ _ _ h => h) (fun _ => by go_simp; try rfl) ?_; (try simp only [Act.put, sA, sB, sC]))
      refine wpAnyT_sink (i := 13) rfl (by kernel_rfl) rfl (by kernel_rfl) ?_
      intro K_ hK_
      go_wp2
      (try (refine hK_ _ _ ?_; clear hK_ K_))
      (try simp only [Act.put, sA, sB, sC])
      refine wpAnyT_done (by kernel_rfl) ?_ _
      have hb24' := hb3.trans (hb4.mono hb3.size)
      have hb24 : Below w2.heap.size w2 w4 := ⟨hb24'.os, hb24'.tape, hb24'.output, hb24'.size, hb24'.block⟩
      have hN3 : w2.heap.size ≤ w3.heap.size := hb3.size
      have hN4 : w3.heap.size ≤ w4.heap.size := hb4.size
      have hnb : ¬ IsB w4 wr.heap.size := B4.notB (by decide)
      have B6 : Blk ((w4.setCell ⟨wr.heap.size, 0, none⟩ (.pointer (some ⟨d3, 0, none⟩))).setCell ⟨wr.heap.size, 2, none⟩ (.slice R4 vals.length c4)) wr.heap.size TSg #[ptr d3, .int .i64 (g.base : Int), .slice R4 vals.length c4, .int .i64 (g.safe : Int)] := by simpa [ptr] using B5.set 2 (.slice R4 vals.length c4)
      have f45 : Fr (fun x => x = wr.heap.size) w4 ((w4.setCell ⟨wr.heap.size, 0, none⟩ (.pointer (some ⟨d3, 0, none⟩))).setCell ⟨wr.heap.size, 2, none⟩ (.slice R4 vals.length c4)) := ((Fr.refl (fun x => x = wr.heap.size) w4).setCell (p := ⟨wr.heap.size, 0, none⟩) (.inl rfl) hnb _).setCell (p := ⟨wr.heap.size, 2, none⟩) (.inl rfl) hnb _
      have hb25 : Below wr.heap.size wr ((w4.setCell ⟨wr.heap.size, 0, none⟩ (.pointer (some ⟨d3, 0, none⟩))).setCell ⟨wr.heap.size, 2, none⟩ (.slice R4 vals.length c4)) := ((hbn.trans (hb24.mono hbn.size)).setCell (p := ⟨wr.heap.size, 0, none⟩) (Nat.le_refl _) _).setCell (p := ⟨wr.heap.size, 2, none⟩) (Nat.le_refl _) _
      have hs5 : ((w4.setCell ⟨wr.heap.size, 0, none⟩ (.pointer (some ⟨d3, 0, none⟩))).setCell ⟨wr.heap.size, 2, none⟩ (.slice R4 vals.length c4)).heap.size = w4.heap.size := by simp [World.setCell]
      generalize (w4.setCell ⟨wr.heap.size, 0, none⟩ (.pointer (some ⟨d3, 0, none⟩))).setCell ⟨wr.heap.size, 2, none⟩ (.slice R4 vals.length c4) = w5 at *
      have hseg : SegAt (Nw wr w5) w5 wr.heap.size g :=
        ⟨⟨Nw w2.drew w3, fun x => x = wr.heap.size ∨ Nw w3 w4 x, d3, A3, c3, .slice R4 vals.length c4, vals,
          fun x hx => ⟨by have h1 : w2.heap.size ≤ x := hx.1; omega, by have := hx.2; omega⟩,
          fun x hx => hx.elim (fun e => ⟨by omega, by omega⟩) (fun q => ⟨by have := q.1; omega, by have := q.2; omega⟩),
          fun x hx hy => (show False from hy.elim (fun e => by have h1 : w2.heap.size ≤ x := hx.1; omega) (fun q => by have := q.1; have := hx.2; omega)).elim,
          .inl rfl, B6, (hd3.below hb4).fr f45 (fun x hx e => (show False from by have h1 : w2.heap.size ≤ x := hx.1; omega).elim), (hrow4.otherBlk B4 (by decide) f45).mono (fun x _ hx => .inr hx), ((hc2.fr (S' := Non) (Fr.of_below hb24)).fr f45)⟩, fun x hx => hx.2⟩
      have hl5 := hl.below hb25
      have hb6 := below_new w5 (.cells #[ptr wr.heap.size] TPs)
      have v1 := hl5.blk.cell 1 (v := .slice A' qs.length c') rfl
      have hrow6 := hl5.row.below hb6
      have BL6 := hl5.blk.below' hb6
      have hne6 := hrow6.ownNe BL6 (by decide)
      have HM4 : (qs.map ptr).length + 1 ≤ maxLen := by rw [List.length_map, HQL.out]; unfold maxLen; omega
      have HM5 : ((qs.map ptr).length + 1) * 8 ≤ 140737488355328 := by rw [List.length_map, HQL.out]; omega
      have hgl : (gs.take k).length < 256 := by rw [List.length_take]; omega
      clear B6 f45 hs5 hd3 hrow4 B4 B5 y0 yf0 y2 yf2 hcl hl2 t0 t2 hd2 hr2 hc2 B2 hnb
      go_wp2_with (at_builtin; refine wpList_append_row rfl (.tmp 47) (.tmp 48) 130 rfl TPs ip _ 8 Tryz.underlying130 hip hzp hsp hbp rfl (.slice A' qs.length c') (qs.map ptr) rfl hrow6 ⟨w5.heap.size, 0, none⟩ (ptr wr.heap.size) rfl (heap_new_cell _ _ _) rfl HM4 HM5 (by decide) ?_; intro v7 w7 hrow7 hf7 hoth7; obtain ⟨A7, c7, rfl, hc7, hm7⟩ := hrow7.val; rw [List.length_append, List.length_map, List.length_singleton] at hrow7 hc7 ⊢; have BL7 : Blk w7 w.heap.size TLg _ := BL6.eq (hoth7 _ BL6.lt hne6); have x7 := BL7.cell 1 (v := .slice A' qs.length c') rfl; have xf7 := BL7.frozen 1)
      obtain ⟨hl8, hf8⟩ := hl.grow hgl hb25 hseg (HOK.out.2.2.2 g (List.mem_of_getElem? HG.out)) hb6 hf7 hoth7 hrow7
      go_roundw
      case rel =>
        have hsz : (w7.setCell ⟨w.heap.size, 1, none⟩ (.slice A7 (qs.length + 1) c7)).heap.size = w7.heap.size := by simp [World.setCell]
        have hsb := hb.size
        refine ⟨k + 1, Up Hk (w5.alloc (.cells #[ptr wr.heap.size] TPs)) w7, A7, c7, qs ++ [wr.heap.size], by omega, by go_num, by rw [List.length_append, HQL.out]; rfl, ?_, ?_⟩
        · rw [HT.out]
          exact hl8.mono (fun x hx => ⟨hx.elim (fun q => q.1) (fun q => Nat.le_trans hsb q.1), by rw [hsz]; exact hx.elim (fun q => Nat.lt_of_lt_of_le q.2 (by have := hf8.size; omega)) (fun q => q.2)⟩) (fun x hx => hx.2)
        · exact ⟨hf8.os.trans hb.os, hf8.tape.trans hb.tape, hf8.output.trans hb.output, Nat.le_trans hsb hf8.size, fun x hx => (hf8.out x (Nat.lt_of_lt_of_le hx hsb) (fun q => by have := q.1; omega)).trans (hb.block x hx)⟩
      case measure => simp [intOf]; omega
    · obtain rfl : k = ps.length := by omega
      rw [List.take_of_length_le (by rw [HQ.out]; omega)] at hl
      go_wp2
      go_ret
      exact ⟨_, rfl, ⟨HU.out, _, _, _, _, hl⟩, hb⟩
end
end Go.Proofs.YtediidajdpdeiaaGreatDoor

/- What the laws of a store come to (layer 8), in plain words. -/
namespace Go.Proofs.YtediidajdpdeiaaGreatDoor
open CrcM

/-! no slot lies below the base, at any record -/
def St.based (s : St) : Prop := ∀ p ∈ s.slots, s.base ≤ p.1
def Based (st0 : St) (rcs : List Rc) : Prop := ∀ j, ((rcs.take j).foldl Rc.play st0).based
section
variable {st : St} {rcs : List Rc}
theorem Based.nil (h : st.based) : Based st [] := fun j => by rw [List.take_nil]; exact h
theorem Based.take (h : Based st rcs) (i : Nat) : Based st (rcs.take i) := fun j => by rw [List.take_take]; exact h _
theorem Based.all (h : Based st rcs) : (rcs.foldl Rc.play st).based := by
  have := h rcs.length
  rwa [List.take_length] at this
theorem Based.put (h : Based st rcs) {rc : Rc} (hp : (Rc.play (rcs.foldl Rc.play st) rc).based) : Based st (rcs ++ [rc]) := fun j => by
  by_cases hj : j ≤ rcs.length
  · rw [List.take_append_of_le_length hj]
    exact h j
  · rw [List.take_of_length_le (by rw [List.length_append, List.length_singleton]; omega), List.foldl_append]
    exact hp
theorem St.based_new : St.new.based := fun p hp => by cases hp
theorem St.based.acc (h : st.based) {k : Nat} (hk : st.base ≤ k) (b : Nat) (v : List UInt8) : (Rc.play st (.acc k b v)).based := by
  intro p hp
  show st.base ≤ p.1
  rcases mem_putN.1 hp with rfl | ⟨hp, _⟩
  · exact hk
  · exact h p hp
theorem St.based_forget (s : St) (n : Nat) : (Rc.play s (.forget n)).based := by
  intro p hp
  exact of_decide_eq_true (List.mem_filter.1 hp).2
end

/-- a store as the laws' calls leave it -/
structure So.Fine (m n : Nat) (s : So) (st0 : St) (rcs : List Rc) : Prop where
  inv : s.inv m n st0 rcs
  based : Based st0 rcs
  few : s.st.slots.length ≤ n
def So.Sound (m n : Nat) (s : So) : Prop := ∃ st0 rcs, s.Fine m n st0 rcs
section
variable {m n : Nat} {s : So} {st0 : St} {rcs : List Rc}
theorem So.inv.fine (h : s.inv m n st0 rcs) (hB : Based st0 rcs) (hd : s.log.down = false) : s.Fine m n st0 rcs := ⟨h, hB, (h.st hd).2⟩
theorem So.Fine.sound (h : s.Fine m n st0 rcs) : s.Sound m n := ⟨_, _, h⟩
theorem So.Fine.mono (h : s.Fine m n st0 rcs) {m' n' : Nat} (hm : m ≤ m') (hn : n ≤ n') (hs : n' ≤ 150) : s.Fine m' n' st0 rcs := ⟨h.inv.mono hm hn hs, h.based, Nat.le_trans h.few hn⟩
theorem So.Fine.put (h : s.Fine m n st0 rcs) (hd : s.log.down = false) {rc : Rc} {s' : So} (hp : Put m n s st0 rcs rc s') (hb : (Rc.play s.st rc).based) : s'.Fine m (n + 1) st0 (rcs ++ [rc]) :=
  hp.inv.fine (h.based.put (by rw [← h.inv.up hd]; exact hb)) hp.down
theorem So.Fine.now (h : s.Fine m n st0 rcs) (hd : s.log.down = false) : s.st.based := by
  rw [h.inv.up hd]
  exact h.based.all
theorem So.Fine.rose (h : s.Fine m n st0 rcs) {j : Nat} {s' : So} (hr : Rose m n s st0 rcs j s') : s'.Fine m n st0 (rcs.take j) := hr.inv.fine (h.based.take j) hr.down
/-! what has the promise rise -/
def Over (was now : Slots) : Prop := ∀ p ∈ was, ∃ y, (p.1, y) ∈ now ∧ p.2.ballot ≤ y.ballot
theorem Over.refl (l : Slots) : Over l l := fun p hp => ⟨p.2, hp, Nat.le_refl _⟩
theorem Over.trans {a b c : Slots} (h : Over a b) (k : Over b c) : Over a c := fun p hp => by
  obtain ⟨y, h1, h2⟩ := h p hp
  obtain ⟨z, h3, h4⟩ := k _ h1
  exact ⟨z, h3, Nat.le_trans h2 h4⟩
structure Up8 (m n : Nat) (s s' : So) : Prop where
  sound : s'.Sound m (n + 1)
  up : s'.log.down = false
  pr : s.st.promised ≤ s'.st.promised
  over : Over s.st.slots s'.st.slots
theorem So.Fine.same (h : s.Fine m n st0 rcs) (hd : s.log.down = false) (hn : n < 150) : Up8 m n s s := ⟨⟨st0, rcs, h.mono (Nat.le_refl _) (by omega) (by omega)⟩, hd, Nat.le_refl _, Over.refl _⟩
/-! what a crash may leave of records that were not kept -/
structure Tor (st : St) (low hi : Nat) (t : St) : Prop where
  lo : low ≤ t.promised
  hi : t.promised ≤ hi
  base : t.base = st.base
  slots : ∀ p ∈ st.slots, ∃ y, (p.1, y) ∈ t.slots ∧ p.2.ballot ≤ y.ballot ∧ (p.1 ≠ 1 → y = p.2)
  b : ∀ y, (50, y) ∈ t.slots → y.value = [98]
def Xtra (low hi : Nat) : Rc → Prop
  | .acc k b v => (k = 1 ∧ b = low) ∨ (k = 50 ∧ b = low ∧ v = [98])
  | .prom b => b ≤ hi
  | .forget _ => False
theorem Tor.play {st t : St} {low hi : Nat} (h : Tor st low hi t) (hlh : low ≤ hi) (hl : ∀ p ∈ st.slots, p.1 ≠ 50 ∧ p.2.ballot ≤ low) {r : Rc} (hr : Xtra low hi r) : Tor st low hi (Rc.play t r) := by
  cases r with
  | forget n => exact hr.elim
  | prom b =>
    have hb : b ≤ hi := hr
    have := h.lo
    have := h.hi
    exact ⟨show low ≤ max t.promised b by omega, show max t.promised b ≤ hi by omega, h.base, h.slots, h.b⟩
  | acc k b v =>
    have h1 := h.lo
    have h2 := h.hi
    rcases hr with ⟨rfl, rfl⟩ | ⟨rfl, rfl, rfl⟩
    · refine ⟨show b ≤ max t.promised b by omega, show max t.promised b ≤ hi by omega, h.base, fun p hp => ?_, fun y hy => ?_⟩
      · obtain ⟨y, q1, q2, q3⟩ := h.slots p hp
        by_cases hk : p.1 = 1
        · exact ⟨⟨b, v⟩, mem_putN.2 (.inl (by rw [hk])), (hl p hp).2, fun q => (q hk).elim⟩
        · exact ⟨y, mem_putN.2 (.inr ⟨q1, hk⟩), q2, q3⟩
      · rcases mem_putN.1 hy with e | ⟨hy, _⟩
        · cases e
        · exact h.b y hy
    · refine ⟨show b ≤ max t.promised b by omega, show max t.promised b ≤ hi by omega, h.base, fun p hp => ?_, fun y hy => ?_⟩
      · obtain ⟨y, q1, q2, q3⟩ := h.slots p hp
        exact ⟨y, mem_putN.2 (.inr ⟨q1, (hl p hp).1⟩), q2, q3⟩
      · rcases mem_putN.1 hy with e | ⟨_, hy⟩
        · injection e with _ e
          rw [e]
        · exact (hy rfl).elim
theorem Tor.plays {st : St} {low hi : Nat} (hlh : low ≤ hi) (hl : ∀ p ∈ st.slots, p.1 ≠ 50 ∧ p.2.ballot ≤ low) : ∀ (rs : List Rc) {t : St}, Tor st low hi t → (∀ r ∈ rs, Xtra low hi r) → Tor st low hi (rs.foldl Rc.play t)
  | [], _, h, _ => h
  | r :: rs, _, h, hr => Tor.plays hlh hl rs (h.play hlh hl (hr r (List.mem_cons_self ..))) (fun x hx => hr x (List.mem_cons_of_mem _ hx))
/-- a store behind what is kept and some records more -/
structure Torn (m n : Nat) (st0 : St) (rcs : List Rc) (st : St) (low : Nat) (hi : Nat → Prop) (s : So) (extra : List Rc) : Prop where
  inv : s.inv m n st0 (rcs ++ extra)
  up : s.log.down = false
  sy : s.sy = rcs.length
  x : ∀ r ∈ extra, ∀ h, hi h → Xtra low h r
theorem Torn.put {st : St} {low : Nat} {hi : Nat → Prop} {extra : List Rc} (h : Torn m n st0 rcs st low hi s extra) {rc : Rc} {s' : So} (hp : Put m n s st0 (rcs ++ extra) rc s') {hi' : Nat → Prop} (hh : ∀ h, hi' h → hi h) (hx : ∀ h, hi' h → Xtra low h rc) : Torn m (n + 1) st0 rcs st low hi' s' (extra ++ [rc]) :=
  ⟨by rw [← List.append_assoc]; exact hp.inv, hp.down, hp.sy.trans h.sy, fun r hr => by
    rcases List.mem_append.1 hr with hr | hr
    · exact fun z hz => h.x r hr z (hh z hz)
    · obtain rfl := List.mem_singleton.1 hr
      exact hx⟩
theorem Torn.mono {st : St} {low : Nat} {hi : Nat → Prop} {extra : List Rc} (h : Torn m n st0 rcs st low hi s extra) {n' : Nat} (hn : n ≤ n') (hs : n' ≤ 150) : Torn m n' st0 rcs st low hi s extra := ⟨h.inv.mono (Nat.le_refl _) hn hs, h.up, h.sy, h.x⟩
/-- what the law of Torn does to a store -/
theorem So.Fine.torn (h : s.Fine 40 50 st0 rcs) (hd : s.log.down = false) :
    ∃ s1 s2 s3 s4 c2 c3 c4 extra, s.sync = (s1, 0) ∧ s1.inv 51 53 st0 rcs ∧ s1.log.down = false ∧ s1.st = s.st ∧ s1.promise s.st.promised = (s1, 0) ∧
      s1.accept 1 s.st.promised [97] = (s2, c2) ∧ s2.inv 51 53 st0 (rcs ++ c3) ∧ s2.log.down = false ∧ s2.st.slots.length < 1048575 ∧ s2.accept 50 s.st.promised [98] = (s3, c4) ∧ s3.log.down = false ∧
      (∃ x, s3.inv 51 53 st0 (rcs ++ x)) ∧ (∃ c, s3.promise (min (s.st.promised : Int) 1099511627775 + 1) = (s4, c)) ∧ s4.inv 51 53 st0 (rcs ++ extra) ∧ s4.log.down = false ∧ s4.sy = rcs.length ∧ s.st.promised ≤ s4.st.promised ∧
      ∀ i, Tor s.st s.st.promised s4.st.promised ((extra.take i).foldl Rc.play s.st) := by
  obtain ⟨s1, e1, i1, d1, y1, t1, _⟩ := h.inv.sync hd
  have hlim := (h.inv.st hd).1
  have hpr := hlim.ok.pr
  have h51 := i1.mono (m' := 51) (n' := 50) (by omega) (Nat.le_refl _) (by omega)
  have T1 : Torn 51 50 st0 rcs s.st s.st.promised (fun _ => True) s1 [] := ⟨by rw [List.append_nil]; exact h51, d1, y1, fun r hr => (by cases hr)⟩
  have p1 : s1.promise s.st.promised = (s1, 0) := by
    rcases h51.promise d1 (by omega) s.st.promised with ⟨e, hc⟩ | ⟨k, hk, hk2, _⟩
    · rcases hc with ⟨q, _⟩ | ⟨_, _, q⟩ | ⟨_, q⟩
      · rw [q] at e; exact e
      · rw [t1] at q; omega
      · exact (q ⟨by omega, by omega⟩).elim
    · rw [t1] at hk2; omega
  obtain ⟨s2, c2, x2, e2, T2⟩ : ∃ s2 c2 x2, s1.accept 1 s.st.promised [97] = (s2, c2) ∧ Torn 51 51 st0 rcs s.st s.st.promised (fun _ => True) s2 x2 := by
    rcases T1.inv.accept T1.up (by omega) 1 s.st.promised [97] (by decide) (by decide) with ⟨e, _⟩ | ⟨k, j, hk, hj, _, _, _, s', e, hp⟩
    · exact ⟨_, _, _, e, T1.mono (by omega) (by omega)⟩
    · exact ⟨_, _, _, e, T1.put hp (fun _ q => q) (fun _ _ => .inl ⟨by omega, by omega⟩)⟩
  obtain ⟨s3, c3, x3, e3, T3⟩ : ∃ s3 c3 x3, s2.accept 50 s.st.promised [98] = (s3, c3) ∧ Torn 51 52 st0 rcs s.st s.st.promised (fun _ => True) s3 x3 := by
    rcases T2.inv.accept T2.up (by omega) 50 s.st.promised [98] (by decide) (by decide) with ⟨e, _⟩ | ⟨k, j, hk, hj, _, _, _, s', e, hp⟩
    · exact ⟨_, _, _, e, T2.mono (by omega) (by omega)⟩
    · exact ⟨_, _, _, e, T2.put hp (fun _ q => q) (fun _ _ => .inr ⟨by omega, by omega, rfl⟩)⟩
  obtain ⟨s4, c4, x4, e4, T4⟩ : ∃ s4 c4 x4, s3.promise (min (s.st.promised : Int) 1099511627775 + 1) = (s4, c4) ∧ Torn 51 53 st0 rcs s.st s.st.promised (fun z => s4.st.promised ≤ z) s4 x4 := by
    rcases T3.inv.promise T3.up (by omega) (min (s.st.promised : Int) 1099511627775 + 1) with ⟨e, _⟩ | ⟨k, hk, _, _, s', e, hp⟩
    · exact ⟨_, _, _, e, (T3.mono (by omega) (by omega)).inv, T3.up, T3.sy, fun r hr z _ => T3.x r hr z trivial⟩
    · refine ⟨_, _, _, e, T3.put hp (fun _ _ => trivial) (fun z hz => ?_)⟩
      rw [hp.st] at hz
      have : max s3.st.promised k ≤ z := hz
      show k ≤ z
      omega
  have hst : (rcs ++ x4).foldl Rc.play st0 = x4.foldl Rc.play s.st := by rw [List.foldl_append, ← h.inv.up hd]
  have hfin : s4.st = x4.foldl Rc.play s.st := (T4.inv.up T4.up).trans hst
  have hmono : ∀ (l : List Rc) (t : St), t.promised ≤ (l.foldl Rc.play t).promised := by
    intro l
    induction l with
    | nil => exact fun t => Nat.le_refl _
    | cons r l ih =>
      intro t
      refine Nat.le_trans ?_ (ih _)
      cases r with
      | prom b => exact Nat.le_max_left _ _
      | acc k b v => exact Nat.le_max_left _ _
      | forget n => exact Nat.le_refl _
  have hle : s.st.promised ≤ s4.st.promised := by rw [hfin]; exact hmono _ _
  have hl2 := (T2.inv.st T2.up).2
  refine ⟨s1, s2, s3, s4, c2, x2, c3, x4, e1, h51.mono (Nat.le_refl _) (by omega) (by omega), d1, t1, p1, e2, T2.inv.mono (Nat.le_refl _) (by omega) (by omega), T2.up, by omega, e3, T3.up, ⟨x3, T3.inv.mono (Nat.le_refl _) (by omega) (by omega)⟩, ⟨c4, e4⟩, T4.inv, T4.up, T4.sy, hle, fun i => ?_⟩
  refine Tor.plays hle (fun p hp => ?_) _ ⟨Nat.le_refl _, hle, rfl, fun p hp => ⟨p.2, hp, Nat.le_refl _, fun _ => rfl⟩, fun y hy => ?_⟩ (fun r hr => T4.x r (List.mem_of_mem_take hr) _ (Nat.le_refl _))
  · have := hlim.slots p hp
    exact ⟨by omega, this.2.2⟩
  · have := (hlim.slots _ hy).1
    simp only at this
    omega
/-! what is forgotten -/
end

/-! lists that were filtered -/
theorem Rise.filter_none {α : Type} {l : List (Nat × α)} {k : Nat} (h : ∀ p ∈ l, k ≤ p.1) : l.filter (fun p => decide (p.1 < k)) = [] := by
  rw [List.filter_eq_nil_iff]
  intro p hp
  have := h p hp
  simp; omega
/-- what lies below k + 1 is what lies below k, and k -/
theorem Rise.filter_succ {α : Type} : ∀ {l : List (Nat × α)} (_ : Rise l) (k : Nat), l.filter (fun p => decide (p.1 < k + 1)) = l.filter (fun p => decide (p.1 < k)) ++ (match getN k l with | none => [] | some x => [(k, x)])
  | [], _, k => rfl
  | y :: r, h, k => by
    obtain ⟨h1, h2⟩ := List.pairwise_cons.1 h
    have ih := Rise.filter_succ h2 k
    rcases Nat.lt_trichotomy y.1 k with hk | hk | hk
    · have e : getN k (y :: r) = getN k r := by
        unfold getN
        rw [List.find?_cons_of_neg (by simp; omega)]
      rw [e, List.filter_cons_of_pos (by simp; omega), List.filter_cons_of_pos (by simp; omega), ih]
      rfl
    · have e : getN k (y :: r) = some y.2 := by
        unfold getN
        rw [List.find?_cons_of_pos (by simp; omega)]
        rfl
      rw [e, List.filter_cons_of_pos (by simp; omega), List.filter_cons_of_neg (by simp; omega), Rise.filter_none (fun p hp => by have := h1 p hp; omega), Rise.filter_none (fun p hp => by have := h1 p hp; omega)]
      subst hk
      rfl
    · have e : getN k (y :: r) = none := by
        unfold getN
        rw [List.find?_eq_none.2]
        · rfl
        · intro p hp
          rcases List.mem_cons.1 hp with rfl | hp
          · simp; omega
          · have := h1 p hp
            simp; omega
      rw [e, Rise.filter_none (fun p hp => ?_), Rise.filter_none (fun p hp => ?_)]
      · rfl
      · rcases List.mem_cons.1 hp with rfl | hp
        · omega
        · have := h1 p hp
          omega
      · rcases List.mem_cons.1 hp with rfl | hp
        · omega
        · have := h1 p hp
          omega
theorem top_facts (M : Slots) : (∀ p ∈ M, p.1 < So.top M) ∧ ∀ m, (∀ p ∈ M, p.1 < m) → So.top M ≤ m := by
  have key : ∀ (l : Slots) (a : Nat), a ≤ l.foldl (fun n p => max n (p.1 + 1)) a ∧ (∀ p ∈ l, p.1 < l.foldl (fun n p => max n (p.1 + 1)) a) ∧ ∀ m, a ≤ m → (∀ p ∈ l, p.1 < m) → l.foldl (fun n p => max n (p.1 + 1)) a ≤ m := by
    intro l
    induction l with
    | nil => exact fun a => ⟨Nat.le_refl _, fun p hp => (by cases hp), fun m h _ => h⟩
    | cons y r ih =>
      intro a
      obtain ⟨i1, i2, i3⟩ := ih (max a (y.1 + 1))
      simp only [List.foldl_cons]
      refine ⟨by omega, fun p hp => ?_, fun m hm hp => i3 m ?_ (fun p q => hp p (List.mem_cons_of_mem _ q))⟩
      · rcases List.mem_cons.1 hp with rfl | hp
        · omega
        · exact i2 p hp
      · have := hp y (List.mem_cons_self ..)
        omega
  obtain ⟨_, h2, h3⟩ := key M 0
  exact ⟨h2, fun m hm => h3 m (Nat.zero_le _) hm⟩
end Go.Proofs.YtediidajdpdeiaaGreatDoor

/- The document's store (layer 8), in plain words: its list of slots. -/
namespace Go.Proofs.YtediidajdpdeiaaGreatDoor
open CrcM

section
variable {α : Type} {k : Nat} {x : α}
theorem ins_end : ∀ {l : List (Nat × α)}, (∀ p ∈ l, ¬ k < p.1) → insN (k, x) l = l ++ [(k, x)]
  | [], _ => rfl
  | y :: r, h => by
    unfold insN
    rw [if_neg (h y (List.mem_cons_self ..)), ins_end (fun p hp => h p (List.mem_cons_of_mem _ hp))]
    rfl
theorem ins_snoc {y : Nat × α} : ∀ {l : List (Nat × α)}, (∃ p ∈ l, k < p.1) → insN (k, x) (l ++ [y]) = insN (k, x) l ++ [y]
  | [], h => by
    obtain ⟨p, hp, _⟩ := h
    cases hp
  | z :: r, h => by
    rw [List.cons_append]
    unfold insN
    by_cases hz : k < z.1
    · rw [if_pos hz, if_pos hz]
      rfl
    · rw [if_neg hz, if_neg hz, ins_snoc]
      · rfl
      · obtain ⟨p, hp, hk⟩ := h
        rcases List.mem_cons.1 hp with rfl | hp
        · exact (hz hk).elim
        · exact ⟨p, hp, hk⟩
theorem ins_mid {y : Nat × α} (hy : k < y.1) : ∀ {l : List (Nat × α)}, (∀ p ∈ l, ¬ k < p.1) → insN (k, x) (l ++ [y]) = l ++ [(k, x), y]
  | [], _ => by
    rw [List.nil_append]
    unfold insN
    rw [if_pos hy]
    rfl
  | z :: r, h => by
    rw [List.cons_append]
    unfold insN
    rw [if_neg (h z (List.mem_cons_self ..)), ins_mid hy (fun p hp => h p (List.mem_cons_of_mem _ hp))]
    rfl
theorem del_snoc (l : List (Nat × α)) (y : Nat × α) : delN k (l ++ [y]) = delN k l ++ (if y.1 = k then [] else [y]) := by
  unfold delN
  rw [List.filter_append]
  by_cases h : y.1 = k
  · simp [h]
  · simp [h]
theorem del_same {l : List (Nat × α)} (h : ∀ p ∈ l, p.1 ≠ k) : delN k l = l := by
  unfold delN
  rw [List.filter_eq_self]
  intro p hp
  exact decide_eq_true (h p hp)
/-- where a slot goes: behind all that are below it -/
theorem put_end {l : List (Nat × α)} (h : ∀ p ∈ l, p.1 < k) : putN k x l = l ++ [(k, x)] := by
  unfold putN
  rw [del_same (fun p hp => by have := h p hp; omega), ins_end (fun p hp => by have := h p hp; omega)]
theorem put_eq {l : List (Nat × α)} (h : ∀ p ∈ l, p.1 < k) (y : Nat × α) (hy : y.1 = k) : putN k x (l ++ [y]) = l ++ [(k, x)] := by
  unfold putN
  rw [del_snoc, if_pos hy, List.append_nil, del_same (fun p hp => by have := h p hp; omega), ins_end (fun p hp => by have := h p hp; omega)]
theorem put_gt {l : List (Nat × α)} (h : ∀ p ∈ l, p.1 < k) (y : Nat × α) (hy : k < y.1) : putN k x (l ++ [y]) = l ++ [(k, x)] ++ [y] := by
  unfold putN
  rw [del_snoc, if_neg (by omega), del_same (fun p hp => by have := h p hp; omega), ins_mid hy (fun p hp => by have := h p hp; omega), List.append_assoc]
  rfl
theorem put_more {l : List (Nat × α)} (h : ∃ p ∈ l, k ≤ p.1) (y : Nat × α) (hy : k < y.1) : putN k x (l ++ [y]) = putN k x l ++ [y] := by
  unfold putN
  rw [del_snoc, if_neg (by omega)]
  by_cases hg : ∃ p ∈ delN k l, k < p.1
  · exact ins_snoc hg
  · have hn : ∀ p ∈ delN k l, ¬ k < p.1 := fun p hp hk => hg ⟨p, hp, hk⟩
    rw [ins_mid hy hn, ins_end hn, List.append_assoc]
    rfl
theorem Rise.snoc_lt {l : List (Nat × α)} {y : Nat × α} (h : Rise (l ++ [y])) : ∀ p ∈ l, p.1 < y.1 := fun p hp => (List.pairwise_append.1 h).2.2 p hp y (List.mem_singleton.2 rfl)
theorem Rise.take {l : List (Nat × α)} (h : Rise l) (n : Nat) : Rise (l.take n) := h.sublist (List.take_sublist n l)
end
/-- how far Put is: before its slot, or behind it -/
def Putting (k : Nat) (x : Hd) (l : Slots) (done : Bool) (out : Slots) : Prop := (done = false ∧ (∀ p ∈ l, p.1 < k) ∧ out = l) ∨ (done = true ∧ (∃ p ∈ l, k ≤ p.1) ∧ out = putN k x l)
section
variable {k : Nat} {x : Hd} {l out : Slots} {y : Nat × Hd}
theorem Putting.start (k : Nat) (x : Hd) : Putting k x [] false [] := .inl ⟨rfl, fun p hp => (by cases hp), rfl⟩
theorem Putting.below (h : Putting k x l false out) (hy : y.1 < k) : Putting k x (l ++ [y]) false (out ++ [y]) := by
  rcases h with ⟨_, h1, rfl⟩ | ⟨h, _⟩
  · refine .inl ⟨rfl, fun p hp => ?_, rfl⟩
    rcases List.mem_append.1 hp with hp | hp
    · exact h1 p hp
    · obtain rfl := List.mem_singleton.1 hp
      exact hy
  · cases h
theorem Putting.same (h : Putting k x l false out) (hy : y.1 = k) : Putting k x (l ++ [y]) true (out ++ [(k, x)]) := by
  rcases h with ⟨_, h1, rfl⟩ | ⟨h, _⟩
  · exact .inr ⟨rfl, ⟨y, List.mem_append_right _ (List.mem_singleton.2 rfl), by omega⟩, (put_eq h1 y hy).symm⟩
  · cases h
theorem Putting.above (h : Putting k x l false out) (hy : k < y.1) : Putting k x (l ++ [y]) true (out ++ [(k, x)] ++ [y]) := by
  rcases h with ⟨_, h1, rfl⟩ | ⟨h, _⟩
  · exact .inr ⟨rfl, ⟨y, List.mem_append_right _ (List.mem_singleton.2 rfl), by omega⟩, (put_gt h1 y hy).symm⟩
  · cases h
theorem Putting.more (h : Putting k x l true out) (hr : Rise (l ++ [y])) : k < y.1 ∧ Putting k x (l ++ [y]) true (out ++ [y]) := by
  rcases h with ⟨h, _⟩ | ⟨_, ⟨p, hp, hk⟩, rfl⟩
  · cases h
  · have hy : k < y.1 := by have := hr.snoc_lt p hp; omega
    exact ⟨hy, .inr ⟨rfl, ⟨p, List.mem_append_left _ hp, hk⟩, (put_more ⟨p, hp, hk⟩ y hy).symm⟩⟩
theorem Putting.notDone (h : Putting k x l false out) : out ++ [(k, x)] = putN k x l := by
  rcases h with ⟨_, h1, rfl⟩ | ⟨h, _⟩
  · exact (put_end h1).symm
  · cases h
theorem Putting.isDone (h : Putting k x l true out) : out = putN k x l := by
  rcases h with ⟨h, _⟩ | ⟨_, _, h⟩
  · cases h
  · exact h
theorem Putting.len {d : Bool} (h : Putting k x l d out) : out.length ≤ l.length + 1 := by
  rcases h with ⟨_, _, rfl⟩ | ⟨_, _, rfl⟩
  · omega
  · exact length_putN k x l
end
end Go.Proofs.YtediidajdpdeiaaGreatDoor

/- The document's log (layer 7): Sync, Crash; the walks. -/
namespace Go.Proofs.YtediidajdpdeiaaGreatDoor
open Go.RowKit CrcM
set_option maxRecDepth 100000

/-- p is a log of the document's -/
def IsRlog (S : Nat → Prop) (w : World) (p : Value) (L : Rg) : Prop := ∃ H b A c ps, p = .pointer (some ⟨b, 0, none⟩) ∧ RlogO S H w b A c ps L
/-- WHAT A CALL ON THE DOCUMENT'S LOG LEAVES -/
def RlogDid (S : Nat → Prop) (w : World) (p : Value) (r : Rg × Int) (e : Ending) (w' : World) : Prop := e = .returned (.int .i64 r.2) ∧ IsRlog (Up S w w') w' p r.1 ∧ Fr S w w'

theorem Sg.inv.dok {per n : Nat} {g : Sg} (h : g.inv per n) (hs : g.d.all.length ≤ 4194304) : g.d.ok := by
  refine ⟨?_, by omega⟩
  rcases h.inv0.kept with ⟨h1, h2⟩ | ⟨h1, -⟩
  · rw [h1]; exact h2.length_le
  · omega
theorem ref_total (D : Dk) : D.ref.kept.length + D.ref.rest.length = D.all.length := by
  rw [← ref_all, Rk.all, List.length_append]

section
variable {S H : Nat → Prop} {w : World} {b : Nat} {A : Option Addr} {c : Nat} {ps : List Nat}
theorem RlogO.same {R : Rg} (h : RlogO S H w b A c ps R) : IsRlog (Up S w w) w (.pointer (some ⟨b, 0, none⟩)) R :=
  ⟨H, b, A, c, ps, rfl, h.mono (fun _ => .inl) (fun x hx => hx.elim (h.lt x) (fun h => h.2))⟩
theorem RlogO.up2 {w1 w2 : World} {H' : Nat → Prop} {L' : Rg} {A' : Option Addr} {c' : Nat} {ps' : List Nat} (h : RlogO (Up (Up S w w1) w1 w2) H' w2 b A' c' ps' L') (h1 : w.heap.size ≤ w1.heap.size) (h2 : w1.heap.size ≤ w2.heap.size) (hl : ∀ x, S x → x < w.heap.size) : RlogO (Up S w w2) H' w2 b A' c' ps' L' :=
  h.mono (fun x hx => by
    rcases hx with (hx | hx) | hx
    · exact .inl hx
    · exact .inr ⟨hx.1, Nat.lt_of_lt_of_le hx.2 h2⟩
    · exact .inr ⟨Nat.le_trans h1 hx.1, hx.2⟩) (Up.lt hl (Nat.le_trans h1 h2))
theorem RlogO.setDown {per : Nat} {ds : List Rk} {dn : Bool} (h : RlogO S H w b A c ps ⟨per, ds, dn⟩) (dn' : Bool) :
    RlogO S H (w.setCell ⟨b, 2, none⟩ (.bool dn')) b A c ps ⟨per, ds, dn'⟩ ∧ Fr S w (w.setCell ⟨b, 2, none⟩ (.bool dn')) := by
  have hnb : ¬ IsB w b := h.blk.notB (by decide)
  have f1 : Fr (fun x => x = b) w (w.setCell ⟨b, 2, none⟩ (.bool dn')) := (Fr.refl (fun x => x = b) _).setCell (p := ⟨b, 2, none⟩) (.inl (show b = b from rfl)) hnb _
  exact ⟨⟨h.hS, h.hb, by simpa using h.blk.set 2 (.bool dn'), h.row.otherBlk h.blk (by decide) f1, h.disks.fr f1 (fun x _ hx e => (hx (e ▸ h.hb)).elim), by simpa [World.setCell] using h.lt, h.per, h.few, h.small⟩, f1.mono fun x _ e => h.hS x (e ▸ h.hb)⟩

theorem refLogSync_B {L : Lg} {n : Nat} (h : RlogO S H w b A c ps L.ref) (hinv : L.inv n) : Calls Tryz.prog 66 #[.pointer (some ⟨b, 0, none⟩)] w (RlogDid S w (.pointer (some ⟨b, 0, none⟩)) (L.sync.1.ref, L.sync.2)) := by
  have hsg := hinv.segs
  obtain ⟨per, gs, dn⟩ := L
  cases dn
  · have e : Lg.sync ⟨per, gs, false⟩ = (⟨per, gs.map Sg.sync, false⟩, 0) := by unfold Lg.sync; simp
    have E := Lib.hid e
    clear e
    obtain ⟨c0, c1, c2, z1, z2, q1, q2, q3, q4⟩ := h.facts
    have HQ := Lib.hid (show ps.length = gs.length by rw [q1]; simp)
    clear q1
    simp only at hsg
    go_enter Tryz.func66, Tryz.ntmps66
    go_wp2
    clear c0 c1 c2
    go_loopw [3] (fun i wr => ∃ k : Nat, k ≤ ps.length ∧ i = .int .i64 (k : Int) ∧ RlogO (Up S w wr) H wr b A c ps ⟨per, ((gs.take k).map Sg.sync ++ gs.drop k).map (fun g => g.d.ref), false⟩ ∧ Fr S w wr) (fun i _ => ps.length - (intOf i).toNat)
    case atStart => exact ⟨0, by omega, rfl, h.mono (fun _ => .inl) (fun x hx => hx.elim (h.lt x) (fun h => h.2)), Fr.refl _ _⟩
    case round =>
      obtain ⟨k, hk, rfl, ho, hf⟩ := hrel
      obtain ⟨c0, c1, c2, z1', z2', q1', -, -, -⟩ := ho.facts
      clear q1'
      by_cases hlt : k < ps.length
      · obtain ⟨g, hg⟩ : ∃ g, gs[k]? = some g := ⟨_, List.getElem?_eq_getElem (show k < gs.length by have := HQ.out; omega)⟩
        have hpg := part_at Sg.sync hg
        have hps := part_set Sg.sync hg
        obtain ⟨p, hp⟩ : ∃ p, ps[k]? = some p := ⟨_, List.getElem?_eq_getElem hlt⟩
        obtain ⟨ga, oa, rfl, ca⟩ := ho.ptrAt hp
        obtain ⟨Sd, A1, c1', A2, c2', hd, hSd, hup⟩ := ho.disk hp (R := g.d.ref) (by rw [List.getElem?_map, hpg]; rfl)
        have hsm := ho.small g.d.ref (List.mem_map.2 ⟨g, List.mem_of_getElem? hpg, rfl⟩)
        have HP := Lib.hid hps
        have hlt' : (k : Int) < (ps.length : Int) := by omega
        have k8 : IntKind.i64.wrap ((k : Int) + 1) = ((k + 1 : Nat) : Int) := by rw [IntKind.wrap_i64]; omega
        clear hps hpg hg hp
        go_wp2_with (go_at_call 121; refine (refSync_B hd).mono ?_; rintro e w1 ⟨rfl, hd1, hf1⟩
                     rw [← ref_sync.1] at hd1
                     have ho1 := hup w1 _ hf1 hd1 (by rw [ref_total] at hsm ⊢; unfold Dk.sync; split <;> exact hsm))
        go_roundw
        case rel =>
          refine ⟨k + 1, by omega, rfl, ?_, hf.trans' hf1 (fun x hb hx => (hSd x hx).elim id (fun h => by omega))⟩
          rw [← HP.out, List.map_set]
          exact ho1.up2 hf.size hf1.size h.lt
        case measure => simp [intOf]; omega
      · obtain rfl : k = ps.length := by omega
        go_wp2
        go_ret
        rw [E.out]
        have e1 : gs.take ps.length = gs := List.take_of_length_le (by rw [HQ.out]; exact Nat.le_refl _)
        have e2 : gs.drop ps.length = [] := List.drop_of_length_le (by rw [HQ.out]; exact Nat.le_refl _)
        rw [e1, e2, List.append_nil] at ho
        exact ⟨rfl, ⟨_, _, _, _, _, rfl, ho⟩, hf⟩
  · have e : Lg.sync ⟨per, gs, true⟩ = (⟨per, gs, true⟩, 10) := by unfold Lg.sync; simp
    have E := Lib.hid e
    clear e
    obtain ⟨c0, c1, c2, z1, z2, q1, q2, q3, q4⟩ := h.facts
    clear q1
    go_enter Tryz.func66, Tryz.ntmps66
    go_wp2
    go_ret
    rw [E.out]
    exact ⟨rfl, h.same, Fr.refl _ _⟩

theorem refLogCrash_B {L : Lg} {n : Nat} (h : RlogO S H w b A c ps L.ref) (hinv : L.inv n) (keep flip : Int) (hk63 : keep ≤ 9223372036854775807) (hf63 : flip ≤ 9223372036854775807) (hk0 : -9223372036854775808 ≤ keep) (hf0 : -9223372036854775808 ≤ flip) :
    Calls Tryz.prog 71 #[.pointer (some ⟨b, 0, none⟩), .int .i64 keep, .int .i64 flip] w (RlogDid S w (.pointer (some ⟨b, 0, none⟩)) ((L.crash keep flip).1.ref, (L.crash keep flip).2)) := by
  have hsg := hinv.segs
  obtain ⟨per, gs, dn⟩ := L
  obtain ⟨c0, c1, c2, z1, z2, q1, q2, q3, q4⟩ := h.facts
  cases dn
  · by_cases hneg : keep < 0
    · have e : Lg.crash ⟨per, gs, false⟩ keep flip = (⟨per, gs, false⟩, 2) := by unfold Lg.crash; simp [hneg]
      have E := Lib.hid e
      clear e q1
      go_enter Tryz.func71, Tryz.ntmps71
      go_wp2
      go_ret
      rw [E.out]
      exact ⟨rfl, h.same, Fr.refl _ _⟩
    · have e : Lg.crash ⟨per, gs, false⟩ keep flip = (⟨per, gs.map (Sg.crash keep flip), true⟩, 0) := by unfold Lg.crash; simp [hneg]
      have E := Lib.hid e
      clear e
      have HQ := Lib.hid (show ps.length = gs.length by rw [q1]; simp)
      clear q1
      simp only at hsg
      have hsm0 := h.small
      go_enter Tryz.func71, Tryz.ntmps71
      go_wp2
      clear c0 c1 c2
      go_loopw [7] (fun i wr => ∃ k : Nat, k ≤ ps.length ∧ i = .int .i64 (k : Int) ∧ RlogO (Up S w wr) H wr b A c ps ⟨per, ((gs.take k).map (Sg.crash keep flip) ++ gs.drop k).map (fun g => g.d.ref), false⟩ ∧ Fr S w wr) (fun i _ => ps.length - (intOf i).toNat)
      case atStart => exact ⟨0, by omega, rfl, h.mono (fun _ => .inl) (fun x hx => hx.elim (h.lt x) (fun h => h.2)), Fr.refl _ _⟩
      case round =>
        obtain ⟨k, hk, rfl, ho, hf⟩ := hrel
        obtain ⟨c0, c1, c2, z1', z2', q1', -, -, -⟩ := ho.facts
        clear q1'
        by_cases hlt : k < ps.length
        · obtain ⟨g, hg⟩ : ∃ g, gs[k]? = some g := ⟨_, List.getElem?_eq_getElem (show k < gs.length by have := HQ.out; omega)⟩
          have hpg := part_at (Sg.crash keep flip) hg
          have hps := part_set (Sg.crash keep flip) hg
          obtain ⟨p, hp⟩ : ∃ p, ps[k]? = some p := ⟨_, List.getElem?_eq_getElem hlt⟩
          obtain ⟨ga, oa, rfl, ca⟩ := ho.ptrAt hp
          obtain ⟨Sd, A1, c1', A2, c2', hd, hSd, hup⟩ := ho.disk hp (R := g.d.ref) (by rw [List.getElem?_map, hpg]; rfl)
          have hsm := ho.small g.d.ref (List.mem_map.2 ⟨g, List.mem_of_getElem? hpg, rfl⟩)
          rw [ref_total] at hsm
          have hok := (hsg g (List.mem_of_getElem? hg)).dok hsm
          have HP := Lib.hid hps
          have hlt' : (k : Int) < (ps.length : Int) := by omega
          have k8 : IntKind.i64.wrap ((k : Int) + 1) = ((k + 1 : Nat) : Int) := by rw [IntKind.wrap_i64]; omega
          have hcr := refCrash_B hd keep flip hk63 hf63 hk0 hf0 (by have := ref_total g.d; omega)
          have hcl : (g.d.crash keep flip).1.all.length ≤ 4194304 := by
            have := (near_torn g.d.all g.d.kept keep flip hok.1).1.1
            unfold Dk.crash
            split
            · exact hsm
            · split
              · exact hsm
              · simp only
                omega
          clear hps hpg hg hp
          go_wp2_with (go_at_call 126; refine (hcr).mono ?_; rintro e w1 ⟨rfl, hd1, hf1⟩
                       rw [← (ref_crash hok keep flip).1] at hd1
                       have ho1 := hup w1 _ hf1 hd1 (by rw [ref_total]; exact hcl))
          go_roundw
          case rel =>
            refine ⟨k + 1, by omega, rfl, ?_, hf.trans' hf1 (fun x hb hx => (hSd x hx).elim id (fun h => by omega))⟩
            rw [← HP.out, List.map_set]
            exact ho1.up2 hf.size hf1.size h.lt
          case measure => simp [intOf]; omega
        · obtain rfl : k = ps.length := by omega
          obtain ⟨ho2, hf2⟩ := ho.setDown true
          go_wp2
          go_ret
          rw [E.out]
          have e1 : gs.take ps.length = gs := List.take_of_length_le (by rw [HQ.out]; exact Nat.le_refl _)
          have e2 : gs.drop ps.length = [] := List.drop_of_length_le (by rw [HQ.out]; exact Nat.le_refl _)
          rw [e1, e2, List.append_nil] at ho2
          have hsz : (wr.setCell ⟨b, 2, none⟩ (.bool true)).heap.size = wr.heap.size := by simp [World.setCell]
          refine ⟨rfl, ⟨_, _, _, _, _, rfl, ho2.mono (fun x hx => hx.imp_right (fun h => ⟨h.1, by rw [hsz]; exact h.2⟩)) (fun x hx => ho2.lt x (hx.imp_right (fun h => ⟨h.1, by rw [hsz] at h; exact h.2⟩)))⟩, hf.trans' hf2 (fun x hb hx => hx.elim id (fun h => by omega))⟩
  · have e : Lg.crash ⟨per, gs, true⟩ keep flip = (⟨per, gs, true⟩, 10) := by unfold Lg.crash; simp
    have E := Lib.hid e
    clear e q1
    go_enter Tryz.func71, Tryz.ntmps71
    go_wp2
    go_ret
    rw [E.out]
    exact ⟨rfl, h.same, Fr.refl _ _⟩
end
end Go.Proofs.YtediidajdpdeiaaGreatDoor

/- The document's log (layer 7): Drop; the walk. -/
namespace Go.Proofs.YtediidajdpdeiaaGreatDoor
open Go.RowKit CrcM
set_option maxRecDepth 100000

section
variable {S H : Nat → Prop} {w : World} {b : Nat} {A : Option Addr} {c : Nat} {ps : List Nat}
/-- the log's own struct is written anew -/
theorem RlogO.put {per : Nat} {ds : List Rk} {dn : Bool} (h : RlogO S H w b A c ps ⟨per, ds, dn⟩) {A' : Option Addr} {c' : Nat} {ps' : List Nat} {ds' : List Rk} (hr : Row H w TPr (.slice A' ps'.length c') (ps'.map ptr)) (hs : Refs S H w ps' ds') (hfew : ds'.length ≤ 256) (hsm : ∀ R ∈ ds', R.kept.length + R.rest.length ≤ 4194304) :
    RlogO S H (w.setCell ⟨b, 1, none⟩ (.slice A' ps'.length c')) b A' c' ps' ⟨per, ds', dn⟩ ∧ Fr S w (w.setCell ⟨b, 1, none⟩ (.slice A' ps'.length c')) := by
  have hnb : ¬ IsB w b := h.blk.notB (by decide)
  have f1 : Fr (fun x => x = b) w (w.setCell ⟨b, 1, none⟩ (.slice A' ps'.length c')) := (Fr.refl (fun x => x = b) _).setCell (p := ⟨b, 1, none⟩) (.inl (show b = b from rfl)) hnb _
  refine ⟨⟨h.hS, h.hb, by simpa using h.blk.set 1 (.slice A' ps'.length c'), hr.otherBlk h.blk (by decide) f1, hs.fr f1 (fun x _ hx e => (hx (e ▸ h.hb)).elim), by simpa [World.setCell] using h.lt, h.per, hfew, hsm⟩, f1.mono fun x _ e => h.hS x (e ▸ h.hb)⟩

end
end Go.Proofs.YtediidajdpdeiaaGreatDoor

/- The document's log (layer 7): what Restart leaves, in memory and in plain words. -/
namespace Go.Proofs.YtediidajdpdeiaaGreatDoor
open Go.RowKit CrcM
set_option maxRecDepth 100000

/-- a disk as the program reads it, and as the document parses it -/
theorem scan_parse (D : Dk) (due : Int) : (((parseM D.all).1 < 0 ∨ (0 ≤ due ∧ (parseM D.all).1 ≠ due)) ∧ scan D due = none) ∨
    ∃ n : Nat, (parseM D.all).1 = n ∧ (due < 0 ∨ (n : Int) = due) ∧ (parseM D.all).2.2 ≤ D.all.length ∧ scan D due = some (⟨(D.cut (parseM D.all).2.2).1, n, (parseM D.all).2.1, (parseM D.all).2.1.length⟩, decide ((parseM D.all).2.2 = D.all.length)) := by
  obtain ⟨r, hg, he⟩ := framesOf_is D.all
  have hle := hg.le
  have hf := hg.all he
  generalize (framesOf D.all).1 = bs at *
  generalize (framesOf D.all).2 = en at *
  have hbad : ∀ x : Int × List (List UInt8) × Nat, parseM D.all = x → x.1 = -1 → scan D due = none → (((parseM D.all).1 < 0 ∨ (0 ≤ due ∧ (parseM D.all).1 ≠ due)) ∧ scan D due = none) := fun x h1 h2 h3 => ⟨.inl (by rw [h1, h2]; decide), h3⟩
  cases bs with
  | nil => exact .inl (hbad (-1, [], 0) (by unfold parseM; rw [hf]) rfl (scan_none (by rw [hf])))
  | cons hd t =>
    cases hr : readNum hd with
    | error e => exact .inl (hbad (-1, [], 0) (by unfold parseM; simp only [hf, hr]) rfl (scan_bad (by rw [hf]) (fun n h => by rw [hr] at h; cases h)))
    | ok q =>
      obtain ⟨n, s⟩ := q
      by_cases hs : s = hd.length
      · subst hs
        have hp : parseM D.all = ((n : Int), t, en) := by unfold parseM; simp only [hf, hr, if_true]
        rw [hp]
        by_cases hd2 : due < 0 ∨ (n : Int) = due
        · exact .inr ⟨n, rfl, hd2, hle.2.1, scan_some hf hr hd2⟩
        · refine .inl ⟨.inr ⟨by omega, ?_⟩, scan_bad (by rw [hf]) (fun n' h => ?_)⟩
          · show (n : Int) ≠ due
            omega
          · rw [hr] at h
            injection h with h
            injection h with h
            subst h
            exact hd2
      · exact .inl (hbad (-1, [], 0) (by unfold parseM; simp only [hf, hr, hs, if_false]) rfl (scan_bad (by rw [hf]) (fun n' h => by rw [hr] at h; injection h with h; injection h with _ h; exact (hs h).elim)))

/-- a log of the document's that is being laid anew, where k disks have been read -/
structure RestR (S H : Nat → Prop) (w : World) (b : Nat) (A : Option Addr) (c : Nat) (ps : List Nat) (per k : Nat) (v : Value) (ds : List Rk) (Hk : Nat → Prop) (wr : World) : Prop where
  fr : Fr S w wr
  hH : ∀ x, H x → Hk x
  hk : ∀ x, Hk x → H x ∨ w.heap.size ≤ x
  lt : ∀ x, Hk x → x < wr.heap.size
  blk : Blk wr b TRl #[.int .i64 (per : Int), .slice A ps.length c, .bool false]
  row : Row H wr TPr (.slice A ps.length c) (ps.map ptr)
  out : Row (fun x => Hk x ∧ w.heap.size ≤ x) wr TPr v ((ps.take k).map ptr)
  disks : Refs (Up S w wr) Hk wr ps ds
  small : ∀ R ∈ ds, R.kept.length + R.rest.length ≤ 4194304

section
variable {S H : Nat → Prop} {w : World} {b : Nat} {A : Option Addr} {c : Nat} {ps : List Nat} {per k : Nat} {v : Value} {ds : List Rk} {Hk : Nat → Prop} {wr : World}

theorem RestR.facts (h : RestR S H w b A c ps per k v ds Hk wr) {p : Nat} (hp : ps[k]? = some p) : ∃ g o, A = some ⟨g, o, none⟩ ∧ wr.cell? ⟨g, o + k, none⟩ = some (.pointer (some ⟨p, 0, none⟩)) := by
  obtain ⟨g, o, c', h1, h2, h3, h4, _⟩ := h.row.cell (k := k) (u := ptr p) (by rw [List.getElem?_map, hp]; rfl)
  injection h1 with h1
  exact ⟨g, o, h1, h4⟩
theorem RestR.at_ {g o : Nat} (h : RestR S H w b (some ⟨g, o, none⟩) c ps per k v ds Hk wr) {j p : Nat} (hp : ps[j]? = some p) :
    wr.cell? ⟨b, 1, none⟩ = some (.slice (some ⟨g, o, none⟩) ps.length c) ∧ wr.cell? ⟨g, o + j, none⟩ = some (.pointer (some ⟨p, 0, none⟩)) ∧ wr.cell? ⟨b, 0, none⟩ = some (.int .i64 (per : Int)) ∧ wr.frozen? ⟨b, 1, none⟩ = false := by
  obtain ⟨g', o', c', h1, h2, h3, h4, _⟩ := h.row.cell (k := j) (u := ptr p) (by rw [List.getElem?_map, hp]; rfl)
  injection h1 with h1
  injection h1 with h1
  injection h1 with h1 h5
  subst h1; subst h5
  exact ⟨h.blk.cell 1 rfl, h4, h.blk.cell 0 rfl, h.blk.frozen 1⟩
theorem RestR.below (h : RestR S H w b A c ps per k v ds Hk wr) {w' : World} (hb : Below wr.heap.size wr w') : RestR S H w b A c ps per k v ds Hk w' :=
  ⟨h.fr.trans' (Fr.of_below (S := Non) hb) (fun _ _ h => h.elim), h.hH, h.hk, fun x hx => Nat.lt_of_lt_of_le (h.lt x hx) hb.size, h.blk.eq (hb.block b h.blk.lt), h.row.below hb, h.out.below hb,
    (h.disks.fr (S' := Non) (Fr.of_below hb) (fun _ _ _ h => h.elim)).mono (fun _ _ hx => hx.imp_right (fun q => ⟨q.1, Nat.lt_of_lt_of_le q.2 hb.size⟩)) (fun _ _ _ h => h), h.small⟩
/-- one disk, and what becomes of all when it turns -/
theorem RestR.disk (h : RestR S H w b A c ps per k v ds Hk wr) (hbH : H b) {j p : Nat} {R : Rk} (hp : ps[j]? = some p) (hR : ds[j]? = some R) :
    ∃ (Sd : Nat → Prop) (A1 : Option Addr) (c1 : Nat) (A2 : Option Addr) (c2 : Nat), RefAt Sd wr p A1 c1 A2 c2 R ∧
      ∀ w' R', Fr Sd wr w' → IsRef (Up Sd wr w') w' (.pointer (some ⟨p, 0, none⟩)) R' → R'.kept.length + R'.rest.length ≤ 4194304 → RestR S H w b A c ps per k v (ds.set j R') Hk w' := by
  obtain ⟨Fi, hF, ⟨A1, c1, A2, c2, hs⟩, hup⟩ := h.disks.at hp hR
  refine ⟨Fi, A1, c1, A2, c2, hs, fun w' R' f hd hsm => ?_⟩
  obtain ⟨p', A1', c1', A2', c2', e, hd⟩ := hd
  injection e with e
  injection e with e
  injection e with e
  subst e
  have hps : ps.set j p = ps := by
    apply List.ext_getElem?
    intro i
    rw [List.getElem?_set]
    split
    · rename_i hi
      subst hi
      rw [if_pos (List.getElem?_eq_some_iff.1 hp).1, hp]
    · rfl
  have hS := hup w' p R' f h.lt ⟨A1', c1', A2', c2', hd⟩
  rw [hps] at hS
  have hsz := h.fr.size
  refine ⟨h.fr.trans' f (fun x hx hd => (hF x hd).1.elim id (fun q => by have := q.1; omega)), h.hH, h.hk, fun x hx => Nat.lt_of_lt_of_le (h.lt x hx) f.size, h.blk.fr f (fun hx => (hF b hx).2.1 (h.hH b hbH)), h.row.fr f (fun x hx hd => ((hF x hd).2.1 (h.hH x hx)).elim), h.out.fr f (fun x hx hd => ((hF x hd).2.1 hx.1).elim), hS.mono (fun x _ hx => ?_) (fun _ _ _ h => h), ?_⟩
  · rcases hx with (hx | hx) | hx
    · exact .inl hx
    · exact .inr ⟨hx.1, Nat.lt_of_lt_of_le hx.2 f.size⟩
    · exact .inr ⟨Nat.le_trans hsz hx.1, hx.2⟩
  · intro R2 hR2
    rcases List.mem_or_eq_of_mem_set hR2 with hm | rfl
    · exact h.small R2 hm
    · exact hsm
/-- the out list's pointer is put behind -/
theorem RestR.more (h : RestR S H w b A c ps per k v ds Hk wr) (hSl : ∀ x, S x → x < w.heap.size) (hHl : ∀ x, H x → x < w.heap.size) (hbH : H b) {p : Nat} (hp : ps[k]? = some p) {w5 : World} {v' : Value} (f5 : Fr (fun x => Hk x ∧ w.heap.size ≤ x) wr w5) (hrow : Row (Up (fun x => Hk x ∧ w.heap.size ≤ x) wr w5) w5 TPr v' ((ps.take k).map ptr ++ [ptr p])) :
    RestR S H w b A c ps per (k + 1) v' ds (Up Hk wr w5) w5 := by
  have hsz : w.heap.size ≤ wr.heap.size := h.fr.size
  have htk : (ps.take (k + 1)).map ptr = (ps.take k).map ptr ++ [ptr p] := by rw [List.take_add_one, hp]; simp
  refine ⟨h.fr.trans' f5 (fun x hx hd => (by have := hd.2; omega)), fun x hx => .inl (h.hH x hx), fun x hx => ?_, fun x hx => ?_, ?_, ?_, ?_, ?_, h.small⟩
  · rcases hx with hx | hx
    · exact h.hk x hx
    · exact .inr (Nat.le_trans hsz hx.1)
  · rcases hx with hx | hx
    · exact Nat.lt_of_lt_of_le (h.lt x hx) f5.size
    · exact hx.2
  · exact h.blk.fr f5 (fun hx => by have := hHl b hbH; have := hx.2; omega)
  · exact h.row.fr f5 (fun x hx hd => by have := hHl x hx; have := hd.2; omega)
  · rw [htk]
    exact hrow.mono fun x _ hx => by
      rcases hx with hx | hx
      · exact ⟨.inl hx.1, hx.2⟩
      · exact ⟨.inr hx, Nat.le_trans hsz hx.1⟩
  · have h5 := h.disks.fr f5 (fun x hx hn hd => (hn hd.1).elim)
    refine (h5.mono (S' := Up S w w5) (H' := Up Hk wr w5) (fun x _ hx => hx.imp_right (fun q => ⟨q.1, Nat.lt_of_lt_of_le q.2 f5.size⟩)) (fun x _ hx hh => hh.elim id (fun q => ?_)))
    rcases hx with hx | hx
    · have := hSl x hx; have := q.1; omega
    · have := hx.2; have := q.1; omega
/-- the log at the end -/
theorem RestR.finish {A' : Option Addr} {c' : Nat} (h : RestR S H w b A c ps per k (.slice A' k c') ds Hk wr) (hS : ∀ x, H x → S x) (hbH : H b) (hSl : ∀ x, S x → x < w.heap.size) (hper : 1 ≤ per ∧ per ≤ 1024) (hfew : ps.length ≤ 256) (hk : k ≤ ps.length) :
    IsRlog (Up S w (wr.setCell ⟨b, 1, none⟩ (.slice A' k c'))) (wr.setCell ⟨b, 1, none⟩ (.slice A' k c')) (.pointer (some ⟨b, 0, none⟩)) ⟨per, ds.take k, false⟩ ∧ Fr S w (wr.setCell ⟨b, 1, none⟩ (.slice A' k c')) := by
  have hb2 := h.blk
  have hnb : ¬ IsB wr b := hb2.notB (by decide)
  have f1 : Fr (fun x => x = b) wr (wr.setCell ⟨b, 1, none⟩ (.slice A' k c')) := Fr.setCell (S := fun x => x = b) (Fr.refl _ _) (p := ⟨b, 1, none⟩) (.inl rfl) hnb _
  have hsz : (wr.setCell ⟨b, 1, none⟩ (.slice A' k c')).heap.size = wr.heap.size := by simp [World.setCell]
  have fw := h.fr.size
  have hlt : ∀ x, Up S w (wr.setCell ⟨b, 1, none⟩ (.slice A' k c')) x → x < wr.heap.size := fun x hx => hx.elim (fun hx => Nat.lt_of_lt_of_le (hSl x hx) fw) (fun q => by have := q.2; omega)
  have hkl : (ps.take k).length = k := by rw [List.length_take]; omega
  have hdl := h.disks.len
  refine ⟨⟨Hk, b, A', c', ps.take k, rfl, fun x hx => ?_, h.hH b hbH, ?_, ?_, ?_, fun x hx => by rw [hsz]; exact hlt x hx, hper, ?_, fun R hR => h.small R (List.mem_of_mem_take hR)⟩, h.fr.trans' f1 (fun x _ e => e ▸ hS b hbH)⟩
  · rcases h.hk x hx with hx' | hx'
    · exact .inl (hS x hx')
    · exact .inr ⟨hx', by rw [hsz]; exact h.lt x hx⟩
  · rw [hkl]
    simpa using hb2.set 1 (.slice A' k c')
  · rw [hkl]
    exact (h.out.otherBlk hb2 (by decide) f1).mono (fun x _ hx => hx.1)
  · exact ((h.disks.take k).fr f1 (fun x _ hn e => (hn (e ▸ h.hH b hbH)).elim)).mono (fun x _ hx => hx.imp_right (fun q => ⟨q.1, by rw [hsz]; exact q.2⟩)) (fun _ _ _ h => h)
  · simp only [List.length_take]; omega
end
end Go.Proofs.YtediidajdpdeiaaGreatDoor
