/- The log's Copy (layer 7): the walk. -/
import Derived.Test.YtediidajdpdeiaaGreatDoorJ6
import Derived.Test.YtediidajdpdeiaaGreatDoorJ12
import Derived.Test.YtediidajdpdeiaaGreatDoorJ13
import Derived.Test.YtediidajdpdeiaaGreatDoorJ14
import Derived.Test.YtediidajdpdeiaaGreatDoorJ15
import Derived.Test.YtediidajdpdeiaaGreatDoorJ11

namespace Go.Proofs.YtediidajdpdeiaaGreatDoor
open Go.RowKit CrcM
set_option maxRecDepth 100000

theorem ownsBs_none (w : World) : (w.alloc (.cells #[] TBs)).ownsRow w.heap.size TBs 1 (.slice (some ⟨w.heap.size, 0, none⟩) 0 0) 0 [] :=
  World.ownsRow_made w #[] 0 (Nat.le_refl _) (by simp [maxLen]) (by simp)

/-- WHAT a clone of a row of records leaves -/
def ClonedR (w : World) (vals : List Value) (e : Ending) (w' : World) : Prop := ∃ R c, e = .returned (.slice R vals.length c) ∧ Row (Nw w w') w' TBs (.slice R vals.length c) vals ∧ Below w.heap.size w w'
theorem cloneRow_B {S : Nat → Prop} {w : World} {R : Option Addr} {n c : Nat} {vals : List Value} (hn : n = vals.length) (hr : Row S w TBs (.slice R n c) vals) (h1 : ∀ u ∈ vals, u.oneCell' = true) (hl : n ≤ 349525) :
    Calls Tryz.prog 102 #[.slice R n c] w (ClonedR w vals) := by
  obtain ⟨ib, hib, hzb, hsb, hbb⟩ := info_parts info_bs
  subst hn
  rcases R with _ | ad
  · have hv : vals = [] ∧ c = 0 := by
      rcases hr with ⟨h, rfl⟩ | ⟨g, o, c', cur, h, -⟩
      · injection h with _ _ h
        exact ⟨rfl, h⟩
      · injection h with h
        cases h
    obtain ⟨rfl, rfl⟩ := hv
    have hnil := fun (w : World) => Lib.run_eql_slice_nil w (P := Tryz.prog) 70 TBs none 0 0 0 0 Tryz.underlying70
    go_enter Tryz.func102, Tryz.ntmps102
    go_wp2
    go_ret
    exact ⟨none, 0, rfl, Row.nil _ _ _, Below.refl _ _⟩
  · have hnil := fun (w : World) => Lib.run_eql_slice_nil w (P := Tryz.prog) 70 TBs (some ad) vals.length c 0 0 Tryz.underlying70
    have hb0 := below_new w (.cells #[] TBs)
    have hr0 := hr.below hb0
    go_enter Tryz.func102, Tryz.ntmps102
    go_wp2_with (at_builtin; refine wpList_append_rd rfl (.tmp 5) (.tmp 6) 70 rfl TBs ib _ 24 Tryz.underlying70 hib hzb hsb hbb rfl w.heap.size _ 0 [] rfl (ownsBs_none w) _ (some ad) vals.length c vals rfl rfl hr0 h1 (by unfold maxLen; omega) (by omega) hb0.size ?_; intro v1 w1 ho1 hg1; rw [Nat.zero_add, List.nil_append] at ho1; obtain ⟨A1, c1, rfl, hc1, hm1⟩ := own_val ho1)
    go_ret
    have hb1 : Below w.heap.size w w1 := hb0.grown hg1 hb0.size (fun j hj => by injection hj with hj; subst hj; exact Nat.le_refl _)
    exact ⟨A1, c1, rfl, (Row.of_own ho1 (S := fun x => w.heap.size ≤ x) (fun g hg => own_grown ho1 hg)).mono (fun x hx hs => ⟨hs, hx⟩), hb1⟩

section
variable {S H : Nat → Prop} {w : World} {b : Nat} {A : Option Addr} {c : Nat} {ps : List Nat} {L : Lg}
/-- WHAT Copy leaves -/
def CopyDid (w : World) (L : Lg) (e : Ending) (w' : World) : Prop := ∃ b', e = .returned (.pointer (some ⟨b', 0, none⟩)) ∧ LogAt (Nw w w') w' b' L ∧ Below w.heap.size w w'
theorem copyL (h : LogO S H w b A c ps L) (hu : L.up) : Calls Tryz.prog 50 #[.pointer (some ⟨b, 0, none⟩)] w (CopyDid w L) := by
  obtain ⟨ip, hip, hzp, hsp, hbp⟩ := info_parts info_ps
  obtain ⟨per, gs, dn⟩ := L
  have hok := h.ok
  obtain ⟨c0, c1, c2, z1, z2, q0, q1, q2, q3, q4⟩ := h.facts
  have HQ := Lib.hid q1
  have HU := Lib.hid hu
  have HOK := Lib.hid hok
  clear q1 hu hok
  go_enter Tryz.func50, Tryz.ntmps50
  go_wp2_with (go_at_call 101; refine (noneL h).mono ?_; rintro e w' ⟨rfl, rfl⟩)
  refine wp_region_T #[[], [], [], [], [], [], [], [], [3, 7], [3, 7], [3, 7]] [3, 7] (fun w' => w'.cell? ⟨b, 0, none⟩ = some (.int .i64 (per : Int)) ∧ w'.cell? ⟨b, 2, none⟩ = some (.bool dn)) 11 rfl (by kernel_rfl) ?_
  (refine wpF (i := 0) rfl (by kernel_rfl) rfl (fun _ _ _ h => h) (fun _ => by go_simp; try rfl) ?_; (try simp only [Act.put, sA, sB, sC]))
  (refine wpF (i := 1) rfl (by kernel_rfl) rfl (fun _ _ _ h => h) (fun _ => by go_simp; try rfl) ?_; (try simp only [Act.put, sA, sB, sC]))
  (refine wpF (i := 2) rfl (by kernel_rfl) rfl (fun _ _ _ h => h) (fun _ => by go_simp; try rfl) ?_; (try simp only [Act.put, sA, sB, sC]))
  (refine wpAnyT_read (i := 3) rfl (by kernel_rfl) rfl (fun _ _ _ h => h) (by kernel_rfl) (⟨c0, c2⟩) (fun w hS_ => by obtain ⟨s_1, s_2⟩ := hS_; go_simp; try rfl) ?_; (try simp only [Act.put, sA, sB, sC]))
  (refine wpF (i := 4) rfl (by kernel_rfl) rfl (fun _ _ _ h => h) (fun _ => by go_simp; try rfl) ?_; (try simp only [Act.put, sA, sB, sC]))
  (refine wpF (i := 5) rfl (by kernel_rfl) rfl (fun _ _ _ h => h) (fun _ => by go_simp; try rfl) ?_; (try simp only [Act.put, sA, sB, sC]))
  (refine wpF (i := 6) rfl (by kernel_rfl) rfl (fun _ _ _ h => h) (fun _ => by go_simp; try rfl) ?_; (try simp only [Act.put, sA, sB, sC]))
  (refine wpAnyT_read (i := 7) rfl (by kernel_rfl) rfl (fun _ _ _ h => h) (by kernel_rfl) (⟨c0, c2⟩) (fun w hS_ => by obtain ⟨s_1, s_2⟩ := hS_; go_simp; try rfl) ?_; (try simp only [Act.put, sA, sB, sC]))
  (refine wpF (i := 8) rfl (by kernel_rfl) rfl (fun _ _ _ h => h) (fun _ => by go_simp; try rfl) ?_; (try simp only [Act.put, sA, sB, sC]))
  refine wpAnyT_sink (i := 9) rfl (by kernel_rfl) rfl (by kernel_rfl) ?_
  intro K_ hK_
  go_wp2
  (try (refine hK_ _ _ ?_; clear hK_ K_))
  (try simp only [Act.put, sA, sB, sC])
  (refine wpF (i := 10) rfl (by kernel_rfl) rfl (fun _ _ _ h => h) (fun _ => by go_simp; try rfl) ?_; (try simp only [Act.put, sA, sB, sC]))
  refine wpAnyT_done (by kernel_rfl) ?_ _
  have hb0 : Below w.heap.size w (w.alloc (.cells #[.int .i64 (per : Int), .slice none 0 0, .bool dn] TLg)).drew := (((Below.refl w.heap.size w)).alloc (Nat.le_refl _) _).drew
  have hL0 : LogO (Nw w (w.alloc (.cells #[.int .i64 (per : Int), .slice none 0 0, .bool dn] TLg)).drew) (Nw w (w.alloc (.cells #[.int .i64 (per : Int), .slice none 0 0, .bool dn] TLg)).drew) (w.alloc (.cells #[.int .i64 (per : Int), .slice none 0 0, .bool dn] TLg)).drew w.heap.size none 0 [] ⟨per, gs.take 0, dn⟩ :=
    ⟨fun _ h => h, ⟨Nat.le_refl _, by simp⟩, (Blk.new _ _ _).drew, Row.nil _ _ _, Segs.nil _ _ _, fun x hx => hx.2, ⟨HOK.out.1, HOK.out.2.1, by simp, fun g hg => by simp at hg⟩, fun _ _ => trivial⟩
  generalize (w.alloc (.cells #[.int .i64 (per : Int), .slice none 0 0, .bool dn] TLg)).drew = w1 at *
  have c1' := (h.below hb0).facts.2.1
  clear c0 c1 c2 z1 z2 q0
  go_wp2
  clear c1'
  go_loopw [24] (fun i wr => ∃ (k : Nat) (Hk : Nat → Prop) (A' : Option Addr) (c' : Nat) (qs : List Nat), k ≤ ps.length ∧ i = .int .i64 (k : Int) ∧ qs.length = k ∧ LogO (Nw w wr) Hk wr w.heap.size A' c' qs ⟨per, gs.take k, dn⟩ ∧ Below w.heap.size w wr) (fun i _ => ps.length - (intOf i).toNat)
  case atStart => exact ⟨0, _, none, 0, [], Nat.zero_le _, rfl, rfl, hL0, hb0⟩
  case round =>
    obtain ⟨k, Hk, A', c', qs, hk, rfl, hql, hl, hb⟩ := hrel
    have HQL := Lib.hid hql
    clear hql
    by_cases hlt : k < ps.length
    · obtain ⟨g, hg⟩ : ∃ g, gs[k]? = some g := ⟨_, List.getElem?_eq_getElem (show k < gs.length by have := HQ.out; omega)⟩
      obtain ⟨p, hp⟩ : ∃ p, ps[k]? = some p := ⟨_, List.getElem?_eq_getElem hlt⟩
      have h2 := h.below hb
      obtain ⟨Fi, hF, hs, -⟩ := h2.segs.at hp hg
      obtain ⟨⟨Sd, Sh, db, Rd, cR, rv, vals, k1, k2, k3, k4, k5, k6, k7, k8⟩, hslt⟩ := hs
      obtain ⟨R, cr, rfl, hcr, hmr⟩ := k7.val
      obtain ⟨ga, oa, rfl, ca⟩ := h2.ptrAt2 hp
      have hvl := k8.1
      have htk : gs.take (k + 1) = gs.take k ++ [g] := by rw [List.take_add_one, hg]; rfl
      have HT := Lib.hid htk
      have HG := Lib.hid hg
      have s0 := k5.cell 0 (v := .pointer (some ⟨db, 0, none⟩)) rfl
      have s1 := k5.cell 1 (v := .int .i64 (g.base : Int)) rfl
      have s2 := k5.cell 2 (v := .slice R vals.length cr) rfl
      have s3 := k5.cell 3 (v := .int .i64 (g.safe : Int)) rfl
      have hlt' : (k : Int) < (ps.length : Int) := by omega
      have HV := Lib.hid hvl
      clear htk hg hp hvl
      have hbn := below_new wr (.cells #[.pointer (some ⟨db, 0, none⟩), .int .i64 (g.base : Int), .slice R vals.length cr, .int .i64 (g.safe : Int)] TSg)
      have B2 := Blk.new wr TSg #[.pointer (some ⟨db, 0, none⟩), .int .i64 (g.base : Int), .slice R vals.length cr, .int .i64 (g.safe : Int)]
      have hN2 : wr.heap.size < (wr.alloc (.cells #[.pointer (some ⟨db, 0, none⟩), .int .i64 (g.base : Int), .slice R vals.length cr, .int .i64 (g.safe : Int)] TSg)).heap.size := B2.lt
      have t0 := (hbn.cell (p := ⟨p, 0, none⟩) (cell_lt s0)).trans s0
      have t2 := (hbn.cell (p := ⟨p, 2, none⟩) (cell_lt s2)).trans s2
      have hd2 := (k6.below hbn).drew
      have hr2 := k7.below hbn
      have hc2 := k8.fr (S' := Non) (Fr.of_below hbn)
      have hl2 := hl.below hbn
      have hfew : vals.length ≤ 349525 := by rw [HV.out]; exact (HOK.out.2.2.2 g (List.mem_of_getElem? HG.out)).2.1
      go_wp2
      change Code.wp _ _ _ _ (wr.alloc (.cells #[.pointer (some ⟨db, 0, none⟩), .int .i64 (g.base : Int), .slice R vals.length cr, .int .i64 (g.safe : Int)] TSg))
      generalize wr.alloc (.cells #[.pointer (some ⟨db, 0, none⟩), .int .i64 (g.base : Int), .slice R vals.length cr, .int .i64 (g.safe : Int)] TSg) = w2 at *
      refine wp_region_T #[[], [], [], [], [3], [], [], [], [], [3, 8], [3, 8], [3, 8], [3, 8], [3, 8]] [3, 8] (fun w' => w'.cell? ⟨p, 0, none⟩ = some (.pointer (some ⟨db, 0, none⟩)) ∧ w'.cell? ⟨p, 2, none⟩ = some (.slice R vals.length cr)) 14 rfl (by kernel_rfl) ?_
      (refine wpF (i := 0) rfl (by kernel_rfl) rfl (fun _ _ _ h => h) (fun _ => by go_simp; try rfl) ?_; (try simp only [Act.put, sA, sB, sC]))
      (refine wpF (i := 1) rfl (by kernel_rfl) rfl (fun _ _ _ h => h) (fun _ => by go_simp; try rfl) ?_; (try simp only [Act.put, sA, sB, sC]))
      (refine wpF (i := 2) rfl (by kernel_rfl) rfl (fun _ _ _ h => h) (fun _ => by go_simp; try rfl) ?_; (try simp only [Act.put, sA, sB, sC]))
      (refine wpAnyT_read (i := 3) rfl (by kernel_rfl) rfl (fun _ _ _ h => h) (by kernel_rfl) (⟨t0, t2⟩) (fun w hS_ => by obtain ⟨s_1, s_2⟩ := hS_; go_simp; try rfl) ?_; (try simp only [Act.put, sA, sB, sC]))
      (refine wpF (i := 5) rfl (by kernel_rfl) rfl (fun _ _ _ h => h) (fun _ => by go_simp; try rfl) ?_; (try simp only [Act.put, sA, sB, sC]))
      (refine wpF (i := 6) rfl (by kernel_rfl) rfl (fun _ _ _ h => h) (fun _ => by go_simp; try rfl) ?_; (try simp only [Act.put, sA, sB, sC]))
      (refine wpF (i := 7) rfl (by kernel_rfl) rfl (fun _ _ _ h => h) (fun _ => by go_simp; try rfl) ?_; (try simp only [Act.put, sA, sB, sC]))
      (refine wpAnyT_read (i := 8) rfl (by kernel_rfl) rfl (fun _ _ _ h => h) (by kernel_rfl) (⟨t0, t2⟩) (fun w hS_ => by obtain ⟨s_1, s_2⟩ := hS_; go_simp; try rfl) ?_; (try simp only [Act.put, sA, sB, sC]))
      refine wpAnyT_one (i := 4) rfl (by kernel_rfl) rfl ?_
      intro K_ hK_
      go_wp2_with ((go_at_call 51; refine (copy_B hd2).mono ?_; rintro e w3 ⟨p3, rfl, ⟨d3, A3, c3, rfl, hd3⟩, hb3⟩; have hcl := cloneRow_B rfl ((hr2.drew).below hb3) hc2.one hfew))
      refine hK_ _ _ ?_ ?_
      · exact fun _ _ => ⟨(hb3.cell (p := ⟨p, 0, none⟩) (cell_lt t0)).trans t0, (hb3.cell (p := ⟨p, 2, none⟩) (cell_lt t2)).trans t2⟩
      clear hK_ K_
      (try simp only [Act.put, sA, sB, sC])
      refine wpAnyT_sink (i := 9) rfl (by kernel_rfl) rfl (by kernel_rfl) ?_
      intro K_ hK_
      go_wp2_with ((go_at_call 102; refine hcl.mono ?_; rintro e w4 ⟨R4, c4, rfl, hrow4, hb4⟩; have B4 := (B2.drew.below' hb3).below' hb4; have y0 := B4.cell 0 (v := .pointer (some ⟨db, 0, none⟩)) rfl; have yf0 := B4.frozen 0; have B5 := B4.set 0 (.pointer (some ⟨d3, 0, none⟩)); have y2 := B5.cell 2 (v := .slice R vals.length cr) (by simp); have yf2 := B5.frozen 2))
      (try (refine hK_ _ _ ?_; clear hK_ K_))
      (try simp only [Act.put, sA, sB, sC])
      (refine wpF (i := 10) rfl (by kernel_rfl) rfl (fun _ _ _ h => h) (fun _ => by go_simp; try rfl) ?_; (try simp only [Act.put, sA, sB, sC]))
      refine wpAnyT_sink (i := 11) rfl (by kernel_rfl) rfl (by kernel_rfl) ?_
      intro K_ hK_
      go_wp2
      (try (refine hK_ _ _ ?_; clear hK_ K_))
      (try simp only [Act.put, sA, sB, sC])
      (refine wpF (i := 12) rfl (by kernel_rfl) rfl (fun _ _ _ h => h) (fun _ => by go_simp; try rfl) ?_; (try simp only [Act.put, sA, sB, sC]))
      refine wpAnyT_sink (i := 13) rfl (by kernel_rfl) rfl (by kernel_rfl) ?_
      intro K_ hK_
      go_wp2
      (try (refine hK_ _ _ ?_; clear hK_ K_))
      (try simp only [Act.put, sA, sB, sC])
      refine wpAnyT_done (by kernel_rfl) ?_ _
      have hb24' := hb3.trans (hb4.mono hb3.size)
      have hb24 : Below w2.heap.size w2 w4 := ⟨hb24'.os, hb24'.tape, hb24'.output, hb24'.size, hb24'.block⟩
      have hN3 : w2.heap.size ≤ w3.heap.size := hb3.size
      have hN4 : w3.heap.size ≤ w4.heap.size := hb4.size
      have hnb : ¬ IsB w4 wr.heap.size := B4.notB (by decide)
      have B6 : Blk ((w4.setCell ⟨wr.heap.size, 0, none⟩ (.pointer (some ⟨d3, 0, none⟩))).setCell ⟨wr.heap.size, 2, none⟩ (.slice R4 vals.length c4)) wr.heap.size TSg #[ptr d3, .int .i64 (g.base : Int), .slice R4 vals.length c4, .int .i64 (g.safe : Int)] := by simpa [ptr] using B5.set 2 (.slice R4 vals.length c4)
      have f45 : Fr (fun x => x = wr.heap.size) w4 ((w4.setCell ⟨wr.heap.size, 0, none⟩ (.pointer (some ⟨d3, 0, none⟩))).setCell ⟨wr.heap.size, 2, none⟩ (.slice R4 vals.length c4)) := ((Fr.refl (fun x => x = wr.heap.size) w4).setCell (p := ⟨wr.heap.size, 0, none⟩) (.inl rfl) hnb _).setCell (p := ⟨wr.heap.size, 2, none⟩) (.inl rfl) hnb _
      have hb25 : Below wr.heap.size wr ((w4.setCell ⟨wr.heap.size, 0, none⟩ (.pointer (some ⟨d3, 0, none⟩))).setCell ⟨wr.heap.size, 2, none⟩ (.slice R4 vals.length c4)) := ((hbn.trans (hb24.mono hbn.size)).setCell (p := ⟨wr.heap.size, 0, none⟩) (Nat.le_refl _) _).setCell (p := ⟨wr.heap.size, 2, none⟩) (Nat.le_refl _) _
      have hs5 : ((w4.setCell ⟨wr.heap.size, 0, none⟩ (.pointer (some ⟨d3, 0, none⟩))).setCell ⟨wr.heap.size, 2, none⟩ (.slice R4 vals.length c4)).heap.size = w4.heap.size := by simp [World.setCell]
      generalize (w4.setCell ⟨wr.heap.size, 0, none⟩ (.pointer (some ⟨d3, 0, none⟩))).setCell ⟨wr.heap.size, 2, none⟩ (.slice R4 vals.length c4) = w5 at *
      have hseg : SegAt (Nw wr w5) w5 wr.heap.size g :=
        ⟨⟨Nw w2.drew w3, fun x => x = wr.heap.size ∨ Nw w3 w4 x, d3, A3, c3, .slice R4 vals.length c4, vals,
          fun x hx => ⟨by have h1 : w2.heap.size ≤ x := hx.1; omega, by have := hx.2; omega⟩,
          fun x hx => hx.elim (fun e => ⟨by omega, by omega⟩) (fun q => ⟨by have := q.1; omega, by have := q.2; omega⟩),
          fun x hx hy => (show False from hy.elim (fun e => by have h1 : w2.heap.size ≤ x := hx.1; omega) (fun q => by have := q.1; have := hx.2; omega)).elim,
          .inl rfl, B6, (hd3.below hb4).fr f45 (fun x hx e => (show False from by have h1 : w2.heap.size ≤ x := hx.1; omega).elim), (hrow4.otherBlk B4 (by decide) f45).mono (fun x _ hx => .inr hx), ((hc2.fr (S' := Non) (Fr.of_below hb24)).fr f45)⟩, fun x hx => hx.2⟩
      have hl5 := hl.below hb25
      have hb6 := below_new w5 (.cells #[ptr wr.heap.size] TPs)
      have v1 := hl5.blk.cell 1 (v := .slice A' qs.length c') rfl
      have hrow6 := hl5.row.below hb6
      have BL6 := hl5.blk.below' hb6
      have hne6 := hrow6.ownNe BL6 (by decide)
      have HM4 : (qs.map ptr).length + 1 ≤ maxLen := by rw [List.length_map, HQL.out]; unfold maxLen; omega
      have HM5 : ((qs.map ptr).length + 1) * 8 ≤ 140737488355328 := by rw [List.length_map, HQL.out]; omega
      have hgl : (gs.take k).length < 256 := by rw [List.length_take]; omega
      clear B6 f45 hs5 hd3 hrow4 B4 B5 y0 yf0 y2 yf2 hcl hl2 t0 t2 hd2 hr2 hc2 B2 hnb
      go_wp2_with (at_builtin; refine wpList_append_row rfl (.tmp 47) (.tmp 48) 130 rfl TPs ip _ 8 Tryz.underlying130 hip hzp hsp hbp rfl (.slice A' qs.length c') (qs.map ptr) rfl hrow6 ⟨w5.heap.size, 0, none⟩ (ptr wr.heap.size) rfl (heap_new_cell _ _ _) rfl HM4 HM5 (by decide) ?_; intro v7 w7 hrow7 hf7 hoth7; obtain ⟨A7, c7, rfl, hc7, hm7⟩ := hrow7.val; rw [List.length_append, List.length_map, List.length_singleton] at hrow7 hc7 ⊢; have BL7 : Blk w7 w.heap.size TLg _ := BL6.eq (hoth7 _ BL6.lt hne6); have x7 := BL7.cell 1 (v := .slice A' qs.length c') rfl; have xf7 := BL7.frozen 1)
      obtain ⟨hl8, hf8⟩ := hl.grow hgl hb25 hseg (HOK.out.2.2.2 g (List.mem_of_getElem? HG.out)) hb6 hf7 hoth7 hrow7
      go_roundw
      case rel =>
        have hsz : (w7.setCell ⟨w.heap.size, 1, none⟩ (.slice A7 (qs.length + 1) c7)).heap.size = w7.heap.size := by simp [World.setCell]
        have hsb := hb.size
        refine ⟨k + 1, Up Hk (w5.alloc (.cells #[ptr wr.heap.size] TPs)) w7, A7, c7, qs ++ [wr.heap.size], by omega, by go_num, by rw [List.length_append, HQL.out]; rfl, ?_, ?_⟩
        · rw [HT.out]
          exact hl8.mono (fun x hx => ⟨hx.elim (fun q => q.1) (fun q => Nat.le_trans hsb q.1), by rw [hsz]; exact hx.elim (fun q => Nat.lt_of_lt_of_le q.2 (by have := hf8.size; omega)) (fun q => q.2)⟩) (fun x hx => hx.2)
        · exact ⟨hf8.os.trans hb.os, hf8.tape.trans hb.tape, hf8.output.trans hb.output, Nat.le_trans hsb hf8.size, fun x hx => (hf8.out x (Nat.lt_of_lt_of_le hx hsb) (fun q => by have := q.1; omega)).trans (hb.block x hx)⟩
      case measure => simp [intOf]; omega
    · obtain rfl : k = ps.length := by omega
      rw [List.take_of_length_le (by rw [HQ.out]; omega)] at hl
      go_wp2
      go_ret
      exact ⟨_, rfl, ⟨HU.out, _, _, _, _, hl⟩, hb⟩
end
end Go.Proofs.YtediidajdpdeiaaGreatDoor

/- A store as the laws see it: all that is owned is newer than the law's beginning. -/
namespace Go.Proofs.YtediidajdpdeiaaGreatDoor
open Go.RowKit CrcM
set_option maxRecDepth 100000

section
variable {S S1 S2 : Nat → Prop} {w : World} {b lb db mb : Nat} {s : So}
/-- Restart of a store that is up -/
theorem restartUp (h : SoO S S1 S2 w b lb db mb s) (hh : HalfAt w) (hSh : ¬ S 0) (hup : s.log.down = false) :
    Calls Tryz.prog 72 #[.pointer (some ⟨b, 0, none⟩)] w (SoDid S w (.pointer (some ⟨b, 0, none⟩)) (s, 9)) := by
  obtain ⟨hu, H, A, c, ps, hl⟩ := id h.log
  have hb1 := below_new w (.cells #[.pointer (some ⟨b, 0, none⟩)] 23)
  have h1 := h.below hb1
  have hlr := restartL (hl.below hb1) hu (hh.below hb1 hh.lt) (fun hx => hSh (h.h1 _ hx))
  have hlc : s.log.restart = (s.log, 9) := by unfold Lg.restart; rw [hup]; rfl
  unfold LogDid at hlr
  rw [hlc] at hlr
  have B1 := Blk.new w 23 #[.pointer (some ⟨b, 0, none⟩)]
  have x1 := B1.cell 0 (v := .pointer (some ⟨b, 0, none⟩)) rfl
  obtain ⟨c0, c1, c2, c3, c4, c5, z1, z3, z4⟩ := h1.facts
  clear hlc
  go_enter Tryz.func72, Tryz.ntmps72
  go_wp2_with (first
    | (go_at_call 49; refine (noneS h1).mono ?_; rintro e w' ⟨rfl, rfl⟩)
    | (go_at_call 127; refine hlr.mono ?_; rintro e w2 ⟨rfl, hl2, hf2⟩))
  go_ret
  obtain ⟨h2, f2⟩ := h1.turnLog hl2 hf2
  exact SoDid.from hb1 h.lt ⟨rfl, h2.is, f2⟩
theorem logS (h : SoO S S1 S2 w b lb db mb s) : Calls Tryz.prog 21 #[.pointer (some ⟨b, 0, none⟩)] w (CopyDid w s.log) := by
  obtain ⟨c0, c1, c2, c3, c4, c5, z1, z3, z4⟩ := h.facts
  obtain ⟨hu, H, A, c, ps, hl⟩ := id h.log
  have hc := copyL hl hu
  go_enter Tryz.func21, Tryz.ntmps21
  go_wp2_with (first
    | (go_at_call 49; refine (noneS h).mono ?_; rintro e w' ⟨rfl, rfl⟩)
    | (go_at_call 50; refine hc.mono ?_; rintro e w2 ⟨b', rfl, hl2, hb2⟩))
  go_ret
  exact ⟨b', rfl, hl2, hb2⟩
end

/-- a store that was made since W, of whose memory nothing has turned; X is kept apart from it -/
def LiveS (W w : World) (b : Nat) (s : So) (X : Nat → Prop) : Prop := ∃ S, SoAt S w b s ∧ (∀ x, S x → W.heap.size ≤ x) ∧ Below W.heap.size W w ∧ ∀ x, X x → ¬ S x ∧ x < w.heap.size
section
variable {W w w' : World} {b : Nat} {s : So} {X : Nat → Prop}
theorem LiveS.below (h : LiveS W w b s X) : Below W.heap.size W w := by
  obtain ⟨S, _, _, hb, _⟩ := h
  exact hb
theorem LiveS.sub {X' : Nat → Prop} (h : LiveS W w b s X) (hs : ∀ x, X' x → X x) : LiveS W w b s X' := by
  obtain ⟨S, hd, hS, hb, hX⟩ := h
  exact ⟨S, hd, hS, hb, fun x hx => hX x (hs x hx)⟩
theorem LiveS.mono (h : LiveS W w b s X) (f : Below w.heap.size w w') : LiveS W w' b s (Up X w w') := by
  obtain ⟨S, ⟨S1, S2, lb, db, mb, hd⟩, hS, hb, hX⟩ := h
  refine ⟨S, ⟨S1, S2, lb, db, mb, hd.below f⟩, hS, hb.trans (f.mono hb.size), fun x hx => ?_⟩
  rcases hx with hx | hx
  · exact ⟨(hX x hx).1, Nat.lt_of_lt_of_le (hX x hx).2 f.size⟩
  · refine ⟨fun hs => ?_, hx.2⟩
    have := hd.lt x hs
    have := hx.1
    omega
theorem LiveS.mono' (h : LiveS W w b s X) (f : Below w.heap.size w w') : LiveS W w' b s X := (h.mono f).sub fun _ hx => .inl hx
theorem LiveS.turned {S : Nat → Prop} (hS : ∀ x, S x → W.heap.size ≤ x) (hb : Below W.heap.size W w) (hX : ∀ x, X x → ¬ S x ∧ x < w.heap.size) {s' : So} (hi : IsSo (Up S w w') w' (.pointer (some ⟨b, 0, none⟩)) s') (hf : Fr S w w') : LiveS W w' b s' X ∧ XK X w w' ∧ BK w w' := by
  obtain ⟨b', e, h⟩ := hi
  injection e with e
  injection e with e
  injection e with e
  subst e
  exact ⟨⟨_, h, fun x hx => hx.elim (hS x) (fun h => Nat.le_trans hb.size h.1), ⟨hf.os.trans hb.os, hf.tape.trans hb.tape, hf.output.trans hb.output, Nat.le_trans hb.size hf.size,
    fun k hk => (hf.out k (Nat.lt_of_lt_of_le hk hb.size) fun hh => by have := hS k hh; omega).trans (hb.block k hk)⟩, fun x hx => ⟨fun hs => hs.elim (hX x hx).1 (fun q => by have := (hX x hx).2; have := q.1; omega), Nat.lt_of_lt_of_le (hX x hx).2 hf.size⟩⟩, fun x hx => hf.out x (hX x hx).2 (hX x hx).1, hf.byt⟩
end

/-- WHAT a change of a live store leaves -/
def LiveSDid (W w : World) (b : Nat) (X : Nat → Prop) (r : So × Int) (e : Ending) (w' : World) : Prop := e = .returned (.int .i64 r.2) ∧ LiveS W w' b r.1 X ∧ XK X w w' ∧ BK w w'
section
variable {W w : World} {b : Nat} {s : So} {X : Nat → Prop} {m n : Nat} {st0 : St} {rcs : List Rc}
theorem LiveSDid.of {S : Nat → Prop} {r : So × Int} {e : Ending} {w' : World} (hS : ∀ x, S x → W.heap.size ≤ x) (hb : Below W.heap.size W w) (hX : ∀ x, X x → ¬ S x ∧ x < w.heap.size) (h : SoDid S w (.pointer (some ⟨b, 0, none⟩)) r e w') : LiveSDid W w b X r e w' :=
  ⟨h.1, LiveS.turned hS hb hX h.2.1 h.2.2⟩
theorem So.inv.len_ok (hi : s.inv m n st0 rcs) : s.log.len ≤ 4611686018427387904 := by
  have := hi.log.len_le
  have := hi.small
  omega
theorem promise_S (h : LiveS W w b s X) (hh : HalfAt W) (hi : s.inv m n st0 rcs) (k : Int) :
    Calls Tryz.prog 62 #[.pointer (some ⟨b, 0, none⟩), .int .i64 k] w (LiveSDid W w b X (s.promise k)) := by
  obtain ⟨S, ⟨S1, S2, lb, db, mb, h⟩, hS, hb, hX⟩ := h
  exact (promiseS h (hh.below hb hh.lt) hi.len_ok k).mono fun e w' q => LiveSDid.of hS hb hX q
theorem accept_S (h : LiveS W w b s X) (hh : HalfAt W) (hi : s.inv m n st0 rcs) (hf : s.st.slots.length < 1048575) (slot k : Int) (B : Option Addr) (v : List UInt8) (cb : Nat) (hv : Arg W w B v) (hvl : v.length ≤ 70368744177664) :
    Calls Tryz.prog 10 #[.pointer (some ⟨b, 0, none⟩), .int .i64 slot, .int .i64 k, .slice B v.length cb] w (LiveSDid W w b X (s.accept slot k v)) := by
  obtain ⟨S, ⟨S1, S2, lb, db, mb, h⟩, hS, hb, hX⟩ := h
  exact (acceptS h (hh.below hb hh.lt) hi.len_ok hf slot k B v cb (hv S hS) hvl).mono fun e w' q => LiveSDid.of hS hb hX q
theorem forget_S (h : LiveS W w b s X) (hh : HalfAt W) (hi : s.inv m n st0 rcs) (k : Int) :
    Calls Tryz.prog 68 #[.pointer (some ⟨b, 0, none⟩), .int .i64 k] w (LiveSDid W w b X (s.forget k)) := by
  obtain ⟨S, ⟨S1, S2, lb, db, mb, h⟩, hS, hb, hX⟩ := h
  exact (forgetS h (hh.below hb hh.lt) hi.len_ok k).mono fun e w' q => LiveSDid.of hS hb hX q
theorem sync_S (h : LiveS W w b s X) :
    Calls Tryz.prog 65 #[.pointer (some ⟨b, 0, none⟩)] w (LiveSDid W w b X s.sync) := by
  obtain ⟨S, ⟨S1, S2, lb, db, mb, h⟩, hS, hb, hX⟩ := h
  exact (syncS h).mono fun e w' q => LiveSDid.of hS hb hX q
theorem crash_S (h : LiveS W w b s X) (keep flip : Int) (hk : i64 keep) (hf : i64 flip) :
    Calls Tryz.prog 70 #[.pointer (some ⟨b, 0, none⟩), .int .i64 keep, .int .i64 flip] w (LiveSDid W w b X (s.crash keep flip)) := by
  obtain ⟨S, ⟨S1, S2, lb, db, mb, h⟩, hS, hb, hX⟩ := h
  unfold i64 at hk hf
  exact (crashS h keep flip hk.2 hf.2 hk.1 hf.1).mono fun e w' q => LiveSDid.of hS hb hX q
theorem snapshot_S (h : LiveS W w b s X) (hh : HalfAt W) :
    Calls Tryz.prog 11 #[.pointer (some ⟨b, 0, none⟩)] w (LiveSDid W w b X s.snapshot) := by
  obtain ⟨S, ⟨S1, S2, lb, db, mb, h⟩, hS, hb, hX⟩ := h
  exact (snapshotS h (hh.below hb hh.lt) (fun hx => by have := hS _ hx; have := hh.lt; omega)).mono fun e w' q => LiveSDid.of hS hb hX q
theorem restartUp_S (h : LiveS W w b s X) (hh : HalfAt W) (hu : s.log.down = false) :
    Calls Tryz.prog 72 #[.pointer (some ⟨b, 0, none⟩)] w (LiveSDid W w b X (s, 9)) := by
  obtain ⟨S, ⟨S1, S2, lb, db, mb, h⟩, hS, hb, hX⟩ := h
  exact (restartUp h (hh.below hb hh.lt) (fun hx => by have := hS _ hx; have := hh.lt; omega) hu).mono fun e w' q => LiveSDid.of hS hb hX q
/-- WHAT Restart leaves of a store that is down -/
def RoseDid (W w : World) (b : Nat) (X : Nat → Prop) (m n : Nat) (s : So) (st0 : St) (rcs : List Rc) (e : Ending) (w' : World) : Prop :=
  ∃ (j : Nat) (s' : So), e = .returned (.int .i64 0) ∧ LiveS W w' b s' X ∧ XK X w w' ∧ BK w w' ∧ Rose m n s st0 rcs j s'
theorem restart_S (h : LiveS W w b s X) (hh : HalfAt W) (hi : s.inv m n st0 rcs) (hd : s.log.down = true) :
    Calls Tryz.prog 72 #[.pointer (some ⟨b, 0, none⟩)] w (RoseDid W w b X m n s st0 rcs) := by
  obtain ⟨S, ⟨S1, S2, lb, db, mb, h⟩, hS, hb, hX⟩ := h
  obtain ⟨j, hrec, hr⟩ := hi.restart hd
  have hfew := hi.few
  have hsm := hi.small
  refine (restartSo h (hh.below hb hh.lt) (fun hx => by have := hS _ hx; have := hh.lt; omega) hd hi.ok0.ok hi.snap' hrec (fun r hr => (hi.rok r (List.mem_of_mem_take hr)).1) (by rw [List.length_take]; omega)).mono fun e w' q => ?_
  obtain ⟨q1, q2, q3, q4⟩ := LiveSDid.of hS hb hX q
  exact ⟨j, _, q1, q2, q3, q4, hr⟩
theorem down_S (h : LiveS W w b s X) : Calls Tryz.prog 13 #[.pointer (some ⟨b, 0, none⟩)] w fun e w' => e = .returned (.bool s.log.down) ∧ w = w' := by
  obtain ⟨S, ⟨S1, S2, lb, db, mb, h⟩, hS, hb, hX⟩ := h
  exact downS h
theorem base_S (h : LiveS W w b s X) (hu : s.log.down = false) : Calls Tryz.prog 16 #[.pointer (some ⟨b, 0, none⟩)] w fun e w' => e = .returned (.int .i64 (s.st.base : Int)) ∧ w = w' := by
  obtain ⟨S, ⟨S1, S2, lb, db, mb, h⟩, hS, hb, hX⟩ := h
  have := baseS h
  rw [hu] at this
  exact this
theorem promised_S (h : LiveS W w b s X) (hu : s.log.down = false) : Calls Tryz.prog 14 #[.pointer (some ⟨b, 0, none⟩)] w fun e w' => e = .returned (.int .i64 (s.st.promised : Int)) ∧ w = w' := by
  obtain ⟨S, ⟨S1, S2, lb, db, mb, h⟩, hS, hb, hX⟩ := h
  have := promisedS h
  rw [hu] at this
  exact this
theorem slots_S (h : LiveS W w b s X) (hu : s.log.down = false) : Calls Tryz.prog 15 #[.pointer (some ⟨b, 0, none⟩)] w fun e w' => e = .returned (.int .i64 (So.top s.st.slots : Int)) ∧ Below w.heap.size w w' := by
  obtain ⟨S, ⟨S1, S2, lb, db, mb, h⟩, hS, hb, hX⟩ := h
  have := slotsS h
  rw [hu] at this
  exact this
theorem get_S (h : LiveS W w b s X) (hu : s.log.down = false) (k : Nat) (hk : k ≤ 4611686018427387904) : Calls Tryz.prog 77 #[.pointer (some ⟨b, 0, none⟩), .int .i64 (k : Int)] w (GetDid w (getN k s.st.slots)) := by
  obtain ⟨S, ⟨S1, S2, lb, db, mb, h⟩, hS, hb, hX⟩ := h
  have := getS h k hk
  rw [hu] at this
  exact this
theorem log_S (h : LiveS W w b s X) : Calls Tryz.prog 21 #[.pointer (some ⟨b, 0, none⟩)] w (CopyDid w s.log) := by
  obtain ⟨S, ⟨S1, S2, lb, db, mb, h⟩, hS, hb, hX⟩ := h
  exact logS h
theorem new_S (hb : Below W.heap.size W w) (per : Int) (h1 : 1 ≤ per) (h2 : per ≤ 1024) : Calls Tryz.prog 7 #[.int .i64 per] w fun e w' => ∃ b, e = .returned (.tuple #[.pointer (some ⟨b, 0, none⟩), .int .i64 0]) ∧ LiveS W w' b (So.new per.toNat) (fun x => x < w.heap.size) ∧ Below w.heap.size w w' := by
  refine (newS w per).mono ?_
  rintro e w' h
  rw [if_pos ⟨h1, h2⟩] at h
  obtain ⟨p, rfl, ⟨b, rfl, hl⟩, hb'⟩ := h
  exact ⟨b, rfl, ⟨_, hl, fun x hx => Nat.le_trans hb.size hx.1, hb.trans (hb'.mono hb.size), fun x hx => ⟨fun hs => by have := hs.1; omega, Nat.lt_of_lt_of_le hx hb'.size⟩⟩, hb'⟩
end
end Go.Proofs.YtediidajdpdeiaaGreatDoor

/- What the laws of a store come to (layer 8), in plain words. -/
namespace Go.Proofs.YtediidajdpdeiaaGreatDoor
open CrcM

/-! no slot lies below the base, at any record -/
def St.based (s : St) : Prop := ∀ p ∈ s.slots, s.base ≤ p.1
def Based (st0 : St) (rcs : List Rc) : Prop := ∀ j, ((rcs.take j).foldl Rc.play st0).based
section
variable {st : St} {rcs : List Rc}
theorem Based.nil (h : st.based) : Based st [] := fun j => by rw [List.take_nil]; exact h
theorem Based.take (h : Based st rcs) (i : Nat) : Based st (rcs.take i) := fun j => by rw [List.take_take]; exact h _
theorem Based.all (h : Based st rcs) : (rcs.foldl Rc.play st).based := by
  have := h rcs.length
  rwa [List.take_length] at this
theorem Based.put (h : Based st rcs) {rc : Rc} (hp : (Rc.play (rcs.foldl Rc.play st) rc).based) : Based st (rcs ++ [rc]) := fun j => by
  by_cases hj : j ≤ rcs.length
  · rw [List.take_append_of_le_length hj]
    exact h j
  · rw [List.take_of_length_le (by rw [List.length_append, List.length_singleton]; omega), List.foldl_append]
    exact hp
theorem St.based_new : St.new.based := fun p hp => by cases hp
theorem St.based.acc (h : st.based) {k : Nat} (hk : st.base ≤ k) (b : Nat) (v : List UInt8) : (Rc.play st (.acc k b v)).based := by
  intro p hp
  show st.base ≤ p.1
  rcases mem_putN.1 hp with rfl | ⟨hp, _⟩
  · exact hk
  · exact h p hp
theorem St.based_forget (s : St) (n : Nat) : (Rc.play s (.forget n)).based := by
  intro p hp
  exact of_decide_eq_true (List.mem_filter.1 hp).2
end

/-- a store as the laws' calls leave it -/
structure So.Fine (m n : Nat) (s : So) (st0 : St) (rcs : List Rc) : Prop where
  inv : s.inv m n st0 rcs
  based : Based st0 rcs
  few : s.st.slots.length ≤ n
def So.Sound (m n : Nat) (s : So) : Prop := ∃ st0 rcs, s.Fine m n st0 rcs
section
variable {m n : Nat} {s : So} {st0 : St} {rcs : List Rc}
theorem So.inv.fine (h : s.inv m n st0 rcs) (hB : Based st0 rcs) (hd : s.log.down = false) : s.Fine m n st0 rcs := ⟨h, hB, (h.st hd).2⟩
theorem So.Fine.sound (h : s.Fine m n st0 rcs) : s.Sound m n := ⟨_, _, h⟩
theorem So.Fine.mono (h : s.Fine m n st0 rcs) {m' n' : Nat} (hm : m ≤ m') (hn : n ≤ n') (hs : n' ≤ 150) : s.Fine m' n' st0 rcs := ⟨h.inv.mono hm hn hs, h.based, Nat.le_trans h.few hn⟩
theorem So.Fine.put (h : s.Fine m n st0 rcs) (hd : s.log.down = false) {rc : Rc} {s' : So} (hp : Put m n s st0 rcs rc s') (hb : (Rc.play s.st rc).based) : s'.Fine m (n + 1) st0 (rcs ++ [rc]) :=
  hp.inv.fine (h.based.put (by rw [← h.inv.up hd]; exact hb)) hp.down
theorem So.Fine.now (h : s.Fine m n st0 rcs) (hd : s.log.down = false) : s.st.based := by
  rw [h.inv.up hd]
  exact h.based.all
theorem So.Fine.rose (h : s.Fine m n st0 rcs) {j : Nat} {s' : So} (hr : Rose m n s st0 rcs j s') : s'.Fine m n st0 (rcs.take j) := hr.inv.fine (h.based.take j) hr.down
/-! what has the promise rise -/
def Over (was now : Slots) : Prop := ∀ p ∈ was, ∃ y, (p.1, y) ∈ now ∧ p.2.ballot ≤ y.ballot
theorem Over.refl (l : Slots) : Over l l := fun p hp => ⟨p.2, hp, Nat.le_refl _⟩
theorem Over.trans {a b c : Slots} (h : Over a b) (k : Over b c) : Over a c := fun p hp => by
  obtain ⟨y, h1, h2⟩ := h p hp
  obtain ⟨z, h3, h4⟩ := k _ h1
  exact ⟨z, h3, Nat.le_trans h2 h4⟩
structure Up8 (m n : Nat) (s s' : So) : Prop where
  sound : s'.Sound m (n + 1)
  up : s'.log.down = false
  pr : s.st.promised ≤ s'.st.promised
  over : Over s.st.slots s'.st.slots
theorem So.Fine.same (h : s.Fine m n st0 rcs) (hd : s.log.down = false) (hn : n < 150) : Up8 m n s s := ⟨⟨st0, rcs, h.mono (Nat.le_refl _) (by omega) (by omega)⟩, hd, Nat.le_refl _, Over.refl _⟩
/-! what a crash may leave of records that were not kept -/
structure Tor (st : St) (low hi : Nat) (t : St) : Prop where
  lo : low ≤ t.promised
  hi : t.promised ≤ hi
  base : t.base = st.base
  slots : ∀ p ∈ st.slots, ∃ y, (p.1, y) ∈ t.slots ∧ p.2.ballot ≤ y.ballot ∧ (p.1 ≠ 1 → y = p.2)
  b : ∀ y, (50, y) ∈ t.slots → y.value = [98]
def Xtra (low hi : Nat) : Rc → Prop
  | .acc k b v => (k = 1 ∧ b = low) ∨ (k = 50 ∧ b = low ∧ v = [98])
  | .prom b => b ≤ hi
  | .forget _ => False
theorem Tor.play {st t : St} {low hi : Nat} (h : Tor st low hi t) (hlh : low ≤ hi) (hl : ∀ p ∈ st.slots, p.1 ≠ 50 ∧ p.2.ballot ≤ low) {r : Rc} (hr : Xtra low hi r) : Tor st low hi (Rc.play t r) := by
  cases r with
  | forget n => exact hr.elim
  | prom b =>
    have hb : b ≤ hi := hr
    have := h.lo
    have := h.hi
    exact ⟨show low ≤ max t.promised b by omega, show max t.promised b ≤ hi by omega, h.base, h.slots, h.b⟩
  | acc k b v =>
    have h1 := h.lo
    have h2 := h.hi
    rcases hr with ⟨rfl, rfl⟩ | ⟨rfl, rfl, rfl⟩
    · refine ⟨show b ≤ max t.promised b by omega, show max t.promised b ≤ hi by omega, h.base, fun p hp => ?_, fun y hy => ?_⟩
      · obtain ⟨y, q1, q2, q3⟩ := h.slots p hp
        by_cases hk : p.1 = 1
        · exact ⟨⟨b, v⟩, mem_putN.2 (.inl (by rw [hk])), (hl p hp).2, fun q => (q hk).elim⟩
        · exact ⟨y, mem_putN.2 (.inr ⟨q1, hk⟩), q2, q3⟩
      · rcases mem_putN.1 hy with e | ⟨hy, _⟩
        · cases e
        · exact h.b y hy
    · refine ⟨show b ≤ max t.promised b by omega, show max t.promised b ≤ hi by omega, h.base, fun p hp => ?_, fun y hy => ?_⟩
      · obtain ⟨y, q1, q2, q3⟩ := h.slots p hp
        exact ⟨y, mem_putN.2 (.inr ⟨q1, (hl p hp).1⟩), q2, q3⟩
      · rcases mem_putN.1 hy with e | ⟨_, hy⟩
        · injection e with _ e
          rw [e]
        · exact (hy rfl).elim
theorem Tor.plays {st : St} {low hi : Nat} (hlh : low ≤ hi) (hl : ∀ p ∈ st.slots, p.1 ≠ 50 ∧ p.2.ballot ≤ low) : ∀ (rs : List Rc) {t : St}, Tor st low hi t → (∀ r ∈ rs, Xtra low hi r) → Tor st low hi (rs.foldl Rc.play t)
  | [], _, h, _ => h
  | r :: rs, _, h, hr => Tor.plays hlh hl rs (h.play hlh hl (hr r (List.mem_cons_self ..))) (fun x hx => hr x (List.mem_cons_of_mem _ hx))
/-- a store behind what is kept and some records more -/
structure Torn (m n : Nat) (st0 : St) (rcs : List Rc) (st : St) (low : Nat) (hi : Nat → Prop) (s : So) (extra : List Rc) : Prop where
  inv : s.inv m n st0 (rcs ++ extra)
  up : s.log.down = false
  sy : s.sy = rcs.length
  x : ∀ r ∈ extra, ∀ h, hi h → Xtra low h r
theorem Torn.put {st : St} {low : Nat} {hi : Nat → Prop} {extra : List Rc} (h : Torn m n st0 rcs st low hi s extra) {rc : Rc} {s' : So} (hp : Put m n s st0 (rcs ++ extra) rc s') {hi' : Nat → Prop} (hh : ∀ h, hi' h → hi h) (hx : ∀ h, hi' h → Xtra low h rc) : Torn m (n + 1) st0 rcs st low hi' s' (extra ++ [rc]) :=
  ⟨by rw [← List.append_assoc]; exact hp.inv, hp.down, hp.sy.trans h.sy, fun r hr => by
    rcases List.mem_append.1 hr with hr | hr
    · exact fun z hz => h.x r hr z (hh z hz)
    · obtain rfl := List.mem_singleton.1 hr
      exact hx⟩
theorem Torn.mono {st : St} {low : Nat} {hi : Nat → Prop} {extra : List Rc} (h : Torn m n st0 rcs st low hi s extra) {n' : Nat} (hn : n ≤ n') (hs : n' ≤ 150) : Torn m n' st0 rcs st low hi s extra := ⟨h.inv.mono (Nat.le_refl _) hn hs, h.up, h.sy, h.x⟩
/-- what the law of Torn does to a store -/
theorem So.Fine.torn (h : s.Fine 40 50 st0 rcs) (hd : s.log.down = false) :
    ∃ s1 s2 s3 s4 c2 c3 c4 extra, s.sync = (s1, 0) ∧ s1.inv 51 53 st0 rcs ∧ s1.log.down = false ∧ s1.st = s.st ∧ s1.promise s.st.promised = (s1, 0) ∧
      s1.accept 1 s.st.promised [97] = (s2, c2) ∧ s2.inv 51 53 st0 (rcs ++ c3) ∧ s2.log.down = false ∧ s2.st.slots.length < 1048575 ∧ s2.accept 50 s.st.promised [98] = (s3, c4) ∧ s3.log.down = false ∧
      (∃ x, s3.inv 51 53 st0 (rcs ++ x)) ∧ (∃ c, s3.promise (min (s.st.promised : Int) 1099511627775 + 1) = (s4, c)) ∧ s4.inv 51 53 st0 (rcs ++ extra) ∧ s4.log.down = false ∧ s4.sy = rcs.length ∧ s.st.promised ≤ s4.st.promised ∧
      ∀ i, Tor s.st s.st.promised s4.st.promised ((extra.take i).foldl Rc.play s.st) := by
  obtain ⟨s1, e1, i1, d1, y1, t1, _⟩ := h.inv.sync hd
  have hlim := (h.inv.st hd).1
  have hpr := hlim.ok.pr
  have h51 := i1.mono (m' := 51) (n' := 50) (by omega) (Nat.le_refl _) (by omega)
  have T1 : Torn 51 50 st0 rcs s.st s.st.promised (fun _ => True) s1 [] := ⟨by rw [List.append_nil]; exact h51, d1, y1, fun r hr => (by cases hr)⟩
  have p1 : s1.promise s.st.promised = (s1, 0) := by
    rcases h51.promise d1 (by omega) s.st.promised with ⟨e, hc⟩ | ⟨k, hk, hk2, _⟩
    · rcases hc with ⟨q, _⟩ | ⟨_, _, q⟩ | ⟨_, q⟩
      · rw [q] at e; exact e
      · rw [t1] at q; omega
      · exact (q ⟨by omega, by omega⟩).elim
    · rw [t1] at hk2; omega
  obtain ⟨s2, c2, x2, e2, T2⟩ : ∃ s2 c2 x2, s1.accept 1 s.st.promised [97] = (s2, c2) ∧ Torn 51 51 st0 rcs s.st s.st.promised (fun _ => True) s2 x2 := by
    rcases T1.inv.accept T1.up (by omega) 1 s.st.promised [97] (by decide) (by decide) with ⟨e, _⟩ | ⟨k, j, hk, hj, _, _, _, s', e, hp⟩
    · exact ⟨_, _, _, e, T1.mono (by omega) (by omega)⟩
    · exact ⟨_, _, _, e, T1.put hp (fun _ q => q) (fun _ _ => .inl ⟨by omega, by omega⟩)⟩
  obtain ⟨s3, c3, x3, e3, T3⟩ : ∃ s3 c3 x3, s2.accept 50 s.st.promised [98] = (s3, c3) ∧ Torn 51 52 st0 rcs s.st s.st.promised (fun _ => True) s3 x3 := by
    rcases T2.inv.accept T2.up (by omega) 50 s.st.promised [98] (by decide) (by decide) with ⟨e, _⟩ | ⟨k, j, hk, hj, _, _, _, s', e, hp⟩
    · exact ⟨_, _, _, e, T2.mono (by omega) (by omega)⟩
    · exact ⟨_, _, _, e, T2.put hp (fun _ q => q) (fun _ _ => .inr ⟨by omega, by omega, rfl⟩)⟩
  obtain ⟨s4, c4, x4, e4, T4⟩ : ∃ s4 c4 x4, s3.promise (min (s.st.promised : Int) 1099511627775 + 1) = (s4, c4) ∧ Torn 51 53 st0 rcs s.st s.st.promised (fun z => s4.st.promised ≤ z) s4 x4 := by
    rcases T3.inv.promise T3.up (by omega) (min (s.st.promised : Int) 1099511627775 + 1) with ⟨e, _⟩ | ⟨k, hk, _, _, s', e, hp⟩
    · exact ⟨_, _, _, e, (T3.mono (by omega) (by omega)).inv, T3.up, T3.sy, fun r hr z _ => T3.x r hr z trivial⟩
    · refine ⟨_, _, _, e, T3.put hp (fun _ _ => trivial) (fun z hz => ?_)⟩
      rw [hp.st] at hz
      have : max s3.st.promised k ≤ z := hz
      show k ≤ z
      omega
  have hst : (rcs ++ x4).foldl Rc.play st0 = x4.foldl Rc.play s.st := by rw [List.foldl_append, ← h.inv.up hd]
  have hfin : s4.st = x4.foldl Rc.play s.st := (T4.inv.up T4.up).trans hst
  have hmono : ∀ (l : List Rc) (t : St), t.promised ≤ (l.foldl Rc.play t).promised := by
    intro l
    induction l with
    | nil => exact fun t => Nat.le_refl _
    | cons r l ih =>
      intro t
      refine Nat.le_trans ?_ (ih _)
      cases r with
      | prom b => exact Nat.le_max_left _ _
      | acc k b v => exact Nat.le_max_left _ _
      | forget n => exact Nat.le_refl _
  have hle : s.st.promised ≤ s4.st.promised := by rw [hfin]; exact hmono _ _
  have hl2 := (T2.inv.st T2.up).2
  refine ⟨s1, s2, s3, s4, c2, x2, c3, x4, e1, h51.mono (Nat.le_refl _) (by omega) (by omega), d1, t1, p1, e2, T2.inv.mono (Nat.le_refl _) (by omega) (by omega), T2.up, by omega, e3, T3.up, ⟨x3, T3.inv.mono (Nat.le_refl _) (by omega) (by omega)⟩, ⟨c4, e4⟩, T4.inv, T4.up, T4.sy, hle, fun i => ?_⟩
  refine Tor.plays hle (fun p hp => ?_) _ ⟨Nat.le_refl _, hle, rfl, fun p hp => ⟨p.2, hp, Nat.le_refl _, fun _ => rfl⟩, fun y hy => ?_⟩ (fun r hr => T4.x r (List.mem_of_mem_take hr) _ (Nat.le_refl _))
  · have := hlim.slots p hp
    exact ⟨by omega, this.2.2⟩
  · have := (hlim.slots _ hy).1
    simp only at this
    omega
/-! what is forgotten -/
end

/-! lists that were filtered -/
theorem Rise.filter_none {α : Type} {l : List (Nat × α)} {k : Nat} (h : ∀ p ∈ l, k ≤ p.1) : l.filter (fun p => decide (p.1 < k)) = [] := by
  rw [List.filter_eq_nil_iff]
  intro p hp
  have := h p hp
  simp; omega
/-- what lies below k + 1 is what lies below k, and k -/
theorem Rise.filter_succ {α : Type} : ∀ {l : List (Nat × α)} (_ : Rise l) (k : Nat), l.filter (fun p => decide (p.1 < k + 1)) = l.filter (fun p => decide (p.1 < k)) ++ (match getN k l with | none => [] | some x => [(k, x)])
  | [], _, k => rfl
  | y :: r, h, k => by
    obtain ⟨h1, h2⟩ := List.pairwise_cons.1 h
    have ih := Rise.filter_succ h2 k
    rcases Nat.lt_trichotomy y.1 k with hk | hk | hk
    · have e : getN k (y :: r) = getN k r := by
        unfold getN
        rw [List.find?_cons_of_neg (by simp; omega)]
      rw [e, List.filter_cons_of_pos (by simp; omega), List.filter_cons_of_pos (by simp; omega), ih]
      rfl
    · have e : getN k (y :: r) = some y.2 := by
        unfold getN
        rw [List.find?_cons_of_pos (by simp; omega)]
        rfl
      rw [e, List.filter_cons_of_pos (by simp; omega), List.filter_cons_of_neg (by simp; omega), Rise.filter_none (fun p hp => by have := h1 p hp; omega), Rise.filter_none (fun p hp => by have := h1 p hp; omega)]
      subst hk
      rfl
    · have e : getN k (y :: r) = none := by
        unfold getN
        rw [List.find?_eq_none.2]
        · rfl
        · intro p hp
          rcases List.mem_cons.1 hp with rfl | hp
          · simp; omega
          · have := h1 p hp
            simp; omega
      rw [e, Rise.filter_none (fun p hp => ?_), Rise.filter_none (fun p hp => ?_)]
      · rfl
      · rcases List.mem_cons.1 hp with rfl | hp
        · omega
        · have := h1 p hp
          omega
      · rcases List.mem_cons.1 hp with rfl | hp
        · omega
        · have := h1 p hp
          omega
theorem top_facts (M : Slots) : (∀ p ∈ M, p.1 < So.top M) ∧ ∀ m, (∀ p ∈ M, p.1 < m) → So.top M ≤ m := by
  have key : ∀ (l : Slots) (a : Nat), a ≤ l.foldl (fun n p => max n (p.1 + 1)) a ∧ (∀ p ∈ l, p.1 < l.foldl (fun n p => max n (p.1 + 1)) a) ∧ ∀ m, a ≤ m → (∀ p ∈ l, p.1 < m) → l.foldl (fun n p => max n (p.1 + 1)) a ≤ m := by
    intro l
    induction l with
    | nil => exact fun a => ⟨Nat.le_refl _, fun p hp => (by cases hp), fun m h _ => h⟩
    | cons y r ih =>
      intro a
      obtain ⟨i1, i2, i3⟩ := ih (max a (y.1 + 1))
      simp only [List.foldl_cons]
      refine ⟨by omega, fun p hp => ?_, fun m hm hp => i3 m ?_ (fun p q => hp p (List.mem_cons_of_mem _ q))⟩
      · rcases List.mem_cons.1 hp with rfl | hp
        · omega
        · exact i2 p hp
      · have := hp y (List.mem_cons_self ..)
        omega
  obtain ⟨_, h2, h3⟩ := key M 0
  exact ⟨h2, fun m hm => h3 m (Nat.zero_le _) hm⟩
end Go.Proofs.YtediidajdpdeiaaGreatDoor

/- Lists of what a store's slots have, in memory (layer 8). -/
namespace Go.Proofs.YtediidajdpdeiaaGreatDoor
open Go.RowKit CrcM
set_option maxRecDepth 100000

abbrev TH8 : TypeId := 125
def Yes : Nat → Prop := fun _ => True

/-- the cells of what slots have -/
structure HeldRw [Hole] (w : World) (xs : List Value) (H : Slots) : Prop where
  len : xs.length = H.length * 3
  each : ∀ i p, H[i]? = some p → ∃ B cb, xs[i * 3]? = some (.int .i64 (p.1 : Int)) ∧ xs[i * 3 + 1]? = some (.int .i64 (p.2.ballot : Int)) ∧ xs[i * 3 + 2]? = some (.slice B p.2.value.length cb) ∧ p.2.value.length ≤ cb ∧ cb ≤ maxLen ∧ Own Any w B p.2.value
section
variable [Hole] {w w' : World} {xs : List Value} {H : Slots}
theorem HeldRw.nil (w : World) : HeldRw w [] [] := ⟨rfl, fun i p h => by simp at h⟩
theorem HeldRw.bk (h : HeldRw w xs H) (k : BK w w') : HeldRw w' xs H :=
  ⟨h.len, fun i p hp => by
    obtain ⟨B, cb, h1, h2, h3, h4, h5, h6⟩ := h.each i p hp
    exact ⟨B, cb, h1, h2, h3, h4, h5, h6.bk k⟩⟩
theorem HeldRw.snoc (h : HeldRw w xs H) {k : Nat} {x : Hd} {B : Option Addr} {cb : Nat} (h4 : x.value.length ≤ cb) (h5 : cb ≤ maxLen) (h6 : Own Any w B x.value) :
    HeldRw w (xs ++ [.int .i64 (k : Int), .int .i64 (x.ballot : Int), .slice B x.value.length cb]) (H ++ [(k, x)]) := by
  have hl := h.len
  refine ⟨by simp only [List.length_append, List.length_cons, List.length_nil]; omega, fun i p hp => ?_⟩
  rcases Nat.lt_or_ge i H.length with hi | hi
  · rw [List.getElem?_append_left hi] at hp
    obtain ⟨B', cb', q1, q2, q3, q4⟩ := h.each i p hp
    exact ⟨B', cb', by rw [List.getElem?_append_left (by omega)]; exact q1, by rw [List.getElem?_append_left (by omega)]; exact q2, by rw [List.getElem?_append_left (by omega)]; exact q3, q4⟩
  · rw [List.getElem?_append_right hi] at hp
    have hi2 : i = H.length := by
      have := (List.getElem?_eq_some_iff.1 hp).1
      simp only [List.length_singleton] at this
      omega
    subst hi2
    rw [Nat.sub_self] at hp
    injection hp with hp
    subst hp
    refine ⟨B, cb, ?_, ?_, ?_, h4, h5, h6⟩
    · rw [List.getElem?_append_right (by omega), hl, Nat.sub_self]; rfl
    · rw [List.getElem?_append_right (by omega), hl, show H.length * 3 + 1 - H.length * 3 = 1 by omega]; rfl
    · rw [List.getElem?_append_right (by omega), hl, show H.length * 3 + 2 - H.length * 3 = 2 by omega]; rfl
end

/-- a list of what slots have, in X -/
def HeldS [Hole] (X : Nat → Prop) (w : World) (A : Option Addr) (c : Nat) (H : Slots) : Prop := H.length ≤ c ∧ c ≤ maxLen ∧ ∃ xs, HeldRw w xs H ∧ ((A = none ∧ H = []) ∨ ∃ g o cur, A = some ⟨g, o, none⟩ ∧ X g ∧ w.heap[g]? = some (.cells cur TH8 (0, 0)) ∧ ∀ j u, xs[j]? = some u → cur[o + j]? = some u)
section
variable [Hole] {X X' : Nat → Prop} {w w' : World} {A : Option Addr} {c : Nat} {H : Slots}
theorem HeldS.xk (h : HeldS X w A c H) (k : XK X w w') (kb : BK w w') : HeldS X w' A c H := by
  obtain ⟨h1, h2, xs, h3, h4⟩ := h
  refine ⟨h1, h2, xs, h3.bk kb, h4.imp_right ?_⟩
  rintro ⟨g, o, cur, e, hg, hc, hj⟩
  exact ⟨g, o, cur, e, hg, (k g hg).trans hc, hj⟩
theorem HeldS.below (h : HeldS X w A c H) (hb : Below w.heap.size w w') : HeldS X w' A c H := by
  obtain ⟨h1, h2, xs, h3, h4⟩ := h
  refine ⟨h1, h2, xs, h3.bk (BK.below hb), h4.imp_right ?_⟩
  rintro ⟨g, o, cur, e, hg, hc, hj⟩
  exact ⟨g, o, cur, e, hg, (hb.block g (Array.getElem?_eq_some_iff.1 hc).1).trans hc, hj⟩
theorem HeldS.mono (h : HeldS X w A c H) (hs : ∀ x, X x → X' x) : HeldS X' w A c H := by
  obtain ⟨h1, h2, xs, h3, h4⟩ := h
  refine ⟨h1, h2, xs, h3, h4.imp_right ?_⟩
  rintro ⟨g, o, cur, e, hg, hc, hj⟩
  exact ⟨g, o, cur, e, hs g hg, hc, hj⟩
theorem HeldS.len (h : HeldS X w A c H) : H.length ≤ 9223372036854775807 := by
  have h1 := h.1
  have h2 := h.2.1
  unfold maxLen at h2
  omega
/-- one of them -/
theorem HeldS.at_ (h : HeldS X w A c H) {i : Nat} {p : Nat × Hd} (hi : H[i]? = some p) : ∃ g o B cb, A = some ⟨g, o, none⟩ ∧ g < w.heap.size ∧ w.cell? ⟨g, o + i * 3, none⟩ = some (.int .i64 (p.1 : Int)) ∧ w.cell? ⟨g, o + i * 3 + 1, none⟩ = some (.int .i64 (p.2.ballot : Int)) ∧
    w.cell? ⟨g, o + i * 3 + 2, none⟩ = some (.slice B p.2.value.length cb) ∧ p.2.value.length ≤ cb ∧ cb ≤ maxLen ∧ Own Any w B p.2.value := by
  obtain ⟨h1, h2, xs, h3, h4⟩ := h
  obtain ⟨B, cb, q1, q2, q3, q4, q5, q6⟩ := h3.each i p hi
  rcases h4 with ⟨_, rfl⟩ | ⟨g, o, cur, rfl, hg, hc, hj⟩
  · simp at hi
  · have key : ∀ j u, xs[j]? = some u → w.cell? ⟨g, o + j, none⟩ = some u := fun j u hu => by
      simp only [World.cell?, hc]
      have := hj j u hu
      simpa using this
    exact ⟨g, o, B, cb, rfl, (Array.getElem?_eq_some_iff.1 hc).1, key _ _ q1, by have := key _ _ q2; rwa [← Nat.add_assoc] at this, by have := key _ _ q3; rwa [← Nat.add_assoc] at this, q4, q5, q6⟩
omit [Hole] in
/-- the string of a value -/
theorem HeldS.str {S : Nat → Prop} {B : Option Addr} {v : List UInt8} (h : Own S w B v) (cb : Nat) : (convert 30 9 (.slice B v.length cb)).run Tryz.prog w = .ok (.string ⟨v.toArray⟩) w := run_str (h.rd Non) cb
end
/-- a row of one's own is such a list -/
theorem HeldS.of_own [Hole] {base n : Nat} {w : World} {v : Value} {xs : List Value} {H : Slots} (h : w.ownsRow base TH8 3 v n xs) (hv : HeldRw w xs H) : ∃ A c, v = .slice A H.length c ∧ HeldS (fun x => base ≤ x) w A c H := by
  have hl : xs.length = n * 3 := h.1
  have hn : n = H.length := by have := hv.len; omega
  subst hn
  rcases h.2 with ⟨rfl, h0⟩ | ⟨g, cap, cur, rfl, hb, hg, hnc, hm, hs, ht⟩
  · have : H = [] := List.eq_nil_of_length_eq_zero h0
    subst this
    exact ⟨none, 0, rfl, Nat.le_refl _, Nat.zero_le _, xs, hv, .inl ⟨rfl, rfl⟩⟩
  · refine ⟨_, cap, rfl, hnc, hm, xs, hv, .inr ⟨g, 0, cur, rfl, hb, hg, fun j u hu => ?_⟩⟩
    have hlt := (List.getElem?_eq_some_iff.1 hu).1
    rw [← ht, List.getElem?_take_of_lt (by omega)] at hu
    simpa using hu

/-- what an append onto a row of one's own leaves, elements of three cells -/
theorem wpList_app3 {P : Program} {w : World} {ops : Array Oper} {rest : List Oper} {o : Oper} {a : Act} {Q : Exit → Act → World → Prop} (hgd : o.guard = none) (s x : Operand) (t : TypeId)
    (ho : o.op = .call { callee := .builtin .append, args := #[s, x], argTypes := #[t, t] })
    (e : TypeId) (i : TypeInfo) (z : Value) (bytes : Nat) (ht : P.underlying t = some (.slice e)) (hi : P.info? e = some i) (hz : i.zero = some z) (hsize : i.size = 3) (hby : i.bytes = bytes) (hzs : z.cells.size = 3)
    (base : Nat) (v : Value) (n : Nat) (xs : List Value) (hs : a.eval s = v) (hown : w.ownsRow base e 3 v n xs)
    (A : Option Addr) (m c : Nat) (news : List Value) (hx : a.eval x = .slice A m c) (hl : news.length = m * 3) (hr : ∀ j u, news[j]? = some u → ∃ ad, A = some ad ∧ w.cell? (ad.add j) = some u) (h1 : ∀ u ∈ news, u.oneCell' = true)
    (h63 : n + m ≤ maxLen) (hbytes : (n + m) * bytes ≤ 140737488355328) (hbase : base ≤ w.heap.size)
    (h : ∀ v' w', w'.ownsRow base e 3 v' (n + m) (xs ++ news) → w.grownBy w' v.ownBlock → (v'.ownBlock = v.ownBlock ∨ v'.ownBlock = some w.heap.size) → wpList P ops Q rest (a.put o.dst v') w') :
    wpList P ops Q (o :: rest) a w := by
  obtain ⟨v', w', hrun, h2, h3, h5⟩ := run_append_rd (P := P) (w := w) base t o.type e i z 3 bytes ht hi hz hsize hby hzs (by omega) v n xs hown A m c news hl hr h1 h63 hbytes hbase
  exact wpList_ran hgd (run_builtin2 .append s x t t Builtin.append_ ho hs hx (fun _ _ => rfl) hrun) (h v' w' h2 h3 h5)
end Go.Proofs.YtediidajdpdeiaaGreatDoor

/- The laws' own helper 'has' (layer 8): the walk. -/
namespace Go.Proofs.YtediidajdpdeiaaGreatDoor
open Go.RowKit CrcM
set_option maxRecDepth 100000

theorem info_h8 : (Tryz.prog.info? TH8).map (fun i => (i.zero, i.size, i.bytes)) = some (some (.agg #[.int .i64 0, .int .i64 0, .slice none 0 0]), 3, 40) := by kernel_rfl
theorem BK.grownI {w w' : World} {row : Option Nat} (hg : w.grownBy w' row) (hr : ∀ j, row = some j → ¬ IsB w j) : BK w w' := fun b hb => hg.block b hb.lt fun e => hr b e.symm hb
theorem three_new (w : World) (a b c : Value) (t : TypeId) : ∀ j x, ([a, b, c] : List Value)[j]? = some x → ∃ ad, (some ⟨w.heap.size, 0, none⟩ : Option Addr) = some ad ∧ (w.alloc (.cells #[a, b, c] t)).cell? (ad.add j) = some x := by
  intro j x hx
  have hB := Blk.new w t #[a, b, c]
  refine ⟨_, rfl, ?_⟩
  rw [add_mk, Nat.zero_add]
  match j, hx with
  | 0, hx => exact hB.cell 0 (by simpa using hx)
  | 1, hx => exact hB.cell 1 (by simpa using hx)
  | 2, hx => exact hB.cell 2 (by simpa using hx)
  | j + 3, hx => simp at hx

/-- WHAT has leaves -/
def HasDid (W w : World) (b : Nat) (s : So) (X : Nat → Prop) (e : Ending) (w' : World) : Prop := ∃ A c, e = .returned (.slice A s.st.slots.length c) ∧ HeldS (Up X w w') w' A c s.st.slots ∧ LiveS W w' b s (Up X w w') ∧ Below w.heap.size w w'

set_option maxHeartbeats 1000000 in
theorem has_S {W w : World} {b : Nat} {s : So} {X : Nat → Prop} {m : Nat} (h : LiveS W w b s X) (hl : s.st.lim m) (hm : m ≤ 5000) (hfew : s.st.slots.length ≤ 1048575) (hu : s.log.down = false) :
    Calls Tryz.prog 20 #[.pointer (some ⟨b, 0, none⟩)] w (HasDid W w b s X) := by
  obtain ⟨i3, hi3, hz3, hs3, hb3⟩ := info_parts info_h8
  have htop := (top_facts s.st.slots).1
  have htop2 := (top_facts s.st.slots).2 m (fun p hp => (hl.slots p hp).1)
  have hrise := hl.ok.rise
  have hval : ∀ p ∈ s.st.slots, p.2.ballot ≤ 1099511627776 := fun p hp => (hl.ok.all p hp).2.1
  have hS0 := fun (w' : World) (hL : LiveS W w' b s X) => slots_S hL hu
  obtain ⟨n, hn⟩ : ∃ n, n = So.top s.st.slots := ⟨_, rfl⟩
  rw [← hn] at htop htop2 hS0
  have HT := Lib.hid htop
  have HV := Lib.hid hval
  have n5 : n ≤ 5000 := by omega
  clear htop htop2 hn hl hval
  go_enter Tryz.func20, Tryz.ntmps20
  go_wp2
  go_loopw [3, 4] (fun v i wr => ∃ (k : Nat) (xs : List Value) (H : Slots), k ≤ n ∧ i = .int .i64 (k : Int) ∧ Hid (H = s.st.slots.filter (fun p => decide (p.1 < k))) ∧ wr.ownsRow w.heap.size TH8 3 v H.length xs ∧ HeldRw wr xs H ∧ H.length ≤ 1048575 ∧ Below w.heap.size w wr) (fun _ i _ => n - (intOf i).toNat)
  case atStart => exact ⟨0, [], [], Nat.zero_le _, rfl, Lib.hid (Rise.filter_none (fun p _ => Nat.zero_le _)).symm, ⟨rfl, .inl ⟨rfl, rfl⟩⟩, HeldRw.nil _, Nat.zero_le _, Below.refl _ _⟩
  case round =>
    obtain ⟨k, xs, H, hk, rfl, hH, hrow, hv, hHl, hb9⟩ := hrel
    have hL := h.mono' hb9
    have hS := hS0 _ hL
    clear hS0
    by_cases hlt : k < n
    · have hlt' : (k : Int) < (n : Int) := by omega
      have h5 : (k : Int) < 5000 := by omega
      have hstep := Rise.filter_succ hrise k
      cases hg : getN k s.st.slots with
      | none =>
        rw [hg] at hstep
        simp only [List.append_nil] at hstep
        have HS := Lib.hid hstep
        have HG := Lib.hid hg
        clear hstep hg
        go_wp2_with (first
          | (go_at_call 15; refine hS.mono ?_; rintro e w1 ⟨rfl, hb1⟩; have hG := get_S (hL.mono' hb1) hu k (by omega); rw [HG.out] at hG; unfold GetDid at hG; simp only [Option.getD_none, Option.isSome_none, List.length_nil] at hG; clear hS)
          | (go_at_call 77; refine hG.mono ?_; rintro e w2 ⟨A2, c2, rfl, ho2, hc2, hm2, hb2⟩; clear hG))
        go_roundw
        case rel => exact ⟨k + 1, xs, H, by omega, by go_num, Lib.hid (by rw [HS.out]; exact hH.out), ownsRow_below (ownsRow_below hrow (hb1.mono (Nat.le_refl _))) hb2, (hv.bk (BK.below hb1)).bk (BK.below hb2), hHl, (hb9.trans (hb1.mono hb9.size)).trans (hb2.mono (Nat.le_trans hb9.size hb1.size))⟩
        case measure => simp [intOf]; omega
      | some x =>
        rw [hg] at hstep
        simp only at hstep
        have hlen : H.length + 1 ≤ 1048575 := by
          have h1 := List.length_filter_le (fun p : Nat × Hd => decide (p.1 < k + 1)) s.st.slots
          rw [hstep, ← hH.out, List.length_append, List.length_singleton] at h1
          omega
        have hxb := HV.out _ (getN_some hg)
        obtain ⟨A0, c0, rfl, hc0, hm0⟩ := own_val hrow
        have HS := Lib.hid hstep
        have HG := Lib.hid hg
        have HX := Lib.hid hxb
        have HL := Lib.hid hlen
        clear hstep hg hlen hxb
        obtain ⟨bl, vl⟩ := x
        go_wp2_with (first
          | (go_at_call 15; refine hS.mono ?_; rintro e w1 ⟨rfl, hb1⟩; have hG := get_S (hL.mono' hb1) hu k (by omega); rw [HG.out] at hG; unfold GetDid at hG; simp only [Option.getD_some, Option.isSome_some] at hG; clear hS)
          | (go_at_call 77; refine hG.mono ?_; rintro e w2 ⟨A2, c2, rfl, ho2, hc2, hm2, hb2⟩; have hb12 : Below w.heap.size w w2 := (hb9.trans (hb1.mono hb9.size)).trans (hb2.mono (Nat.le_trans hb9.size hb1.size)); have hrow2 := ownsRow_below (ownsRow_below hrow hb1) hb2; have hv2 := (hv.bk (BK.below hb1)).bk (BK.below hb2); clear hG hb2 hb1)
          | (at_builtin
             refine wpList_app3 rfl (.tmp 26) (.tmp 31) 42 rfl TH8 i3 _ 40 Tryz.underlying42 hi3 hz3 hs3 hb3 rfl w.heap.size (.slice A0 H.length c0) H.length xs rfl (ownsRow_below hrow2 (below_new _ _)) (some ⟨w2.heap.size, 0, none⟩) 1 1 [.int .i64 (k : Int), .int .i64 (bl : Int), .slice A2 vl.length c2] rfl rfl (three_new w2 _ _ _ _) (by intro u hu; simp only [List.mem_cons, List.not_mem_nil, or_false] at hu; rcases hu with rfl | rfl | rfl <;> rfl) (by have := HL.out; unfold maxLen; omega) (by have := HL.out; omega) (Nat.le_trans hb12.size (below_new w2 _).size) ?_
             intro v5 w5 hrow5 hg5 ha5
             obtain ⟨A5, c5, rfl, hc5, hm5⟩ := own_val hrow5
             have hv5 := (((hv2.bk (BK.below (below_new w2 (.cells #[.int .i64 (k : Int), .int .i64 (bl : Int), .slice A2 vl.length c2] TH8)))).bk (BK.grownI hg5 (row_notB (ownsRow_below hrow2 (below_new _ _)) (by decide)))).snoc (k := k) (x := ⟨bl, vl⟩) hc2 hm2 ((((ho2.mono (S' := Yes) (fun _ _ => trivial)).bk (BK.below (below_new w2 (.cells #[.int .i64 (k : Int), .int .i64 (bl : Int), .slice A2 vl.length c2] TH8)))).bk (BK.grownI hg5 (row_notB (ownsRow_below hrow2 (below_new _ _)) (by decide))))))
             have hb5 : Below w.heap.size w w5 := (hb12.alloc hb12.size (.cells #[.int .i64 (k : Int), .int .i64 (bl : Int), .slice A2 vl.length c2] TH8)).grown hg5 (by have := hb12.size; simp; omega) (fun j hj => (hrow2.lt j hj).1)
             clear ha5 hg5))
        go_roundw
        case rel => exact ⟨k + 1, _, H ++ [(k, ⟨bl, vl⟩)], by omega, by go_num, Lib.hid (by rw [HS.out, ← hH.out]), by rw [List.length_append]; exact hrow5, hv5, by rw [List.length_append]; exact HL.out, hb5⟩
        case measure => simp [intOf]; omega
    · obtain rfl : k = n := by omega
      have hall : H = s.st.slots := by
        rw [hH.out, List.filter_eq_self]
        intro p hp
        exact decide_eq_true (HT.out p hp)
      subst hall
      obtain ⟨A9, c9, rfl, hh9⟩ := HeldS.of_own hrow hv
      clear hH hrow hv
      go_wp2_with (first
        | (go_at_call 15; refine hS.mono ?_; rintro e w1 ⟨rfl, hb1⟩; clear hS))
      go_ret
      have hbb := hb9.trans (hb1.mono hb9.size)
      have h9 := hh9.below hb1
      refine ⟨A9, c9, rfl, ?_, h.mono hbb, hbb⟩
      obtain ⟨q1, q2, ys, q3, q4⟩ := h9
      refine ⟨q1, q2, ys, q3, q4.imp_right ?_⟩
      rintro ⟨g, o, cur, e, hg, hc, hj⟩
      exact ⟨g, o, cur, e, .inr ⟨hg, (Array.getElem?_eq_some_iff.1 hc).1⟩, hc, hj⟩
end Go.Proofs.YtediidajdpdeiaaGreatDoor

/- The document's store (layer 8), in plain words: its list of slots. -/
namespace Go.Proofs.YtediidajdpdeiaaGreatDoor
open CrcM

section
variable {α : Type} {k : Nat} {x : α}
theorem ins_end : ∀ {l : List (Nat × α)}, (∀ p ∈ l, ¬ k < p.1) → insN (k, x) l = l ++ [(k, x)]
  | [], _ => rfl
  | y :: r, h => by
    unfold insN
    rw [if_neg (h y (List.mem_cons_self ..)), ins_end (fun p hp => h p (List.mem_cons_of_mem _ hp))]
    rfl
theorem ins_snoc {y : Nat × α} : ∀ {l : List (Nat × α)}, (∃ p ∈ l, k < p.1) → insN (k, x) (l ++ [y]) = insN (k, x) l ++ [y]
  | [], h => by
    obtain ⟨p, hp, _⟩ := h
    cases hp
  | z :: r, h => by
    rw [List.cons_append]
    unfold insN
    by_cases hz : k < z.1
    · rw [if_pos hz, if_pos hz]
      rfl
    · rw [if_neg hz, if_neg hz, ins_snoc]
      · rfl
      · obtain ⟨p, hp, hk⟩ := h
        rcases List.mem_cons.1 hp with rfl | hp
        · exact (hz hk).elim
        · exact ⟨p, hp, hk⟩
theorem ins_mid {y : Nat × α} (hy : k < y.1) : ∀ {l : List (Nat × α)}, (∀ p ∈ l, ¬ k < p.1) → insN (k, x) (l ++ [y]) = l ++ [(k, x), y]
  | [], _ => by
    rw [List.nil_append]
    unfold insN
    rw [if_pos hy]
    rfl
  | z :: r, h => by
    rw [List.cons_append]
    unfold insN
    rw [if_neg (h z (List.mem_cons_self ..)), ins_mid hy (fun p hp => h p (List.mem_cons_of_mem _ hp))]
    rfl
theorem del_snoc (l : List (Nat × α)) (y : Nat × α) : delN k (l ++ [y]) = delN k l ++ (if y.1 = k then [] else [y]) := by
  unfold delN
  rw [List.filter_append]
  by_cases h : y.1 = k
  · simp [h]
  · simp [h]
theorem del_same {l : List (Nat × α)} (h : ∀ p ∈ l, p.1 ≠ k) : delN k l = l := by
  unfold delN
  rw [List.filter_eq_self]
  intro p hp
  exact decide_eq_true (h p hp)
/-- where a slot goes: behind all that are below it -/
theorem put_end {l : List (Nat × α)} (h : ∀ p ∈ l, p.1 < k) : putN k x l = l ++ [(k, x)] := by
  unfold putN
  rw [del_same (fun p hp => by have := h p hp; omega), ins_end (fun p hp => by have := h p hp; omega)]
theorem put_eq {l : List (Nat × α)} (h : ∀ p ∈ l, p.1 < k) (y : Nat × α) (hy : y.1 = k) : putN k x (l ++ [y]) = l ++ [(k, x)] := by
  unfold putN
  rw [del_snoc, if_pos hy, List.append_nil, del_same (fun p hp => by have := h p hp; omega), ins_end (fun p hp => by have := h p hp; omega)]
theorem put_gt {l : List (Nat × α)} (h : ∀ p ∈ l, p.1 < k) (y : Nat × α) (hy : k < y.1) : putN k x (l ++ [y]) = l ++ [(k, x)] ++ [y] := by
  unfold putN
  rw [del_snoc, if_neg (by omega), del_same (fun p hp => by have := h p hp; omega), ins_mid hy (fun p hp => by have := h p hp; omega), List.append_assoc]
  rfl
theorem put_more {l : List (Nat × α)} (h : ∃ p ∈ l, k ≤ p.1) (y : Nat × α) (hy : k < y.1) : putN k x (l ++ [y]) = putN k x l ++ [y] := by
  unfold putN
  rw [del_snoc, if_neg (by omega)]
  by_cases hg : ∃ p ∈ delN k l, k < p.1
  · exact ins_snoc hg
  · have hn : ∀ p ∈ delN k l, ¬ k < p.1 := fun p hp hk => hg ⟨p, hp, hk⟩
    rw [ins_mid hy hn, ins_end hn, List.append_assoc]
    rfl
theorem Rise.snoc_lt {l : List (Nat × α)} {y : Nat × α} (h : Rise (l ++ [y])) : ∀ p ∈ l, p.1 < y.1 := fun p hp => (List.pairwise_append.1 h).2.2 p hp y (List.mem_singleton.2 rfl)
theorem Rise.take {l : List (Nat × α)} (h : Rise l) (n : Nat) : Rise (l.take n) := h.sublist (List.take_sublist n l)
end
/-- how far Put is: before its slot, or behind it -/
def Putting (k : Nat) (x : Hd) (l : Slots) (done : Bool) (out : Slots) : Prop := (done = false ∧ (∀ p ∈ l, p.1 < k) ∧ out = l) ∨ (done = true ∧ (∃ p ∈ l, k ≤ p.1) ∧ out = putN k x l)
section
variable {k : Nat} {x : Hd} {l out : Slots} {y : Nat × Hd}
theorem Putting.start (k : Nat) (x : Hd) : Putting k x [] false [] := .inl ⟨rfl, fun p hp => (by cases hp), rfl⟩
theorem Putting.below (h : Putting k x l false out) (hy : y.1 < k) : Putting k x (l ++ [y]) false (out ++ [y]) := by
  rcases h with ⟨_, h1, rfl⟩ | ⟨h, _⟩
  · refine .inl ⟨rfl, fun p hp => ?_, rfl⟩
    rcases List.mem_append.1 hp with hp | hp
    · exact h1 p hp
    · obtain rfl := List.mem_singleton.1 hp
      exact hy
  · cases h
theorem Putting.same (h : Putting k x l false out) (hy : y.1 = k) : Putting k x (l ++ [y]) true (out ++ [(k, x)]) := by
  rcases h with ⟨_, h1, rfl⟩ | ⟨h, _⟩
  · exact .inr ⟨rfl, ⟨y, List.mem_append_right _ (List.mem_singleton.2 rfl), by omega⟩, (put_eq h1 y hy).symm⟩
  · cases h
theorem Putting.above (h : Putting k x l false out) (hy : k < y.1) : Putting k x (l ++ [y]) true (out ++ [(k, x)] ++ [y]) := by
  rcases h with ⟨_, h1, rfl⟩ | ⟨h, _⟩
  · exact .inr ⟨rfl, ⟨y, List.mem_append_right _ (List.mem_singleton.2 rfl), by omega⟩, (put_gt h1 y hy).symm⟩
  · cases h
theorem Putting.more (h : Putting k x l true out) (hr : Rise (l ++ [y])) : k < y.1 ∧ Putting k x (l ++ [y]) true (out ++ [y]) := by
  rcases h with ⟨h, _⟩ | ⟨_, ⟨p, hp, hk⟩, rfl⟩
  · cases h
  · have hy : k < y.1 := by have := hr.snoc_lt p hp; omega
    exact ⟨hy, .inr ⟨rfl, ⟨p, List.mem_append_left _ hp, hk⟩, (put_more ⟨p, hp, hk⟩ y hy).symm⟩⟩
theorem Putting.notDone (h : Putting k x l false out) : out ++ [(k, x)] = putN k x l := by
  rcases h with ⟨_, h1, rfl⟩ | ⟨h, _⟩
  · exact (put_end h1).symm
  · cases h
theorem Putting.isDone (h : Putting k x l true out) : out = putN k x l := by
  rcases h with ⟨h, _⟩ | ⟨_, _, h⟩
  · cases h
  · exact h
theorem Putting.len {d : Bool} (h : Putting k x l d out) : out.length ≤ l.length + 1 := by
  rcases h with ⟨_, _, rfl⟩ | ⟨_, _, rfl⟩
  · omega
  · exact length_putN k x l
end
end Go.Proofs.YtediidajdpdeiaaGreatDoor
