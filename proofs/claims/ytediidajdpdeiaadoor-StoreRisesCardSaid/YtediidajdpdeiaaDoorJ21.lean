/- A store's Forget (layer 8): the walk. -/
import Derived.Test.YtediidajdpdeiaaDoorJ13
import Derived.Test.YtediidajdpdeiaaDoorJ7
import Derived.Test.YtediidajdpdeiaaDoorJ16
import Derived.Test.YtediidajdpdeiaaDoorJ19
import Derived.Test.YtediidajdpdeiaaDoorJ20
import Derived.Test.YtediidajdpdeiaaDoorJ12
import Derived.Test.YtediidajdpdeiaaDoorJ18

namespace Go.Proofs.YtediidajdpdeiaaDoor
open Go.RowKit CrcM
set_option maxRecDepth 100000

section
variable {S S1 S2 : Nat → Prop} {w w' : World} {b lb db mb : Nat} {s : So}
theorem forgetS (h : SoO S S1 S2 w b lb db mb s) (hh : HalfAt w) (hlen : s.log.len ≤ 4611686018427387904) (n : Int) :
    Calls Tryd.prog 70 #[.pointer (some ⟨b, 0, none⟩), .int .i64 n] w (SoDid S w (.pointer (some ⟨b, 0, none⟩)) (s.forget n)) := by
  have hb1 := below_new w (.cells #[.int .i64 n] TIn)
  have h1 := h.below hb1
  obtain ⟨c0, c1, c2, c3, c4, c5, z1, z3, z4⟩ := h1.facts
  have ha := askedS h1 (some ⟨w.heap.size, 0, none⟩) [n] 1 (fun j m hj => ⟨_, _, rfl, int_cells (xs := [n]) j m hj⟩) (by simp)
  rw [List.length_singleton, ask1] at ha
  have hpr := h.ok.pr
  cases hdn : s.log.down
  · rw [hdn] at ha
    by_cases hn : numOk n
    · have hn' := hn
      unfold numOk at hn'
      obtain ⟨k, rfl⟩ : ∃ k : Nat, n = k := ⟨n.toNat, by omega⟩
      simp only [Bool.false_eq_true, if_false, if_pos hn] at ha
      by_cases h2 : (k : Int) ≤ (s.st.base : Int)
      · have HE := Lib.hid (show s.forget k = (s, 0) from by unfold So.forget; rw [hdn, if_neg (by simp), if_neg (by simpa using hn), if_pos h2])
        clear hdn hn
        go_enter Tryd.func70, Tryd.ntmps70
        go_wp2_with (go_at_call 106; refine ha.mono ?_; rintro e w' ⟨rfl, rfl⟩)
        go_ret
        rw [HE.out]
        exact h.did hb1 0
      · have he : s.forget k = s.put (Rc.forget k).enc (s.st.rise k) := by
          unfold So.forget
          rw [hdn, if_neg (by simp), if_neg (by simpa using hn), if_neg h2, Int.toNat_natCast]
        have hb2 := below_new (w.alloc (.cells #[.int .i64 (k : Int)] TIn)) (.cells #[.int .u8 3] TB)
        have h2w := h1.below hb2
        have hO : Own Ever ((w.alloc (.cells #[.int .i64 (k : Int)] TIn)).alloc (.cells #[.int .u8 3] TB)) (some ⟨w.heap.size + 1, 0, none⟩) [3] := by
          have := Own.of_cells Ever (heap_alloc_new (w.alloc (.cells #[.int .i64 (k : Int)] TIn)) (.cells #[.int .u8 3] TB)) (l := [3]) trivial rfl
          simpa using this
        have hbw := hb1.trans (hb2.mono hb1.size)
        have hhw := hh.below hbw hh.lt
        obtain ⟨rec, hrec⟩ : ∃ r, [3] ++ numB k = r := ⟨_, rfl⟩
        have henc : (Rc.forget k).enc = rec := hrec
        have hrl : rec.length ≤ 11 := by have := numB_10 (n := k) (by omega); rw [← hrec, List.length_append]; simp; omega
        have hnum := Num_B ((w.alloc (.cells #[.int .i64 (k : Int)] TIn)).alloc (.cells #[.int .u8 3] TB)) ((w.alloc (.cells #[.int .i64 (k : Int)] TIn)).alloc (.cells #[.int .u8 3] TB)) (Below.refl _ _) (some ⟨w.heap.size + 1, 0, none⟩) 1 [3] (hO.rd Non) (by simp) k (by omega)
        rw [hrec] at hnum
        rw [henc] at he
        rw [List.length_singleton] at hnum
        have HL := Lib.hid hlen
        clear hdn hn hrec henc hlen
        by_cases hc : (s.log.append rec).2.2 = 0
        · have HE := Lib.hid (show s.forget k = (⟨s.per, (s.log.append rec).1, s.snap, s.st.rise k⟩, 0) from by rw [he]; unfold So.put; rw [if_pos hc])
          have HC := Lib.hid hc
          clear he hc
          go_enter Tryd.func70, Tryd.ntmps70
          go_wp2_with (first
            | (go_at_call 106; refine ha.mono ?_; rintro e w' ⟨rfl, rfl⟩)
            | (go_at_call 107; refine hnum.mono ?_; rintro e w3 ⟨v3, rfl, ho3, hb3⟩; obtain ⟨A3, c3, rfl, hc3, hm3⟩ := own_val ho3; have hO3 : Own Ever w3 A3 rec := (Own.of_row ho3 rfl).mono (fun _ _ => trivial); have h3w := h2w.below hb3; obtain ⟨d0, d1, d2, d3, d4, d5, -, -, -⟩ := h3w.facts; have hap := h3w.append (hhw.below hb3 hhw.lt) HL.out A3 rec c3 hO3 (by omega); rw [HC.out] at hap)
            | (go_at_call 35; refine hap.mono ?_; rintro e w4 ⟨rfl, h4, hf4⟩; have hri := riseS h4 k (by omega))
            | (go_at_call 110; refine hri.mono ?_; rintro e w5 ⟨rfl, h5, f5⟩; replace f5 := f5.mono (S' := Up S w3 w4) (fun x _ e => e.elim (fun e => e ▸ h4.hb) (fun e => e ▸ h4.hm))))
          go_ret
          rw [HE.out]
          exact SoDid.from (hbw.trans (hb3.mono hbw.size)) h.lt ⟨rfl, h5.is.up2 hf4.size f5.size (fun x hx => Nat.lt_of_lt_of_le (h.lt x hx) (hbw.trans (hb3.mono hbw.size)).size), Up.fr2 hf4 f5⟩
        · have HE := Lib.hid (show s.forget k = (⟨s.per, (s.log.append rec).1, s.snap, s.st⟩, (s.log.append rec).2.2) from by rw [he]; unfold So.put; rw [if_neg hc])
          have hc' : ((s.log.append rec).2.2 != 0) = true := by simpa using hc
          clear he hc
          go_enter Tryd.func70, Tryd.ntmps70
          go_wp2_with (first
            | (go_at_call 106; refine ha.mono ?_; rintro e w' ⟨rfl, rfl⟩)
            | (go_at_call 107; refine hnum.mono ?_; rintro e w3 ⟨v3, rfl, ho3, hb3⟩; obtain ⟨A3, c3, rfl, hc3, hm3⟩ := own_val ho3; have hO3 : Own Ever w3 A3 rec := (Own.of_row ho3 rfl).mono (fun _ _ => trivial); have h3w := h2w.below hb3; obtain ⟨d0, d1, d2, d3, d4, d5, -, -, -⟩ := h3w.facts; have hap := h3w.append (hhw.below hb3 hhw.lt) HL.out A3 rec c3 hO3 (by omega))
            | (go_at_call 35; refine hap.mono ?_; rintro e w4 ⟨rfl, h4, hf4⟩))
          go_ret
          rw [HE.out]
          exact SoDid.from (hbw.trans (hb3.mono hbw.size)) h.lt ⟨rfl, h4.is, hf4⟩
    · have HE := Lib.hid (show s.forget n = (s, 2) from by unfold So.forget; rw [hdn, if_neg (by simp), if_pos hn])
      simp only [Bool.false_eq_true, if_false, if_neg hn] at ha
      clear hdn hn
      go_enter Tryd.func70, Tryd.ntmps70
      go_wp2_with (go_at_call 106; refine ha.mono ?_; rintro e w' ⟨rfl, rfl⟩)
      go_ret
      rw [HE.out]
      exact h.did hb1 2
  · have HE := Lib.hid (show s.forget n = (s, 10) from by unfold So.forget; rw [hdn, if_pos rfl])
    rw [hdn] at ha
    simp only [if_true] at ha
    clear hdn
    go_enter Tryd.func70, Tryd.ntmps70
    go_wp2_with (go_at_call 106; refine ha.mono ?_; rintro e w' ⟨rfl, rfl⟩)
    go_ret
    rw [HE.out]
    exact h.did hb1 10
end
end Go.Proofs.YtediidajdpdeiaaDoor

/- The log's Copy (layer 7): the walk. -/
namespace Go.Proofs.YtediidajdpdeiaaDoor
open Go.RowKit CrcM
set_option maxRecDepth 100000

theorem ownsBs_none (w : World) : (w.alloc (.cells #[] TBs)).ownsRow w.heap.size TBs 1 (.slice (some ⟨w.heap.size, 0, none⟩) 0 0) 0 [] :=
  World.ownsRow_made w #[] 0 (Nat.le_refl _) (by simp [maxLen]) (by simp)

/-- WHAT a clone of a row of records leaves -/
def ClonedR (w : World) (vals : List Value) (e : Ending) (w' : World) : Prop := ∃ R c, e = .returned (.slice R vals.length c) ∧ Row (Nw w w') w' TBs (.slice R vals.length c) vals ∧ Below w.heap.size w w'
theorem cloneRow_B {S : Nat → Prop} {w : World} {R : Option Addr} {n c : Nat} {vals : List Value} (hn : n = vals.length) (hr : Row S w TBs (.slice R n c) vals) (h1 : ∀ u ∈ vals, u.oneCell' = true) (hl : n ≤ 349525) :
    Calls Tryd.prog 95 #[.slice R n c] w (ClonedR w vals) := by
  obtain ⟨ib, hib, hzb, hsb, hbb⟩ := info_parts info_bs
  subst hn
  rcases R with _ | ad
  · have hv : vals = [] ∧ c = 0 := by
      rcases hr with ⟨h, rfl⟩ | ⟨g, o, c', cur, h, -⟩
      · injection h with _ _ h
        exact ⟨rfl, h⟩
      · injection h with h
        cases h
    obtain ⟨rfl, rfl⟩ := hv
    have hnil := fun (w : World) => Lib.run_eql_slice_nil w (P := Tryd.prog) 45 TBs none 0 0 0 0 Tryd.underlying45
    go_enter Tryd.func95, Tryd.ntmps95
    go_wp2
    go_ret
    exact ⟨none, 0, rfl, Row.nil _ _ _, Below.refl _ _⟩
  · have hnil := fun (w : World) => Lib.run_eql_slice_nil w (P := Tryd.prog) 45 TBs (some ad) vals.length c 0 0 Tryd.underlying45
    have hb0 := below_new w (.cells #[] TBs)
    have hr0 := hr.below hb0
    go_enter Tryd.func95, Tryd.ntmps95
    go_wp2_with (at_builtin; refine wpList_append_rd rfl (.tmp 5) (.tmp 6) 45 rfl TBs ib _ 24 Tryd.underlying45 hib hzb hsb hbb rfl w.heap.size _ 0 [] rfl (ownsBs_none w) _ (some ad) vals.length c vals rfl rfl hr0 h1 (by unfold maxLen; omega) (by omega) hb0.size ?_; intro v1 w1 ho1 hg1; rw [Nat.zero_add, List.nil_append] at ho1; obtain ⟨A1, c1, rfl, hc1, hm1⟩ := own_val ho1)
    go_ret
    have hb1 : Below w.heap.size w w1 := hb0.grown hg1 hb0.size (fun j hj => by injection hj with hj; subst hj; exact Nat.le_refl _)
    exact ⟨A1, c1, rfl, (Row.of_own ho1 (S := fun x => w.heap.size ≤ x) (fun g hg => own_grown ho1 hg)).mono (fun x hx hs => ⟨hs, hx⟩), hb1⟩

section
variable {S H : Nat → Prop} {w : World} {b : Nat} {A : Option Addr} {c : Nat} {ps : List Nat} {L : Lg}
/-- WHAT Copy leaves -/
def CopyDid (w : World) (L : Lg) (e : Ending) (w' : World) : Prop := ∃ b', e = .returned (.pointer (some ⟨b', 0, none⟩)) ∧ LogAt (Nw w w') w' b' L ∧ Below w.heap.size w w'
theorem copyL (h : LogO S H w b A c ps L) (hu : L.up) : Calls Tryd.prog 49 #[.pointer (some ⟨b, 0, none⟩)] w (CopyDid w L) := by
  obtain ⟨ip, hip, hzp, hsp, hbp⟩ := info_parts info_ps
  obtain ⟨per, gs, dn⟩ := L
  have hok := h.ok
  obtain ⟨c0, c1, c2, z1, z2, q0, q1, q2, q3, q4⟩ := h.facts
  have HQ := Lib.hid q1
  have HU := Lib.hid hu
  have HOK := Lib.hid hok
  clear q1 hu hok
  go_enter Tryd.func49, Tryd.ntmps49
  go_wp2_with (go_at_call 87; refine (noneL h).mono ?_; rintro e w' ⟨rfl, rfl⟩)
  refine wp_region_T #[[], [], [], [], [], [], [], [], [3, 7], [3, 7], [3, 7]] [3, 7] (fun w' => w'.cell? ⟨b, 0, none⟩ = some (.int .i64 (per : Int)) ∧ w'.cell? ⟨b, 2, none⟩ = some (.bool dn)) 11 rfl (by kernel_rfl) ?_
  (refine wpAnyT_free (i := 0) rfl (by kernel_rfl) rfl (fun _ _ _ h => h) (by kernel_rfl) (fun _ => by go_simp; try rfl) ?_; (try simp only [Act.put, List.setIfInBounds_toArray, List.set_cons_zero, List.set_cons_succ]))
  (refine wpAnyT_free (i := 1) rfl (by kernel_rfl) rfl (fun _ _ _ h => h) (by kernel_rfl) (fun _ => by go_simp; try rfl) ?_; (try simp only [Act.put, List.setIfInBounds_toArray, List.set_cons_zero, List.set_cons_succ]))
  (refine wpAnyT_free (i := 2) rfl (by kernel_rfl) rfl (fun _ _ _ h => h) (by kernel_rfl) (fun _ => by go_simp; try rfl) ?_; (try simp only [Act.put, List.setIfInBounds_toArray, List.set_cons_zero, List.set_cons_succ]))
  (refine wpAnyT_read (i := 3) rfl (by kernel_rfl) rfl (fun _ _ _ h => h) (by kernel_rfl) (⟨c0, c2⟩) (fun w hS_ => by obtain ⟨s_1, s_2⟩ := hS_; go_simp; try rfl) ?_; (try simp only [Act.put, List.setIfInBounds_toArray, List.set_cons_zero, List.set_cons_succ]))
  (refine wpAnyT_free (i := 4) rfl (by kernel_rfl) rfl (fun _ _ _ h => h) (by kernel_rfl) (fun _ => by go_simp; try rfl) ?_; (try simp only [Act.put, List.setIfInBounds_toArray, List.set_cons_zero, List.set_cons_succ]))
  (refine wpAnyT_free (i := 5) rfl (by kernel_rfl) rfl (fun _ _ _ h => h) (by kernel_rfl) (fun _ => by go_simp; try rfl) ?_; (try simp only [Act.put, List.setIfInBounds_toArray, List.set_cons_zero, List.set_cons_succ]))
  (refine wpAnyT_free (i := 6) rfl (by kernel_rfl) rfl (fun _ _ _ h => h) (by kernel_rfl) (fun _ => by go_simp; try rfl) ?_; (try simp only [Act.put, List.setIfInBounds_toArray, List.set_cons_zero, List.set_cons_succ]))
  (refine wpAnyT_read (i := 7) rfl (by kernel_rfl) rfl (fun _ _ _ h => h) (by kernel_rfl) (⟨c0, c2⟩) (fun w hS_ => by obtain ⟨s_1, s_2⟩ := hS_; go_simp; try rfl) ?_; (try simp only [Act.put, List.setIfInBounds_toArray, List.set_cons_zero, List.set_cons_succ]))
  (refine wpAnyT_free (i := 8) rfl (by kernel_rfl) rfl (fun _ _ _ h => h) (by kernel_rfl) (fun _ => by go_simp; try rfl) ?_; (try simp only [Act.put, List.setIfInBounds_toArray, List.set_cons_zero, List.set_cons_succ]))
  refine wpAnyT_sink (i := 9) rfl (by kernel_rfl) rfl (by kernel_rfl) ?_
  intro K_ hK_
  go_wp2
  (try (refine hK_ _ _ ?_; clear hK_ K_))
  (try simp only [Act.put, List.setIfInBounds_toArray, List.set_cons_zero, List.set_cons_succ])
  (refine wpAnyT_free (i := 10) rfl (by kernel_rfl) rfl (fun _ _ _ h => h) (by kernel_rfl) (fun _ => by go_simp; try rfl) ?_; (try simp only [Act.put, List.setIfInBounds_toArray, List.set_cons_zero, List.set_cons_succ]))
  refine wpAnyT_done (by kernel_rfl) ?_ _
  have hb0 : Below w.heap.size w (w.alloc (.cells #[.int .i64 (per : Int), .slice none 0 0, .bool dn] TLg)).drew := (((Below.refl w.heap.size w)).alloc (Nat.le_refl _) _).drew
  have hL0 : LogO (Nw w (w.alloc (.cells #[.int .i64 (per : Int), .slice none 0 0, .bool dn] TLg)).drew) (Nw w (w.alloc (.cells #[.int .i64 (per : Int), .slice none 0 0, .bool dn] TLg)).drew) (w.alloc (.cells #[.int .i64 (per : Int), .slice none 0 0, .bool dn] TLg)).drew w.heap.size none 0 [] ⟨per, gs.take 0, dn⟩ :=
    ⟨fun _ h => h, ⟨Nat.le_refl _, by simp⟩, (Blk.new _ _ _).drew, Row.nil _ _ _, Segs.nil _ _ _, fun x hx => hx.2, ⟨HOK.out.1, HOK.out.2.1, by simp, fun g hg => by simp at hg⟩, fun _ _ => trivial⟩
  generalize (w.alloc (.cells #[.int .i64 (per : Int), .slice none 0 0, .bool dn] TLg)).drew = w1 at *
  have c1' := (h.below hb0).facts.2.1
  clear c0 c1 c2 z1 z2 q0
  go_wp2
  clear c1'
  go_loopw [24] (fun i wr => ∃ (k : Nat) (Hk : Nat → Prop) (A' : Option Addr) (c' : Nat) (qs : List Nat), k ≤ ps.length ∧ i = .int .i64 (k : Int) ∧ qs.length = k ∧ LogO (Nw w wr) Hk wr w.heap.size A' c' qs ⟨per, gs.take k, dn⟩ ∧ Below w.heap.size w wr) (fun i _ => ps.length - (intOf i).toNat)
  case atStart => exact ⟨0, _, none, 0, [], Nat.zero_le _, rfl, rfl, hL0, hb0⟩
  case round =>
    obtain ⟨k, Hk, A', c', qs, hk, rfl, hql, hl, hb⟩ := hrel
    have HQL := Lib.hid hql
    clear hql
    by_cases hlt : k < ps.length
    · obtain ⟨g, hg⟩ : ∃ g, gs[k]? = some g := ⟨_, List.getElem?_eq_getElem (show k < gs.length by have := HQ.out; omega)⟩
      obtain ⟨p, hp⟩ : ∃ p, ps[k]? = some p := ⟨_, List.getElem?_eq_getElem hlt⟩
      have h2 := h.below hb
      obtain ⟨Fi, hF, hs, -⟩ := h2.segs.at hp hg
      obtain ⟨⟨Sd, Sh, db, Rd, cR, rv, vals, k1, k2, k3, k4, k5, k6, k7, k8⟩, hslt⟩ := hs
      obtain ⟨R, cr, rfl, hcr, hmr⟩ := k7.val
      obtain ⟨ga, oa, rfl, ca⟩ := h2.ptrAt2 hp
      have hvl := k8.1
      have htk : gs.take (k + 1) = gs.take k ++ [g] := by rw [List.take_add_one, hg]; rfl
      have HT := Lib.hid htk
      have HG := Lib.hid hg
      have s0 := k5.cell 0 (v := .pointer (some ⟨db, 0, none⟩)) rfl
      have s1 := k5.cell 1 (v := .int .i64 (g.base : Int)) rfl
      have s2 := k5.cell 2 (v := .slice R vals.length cr) rfl
      have s3 := k5.cell 3 (v := .int .i64 (g.safe : Int)) rfl
      have hlt' : (k : Int) < (ps.length : Int) := by omega
      have HV := Lib.hid hvl
      clear htk hg hp hvl
      have hbn := below_new wr (.cells #[.pointer (some ⟨db, 0, none⟩), .int .i64 (g.base : Int), .slice R vals.length cr, .int .i64 (g.safe : Int)] TSg)
      have B2 := Blk.new wr TSg #[.pointer (some ⟨db, 0, none⟩), .int .i64 (g.base : Int), .slice R vals.length cr, .int .i64 (g.safe : Int)]
      have hN2 : wr.heap.size < (wr.alloc (.cells #[.pointer (some ⟨db, 0, none⟩), .int .i64 (g.base : Int), .slice R vals.length cr, .int .i64 (g.safe : Int)] TSg)).heap.size := B2.lt
      have t0 := (hbn.cell (p := ⟨p, 0, none⟩) (cell_lt s0)).trans s0
      have t2 := (hbn.cell (p := ⟨p, 2, none⟩) (cell_lt s2)).trans s2
      have hd2 := (k6.below hbn).drew
      have hr2 := k7.below hbn
      have hc2 := k8.fr (S' := Non) (Fr.of_below hbn)
      have hl2 := hl.below hbn
      have hfew : vals.length ≤ 349525 := by rw [HV.out]; exact (HOK.out.2.2.2 g (List.mem_of_getElem? HG.out)).2.1
      go_wp2
      change Code.wp _ _ _ _ (wr.alloc (.cells #[.pointer (some ⟨db, 0, none⟩), .int .i64 (g.base : Int), .slice R vals.length cr, .int .i64 (g.safe : Int)] TSg))
      generalize wr.alloc (.cells #[.pointer (some ⟨db, 0, none⟩), .int .i64 (g.base : Int), .slice R vals.length cr, .int .i64 (g.safe : Int)] TSg) = w2 at *
      refine wp_region_T #[[], [], [], [], [3], [], [], [], [], [3, 8], [3, 8], [3, 8], [3, 8], [3, 8]] [3, 8] (fun w' => w'.cell? ⟨p, 0, none⟩ = some (.pointer (some ⟨db, 0, none⟩)) ∧ w'.cell? ⟨p, 2, none⟩ = some (.slice R vals.length cr)) 14 rfl (by kernel_rfl) ?_
      (refine wpAnyT_free (i := 0) rfl (by kernel_rfl) rfl (fun _ _ _ h => h) (by kernel_rfl) (fun _ => by go_simp; try rfl) ?_; (try simp only [Act.put, List.setIfInBounds_toArray, List.set_cons_zero, List.set_cons_succ]))
      (refine wpAnyT_free (i := 1) rfl (by kernel_rfl) rfl (fun _ _ _ h => h) (by kernel_rfl) (fun _ => by go_simp; try rfl) ?_; (try simp only [Act.put, List.setIfInBounds_toArray, List.set_cons_zero, List.set_cons_succ]))
      (refine wpAnyT_free (i := 2) rfl (by kernel_rfl) rfl (fun _ _ _ h => h) (by kernel_rfl) (fun _ => by go_simp; try rfl) ?_; (try simp only [Act.put, List.setIfInBounds_toArray, List.set_cons_zero, List.set_cons_succ]))
      (refine wpAnyT_read (i := 3) rfl (by kernel_rfl) rfl (fun _ _ _ h => h) (by kernel_rfl) (⟨t0, t2⟩) (fun w hS_ => by obtain ⟨s_1, s_2⟩ := hS_; go_simp; try rfl) ?_; (try simp only [Act.put, List.setIfInBounds_toArray, List.set_cons_zero, List.set_cons_succ]))
      (refine wpAnyT_free (i := 5) rfl (by kernel_rfl) rfl (fun _ _ _ h => h) (by kernel_rfl) (fun _ => by go_simp; try rfl) ?_; (try simp only [Act.put, List.setIfInBounds_toArray, List.set_cons_zero, List.set_cons_succ]))
      (refine wpAnyT_free (i := 6) rfl (by kernel_rfl) rfl (fun _ _ _ h => h) (by kernel_rfl) (fun _ => by go_simp; try rfl) ?_; (try simp only [Act.put, List.setIfInBounds_toArray, List.set_cons_zero, List.set_cons_succ]))
      (refine wpAnyT_free (i := 7) rfl (by kernel_rfl) rfl (fun _ _ _ h => h) (by kernel_rfl) (fun _ => by go_simp; try rfl) ?_; (try simp only [Act.put, List.setIfInBounds_toArray, List.set_cons_zero, List.set_cons_succ]))
      (refine wpAnyT_read (i := 8) rfl (by kernel_rfl) rfl (fun _ _ _ h => h) (by kernel_rfl) (⟨t0, t2⟩) (fun w hS_ => by obtain ⟨s_1, s_2⟩ := hS_; go_simp; try rfl) ?_; (try simp only [Act.put, List.setIfInBounds_toArray, List.set_cons_zero, List.set_cons_succ]))
      refine wpAnyT_one (i := 4) rfl (by kernel_rfl) rfl ?_
      intro K_ hK_
      go_wp2_with ((go_at_call 88; refine (copy_B hd2).mono ?_; rintro e w3 ⟨p3, rfl, ⟨d3, A3, c3, rfl, hd3⟩, hb3⟩; have hcl := cloneRow_B rfl ((hr2.drew).below hb3) hc2.one hfew))
      refine hK_ _ _ ?_ ?_
      · exact fun _ _ => ⟨(hb3.cell (p := ⟨p, 0, none⟩) (cell_lt t0)).trans t0, (hb3.cell (p := ⟨p, 2, none⟩) (cell_lt t2)).trans t2⟩
      clear hK_ K_
      (try simp only [Act.put, List.setIfInBounds_toArray, List.set_cons_zero, List.set_cons_succ])
      refine wpAnyT_sink (i := 9) rfl (by kernel_rfl) rfl (by kernel_rfl) ?_
      intro K_ hK_
      go_wp2_with ((go_at_call 95; refine hcl.mono ?_; rintro e w4 ⟨R4, c4, rfl, hrow4, hb4⟩; have B4 := (B2.drew.below' hb3).below' hb4; have y0 := B4.cell 0 (v := .pointer (some ⟨db, 0, none⟩)) rfl; have yf0 := B4.frozen 0; have B5 := B4.set 0 (.pointer (some ⟨d3, 0, none⟩)); have y2 := B5.cell 2 (v := .slice R vals.length cr) (by simp); have yf2 := B5.frozen 2))
      (try (refine hK_ _ _ ?_; clear hK_ K_))
      (try simp only [Act.put, List.setIfInBounds_toArray, List.set_cons_zero, List.set_cons_succ])
      (refine wpAnyT_free (i := 10) rfl (by kernel_rfl) rfl (fun _ _ _ h => h) (by kernel_rfl) (fun _ => by go_simp; try rfl) ?_; (try simp only [Act.put, List.setIfInBounds_toArray, List.set_cons_zero, List.set_cons_succ]))
      refine wpAnyT_sink (i := 11) rfl (by kernel_rfl) rfl (by kernel_rfl) ?_
      intro K_ hK_
      go_wp2
      (try (refine hK_ _ _ ?_; clear hK_ K_))
      (try simp only [Act.put, List.setIfInBounds_toArray, List.set_cons_zero, List.set_cons_succ])
      (refine wpAnyT_free (i := 12) rfl (by kernel_rfl) rfl (fun _ _ _ h => h) (by kernel_rfl) (fun _ => by go_simp; try rfl) ?_; (try simp only [Act.put, List.setIfInBounds_toArray, List.set_cons_zero, List.set_cons_succ]))
      refine wpAnyT_sink (i := 13) rfl (by kernel_rfl) rfl (by kernel_rfl) ?_
      intro K_ hK_
      go_wp2
      (try (refine hK_ _ _ ?_; clear hK_ K_))
      (try simp only [Act.put, List.setIfInBounds_toArray, List.set_cons_zero, List.set_cons_succ])
      refine wpAnyT_done (by kernel_rfl) ?_ _
      have hb24' := hb3.trans (hb4.mono hb3.size)
      have hb24 : Below w2.heap.size w2 w4 := ⟨hb24'.os, hb24'.tape, hb24'.output, hb24'.size, hb24'.block⟩
      have hN3 : w2.heap.size ≤ w3.heap.size := hb3.size
      have hN4 : w3.heap.size ≤ w4.heap.size := hb4.size
      have hnb : ¬ IsB w4 wr.heap.size := B4.notB (by decide)
      have B6 : Blk ((w4.setCell ⟨wr.heap.size, 0, none⟩ (.pointer (some ⟨d3, 0, none⟩))).setCell ⟨wr.heap.size, 2, none⟩ (.slice R4 vals.length c4)) wr.heap.size TSg #[ptr d3, .int .i64 (g.base : Int), .slice R4 vals.length c4, .int .i64 (g.safe : Int)] := by simpa [ptr] using B5.set 2 (.slice R4 vals.length c4)
      have f45 : Fr (fun x => x = wr.heap.size) w4 ((w4.setCell ⟨wr.heap.size, 0, none⟩ (.pointer (some ⟨d3, 0, none⟩))).setCell ⟨wr.heap.size, 2, none⟩ (.slice R4 vals.length c4)) := ((Fr.refl (fun x => x = wr.heap.size) w4).setCell (p := ⟨wr.heap.size, 0, none⟩) (.inl rfl) hnb _).setCell (p := ⟨wr.heap.size, 2, none⟩) (.inl rfl) hnb _
      have hb25 : Below wr.heap.size wr ((w4.setCell ⟨wr.heap.size, 0, none⟩ (.pointer (some ⟨d3, 0, none⟩))).setCell ⟨wr.heap.size, 2, none⟩ (.slice R4 vals.length c4)) := ((hbn.trans (hb24.mono hbn.size)).setCell (p := ⟨wr.heap.size, 0, none⟩) (Nat.le_refl _) _).setCell (p := ⟨wr.heap.size, 2, none⟩) (Nat.le_refl _) _
      have hs5 : ((w4.setCell ⟨wr.heap.size, 0, none⟩ (.pointer (some ⟨d3, 0, none⟩))).setCell ⟨wr.heap.size, 2, none⟩ (.slice R4 vals.length c4)).heap.size = w4.heap.size := by simp [World.setCell]
      generalize (w4.setCell ⟨wr.heap.size, 0, none⟩ (.pointer (some ⟨d3, 0, none⟩))).setCell ⟨wr.heap.size, 2, none⟩ (.slice R4 vals.length c4) = w5 at *
      have hseg : SegAt (Nw wr w5) w5 wr.heap.size g :=
        ⟨⟨Nw w2.drew w3, fun x => x = wr.heap.size ∨ Nw w3 w4 x, d3, A3, c3, .slice R4 vals.length c4, vals,
          fun x hx => ⟨by have h1 : w2.heap.size ≤ x := hx.1; omega, by have := hx.2; omega⟩,
          fun x hx => hx.elim (fun e => ⟨by omega, by omega⟩) (fun q => ⟨by have := q.1; omega, by have := q.2; omega⟩),
          fun x hx hy => (show False from hy.elim (fun e => by have h1 : w2.heap.size ≤ x := hx.1; omega) (fun q => by have := q.1; have := hx.2; omega)).elim,
          .inl rfl, B6, (hd3.below hb4).fr f45 (fun x hx e => (show False from by have h1 : w2.heap.size ≤ x := hx.1; omega).elim), (hrow4.otherBlk B4 (by decide) f45).mono (fun x _ hx => .inr hx), ((hc2.fr (S' := Non) (Fr.of_below hb24)).fr f45)⟩, fun x hx => hx.2⟩
      have hl5 := hl.below hb25
      have hb6 := below_new w5 (.cells #[ptr wr.heap.size] TPs)
      have v1 := hl5.blk.cell 1 (v := .slice A' qs.length c') rfl
      have hrow6 := hl5.row.below hb6
      have BL6 := hl5.blk.below' hb6
      have hne6 := hrow6.ownNe BL6 (by decide)
      have HM4 : (qs.map ptr).length + 1 ≤ maxLen := by rw [List.length_map, HQL.out]; unfold maxLen; omega
      have HM5 : ((qs.map ptr).length + 1) * 8 ≤ 140737488355328 := by rw [List.length_map, HQL.out]; omega
      have hgl : (gs.take k).length < 256 := by rw [List.length_take]; omega
      clear B6 f45 hs5 hd3 hrow4 B4 B5 y0 yf0 y2 yf2 hcl hl2 t0 t2 hd2 hr2 hc2 B2 hnb
      go_wp2_with (at_builtin; refine wpList_append_row rfl (.tmp 47) (.tmp 48) 73 rfl TPs ip _ 8 Tryd.underlying73 hip hzp hsp hbp rfl (.slice A' qs.length c') (qs.map ptr) rfl hrow6 ⟨w5.heap.size, 0, none⟩ (ptr wr.heap.size) rfl (heap_new_cell _ _ _) rfl HM4 HM5 (by decide) ?_; intro v7 w7 hrow7 hf7 hoth7; obtain ⟨A7, c7, rfl, hc7, hm7⟩ := hrow7.val; rw [List.length_append, List.length_map, List.length_singleton] at hrow7 hc7 ⊢; have BL7 : Blk w7 w.heap.size TLg _ := BL6.eq (hoth7 _ BL6.lt hne6); have x7 := BL7.cell 1 (v := .slice A' qs.length c') rfl; have xf7 := BL7.frozen 1)
      obtain ⟨hl8, hf8⟩ := hl.grow hgl hb25 hseg (HOK.out.2.2.2 g (List.mem_of_getElem? HG.out)) hb6 hf7 hoth7 hrow7
      go_roundw
      case rel =>
        have hsz : (w7.setCell ⟨w.heap.size, 1, none⟩ (.slice A7 (qs.length + 1) c7)).heap.size = w7.heap.size := by simp [World.setCell]
        have hsb := hb.size
        refine ⟨k + 1, Up Hk (w5.alloc (.cells #[ptr wr.heap.size] TPs)) w7, A7, c7, qs ++ [wr.heap.size], by omega, by go_num, by rw [List.length_append, HQL.out]; rfl, ?_, ?_⟩
        · rw [HT.out]
          exact hl8.mono (fun x hx => ⟨hx.elim (fun q => q.1) (fun q => Nat.le_trans hsb q.1), by rw [hsz]; exact hx.elim (fun q => Nat.lt_of_lt_of_le q.2 (by have := hf8.size; omega)) (fun q => q.2)⟩) (fun x hx => hx.2)
        · exact ⟨hf8.os.trans hb.os, hf8.tape.trans hb.tape, hf8.output.trans hb.output, Nat.le_trans hsb hf8.size, fun x hx => (hf8.out x (Nat.lt_of_lt_of_le hx hsb) (fun q => by have := q.1; omega)).trans (hb.block x hx)⟩
      case measure => simp [intOf]; omega
    · obtain rfl : k = ps.length := by omega
      rw [List.take_of_length_le (by rw [HQ.out]; omega)] at hl
      go_wp2
      go_ret
      exact ⟨_, rfl, ⟨HU.out, _, _, _, _, hl⟩, hb⟩
end
end Go.Proofs.YtediidajdpdeiaaDoor

/- A store as the laws see it: all that is owned is newer than the law's beginning. -/
namespace Go.Proofs.YtediidajdpdeiaaDoor
open Go.RowKit CrcM
set_option maxRecDepth 100000

section
variable {S S1 S2 : Nat → Prop} {w : World} {b lb db mb : Nat} {s : So}
/-- Restart of a store that is up -/
theorem restartUp (h : SoO S S1 S2 w b lb db mb s) (hh : HalfAt w) (hSh : ¬ S 0) (hup : s.log.down = false) :
    Calls Tryd.prog 64 #[.pointer (some ⟨b, 0, none⟩)] w (SoDid S w (.pointer (some ⟨b, 0, none⟩)) (s, 9)) := by
  obtain ⟨hu, H, A, c, ps, hl⟩ := id h.log
  have hb1 := below_new w (.cells #[.pointer (some ⟨b, 0, none⟩)] 94)
  have h1 := h.below hb1
  have hlr := restartL (hl.below hb1) hu (hh.below hb1 hh.lt) (fun hx => hSh (h.h1 _ hx))
  have hlc : s.log.restart = (s.log, 9) := by unfold Lg.restart; rw [hup]; rfl
  unfold LogDid at hlr
  rw [hlc] at hlr
  have B1 := Blk.new w 94 #[.pointer (some ⟨b, 0, none⟩)]
  have x1 := B1.cell 0 (v := .pointer (some ⟨b, 0, none⟩)) rfl
  obtain ⟨c0, c1, c2, c3, c4, c5, z1, z3, z4⟩ := h1.facts
  clear hlc
  go_enter Tryd.func64, Tryd.ntmps64
  go_wp2_with (first
    | (go_at_call 104; refine (noneS h1).mono ?_; rintro e w' ⟨rfl, rfl⟩)
    | (go_at_call 44; refine hlr.mono ?_; rintro e w2 ⟨rfl, hl2, hf2⟩))
  go_ret
  obtain ⟨h2, f2⟩ := h1.turnLog hl2 hf2
  exact SoDid.from hb1 h.lt ⟨rfl, h2.is, f2⟩
theorem logS (h : SoO S S1 S2 w b lb db mb s) : Calls Tryd.prog 71 #[.pointer (some ⟨b, 0, none⟩)] w (CopyDid w s.log) := by
  obtain ⟨c0, c1, c2, c3, c4, c5, z1, z3, z4⟩ := h.facts
  obtain ⟨hu, H, A, c, ps, hl⟩ := id h.log
  have hc := copyL hl hu
  go_enter Tryd.func71, Tryd.ntmps71
  go_wp2_with (first
    | (go_at_call 104; refine (noneS h).mono ?_; rintro e w' ⟨rfl, rfl⟩)
    | (go_at_call 49; refine hc.mono ?_; rintro e w2 ⟨b', rfl, hl2, hb2⟩))
  go_ret
  exact ⟨b', rfl, hl2, hb2⟩
end

/-- a store that was made since W, of whose memory nothing has turned; X is kept apart from it -/
def LiveS (W w : World) (b : Nat) (s : So) (X : Nat → Prop) : Prop := ∃ S, SoAt S w b s ∧ (∀ x, S x → W.heap.size ≤ x) ∧ Below W.heap.size W w ∧ ∀ x, X x → ¬ S x ∧ x < w.heap.size
section
variable {W w w' : World} {b : Nat} {s : So} {X : Nat → Prop}
theorem LiveS.below (h : LiveS W w b s X) : Below W.heap.size W w := by
  obtain ⟨S, _, _, hb, _⟩ := h
  exact hb
theorem LiveS.sub {X' : Nat → Prop} (h : LiveS W w b s X) (hs : ∀ x, X' x → X x) : LiveS W w b s X' := by
  obtain ⟨S, hd, hS, hb, hX⟩ := h
  exact ⟨S, hd, hS, hb, fun x hx => hX x (hs x hx)⟩
theorem LiveS.mono (h : LiveS W w b s X) (f : Below w.heap.size w w') : LiveS W w' b s (Up X w w') := by
  obtain ⟨S, ⟨S1, S2, lb, db, mb, hd⟩, hS, hb, hX⟩ := h
  refine ⟨S, ⟨S1, S2, lb, db, mb, hd.below f⟩, hS, hb.trans (f.mono hb.size), fun x hx => ?_⟩
  rcases hx with hx | hx
  · exact ⟨(hX x hx).1, Nat.lt_of_lt_of_le (hX x hx).2 f.size⟩
  · refine ⟨fun hs => ?_, hx.2⟩
    have := hd.lt x hs
    have := hx.1
    omega
theorem LiveS.mono' (h : LiveS W w b s X) (f : Below w.heap.size w w') : LiveS W w' b s X := (h.mono f).sub fun _ hx => .inl hx
theorem LiveS.turned {S : Nat → Prop} (hS : ∀ x, S x → W.heap.size ≤ x) (hb : Below W.heap.size W w) (hX : ∀ x, X x → ¬ S x ∧ x < w.heap.size) {s' : So} (hi : IsSo (Up S w w') w' (.pointer (some ⟨b, 0, none⟩)) s') (hf : Fr S w w') : LiveS W w' b s' X ∧ XK X w w' ∧ BK w w' := by
  obtain ⟨b', e, h⟩ := hi
  injection e with e
  injection e with e
  injection e with e
  subst e
  exact ⟨⟨_, h, fun x hx => hx.elim (hS x) (fun h => Nat.le_trans hb.size h.1), ⟨hf.os.trans hb.os, hf.tape.trans hb.tape, hf.output.trans hb.output, Nat.le_trans hb.size hf.size,
    fun k hk => (hf.out k (Nat.lt_of_lt_of_le hk hb.size) fun hh => by have := hS k hh; omega).trans (hb.block k hk)⟩, fun x hx => ⟨fun hs => hs.elim (hX x hx).1 (fun q => by have := (hX x hx).2; have := q.1; omega), Nat.lt_of_lt_of_le (hX x hx).2 hf.size⟩⟩, fun x hx => hf.out x (hX x hx).2 (hX x hx).1, hf.byt⟩
end

/-- WHAT a change of a live store leaves -/
def LiveSDid (W w : World) (b : Nat) (X : Nat → Prop) (r : So × Int) (e : Ending) (w' : World) : Prop := e = .returned (.int .i64 r.2) ∧ LiveS W w' b r.1 X ∧ XK X w w' ∧ BK w w'
section
variable {W w : World} {b : Nat} {s : So} {X : Nat → Prop} {m n : Nat} {st0 : St} {rcs : List Rc}
theorem LiveSDid.of {S : Nat → Prop} {r : So × Int} {e : Ending} {w' : World} (hS : ∀ x, S x → W.heap.size ≤ x) (hb : Below W.heap.size W w) (hX : ∀ x, X x → ¬ S x ∧ x < w.heap.size) (h : SoDid S w (.pointer (some ⟨b, 0, none⟩)) r e w') : LiveSDid W w b X r e w' :=
  ⟨h.1, LiveS.turned hS hb hX h.2.1 h.2.2⟩
theorem So.inv.len_ok (hi : s.inv m n st0 rcs) : s.log.len ≤ 4611686018427387904 := by
  have := hi.log.len_le
  have := hi.small
  omega
theorem promise_S (h : LiveS W w b s X) (hh : HalfAt W) (hi : s.inv m n st0 rcs) (k : Int) :
    Calls Tryd.prog 63 #[.pointer (some ⟨b, 0, none⟩), .int .i64 k] w (LiveSDid W w b X (s.promise k)) := by
  obtain ⟨S, ⟨S1, S2, lb, db, mb, h⟩, hS, hb, hX⟩ := h
  exact (promiseS h (hh.below hb hh.lt) hi.len_ok k).mono fun e w' q => LiveSDid.of hS hb hX q
theorem accept_S (h : LiveS W w b s X) (hh : HalfAt W) (hi : s.inv m n st0 rcs) (hf : s.st.slots.length < 1048575) (slot k : Int) (B : Option Addr) (v : List UInt8) (cb : Nat) (hv : Arg W w B v) (hvl : v.length ≤ 70368744177664) :
    Calls Tryd.prog 66 #[.pointer (some ⟨b, 0, none⟩), .int .i64 slot, .int .i64 k, .slice B v.length cb] w (LiveSDid W w b X (s.accept slot k v)) := by
  obtain ⟨S, ⟨S1, S2, lb, db, mb, h⟩, hS, hb, hX⟩ := h
  exact (acceptS h (hh.below hb hh.lt) hi.len_ok hf slot k B v cb (hv S hS) hvl).mono fun e w' q => LiveSDid.of hS hb hX q
theorem forget_S (h : LiveS W w b s X) (hh : HalfAt W) (hi : s.inv m n st0 rcs) (k : Int) :
    Calls Tryd.prog 70 #[.pointer (some ⟨b, 0, none⟩), .int .i64 k] w (LiveSDid W w b X (s.forget k)) := by
  obtain ⟨S, ⟨S1, S2, lb, db, mb, h⟩, hS, hb, hX⟩ := h
  exact (forgetS h (hh.below hb hh.lt) hi.len_ok k).mono fun e w' q => LiveSDid.of hS hb hX q
theorem sync_S (h : LiveS W w b s X) :
    Calls Tryd.prog 59 #[.pointer (some ⟨b, 0, none⟩)] w (LiveSDid W w b X s.sync) := by
  obtain ⟨S, ⟨S1, S2, lb, db, mb, h⟩, hS, hb, hX⟩ := h
  exact (syncS h).mono fun e w' q => LiveSDid.of hS hb hX q
theorem crash_S (h : LiveS W w b s X) (keep flip : Int) (hk : i64 keep) (hf : i64 flip) :
    Calls Tryd.prog 62 #[.pointer (some ⟨b, 0, none⟩), .int .i64 keep, .int .i64 flip] w (LiveSDid W w b X (s.crash keep flip)) := by
  obtain ⟨S, ⟨S1, S2, lb, db, mb, h⟩, hS, hb, hX⟩ := h
  unfold i64 at hk hf
  exact (crashS h keep flip hk.2 hf.2 hk.1 hf.1).mono fun e w' q => LiveSDid.of hS hb hX q
theorem snapshot_S (h : LiveS W w b s X) (hh : HalfAt W) :
    Calls Tryd.prog 67 #[.pointer (some ⟨b, 0, none⟩)] w (LiveSDid W w b X s.snapshot) := by
  obtain ⟨S, ⟨S1, S2, lb, db, mb, h⟩, hS, hb, hX⟩ := h
  exact (snapshotS h (hh.below hb hh.lt) (fun hx => by have := hS _ hx; have := hh.lt; omega)).mono fun e w' q => LiveSDid.of hS hb hX q
theorem restartUp_S (h : LiveS W w b s X) (hh : HalfAt W) (hu : s.log.down = false) :
    Calls Tryd.prog 64 #[.pointer (some ⟨b, 0, none⟩)] w (LiveSDid W w b X (s, 9)) := by
  obtain ⟨S, ⟨S1, S2, lb, db, mb, h⟩, hS, hb, hX⟩ := h
  exact (restartUp h (hh.below hb hh.lt) (fun hx => by have := hS _ hx; have := hh.lt; omega) hu).mono fun e w' q => LiveSDid.of hS hb hX q
/-- WHAT Restart leaves of a store that is down -/
def RoseDid (W w : World) (b : Nat) (X : Nat → Prop) (m n : Nat) (s : So) (st0 : St) (rcs : List Rc) (e : Ending) (w' : World) : Prop :=
  ∃ (j : Nat) (s' : So), e = .returned (.int .i64 0) ∧ LiveS W w' b s' X ∧ XK X w w' ∧ BK w w' ∧ Rose m n s st0 rcs j s'
theorem restart_S (h : LiveS W w b s X) (hh : HalfAt W) (hi : s.inv m n st0 rcs) (hd : s.log.down = true) :
    Calls Tryd.prog 64 #[.pointer (some ⟨b, 0, none⟩)] w (RoseDid W w b X m n s st0 rcs) := by
  obtain ⟨S, ⟨S1, S2, lb, db, mb, h⟩, hS, hb, hX⟩ := h
  obtain ⟨j, hrec, hr⟩ := hi.restart hd
  have hfew := hi.few
  have hsm := hi.small
  refine (restartSo h (hh.below hb hh.lt) (fun hx => by have := hS _ hx; have := hh.lt; omega) hd hi.ok0.ok hi.snap' hrec (fun r hr => (hi.rok r (List.mem_of_mem_take hr)).1) (by rw [List.length_take]; omega)).mono fun e w' q => ?_
  obtain ⟨q1, q2, q3, q4⟩ := LiveSDid.of hS hb hX q
  exact ⟨j, _, q1, q2, q3, q4, hr⟩
theorem down_S (h : LiveS W w b s X) : Calls Tryd.prog 74 #[.pointer (some ⟨b, 0, none⟩)] w fun e w' => e = .returned (.bool s.log.down) ∧ w = w' := by
  obtain ⟨S, ⟨S1, S2, lb, db, mb, h⟩, hS, hb, hX⟩ := h
  exact downS h
theorem base_S (h : LiveS W w b s X) (hu : s.log.down = false) : Calls Tryd.prog 69 #[.pointer (some ⟨b, 0, none⟩)] w fun e w' => e = .returned (.int .i64 (s.st.base : Int)) ∧ w = w' := by
  obtain ⟨S, ⟨S1, S2, lb, db, mb, h⟩, hS, hb, hX⟩ := h
  have := baseS h
  rw [hu] at this
  exact this
theorem promised_S (h : LiveS W w b s X) (hu : s.log.down = false) : Calls Tryd.prog 60 #[.pointer (some ⟨b, 0, none⟩)] w fun e w' => e = .returned (.int .i64 (s.st.promised : Int)) ∧ w = w' := by
  obtain ⟨S, ⟨S1, S2, lb, db, mb, h⟩, hS, hb, hX⟩ := h
  have := promisedS h
  rw [hu] at this
  exact this
theorem slots_S (h : LiveS W w b s X) (hu : s.log.down = false) : Calls Tryd.prog 73 #[.pointer (some ⟨b, 0, none⟩)] w fun e w' => e = .returned (.int .i64 (So.top s.st.slots : Int)) ∧ Below w.heap.size w w' := by
  obtain ⟨S, ⟨S1, S2, lb, db, mb, h⟩, hS, hb, hX⟩ := h
  have := slotsS h
  rw [hu] at this
  exact this
theorem get_S (h : LiveS W w b s X) (hu : s.log.down = false) (k : Nat) (hk : k ≤ 4611686018427387904) : Calls Tryd.prog 68 #[.pointer (some ⟨b, 0, none⟩), .int .i64 (k : Int)] w (GetDid w (getN k s.st.slots)) := by
  obtain ⟨S, ⟨S1, S2, lb, db, mb, h⟩, hS, hb, hX⟩ := h
  have := getS h k hk
  rw [hu] at this
  exact this
theorem log_S (h : LiveS W w b s X) : Calls Tryd.prog 71 #[.pointer (some ⟨b, 0, none⟩)] w (CopyDid w s.log) := by
  obtain ⟨S, ⟨S1, S2, lb, db, mb, h⟩, hS, hb, hX⟩ := h
  exact logS h
theorem new_S (hb : Below W.heap.size W w) (per : Int) (h1 : 1 ≤ per) (h2 : per ≤ 1024) : Calls Tryd.prog 72 #[.int .i64 per] w fun e w' => ∃ b, e = .returned (.tuple #[.pointer (some ⟨b, 0, none⟩), .int .i64 0]) ∧ LiveS W w' b (So.new per.toNat) (fun x => x < w.heap.size) ∧ Below w.heap.size w w' := by
  refine (newS w per).mono ?_
  rintro e w' h
  rw [if_pos ⟨h1, h2⟩] at h
  obtain ⟨p, rfl, ⟨b, rfl, hl⟩, hb'⟩ := h
  exact ⟨b, rfl, ⟨_, hl, fun x hx => Nat.le_trans hb.size hx.1, hb.trans (hb'.mono hb.size), fun x hx => ⟨fun hs => by have := hs.1; omega, Nat.lt_of_lt_of_le hx hb'.size⟩⟩, hb'⟩
end
end Go.Proofs.YtediidajdpdeiaaDoor

/- The chapter's example (layer 8). -/
namespace Go.Proofs.YtediidajdpdeiaaDoor
open Go.RowKit CrcM
set_option maxRecDepth 100000

def exLog : Lg := ((((((Lg.new 3).append (Rc.prom 3).enc).1.append (Rc.acc 0 3 [120]).enc).1.sync.1.append (Rc.acc 1 3 [121]).enc).1.crash 0 0).1.restart).1
theorem exLog_recs : (recsS exLog.segs).length = 2 := by decide +kernel
/-- what the example makes of a store -/
theorem works_plain : ∃ s1 s2 s3 s4 s5 rcs4, (So.new 3).inv 2 0 St.new [] ∧ (So.new 3).promise 3 = (s1, 0) ∧ s1.inv 2 1 St.new [.prom 3] ∧ s1.st.slots.length < 1048575 ∧ s1.accept ((0 : Nat) : Int) ((3 : Nat) : Int) [120] = (s2, 0) ∧ s2.sync = (s3, 0) ∧ s3.inv 2 2 St.new [.prom 3, .acc 0 3 [120]] ∧ s3.st.slots.length < 1048575 ∧
    s3.accept ((1 : Nat) : Int) ((3 : Nat) : Int) [121] = (s4, 0) ∧ rcs4 = [.prom 3, .acc 0 3 [120], .acc 1 3 [121]] ∧ s4.crash 0 0 = (s5, 0) ∧ s5.inv 2 3 St.new rcs4 ∧ s5.log.down = true ∧ s5.log.restart.1 = exLog := by
  have h0 := So.inv_new (per := 3) (by decide) (by decide) 2
  rcases h0.promise rfl (by decide) 3 with ⟨_, ⟨_, hh⟩ | ⟨_, _, hh⟩ | ⟨_, hh⟩⟩ | ⟨k, hk, _, _, s1, e1, p1⟩
  · exact absurd hh (by decide)
  · exact absurd hh (by decide)
  · exact absurd hh (by decide)
  obtain rfl : k = 3 := by omega
  have t1 : s1.st = ⟨3, 0, []⟩ := p1.st
  obtain ⟨s2, e2, p2⟩ := p1.inv.accept_ok p1.down (by decide) 0 3 [120] (by decide) (by decide) (by decide) (by decide) (by rw [t1]; decide) (by rw [t1]; decide)
  obtain ⟨s3, e3, i3, d3, y3, t3, l3⟩ := p2.inv.sync p2.down
  have t2 : s2.st = ⟨3, 0, [(0, ⟨3, [120]⟩)]⟩ := by rw [p2.st, t1]; rfl
  obtain ⟨s4, e4, p4⟩ := i3.accept_ok d3 (by decide) 1 3 [121] (by decide) (by decide) (by decide) (by decide) (by rw [t3, t2]; decide) (by rw [t3, t2]; decide)
  obtain ⟨s5, e5, i5, d5, y5, l5⟩ := p4.inv.crash p4.down 0 0 (by decide)
  refine ⟨s1, s2, s3, s4, s5, _, h0, e1, p1.inv, by rw [t1]; decide, e2, e3, i3, by rw [t3, t2]; decide, e4, rfl, e5, i5, d5, ?_⟩
  rw [l5, p4.log, l3, p2.log, p1.log]
  rfl
theorem ex_state : ([Rc.prom 3, .acc 0 3 [120], .acc 1 3 [121]].take 2).foldl Rc.play St.new = ⟨3, 0, [(0, ⟨3, [120]⟩)]⟩ := rfl

theorem works_state {s5 s6 : So} {rcs4 : List Rc} {j : Nat} (h : Rose 2 3 s5 St.new rcs4 j s6) (hr : rcs4 = [.prom 3, .acc 0 3 [120], .acc 1 3 [121]]) (hl : s5.log.restart.1 = exLog) : s6.st = ⟨3, 0, [(0, ⟨3, [120]⟩)]⟩ := by
  have h1 := h.inv.recs
  have h2 := congrArg List.length h1
  rw [h.log, hl, exLog_recs, List.length_map, List.length_take, hr] at h2
  have h3 := h.le
  rw [hr] at h3
  have : j = 2 := by simp only [List.length_cons, List.length_nil] at h2 h3; omega
  rw [h.inv.up h.down, hr, this]
  rfl
theorem works_08 (W w : World) (hb : Below W.heap.size W w) (hh : HalfAt W) : Calls Tryd.prog 65 #[] w fun e w' => e = .returned (.bool true) ∧ Below W.heap.size W w' := by
  have kc := fun (w : World) (C : Array Value) (n c : Nat) => Lib.run_convert_bytes_const (P := Tryd.prog) w 22 TB C n c Tryd.underlying22 Tryd.underlying5
  obtain ⟨s1, s2, s3, s4, s5, rcs4, h0, e1, i1, n1, e2, e3, i3, n3, e4, hrcs, e5, i5, d5, l5⟩ := works_plain
  have E1 := Lib.hid e1
  have E2 := Lib.hid e2
  have E3 := Lib.hid e3
  have E4 := Lib.hid e4
  have E5 := Lib.hid e5
  have L5 := Lib.hid l5
  have HR := Lib.hid hrcs
  clear e1 e2 e3 e4 e5 l5 hrcs
  go_enter Tryd.func65, Tryd.ntmps65
  go_wp2_with (first
    | (go_at_call 72; refine (new_S hb 3 (by decide) (by decide)).mono ?_; rintro e w1 ⟨b, rfl, hl1, hb1⟩; have hl1' := hl1.sub (X' := Non) (fun _ h => h.elim); have hP := promise_S hl1' hh h0 3; unfold LiveSDid at hP; rw [show (3 : Int).toNat = 3 from rfl, E1.out] at hP)
    | (go_at_call 63; refine hP.mono ?_; rintro e w2 ⟨rfl, hl2, -⟩; have hA := accept_S (hl2.mono' (below_new w2 (.cells #[.int .u8 120] TB (1, 2)))) hh i1 n1 0 3 (some ⟨w2.heap.size, 0, none⟩) [120] 1 (Arg.lit _ (heap_alloc_new _ _) (by rfl)) (by decide); unfold LiveSDid at hA; rw [show s1.accept 0 3 [120] = (s2, 0) from E2.out, List.length_singleton] at hA; clear hP)
    | (go_at_call 66; refine hA.mono ?_; rintro e w3 ⟨rfl, hl3, -⟩; have hY := sync_S hl3; unfold LiveSDid at hY; rw [E3.out] at hY; clear hA)
    | (go_at_call 59; refine hY.mono ?_; rintro e w4 ⟨rfl, hl4, -⟩; have hB := accept_S (hl4.mono' (below_new w4 (.cells #[.int .u8 121] TB (1, 2)))) hh i3 n3 1 3 (some ⟨w4.heap.size, 0, none⟩) [121] 1 (Arg.lit _ (heap_alloc_new _ _) (by rfl)) (by decide); unfold LiveSDid at hB; rw [show s3.accept 1 3 [121] = (s4, 0) from E4.out, List.length_singleton] at hB; clear hY)
    | (go_at_call 66; refine hB.mono ?_; rintro e w5 ⟨rfl, hl5, -⟩; have hC := crash_S hl5 0 0 (by unfold i64; decide) (by unfold i64; decide); unfold LiveSDid at hC; rw [E5.out] at hC; clear hB)
    | (go_at_call 62; refine hC.mono ?_; rintro e w6 ⟨rfl, hl6, -⟩; have hS := restart_S hl6 hh i5 d5; clear hC)
    | (go_at_call 64; refine hS.mono ?_; rintro e w7 ⟨j, s6, rfl, hl7, -, -, hro⟩; have hst := works_state hro HR.out L5.out; have hup := hro.down; have hG0 := get_S hl7 hup 0 (by decide); rw [hst, show getN 0 (⟨3, 0, [(0, ⟨3, [120]⟩)]⟩ : St).slots = some ⟨3, [120]⟩ from rfl] at hG0; unfold GetDid at hG0; simp only [Option.getD_some, Option.isSome_some, List.length_singleton] at hG0; clear hS)
    | (go_at_call 68; refine hG0.mono ?_; rintro e w8 ⟨A8, c8, rfl, ho8, hc8, hm8, hb8⟩; have hl8 := hl7.mono' hb8; have hG1 := get_S hl8 hup 1 (by decide); rw [hst, show getN 1 (⟨3, 0, [(0, ⟨3, [120]⟩)]⟩ : St).slots = none from rfl] at hG1; unfold GetDid at hG1; simp only [Option.getD_none, Option.isSome_none, List.length_nil] at hG1; clear hG0)
    | (go_at_call 68; refine hG1.mono ?_; rintro e w9 ⟨A9, c9, rfl, ho9, hc9, hm9, hb9⟩; have hl9 := hl8.mono' hb9; have hPr := promised_S hl9 hup; rw [hst] at hPr; have hSl := slots_S hl9 hup; rw [hst, show So.top (⟨3, 0, [(0, ⟨3, [120]⟩)]⟩ : St).slots = 1 from rfl] at hSl; have hs1 : (convert 22 9 (.slice A8 1 c8)).run Tryd.prog w9 = .ok (.string ⟨#[120]⟩) w9 := run_str (l := [120]) ((ho8.fr (S' := Non) (Fr.of_below hb9)).rd Non) c8; clear hG1)
    | (go_at_call 60; refine hPr.mono ?_; rintro e w10 ⟨rfl, rfl⟩)
    | (go_at_call 73; refine hSl.mono ?_; rintro e w11 ⟨rfl, hb11⟩))
  all_goals
    go_ret
    exact ⟨rfl, (hl9.mono' hb11).below⟩
end Go.Proofs.YtediidajdpdeiaaDoor
