/- The log's Records (layer 7): the iterator, handed a function literal that never stops it. -/
import Derived.Test.YtediidajdpdeiaaDoorJ9
import Derived.WalkMore
import Derived.Test.YtediidajdpdeiaaDoorJ6
import Derived.Test.YtediidajdpdeiaaDoorJ8
import Derived.Test.YtediidajdpdeiaaDoorJ3
import Derived.Test.YtediidajdpdeiaaDoorJ2

namespace Go.Proofs.YtediidajdpdeiaaDoor
open Go.RowKit CrcM
set_option maxRecDepth 100000

/-- records with their numbers -/
def numR : Nat → List (List UInt8) → List (Nat × List UInt8)
  | _, [] => []
  | n, r :: t => (n, r) :: numR (n + 1) t
def numS (gs : List Sg) : List (Nat × List UInt8) := gs.flatMap fun g => numR g.base g.recs
theorem length_numR : ∀ (rs : List (List UInt8)) (n : Nat), (numR n rs).length = rs.length
  | [], _ => rfl
  | r :: t, n => by simp [numR, length_numR t]
theorem numR_at : ∀ (rs : List (List UInt8)) (n i : Nat) (r : List UInt8), rs[i]? = some r → (numR n rs)[i]? = some (n + i, r)
  | [], _, _, _, h => by simp at h
  | x :: t, n, 0, r, h => by
    injection h with h
    subst h
    rfl
  | x :: t, n, i + 1, r, h => by
    have := numR_at t (n + 1) i r (by simpa using h)
    simp only [numR, List.getElem?_cons_succ]
    rw [this]
    congr 2
    omega
theorem numS_at {gs : List Sg} {k i : Nat} {g : Sg} {r : List UInt8} (hg : gs[k]? = some g) (hr : g.recs[i]? = some r) : (numS gs)[(numS (gs.take k)).length + i]? = some (g.base + i, r) := by
  have e : gs = gs.take k ++ g :: gs.drop (k + 1) := by
    conv => lhs; rw [← List.take_append_drop k gs]
    rw [drop_of hg]
  have h1 : numS gs = numS (gs.take k) ++ (numR g.base g.recs ++ numS (gs.drop (k + 1))) := by
    conv => lhs; rw [e]
    simp [numS]
  have h2 := (List.getElem?_eq_some_iff.1 hr).1
  rw [h1, List.getElem?_append_right (by omega), Nat.add_sub_cancel_left, List.getElem?_append_left (by rw [length_numR]; exact h2)]
  exact numR_at _ _ _ _ hr
theorem numS_succ {gs : List Sg} {k : Nat} {g : Sg} (hg : gs[k]? = some g) : (numS (gs.take (k + 1))).length = (numS (gs.take k)).length + g.recs.length := by
  rw [List.take_add_one, hg]
  simp [numS, length_numR]

theorem LogO.recsAt {S H : Nat → Prop} {w : World} {b : Nat} {A : Option Addr} {c : Nat} {ps : List Nat} {per : Nat} {gs : List Sg} {dn : Bool} (h : LogO S H w b A c ps ⟨per, gs, dn⟩) {k p : Nat} {g : Sg} (hp : ps[k]? = some p) (hg : gs[k]? = some g) :
    ∃ (R : Option Addr) (cr : Nat) (vals : List Value), S p ∧ w.cell? ⟨p, 1, none⟩ = some (.int .i64 (g.base : Int)) ∧ w.cell? ⟨p, 2, none⟩ = some (.slice R g.recs.length cr) ∧ Row S w TBs (.slice R g.recs.length cr) vals ∧ Recs w vals g.recs := by
  obtain ⟨Fi, hF, hs, hup⟩ := h.segs.at hp hg
  obtain ⟨⟨Sd, Sh, db, Rd, cR, rv, vals, h1, h2, h3, h4, h5, h6, h7, h8⟩, hlt⟩ := hs
  obtain ⟨R, cr, rfl, _⟩ := h7.val
  have hvl := h8.1
  rw [hvl] at h5 h7
  exact ⟨R, cr, vals, (hF p (h2 p h4)).1, h5.cell 1 rfl, h5.cell 2 rfl, h7.mono (fun x _ hx => (hF x (h2 x hx)).1), h8⟩

section
variable {S H S' : Nat → Prop} {w : World} {b : Nat} {A : Option Addr} {c : Nat} {ps : List Nat} {per : Nat} {gs : List Sg} {dn : Bool}
set_option maxHeartbeats 1000000 in
theorem records_calls (h : LogO S H w b A c ps ⟨per, gs, dn⟩) (bx f : Nat) (caps : Array Value) (eg : ∀ args w, (callFunc f args).run Tryd.prog w = .ok (.enter f args) w) (hd : ∀ x, S x → ¬ S' x)
    (J : Nat → World → Prop) (hI : ∀ n W, J n W → Fr S' w W ∧ W.cell? ⟨bx, 0, none⟩ = some (.pointer (some ⟨b, 0, none⟩))) (hJ : ∀ n W W', J n W → Below W.heap.size W W' → J n W')
    (hY : dn = false → ∀ n W num r A' c', J n W → (numS gs)[n]? = some (num, r) → Own Any W A' r → r.length ≤ c' → c' ≤ maxLen → Calls Tryd.prog f (#[.int .i64 (num : Int), .slice A' r.length c'] ++ caps) W fun e W' => e = .returned (.bool true) ∧ J (n + 1) W')
    (h0 : J 0 w) :
    Calls Tryd.prog 118 #[.func (.func f) #[] caps, .pointer (some ⟨bx, 0, none⟩)] w fun e W' => e = .returned (.tuple #[]) ∧ J (if dn then 0 else (numS gs).length) W' := by
  obtain ⟨c0, c1, c2, z1, z2, q0, q1, q2, q3, q4⟩ := h.facts
  have cb := (hI 0 w h0).2
  have HQ := Lib.hid q1
  clear q1
  cases dn
  · go_enter Tryd.func118, Tryd.ntmps118
    go_step3
    go_wp2_with (go_at_call 82; refine (askedL h).mono ?_; rintro e w' ⟨rfl, rfl⟩)
    go_step3
    go_wp2
    clear c0 c1 c2 z1 z2 q0 cb
    go_loopw [15] (fun i wr => ∃ k : Nat, k ≤ ps.length ∧ i = .int .i64 (k : Int) ∧ J (numS (gs.take k)).length wr) (fun i _ => ps.length - (intOf i).toNat)
    case atStart => exact ⟨0, Nat.zero_le _, rfl, h0⟩
    case round =>
      obtain ⟨k, hk, rfl, hJk⟩ := hrel
      by_cases hlt : k < ps.length
      · obtain ⟨g, hg⟩ : ∃ g, gs[k]? = some g := ⟨_, List.getElem?_eq_getElem (show k < gs.length by have := HQ.out; omega)⟩
        obtain ⟨p, hp⟩ : ∃ p, ps[k]? = some p := ⟨_, List.getElem?_eq_getElem hlt⟩
        obtain ⟨R, cr, vals, hSp, s1, s2, hrow, hrec⟩ := h.recsAt hp hg
        have hok := h.ok.2.2.2 _ (List.mem_of_getElem? hg)
        have n1 := hok.1
        have n2 := hok.2.1
        have n3 := hok.2.2.2
        obtain ⟨ga, oa, ca, hA, hSg, _, hca, _⟩ := h.row.cell (k := k) (u := ptr p) (by rw [List.getElem?_map, hp]; rfl)
        rw [List.length_map] at hA
        injection hA with hA _ hcc
        subst hA
        subst hcc
        have f1 := (hI _ _ hJk).1
        have a1 : wr.cell? ⟨ga, oa + k, none⟩ = some (.pointer (some ⟨p, 0, none⟩)) := (cell_eq (a := ⟨ga, oa + k, none⟩) (f1.out ga (cell_lt hca) (hd _ (h.hS _ hSg)))).trans hca
        have a2 : wr.cell? ⟨p, 2, none⟩ = some (.slice R g.recs.length cr) := (cell_eq (a := ⟨p, 2, none⟩) (f1.out p (cell_lt s2) (hd _ hSp))).trans s2
        have HS := Lib.hid (numS_succ hg)
        have hlt' : (k : Int) < (ps.length : Int) := by omega
        have HG := Lib.hid hg
        have hcap := hrow.val
        clear hok hca f1 hg hp
        go_wp2
        clear a1 a2
        go_loopw [24] (fun i wr => ∃ j : Nat, j ≤ g.recs.length ∧ i = .int .i64 (j : Int) ∧ J ((numS (gs.take k)).length + j) wr) (fun i _ => g.recs.length - (intOf i).toNat)
        case atStart => exact ⟨0, Nat.zero_le _, rfl, hJk⟩
        case round =>
          obtain ⟨j, hj, rfl, hJj⟩ := hrel
          by_cases hjl : j < g.recs.length
          · obtain ⟨r, hr⟩ : ∃ r, g.recs[j]? = some r := ⟨_, List.getElem?_eq_getElem hjl⟩
            obtain ⟨A', c', hv, hc', hm', ho⟩ := hrec.2 j r hr
            have hrl := n3 r (List.mem_of_getElem? hr)
            obtain ⟨gr, or_, cr', hR, hSgr, _, hcr, _⟩ := hrow.cell hv
            injection hR with hR hRl hRc
            subst hR
            clear hRl hRc
            have f2 := (hI _ _ hJj).1
            have b1 : wr.cell? ⟨gr, or_ + j, none⟩ = some (.slice A' r.length c') := (cell_eq (a := ⟨gr, or_ + j, none⟩) (f2.out gr (cell_lt hcr) (hd _ hSgr))).trans hcr
            have b2 : wr.cell? ⟨p, 1, none⟩ = some (.int .i64 (g.base : Int)) := (cell_eq (a := ⟨p, 1, none⟩) (f2.out p (cell_lt s1) (hd _ hSp))).trans s1
            have ho2 : Own Any wr A' r := ho.fr f2
            have HN := Lib.hid (numS_at HG.out hr)
            have hjl' : (j : Int) < (g.recs.length : Int) := by omega
            have k1 : IntKind.i64.wrap ((g.base : Int) + (j : Int)) = (g.base : Int) + (j : Int) := by rw [IntKind.wrap_i64]; omega
            clear hcr f2 hr hv
            go_wp2
            refine wp_region_T #[[], [], [], [], [], [], [4], [], [], [4], [4]] [4] (fun w' => w'.cell? ⟨p, 1, none⟩ = some (.int .i64 (g.base : Int)) ∧ True) 11 rfl (by kernel_rfl) ?_
            (refine wpAnyT_free (i := 0) rfl (by kernel_rfl) rfl (fun _ _ _ h => h) (by kernel_rfl) (fun _ => by go_simp; try rfl) ?_; (try simp only [Act.put, List.setIfInBounds_toArray, List.set_cons_zero, List.set_cons_succ]))
            (refine wpAnyT_free (i := 1) rfl (by kernel_rfl) rfl (fun _ _ _ h => h) (by kernel_rfl) (fun _ => by go_simp; try rfl) ?_; (try simp only [Act.put, List.setIfInBounds_toArray, List.set_cons_zero, List.set_cons_succ]))
            (refine wpAnyT_free (i := 2) rfl (by kernel_rfl) rfl (fun _ _ _ h => h) (by kernel_rfl) (fun _ => by go_simp; try rfl) ?_; (try simp only [Act.put, List.setIfInBounds_toArray, List.set_cons_zero, List.set_cons_succ]))
            (refine wpAnyT_free (i := 3) rfl (by kernel_rfl) rfl (fun _ _ _ h => h) (by kernel_rfl) (fun _ => by go_simp; try rfl) ?_; (try simp only [Act.put, List.setIfInBounds_toArray, List.set_cons_zero, List.set_cons_succ]))
            (refine wpAnyT_read (i := 4) rfl (by kernel_rfl) rfl (fun _ _ _ h => h) (by kernel_rfl) (⟨b2, trivial⟩) (fun w hS_ => by obtain ⟨s_1, s_2⟩ := hS_; go_simp; try rfl) ?_; (try simp only [Act.put, List.setIfInBounds_toArray, List.set_cons_zero, List.set_cons_succ]))
            (refine wpAnyT_free (i := 5) rfl (by kernel_rfl) rfl (fun _ _ _ h => h) (by kernel_rfl) (fun _ => by go_simp; try rfl) ?_; (try simp only [Act.put, List.setIfInBounds_toArray, List.set_cons_zero, List.set_cons_succ]))
            (refine wpAnyT_free (i := 6) rfl (by kernel_rfl) rfl (fun _ _ _ h => h) (by kernel_rfl) (fun _ => by go_simp; try rfl) ?_; (try simp only [Act.put, List.setIfInBounds_toArray, List.set_cons_zero, List.set_cons_succ]))
            (refine wpAnyT_free (i := 7) rfl (by kernel_rfl) rfl (fun _ _ _ h => h) (by kernel_rfl) (fun _ => by go_simp; try rfl) ?_; (try simp only [Act.put, List.setIfInBounds_toArray, List.set_cons_zero, List.set_cons_succ]))
            refine wpAnyT_one (i := 8) rfl (by kernel_rfl) rfl ?_
            intro K_ hK_
            go_wp2_with ((go_at_call 80; refine (clone_B Non A' r c' _ (ho2.rd _).drew (by omega)).mono ?_; rintro e w4 ⟨A4, c4, rfl, hor4, hc4, hm4, hb4⟩))
            refine hK_ _ _ ?_ ?_
            · exact fun _ _ => ⟨(hb4.cell (p := ⟨p, 1, none⟩) (cell_lt b2)).trans b2, trivial⟩
            clear hK_ K_
            (try simp only [Act.put, List.setIfInBounds_toArray, List.set_cons_zero, List.set_cons_succ])
            refine wpAnyT_sink (i := 9) rfl (by kernel_rfl) rfl (by kernel_rfl) ?_
            intro K_ hK_
            (go_wp2; refine (hY ⟨⟩ ((numS (gs.take k)).length + j) w4 (g.base + j) r A4 c4 (hJ _ _ _ hJj ⟨hb4.os, hb4.tape, hb4.output, hb4.size, hb4.block⟩) HN.out ((Own.of_row' hor4).mono (fun _ _ => trivial)) hc4 hm4).mono ?_; rintro e W' ⟨rfl, hJ'⟩; go_wp2)
            (try (refine hK_ _ _ ?_; clear hK_ K_))
            (try simp only [Act.put, List.setIfInBounds_toArray, List.set_cons_zero, List.set_cons_succ])
            (refine wpAnyT_free (i := 10) rfl (by kernel_rfl) rfl (fun _ _ _ h => h) (by kernel_rfl) (fun _ => by go_simp; try rfl) ?_; (try simp only [Act.put, List.setIfInBounds_toArray, List.set_cons_zero, List.set_cons_succ]))
            refine wpAnyT_done (by kernel_rfl) ?_ _
            go_wp2
            go_roundw
            case rel => exact ⟨j + 1, by omega, by go_num, hJ'⟩
            case measure => simp [intOf]; omega
          · obtain rfl : j = g.recs.length := by omega
            go_wp2
            go_roundw
            case rel => exact ⟨k + 1, by omega, by go_num, by rw [HS.out]; exact hJj⟩
            case measure => simp [intOf]; omega
      · obtain rfl : k = ps.length := by omega
        rw [List.take_of_length_le (by rw [HQ.out]; omega)] at hJk
        go_wp2
        refine bodyPost_end (results_none rfl _ _ _) rfl ?_
        exact ⟨rfl, hJk⟩
  · go_enter Tryd.func118, Tryd.ntmps118
    go_step3
    go_wp2_with (go_at_call 82; refine (askedL h).mono ?_; rintro e w' ⟨rfl, rfl⟩)
    refine bodyPost_ret (results_none rfl _ _ _) rfl ?_
    exact ⟨rfl, h0⟩
end
end Go.Proofs.YtediidajdpdeiaaDoor

/- The log's Segments (layer 7): the walk. -/
namespace Go.Proofs.YtediidajdpdeiaaDoor
open Go.RowKit CrcM
set_option maxRecDepth 100000

abbrev TPd : TypeId := 87
theorem info_pd : (Tryd.prog.info? TPd).map (fun i => (i.zero, i.size, i.bytes)) = some (some (.pointer none), 1, 8) := by kernel_rfl

/-- copies of the segments' disks, each for itself, none in Ro -/
def DisksAt (B : Nat) (Ro : Nat → Prop) (w : World) (vals : List Value) (gs : List Sg) : Prop := vals.length = gs.length ∧ ∀ (k : Nat) (g : Sg), gs[k]? = some g → ∃ (Sd : Nat → Prop) (db : Nat) (A : Option Addr) (c : Nat), vals[k]? = some (.pointer (some ⟨db, 0, none⟩)) ∧ DiskAt Sd w db A c g.d ∧ ∀ x, Sd x → B ≤ x ∧ ¬ Ro x
theorem DisksAt.fr {B : Nat} {Ro S' : Nat → Prop} {w w' : World} {vals : List Value} {gs : List Sg} (h : DisksAt B Ro w vals gs) (f : Fr S' w w') (hd : ∀ x, S' x → B ≤ x → Ro x) : DisksAt B Ro w' vals gs :=
  ⟨h.1, fun k g hg => by
    obtain ⟨Sd, db, A, c, h1, h2, h3⟩ := h.2 k g hg
    exact ⟨Sd, db, A, c, h1, h2.fr f (fun x hx hy => ((h3 x hx).2 (hd x hy (h3 x hx).1)).elim), h3⟩⟩

section
variable {S H : Nat → Prop} {w : World} {b : Nat} {A : Option Addr} {c : Nat} {ps : List Nat} {L : Lg}
/-- WHAT Segments leaves -/
def SegsDid (w : World) (L : Lg) (e : Ending) (w' : World) : Prop :=
  ∃ v vals Ro, e = .returned v ∧ Row Ro w' TPd v vals ∧ DisksAt w.heap.size Ro w' vals L.segs ∧ Below w.heap.size w w'
theorem segmentsL (h : LogO S H w b A c ps L) : Calls Tryd.prog 36 #[.pointer (some ⟨b, 0, none⟩)] w (SegsDid w L) := by
  obtain ⟨id_, hid, hzd, hsd, hbd⟩ := info_parts info_pd
  obtain ⟨per, gs, dn⟩ := L
  obtain ⟨c0, c1, c2, z1, z2, q0, q1, q2, q3, q4⟩ := h.facts
  have HQ := Lib.hid q1
  clear q1
  go_enter Tryd.func36, Tryd.ntmps36
  go_wp2_with (go_at_call 87; refine (noneL h).mono ?_; rintro e w' ⟨rfl, rfl⟩)
  clear c0 c1 c2 z1 z2 q0
  go_loopw [3, 13] (fun v i wr => ∃ (k : Nat) (vals : List Value) (Ro : Nat → Prop), k ≤ ps.length ∧ i = .int .i64 (k : Int) ∧ Row Ro wr TPd v vals ∧ (∀ x, Ro x → w.heap.size ≤ x ∧ x < wr.heap.size) ∧ DisksAt w.heap.size Ro wr vals (gs.take k) ∧ Below w.heap.size w wr) (fun _ i _ => ps.length - (intOf i).toNat)
  case atStart => exact ⟨0, [], fun _ => False, Nat.zero_le _, rfl, Row.nil _ _ _, fun _ h => h.elim, ⟨rfl, fun k g hg => (by simp at hg)⟩, Below.refl _ _⟩
  case round =>
    obtain ⟨k, vals, Ro, hk, rfl, hrow, hRo, hds, hb⟩ := hrel
    obtain ⟨R, cr, rfl, hcr, hmr⟩ := hrow.val
    by_cases hlt : k < ps.length
    · obtain ⟨g, hg⟩ : ∃ g, gs[k]? = some g := ⟨_, List.getElem?_eq_getElem (show k < gs.length by have := HQ.out; omega)⟩
      obtain ⟨p, hp⟩ : ∃ p, ps[k]? = some p := ⟨_, List.getElem?_eq_getElem hlt⟩
      have h2 := h.below hb
      obtain ⟨Sd, db, Rd, cR, s0, hd, hSd, -⟩ := h2.disk (d := g.d) (base := g.base) (recs := g.recs) (safe := g.safe) hp hg
      obtain ⟨ad, rfl, ca⟩ := h2.ptrAt hp
      have hvl : vals.length = k := by rw [hds.1, List.length_take]; have := HQ.out; omega
      have HV := Lib.hid hvl
      have htk : gs.take (k + 1) = gs.take k ++ [g] := by rw [List.take_add_one, hg]; rfl
      have HT := Lib.hid htk
      have hlt' : (k : Int) < (ps.length : Int) := by omega
      have HM4 : vals.length + 1 ≤ maxLen := by unfold maxLen; omega
      have HM5 : (vals.length + 1) * 8 ≤ 140737488355328 := by omega
      clear hvl htk hg hp
      go_wp2_with (first
        | (go_at_call 88; refine (copy_B hd).mono ?_; rintro e w2 ⟨p2, rfl, ⟨db2, A2, c2, rfl, hd2⟩, hb2⟩)
        | (at_builtin; refine wpList_append_row rfl (.tmp 17) (.tmp 23) 55 rfl TPd id_ _ 8 Tryd.underlying55 hid hzd hsd hbd rfl (.slice R vals.length cr) vals rfl ((hrow.below hb2).below (below_new _ _)) ⟨w2.heap.size, 0, none⟩ (.pointer (some ⟨db2, 0, none⟩)) rfl (heap_new_cell _ _ _) rfl HM4 HM5 (by decide) ?_; intro v5 w5 hrow5 hf5 hoth5; obtain ⟨A5, c5, rfl, hc5, hm5⟩ := hrow5.val; rw [List.length_append, List.length_singleton] at hrow5 hc5 ⊢))
      have hbn := below_new w2 (.cells #[.pointer (some ⟨db2, 0, none⟩)] TPd)
      have hw2 : w.heap.size ≤ w2.heap.size := Nat.le_trans hb.size hb2.size
      have hb24 : Below w2.heap.size w2 (w2.alloc (.cells #[.pointer (some ⟨db2, 0, none⟩)] TPd)) := hbn
      have hb5 : Below w.heap.size w w5 := ((hb.trans (hb2.mono hb.size)).trans (hbn.mono hw2)).trans ⟨hf5.os, hf5.tape, hf5.output, hf5.size, fun x hx => hf5.out x (Nat.lt_of_lt_of_le hx (Nat.le_trans hw2 hbn.size)) (fun hr => by have := (hRo x hr).1; omega)⟩
      have hd5 : DisksAt w.heap.size (Up Ro (w2.alloc (.cells #[.pointer (some ⟨db2, 0, none⟩)] TPd)) w5) w5 (vals ++ [.pointer (some ⟨db2, 0, none⟩)]) (gs.take (k + 1)) := by
        refine ⟨by rw [HT.out, List.length_append, List.length_append, hds.1]; rfl, fun j g' hg' => ?_⟩
        rw [HT.out] at hg'
        by_cases hj : j < (gs.take k).length
        · rw [List.getElem?_append_left hj] at hg'
          obtain ⟨Sd', db', A', c', h1, hd', h3⟩ := hds.2 j g' hg'
          refine ⟨Sd', db', A', c', by rw [List.getElem?_append_left (by rw [hds.1]; exact hj)]; exact h1, ((hd'.below hb2).below hbn).fr hf5 (fun x hx hr => ((h3 x hx).2 hr).elim), fun x hx => ⟨(h3 x hx).1, fun hr => hr.elim (h3 x hx).2 (fun q => ?_)⟩⟩
          have := hd'.lt x hx
          have := Nat.le_trans hb2.size (Nat.le_trans hbn.size q.1)
          omega
        · have hjl := (List.getElem?_eq_some_iff.1 hg').1
          rw [List.length_append, List.length_singleton] at hjl
          have hjk : j = vals.length := by rw [hds.1]; omega
          rw [List.getElem?_append_right (by omega), show j - (gs.take k).length = 0 by omega] at hg'
          injection hg' with hg'
          subst hg'
          refine ⟨Nw wr w2, db2, A2, c2, by rw [hjk, List.getElem?_append_right (Nat.le_refl _), Nat.sub_self]; rfl, (hd2.below hbn).fr hf5 (fun x hx hr => by have := (hRo x hr).2; have := hx.1; omega), fun x hx => ⟨Nat.le_trans hb.size hx.1, fun hr => hr.elim (fun hr => by have := (hRo x hr).2; have := hx.1; omega) (fun q => ?_)⟩⟩
          have := Nat.le_trans hbn.size q.1
          have := hx.2
          omega
      go_roundw
      case rel => exact ⟨k + 1, _, _, by omega, by go_num, hrow5, fun x hx => hx.elim (fun hx => ⟨(hRo x hx).1, Nat.lt_of_lt_of_le (hRo x hx).2 (Nat.le_trans hb2.size (Nat.le_trans hbn.size hf5.size))⟩) (fun q => ⟨Nat.le_trans hw2 (Nat.le_trans hbn.size q.1), q.2⟩), hd5, hb5⟩
      case measure => simp [intOf]; omega
    · obtain rfl : k = ps.length := by omega
      rw [List.take_of_length_le (by rw [HQ.out]; omega)] at hds
      have hP : SegsDid w ⟨per, gs, dn⟩ (.returned (.slice R vals.length cr)) wr := ⟨_, vals, Ro, rfl, hrow, hds, hb⟩
      clear hds
      go_wp2
      go_ret
      exact hP
end
end Go.Proofs.YtediidajdpdeiaaDoor

/- Frames, plainly: what Next, Good and All answer of framed bytes. No program is in sight. -/
namespace Go.Proofs.YtediidajdpdeiaaDoor
open CrcM

theorem num4_app (a l : List UInt8) (h : a.length = 4) : num4 (a ++ l) = num4 a := by
  match a, h with
  | [_, _, _, _], _ => rfl
theorem num4_lt4 (a : List UInt8) : num4 a < 4294967296 := num4_lt a
theorem num4_four' (n : Nat) (h : n < 4294967296) : num4 (four n) = n := by
  have := num4_four n h []
  rwa [List.append_nil] at this
theorem num4_inj {a b : List UInt8} (ha : a.length = 4) (hb : b.length = 4) (h : num4 a = num4 b) : a = b := by
  match a, ha, b, hb, h with
  | [a0, a1, a2, a3], _, [b0, b1, b2, b3], _, h =>
    have e : ∀ x0 x1 x2 x3 : UInt8, num4 [x0, x1, x2, x3] = x0.toNat + x1.toNat * 256 + x2.toNat * 65536 + x3.toNat * 16777216 := fun _ _ _ _ => rfl
    rw [e, e] at h
    have := a0.toNat_lt
    have := a1.toNat_lt
    have := a2.toNat_lt
    have := a3.toNat_lt
    have := b0.toNat_lt
    have := b1.toNat_lt
    have := b2.toNat_lt
    have := b3.toNat_lt
    have h0 : a0 = b0 := UInt8.toNat_inj.1 (by omega)
    have h1 : a1 = b1 := UInt8.toNat_inj.1 (by omega)
    have h2 : a2 = b2 := UInt8.toNat_inj.1 (by omega)
    have h3 : a3 = b3 := UInt8.toNat_inj.1 (by omega)
    rw [h0, h1, h2, h3]

/-- what Next answers where twelve bytes stand, and others behind -/
theorem next_of (pre a b c x : List UInt8) (ha : a.length = 4) (hb : b.length = 4) (hc : c.length = 4) :
    next (pre ++ (a ++ (b ++ (c ++ x)))) (pre.length : Int) =
      if (sum a).toNat ≠ num4 b then .error 6
      else if 65536 < num4 a then .error 3
      else if x.length < num4 a then .error 4
      else if (sum (x.take (num4 a))).toNat ≠ num4 c then .error 6
      else .ok (x.take (num4 a), pre.length + 12 + num4 a) := by
  have hL : (pre ++ (a ++ (b ++ (c ++ x)))).length = pre.length + (12 + x.length) := by
    simp only [List.length_append, ha, hb, hc]; omega
  unfold next
  rw [if_neg (by rw [hL]; omega), if_neg (by rw [hL]; omega), Int.toNat_natCast]
  have hd : (pre ++ (a ++ (b ++ (c ++ x)))).drop (pre.length + 12) = x := by
    have h1 : pre ++ (a ++ (b ++ (c ++ x))) = (pre ++ (a ++ (b ++ c))) ++ x := by simp only [List.append_assoc]
    rw [h1]
    exact List.drop_left' (by simp only [List.length_append, ha, hb, hc])
  have ht : ((pre ++ (a ++ (b ++ (c ++ x)))).take (pre.length + 12)).drop pre.length = a ++ (b ++ c) := by
    have h1 : pre ++ (a ++ (b ++ (c ++ x))) = (pre ++ (a ++ (b ++ c))) ++ x := by simp only [List.append_assoc]
    rw [h1, List.take_left' (by simp only [List.length_append, ha, hb, hc]), List.drop_left' rfl]
  have e1 : (a ++ (b ++ c)).take 4 = a := List.take_left' ha
  have e2 : (a ++ (b ++ c)).drop 4 = b ++ c := List.drop_left' ha
  have e3 : (a ++ (b ++ c)).drop 8 = c := by
    rw [← List.append_assoc]
    exact List.drop_left' (by simp only [List.length_append, ha, hb])
  simp only [hd, ht, e1, e2, e3, num4_app a _ ha, num4_app b _ hb]

theorem next_frame (pre body post : List UInt8) (h : body.length ≤ 65536) : next (pre ++ (frame body ++ post)) (pre.length : Int) = .ok (body, pre.length + (frame body).length) := by
  have hs1 := (sum (four body.length)).isLt
  have hs2 := (sum body).isLt
  have e : pre ++ (frame body ++ post) = pre ++ (four body.length ++ (four (sum (four body.length)).toNat ++ (four (sum body).toNat ++ (body ++ post)))) := by
    simp only [frame, List.append_assoc]
  rw [e, next_of _ _ _ _ _ (length_four _) (length_four _) (length_four _), num4_four' body.length (by omega), num4_four' _ hs1, num4_four' _ hs2]
  rw [if_neg (by simp), if_neg (by omega), if_neg (by simp), List.take_left' rfl, if_neg (by simp), length_frame]
  congr 2
  omega

/-- cut anywhere a frame is short -/
theorem next_cut (body : List UInt8) (h : body.length ≤ 65536) (i : Nat) (hi : i < (frame body).length) : next ((frame body).take i) 0 = .error 4 := by
  by_cases h12 : i < 12
  · unfold next
    have hl : ((frame body).take i).length = i := by rw [List.length_take]; omega
    rw [if_neg (by rw [hl]; omega), if_pos (by rw [hl]; omega)]
  · have hs1 := (sum (four body.length)).isLt
    have hs2 := (sum body).isLt
    rw [length_frame] at hi
    have e : (frame body).take i = [] ++ (four body.length ++ (four (sum (four body.length)).toNat ++ (four (sum body).toNat ++ body.take (i - 12)))) := by
      rw [List.nil_append, frame, List.take_append, List.take_append, List.take_append, List.take_of_length_le (by rw [length_four]; omega), List.take_of_length_le (by rw [length_four, length_four]; omega), List.take_of_length_le (by simp only [length_four]; omega)]
      simp only [length_four]
      rw [show i - 4 - 4 - 4 = i - 12 by omega]
    have h0 := next_of [] (four body.length) (four (sum (four body.length)).toNat) (four (sum body).toNat) (body.take (i - 12)) (length_four _) (length_four _) (length_four _)
    rw [← e, num4_four' body.length (by omega), num4_four' _ hs1, num4_four' _ hs2, if_neg (by simp), if_neg (by omega), if_pos (by rw [List.length_take]; omega)] at h0
    exact h0

theorem set_app {α : Type} (l : List α) (i : Nat) (x y : α) (h : l[i]? = some x) : l = l.take i ++ x :: l.drop (i + 1) ∧ l.set i y = l.take i ++ y :: l.drop (i + 1) := by
  obtain ⟨hlt, e⟩ := List.getElem?_eq_some_iff.1 h
  refine ⟨?_, List.set_eq_take_append_cons_drop.trans (if_pos hlt)⟩
  conv => lhs; rw [← List.take_append_drop i l]
  rw [List.drop_eq_getElem_cons hlt, e]

/-- a byte turned: other bytes -/
theorem set_ne {l : List UInt8} {i : Nat} {x y : UInt8} (h : l[i]? = some x) (hxy : y ≠ x) : l.set i y ≠ l := by
  obtain ⟨e1, e2⟩ := set_app l i x y h
  intro e
  have := List.append_cancel_left (e2.symm.trans (e.trans e1))
  injection this with h1 _
  exact hxy h1
theorem sum_set {l : List UInt8} {i : Nat} {x y : UInt8} (h : l[i]? = some x) (hxy : y ≠ x) : sum (l.set i y) ≠ sum l := by
  obtain ⟨e1, e2⟩ := set_app l i x y h
  intro e
  exact hxy (sum_one ((congrArg sum e2).symm.trans (e.trans (congrArg sum e1))))

theorem next_turned (body : List UInt8) (h : body.length ≤ 65536) (i : Nat) (x y : UInt8) (hx : (frame body)[i]? = some x) (hxy : y ≠ x) : next ((frame body).set i y) 0 = .error 6 := by
  have hs1 := (sum (four body.length)).isLt
  have hs2 := (sum body).isLt
  have hn : body.length < 4294967296 := by omega
  have hi : i < (frame body).length := (List.getElem?_eq_some_iff.1 hx).1
  rw [length_frame] at hi
  unfold frame at hx ⊢
  generalize hs1' : (sum (four body.length)).toNat = s1 at *
  generalize hs2' : (sum body).toNat = s2 at *
  have go : ∀ a b c z : List UInt8, a.length = 4 → b.length = 4 → c.length = 4 → next (a ++ (b ++ (c ++ z))) 0 =
      if (sum a).toNat ≠ num4 b then .error 6 else if 65536 < num4 a then .error 3 else if z.length < num4 a then .error 4
      else if (sum (z.take (num4 a))).toNat ≠ num4 c then .error 6 else .ok (z.take (num4 a), 0 + 12 + num4 a) := fun a b c z ha hb hc => next_of [] a b c z ha hb hc
  have l4 := length_four body.length
  have l41 := length_four s1
  have l42 := length_four s2
  by_cases h1 : i < 4
  · rw [List.getElem?_append_left (by omega)] at hx
    rw [List.set_append_left _ _ (by omega), go _ _ _ _ (by rw [List.length_set]; exact l4) l41 l42, if_pos]
    rw [num4_four' _ hs1, ← hs1']
    intro e
    exact sum_set hx hxy (BitVec.eq_of_toNat_eq e)
  · rw [List.getElem?_append_right (by omega), l4] at hx
    rw [List.set_append_right _ _ (by omega), l4]
    by_cases h2 : i < 8
    · rw [List.getElem?_append_left (by omega)] at hx
      rw [List.set_append_left _ _ (by omega), go _ _ _ _ l4 (by rw [List.length_set]; exact l41) l42, if_pos]
      rw [hs1']
      intro e
      exact set_ne hx hxy (num4_inj (by rw [List.length_set]; exact l41) l41 (e.symm.trans (num4_four' _ hs1).symm))
    · rw [List.getElem?_append_right (by omega), l41] at hx
      rw [List.set_append_right _ _ (by omega), l41]
      by_cases h3 : i < 12
      · rw [List.getElem?_append_left (by omega)] at hx
        rw [List.set_append_left _ _ (by omega), go _ _ _ _ l4 l41 (by rw [List.length_set]; exact l42), hs1', num4_four' _ hs1, num4_four' _ hn, if_neg (by simp), if_neg (by omega), if_neg (by omega), if_pos]
        rw [List.take_of_length_le (Nat.le_refl _), hs2']
        intro e
        exact set_ne hx hxy (num4_inj (by rw [List.length_set]; exact l42) l42 (e.symm.trans (num4_four' _ hs2).symm))
      · rw [List.getElem?_append_right (by omega), l42] at hx
        rw [List.set_append_right _ _ (by omega), l42, go _ _ _ _ l4 l41 l42, hs1', num4_four' _ hs1, num4_four' _ hn, num4_four' _ hs2, if_neg (by simp), if_neg (by omega), if_neg (by rw [List.length_set]; omega), if_pos]
        rw [List.take_of_length_le (by rw [List.length_set]; exact Nat.le_refl _), ← hs2']
        intro e
        exact sum_set hx hxy (BitVec.eq_of_toNat_eq e)

/-- frames one behind the other -/
def frames (bs : List (List UInt8)) : List UInt8 := (bs.map frame).flatten
theorem frames_cons (x : List UInt8) (bs : List (List UInt8)) : frames (x :: bs) = frame x ++ frames bs := rfl
theorem frames_append (a b : List (List UInt8)) : frames (a ++ b) = frames a ++ frames b := by simp [frames]
theorem frames_split (bs : List (List UInt8)) (k : Nat) (x : List UInt8) (hx : bs[k]? = some x) (tail : List UInt8) :
    frames bs ++ tail = frames (bs.take k) ++ (frame x ++ (frames (bs.drop (k + 1)) ++ tail)) := by
  obtain ⟨e, -⟩ := set_app bs k x x hx
  have : frames bs = frames (bs.take k) ++ (frame x ++ frames (bs.drop (k + 1))) := by
    conv => lhs; rw [e]
    rw [frames_append, frames_cons]
  rw [this]
  simp only [List.append_assoc]
theorem frames_take_succ (bs : List (List UInt8)) (k : Nat) (x : List UInt8) (hx : bs[k]? = some x) : frames (bs.take (k + 1)) = frames (bs.take k) ++ frame x := by
  rw [List.take_add_one, hx, frames_append]
  simp [frames]
theorem next_frames (bs : List (List UInt8)) (hb : ∀ x ∈ bs, x.length ≤ 65536) (tail : List UInt8) (k : Nat) (x : List UInt8) (hx : bs[k]? = some x) :
    next (frames bs ++ tail) ((frames (bs.take k)).length : Int) = .ok (x, (frames (bs.take (k + 1))).length) := by
  rw [frames_split bs k x hx tail, next_frame _ _ _ (hb x (List.mem_of_getElem? hx)), frames_take_succ bs k x hx, List.length_append]
theorem pos_frames (bs : List (List UInt8)) (hb : ∀ x ∈ bs, x.length ≤ 65536) (tail : List UInt8) : ∀ k, k ≤ bs.length → Pos (frames bs ++ tail) k (frames (bs.take k)).length
  | 0, _ => .start
  | k + 1, h => by
    obtain ⟨x, hx⟩ : ∃ x, bs[k]? = some x := ⟨_, List.getElem?_eq_getElem (by omega)⟩
    exact .step (pos_frames bs hb tail k (by omega)) (next_frames bs hb tail k x hx)

theorem Pos.lt {b : List UInt8} {k p q r : Nat} (h : Pos b k p) (h' : Pos b q r) (hk : k < q) : ∃ z, next b p = .ok z := by
  induction h' with
  | start => omega
  | step h1 h2 ih =>
    rename_i k' at_ body en
    rcases Nat.lt_or_ge k k' with hlt | hge
    · exact ih hlt
    · obtain rfl : k = k' := by omega
      obtain rfl := h.det h1
      exact ⟨_, h2⟩
/-- the last place is the last -/
theorem Pos.end_ {b : List UInt8} {k p q s : Nat} {r r' : Int} (h : Pos b k p) (he : next b p = .error r) (h' : Pos b q s) (he' : next b s = .error r') : k = q ∧ p = s := by
  have hkq : k = q := by
    rcases Nat.lt_trichotomy k q with hlt | rfl | hlt
    · obtain ⟨z, hz⟩ := h.lt h' hlt
      rw [he] at hz; cases hz
    · rfl
    · obtain ⟨z, hz⟩ := h'.lt h hlt
      rw [he'] at hz; cases hz
  subst hkq
  exact ⟨rfl, h.det h'⟩
theorem GoodIs.det {b : List UInt8} {p q : Nat} {r s : Int} (h : GoodIs b p r) (h' : GoodIs b q s) : p = q ∧ r = s := by
  obtain ⟨k, hk, r1, e1, rfl⟩ := h
  obtain ⟨m, hm, r2, e2, rfl⟩ := h'
  obtain ⟨_, rfl⟩ := hk.end_ e1 hm e2
  rw [e1] at e2
  injection e2 with e2
  rw [e2]
  exact ⟨rfl, rfl⟩
/-- what lies behind a place is not ahead of it -/
theorem Pos.mono {b : List UInt8} {k p q s : Nat} (h : Pos b k p) (h' : Pos b q s) (hk : k ≤ q) : p ≤ s := by
  induction h' with
  | start => obtain rfl : k = 0 := by omega
             rw [h.det .start]; exact Nat.le_refl _
  | step h1 h2 ih =>
    rename_i k' at_ body en
    rcases Nat.lt_or_ge k (k' + 1) with hlt | hge
    · have := ih (by omega)
      have := (next_ok h2).1
      simp only at this; omega
    · obtain rfl : k = k' + 1 := by omega
      rw [h.det (.step h1 h2)]
      exact Nat.le_refl _
theorem next_end (b : List UInt8) : next b (b.length : Int) = .error 4 := by
  unfold next
  rw [if_neg (by omega), if_pos (by omega)]
end Go.Proofs.YtediidajdpdeiaaDoor

/- What a crash leaves of frames one behind the other (layer 7), in plain words: bytes cut short, in which one byte at most is another, have a beginning of the frames, and no other. -/
namespace Go.Proofs.YtediidajdpdeiaaDoor
open CrcM

/-- u says what v says, but where P allows another -/
def Ag (P : Nat → Prop) (u v : List UInt8) : Prop := ∀ j, j < u.length → ¬ P j → u[j]? = v[j]?
def One (P : Nat → Prop) : Prop := ∀ j k, P j → P k → j = k
/-- s is a beginning of o in which one byte at most is another -/
def Near (o s : List UInt8) : Prop := s.length ≤ o.length ∧ ∃ P : Nat → Prop, One P ∧ Ag P s o

theorem One.shift {P : Nat → Prop} (h : One P) (n : Nat) : One (fun j => P (j + n)) := fun j k hj hk => by
  have := h _ _ hj hk; omega
theorem Ag.eq {P : Nat → Prop} {u v : List UInt8} (h : Ag P u v) (hl : u.length = v.length) (hp : ∀ j, j < u.length → ¬ P j) : u = v := by
  apply List.ext_getElem?
  intro j
  by_cases hj : j < u.length
  · exact h j hj (hp j hj)
  · rw [List.getElem?_eq_none_iff.2 (by omega), List.getElem?_eq_none_iff.2 (by omega)]
theorem Ag.left {P : Nat → Prop} {u v o p : List UInt8} (h : Ag P (u ++ v) (o ++ p)) (hl : u.length = o.length) : Ag P u o := fun j hj hn => by
  have := h j (by rw [List.length_append]; omega) hn
  rwa [List.getElem?_append_left hj, List.getElem?_append_left (by omega)] at this
theorem Ag.right {P : Nat → Prop} {u v o p : List UInt8} (h : Ag P (u ++ v) (o ++ p)) (hl : u.length = o.length) : Ag (fun j => P (j + u.length)) v p := fun j hj hn => by
  have := h (j + u.length) (by rw [List.length_append]; omega) hn
  rwa [List.getElem?_append_right (by omega), List.getElem?_append_right (by omega), Nat.add_sub_cancel, ← hl, Nat.add_sub_cancel] at this
theorem Ag.sum {P : Nat → Prop} {u v : List UInt8} (ho : One P) (h : Ag P u v) (hl : u.length = v.length) (hs : sum u = sum v) : u = v := by
  by_cases hp : ∃ i, i < u.length ∧ P i
  · obtain ⟨i, hi, hpi⟩ := hp
    obtain ⟨y, hy⟩ : ∃ y, u[i]? = some y := ⟨_, List.getElem?_eq_getElem hi⟩
    obtain ⟨x, hx⟩ : ∃ x, v[i]? = some x := ⟨_, List.getElem?_eq_getElem (by omega)⟩
    have e : u = v.set i y := by
      apply List.ext_getElem?
      intro j
      rw [List.getElem?_set]
      by_cases hj : i = j
      · subst hj
        rw [if_pos rfl, if_pos (by omega), hy]
      · rw [if_neg hj]
        by_cases hlt : j < u.length
        · exact h j hlt (fun hpj => hj (ho _ _ hpi hpj))
        · rw [List.getElem?_eq_none_iff.2 (by omega), List.getElem?_eq_none_iff.2 (by omega)]
    by_cases hxy : y = x
    · subst hxy
      rw [e]
      apply List.ext_getElem?
      intro j
      rw [List.getElem?_set]
      split
      · rename_i hj
        subst hj
        rw [if_pos (by omega), hx]
      · rfl
    · exact (sum_set hx hxy (by rw [← e]; exact hs)).elim
  · exact h.eq hl fun j hj hpj => hp ⟨j, hj, hpj⟩

theorem split12 (s : List UInt8) (h : 12 ≤ s.length) : ∃ a b c x : List UInt8, s = a ++ (b ++ (c ++ x)) ∧ a.length = 4 ∧ b.length = 4 ∧ c.length = 4 := by
  refine ⟨s.take 4, (s.drop 4).take 4, (s.drop 8).take 4, s.drop 12, ?_, by rw [List.length_take]; omega, by rw [List.length_take, List.length_drop]; omega, by rw [List.length_take, List.length_drop]; omega⟩
  have e1 : s.drop 12 = (s.drop 8).drop 4 := by rw [List.drop_drop]
  have e2 : s.drop 8 = (s.drop 4).drop 4 := by rw [List.drop_drop]
  rw [e1, List.take_append_drop, e2, List.take_append_drop, List.take_append_drop]

theorem Near.next {b rest s pre z : List UInt8} {en : Nat} (hb : b.length ≤ 65536) (h : Near (frame b ++ rest) s) (hn : next (pre ++ s) (pre.length : Int) = .ok (z, en)) :
    z = b ∧ en = pre.length + (frame b).length ∧ ∃ s', s = frame b ++ s' ∧ Near rest s' := by
  obtain ⟨hle, P, ho, hag⟩ := h
  have h12 : 12 ≤ s.length := by
    apply Nat.le_of_not_lt
    intro h12
    unfold Go.Proofs.YtediidajdpdeiaaDoor.next at hn
    rw [if_neg (by rw [List.length_append]; omega), if_pos (by rw [List.length_append]; omega)] at hn
    cases hn
  obtain ⟨a, b', c, x, rfl, ha, hb', hc⟩ := split12 s h12
  have hs1 := (sum (four b.length)).isLt
  have hs2 := (sum b).isLt
  rw [next_of _ _ _ _ _ ha hb' hc] at hn
  have e : frame b ++ rest = four b.length ++ (four (sum (four b.length)).toNat ++ (four (sum b).toNat ++ (b ++ rest))) := by simp only [frame, List.append_assoc]
  rw [e] at hag hle
  have pa := hag.left (by rw [ha, length_four])
  have h1 := hag.right (by rw [ha, length_four])
  have pb := h1.left (by rw [hb', length_four])
  have h2 := h1.right (by rw [hb', length_four])
  have pc := h2.left (by rw [hc, length_four])
  have px := h2.right (by rw [hc, length_four])
  clear h1 h2 hag
  rw [ha] at pb pc px
  rw [hb'] at pc px
  rw [hc] at px
  split at hn
  · cases hn
  rename_i g1
  split at hn
  · cases hn
  split at hn
  · cases hn
  rename_i g3
  split at hn
  · cases hn
  rename_i g4
  injection hn with hn
  injection hn with hz hen
  have g1 : (sum a).toNat = num4 b' := Classical.not_not.1 g1
  have g4 : (sum (x.take (num4 a))).toNat = num4 c := Classical.not_not.1 g4
  have ea : a = four b.length := by
    by_cases hp : ∃ i, i < a.length ∧ P i
    · obtain ⟨i, hi, hpi⟩ := hp
      have eb : b' = four (sum (four b.length)).toNat := pb.eq (by rw [hb', length_four]) fun j hj hpj => by have := ho _ _ hpi hpj; omega
      rw [eb, num4_four' _ hs1] at g1
      exact pa.sum ho (by rw [ha, length_four]) (BitVec.eq_of_toNat_eq g1)
    · exact pa.eq (by rw [ha, length_four]) fun j hj hpj => hp ⟨j, hj, hpj⟩
  subst ea
  have eb : b' = four (sum (four b.length)).toNat := num4_inj hb' (length_four _) (by rw [num4_four' _ hs1]; exact g1.symm)
  subst eb
  rw [num4_four' _ (by omega)] at g3 g4 hz hen
  have hl : (x.take b.length).length = b.length := by rw [List.length_take]; omega
  have py : Ag (fun j => P (j + 4 + 4 + 4)) (x.take b.length) b := fun j hj hn => by
    have := px j (by omega) hn
    rw [List.getElem?_append_left (by omega)] at this
    rw [List.getElem?_take_of_lt (by omega)]
    exact this
  have ey : x.take b.length = b := by
    by_cases hp : ∃ i, i < (x.take b.length).length ∧ P (i + 4 + 4 + 4)
    · obtain ⟨i, hi, hpi⟩ := hp
      have ec : c = four (sum b).toNat := pc.eq (by rw [hc, length_four]) fun j hj hpj => by have := ho _ _ hpi hpj; omega
      rw [ec, num4_four' _ hs2] at g4
      exact py.sum (((ho.shift 4).shift 4).shift 4) hl (BitVec.eq_of_toNat_eq g4)
    · exact py.eq hl fun j hj hpj => hp ⟨j, hj, hpj⟩
  have ec : c = four (sum b).toNat := num4_inj hc (length_four _) (by rw [num4_four' _ hs2, ← g4, ey])
  subst ec
  have ex : x = b ++ x.drop b.length := by
    conv => lhs; rw [← List.take_append_drop b.length x]
    rw [ey]
  refine ⟨hz ▸ ey, by rw [← hen, length_frame]; omega, x.drop b.length, ?_, ?_, fun j => P (j + b.length + 4 + 4 + 4), ?_, ?_⟩
  · conv => lhs; rw [ex]
    simp only [frame, List.append_assoc]
  · simp only [List.length_append, length_four] at hle
    rw [List.length_drop]
    omega
  · exact (((ho.shift 4).shift 4).shift 4).shift b.length
  · rw [ex] at px
    exact px.right rfl

theorem Near.refl (o : List UInt8) : Near o o := ⟨Nat.le_refl _, fun _ => False, fun _ _ h => h.elim, fun _ _ _ => rfl⟩

theorem framesF_near : ∀ (bodies : List (List UInt8)) (pre s : List UInt8) (f : Nat), (∀ b ∈ bodies, b.length ≤ 65536) → Near (frames bodies) s → s.length < f →
    ∃ (m : Nat) (s' : List UInt8), m ≤ bodies.length ∧ framesF f (pre ++ s) pre.length = (bodies.take m, pre.length + (frames (bodies.take m)).length) ∧ s = frames (bodies.take m) ++ s' ∧ ∀ j, j ≤ bodies.length → frames (bodies.take j) <+: s → j ≤ m
  | [], pre, s, f, _, hn, hf => by
    have hs : s = [] := List.eq_nil_of_length_eq_zero (by have := hn.1; simpa [frames] using this)
    subst hs
    refine ⟨0, [], Nat.le_refl _, ?_, rfl, fun j hj _ => hj⟩
    cases f with
    | zero => rfl
    | succ f =>
      have := next_end (pre ++ [])
      rw [List.append_nil] at this ⊢
      rw [framesF, this]
      rfl
  | b :: rest, pre, s, f, hb, hn, hf => by
    cases f with
    | zero => omega
    | succ f =>
      have hb0 := hb b (List.mem_cons_self ..)
      cases hr : next (pre ++ s) (pre.length : Int) with
      | error r =>
        refine ⟨0, s, Nat.zero_le _, ?_, rfl, fun j hj hp => ?_⟩
        · rw [framesF, hr]
          rfl
        · match j, hj, hp with
          | 0, _, _ => exact Nat.le_refl _
          | j + 1, hj, hp =>
            rw [List.take_succ_cons, frames_cons] at hp
            obtain ⟨t, ht⟩ := hp
            rw [List.append_assoc] at ht
            have := next_frame pre b (frames (rest.take j) ++ t) hb0
            rw [ht, hr] at this
            cases this
      | ok p =>
        obtain ⟨z, en⟩ := p
        rw [frames_cons] at hn
        obtain ⟨rfl, rfl, s', rfl, hn'⟩ := hn.next hb0 hr
        have hl := length_frame z
        have hfl : s'.length < f := by rw [List.length_append] at hf; omega
        obtain ⟨m, t, hm, he, ht, hj⟩ := framesF_near rest (pre ++ frame z) s' f (fun x hx => hb x (List.mem_cons_of_mem _ hx)) hn' hfl
        refine ⟨m + 1, t, by simpa using hm, ?_, ?_, fun j hj' hp => ?_⟩
        · rw [framesF, hr]
          simp only
          rw [List.append_assoc, List.length_append] at he
          rw [he, List.take_succ_cons, frames_cons, List.length_append, Nat.add_assoc]
        · rw [List.take_succ_cons, frames_cons, List.append_assoc, ← ht]
        · match j, hj', hp with
          | 0, _, _ => omega
          | j + 1, hj', hp =>
            rw [List.take_succ_cons, frames_cons] at hp
            have := hj j (by simpa using hj') ((List.prefix_append_right_inj _).1 hp)
            omega

theorem framesOf_near {bodies : List (List UInt8)} {s : List UInt8} (hb : ∀ b ∈ bodies, b.length ≤ 65536) (hn : Near (frames bodies) s) :
    ∃ (m : Nat) (s' : List UInt8), m ≤ bodies.length ∧ framesOf s = (bodies.take m, (frames (bodies.take m)).length) ∧ s = frames (bodies.take m) ++ s' ∧ ∀ j, j ≤ bodies.length → frames (bodies.take j) <+: s → j ≤ m := by
  obtain ⟨m, s', h1, h2, h3, h4⟩ := framesF_near bodies [] s (s.length + 1) hb hn (Nat.lt_succ_self _)
  refine ⟨m, s', h1, ?_, h3, h4⟩
  rw [List.nil_append, List.length_nil, Nat.zero_add] at h2
  exact h2

/-- what a crash leaves -/
theorem near_torn (all : List UInt8) (kept : Nat) (keep flip : Int) (hk : kept ≤ all.length) : Near all (all.take kept ++ torn (all.drop kept) keep flip) ∧ all.take kept <+: all.take kept ++ torn (all.drop kept) keep flip := by
  refine ⟨⟨?_, fun j => j = kept + flip.toNat / 8, fun j k hj hk => by rw [hj, hk], fun j hj hn => ?_⟩, List.prefix_append _ _⟩
  · have := length_torn_le (all.drop kept) keep flip
    rw [List.length_append, List.length_take]
    rw [List.length_drop] at this
    omega
  · have hl : (all.take kept).length = kept := by rw [List.length_take]; omega
    by_cases hjk : j < kept
    · rw [List.getElem?_append_left (by omega), List.getElem?_take_of_lt hjk]
    · have hlt : j - kept < (torn (all.drop kept) keep flip).length := by rw [List.length_append] at hj; omega
      rw [List.getElem?_append_right (by omega), hl]
      rw [length_torn] at hlt
      have e : (all.drop kept)[j - kept]? = all[j]? := by rw [List.getElem?_drop]; congr 1; omega
      rw [← e]
      unfold torn
      split
      · unfold turn
        have hne : ¬ flip.toNat / 8 = j - kept := by
          have hn : ¬ j = kept + flip.toNat / 8 := hn
          omega
        rw [List.getElem?_modify, List.getElem?_take_of_lt (by omega)]
        simp [hne]
      · rw [List.getElem?_take_of_lt (by omega)]
end Go.Proofs.YtediidajdpdeiaaDoor
