/- The log's Records (layer 7): the iterator, handed a function literal that never stops it. -/
import Derived.Test.YtediidajdpdeiaaDoorSegS
import Derived.WalkMore
namespace Go.Proofs.YtediidajdpdeiaaDoor
open Go.RowKit CrcM
set_option maxRecDepth 100000

/-- records with their numbers -/
def numR : Nat → List (List UInt8) → List (Nat × List UInt8)
  | _, [] => []
  | n, r :: t => (n, r) :: numR (n + 1) t
def numS (gs : List Sg) : List (Nat × List UInt8) := gs.flatMap fun g => numR g.base g.recs
theorem length_numR : ∀ (rs : List (List UInt8)) (n : Nat), (numR n rs).length = rs.length
  | [], _ => rfl
  | r :: t, n => by simp [numR, length_numR t]
theorem numR_at : ∀ (rs : List (List UInt8)) (n i : Nat) (r : List UInt8), rs[i]? = some r → (numR n rs)[i]? = some (n + i, r)
  | [], _, _, _, h => by simp at h
  | x :: t, n, 0, r, h => by
    injection h with h
    subst h
    rfl
  | x :: t, n, i + 1, r, h => by
    have := numR_at t (n + 1) i r (by simpa using h)
    simp only [numR, List.getElem?_cons_succ]
    rw [this]
    congr 2
    omega
theorem numS_at {gs : List Sg} {k i : Nat} {g : Sg} {r : List UInt8} (hg : gs[k]? = some g) (hr : g.recs[i]? = some r) : (numS gs)[(numS (gs.take k)).length + i]? = some (g.base + i, r) := by
  have e : gs = gs.take k ++ g :: gs.drop (k + 1) := by
    conv => lhs; rw [← List.take_append_drop k gs]
    rw [drop_of hg]
  have h1 : numS gs = numS (gs.take k) ++ (numR g.base g.recs ++ numS (gs.drop (k + 1))) := by
    conv => lhs; rw [e]
    simp [numS]
  have h2 := (List.getElem?_eq_some_iff.1 hr).1
  rw [h1, List.getElem?_append_right (by omega), Nat.add_sub_cancel_left, List.getElem?_append_left (by rw [length_numR]; exact h2)]
  exact numR_at _ _ _ _ hr
theorem numS_succ {gs : List Sg} {k : Nat} {g : Sg} (hg : gs[k]? = some g) : (numS (gs.take (k + 1))).length = (numS (gs.take k)).length + g.recs.length := by
  rw [List.take_add_one, hg]
  simp [numS, length_numR]

theorem LogO.recsAt {S H : Nat → Prop} {w : World} {b : Nat} {A : Option Addr} {c : Nat} {ps : List Nat} {per : Nat} {gs : List Sg} {dn : Bool} (h : LogO S H w b A c ps ⟨per, gs, dn⟩) {k p : Nat} {g : Sg} (hp : ps[k]? = some p) (hg : gs[k]? = some g) :
    ∃ (R : Option Addr) (cr : Nat) (vals : List Value), S p ∧ w.cell? ⟨p, 1, none⟩ = some (.int .i64 (g.base : Int)) ∧ w.cell? ⟨p, 2, none⟩ = some (.slice R g.recs.length cr) ∧ Row S w TBs (.slice R g.recs.length cr) vals ∧ Recs w vals g.recs := by
  obtain ⟨Fi, hF, hs, hup⟩ := h.segs.at hp hg
  obtain ⟨⟨Sd, Sh, db, Rd, cR, rv, vals, h1, h2, h3, h4, h5, h6, h7, h8⟩, hlt⟩ := hs
  obtain ⟨R, cr, rfl, _⟩ := h7.val
  have hvl := h8.1
  rw [hvl] at h5 h7
  exact ⟨R, cr, vals, (hF p (h2 p h4)).1, h5.cell 1 rfl, h5.cell 2 rfl, h7.mono (fun x _ hx => (hF x (h2 x hx)).1), h8⟩

section
variable {S H S' : Nat → Prop} {w : World} {b : Nat} {A : Option Addr} {c : Nat} {ps : List Nat} {per : Nat} {gs : List Sg} {dn : Bool}
set_option maxHeartbeats 1000000 in
theorem records_calls (h : LogO S H w b A c ps ⟨per, gs, dn⟩) (bx f : Nat) (caps : Array Value) (eg : ∀ args w, (callFunc f args).run Tryd.prog w = .ok (.enter f args) w) (hd : ∀ x, S x → ¬ S' x)
    (J : Nat → World → Prop) (hI : ∀ n W, J n W → Fr S' w W ∧ W.cell? ⟨bx, 0, none⟩ = some (.pointer (some ⟨b, 0, none⟩))) (hJ : ∀ n W W', J n W → Below W.heap.size W W' → J n W')
    (hY : dn = false → ∀ n W num r A' c', J n W → (numS gs)[n]? = some (num, r) → Own Any W A' r → r.length ≤ c' → c' ≤ maxLen → Calls Tryd.prog f (#[.int .i64 (num : Int), .slice A' r.length c'] ++ caps) W fun e W' => e = .returned (.bool true) ∧ J (n + 1) W')
    (h0 : J 0 w) :
    Calls Tryd.prog 118 #[.func (.func f) #[] caps, .pointer (some ⟨bx, 0, none⟩)] w fun e W' => e = .returned (.tuple #[]) ∧ J (if dn then 0 else (numS gs).length) W' := by
  obtain ⟨c0, c1, c2, z1, z2, q0, q1, q2, q3, q4⟩ := h.facts
  have cb := (hI 0 w h0).2
  have HQ := Lib.hid q1
  clear q1
  cases dn
  · go_enter Tryd.func118, Tryd.ntmps118
    go_step3
    go_wp2_with (go_at_call 82; refine (askedL h).mono ?_; rintro e w' ⟨rfl, rfl⟩)
    go_step3
    go_wp2
    clear c0 c1 c2 z1 z2 q0 cb
    go_loopw [15] (fun i wr => ∃ k : Nat, k ≤ ps.length ∧ i = .int .i64 (k : Int) ∧ J (numS (gs.take k)).length wr) (fun i _ => ps.length - (intOf i).toNat)
    case atStart => exact ⟨0, Nat.zero_le _, rfl, h0⟩
    case round =>
      obtain ⟨k, hk, rfl, hJk⟩ := hrel
      by_cases hlt : k < ps.length
      · obtain ⟨g, hg⟩ : ∃ g, gs[k]? = some g := ⟨_, List.getElem?_eq_getElem (show k < gs.length by have := HQ.out; omega)⟩
        obtain ⟨p, hp⟩ : ∃ p, ps[k]? = some p := ⟨_, List.getElem?_eq_getElem hlt⟩
        obtain ⟨R, cr, vals, hSp, s1, s2, hrow, hrec⟩ := h.recsAt hp hg
        have hok := h.ok.2.2.2 _ (List.mem_of_getElem? hg)
        have n1 := hok.1
        have n2 := hok.2.1
        have n3 := hok.2.2.2
        obtain ⟨ga, oa, ca, hA, hSg, _, hca, _⟩ := h.row.cell (k := k) (u := ptr p) (by rw [List.getElem?_map, hp]; rfl)
        rw [List.length_map] at hA
        injection hA with hA _ hcc
        subst hA
        subst hcc
        have f1 := (hI _ _ hJk).1
        have a1 : wr.cell? ⟨ga, oa + k, none⟩ = some (.pointer (some ⟨p, 0, none⟩)) := (cell_eq (a := ⟨ga, oa + k, none⟩) (f1.out ga (cell_lt hca) (hd _ (h.hS _ hSg)))).trans hca
        have a2 : wr.cell? ⟨p, 2, none⟩ = some (.slice R g.recs.length cr) := (cell_eq (a := ⟨p, 2, none⟩) (f1.out p (cell_lt s2) (hd _ hSp))).trans s2
        have HS := Lib.hid (numS_succ hg)
        have hlt' : (k : Int) < (ps.length : Int) := by omega
        have HG := Lib.hid hg
        have hcap := hrow.val
        clear hok hca f1 hg hp
        go_wp2
        clear a1 a2
        go_loopw [24] (fun i wr => ∃ j : Nat, j ≤ g.recs.length ∧ i = .int .i64 (j : Int) ∧ J ((numS (gs.take k)).length + j) wr) (fun i _ => g.recs.length - (intOf i).toNat)
        case atStart => exact ⟨0, Nat.zero_le _, rfl, hJk⟩
        case round =>
          obtain ⟨j, hj, rfl, hJj⟩ := hrel
          by_cases hjl : j < g.recs.length
          · obtain ⟨r, hr⟩ : ∃ r, g.recs[j]? = some r := ⟨_, List.getElem?_eq_getElem hjl⟩
            obtain ⟨A', c', hv, hc', hm', ho⟩ := hrec.2 j r hr
            have hrl := n3 r (List.mem_of_getElem? hr)
            obtain ⟨gr, or_, cr', hR, hSgr, _, hcr, _⟩ := hrow.cell hv
            injection hR with hR hRl hRc
            subst hR
            clear hRl hRc
            have f2 := (hI _ _ hJj).1
            have b1 : wr.cell? ⟨gr, or_ + j, none⟩ = some (.slice A' r.length c') := (cell_eq (a := ⟨gr, or_ + j, none⟩) (f2.out gr (cell_lt hcr) (hd _ hSgr))).trans hcr
            have b2 : wr.cell? ⟨p, 1, none⟩ = some (.int .i64 (g.base : Int)) := (cell_eq (a := ⟨p, 1, none⟩) (f2.out p (cell_lt s1) (hd _ hSp))).trans s1
            have ho2 : Own Any wr A' r := ho.fr f2
            have HN := Lib.hid (numS_at HG.out hr)
            have hjl' : (j : Int) < (g.recs.length : Int) := by omega
            have k1 : IntKind.i64.wrap ((g.base : Int) + (j : Int)) = (g.base : Int) + (j : Int) := by rw [IntKind.wrap_i64]; omega
            clear hcr f2 hr hv
            go_wp2
            refine wp_region_T #[[], [], [], [], [], [], [4], [], [], [4], [4]] [4] (fun w' => w'.cell? ⟨p, 1, none⟩ = some (.int .i64 (g.base : Int)) ∧ True) 11 rfl (by kernel_rfl) ?_
            (refine wpAnyT_free (i := 0) rfl (by kernel_rfl) rfl (fun _ _ _ h => h) (by kernel_rfl) (fun _ => by go_simp; try rfl) ?_; (try simp only [Act.put, List.setIfInBounds_toArray, List.set_cons_zero, List.set_cons_succ]))
            (refine wpAnyT_free (i := 1) rfl (by kernel_rfl) rfl (fun _ _ _ h => h) (by kernel_rfl) (fun _ => by go_simp; try rfl) ?_; (try simp only [Act.put, List.setIfInBounds_toArray, List.set_cons_zero, List.set_cons_succ]))
            (refine wpAnyT_free (i := 2) rfl (by kernel_rfl) rfl (fun _ _ _ h => h) (by kernel_rfl) (fun _ => by go_simp; try rfl) ?_; (try simp only [Act.put, List.setIfInBounds_toArray, List.set_cons_zero, List.set_cons_succ]))
            (refine wpAnyT_free (i := 3) rfl (by kernel_rfl) rfl (fun _ _ _ h => h) (by kernel_rfl) (fun _ => by go_simp; try rfl) ?_; (try simp only [Act.put, List.setIfInBounds_toArray, List.set_cons_zero, List.set_cons_succ]))
            (refine wpAnyT_read (i := 4) rfl (by kernel_rfl) rfl (fun _ _ _ h => h) (by kernel_rfl) (⟨b2, trivial⟩) (fun w hS_ => by obtain ⟨s_1, s_2⟩ := hS_; go_simp; try rfl) ?_; (try simp only [Act.put, List.setIfInBounds_toArray, List.set_cons_zero, List.set_cons_succ]))
            (refine wpAnyT_free (i := 5) rfl (by kernel_rfl) rfl (fun _ _ _ h => h) (by kernel_rfl) (fun _ => by go_simp; try rfl) ?_; (try simp only [Act.put, List.setIfInBounds_toArray, List.set_cons_zero, List.set_cons_succ]))
            (refine wpAnyT_free (i := 6) rfl (by kernel_rfl) rfl (fun _ _ _ h => h) (by kernel_rfl) (fun _ => by go_simp; try rfl) ?_; (try simp only [Act.put, List.setIfInBounds_toArray, List.set_cons_zero, List.set_cons_succ]))
            (refine wpAnyT_free (i := 7) rfl (by kernel_rfl) rfl (fun _ _ _ h => h) (by kernel_rfl) (fun _ => by go_simp; try rfl) ?_; (try simp only [Act.put, List.setIfInBounds_toArray, List.set_cons_zero, List.set_cons_succ]))
            refine wpAnyT_one (i := 8) rfl (by kernel_rfl) rfl ?_
            intro K_ hK_
            go_wp2_with ((go_at_call 80; refine (clone_B Non A' r c' _ (ho2.rd _).drew (by omega)).mono ?_; rintro e w4 ⟨A4, c4, rfl, hor4, hc4, hm4, hb4⟩))
            refine hK_ _ _ ?_ ?_
            · exact fun _ _ => ⟨(hb4.cell (p := ⟨p, 1, none⟩) (cell_lt b2)).trans b2, trivial⟩
            clear hK_ K_
            (try simp only [Act.put, List.setIfInBounds_toArray, List.set_cons_zero, List.set_cons_succ])
            refine wpAnyT_sink (i := 9) rfl (by kernel_rfl) rfl (by kernel_rfl) ?_
            intro K_ hK_
            (go_wp2; refine (hY ⟨⟩ ((numS (gs.take k)).length + j) w4 (g.base + j) r A4 c4 (hJ _ _ _ hJj ⟨hb4.os, hb4.tape, hb4.output, hb4.size, hb4.block⟩) HN.out ((Own.of_row' hor4).mono (fun _ _ => trivial)) hc4 hm4).mono ?_; rintro e W' ⟨rfl, hJ'⟩; go_wp2)
            (try (refine hK_ _ _ ?_; clear hK_ K_))
            (try simp only [Act.put, List.setIfInBounds_toArray, List.set_cons_zero, List.set_cons_succ])
            (refine wpAnyT_free (i := 10) rfl (by kernel_rfl) rfl (fun _ _ _ h => h) (by kernel_rfl) (fun _ => by go_simp; try rfl) ?_; (try simp only [Act.put, List.setIfInBounds_toArray, List.set_cons_zero, List.set_cons_succ]))
            refine wpAnyT_done (by kernel_rfl) ?_ _
            go_wp2
            go_roundw
            case rel => exact ⟨j + 1, by omega, by go_num, hJ'⟩
            case measure => simp [intOf]; omega
          · obtain rfl : j = g.recs.length := by omega
            go_wp2
            go_roundw
            case rel => exact ⟨k + 1, by omega, by go_num, by rw [HS.out]; exact hJj⟩
            case measure => simp [intOf]; omega
      · obtain rfl : k = ps.length := by omega
        rw [List.take_of_length_le (by rw [HQ.out]; omega)] at hJk
        go_wp2
        refine bodyPost_end (results_none rfl _ _ _) rfl ?_
        exact ⟨rfl, hJk⟩
  · go_enter Tryd.func118, Tryd.ntmps118
    go_step3
    go_wp2_with (go_at_call 82; refine (askedL h).mono ?_; rintro e w' ⟨rfl, rfl⟩)
    refine bodyPost_ret (results_none rfl _ _ _) rfl ?_
    exact ⟨rfl, h0⟩
end
end Go.Proofs.YtediidajdpdeiaaDoor
