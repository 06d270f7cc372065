/- CrcAll: the walk. -/
import Derived.Test.YtediidajdpdeiaaDoorLaws02
import Derived.Test.YtediidajdpdeiaaDoorAll2
namespace Go.Proofs.YtediidajdpdeiaaDoor
open Go.RowKit CrcM
set_option maxRecDepth 100000

/-- the bodies that the law frames -/
def bodies (xs : List (List UInt8)) : List (List UInt8) := (xs.take 20).map (·.take 3000)
theorem bodies_le (xs : List (List UInt8)) : ∀ x ∈ bodies xs, x.length ≤ 3000 := by
  intro x hx
  obtain ⟨y, _, rfl⟩ := List.mem_map.1 hx
  rw [List.length_take]; omega
theorem bodies_get {xs : List (List UInt8)} {k : Nat} (hk : k < (bodies xs).length) : ∃ x, xs[k]? = some x ∧ (bodies xs)[k]? = some (x.take 3000) ∧ k < 20 := by
  have h := hk
  simp only [bodies, List.length_map, List.length_take] at h
  refine ⟨xs[k]'(by omega), List.getElem?_eq_getElem (by omega), ?_, by omega⟩
  rw [bodies, List.getElem?_map, List.getElem?_take_of_lt (by omega), List.getElem?_eq_getElem (by omega)]
  rfl
theorem length_frames_le : ∀ (bs : List (List UInt8)), (∀ x ∈ bs, x.length ≤ 3000) → (frames bs).length ≤ bs.length * 3012
  | [], _ => by simp [frames]
  | x :: bs, h => by
    have h1 := length_frames_le bs fun y hy => h y (List.mem_cons_of_mem _ hy)
    have h2 := h x List.mem_cons_self
    rw [frames_cons, List.length_append, length_frame, List.length_cons]
    omega

/-- what the function literal reads: all of it was there when its own variables were made -/
structure AllSeen (W1 : World) (h : Nat) (xs : List (List UInt8)) (m0 : Nat) (g0 o0 c0 ga ca : Nat) (A0 Aa : Option Addr) : Prop where
  bod : W1.cell? ⟨h, 0, none⟩ = some (.slice A0 xs.length c0)
  most : W1.cell? ⟨h + 1, 0, none⟩ = some (.int .i64 (m0 : Int))
  at_ : W1.cell? ⟨h + 2, 0, none⟩ = some (.slice Aa (bodies xs).length ca)
  lt : h + 2 < W1.heap.size
  row : RdBs W1 A0 xs
  ats : ∀ j, j < (bodies xs).length → Aa = some ⟨ga, 0, none⟩ ∧ ga < W1.heap.size ∧ W1.cell? ⟨ga, j, none⟩ = some (.int .i64 ((frames ((bodies xs).take j)).length : Int))

def AllJ (W1 : World) (m0 k : Nat) (W : World) : Prop :=
  Below W1.heap.size W1 W ∧ W.cell? ⟨W1.heap.size, 0, none⟩ = some (.int .i64 (k : Int)) ∧ W.frozen? ⟨W1.heap.size, 0, none⟩ = false ∧
  W.cell? ⟨W1.heap.size + 1, 0, none⟩ = some (.bool true) ∧ W.frozen? ⟨W1.heap.size + 1, 0, none⟩ = false ∧ (m0 = 0 ∨ k < m0)
def AllJx (W1 : World) (m0 k : Nat) (W : World) : Prop :=
  Below W1.heap.size W1 W ∧ W.cell? ⟨W1.heap.size, 0, none⟩ = some (.int .i64 (k : Int)) ∧ W.cell? ⟨W1.heap.size + 1, 0, none⟩ = some (.bool true) ∧ 0 < m0 ∧ k = m0

theorem AllJ.below {W1 W W' : World} {m0 k : Nat} (h : AllJ W1 m0 k W) (hb : Below W.heap.size W W') : AllJ W1 m0 k W' := by
  obtain ⟨h1, h2, h3, h4, h5, h6⟩ := h
  have l2 := cell_lt h2
  have l4 := cell_lt h4
  exact ⟨h1.trans (hb.mono h1.size), (hb.cell (p := ⟨W1.heap.size, 0, none⟩) l2).trans h2, (hb.frozen (p := ⟨W1.heap.size, 0, none⟩) l2).trans h3,
    (hb.cell (p := ⟨W1.heap.size + 1, 0, none⟩) l4).trans h4, (hb.frozen (p := ⟨W1.heap.size + 1, 0, none⟩) l4).trans h5, h6⟩

theorem Pos.count {b : List UInt8} {k p : Nat} (h : Pos b k p) : 12 * k ≤ p := by
  induction h with
  | start => omega
  | step h1 h2 ih => have := next_ok h2; simp only at this; omega

theorem lit_B (W1 : World) (h : Nat) (xs : List (List UInt8)) (tail : List UInt8) (htl : tail.length ≤ 3000) (m0 : Nat) (hm0 : m0 < 12) (g0 o0 c0 ga ca : Nat) (A0 Aa : Option Addr) (hlen : xs.length ≤ maxLen) (hs : AllSeen W1 h xs m0 g0 o0 c0 ga ca A0 Aa)
    (k : Nat) (v : Array Value) (W : World) (hJ : AllJ W1 m0 k W) (hG : AllGv (frames (bodies xs) ++ tail) k v W) :
    Calls Tryd.prog 33 (v ++ #[.pointer (some ⟨W1.heap.size, 0, none⟩), .pointer (some ⟨h + 2, 0, none⟩), .pointer (some ⟨W1.heap.size + 1, 0, none⟩), .pointer (some ⟨h, 0, none⟩), .pointer (some ⟨h + 1, 0, none⟩)]) W
      fun e W' => (e = .returned (.bool true) ∧ AllJ W1 m0 (k + 1) W') ∨ (e = .returned (.bool false) ∧ AllJx W1 m0 (k + 1) W') := by
  obtain ⟨at_, body, en, A, c, hpos, hnx, rfl, hrb, hbc, hcm⟩ := hG
  obtain ⟨j1, j2, j3, j4, j5, j6⟩ := hJ
  have lt := hs.lt
  have b0 := (j1.cell (p := ⟨h, 0, none⟩) (by show h < _; omega)).trans hs.bod
  have b1 := (j1.cell (p := ⟨h + 1, 0, none⟩) (by show h + 1 < _; omega)).trans hs.most
  have b2 := (j1.cell (p := ⟨h + 2, 0, none⟩) (by show h + 2 < _; omega)).trans hs.at_
  have hle := hpos.le
  rw [List.length_append] at hle
  have hfl := length_frames_le (bodies xs) (bodies_le xs)
  have hbl : (bodies xs).length ≤ 20 := by simp only [bodies, List.length_map, List.length_take]; omega
  unfold maxLen at hlen
  by_cases hk : k < (bodies xs).length
  · obtain ⟨xl, hx1, hx2, hk20⟩ := bodies_get hk
    have hpd := hpos.det (pos_frames (bodies xs) (fun x hx => Nat.le_trans (bodies_le xs x hx) (by omega)) tail k (by omega))
    have hnd := next_frames (bodies xs) (fun x hx => Nat.le_trans (bodies_le xs x hx) (by omega)) tail k _ hx2
    rw [← hpd, hnx] at hnd
    injection hnd with hnd
    injection hnd with hbody _
    obtain ⟨rfl, hga, hac⟩ := hs.ats k hk
    have a1 := (j1.cell (p := ⟨ga, k, none⟩) hga).trans hac
    rw [← hpd] at a1
    obtain ⟨g, o, B, cx, rfl, hg, hgc, hxc, hxm, hxr⟩ := hs.row k xl hx1
    have a2 := (j1.cell (p := ⟨g, o + k, none⟩) hg).trans hgc
    have hfw := few_B W.drew B xl cx xl.length ((hxr.rd.below j1).drew) rfl hxc hxm
    have hkx : k < xs.length := (List.getElem?_eq_some_iff.1 hx1).1
    rw [← hbody] at hfw
    have k1 := run_str hrb.drew c
    have hrb' := hrb.drew
    generalize hK : (bodies xs).length = K at *
    have k0 : (k : Int) < (K : Int) := by omega
    have kx0 : (0 : Int) ≤ (k : Int) := by omega
    have kx1 : (k : Int) < (xs.length : Int) := by omega
    clear hpos hnx hpd hx1 hx2 hbody hgc hac hs hxr hfl hle hK hrb
    show Calls _ _ #[_, _, _, _, _, _, _] _ _
    go_enter Tryd.func33, Tryd.ntmps33
    go_wp2
    refine wp_region_T #[[], [0], [0], [0], [0], [0, 3, 4], [0, 3, 4], [0, 3, 4, 6], [0, 3, 4, 6], [0, 3, 4, 6], [0, 3, 4, 6], [0, 3, 4, 6], [0, 3, 4, 6], [0, 3, 4, 6], [0, 3, 4, 6, 12, 13], [0, 3, 4, 6, 12, 13], [0, 3, 4, 6, 12, 13, 15], [0, 3, 4, 6, 12, 13, 15], [0, 3, 4, 6, 11, 12, 13, 15], [0, 3, 4, 6, 11, 12, 13, 15], [0, 3, 4, 6, 11, 12, 13, 15]] [0, 3, 4, 6, 11, 12, 13, 15] (fun w' => w'.cell? ⟨W1.heap.size + 1, 0, none⟩ = some (.bool true) ∧ w'.cell? ⟨h + 2, 0, none⟩ = some (.slice (some ⟨ga, 0, none⟩) K ca) ∧ w'.cell? ⟨W1.heap.size, 0, none⟩ = some (.int .i64 (k : Int)) ∧ w'.cell? ⟨ga, k, none⟩ = some (.int .i64 (at_ : Int)) ∧ (convert 22 9 (.slice A body.length c)).run Tryd.prog w' = .ok (str body) w' ∧ w'.cell? ⟨h, 0, none⟩ = some (.slice (some ⟨g, o, none⟩) xs.length c0) ∧ w'.cell? ⟨g, o + k, none⟩ = some (.slice B xl.length cx)) 21 rfl (by kernel_rfl) ?_
    (refine wpAnyT_read (i := 0) rfl (by kernel_rfl) rfl (fun _ _ _ h => h) (by kernel_rfl) (⟨j4, b2, j2, a1, k1, b0, a2⟩) (fun w hS_ => by obtain ⟨s_1, s_2⟩ := hS_; go_simp; try rfl) ?_; (try simp only [Act.put, List.setIfInBounds_toArray, List.set_cons_zero, List.set_cons_succ]))
    (refine wpAnyT_free (i := 1) rfl (by kernel_rfl) rfl (fun _ _ _ h => h) (by kernel_rfl) (fun _ => by go_simp; try rfl) ?_; (try simp only [Act.put, List.setIfInBounds_toArray, List.set_cons_zero, List.set_cons_succ]))
    first
    | (refine wpAnyT_skip (i := 2) rfl (by kernel_rfl) ?hw_ (fun _ _ _ h => h) (fun h_ => absurd h_ (by decide)) ?_; (case hw_ => simp [Region.wanted, yielded]; done); (try simp only [Act.put, List.setIfInBounds_toArray, List.set_cons_zero, List.set_cons_succ]))
    | (refine wpAnyT_free (i := 2) rfl (by kernel_rfl) (by simp [Region.wanted, yielded]) (fun _ _ _ h => h) (by kernel_rfl) (fun _ => by go_simp; try rfl) ?_; (try simp only [Act.put, List.setIfInBounds_toArray, List.set_cons_zero, List.set_cons_succ]))
    first
    | (refine wpAnyT_skip (i := 3) rfl (by kernel_rfl) ?hw_ (fun _ _ _ h => h) (fun _ => ⟨j4, b2, j2, a1, k1, b0, a2⟩) ?_; (case hw_ => simp [Region.wanted, yielded]; done); (try simp only [Act.put, List.setIfInBounds_toArray, List.set_cons_zero, List.set_cons_succ]))
    | (refine wpAnyT_read (i := 3) rfl (by kernel_rfl) (by simp [Region.wanted, yielded]) (fun _ _ _ h => h) (by kernel_rfl) (⟨j4, b2, j2, a1, k1, b0, a2⟩) (fun w hS_ => by obtain ⟨s_1, s_2⟩ := hS_; go_simp; try rfl) ?_; (try simp only [Act.put, List.setIfInBounds_toArray, List.set_cons_zero, List.set_cons_succ]))
    first
    | (refine wpAnyT_skip (i := 4) rfl (by kernel_rfl) ?hw_ (fun _ _ _ h => h) (fun _ => ⟨j4, b2, j2, a1, k1, b0, a2⟩) ?_; (case hw_ => simp [Region.wanted, yielded]; done); (try simp only [Act.put, List.setIfInBounds_toArray, List.set_cons_zero, List.set_cons_succ]))
    | (refine wpAnyT_read (i := 4) rfl (by kernel_rfl) (by simp [Region.wanted, yielded]) (fun _ _ _ h => h) (by kernel_rfl) (⟨j4, b2, j2, a1, k1, b0, a2⟩) (fun w hS_ => by obtain ⟨s_1, s_2⟩ := hS_; go_simp; try rfl) ?_; (try simp only [Act.put, List.setIfInBounds_toArray, List.set_cons_zero, List.set_cons_succ]))
    first
    | (refine wpAnyT_skip (i := 5) rfl (by kernel_rfl) ?hw_ (fun _ _ _ h => h) (fun h_ => absurd h_ (by decide)) ?_; (case hw_ => simp [Region.wanted, yielded]; done); (try simp only [Act.put, List.setIfInBounds_toArray, List.set_cons_zero, List.set_cons_succ]))
    | (refine wpAnyT_free (i := 5) rfl (by kernel_rfl) (by simp [Region.wanted, yielded]) (fun _ _ _ h => h) (by kernel_rfl) (fun _ => by go_simp; try rfl) ?_; (try simp only [Act.put, List.setIfInBounds_toArray, List.set_cons_zero, List.set_cons_succ]))
    first
    | (refine wpAnyT_skip (i := 6) rfl (by kernel_rfl) ?hw_ (fun _ _ _ h => h) (fun _ => ⟨j4, b2, j2, a1, k1, b0, a2⟩) ?_; (case hw_ => simp [Region.wanted, yielded]; done); (try simp only [Act.put, List.setIfInBounds_toArray, List.set_cons_zero, List.set_cons_succ]))
    | (refine wpAnyT_read (i := 6) rfl (by kernel_rfl) (by simp [Region.wanted, yielded]) (fun _ _ _ h => h) (by kernel_rfl) (⟨j4, b2, j2, a1, k1, b0, a2⟩) (fun w hS_ => by obtain ⟨s_1, s_2⟩ := hS_; go_simp; try rfl) ?_; (try simp only [Act.put, List.setIfInBounds_toArray, List.set_cons_zero, List.set_cons_succ]))
    first
    | (refine wpAnyT_skip (i := 7) rfl (by kernel_rfl) ?hw_ (fun _ _ _ h => h) (fun h_ => absurd h_ (by decide)) ?_; (case hw_ => simp [Region.wanted, yielded]; done); (try simp only [Act.put, List.setIfInBounds_toArray, List.set_cons_zero, List.set_cons_succ]))
    | (refine wpAnyT_free (i := 7) rfl (by kernel_rfl) (by simp [Region.wanted, yielded]) (fun _ _ _ h => h) (by kernel_rfl) (fun _ => by go_simp; try rfl) ?_; (try simp only [Act.put, List.setIfInBounds_toArray, List.set_cons_zero, List.set_cons_succ]))
    (refine wpAnyT_free (i := 8) rfl (by kernel_rfl) rfl (fun _ _ _ h => h) (by kernel_rfl) (fun _ => by go_simp; try rfl) ?_; (try simp only [Act.put, List.setIfInBounds_toArray, List.set_cons_zero, List.set_cons_succ]))
    (refine wpAnyT_free (i := 9) rfl (by kernel_rfl) rfl (fun _ _ _ h => h) (by kernel_rfl) (fun _ => by go_simp; try rfl) ?_; (try simp only [Act.put, List.setIfInBounds_toArray, List.set_cons_zero, List.set_cons_succ]))
    first
    | (refine wpAnyT_skip (i := 10) rfl (by kernel_rfl) ?hw_ (fun _ _ _ h => h) (fun h_ => absurd h_ (by decide)) ?_; (case hw_ => simp [Region.wanted, yielded]; done); (try simp only [Act.put, List.setIfInBounds_toArray, List.set_cons_zero, List.set_cons_succ]))
    | (refine wpAnyT_free (i := 10) rfl (by kernel_rfl) (by simp [Region.wanted, yielded]) (fun _ _ _ h => h) (by kernel_rfl) (fun _ => by go_simp; try rfl) ?_; (try simp only [Act.put, List.setIfInBounds_toArray, List.set_cons_zero, List.set_cons_succ]))
    first
    | (refine wpAnyT_skip (i := 11) rfl (by kernel_rfl) ?hw_ (fun _ _ _ h => h) (fun _ => ⟨j4, b2, j2, a1, k1, b0, a2⟩) ?_; (case hw_ => simp [Region.wanted, yielded]; done); (try simp only [Act.put, List.setIfInBounds_toArray, List.set_cons_zero, List.set_cons_succ]))
    | (refine wpAnyT_read (i := 11) rfl (by kernel_rfl) (by simp [Region.wanted, yielded]) (fun _ _ _ h => h) (by kernel_rfl) (⟨j4, b2, j2, a1, k1, b0, a2⟩) (fun w hS_ => by obtain ⟨s_1, s_2⟩ := hS_; go_simp; try rfl) ?_; (try simp only [Act.put, List.setIfInBounds_toArray, List.set_cons_zero, List.set_cons_succ]))
    first
    | (refine wpAnyT_skip (i := 12) rfl (by kernel_rfl) ?hw_ (fun _ _ _ h => h) (fun _ => ⟨j4, b2, j2, a1, k1, b0, a2⟩) ?_; (case hw_ => simp [Region.wanted, yielded]; done); (try simp only [Act.put, List.setIfInBounds_toArray, List.set_cons_zero, List.set_cons_succ]))
    | (refine wpAnyT_read (i := 12) rfl (by kernel_rfl) (by simp [Region.wanted, yielded]) (fun _ _ _ h => h) (by kernel_rfl) (⟨j4, b2, j2, a1, k1, b0, a2⟩) (fun w hS_ => by obtain ⟨s_1, s_2⟩ := hS_; go_simp; try rfl) ?_; (try simp only [Act.put, List.setIfInBounds_toArray, List.set_cons_zero, List.set_cons_succ]))
    first
    | (refine wpAnyT_skip (i := 13) rfl (by kernel_rfl) ?hw_ (fun _ _ _ h => h) (fun _ => ⟨j4, b2, j2, a1, k1, b0, a2⟩) ?_; (case hw_ => simp [Region.wanted, yielded]; done); (try simp only [Act.put, List.setIfInBounds_toArray, List.set_cons_zero, List.set_cons_succ]))
    | (refine wpAnyT_read (i := 13) rfl (by kernel_rfl) (by simp [Region.wanted, yielded]) (fun _ _ _ h => h) (by kernel_rfl) (⟨j4, b2, j2, a1, k1, b0, a2⟩) (fun w hS_ => by obtain ⟨s_1, s_2⟩ := hS_; go_simp; try rfl) ?_; (try simp only [Act.put, List.setIfInBounds_toArray, List.set_cons_zero, List.set_cons_succ]))
    first
    | (refine wpAnyT_skip (i := 14) rfl (by kernel_rfl) ?hw_ (fun _ _ _ h => h) (fun h_ => absurd h_ (by decide)) ?_; (case hw_ => simp [Region.wanted, yielded]; done); (try simp only [Act.put, List.setIfInBounds_toArray, List.set_cons_zero, List.set_cons_succ]))
    | (refine wpAnyT_free (i := 14) rfl (by kernel_rfl) (by simp [Region.wanted, yielded]) (fun _ _ _ h => h) (by kernel_rfl) (fun _ => by go_simp; try rfl) ?_; (try simp only [Act.put, List.setIfInBounds_toArray, List.set_cons_zero, List.set_cons_succ]))
    first
    | (refine wpAnyT_skip (i := 15) rfl (by kernel_rfl) ?hw_ (fun _ _ _ h => h) (fun _ => ⟨j4, b2, j2, a1, k1, b0, a2⟩) ?_; (case hw_ => simp [Region.wanted, yielded]; done); (try simp only [Act.put, List.setIfInBounds_toArray, List.set_cons_zero, List.set_cons_succ]))
    | (refine wpAnyT_read (i := 15) rfl (by kernel_rfl) (by simp [Region.wanted, yielded]) (fun _ _ _ h => h) (by kernel_rfl) (⟨j4, b2, j2, a1, k1, b0, a2⟩) (fun w hS_ => by obtain ⟨s_1, s_2⟩ := hS_; go_simp; try rfl) ?_; (try simp only [Act.put, List.setIfInBounds_toArray, List.set_cons_zero, List.set_cons_succ]))
    first
    | (refine wpAnyT_skip (i := 16) rfl (by kernel_rfl) ?hw_ (fun _ _ _ h => h) (fun h_ => absurd h_ (by decide)) ?_; (case hw_ => simp [Region.wanted, yielded]; done); (try simp only [Act.put, List.setIfInBounds_toArray, List.set_cons_zero, List.set_cons_succ]))
    | (refine wpAnyT_one (i := 16) rfl (by kernel_rfl) (by simp [Region.wanted, yielded]) ?_
       intro K_ hK_
       go_wp2_with ((go_at_call 22; refine hfw.mono ?_; rintro e w1 ⟨A1, c1, rfl, ho1, hc1, hm1, hb1⟩; have k2 := run_str (own_rd ho1 rfl) c1; have d4 := (hb1.cell (p := ⟨W1.heap.size + 1, 0, none⟩) (cell_lt j4)).trans j4; have d5 := (hb1.frozen (p := ⟨W1.heap.size + 1, 0, none⟩) (cell_lt j4)).trans j5; have d2 := (hb1.cell (p := ⟨W1.heap.size, 0, none⟩) (cell_lt j2)).trans j2; have d3 := (hb1.frozen (p := ⟨W1.heap.size, 0, none⟩) (cell_lt j2)).trans j3))
       refine hK_ _ _ ?_ ?_
       · exact fun _ _ => ⟨d4, (hb1.cell (p := ⟨h + 2, 0, none⟩) (cell_lt b2)).trans b2, d2, (hb1.cell (p := ⟨ga, k, none⟩) (cell_lt a1)).trans a1, run_str (hrb'.below hb1) c, (hb1.cell (p := ⟨h, 0, none⟩) (cell_lt b0)).trans b0, (hb1.cell (p := ⟨g, o + k, none⟩) (cell_lt a2)).trans a2⟩
       clear hK_ K_
       (try simp only [Act.put, List.setIfInBounds_toArray, List.set_cons_zero, List.set_cons_succ]))
    first
    | (refine wpAnyT_skip (i := 17) rfl (by kernel_rfl) ?hw_ (fun _ _ _ h => h) (fun h_ => absurd h_ (by decide)) ?_; (case hw_ => simp [Region.wanted, yielded]; done); (try simp only [Act.put, List.setIfInBounds_toArray, List.set_cons_zero, List.set_cons_succ]))
    | (refine wpAnyT_one (i := 17) rfl (by kernel_rfl) (by simp [Region.wanted, yielded]) ?_
       intro K_ hK_
       go_wp2
       refine hK_ _ _ ?_ ?_
       · exact fun _ h_ => h_
       clear hK_ K_
       (try simp only [Act.put, List.setIfInBounds_toArray, List.set_cons_zero, List.set_cons_succ]))
    first
    | (refine wpAnyT_skip (i := 18) rfl (by kernel_rfl) ?hw_ (fun _ _ _ h => h) (fun h_ => absurd h_ (by decide)) ?_; (case hw_ => simp [Region.wanted, yielded]; done); (try simp only [Act.put, List.setIfInBounds_toArray, List.set_cons_zero, List.set_cons_succ]))
    | (refine wpAnyT_free (i := 18) rfl (by kernel_rfl) (by simp [Region.wanted, yielded]) (fun _ _ _ h => h) (by kernel_rfl) (fun _ => by go_simp; try rfl) ?_; (try simp only [Act.put, List.setIfInBounds_toArray, List.set_cons_zero, List.set_cons_succ]))
    (refine wpAnyT_free (i := 19) rfl (by kernel_rfl) rfl (fun _ _ _ h => h) (by kernel_rfl) (fun _ => by go_simp; try rfl) ?_; (try simp only [Act.put, List.setIfInBounds_toArray, List.set_cons_zero, List.set_cons_succ]))
    refine wpAnyT_sink (i := 20) rfl (by kernel_rfl) rfl (by kernel_rfl) ?_
    intro K_ hK_
    go_wp2
    (try (refine hK_ _ _ ?_; clear hK_ K_))
    (try simp only [Act.put, List.setIfInBounds_toArray, List.set_cons_zero, List.set_cons_succ])
    refine wpAnyT_done (by kernel_rfl) ?_ _
    have e4 := World.cell?_setCell_same' w1 ⟨W1.heap.size + 1, 0, none⟩ (.bool true) (by rw [d4]; rfl)
    have e2 := (World.cell?_setCell_other w1 ⟨W1.heap.size + 1, 0, none⟩ ⟨W1.heap.size, 0, none⟩ (.bool true) (by intro e; injection e with e; omega)).trans d2
    have e1 := (World.cell?_setCell_other w1 ⟨W1.heap.size + 1, 0, none⟩ ⟨h + 1, 0, none⟩ (.bool true) (by intro e; injection e with e; omega)).trans ((hb1.cell (p := ⟨h + 1, 0, none⟩) (cell_lt b1)).trans b1)
    have e3 : (w1.setCell ⟨W1.heap.size + 1, 0, none⟩ (.bool true)).frozen? ⟨W1.heap.size, 0, none⟩ = false := by rw [World.frozen?_setCell]; exact d3
    have e5 : (w1.setCell ⟨W1.heap.size + 1, 0, none⟩ (.bool true)).frozen? ⟨W1.heap.size + 1, 0, none⟩ = false := by rw [World.frozen?_setCell]; exact d5
    have hBX : Below W1.heap.size W1 (w1.setCell ⟨W1.heap.size + 1, 0, none⟩ (.bool true)) := (j1.drew.trans (hb1.mono j1.size)).setCell (p := ⟨W1.heap.size + 1, 0, none⟩) (by simp) _
    generalize w1.setCell ⟨W1.heap.size + 1, 0, none⟩ (.bool true) = wX at *
    clear d2 d3 d4 d5 k1 k2 hb1 ho1 hfw j1 j2 j3 j4 j5 a1 a2 b0 b1 b2
    have e6 := World.cell?_setCell_same' wX ⟨W1.heap.size, 0, none⟩ (.int .i64 ((k : Int) + 1)) (by rw [e2]; rfl)
    have e7 := (World.cell?_setCell_other wX ⟨W1.heap.size, 0, none⟩ ⟨W1.heap.size + 1, 0, none⟩ (.int .i64 ((k : Int) + 1)) (by intro e; injection e with e; omega)).trans e4
    have hB6 := hBX.setCell (p := ⟨W1.heap.size, 0, none⟩) (Nat.le_refl _) (.int .i64 ((k : Int) + 1))
    have e8 : (wX.setCell ⟨W1.heap.size, 0, none⟩ (.int .i64 ((k : Int) + 1))).frozen? ⟨W1.heap.size, 0, none⟩ = false := by rw [World.frozen?_setCell]; exact e3
    have e9 : (wX.setCell ⟨W1.heap.size, 0, none⟩ (.int .i64 ((k : Int) + 1))).frozen? ⟨W1.heap.size + 1, 0, none⟩ = false := by rw [World.frozen?_setCell]; exact e5
    have eA := (World.cell?_setCell_other wX ⟨W1.heap.size, 0, none⟩ ⟨h + 1, 0, none⟩ (.int .i64 ((k : Int) + 1)) (by intro e; injection e with e; omega)).trans e1
    have HX := Lib.hid (And.intro hB6 (And.intro e6 (And.intro e8 (And.intro e7 e9))))
    clear e7 e9 e8 hB6 hBX
    by_cases h0 : m0 = 0
    · subst h0
      go_wp2
      go_ret
      obtain ⟨x1, x2, x3, x4, x5⟩ := HX.out
      exact .inl ⟨rfl, x1, x2, x3, x4, x5, .inl rfl⟩
    · have h0' : ((m0 : Int) == 0) = false := by simpa using h0
      by_cases h1 : k + 1 < m0
      · have h1' : (k : Int) + 1 < (m0 : Int) := by omega
        go_wp2
        go_ret
        obtain ⟨x1, x2, x3, x4, x5⟩ := HX.out
        exact .inl ⟨rfl, x1, x2, x3, x4, x5, .inr h1⟩
      · have h1' : ¬ (k : Int) + 1 < (m0 : Int) := by omega
        go_wp2
        go_ret
        obtain ⟨x1, x2, x3, x4, x5⟩ := HX.out
        exact .inr ⟨rfl, x1, x2, x4, by omega, by omega⟩
  · have hc := hpos.count
    have k0 : ¬ (k : Int) < ((bodies xs).length : Int) := by omega
    have kx : (k : Int) ≤ 100000 := by omega
    have e1 := b1
    have e2 := j2
    have e3 := j3
    have e4 := j4
    have e5 := j5
    have hBX := j1
    generalize (bodies xs).length = K at *
    clear hpos hnx hs hfl hle hrb b1 j1 j2 j3 j4 j5 hc
    generalize W = wX at *
    show Calls _ _ #[_, _, _, _, _, _, _] _ _
    go_enter Tryd.func33, Tryd.ntmps33
    have e6 := World.cell?_setCell_same' wX ⟨W1.heap.size, 0, none⟩ (.int .i64 ((k : Int) + 1)) (by rw [e2]; rfl)
    have e7 := (World.cell?_setCell_other wX ⟨W1.heap.size, 0, none⟩ ⟨W1.heap.size + 1, 0, none⟩ (.int .i64 ((k : Int) + 1)) (by intro e; injection e with e; omega)).trans e4
    have hB6 := hBX.setCell (p := ⟨W1.heap.size, 0, none⟩) (Nat.le_refl _) (.int .i64 ((k : Int) + 1))
    have e8 : (wX.setCell ⟨W1.heap.size, 0, none⟩ (.int .i64 ((k : Int) + 1))).frozen? ⟨W1.heap.size, 0, none⟩ = false := by rw [World.frozen?_setCell]; exact e3
    have e9 : (wX.setCell ⟨W1.heap.size, 0, none⟩ (.int .i64 ((k : Int) + 1))).frozen? ⟨W1.heap.size + 1, 0, none⟩ = false := by rw [World.frozen?_setCell]; exact e5
    have eA := (World.cell?_setCell_other wX ⟨W1.heap.size, 0, none⟩ ⟨h + 1, 0, none⟩ (.int .i64 ((k : Int) + 1)) (by intro e; injection e with e; omega)).trans e1
    have HX := Lib.hid (And.intro hB6 (And.intro e6 (And.intro e8 (And.intro e7 e9))))
    clear e7 e9 e8 hB6 hBX
    by_cases h0 : m0 = 0
    · subst h0
      go_wp2
      go_ret
      obtain ⟨x1, x2, x3, x4, x5⟩ := HX.out
      exact .inl ⟨rfl, x1, x2, x3, x4, x5, .inl rfl⟩
    · have h0' : ((m0 : Int) == 0) = false := by simpa using h0
      by_cases h1 : k + 1 < m0
      · have h1' : (k : Int) + 1 < (m0 : Int) := by omega
        go_wp2
        go_ret
        obtain ⟨x1, x2, x3, x4, x5⟩ := HX.out
        exact .inl ⟨rfl, x1, x2, x3, x4, x5, .inr h1⟩
      · have h1' : ¬ (k : Int) + 1 < (m0 : Int) := by omega
        go_wp2
        go_ret
        obtain ⟨x1, x2, x3, x4, x5⟩ := HX.out
        exact .inr ⟨rfl, x1, x2, x4, by omega, by omega⟩
end Go.Proofs.YtediidajdpdeiaaDoor
