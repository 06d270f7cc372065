/- crc.Good: the walk. -/
import Derived.Test.YtediidajdpdeiaaDoorAll
import Derived.Laws.ResultCell
namespace Go.Proofs.YtediidajdpdeiaaDoor
open Go.RowKit Go.Shelf CrcM
attribute [local go_sem] Oper.semAt_some
set_option maxRecDepth 100000

theorem Pos.det {b : List UInt8} {k p q : Nat} (h : Pos b k p) (h' : Pos b k q) : p = q := by
  induction h generalizing q with
  | start => cases h'; rfl
  | step h1 h2 ih =>
    cases h' with
    | step h3 h4 =>
      have := ih h3; subst this
      rw [h2] at h4; injection h4 with h4; injection h4

theorem all_B (w : World) (A : Option Addr) (n c : Nat) :
    Calls Tryd.prog 32 #[.slice A n c] w fun e w' => e = .returned (.func (.func 81) #[] #[.pointer (some ⟨w.heap.size, 0, none⟩)]) ∧ w.alloc (.cells #[.slice A n c] 22) = w' := by
  go_enter Tryd.func32, Tryd.ntmps32
  go_wp2
  go_ret
  exact ⟨rfl, rfl⟩

/-- what Good answers -/
def GoodIs (b : List UInt8) (at_ : Nat) (r : Int) : Prop := ∃ k, Pos b k at_ ∧ (∃ r', next b at_ = .error r' ∧ r = if at_ = b.length then 0 else r')

theorem Gv_own (b : List UInt8) (v : Array Value) (B : Nat) : OwnFrom B fun k W => AllGv b k v W := by
  intro k W W' row hs hg hr
  obtain ⟨at_, body, en, A, c, h1, h2, h3, h4, h5⟩ := hs
  refine ⟨at_, body, en, A, c, h1, h2, h3, ?_, h5⟩
  intro j x hx
  obtain ⟨ad, e, hc, _⟩ := h4 j x hx
  exact ⟨ad, e, cell_kept hc hg (fun r e => (hr r e).2), .inl fun h => h.elim⟩

theorem KeepsFrom.below {B : Nat} {W W' : World} (h : Below W.heap.size W W') : KeepsFrom B W W' :=
  ⟨h.size, fun k o _ hk _ => (h.block k (Array.getElem?_eq_some_iff.1 hk).1).trans hk⟩

def GoodI (w : World) (A : Option Addr) (b : List UInt8) (c : Nat) (k : Nat) (W : World) : Prop :=
  ((∃ at_ : Nat, Pos b k at_ ∧ W.cell? ⟨w.heap.size + 1, 0, none⟩ = some (.int .i64 (at_ : Int))) ∧ W.frozen? ⟨w.heap.size + 1, 0, none⟩ = false ∧
    W.cell? ⟨w.heap.size, 0, none⟩ = some (.slice A b.length c) ∧ W.cell? ⟨w.heap.size + 2, 0, none⟩ = some (.slice A b.length c)) ∧ Below w.heap.size w W

theorem GoodI.own (w : World) (A : Option Addr) (b : List UInt8) (c : Nat) {B : Nat} (hB : w.heap.size ≤ B) : OwnFrom B (GoodI w A b c) := by
  refine OwnFrom.and ?_ (ownFrom_below (Nat.le_refl _) hB)
  rintro k W W' row ⟨⟨at_, hp, h1⟩, h2, h3, h4⟩ hg hr
  have hr' : ∀ r, row = some r → ∃ o : Obj, W.heap[r]? = some o ∧ o.isCells = false := fun r e => (hr r e).2
  exact ⟨⟨at_, hp, cell_kept h1 hg hr'⟩, (frozen_kept h1 hg hr').trans h2, cell_kept h3 hg hr', cell_kept h4 hg hr'⟩

theorem good_ret {w W : World} {D at_ : Nat} {r : Int} {tmps : Array Value} {R : Ending → World → Prop} (h2 : tmps.getD 2 undef = .pointer (some ⟨w.heap.size + 1, 0, none⟩)) (h3 : tmps.getD 3 undef = .int .i64 r)
    (hD : w.heap.size + 3 ≤ D) (hK : W.heap[D]? = some (.deferred (some []))) (hB : Below w.heap.size w W) (hc : W.cell? ⟨w.heap.size + 1, 0, none⟩ = some (.int .i64 (at_ : Int)))
    (hR : Below w.heap.size w (W.putObj D (.deferred none)) → R (.returned (.tuple #[.int .i64 (at_ : Int), .int .i64 r])) (W.putObj D (.deferred none))) :
    LeavesInM Fence.wide 10 Tryd.prog Tryd.f30 tmps R [] .returning (W.putObj D (.deferred none)) := by
  have hc' : (W.putObj D (.deferred none)).cell? ⟨w.heap.size + 1, 0, none⟩ = some (.int .i64 (at_ : Int)) := (World.cell?_of_block (World.putObj_heap_other (by show _ ≠ _; simp; omega))).trans hc
  refine ⟨_, ?_, hR ?_⟩
  · rw [results_cell_tmp (p := 2) (u := 3) (ty := 3) rfl, h2, h3]
    go_simp
  · exact hB.grown (grownBy_putObj' W D _) (by have := (Array.getElem?_eq_some_iff.1 hK).1; omega) (fun k e => by cases e; omega)

set_option maxHeartbeats 1000000 in
theorem good_B (w : World) (hh : HalfAt w) (A : Option Addr) (b : List UInt8) (c n : Nat) (hr : Rd Non w A b) (hl : b.length = n) (hn : n ≤ c) (hm : c ≤ maxLen) :
    Calls Tryd.prog 30 #[.slice A n c] w fun e w' => ∃ at_ r, GoodIs b at_ r ∧ e = .returned (.tuple #[.int .i64 (at_ : Int), .int .i64 r]) ∧ Below w.heap.size w w' := by
  subst hl
  refine (callsIn_wide (n := 10)).1 ?_
  refine callsIn_of_wp_marks Tryd.func30 rfl trivial ?_ rfl
  simp only [Tryd.ntmps30, List.size_toArray, List.length_cons, List.length_nil, Nat.reduceAdd, Nat.reduceSub, Array.replicate_succ, Array.replicate_zero, List.push_toArray, List.append_toArray, List.nil_append, List.cons_append]
  gi_wp2_with (refine ⟨trivial, ?_⟩; gi_at_call 32; refine (callsIn_wide.2 (all_B _ _ _ _)).mono ?_; rintro e w2 ⟨rfl, rfl⟩)
  have hI0 : GoodI w A b c 0 (((w.alloc (.cells #[.slice A b.length c] 22)).alloc (.cells #[.int .i64 0] 3)).alloc (.cells #[.slice A b.length c] 22)) := by
    have z1 : Blk (w.alloc (.cells #[.slice A b.length c] 22)) w.heap.size 22 #[.slice A b.length c] := Blk.new _ _ _
    have z2 : Blk ((w.alloc (.cells #[.slice A b.length c] 22)).alloc (.cells #[.int .i64 0] 3)) (w.heap.size + 1) 3 #[.int .i64 0] := Blk.new' _ _ _ (by simp)
    have z3 : Blk (((w.alloc (.cells #[.slice A b.length c] 22)).alloc (.cells #[.int .i64 0] 3)).alloc (.cells #[.slice A b.length c] 22)) (w.heap.size + 2) 22 #[.slice A b.length c] := Blk.new' _ _ _ (by simp)
    exact ⟨⟨⟨0, .start, (z2.alloc _).cell 0 rfl⟩, (z2.alloc _).frozen 0, ((z1.alloc _).alloc _).cell 0 rfl, z3.cell 0 rfl⟩, (((Below.refl _ _).alloc (Nat.le_refl _) _).alloc (by simp) _).alloc (by simp; omega) _⟩
  have hsz : (((w.alloc (.cells #[.slice A b.length c] 22)).alloc (.cells #[.int .i64 0] 3)).alloc (.cells #[.slice A b.length c] 22)).heap.size = w.heap.size + 3 := by simp
  generalize ((w.alloc (.cells #[.slice A b.length c] 22)).alloc (.cells #[.int .i64 0] 3)).alloc (.cells #[.slice A b.length c] 22) = w3 at *
  have hneed : ∀ k W, GoodI w A b c k W → AllNeeds (w.heap.size + 2) A c b W := fun k W h => ⟨hh.below h.2 hh.lt, h.1.2.2.2, hr.below h.2⟩
  refine wp_rangeFunc_G (n := 8) (Gv := AllGv b) (I := GoodI w A b c) (S := AllS b) rfl (enters_of Tryd.func81 (by kernel_rfl) rfl) (all_iterates (w.heap.size + 2) A c b hn hm _ hneed w3)
    (fun k v W h => by obtain ⟨_, _, _, _, _, _, _, rfl, _⟩ := h; rfl) (fun v => Gv_own b v _) (fun _ _ _ => False) (GoodI.own w A b c (by omega)) (fun _ _ _ _ _ h _ _ => h) hI0
    (fun v => { tmps := #[.slice A b.length c, .pointer (some ⟨w.heap.size, 0, none⟩), .pointer (some ⟨w.heap.size + 1, 0, none⟩), .int .i64 0, v.getD 0 undef, .slice A b.length c, .func (.func 81) #[] #[.pointer (some ⟨w.heap.size + 2, 0, none⟩)], v.getD 0 undef, v.getD 1 undef,
      undef, undef, undef, undef, undef, undef, undef, undef, undef, undef, undef, undef, undef, undef, undef, undef, undef, undef, undef, undef, undef], defers := [] }) ?assign ?body ?done ?stop
  case assign =>
    rintro l k v W K ⟨at_, body, en, A', c', h1, h2, rfl, h4⟩ hK
    gi_wp2
    exact hK
  case body =>
    rintro l k v W hI ⟨at_, body, en, A', c', h1, h2, rfl, h4, h5, h6⟩
    have hB := hI.2
    obtain ⟨⟨⟨at1, hp1, i1⟩, i2, i3, i4⟩, -⟩ := hI
    have hnx := next_B W (hh.below hB hh.lt) A b c b.length (hr.below hB) rfl hn hm (at_ : Int)
    gi_wp2_with (refine ⟨trivial, ?_⟩; gi_at_call 28; refine (CallsIn.inRound l (callsIn_wide.2 hnx)).mono ?_; intro e W2 hd; unfold NextDid at hd; rw [h2] at hd; obtain ⟨A2, c2, rfl, ho2, hc2, hm2, hb2⟩ := hd; have j1 := (hb2.cell (p := ⟨w.heap.size + 1, 0, none⟩) (cell_lt i1)).trans i1; have j2 := (hb2.frozen (p := ⟨w.heap.size + 1, 0, none⟩) (cell_lt i1)).trans i2)
    have i3' := (hb2.cell (p := ⟨w.heap.size, 0, none⟩) (cell_lt i3)).trans i3
    have i4' := (hb2.cell (p := ⟨w.heap.size + 2, 0, none⟩) (cell_lt i4)).trans i4
    refine ⟨(KeepsFrom.below hb2).trans ((KeepsOthers.setCell _ _ _).from _), ⟨⟨en, .step h1 h2, World.cell?_setCell_same' _ _ _ (by rw [j1]; rfl)⟩, by rw [World.frozen?_setCell]; exact j2, ?_, ?_⟩, (hB.trans (hb2.mono hB.size)).setCell (p := ⟨w.heap.size + 1, 0, none⟩) (by simp) _⟩
    · exact (World.cell?_setCell_other W2 ⟨w.heap.size + 1, 0, none⟩ ⟨w.heap.size, 0, none⟩ _ (by intro e; injection e with e; omega)).trans i3'
    · exact (World.cell?_setCell_other W2 ⟨w.heap.size + 1, 0, none⟩ ⟨w.heap.size + 2, 0, none⟩ _ (by intro e; injection e with e; omega)).trans i4'
  case done =>
    rintro D k W hD ⟨at_, r, hp, hn'⟩ hI hK
    have hB := hI.2
    obtain ⟨⟨⟨at1, hp1, i1⟩, i2, i3, i4⟩, -⟩ := hI
    obtain rfl := hp.det hp1
    have hle := hp.le
    have hnx := next_B W (hh.below hB hh.lt) A b c b.length (hr.below hB) rfl hn hm (at_ : Int)
    by_cases he : at_ = b.length
    · have he' : (at_ : Int) = (b.length : Int) := by omega
      gi_wp2
      have hK2 := (KeepsOthers.setCell W ⟨w.heap.size + 1, 0, none⟩ (.int .i64 (b.length : Int))).same D _ hK rfl
      have hB2 := hB.setCell (p := ⟨w.heap.size + 1, 0, none⟩) (by simp) (.int .i64 (b.length : Int))
      have j1 : (W.setCell ⟨w.heap.size + 1, 0, none⟩ (.int .i64 (b.length : Int))).cell? ⟨w.heap.size + 1, 0, none⟩ = some (.int .i64 (b.length : Int)) := World.cell?_setCell_same' _ _ _ (by rw [i1]; rfl)
      generalize W.setCell ⟨w.heap.size + 1, 0, none⟩ (.int .i64 (b.length : Int)) = W2 at *
      refine ⟨by simp, .inl ⟨_, _, rfl, run_takeDeferred hK2, ?_⟩⟩
      exact good_ret rfl rfl (by omega) hK2 hB2 j1 (fun hb => ⟨b.length, 0, ⟨k, he ▸ hp, r, he ▸ hn', by simp⟩, rfl, hb⟩)
    · have he' : (at_ : Int) < (b.length : Int) := by omega
      gi_wp2_with (refine ⟨trivial, ?_⟩; gi_at_call 28; refine (callsIn_wide.2 hnx).mono ?_; intro e W2 hd; unfold NextDid at hd; rw [hn'] at hd; obtain ⟨rfl, hb2⟩ := hd; have j1 := (hb2.cell (p := ⟨w.heap.size + 1, 0, none⟩) (cell_lt i1)).trans i1; have j2 := (hb2.frozen (p := ⟨w.heap.size + 1, 0, none⟩) (cell_lt i1)).trans i2)
      have hK1 := (hb2.block D (Array.getElem?_eq_some_iff.1 hK).1).trans hK
      have hK2 := (KeepsOthers.setCell W2 ⟨w.heap.size + 1, 0, none⟩ (.int .i64 (at_ : Int))).same D _ hK1 rfl
      have hB2 := (hB.trans (hb2.mono hB.size)).setCell (p := ⟨w.heap.size + 1, 0, none⟩) (by simp) (.int .i64 (at_ : Int))
      have j3 : (W2.setCell ⟨w.heap.size + 1, 0, none⟩ (.int .i64 (at_ : Int))).cell? ⟨w.heap.size + 1, 0, none⟩ = some (.int .i64 (at_ : Int)) := World.cell?_setCell_same' _ _ _ (by rw [j1]; rfl)
      generalize W2.setCell ⟨w.heap.size + 1, 0, none⟩ (.int .i64 (at_ : Int)) = W3 at *
      refine ⟨by simp, .inl ⟨_, _, rfl, run_takeDeferred hK2, ?_⟩⟩
      exact good_ret rfl rfl (by omega) hK2 hB2 j3 (fun hb => ⟨at_, r, ⟨k, hp, r, hn', by rw [if_neg he]⟩, rfl, hb⟩)
  case stop =>
    rintro D c k W _ h _
    exact h.elim
end Go.Proofs.YtediidajdpdeiaaDoor
