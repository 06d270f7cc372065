/- SeglogPlays (layer 7): the law's walk. -/
import Derived.Test.YtediidajdpdeiaaDoorJ21

namespace Go.Proofs.YtediidajdpdeiaaDoor
open Go.RowKit CrcM
set_option maxRecDepth 100000

set_option maxHeartbeats 4000000 in
theorem same_07 (W : World) (hh : HalfAt W) (per : Int) (A : Option Addr) (acts : List Act07) (c : Nat) (hA : ActsAt W A acts) (hlen : acts.length ≤ maxLen) :
    Calls Tryd.prog 15 #[.int .i64 per, .slice A acts.length c] W fun e w' => e = .returned (.bool true) ∧ Below W.heap.size W w' := by
  unfold maxLen at hlen
  by_cases hp : 1 ≤ per ∧ per ≤ 1024
  case neg =>
    have hw := works_07 W W (Below.refl _ _) hh
    by_cases h0 : (0 : Int) < (acts.length : Int)
    all_goals
      go_enter Tryd.func15, Tryd.ntmps15
      go_wp2_with (first
        | (go_at_call 34; refine (newL W per).mono ?_; rintro e w1 h1; rw [if_neg hp] at h1; obtain ⟨rfl, rfl⟩ := h1)
        | (go_at_call 50; refine (refLogNew_B w1 per).mono ?_; rintro e w2 h2; rw [if_neg hp] at h2; obtain ⟨rfl, rfl⟩ := h2))
      go_loopw [5, 9] (fun _ i wr => i = .int .i64 0 ∧ wr = w2) (fun _ _ _ => 0)
      case atStart => exact ⟨rfl, rfl⟩
      case round =>
        obtain ⟨rfl, rfl⟩ := hrel
        go_wp2_with (go_at_call 41; refine hw.mono ?_; rintro e w3 ⟨rfl, hb3⟩)
        go_ret
        exact ⟨rfl, hb3⟩
  case pos =>
    go_enter Tryd.func15, Tryd.ntmps15
    go_wp2_with (first
      | (go_at_call 34; refine (newL W per).mono ?_; rintro e w1 h1; rw [if_pos hp] at h1; obtain ⟨p1, rfl, ⟨b, rfl, hl1⟩, hb1⟩ := h1; unfold ptr)
      | (go_at_call 50; refine (refLogNew_B w1 per).mono ?_; rintro e w2 h2; rw [if_pos hp] at h2; obtain ⟨r, A2, c2, ps2, H2, rfl, hr2, hb2⟩ := h2))
    have hG0 : BothG W w2 b r (Lg.new per.toNat) (Lg.new per.toNat).ref := BothG.make hl1 (Below.refl _ _) hb1 hb2 hr2
    have hinv0 : (Lg.new per.toNat).inv 0 := Lg.inv_new (by omega) (by omega)
    generalize Lg.new per.toNat = L0 at *
    clear hr2 hl1 hb1 hb2
    go_loopw [5, 9] (fun lv i wr => ∃ (k b : Nat) (L : Lg), k ≤ acts.length ∧ k ≤ 60 ∧ i = .int .i64 k ∧ lv = .pointer (some ⟨b, 0, none⟩) ∧ L.inv k ∧ BothG W wr b r L L.ref) (fun _ i _ => 60 - (intOf i).toNat)
    case atStart => exact ⟨0, b, L0, by omega, by omega, rfl, rfl, hinv0, hG0⟩
    case round =>
      obtain ⟨k, b, L, hk, hk6, rfl, rfl, hinv, hG⟩ := hrel
      have hlL := hinv.len_le
      clear hG0 hinv0
      by_cases hlt : k < acts.length ∧ k < 60
      · obtain ⟨hlt, hlt6⟩ := hlt
        obtain ⟨a, ha⟩ : ∃ a, acts[k]? = some a := ⟨_, List.getElem?_eq_getElem hlt⟩
        obtain ⟨g, o, B, cb, rfl, hg, e0, e1, e2, e3, hcb, hcm, hB, ik, inn, ifl⟩ := hA k a ha
        have hbel := hG.below
        have f0 : wr.cell? ⟨g, o + k * 4, none⟩ = some (.int .i64 a.kind) := (hbel.cell (p := ⟨g, o + k * 4, none⟩) hg).trans e0
        have f1 : wr.cell? ⟨g, o + k * 4 + 1, none⟩ = some (.int .i64 a.n) := (hbel.cell (p := ⟨g, o + k * 4 + 1, none⟩) hg).trans e1
        have f2 : wr.cell? ⟨g, o + k * 4 + 2, none⟩ = some (.int .i64 a.flip) := (hbel.cell (p := ⟨g, o + k * 4 + 2, none⟩) hg).trans e2
        have f3 : wr.cell? ⟨g, o + k * 4 + 3, none⟩ = some (.slice B a.b.length cb) := (hbel.cell (p := ⟨g, o + k * 4 + 3, none⟩) hg).trans e3
        clear e0 e1 e2 e3 ha hA
        have hlt' : (k : Int) < (acts.length : Int) := by omega
        have hlt6' : (k : Int) < 60 := by omega
        by_cases k5 : a.kind = 5
        case' pos =>
          have k5' : (a.kind == 5) = true := by simpa using k5
          have kc := fun (w : World) (C : Array Value) (n c : Nat) => Lib.run_convert_bytes_const (P := Tryd.prog) w 22 TB C n c Tryd.underlying22 Tryd.underlying5
          clear f1 f2 f3
          go_wp2_with (first
            | (go_at_call 49; refine hG.copy.mono ?_; rintro e w3 ⟨b3, rfl, hC3, hb3⟩)
            | (go_at_call 35
               have b34 := (Below.refl w3.heap.size w3).alloc (Nat.le_refl _) (Obj.cells #[.int .u8 122, .int .u8 122] TB (2, 3))
               have hL : Byt (w3.alloc (Obj.cells #[.int .u8 122, .int .u8 122] TB (2, 3))) (some ⟨w3.heap.size, 0, none⟩) [122, 122] := Own.of_cells (fun _ => True) (heap_alloc_new w3 _) trivial rfl
               refine ((hC3.mono b34).seg (Q := fun e => e = .returned (.tuple #[.int .i64 ((L.append [122, 122]).2.1 : Int), .int .i64 (L.append [122, 122]).2.2])) (fun T hT => append_G hT hh (by omega) (some ⟨w3.heap.size, 0, none⟩) [122, 122] 2 hL.arg (by decide))).mono ?_
               rintro e w4 ⟨rfl, hC4⟩)
            | (go_at_call 43
               refine (hC4.seg (Q := fun e => e = .returned (.int .i64 ((L.append [122, 122]).1.crash 0 0).2)) (fun T hT => crash_G hT 0 0 (by decide) (by decide) (by decide) (by decide))).mono ?_
               rintro e w1 ⟨rfl, hC5⟩
               have hG1 := hC5.swap))
          have hinv1 := hinv.mono (Nat.le_succ k)
          generalize L = L1 at *
          generalize b3 = b1 at *
        case' neg =>
          have k5' : (a.kind == 5) = false := by simpa using k5
          have hdo := does_B hG hh hinv (by omega) a B cb hcb hcm hB inn ifl
          have hinv1 := hinv.act5 (by omega) a
          generalize L.act5 a = L1 at *
          go_wp2_with (first
            | (go_at_call 51; refine hdo.mono ?_; rintro e w1 ⟨rfl, hG1⟩))
          generalize b = b1 at *
        all_goals
          go_wp2_with (first
            | (go_at_call 40; refine (hG1.all hinv1 (by omega)).mono ?_; rintro e w2 ⟨A2, c2, X2, rfl, hH2, hG2, hb2⟩))
          obtain ⟨Ar, cr, pr, -, d2, -⟩ := hG2.cells
          refine wp_region_T #[[], [], [], [], [], [], [], [], [], [], [], [], [], [], [], [], [15], [15], [15], [15], [15], [15], [15], [15], [15], [15], [15], [15], [15], [15], [15], [15], [15], [15], [15], [15], [15], [15], [15]] [15] (fun w' => w'.cell? ⟨r, 2, none⟩ = some (.bool L1.down) ∧ True) 39 rfl (by kernel_rfl) ?_
          (refine wpAnyT_free (i := 0) rfl (by kernel_rfl) rfl (fun _ _ _ h => h) (by kernel_rfl) (fun _ => by go_simp; try rfl) ?_; (try simp only [Act.put, List.setIfInBounds_toArray, List.set_cons_zero, List.set_cons_succ]))
          (refine wpAnyT_free (i := 1) rfl (by kernel_rfl) rfl (fun _ _ _ h => h) (by kernel_rfl) (fun _ => by go_simp; try rfl) ?_; (try simp only [Act.put, List.setIfInBounds_toArray, List.set_cons_zero, List.set_cons_succ]))
          (refine wpAnyT_free (i := 2) rfl (by kernel_rfl) rfl (fun _ _ _ h => h) (by kernel_rfl) (fun _ => by go_simp; try rfl) ?_; (try simp only [Act.put, List.setIfInBounds_toArray, List.set_cons_zero, List.set_cons_succ]))
          first
          | (refine wpAnyT_skip (i := 3) rfl (by kernel_rfl) rfl (fun _ _ _ h => h) (fun h_ => absurd h_ (by decide)) ?_; (try simp only [Act.put, List.setIfInBounds_toArray, List.set_cons_zero, List.set_cons_succ]))
          | (refine wpAnyT_free (i := 3) rfl (by kernel_rfl) rfl (fun _ _ _ h => h) (by kernel_rfl) (fun _ => by go_simp; try rfl) ?_; (try simp only [Act.put, List.setIfInBounds_toArray, List.set_cons_zero, List.set_cons_succ]))
          | (refine wpAnyT_skip (i := 3) rfl (by kernel_rfl) (by first | (simp [Region.wanted, yielded]; done) | (simp [Region.wanted, yielded, undef, *]; done)) (fun _ _ _ h => h) (fun h_ => absurd h_ (by decide)) ?_; (try simp only [Act.put, List.setIfInBounds_toArray, List.set_cons_zero, List.set_cons_succ]))
          | (refine wpAnyT_free (i := 3) rfl (by kernel_rfl) (by first | (simp [Region.wanted, yielded]; done) | (simp [Region.wanted, yielded, undef, *]; done)) (fun _ _ _ h => h) (by kernel_rfl) (fun _ => by go_simp; try rfl) ?_; (try simp only [Act.put, List.setIfInBounds_toArray, List.set_cons_zero, List.set_cons_succ]))
          first
          | (refine wpAnyT_skip (i := 4) rfl (by kernel_rfl) rfl (fun _ _ _ h => h) (fun h_ => absurd h_ (by decide)) ?_; (try simp only [Act.put, List.setIfInBounds_toArray, List.set_cons_zero, List.set_cons_succ]))
          | (refine wpAnyT_free (i := 4) rfl (by kernel_rfl) rfl (fun _ _ _ h => h) (by kernel_rfl) (fun _ => by go_simp; try rfl) ?_; (try simp only [Act.put, List.setIfInBounds_toArray, List.set_cons_zero, List.set_cons_succ]))
          | (refine wpAnyT_skip (i := 4) rfl (by kernel_rfl) (by first | (simp [Region.wanted, yielded]; done) | (simp [Region.wanted, yielded, undef, *]; done)) (fun _ _ _ h => h) (fun h_ => absurd h_ (by decide)) ?_; (try simp only [Act.put, List.setIfInBounds_toArray, List.set_cons_zero, List.set_cons_succ]))
          | (refine wpAnyT_free (i := 4) rfl (by kernel_rfl) (by first | (simp [Region.wanted, yielded]; done) | (simp [Region.wanted, yielded, undef, *]; done)) (fun _ _ _ h => h) (by kernel_rfl) (fun _ => by go_simp; try rfl) ?_; (try simp only [Act.put, List.setIfInBounds_toArray, List.set_cons_zero, List.set_cons_succ]))
          first
          | (refine wpAnyT_skip (i := 5) rfl (by kernel_rfl) rfl (fun _ _ _ h => h) (fun h_ => absurd h_ (by decide)) ?_; (try simp only [Act.put, List.setIfInBounds_toArray, List.set_cons_zero, List.set_cons_succ]))
          | (refine wpAnyT_one (i := 5) rfl (by kernel_rfl) rfl ?_
             intro K_ hK_
             go_wp2_with ((go_at_call 52; refine (hG2.drewB.records hinv1 (by omega)).mono ?_; rintro e w3 ⟨A3, c3, X3, rfl, hH3, hG3, l3⟩; have hH2' := hH2.below ⟨l3.os, l3.tape, l3.output, l3.size, l3.block⟩; replace d2 := (l3.cell (p := ⟨r, 2, none⟩) (cell_lt d2)).trans d2))
             refine hK_ _ _ ?_ ?_
             · exact fun _ _ => ⟨d2, trivial⟩
             clear hK_ K_
             (try simp only [Act.put, List.setIfInBounds_toArray, List.set_cons_zero, List.set_cons_succ]))
          | (refine wpAnyT_skip (i := 5) rfl (by kernel_rfl) (by first | (simp [Region.wanted, yielded]; done) | (simp [Region.wanted, yielded, undef, *]; done)) (fun _ _ _ h => h) (fun h_ => absurd h_ (by decide)) ?_; (try simp only [Act.put, List.setIfInBounds_toArray, List.set_cons_zero, List.set_cons_succ]))
          | (refine wpAnyT_one (i := 5) rfl (by kernel_rfl) (by first | (simp [Region.wanted, yielded]; done) | (simp [Region.wanted, yielded, undef, *]; done)) ?_
             intro K_ hK_
             go_wp2_with ((go_at_call 52; refine (hG2.drewB.records hinv1 (by omega)).mono ?_; rintro e w3 ⟨A3, c3, X3, rfl, hH3, hG3, l3⟩; have hH2' := hH2.below ⟨l3.os, l3.tape, l3.output, l3.size, l3.block⟩; replace d2 := (l3.cell (p := ⟨r, 2, none⟩) (cell_lt d2)).trans d2))
             refine hK_ _ _ ?_ ?_
             · exact fun _ _ => ⟨d2, trivial⟩
             clear hK_ K_
             (try simp only [Act.put, List.setIfInBounds_toArray, List.set_cons_zero, List.set_cons_succ]))
          first
          | (refine wpAnyT_skip (i := 6) rfl (by kernel_rfl) rfl (fun _ _ _ h => h) (fun h_ => absurd h_ (by decide)) ?_; (try simp only [Act.put, List.setIfInBounds_toArray, List.set_cons_zero, List.set_cons_succ]))
          | (refine wpAnyT_one (i := 6) rfl (by kernel_rfl) rfl ?_
             intro K_ hK_
             go_wp2_with ((go_at_call 45; refine (alike_same hH2' hH3).mono ?_; rintro e w4 ⟨rfl, l4⟩; have hG4 := hG3.mono l4; replace d2 := (l4.cell (p := ⟨r, 2, none⟩) (cell_lt d2)).trans d2))
             refine hK_ _ _ ?_ ?_
             · exact fun _ _ => ⟨d2, trivial⟩
             clear hK_ K_
             (try simp only [Act.put, List.setIfInBounds_toArray, List.set_cons_zero, List.set_cons_succ]))
          | (refine wpAnyT_skip (i := 6) rfl (by kernel_rfl) (by first | (simp [Region.wanted, yielded]; done) | (simp [Region.wanted, yielded, undef, *]; done)) (fun _ _ _ h => h) (fun h_ => absurd h_ (by decide)) ?_; (try simp only [Act.put, List.setIfInBounds_toArray, List.set_cons_zero, List.set_cons_succ]))
          | (refine wpAnyT_one (i := 6) rfl (by kernel_rfl) (by first | (simp [Region.wanted, yielded]; done) | (simp [Region.wanted, yielded, undef, *]; done)) ?_
             intro K_ hK_
             go_wp2_with ((go_at_call 45; refine (alike_same hH2' hH3).mono ?_; rintro e w4 ⟨rfl, l4⟩; have hG4 := hG3.mono l4; replace d2 := (l4.cell (p := ⟨r, 2, none⟩) (cell_lt d2)).trans d2))
             refine hK_ _ _ ?_ ?_
             · exact fun _ _ => ⟨d2, trivial⟩
             clear hK_ K_
             (try simp only [Act.put, List.setIfInBounds_toArray, List.set_cons_zero, List.set_cons_succ]))
          first
          | (refine wpAnyT_skip (i := 7) rfl (by kernel_rfl) rfl (fun _ _ _ h => h) (fun h_ => absurd h_ (by decide)) ?_; (try simp only [Act.put, List.setIfInBounds_toArray, List.set_cons_zero, List.set_cons_succ]))
          | (refine wpAnyT_free (i := 7) rfl (by kernel_rfl) rfl (fun _ _ _ h => h) (by kernel_rfl) (fun _ => by go_simp; try rfl) ?_; (try simp only [Act.put, List.setIfInBounds_toArray, List.set_cons_zero, List.set_cons_succ]))
          | (refine wpAnyT_skip (i := 7) rfl (by kernel_rfl) (by first | (simp [Region.wanted, yielded]; done) | (simp [Region.wanted, yielded, undef, *]; done)) (fun _ _ _ h => h) (fun h_ => absurd h_ (by decide)) ?_; (try simp only [Act.put, List.setIfInBounds_toArray, List.set_cons_zero, List.set_cons_succ]))
          | (refine wpAnyT_free (i := 7) rfl (by kernel_rfl) (by first | (simp [Region.wanted, yielded]; done) | (simp [Region.wanted, yielded, undef, *]; done)) (fun _ _ _ h => h) (by kernel_rfl) (fun _ => by go_simp; try rfl) ?_; (try simp only [Act.put, List.setIfInBounds_toArray, List.set_cons_zero, List.set_cons_succ]))
          (refine wpAnyT_free (i := 8) rfl (by kernel_rfl) rfl (fun _ _ _ h => h) (by kernel_rfl) (fun _ => by go_simp; try rfl) ?_; (try simp only [Act.put, List.setIfInBounds_toArray, List.set_cons_zero, List.set_cons_succ]))
          (refine wpAnyT_free (i := 9) rfl (by kernel_rfl) rfl (fun _ _ _ h => h) (by kernel_rfl) (fun _ => by go_simp; try rfl) ?_; (try simp only [Act.put, List.setIfInBounds_toArray, List.set_cons_zero, List.set_cons_succ]))
          first
          | (refine wpAnyT_skip (i := 10) rfl (by kernel_rfl) rfl (fun _ _ _ h => h) (fun h_ => absurd h_ (by decide)) ?_; (try simp only [Act.put, List.setIfInBounds_toArray, List.set_cons_zero, List.set_cons_succ]))
          | (refine wpAnyT_free (i := 10) rfl (by kernel_rfl) rfl (fun _ _ _ h => h) (by kernel_rfl) (fun _ => by go_simp; try rfl) ?_; (try simp only [Act.put, List.setIfInBounds_toArray, List.set_cons_zero, List.set_cons_succ]))
          | (refine wpAnyT_skip (i := 10) rfl (by kernel_rfl) (by first | (simp [Region.wanted, yielded]; done) | (simp [Region.wanted, yielded, undef, *]; done)) (fun _ _ _ h => h) (fun h_ => absurd h_ (by decide)) ?_; (try simp only [Act.put, List.setIfInBounds_toArray, List.set_cons_zero, List.set_cons_succ]))
          | (refine wpAnyT_free (i := 10) rfl (by kernel_rfl) (by first | (simp [Region.wanted, yielded]; done) | (simp [Region.wanted, yielded, undef, *]; done)) (fun _ _ _ h => h) (by kernel_rfl) (fun _ => by go_simp; try rfl) ?_; (try simp only [Act.put, List.setIfInBounds_toArray, List.set_cons_zero, List.set_cons_succ]))
          first
          | (refine wpAnyT_skip (i := 12) rfl (by kernel_rfl) rfl (fun _ _ _ h => h) (fun h_ => absurd h_ (by decide)) ?_; (try simp only [Act.put, List.setIfInBounds_toArray, List.set_cons_zero, List.set_cons_succ]))
          | (refine wpAnyT_free (i := 12) rfl (by kernel_rfl) rfl (fun _ _ _ h => h) (by kernel_rfl) (fun _ => by go_simp; try rfl) ?_; (try simp only [Act.put, List.setIfInBounds_toArray, List.set_cons_zero, List.set_cons_succ]))
          | (refine wpAnyT_skip (i := 12) rfl (by kernel_rfl) (by first | (simp [Region.wanted, yielded]; done) | (simp [Region.wanted, yielded, undef, *]; done)) (fun _ _ _ h => h) (fun h_ => absurd h_ (by decide)) ?_; (try simp only [Act.put, List.setIfInBounds_toArray, List.set_cons_zero, List.set_cons_succ]))
          | (refine wpAnyT_free (i := 12) rfl (by kernel_rfl) (by first | (simp [Region.wanted, yielded]; done) | (simp [Region.wanted, yielded, undef, *]; done)) (fun _ _ _ h => h) (by kernel_rfl) (fun _ => by go_simp; try rfl) ?_; (try simp only [Act.put, List.setIfInBounds_toArray, List.set_cons_zero, List.set_cons_succ]))
          first
          | (refine wpAnyT_skip (i := 13) rfl (by kernel_rfl) rfl (fun _ _ _ h => h) (fun h_ => absurd h_ (by decide)) ?_; (try simp only [Act.put, List.setIfInBounds_toArray, List.set_cons_zero, List.set_cons_succ]))
          | (refine wpAnyT_free (i := 13) rfl (by kernel_rfl) rfl (fun _ _ _ h => h) (by kernel_rfl) (fun _ => by go_simp; try rfl) ?_; (try simp only [Act.put, List.setIfInBounds_toArray, List.set_cons_zero, List.set_cons_succ]))
          | (refine wpAnyT_skip (i := 13) rfl (by kernel_rfl) (by first | (simp [Region.wanted, yielded]; done) | (simp [Region.wanted, yielded, undef, *]; done)) (fun _ _ _ h => h) (fun h_ => absurd h_ (by decide)) ?_; (try simp only [Act.put, List.setIfInBounds_toArray, List.set_cons_zero, List.set_cons_succ]))
          | (refine wpAnyT_free (i := 13) rfl (by kernel_rfl) (by first | (simp [Region.wanted, yielded]; done) | (simp [Region.wanted, yielded, undef, *]; done)) (fun _ _ _ h => h) (by kernel_rfl) (fun _ => by go_simp; try rfl) ?_; (try simp only [Act.put, List.setIfInBounds_toArray, List.set_cons_zero, List.set_cons_succ]))
          first
          | (refine wpAnyT_skip (i := 14) rfl (by kernel_rfl) rfl (fun _ _ _ h => h) (fun h_ => absurd h_ (by decide)) ?_; (try simp only [Act.put, List.setIfInBounds_toArray, List.set_cons_zero, List.set_cons_succ]))
          | (refine wpAnyT_free (i := 14) rfl (by kernel_rfl) rfl (fun _ _ _ h => h) (by kernel_rfl) (fun _ => by go_simp; try rfl) ?_; (try simp only [Act.put, List.setIfInBounds_toArray, List.set_cons_zero, List.set_cons_succ]))
          | (refine wpAnyT_skip (i := 14) rfl (by kernel_rfl) (by first | (simp [Region.wanted, yielded]; done) | (simp [Region.wanted, yielded, undef, *]; done)) (fun _ _ _ h => h) (fun h_ => absurd h_ (by decide)) ?_; (try simp only [Act.put, List.setIfInBounds_toArray, List.set_cons_zero, List.set_cons_succ]))
          | (refine wpAnyT_free (i := 14) rfl (by kernel_rfl) (by first | (simp [Region.wanted, yielded]; done) | (simp [Region.wanted, yielded, undef, *]; done)) (fun _ _ _ h => h) (by kernel_rfl) (fun _ => by go_simp; try rfl) ?_; (try simp only [Act.put, List.setIfInBounds_toArray, List.set_cons_zero, List.set_cons_succ]))
          first
          | (refine wpAnyT_skip (i := 15) rfl (by kernel_rfl) rfl (fun _ _ _ h => h) (fun _ => ⟨d2, trivial⟩) ?_; (try simp only [Act.put, List.setIfInBounds_toArray, List.set_cons_zero, List.set_cons_succ]))
          | (refine wpAnyT_read (i := 15) rfl (by kernel_rfl) rfl (fun _ _ _ h => h) (by kernel_rfl) (⟨d2, trivial⟩) (fun w hS_ => by obtain ⟨s_1, s_2⟩ := hS_; go_simp; try rfl) ?_; (try simp only [Act.put, List.setIfInBounds_toArray, List.set_cons_zero, List.set_cons_succ]))
          | (refine wpAnyT_skip (i := 15) rfl (by kernel_rfl) (by first | (simp [Region.wanted, yielded]; done) | (simp [Region.wanted, yielded, undef, *]; done)) (fun _ _ _ h => h) (fun _ => ⟨d2, trivial⟩) ?_; (try simp only [Act.put, List.setIfInBounds_toArray, List.set_cons_zero, List.set_cons_succ]))
          | (refine wpAnyT_read (i := 15) rfl (by kernel_rfl) (by first | (simp [Region.wanted, yielded]; done) | (simp [Region.wanted, yielded, undef, *]; done)) (fun _ _ _ h => h) (by kernel_rfl) (⟨d2, trivial⟩) (fun w hS_ => by obtain ⟨s_1, s_2⟩ := hS_; go_simp; try rfl) ?_; (try simp only [Act.put, List.setIfInBounds_toArray, List.set_cons_zero, List.set_cons_succ]))
          first
          | (refine wpAnyT_skip (i := 11) rfl (by kernel_rfl) rfl (fun _ _ _ h => h) (fun h_ => absurd h_ (by decide)) ?_; (try simp only [Act.put, List.setIfInBounds_toArray, List.set_cons_zero, List.set_cons_succ]))
          | (refine wpAnyT_one (i := 11) rfl (by kernel_rfl) rfl ?_
             intro K_ hK_
             go_wp2_with ((go_at_call 48; refine hG4.down.mono ?_; rintro e w5 ⟨rfl, rfl⟩))
             refine hK_ _ _ ?_ ?_
             · exact fun _ h_ => h_
             clear hK_ K_
             (try simp only [Act.put, List.setIfInBounds_toArray, List.set_cons_zero, List.set_cons_succ]))
          | (refine wpAnyT_skip (i := 11) rfl (by kernel_rfl) (by first | (simp [Region.wanted, yielded]; done) | (simp [Region.wanted, yielded, undef, *]; done)) (fun _ _ _ h => h) (fun h_ => absurd h_ (by decide)) ?_; (try simp only [Act.put, List.setIfInBounds_toArray, List.set_cons_zero, List.set_cons_succ]))
          | (refine wpAnyT_one (i := 11) rfl (by kernel_rfl) (by first | (simp [Region.wanted, yielded]; done) | (simp [Region.wanted, yielded, undef, *]; done)) ?_
             intro K_ hK_
             go_wp2_with ((go_at_call 48; refine hG4.down.mono ?_; rintro e w5 ⟨rfl, rfl⟩))
             refine hK_ _ _ ?_ ?_
             · exact fun _ h_ => h_
             clear hK_ K_
             (try simp only [Act.put, List.setIfInBounds_toArray, List.set_cons_zero, List.set_cons_succ]))
          first
          | (refine wpAnyT_skip (i := 16) rfl (by kernel_rfl) rfl (fun _ _ _ h => h) (fun h_ => absurd h_ (by decide)) ?_; (try simp only [Act.put, List.setIfInBounds_toArray, List.set_cons_zero, List.set_cons_succ]))
          | (refine wpAnyT_free (i := 16) rfl (by kernel_rfl) rfl (fun _ _ _ h => h) (by kernel_rfl) (fun _ => by go_simp; try rfl) ?_; (try simp only [Act.put, List.setIfInBounds_toArray, List.set_cons_zero, List.set_cons_succ]))
          | (refine wpAnyT_skip (i := 16) rfl (by kernel_rfl) (by first | (simp [Region.wanted, yielded]; done) | (simp [Region.wanted, yielded, undef, *]; done)) (fun _ _ _ h => h) (fun h_ => absurd h_ (by decide)) ?_; (try simp only [Act.put, List.setIfInBounds_toArray, List.set_cons_zero, List.set_cons_succ]))
          | (refine wpAnyT_free (i := 16) rfl (by kernel_rfl) (by first | (simp [Region.wanted, yielded]; done) | (simp [Region.wanted, yielded, undef, *]; done)) (fun _ _ _ h => h) (by kernel_rfl) (fun _ => by go_simp; try rfl) ?_; (try simp only [Act.put, List.setIfInBounds_toArray, List.set_cons_zero, List.set_cons_succ]))
          (refine wpAnyT_free (i := 17) rfl (by kernel_rfl) rfl (fun _ _ _ h => h) (by kernel_rfl) (fun _ => by go_simp; try rfl) ?_; (try simp only [Act.put, List.setIfInBounds_toArray, List.set_cons_zero, List.set_cons_succ]))
          (refine wpAnyT_free (i := 18) rfl (by kernel_rfl) rfl (fun _ _ _ h => h) (by kernel_rfl) (fun _ => by go_simp; try rfl) ?_; (try simp only [Act.put, List.setIfInBounds_toArray, List.set_cons_zero, List.set_cons_succ]))
          first
          | (refine wpAnyT_skip (i := 19) rfl (by kernel_rfl) rfl (fun _ _ _ h => h) (fun h_ => absurd h_ (by decide)) ?_; (try simp only [Act.put, List.setIfInBounds_toArray, List.set_cons_zero, List.set_cons_succ]))
          | (refine wpAnyT_free (i := 19) rfl (by kernel_rfl) rfl (fun _ _ _ h => h) (by kernel_rfl) (fun _ => by go_simp; try rfl) ?_; (try simp only [Act.put, List.setIfInBounds_toArray, List.set_cons_zero, List.set_cons_succ]))
          | (refine wpAnyT_skip (i := 19) rfl (by kernel_rfl) (by first | (simp [Region.wanted, yielded]; done) | (simp [Region.wanted, yielded, undef, *]; done)) (fun _ _ _ h => h) (fun h_ => absurd h_ (by decide)) ?_; (try simp only [Act.put, List.setIfInBounds_toArray, List.set_cons_zero, List.set_cons_succ]))
          | (refine wpAnyT_free (i := 19) rfl (by kernel_rfl) (by first | (simp [Region.wanted, yielded]; done) | (simp [Region.wanted, yielded, undef, *]; done)) (fun _ _ _ h => h) (by kernel_rfl) (fun _ => by go_simp; try rfl) ?_; (try simp only [Act.put, List.setIfInBounds_toArray, List.set_cons_zero, List.set_cons_succ]))
          first
          | (refine wpAnyT_skip (i := 21) rfl (by kernel_rfl) rfl (fun _ _ _ h => h) (fun h_ => absurd h_ (by decide)) ?_; (try simp only [Act.put, List.setIfInBounds_toArray, List.set_cons_zero, List.set_cons_succ]))
          | (refine wpAnyT_free (i := 21) rfl (by kernel_rfl) rfl (fun _ _ _ h => h) (by kernel_rfl) (fun _ => by go_simp; try rfl) ?_; (try simp only [Act.put, List.setIfInBounds_toArray, List.set_cons_zero, List.set_cons_succ]))
          | (refine wpAnyT_skip (i := 21) rfl (by kernel_rfl) (by first | (simp [Region.wanted, yielded]; done) | (simp [Region.wanted, yielded, undef, *]; done)) (fun _ _ _ h => h) (fun h_ => absurd h_ (by decide)) ?_; (try simp only [Act.put, List.setIfInBounds_toArray, List.set_cons_zero, List.set_cons_succ]))
          | (refine wpAnyT_free (i := 21) rfl (by kernel_rfl) (by first | (simp [Region.wanted, yielded]; done) | (simp [Region.wanted, yielded, undef, *]; done)) (fun _ _ _ h => h) (by kernel_rfl) (fun _ => by go_simp; try rfl) ?_; (try simp only [Act.put, List.setIfInBounds_toArray, List.set_cons_zero, List.set_cons_succ]))
          first
          | (refine wpAnyT_skip (i := 20) rfl (by kernel_rfl) rfl (fun _ _ _ h => h) (fun h_ => absurd h_ (by decide)) ?_; (try simp only [Act.put, List.setIfInBounds_toArray, List.set_cons_zero, List.set_cons_succ]))
          | (refine wpAnyT_sink (i := 20) rfl (by kernel_rfl) rfl (by kernel_rfl) ?_
             intro K_ hK_
             go_wp2_with ((go_at_call 39; refine (hG4.told (fun T hT => base_G hT)).mono ?_; rintro e w5 ⟨rfl, hG5, l5⟩; replace d2 := (l5.cell (p := ⟨r, 2, none⟩) (cell_lt d2)).trans d2))
             (try (refine hK_ _ _ ?_; clear hK_ K_))
             (try simp only [Act.put, List.setIfInBounds_toArray, List.set_cons_zero, List.set_cons_succ]))
          | (refine wpAnyT_skip (i := 20) rfl (by kernel_rfl) (by first | (simp [Region.wanted, yielded]; done) | (simp [Region.wanted, yielded, undef, *]; done)) (fun _ _ _ h => h) (fun h_ => absurd h_ (by decide)) ?_; (try simp only [Act.put, List.setIfInBounds_toArray, List.set_cons_zero, List.set_cons_succ]))
          | (refine wpAnyT_sink (i := 20) rfl (by kernel_rfl) (by first | (simp [Region.wanted, yielded]; done) | (simp [Region.wanted, yielded, undef, *]; done)) (by kernel_rfl) ?_
             intro K_ hK_
             go_wp2_with ((go_at_call 39; refine (hG4.told (fun T hT => base_G hT)).mono ?_; rintro e w5 ⟨rfl, hG5, l5⟩; replace d2 := (l5.cell (p := ⟨r, 2, none⟩) (cell_lt d2)).trans d2))
             (try (refine hK_ _ _ ?_; clear hK_ K_))
             (try simp only [Act.put, List.setIfInBounds_toArray, List.set_cons_zero, List.set_cons_succ]))
          first
          | (refine wpAnyT_skip (i := 22) rfl (by kernel_rfl) rfl (fun _ _ _ h => h) (fun h_ => absurd h_ (by decide)) ?_; (try simp only [Act.put, List.setIfInBounds_toArray, List.set_cons_zero, List.set_cons_succ]))
          | (refine wpAnyT_sink (i := 22) rfl (by kernel_rfl) rfl (by kernel_rfl) ?_
             intro K_ hK_
             go_wp2_with ((go_at_call 53; refine (hG5.asks (fun T H A c ps hh => refBase_B hh hinv1 (by omega))).mono ?_; rintro e w6 ⟨rfl, hG6, l6⟩; replace d2 := (l6.cell (p := ⟨r, 2, none⟩) (cell_lt d2)).trans d2))
             (try (refine hK_ _ _ ?_; clear hK_ K_))
             (try simp only [Act.put, List.setIfInBounds_toArray, List.set_cons_zero, List.set_cons_succ]))
          | (refine wpAnyT_skip (i := 22) rfl (by kernel_rfl) (by first | (simp [Region.wanted, yielded]; done) | (simp [Region.wanted, yielded, undef, *]; done)) (fun _ _ _ h => h) (fun h_ => absurd h_ (by decide)) ?_; (try simp only [Act.put, List.setIfInBounds_toArray, List.set_cons_zero, List.set_cons_succ]))
          | (refine wpAnyT_sink (i := 22) rfl (by kernel_rfl) (by first | (simp [Region.wanted, yielded]; done) | (simp [Region.wanted, yielded, undef, *]; done)) (by kernel_rfl) ?_
             intro K_ hK_
             go_wp2_with ((go_at_call 53; refine (hG5.asks (fun T H A c ps hh => refBase_B hh hinv1 (by omega))).mono ?_; rintro e w6 ⟨rfl, hG6, l6⟩; replace d2 := (l6.cell (p := ⟨r, 2, none⟩) (cell_lt d2)).trans d2))
             (try (refine hK_ _ _ ?_; clear hK_ K_))
             (try simp only [Act.put, List.setIfInBounds_toArray, List.set_cons_zero, List.set_cons_succ]))
          first
          | (refine wpAnyT_skip (i := 23) rfl (by kernel_rfl) rfl (fun _ _ _ h => h) (fun h_ => absurd h_ (by decide)) ?_; (try simp only [Act.put, List.setIfInBounds_toArray, List.set_cons_zero, List.set_cons_succ]))
          | (refine wpAnyT_free (i := 23) rfl (by kernel_rfl) rfl (fun _ _ _ h => h) (by kernel_rfl) (fun _ => by go_simp; try rfl) ?_; (try simp only [Act.put, List.setIfInBounds_toArray, List.set_cons_zero, List.set_cons_succ]))
          | (refine wpAnyT_skip (i := 23) rfl (by kernel_rfl) (by first | (simp [Region.wanted, yielded]; done) | (simp [Region.wanted, yielded, undef, *]; done)) (fun _ _ _ h => h) (fun h_ => absurd h_ (by decide)) ?_; (try simp only [Act.put, List.setIfInBounds_toArray, List.set_cons_zero, List.set_cons_succ]))
          | (refine wpAnyT_free (i := 23) rfl (by kernel_rfl) (by first | (simp [Region.wanted, yielded]; done) | (simp [Region.wanted, yielded, undef, *]; done)) (fun _ _ _ h => h) (by kernel_rfl) (fun _ => by go_simp; try rfl) ?_; (try simp only [Act.put, List.setIfInBounds_toArray, List.set_cons_zero, List.set_cons_succ]))
          (refine wpAnyT_free (i := 24) rfl (by kernel_rfl) rfl (fun _ _ _ h => h) (by kernel_rfl) (fun _ => by go_simp; try rfl) ?_; (try simp only [Act.put, List.setIfInBounds_toArray, List.set_cons_zero, List.set_cons_succ]))
          (refine wpAnyT_free (i := 25) rfl (by kernel_rfl) rfl (fun _ _ _ h => h) (by kernel_rfl) (fun _ => by go_simp; try rfl) ?_; (try simp only [Act.put, List.setIfInBounds_toArray, List.set_cons_zero, List.set_cons_succ]))
          first
          | (refine wpAnyT_skip (i := 26) rfl (by kernel_rfl) rfl (fun _ _ _ h => h) (fun h_ => absurd h_ (by decide)) ?_; (try simp only [Act.put, List.setIfInBounds_toArray, List.set_cons_zero, List.set_cons_succ]))
          | (refine wpAnyT_free (i := 26) rfl (by kernel_rfl) rfl (fun _ _ _ h => h) (by kernel_rfl) (fun _ => by go_simp; try rfl) ?_; (try simp only [Act.put, List.setIfInBounds_toArray, List.set_cons_zero, List.set_cons_succ]))
          | (refine wpAnyT_skip (i := 26) rfl (by kernel_rfl) (by first | (simp [Region.wanted, yielded]; done) | (simp [Region.wanted, yielded, undef, *]; done)) (fun _ _ _ h => h) (fun h_ => absurd h_ (by decide)) ?_; (try simp only [Act.put, List.setIfInBounds_toArray, List.set_cons_zero, List.set_cons_succ]))
          | (refine wpAnyT_free (i := 26) rfl (by kernel_rfl) (by first | (simp [Region.wanted, yielded]; done) | (simp [Region.wanted, yielded, undef, *]; done)) (fun _ _ _ h => h) (by kernel_rfl) (fun _ => by go_simp; try rfl) ?_; (try simp only [Act.put, List.setIfInBounds_toArray, List.set_cons_zero, List.set_cons_succ]))
          first
          | (refine wpAnyT_skip (i := 28) rfl (by kernel_rfl) rfl (fun _ _ _ h => h) (fun h_ => absurd h_ (by decide)) ?_; (try simp only [Act.put, List.setIfInBounds_toArray, List.set_cons_zero, List.set_cons_succ]))
          | (refine wpAnyT_free (i := 28) rfl (by kernel_rfl) rfl (fun _ _ _ h => h) (by kernel_rfl) (fun _ => by go_simp; try rfl) ?_; (try simp only [Act.put, List.setIfInBounds_toArray, List.set_cons_zero, List.set_cons_succ]))
          | (refine wpAnyT_skip (i := 28) rfl (by kernel_rfl) (by first | (simp [Region.wanted, yielded]; done) | (simp [Region.wanted, yielded, undef, *]; done)) (fun _ _ _ h => h) (fun h_ => absurd h_ (by decide)) ?_; (try simp only [Act.put, List.setIfInBounds_toArray, List.set_cons_zero, List.set_cons_succ]))
          | (refine wpAnyT_free (i := 28) rfl (by kernel_rfl) (by first | (simp [Region.wanted, yielded]; done) | (simp [Region.wanted, yielded, undef, *]; done)) (fun _ _ _ h => h) (by kernel_rfl) (fun _ => by go_simp; try rfl) ?_; (try simp only [Act.put, List.setIfInBounds_toArray, List.set_cons_zero, List.set_cons_succ]))
          first
          | (refine wpAnyT_skip (i := 27) rfl (by kernel_rfl) rfl (fun _ _ _ h => h) (fun h_ => absurd h_ (by decide)) ?_; (try simp only [Act.put, List.setIfInBounds_toArray, List.set_cons_zero, List.set_cons_succ]))
          | (refine wpAnyT_sink (i := 27) rfl (by kernel_rfl) rfl (by kernel_rfl) ?_
             intro K_ hK_
             go_wp2_with ((go_at_call 37; refine (hG6.told (fun T hT => len_G hT)).mono ?_; rintro e w7 ⟨rfl, hG7, l7⟩; replace d2 := (l7.cell (p := ⟨r, 2, none⟩) (cell_lt d2)).trans d2))
             (try (refine hK_ _ _ ?_; clear hK_ K_))
             (try simp only [Act.put, List.setIfInBounds_toArray, List.set_cons_zero, List.set_cons_succ]))
          | (refine wpAnyT_skip (i := 27) rfl (by kernel_rfl) (by first | (simp [Region.wanted, yielded]; done) | (simp [Region.wanted, yielded, undef, *]; done)) (fun _ _ _ h => h) (fun h_ => absurd h_ (by decide)) ?_; (try simp only [Act.put, List.setIfInBounds_toArray, List.set_cons_zero, List.set_cons_succ]))
          | (refine wpAnyT_sink (i := 27) rfl (by kernel_rfl) (by first | (simp [Region.wanted, yielded]; done) | (simp [Region.wanted, yielded, undef, *]; done)) (by kernel_rfl) ?_
             intro K_ hK_
             go_wp2_with ((go_at_call 37; refine (hG6.told (fun T hT => len_G hT)).mono ?_; rintro e w7 ⟨rfl, hG7, l7⟩; replace d2 := (l7.cell (p := ⟨r, 2, none⟩) (cell_lt d2)).trans d2))
             (try (refine hK_ _ _ ?_; clear hK_ K_))
             (try simp only [Act.put, List.setIfInBounds_toArray, List.set_cons_zero, List.set_cons_succ]))
          first
          | (refine wpAnyT_skip (i := 29) rfl (by kernel_rfl) rfl (fun _ _ _ h => h) (fun h_ => absurd h_ (by decide)) ?_; (try simp only [Act.put, List.setIfInBounds_toArray, List.set_cons_zero, List.set_cons_succ]))
          | (refine wpAnyT_sink (i := 29) rfl (by kernel_rfl) rfl (by kernel_rfl) ?_
             intro K_ hK_
             go_wp2_with ((go_at_call 54; refine (hG7.asks (fun T H A c ps hh => refLen_B hh hinv1 (by omega))).mono ?_; rintro e w8 ⟨rfl, hG8, l8⟩; replace d2 := (l8.cell (p := ⟨r, 2, none⟩) (cell_lt d2)).trans d2))
             (try (refine hK_ _ _ ?_; clear hK_ K_))
             (try simp only [Act.put, List.setIfInBounds_toArray, List.set_cons_zero, List.set_cons_succ]))
          | (refine wpAnyT_skip (i := 29) rfl (by kernel_rfl) (by first | (simp [Region.wanted, yielded]; done) | (simp [Region.wanted, yielded, undef, *]; done)) (fun _ _ _ h => h) (fun h_ => absurd h_ (by decide)) ?_; (try simp only [Act.put, List.setIfInBounds_toArray, List.set_cons_zero, List.set_cons_succ]))
          | (refine wpAnyT_sink (i := 29) rfl (by kernel_rfl) (by first | (simp [Region.wanted, yielded]; done) | (simp [Region.wanted, yielded, undef, *]; done)) (by kernel_rfl) ?_
             intro K_ hK_
             go_wp2_with ((go_at_call 54; refine (hG7.asks (fun T H A c ps hh => refLen_B hh hinv1 (by omega))).mono ?_; rintro e w8 ⟨rfl, hG8, l8⟩; replace d2 := (l8.cell (p := ⟨r, 2, none⟩) (cell_lt d2)).trans d2))
             (try (refine hK_ _ _ ?_; clear hK_ K_))
             (try simp only [Act.put, List.setIfInBounds_toArray, List.set_cons_zero, List.set_cons_succ]))
          first
          | (refine wpAnyT_skip (i := 30) rfl (by kernel_rfl) rfl (fun _ _ _ h => h) (fun h_ => absurd h_ (by decide)) ?_; (try simp only [Act.put, List.setIfInBounds_toArray, List.set_cons_zero, List.set_cons_succ]))
          | (refine wpAnyT_free (i := 30) rfl (by kernel_rfl) rfl (fun _ _ _ h => h) (by kernel_rfl) (fun _ => by go_simp; try rfl) ?_; (try simp only [Act.put, List.setIfInBounds_toArray, List.set_cons_zero, List.set_cons_succ]))
          | (refine wpAnyT_skip (i := 30) rfl (by kernel_rfl) (by first | (simp [Region.wanted, yielded]; done) | (simp [Region.wanted, yielded, undef, *]; done)) (fun _ _ _ h => h) (fun h_ => absurd h_ (by decide)) ?_; (try simp only [Act.put, List.setIfInBounds_toArray, List.set_cons_zero, List.set_cons_succ]))
          | (refine wpAnyT_free (i := 30) rfl (by kernel_rfl) (by first | (simp [Region.wanted, yielded]; done) | (simp [Region.wanted, yielded, undef, *]; done)) (fun _ _ _ h => h) (by kernel_rfl) (fun _ => by go_simp; try rfl) ?_; (try simp only [Act.put, List.setIfInBounds_toArray, List.set_cons_zero, List.set_cons_succ]))
          (refine wpAnyT_free (i := 31) rfl (by kernel_rfl) rfl (fun _ _ _ h => h) (by kernel_rfl) (fun _ => by go_simp; try rfl) ?_; (try simp only [Act.put, List.setIfInBounds_toArray, List.set_cons_zero, List.set_cons_succ]))
          (refine wpAnyT_free (i := 32) rfl (by kernel_rfl) rfl (fun _ _ _ h => h) (by kernel_rfl) (fun _ => by go_simp; try rfl) ?_; (try simp only [Act.put, List.setIfInBounds_toArray, List.set_cons_zero, List.set_cons_succ]))
          first
          | (refine wpAnyT_skip (i := 33) rfl (by kernel_rfl) rfl (fun _ _ _ h => h) (fun h_ => absurd h_ (by decide)) ?_; (try simp only [Act.put, List.setIfInBounds_toArray, List.set_cons_zero, List.set_cons_succ]))
          | (refine wpAnyT_free (i := 33) rfl (by kernel_rfl) rfl (fun _ _ _ h => h) (by kernel_rfl) (fun _ => by go_simp; try rfl) ?_; (try simp only [Act.put, List.setIfInBounds_toArray, List.set_cons_zero, List.set_cons_succ]))
          | (refine wpAnyT_skip (i := 33) rfl (by kernel_rfl) (by first | (simp [Region.wanted, yielded]; done) | (simp [Region.wanted, yielded, undef, *]; done)) (fun _ _ _ h => h) (fun h_ => absurd h_ (by decide)) ?_; (try simp only [Act.put, List.setIfInBounds_toArray, List.set_cons_zero, List.set_cons_succ]))
          | (refine wpAnyT_free (i := 33) rfl (by kernel_rfl) (by first | (simp [Region.wanted, yielded]; done) | (simp [Region.wanted, yielded, undef, *]; done)) (fun _ _ _ h => h) (by kernel_rfl) (fun _ => by go_simp; try rfl) ?_; (try simp only [Act.put, List.setIfInBounds_toArray, List.set_cons_zero, List.set_cons_succ]))
          first
          | (refine wpAnyT_skip (i := 35) rfl (by kernel_rfl) rfl (fun _ _ _ h => h) (fun h_ => absurd h_ (by decide)) ?_; (try simp only [Act.put, List.setIfInBounds_toArray, List.set_cons_zero, List.set_cons_succ]))
          | (refine wpAnyT_free (i := 35) rfl (by kernel_rfl) rfl (fun _ _ _ h => h) (by kernel_rfl) (fun _ => by go_simp; try rfl) ?_; (try simp only [Act.put, List.setIfInBounds_toArray, List.set_cons_zero, List.set_cons_succ]))
          | (refine wpAnyT_skip (i := 35) rfl (by kernel_rfl) (by first | (simp [Region.wanted, yielded]; done) | (simp [Region.wanted, yielded, undef, *]; done)) (fun _ _ _ h => h) (fun h_ => absurd h_ (by decide)) ?_; (try simp only [Act.put, List.setIfInBounds_toArray, List.set_cons_zero, List.set_cons_succ]))
          | (refine wpAnyT_free (i := 35) rfl (by kernel_rfl) (by first | (simp [Region.wanted, yielded]; done) | (simp [Region.wanted, yielded, undef, *]; done)) (fun _ _ _ h => h) (by kernel_rfl) (fun _ => by go_simp; try rfl) ?_; (try simp only [Act.put, List.setIfInBounds_toArray, List.set_cons_zero, List.set_cons_succ]))
          first
          | (refine wpAnyT_skip (i := 34) rfl (by kernel_rfl) rfl (fun _ _ _ h => h) (fun h_ => absurd h_ (by decide)) ?_; (try simp only [Act.put, List.setIfInBounds_toArray, List.set_cons_zero, List.set_cons_succ]))
          | (refine wpAnyT_sink (i := 34) rfl (by kernel_rfl) rfl (by kernel_rfl) ?_
             intro K_ hK_
             go_wp2_with ((go_at_call 38; refine (hG8.told (fun T hT => safe_G hT)).mono ?_; rintro e w9 ⟨rfl, hG9, l9⟩; replace d2 := (l9.cell (p := ⟨r, 2, none⟩) (cell_lt d2)).trans d2))
             (try (refine hK_ _ _ ?_; clear hK_ K_))
             (try simp only [Act.put, List.setIfInBounds_toArray, List.set_cons_zero, List.set_cons_succ]))
          | (refine wpAnyT_skip (i := 34) rfl (by kernel_rfl) (by first | (simp [Region.wanted, yielded]; done) | (simp [Region.wanted, yielded, undef, *]; done)) (fun _ _ _ h => h) (fun h_ => absurd h_ (by decide)) ?_; (try simp only [Act.put, List.setIfInBounds_toArray, List.set_cons_zero, List.set_cons_succ]))
          | (refine wpAnyT_sink (i := 34) rfl (by kernel_rfl) (by first | (simp [Region.wanted, yielded]; done) | (simp [Region.wanted, yielded, undef, *]; done)) (by kernel_rfl) ?_
             intro K_ hK_
             go_wp2_with ((go_at_call 38; refine (hG8.told (fun T hT => safe_G hT)).mono ?_; rintro e w9 ⟨rfl, hG9, l9⟩; replace d2 := (l9.cell (p := ⟨r, 2, none⟩) (cell_lt d2)).trans d2))
             (try (refine hK_ _ _ ?_; clear hK_ K_))
             (try simp only [Act.put, List.setIfInBounds_toArray, List.set_cons_zero, List.set_cons_succ]))
          first
          | (refine wpAnyT_skip (i := 36) rfl (by kernel_rfl) rfl (fun _ _ _ h => h) (fun h_ => absurd h_ (by decide)) ?_; (try simp only [Act.put, List.setIfInBounds_toArray, List.set_cons_zero, List.set_cons_succ]))
          | (refine wpAnyT_sink (i := 36) rfl (by kernel_rfl) rfl (by kernel_rfl) ?_
             intro K_ hK_
             go_wp2_with ((go_at_call 55; refine (hG9.asks (fun T H A c ps hh => refSafe_B hh hinv1 (by omega))).mono ?_; rintro e w10 ⟨rfl, hG10, l10⟩; replace d2 := (l10.cell (p := ⟨r, 2, none⟩) (cell_lt d2)).trans d2))
             (try (refine hK_ _ _ ?_; clear hK_ K_))
             (try simp only [Act.put, List.setIfInBounds_toArray, List.set_cons_zero, List.set_cons_succ]))
          | (refine wpAnyT_skip (i := 36) rfl (by kernel_rfl) (by first | (simp [Region.wanted, yielded]; done) | (simp [Region.wanted, yielded, undef, *]; done)) (fun _ _ _ h => h) (fun h_ => absurd h_ (by decide)) ?_; (try simp only [Act.put, List.setIfInBounds_toArray, List.set_cons_zero, List.set_cons_succ]))
          | (refine wpAnyT_sink (i := 36) rfl (by kernel_rfl) (by first | (simp [Region.wanted, yielded]; done) | (simp [Region.wanted, yielded, undef, *]; done)) (by kernel_rfl) ?_
             intro K_ hK_
             go_wp2_with ((go_at_call 55; refine (hG9.asks (fun T H A c ps hh => refSafe_B hh hinv1 (by omega))).mono ?_; rintro e w10 ⟨rfl, hG10, l10⟩; replace d2 := (l10.cell (p := ⟨r, 2, none⟩) (cell_lt d2)).trans d2))
             (try (refine hK_ _ _ ?_; clear hK_ K_))
             (try simp only [Act.put, List.setIfInBounds_toArray, List.set_cons_zero, List.set_cons_succ]))
          first
          | (refine wpAnyT_skip (i := 37) rfl (by kernel_rfl) rfl (fun _ _ _ h => h) (fun h_ => absurd h_ (by decide)) ?_; (try simp only [Act.put, List.setIfInBounds_toArray, List.set_cons_zero, List.set_cons_succ]))
          | (refine wpAnyT_free (i := 37) rfl (by kernel_rfl) rfl (fun _ _ _ h => h) (by kernel_rfl) (fun _ => by go_simp; try rfl) ?_; (try simp only [Act.put, List.setIfInBounds_toArray, List.set_cons_zero, List.set_cons_succ]))
          | (refine wpAnyT_skip (i := 37) rfl (by kernel_rfl) (by first | (simp [Region.wanted, yielded]; done) | (simp [Region.wanted, yielded, undef, *]; done)) (fun _ _ _ h => h) (fun h_ => absurd h_ (by decide)) ?_; (try simp only [Act.put, List.setIfInBounds_toArray, List.set_cons_zero, List.set_cons_succ]))
          | (refine wpAnyT_free (i := 37) rfl (by kernel_rfl) (by first | (simp [Region.wanted, yielded]; done) | (simp [Region.wanted, yielded, undef, *]; done)) (fun _ _ _ h => h) (by kernel_rfl) (fun _ => by go_simp; try rfl) ?_; (try simp only [Act.put, List.setIfInBounds_toArray, List.set_cons_zero, List.set_cons_succ]))
          (refine wpAnyT_free (i := 38) rfl (by kernel_rfl) rfl (fun _ _ _ h => h) (by kernel_rfl) (fun _ => by go_simp; try rfl) ?_; (try simp only [Act.put, List.setIfInBounds_toArray, List.set_cons_zero, List.set_cons_succ]))
          refine wpAnyT_done (by kernel_rfl) ?_ _
          clear d2
          go_wp2_with (first
            | (go_at_call 36; refine hG10.segments.mono ?_; rintro e w11 ⟨A11, c11, vals, Ro, rfl, hrow, hvl, hds, hG11, l11⟩; obtain ⟨Ar, cr, pr, x1, -, x3, x4, x5, x6, x7⟩ := hG11.cells; have x8 : ((L1.segs.length : Int) != (pr.length : Int)) = false := by rw [x3]; simp)
            | fail)
          have HVL := Lib.hid hvl
          have HX3 := Lib.hid x3
          clear hvl x3
          go_loopw [130] (fun i wr => ∃ j : Nat, j ≤ L1.segs.length ∧ i = .int .i64 (j : Int) ∧ Below w11.heap.size w11 wr) (fun i _ => L1.segs.length - (intOf i).toNat)
          case atStart => exact ⟨0, Nat.zero_le _, rfl, Below.refl _ _⟩
          case round =>
            obtain ⟨j, hj, rfl, hbi⟩ := hrel
            by_cases hjl : j < L1.segs.length
            · obtain ⟨gs, hgs⟩ : ∃ gs, L1.segs[j]? = some gs := ⟨_, List.getElem?_eq_getElem hjl⟩
              obtain ⟨Sd, db, Ad, cd, hv, hdk, -⟩ := hds.2 j gs hgs
              obtain ⟨gr, or_, cr', hrv, -, hgr, hcr, -⟩ := hrow.cell hv
              injection hrv with hr1 hr2 hr3
              subst hr1
              subst hr3
              clear hr2
              obtain ⟨p, ga, oa, A1, e1, A2', e2, rfl, y2, y3, y4, hO, hkr, hal⟩ := x7 j gs hgs
              have y1' := (hbi.cell (p := ⟨r, 1, none⟩) (cell_lt x1)).trans x1
              have y0' : wr.cell? ⟨gr, or_ + j, none⟩ = some (.pointer (some ⟨db, 0, none⟩)) := (hbi.cell (p := ⟨gr, or_ + j, none⟩) (cell_lt hcr)).trans hcr
              have y2' : wr.cell? ⟨ga, oa + j, none⟩ = some (.pointer (some ⟨p, 0, none⟩)) := (hbi.cell (p := ⟨ga, oa + j, none⟩) (cell_lt y2)).trans y2
              have y3' := (hbi.cell (p := ⟨p, 0, none⟩) (cell_lt y3)).trans y3
              have y4' := (hbi.cell (p := ⟨p, 1, none⟩) (cell_lt y4)).trans y4
              have hOi := hO.fr (S' := Non) (Fr.of_below hbi)
              have hkc : Calls Tryd.prog 56 #[.pointer (some ⟨db, 0, none⟩)] wr.drew (BytesNew wr.drew gs.d.ref.kept) := kept_B (hdk.below hbi).drew
              have hdi := hdk.below hbi
              have hsz := fun (w' : World) (l : Below wr.drew.heap.size wr.drew w') => size_B (hdi.drew.below l)
              have h5 : (gs.d.all.length : Int) ≤ 4194304 := by omega
              have q1 : IntKind.i64.wrap ((gs.d.ref.kept.length : Int) + (gs.d.ref.rest.length : Int)) = (gs.d.all.length : Int) := by rw [IntKind.wrap_i64]; omega
              have hjl' : (j : Int) < (L1.segs.length : Int) := by omega
              have hjp : (j : Int) < (pr.length : Int) := by rw [HX3.out]; exact hjl'
              have hjv : (j : Int) < (vals.length : Int) := by rw [HVL.out]; exact hjl'
              generalize gs.d.ref.kept = kl at *
              generalize gs.d.ref.rest.length = rn at *
              generalize gs.d.all.length = an at *
              have s3 : (convert 22 9 (.slice A1 kl.length e1)).run Tryd.prog wr.drew = .ok (str kl) wr.drew := run_str (hOi.rd Non).drew e1
              clear hcr y2 y3 y4 hv hgs hdk hkr
              go_wp2
              refine wp_region_T #[[], [], [], [], [3], [3], [], [], [], [], [], [9], [9], [9, 12], [9, 12], [9, 12], [9, 12, 15], [3, 9, 12, 15, 16], [3, 9, 12, 15, 16], [3, 9, 12, 15, 16], [3, 9, 12, 15, 16], [3, 9, 12, 15, 16], [3, 9, 12, 15, 16], [3, 9, 12, 15, 16, 22], [3, 9, 12, 15, 16], [3, 9, 12, 15, 16], [3, 9, 12, 15, 16], [3, 9, 12, 15, 16], [3, 9, 12, 15, 16], [3, 9, 12, 15, 16, 27], [3, 9, 12, 15, 16, 27], [3, 9, 12, 15, 16, 27, 30], [3, 9, 12, 15, 16, 27, 30], [3, 9, 12, 15, 16, 27, 30], [3, 9, 12, 15, 16, 27, 30, 33], [3, 9, 12, 15, 16], [3, 9, 12, 15, 16], [3, 9, 12, 15, 16], [3, 9, 12, 15, 16], [3, 9, 12, 15, 16], [3, 9, 12, 15, 16, 38], [3, 9, 12, 15, 16, 38], [3, 9, 12, 15, 16, 38, 41], [3, 9, 12, 15, 16, 38, 41], [3, 9, 12, 15, 16, 38, 41], [3, 9, 12, 15, 16, 38, 41, 44], [3, 9, 12, 15, 16, 27, 30, 33, 38, 41, 44], [3, 9, 12, 15, 16, 22, 27, 30, 33, 38, 41, 44], [3, 9, 12, 15, 16, 22, 27, 30, 33, 38, 41, 44]] [3, 9, 12, 15, 16, 22, 27, 30, 33, 38, 41, 44] (fun w' => w'.cell? ⟨gr, or_ + j, none⟩ = some (.pointer (some ⟨db, 0, none⟩)) ∧ w'.cell? ⟨r, 1, none⟩ = some (.slice (some ⟨ga, oa, none⟩) pr.length cr) ∧ w'.cell? ⟨ga, oa + j, none⟩ = some (.pointer (some ⟨p, 0, none⟩)) ∧ w'.cell? ⟨p, 0, none⟩ = some (.slice A1 kl.length e1) ∧ w'.cell? ⟨p, 1, none⟩ = some (.slice A2' rn e2) ∧ (convert 22 9 (.slice A1 kl.length e1)).run Tryd.prog w' = .ok (str kl) w') 49 rfl (by kernel_rfl) ?_
              (refine wpAnyT_free (i := 0) rfl (by kernel_rfl) rfl (fun _ _ _ h => h) (by kernel_rfl) (fun _ => by go_simp; try rfl) ?_; (try simp only [Act.put, List.setIfInBounds_toArray, List.set_cons_zero, List.set_cons_succ]))
              (refine wpAnyT_free (i := 1) rfl (by kernel_rfl) rfl (fun _ _ _ h => h) (by kernel_rfl) (fun _ => by go_simp; try rfl) ?_; (try simp only [Act.put, List.setIfInBounds_toArray, List.set_cons_zero, List.set_cons_succ]))
              (refine wpAnyT_free (i := 2) rfl (by kernel_rfl) rfl (fun _ _ _ h => h) (by kernel_rfl) (fun _ => by go_simp; try rfl) ?_; (try simp only [Act.put, List.setIfInBounds_toArray, List.set_cons_zero, List.set_cons_succ]))
              (refine wpAnyT_read (i := 3) rfl (by kernel_rfl) rfl (fun _ _ _ h => h) (by kernel_rfl) (⟨y0', y1', y2', y3', y4', s3⟩) (fun w hS_ => by obtain ⟨s_1, s_2, s_3, s_4, s_5, s_6⟩ := hS_; go_simp; try rfl) ?_; (try simp only [Act.put, List.setIfInBounds_toArray, List.set_cons_zero, List.set_cons_succ]))
              (refine wpAnyT_free (i := 6) rfl (by kernel_rfl) rfl (fun _ _ _ h => h) (by kernel_rfl) (fun _ => by go_simp; try rfl) ?_; (try simp only [Act.put, List.setIfInBounds_toArray, List.set_cons_zero, List.set_cons_succ]))
              (refine wpAnyT_free (i := 7) rfl (by kernel_rfl) rfl (fun _ _ _ h => h) (by kernel_rfl) (fun _ => by go_simp; try rfl) ?_; (try simp only [Act.put, List.setIfInBounds_toArray, List.set_cons_zero, List.set_cons_succ]))
              (refine wpAnyT_free (i := 8) rfl (by kernel_rfl) rfl (fun _ _ _ h => h) (by kernel_rfl) (fun _ => by go_simp; try rfl) ?_; (try simp only [Act.put, List.setIfInBounds_toArray, List.set_cons_zero, List.set_cons_succ]))
              (refine wpAnyT_read (i := 9) rfl (by kernel_rfl) rfl (fun _ _ _ h => h) (by kernel_rfl) (⟨y0', y1', y2', y3', y4', s3⟩) (fun w hS_ => by obtain ⟨s_1, s_2, s_3, s_4, s_5, s_6⟩ := hS_; go_simp; try rfl) ?_; (try simp only [Act.put, List.setIfInBounds_toArray, List.set_cons_zero, List.set_cons_succ]))
              (refine wpAnyT_free (i := 10) rfl (by kernel_rfl) rfl (fun _ _ _ h => h) (by kernel_rfl) (fun _ => by go_simp; try rfl) ?_; (try simp only [Act.put, List.setIfInBounds_toArray, List.set_cons_zero, List.set_cons_succ]))
              (refine wpAnyT_free (i := 11) rfl (by kernel_rfl) rfl (fun _ _ _ h => h) (by kernel_rfl) (fun _ => by go_simp; try rfl) ?_; (try simp only [Act.put, List.setIfInBounds_toArray, List.set_cons_zero, List.set_cons_succ]))
              (refine wpAnyT_read (i := 12) rfl (by kernel_rfl) rfl (fun _ _ _ h => h) (by kernel_rfl) (⟨y0', y1', y2', y3', y4', s3⟩) (fun w hS_ => by obtain ⟨s_1, s_2, s_3, s_4, s_5, s_6⟩ := hS_; go_simp; try rfl) ?_; (try simp only [Act.put, List.setIfInBounds_toArray, List.set_cons_zero, List.set_cons_succ]))
              (refine wpAnyT_free (i := 13) rfl (by kernel_rfl) rfl (fun _ _ _ h => h) (by kernel_rfl) (fun _ => by go_simp; try rfl) ?_; (try simp only [Act.put, List.setIfInBounds_toArray, List.set_cons_zero, List.set_cons_succ]))
              (refine wpAnyT_free (i := 14) rfl (by kernel_rfl) rfl (fun _ _ _ h => h) (by kernel_rfl) (fun _ => by go_simp; try rfl) ?_; (try simp only [Act.put, List.setIfInBounds_toArray, List.set_cons_zero, List.set_cons_succ]))
              (refine wpAnyT_read (i := 15) rfl (by kernel_rfl) rfl (fun _ _ _ h => h) (by kernel_rfl) (⟨y0', y1', y2', y3', y4', s3⟩) (fun w hS_ => by obtain ⟨s_1, s_2, s_3, s_4, s_5, s_6⟩ := hS_; go_simp; try rfl) ?_; (try simp only [Act.put, List.setIfInBounds_toArray, List.set_cons_zero, List.set_cons_succ]))
              (refine wpAnyT_read (i := 16) rfl (by kernel_rfl) rfl (fun _ _ _ h => h) (by kernel_rfl) (⟨y0', y1', y2', y3', y4', s3⟩) (fun w hS_ => by obtain ⟨s_1, s_2, s_3, s_4, s_5, s_6⟩ := hS_; go_simp; try rfl) ?_; (try simp only [Act.put, List.setIfInBounds_toArray, List.set_cons_zero, List.set_cons_succ]))
              refine wpAnyT_one (i := 4) rfl (by kernel_rfl) rfl ?_
              intro K_ hK_
              go_wp2_with ((go_at_call 56; refine hkc.mono ?_; rintro e w6 ⟨A6, c6, rfl, b6, hc6, hm6, l6⟩; have s4 := run_str (b6.rd Non) c6; replace y0' := (l6.cell (p := ⟨gr, or_ + j, none⟩) (cell_lt y0')).trans y0'; replace y1' := (l6.cell (p := ⟨r, 1, none⟩) (cell_lt y1')).trans y1'; replace y2' := (l6.cell (p := ⟨ga, oa + j, none⟩) (cell_lt y2')).trans y2'; replace y3' := (l6.cell (p := ⟨p, 0, none⟩) (cell_lt y3')).trans y3'; replace y4' := (l6.cell (p := ⟨p, 1, none⟩) (cell_lt y4')).trans y4'; replace s3 := run_str (((hOi.rd Non).drew).below l6) e1))
              refine hK_ _ _ ?_ ?_
              · exact fun _ _ => ⟨y0', y1', y2', y3', y4', s3⟩
              clear hK_ K_
              (try simp only [Act.put, List.setIfInBounds_toArray, List.set_cons_zero, List.set_cons_succ])
              refine wpAnyT_one (i := 5) rfl (by kernel_rfl) rfl ?_
              intro K_ hK_
              go_wp2
              refine hK_ _ _ ?_ ?_
              · exact fun _ h_ => h_
              clear hK_ K_
              (try simp only [Act.put, List.setIfInBounds_toArray, List.set_cons_zero, List.set_cons_succ])
              (refine wpAnyT_free (i := 17) rfl (by kernel_rfl) rfl (fun _ _ _ h => h) (by kernel_rfl) (fun _ => by go_simp; try rfl) ?_; (try simp only [Act.put, List.setIfInBounds_toArray, List.set_cons_zero, List.set_cons_succ]))
              (refine wpAnyT_free (i := 18) rfl (by kernel_rfl) rfl (fun _ _ _ h => h) (by kernel_rfl) (fun _ => by go_simp; try rfl) ?_; (try simp only [Act.put, List.setIfInBounds_toArray, List.set_cons_zero, List.set_cons_succ]))
              first
              | (refine wpAnyT_skip (i := 19) rfl (by kernel_rfl) rfl (fun _ _ _ h => h) (fun h_ => absurd h_ (by decide)) ?_; (try simp only [Act.put, List.setIfInBounds_toArray, List.set_cons_zero, List.set_cons_succ]))
              | (refine wpAnyT_free (i := 19) rfl (by kernel_rfl) rfl (fun _ _ _ h => h) (by kernel_rfl) (fun _ => by go_simp; try rfl) ?_; (try simp only [Act.put, List.setIfInBounds_toArray, List.set_cons_zero, List.set_cons_succ]))
              | (refine wpAnyT_skip (i := 19) rfl (by kernel_rfl) (by first | (simp [Region.wanted, yielded]; done) | (simp [Region.wanted, yielded, undef, *]; done)) (fun _ _ _ h => h) (fun h_ => absurd h_ (by decide)) ?_; (try simp only [Act.put, List.setIfInBounds_toArray, List.set_cons_zero, List.set_cons_succ]))
              | (refine wpAnyT_free (i := 19) rfl (by kernel_rfl) (by first | (simp [Region.wanted, yielded]; done) | (simp [Region.wanted, yielded, undef, *]; done)) (fun _ _ _ h => h) (by kernel_rfl) (fun _ => by go_simp; try rfl) ?_; (try simp only [Act.put, List.setIfInBounds_toArray, List.set_cons_zero, List.set_cons_succ]))
              first
              | (refine wpAnyT_skip (i := 20) rfl (by kernel_rfl) rfl (fun _ _ _ h => h) (fun h_ => absurd h_ (by decide)) ?_; (try simp only [Act.put, List.setIfInBounds_toArray, List.set_cons_zero, List.set_cons_succ]))
              | (refine wpAnyT_free (i := 20) rfl (by kernel_rfl) rfl (fun _ _ _ h => h) (by kernel_rfl) (fun _ => by go_simp; try rfl) ?_; (try simp only [Act.put, List.setIfInBounds_toArray, List.set_cons_zero, List.set_cons_succ]))
              | (refine wpAnyT_skip (i := 20) rfl (by kernel_rfl) (by first | (simp [Region.wanted, yielded]; done) | (simp [Region.wanted, yielded, undef, *]; done)) (fun _ _ _ h => h) (fun h_ => absurd h_ (by decide)) ?_; (try simp only [Act.put, List.setIfInBounds_toArray, List.set_cons_zero, List.set_cons_succ]))
              | (refine wpAnyT_free (i := 20) rfl (by kernel_rfl) (by first | (simp [Region.wanted, yielded]; done) | (simp [Region.wanted, yielded, undef, *]; done)) (fun _ _ _ h => h) (by kernel_rfl) (fun _ => by go_simp; try rfl) ?_; (try simp only [Act.put, List.setIfInBounds_toArray, List.set_cons_zero, List.set_cons_succ]))
              first
              | (refine wpAnyT_skip (i := 21) rfl (by kernel_rfl) rfl (fun _ _ _ h => h) (fun h_ => absurd h_ (by decide)) ?_; (try simp only [Act.put, List.setIfInBounds_toArray, List.set_cons_zero, List.set_cons_succ]))
              | (refine wpAnyT_free (i := 21) rfl (by kernel_rfl) rfl (fun _ _ _ h => h) (by kernel_rfl) (fun _ => by go_simp; try rfl) ?_; (try simp only [Act.put, List.setIfInBounds_toArray, List.set_cons_zero, List.set_cons_succ]))
              | (refine wpAnyT_skip (i := 21) rfl (by kernel_rfl) (by first | (simp [Region.wanted, yielded]; done) | (simp [Region.wanted, yielded, undef, *]; done)) (fun _ _ _ h => h) (fun h_ => absurd h_ (by decide)) ?_; (try simp only [Act.put, List.setIfInBounds_toArray, List.set_cons_zero, List.set_cons_succ]))
              | (refine wpAnyT_free (i := 21) rfl (by kernel_rfl) (by first | (simp [Region.wanted, yielded]; done) | (simp [Region.wanted, yielded, undef, *]; done)) (fun _ _ _ h => h) (by kernel_rfl) (fun _ => by go_simp; try rfl) ?_; (try simp only [Act.put, List.setIfInBounds_toArray, List.set_cons_zero, List.set_cons_succ]))
              first
              | (refine wpAnyT_skip (i := 22) rfl (by kernel_rfl) rfl (fun _ _ _ h => h) (fun _ => ⟨y0', y1', y2', y3', y4', s3⟩) ?_; (try simp only [Act.put, List.setIfInBounds_toArray, List.set_cons_zero, List.set_cons_succ]))
              | (refine wpAnyT_read (i := 22) rfl (by kernel_rfl) rfl (fun _ _ _ h => h) (by kernel_rfl) (⟨y0', y1', y2', y3', y4', s3⟩) (fun w hS_ => by obtain ⟨s_1, s_2, s_3, s_4, s_5, s_6⟩ := hS_; go_simp; try rfl) ?_; (try simp only [Act.put, List.setIfInBounds_toArray, List.set_cons_zero, List.set_cons_succ]))
              | (refine wpAnyT_skip (i := 22) rfl (by kernel_rfl) (by first | (simp [Region.wanted, yielded]; done) | (simp [Region.wanted, yielded, undef, *]; done)) (fun _ _ _ h => h) (fun _ => ⟨y0', y1', y2', y3', y4', s3⟩) ?_; (try simp only [Act.put, List.setIfInBounds_toArray, List.set_cons_zero, List.set_cons_succ]))
              | (refine wpAnyT_read (i := 22) rfl (by kernel_rfl) (by first | (simp [Region.wanted, yielded]; done) | (simp [Region.wanted, yielded, undef, *]; done)) (fun _ _ _ h => h) (by kernel_rfl) (⟨y0', y1', y2', y3', y4', s3⟩) (fun w hS_ => by obtain ⟨s_1, s_2, s_3, s_4, s_5, s_6⟩ := hS_; go_simp; try rfl) ?_; (try simp only [Act.put, List.setIfInBounds_toArray, List.set_cons_zero, List.set_cons_succ]))
              first
              | (refine wpAnyT_skip (i := 24) rfl (by kernel_rfl) rfl (fun _ _ _ h => h) (fun h_ => absurd h_ (by decide)) ?_; (try simp only [Act.put, List.setIfInBounds_toArray, List.set_cons_zero, List.set_cons_succ]))
              | (refine wpAnyT_free (i := 24) rfl (by kernel_rfl) rfl (fun _ _ _ h => h) (by kernel_rfl) (fun _ => by go_simp; try rfl) ?_; (try simp only [Act.put, List.setIfInBounds_toArray, List.set_cons_zero, List.set_cons_succ]))
              | (refine wpAnyT_skip (i := 24) rfl (by kernel_rfl) (by first | (simp [Region.wanted, yielded]; done) | (simp [Region.wanted, yielded, undef, *]; done)) (fun _ _ _ h => h) (fun h_ => absurd h_ (by decide)) ?_; (try simp only [Act.put, List.setIfInBounds_toArray, List.set_cons_zero, List.set_cons_succ]))
              | (refine wpAnyT_free (i := 24) rfl (by kernel_rfl) (by first | (simp [Region.wanted, yielded]; done) | (simp [Region.wanted, yielded, undef, *]; done)) (fun _ _ _ h => h) (by kernel_rfl) (fun _ => by go_simp; try rfl) ?_; (try simp only [Act.put, List.setIfInBounds_toArray, List.set_cons_zero, List.set_cons_succ]))
              first
              | (refine wpAnyT_skip (i := 25) rfl (by kernel_rfl) rfl (fun _ _ _ h => h) (fun h_ => absurd h_ (by decide)) ?_; (try simp only [Act.put, List.setIfInBounds_toArray, List.set_cons_zero, List.set_cons_succ]))
              | (refine wpAnyT_free (i := 25) rfl (by kernel_rfl) rfl (fun _ _ _ h => h) (by kernel_rfl) (fun _ => by go_simp; try rfl) ?_; (try simp only [Act.put, List.setIfInBounds_toArray, List.set_cons_zero, List.set_cons_succ]))
              | (refine wpAnyT_skip (i := 25) rfl (by kernel_rfl) (by first | (simp [Region.wanted, yielded]; done) | (simp [Region.wanted, yielded, undef, *]; done)) (fun _ _ _ h => h) (fun h_ => absurd h_ (by decide)) ?_; (try simp only [Act.put, List.setIfInBounds_toArray, List.set_cons_zero, List.set_cons_succ]))
              | (refine wpAnyT_free (i := 25) rfl (by kernel_rfl) (by first | (simp [Region.wanted, yielded]; done) | (simp [Region.wanted, yielded, undef, *]; done)) (fun _ _ _ h => h) (by kernel_rfl) (fun _ => by go_simp; try rfl) ?_; (try simp only [Act.put, List.setIfInBounds_toArray, List.set_cons_zero, List.set_cons_succ]))
              first
              | (refine wpAnyT_skip (i := 26) rfl (by kernel_rfl) rfl (fun _ _ _ h => h) (fun h_ => absurd h_ (by decide)) ?_; (try simp only [Act.put, List.setIfInBounds_toArray, List.set_cons_zero, List.set_cons_succ]))
              | (refine wpAnyT_free (i := 26) rfl (by kernel_rfl) rfl (fun _ _ _ h => h) (by kernel_rfl) (fun _ => by go_simp; try rfl) ?_; (try simp only [Act.put, List.setIfInBounds_toArray, List.set_cons_zero, List.set_cons_succ]))
              | (refine wpAnyT_skip (i := 26) rfl (by kernel_rfl) (by first | (simp [Region.wanted, yielded]; done) | (simp [Region.wanted, yielded, undef, *]; done)) (fun _ _ _ h => h) (fun h_ => absurd h_ (by decide)) ?_; (try simp only [Act.put, List.setIfInBounds_toArray, List.set_cons_zero, List.set_cons_succ]))
              | (refine wpAnyT_free (i := 26) rfl (by kernel_rfl) (by first | (simp [Region.wanted, yielded]; done) | (simp [Region.wanted, yielded, undef, *]; done)) (fun _ _ _ h => h) (by kernel_rfl) (fun _ => by go_simp; try rfl) ?_; (try simp only [Act.put, List.setIfInBounds_toArray, List.set_cons_zero, List.set_cons_succ]))
              first
              | (refine wpAnyT_skip (i := 27) rfl (by kernel_rfl) rfl (fun _ _ _ h => h) (fun _ => ⟨y0', y1', y2', y3', y4', s3⟩) ?_; (try simp only [Act.put, List.setIfInBounds_toArray, List.set_cons_zero, List.set_cons_succ]))
              | (refine wpAnyT_read (i := 27) rfl (by kernel_rfl) rfl (fun _ _ _ h => h) (by kernel_rfl) (⟨y0', y1', y2', y3', y4', s3⟩) (fun w hS_ => by obtain ⟨s_1, s_2, s_3, s_4, s_5, s_6⟩ := hS_; go_simp; try rfl) ?_; (try simp only [Act.put, List.setIfInBounds_toArray, List.set_cons_zero, List.set_cons_succ]))
              | (refine wpAnyT_skip (i := 27) rfl (by kernel_rfl) (by first | (simp [Region.wanted, yielded]; done) | (simp [Region.wanted, yielded, undef, *]; done)) (fun _ _ _ h => h) (fun _ => ⟨y0', y1', y2', y3', y4', s3⟩) ?_; (try simp only [Act.put, List.setIfInBounds_toArray, List.set_cons_zero, List.set_cons_succ]))
              | (refine wpAnyT_read (i := 27) rfl (by kernel_rfl) (by first | (simp [Region.wanted, yielded]; done) | (simp [Region.wanted, yielded, undef, *]; done)) (fun _ _ _ h => h) (by kernel_rfl) (⟨y0', y1', y2', y3', y4', s3⟩) (fun w hS_ => by obtain ⟨s_1, s_2, s_3, s_4, s_5, s_6⟩ := hS_; go_simp; try rfl) ?_; (try simp only [Act.put, List.setIfInBounds_toArray, List.set_cons_zero, List.set_cons_succ]))
              first
              | (refine wpAnyT_skip (i := 28) rfl (by kernel_rfl) rfl (fun _ _ _ h => h) (fun h_ => absurd h_ (by decide)) ?_; (try simp only [Act.put, List.setIfInBounds_toArray, List.set_cons_zero, List.set_cons_succ]))
              | (refine wpAnyT_free (i := 28) rfl (by kernel_rfl) rfl (fun _ _ _ h => h) (by kernel_rfl) (fun _ => by go_simp; try rfl) ?_; (try simp only [Act.put, List.setIfInBounds_toArray, List.set_cons_zero, List.set_cons_succ]))
              | (refine wpAnyT_skip (i := 28) rfl (by kernel_rfl) (by first | (simp [Region.wanted, yielded]; done) | (simp [Region.wanted, yielded, undef, *]; done)) (fun _ _ _ h => h) (fun h_ => absurd h_ (by decide)) ?_; (try simp only [Act.put, List.setIfInBounds_toArray, List.set_cons_zero, List.set_cons_succ]))
              | (refine wpAnyT_free (i := 28) rfl (by kernel_rfl) (by first | (simp [Region.wanted, yielded]; done) | (simp [Region.wanted, yielded, undef, *]; done)) (fun _ _ _ h => h) (by kernel_rfl) (fun _ => by go_simp; try rfl) ?_; (try simp only [Act.put, List.setIfInBounds_toArray, List.set_cons_zero, List.set_cons_succ]))
              first
              | (refine wpAnyT_skip (i := 29) rfl (by kernel_rfl) rfl (fun _ _ _ h => h) (fun h_ => absurd h_ (by decide)) ?_; (try simp only [Act.put, List.setIfInBounds_toArray, List.set_cons_zero, List.set_cons_succ]))
              | (refine wpAnyT_free (i := 29) rfl (by kernel_rfl) rfl (fun _ _ _ h => h) (by kernel_rfl) (fun _ => by go_simp; try rfl) ?_; (try simp only [Act.put, List.setIfInBounds_toArray, List.set_cons_zero, List.set_cons_succ]))
              | (refine wpAnyT_skip (i := 29) rfl (by kernel_rfl) (by first | (simp [Region.wanted, yielded]; done) | (simp [Region.wanted, yielded, undef, *]; done)) (fun _ _ _ h => h) (fun h_ => absurd h_ (by decide)) ?_; (try simp only [Act.put, List.setIfInBounds_toArray, List.set_cons_zero, List.set_cons_succ]))
              | (refine wpAnyT_free (i := 29) rfl (by kernel_rfl) (by first | (simp [Region.wanted, yielded]; done) | (simp [Region.wanted, yielded, undef, *]; done)) (fun _ _ _ h => h) (by kernel_rfl) (fun _ => by go_simp; try rfl) ?_; (try simp only [Act.put, List.setIfInBounds_toArray, List.set_cons_zero, List.set_cons_succ]))
              first
              | (refine wpAnyT_skip (i := 30) rfl (by kernel_rfl) rfl (fun _ _ _ h => h) (fun _ => ⟨y0', y1', y2', y3', y4', s3⟩) ?_; (try simp only [Act.put, List.setIfInBounds_toArray, List.set_cons_zero, List.set_cons_succ]))
              | (refine wpAnyT_read (i := 30) rfl (by kernel_rfl) rfl (fun _ _ _ h => h) (by kernel_rfl) (⟨y0', y1', y2', y3', y4', s3⟩) (fun w hS_ => by obtain ⟨s_1, s_2, s_3, s_4, s_5, s_6⟩ := hS_; go_simp; try rfl) ?_; (try simp only [Act.put, List.setIfInBounds_toArray, List.set_cons_zero, List.set_cons_succ]))
              | (refine wpAnyT_skip (i := 30) rfl (by kernel_rfl) (by first | (simp [Region.wanted, yielded]; done) | (simp [Region.wanted, yielded, undef, *]; done)) (fun _ _ _ h => h) (fun _ => ⟨y0', y1', y2', y3', y4', s3⟩) ?_; (try simp only [Act.put, List.setIfInBounds_toArray, List.set_cons_zero, List.set_cons_succ]))
              | (refine wpAnyT_read (i := 30) rfl (by kernel_rfl) (by first | (simp [Region.wanted, yielded]; done) | (simp [Region.wanted, yielded, undef, *]; done)) (fun _ _ _ h => h) (by kernel_rfl) (⟨y0', y1', y2', y3', y4', s3⟩) (fun w hS_ => by obtain ⟨s_1, s_2, s_3, s_4, s_5, s_6⟩ := hS_; go_simp; try rfl) ?_; (try simp only [Act.put, List.setIfInBounds_toArray, List.set_cons_zero, List.set_cons_succ]))
              first
              | (refine wpAnyT_skip (i := 31) rfl (by kernel_rfl) rfl (fun _ _ _ h => h) (fun h_ => absurd h_ (by decide)) ?_; (try simp only [Act.put, List.setIfInBounds_toArray, List.set_cons_zero, List.set_cons_succ]))
              | (refine wpAnyT_free (i := 31) rfl (by kernel_rfl) rfl (fun _ _ _ h => h) (by kernel_rfl) (fun _ => by go_simp; try rfl) ?_; (try simp only [Act.put, List.setIfInBounds_toArray, List.set_cons_zero, List.set_cons_succ]))
              | (refine wpAnyT_skip (i := 31) rfl (by kernel_rfl) (by first | (simp [Region.wanted, yielded]; done) | (simp [Region.wanted, yielded, undef, *]; done)) (fun _ _ _ h => h) (fun h_ => absurd h_ (by decide)) ?_; (try simp only [Act.put, List.setIfInBounds_toArray, List.set_cons_zero, List.set_cons_succ]))
              | (refine wpAnyT_free (i := 31) rfl (by kernel_rfl) (by first | (simp [Region.wanted, yielded]; done) | (simp [Region.wanted, yielded, undef, *]; done)) (fun _ _ _ h => h) (by kernel_rfl) (fun _ => by go_simp; try rfl) ?_; (try simp only [Act.put, List.setIfInBounds_toArray, List.set_cons_zero, List.set_cons_succ]))
              first
              | (refine wpAnyT_skip (i := 32) rfl (by kernel_rfl) rfl (fun _ _ _ h => h) (fun h_ => absurd h_ (by decide)) ?_; (try simp only [Act.put, List.setIfInBounds_toArray, List.set_cons_zero, List.set_cons_succ]))
              | (refine wpAnyT_free (i := 32) rfl (by kernel_rfl) rfl (fun _ _ _ h => h) (by kernel_rfl) (fun _ => by go_simp; try rfl) ?_; (try simp only [Act.put, List.setIfInBounds_toArray, List.set_cons_zero, List.set_cons_succ]))
              | (refine wpAnyT_skip (i := 32) rfl (by kernel_rfl) (by first | (simp [Region.wanted, yielded]; done) | (simp [Region.wanted, yielded, undef, *]; done)) (fun _ _ _ h => h) (fun h_ => absurd h_ (by decide)) ?_; (try simp only [Act.put, List.setIfInBounds_toArray, List.set_cons_zero, List.set_cons_succ]))
              | (refine wpAnyT_free (i := 32) rfl (by kernel_rfl) (by first | (simp [Region.wanted, yielded]; done) | (simp [Region.wanted, yielded, undef, *]; done)) (fun _ _ _ h => h) (by kernel_rfl) (fun _ => by go_simp; try rfl) ?_; (try simp only [Act.put, List.setIfInBounds_toArray, List.set_cons_zero, List.set_cons_succ]))
              first
              | (refine wpAnyT_skip (i := 33) rfl (by kernel_rfl) rfl (fun _ _ _ h => h) (fun _ => ⟨y0', y1', y2', y3', y4', s3⟩) ?_; (try simp only [Act.put, List.setIfInBounds_toArray, List.set_cons_zero, List.set_cons_succ]))
              | (refine wpAnyT_read (i := 33) rfl (by kernel_rfl) rfl (fun _ _ _ h => h) (by kernel_rfl) (⟨y0', y1', y2', y3', y4', s3⟩) (fun w hS_ => by obtain ⟨s_1, s_2, s_3, s_4, s_5, s_6⟩ := hS_; go_simp; try rfl) ?_; (try simp only [Act.put, List.setIfInBounds_toArray, List.set_cons_zero, List.set_cons_succ]))
              | (refine wpAnyT_skip (i := 33) rfl (by kernel_rfl) (by first | (simp [Region.wanted, yielded]; done) | (simp [Region.wanted, yielded, undef, *]; done)) (fun _ _ _ h => h) (fun _ => ⟨y0', y1', y2', y3', y4', s3⟩) ?_; (try simp only [Act.put, List.setIfInBounds_toArray, List.set_cons_zero, List.set_cons_succ]))
              | (refine wpAnyT_read (i := 33) rfl (by kernel_rfl) (by first | (simp [Region.wanted, yielded]; done) | (simp [Region.wanted, yielded, undef, *]; done)) (fun _ _ _ h => h) (by kernel_rfl) (⟨y0', y1', y2', y3', y4', s3⟩) (fun w hS_ => by obtain ⟨s_1, s_2, s_3, s_4, s_5, s_6⟩ := hS_; go_simp; try rfl) ?_; (try simp only [Act.put, List.setIfInBounds_toArray, List.set_cons_zero, List.set_cons_succ]))
              first
              | (refine wpAnyT_skip (i := 34) rfl (by kernel_rfl) rfl (fun _ _ _ h => h) (fun h_ => absurd h_ (by decide)) ?_; (try simp only [Act.put, List.setIfInBounds_toArray, List.set_cons_zero, List.set_cons_succ]))
              | (refine wpAnyT_free (i := 34) rfl (by kernel_rfl) rfl (fun _ _ _ h => h) (by kernel_rfl) (fun _ => by go_simp; try rfl) ?_; (try simp only [Act.put, List.setIfInBounds_toArray, List.set_cons_zero, List.set_cons_succ]))
              | (refine wpAnyT_skip (i := 34) rfl (by kernel_rfl) (by first | (simp [Region.wanted, yielded]; done) | (simp [Region.wanted, yielded, undef, *]; done)) (fun _ _ _ h => h) (fun h_ => absurd h_ (by decide)) ?_; (try simp only [Act.put, List.setIfInBounds_toArray, List.set_cons_zero, List.set_cons_succ]))
              | (refine wpAnyT_free (i := 34) rfl (by kernel_rfl) (by first | (simp [Region.wanted, yielded]; done) | (simp [Region.wanted, yielded, undef, *]; done)) (fun _ _ _ h => h) (by kernel_rfl) (fun _ => by go_simp; try rfl) ?_; (try simp only [Act.put, List.setIfInBounds_toArray, List.set_cons_zero, List.set_cons_succ]))
              first
              | (refine wpAnyT_skip (i := 35) rfl (by kernel_rfl) rfl (fun _ _ _ h => h) (fun h_ => absurd h_ (by decide)) ?_; (try simp only [Act.put, List.setIfInBounds_toArray, List.set_cons_zero, List.set_cons_succ]))
              | (refine wpAnyT_free (i := 35) rfl (by kernel_rfl) rfl (fun _ _ _ h => h) (by kernel_rfl) (fun _ => by go_simp; try rfl) ?_; (try simp only [Act.put, List.setIfInBounds_toArray, List.set_cons_zero, List.set_cons_succ]))
              | (refine wpAnyT_skip (i := 35) rfl (by kernel_rfl) (by first | (simp [Region.wanted, yielded]; done) | (simp [Region.wanted, yielded, undef, *]; done)) (fun _ _ _ h => h) (fun h_ => absurd h_ (by decide)) ?_; (try simp only [Act.put, List.setIfInBounds_toArray, List.set_cons_zero, List.set_cons_succ]))
              | (refine wpAnyT_free (i := 35) rfl (by kernel_rfl) (by first | (simp [Region.wanted, yielded]; done) | (simp [Region.wanted, yielded, undef, *]; done)) (fun _ _ _ h => h) (by kernel_rfl) (fun _ => by go_simp; try rfl) ?_; (try simp only [Act.put, List.setIfInBounds_toArray, List.set_cons_zero, List.set_cons_succ]))
              first
              | (refine wpAnyT_skip (i := 36) rfl (by kernel_rfl) rfl (fun _ _ _ h => h) (fun h_ => absurd h_ (by decide)) ?_; (try simp only [Act.put, List.setIfInBounds_toArray, List.set_cons_zero, List.set_cons_succ]))
              | (refine wpAnyT_free (i := 36) rfl (by kernel_rfl) rfl (fun _ _ _ h => h) (by kernel_rfl) (fun _ => by go_simp; try rfl) ?_; (try simp only [Act.put, List.setIfInBounds_toArray, List.set_cons_zero, List.set_cons_succ]))
              | (refine wpAnyT_skip (i := 36) rfl (by kernel_rfl) (by first | (simp [Region.wanted, yielded]; done) | (simp [Region.wanted, yielded, undef, *]; done)) (fun _ _ _ h => h) (fun h_ => absurd h_ (by decide)) ?_; (try simp only [Act.put, List.setIfInBounds_toArray, List.set_cons_zero, List.set_cons_succ]))
              | (refine wpAnyT_free (i := 36) rfl (by kernel_rfl) (by first | (simp [Region.wanted, yielded]; done) | (simp [Region.wanted, yielded, undef, *]; done)) (fun _ _ _ h => h) (by kernel_rfl) (fun _ => by go_simp; try rfl) ?_; (try simp only [Act.put, List.setIfInBounds_toArray, List.set_cons_zero, List.set_cons_succ]))
              first
              | (refine wpAnyT_skip (i := 37) rfl (by kernel_rfl) rfl (fun _ _ _ h => h) (fun h_ => absurd h_ (by decide)) ?_; (try simp only [Act.put, List.setIfInBounds_toArray, List.set_cons_zero, List.set_cons_succ]))
              | (refine wpAnyT_free (i := 37) rfl (by kernel_rfl) rfl (fun _ _ _ h => h) (by kernel_rfl) (fun _ => by go_simp; try rfl) ?_; (try simp only [Act.put, List.setIfInBounds_toArray, List.set_cons_zero, List.set_cons_succ]))
              | (refine wpAnyT_skip (i := 37) rfl (by kernel_rfl) (by first | (simp [Region.wanted, yielded]; done) | (simp [Region.wanted, yielded, undef, *]; done)) (fun _ _ _ h => h) (fun h_ => absurd h_ (by decide)) ?_; (try simp only [Act.put, List.setIfInBounds_toArray, List.set_cons_zero, List.set_cons_succ]))
              | (refine wpAnyT_free (i := 37) rfl (by kernel_rfl) (by first | (simp [Region.wanted, yielded]; done) | (simp [Region.wanted, yielded, undef, *]; done)) (fun _ _ _ h => h) (by kernel_rfl) (fun _ => by go_simp; try rfl) ?_; (try simp only [Act.put, List.setIfInBounds_toArray, List.set_cons_zero, List.set_cons_succ]))
              first
              | (refine wpAnyT_skip (i := 38) rfl (by kernel_rfl) rfl (fun _ _ _ h => h) (fun _ => ⟨y0', y1', y2', y3', y4', s3⟩) ?_; (try simp only [Act.put, List.setIfInBounds_toArray, List.set_cons_zero, List.set_cons_succ]))
              | (refine wpAnyT_read (i := 38) rfl (by kernel_rfl) rfl (fun _ _ _ h => h) (by kernel_rfl) (⟨y0', y1', y2', y3', y4', s3⟩) (fun w hS_ => by obtain ⟨s_1, s_2, s_3, s_4, s_5, s_6⟩ := hS_; go_simp; try rfl) ?_; (try simp only [Act.put, List.setIfInBounds_toArray, List.set_cons_zero, List.set_cons_succ]))
              | (refine wpAnyT_skip (i := 38) rfl (by kernel_rfl) (by first | (simp [Region.wanted, yielded]; done) | (simp [Region.wanted, yielded, undef, *]; done)) (fun _ _ _ h => h) (fun _ => ⟨y0', y1', y2', y3', y4', s3⟩) ?_; (try simp only [Act.put, List.setIfInBounds_toArray, List.set_cons_zero, List.set_cons_succ]))
              | (refine wpAnyT_read (i := 38) rfl (by kernel_rfl) (by first | (simp [Region.wanted, yielded]; done) | (simp [Region.wanted, yielded, undef, *]; done)) (fun _ _ _ h => h) (by kernel_rfl) (⟨y0', y1', y2', y3', y4', s3⟩) (fun w hS_ => by obtain ⟨s_1, s_2, s_3, s_4, s_5, s_6⟩ := hS_; go_simp; try rfl) ?_; (try simp only [Act.put, List.setIfInBounds_toArray, List.set_cons_zero, List.set_cons_succ]))
              first
              | (refine wpAnyT_skip (i := 39) rfl (by kernel_rfl) rfl (fun _ _ _ h => h) (fun h_ => absurd h_ (by decide)) ?_; (try simp only [Act.put, List.setIfInBounds_toArray, List.set_cons_zero, List.set_cons_succ]))
              | (refine wpAnyT_free (i := 39) rfl (by kernel_rfl) rfl (fun _ _ _ h => h) (by kernel_rfl) (fun _ => by go_simp; try rfl) ?_; (try simp only [Act.put, List.setIfInBounds_toArray, List.set_cons_zero, List.set_cons_succ]))
              | (refine wpAnyT_skip (i := 39) rfl (by kernel_rfl) (by first | (simp [Region.wanted, yielded]; done) | (simp [Region.wanted, yielded, undef, *]; done)) (fun _ _ _ h => h) (fun h_ => absurd h_ (by decide)) ?_; (try simp only [Act.put, List.setIfInBounds_toArray, List.set_cons_zero, List.set_cons_succ]))
              | (refine wpAnyT_free (i := 39) rfl (by kernel_rfl) (by first | (simp [Region.wanted, yielded]; done) | (simp [Region.wanted, yielded, undef, *]; done)) (fun _ _ _ h => h) (by kernel_rfl) (fun _ => by go_simp; try rfl) ?_; (try simp only [Act.put, List.setIfInBounds_toArray, List.set_cons_zero, List.set_cons_succ]))
              first
              | (refine wpAnyT_skip (i := 40) rfl (by kernel_rfl) rfl (fun _ _ _ h => h) (fun h_ => absurd h_ (by decide)) ?_; (try simp only [Act.put, List.setIfInBounds_toArray, List.set_cons_zero, List.set_cons_succ]))
              | (refine wpAnyT_free (i := 40) rfl (by kernel_rfl) rfl (fun _ _ _ h => h) (by kernel_rfl) (fun _ => by go_simp; try rfl) ?_; (try simp only [Act.put, List.setIfInBounds_toArray, List.set_cons_zero, List.set_cons_succ]))
              | (refine wpAnyT_skip (i := 40) rfl (by kernel_rfl) (by first | (simp [Region.wanted, yielded]; done) | (simp [Region.wanted, yielded, undef, *]; done)) (fun _ _ _ h => h) (fun h_ => absurd h_ (by decide)) ?_; (try simp only [Act.put, List.setIfInBounds_toArray, List.set_cons_zero, List.set_cons_succ]))
              | (refine wpAnyT_free (i := 40) rfl (by kernel_rfl) (by first | (simp [Region.wanted, yielded]; done) | (simp [Region.wanted, yielded, undef, *]; done)) (fun _ _ _ h => h) (by kernel_rfl) (fun _ => by go_simp; try rfl) ?_; (try simp only [Act.put, List.setIfInBounds_toArray, List.set_cons_zero, List.set_cons_succ]))
              first
              | (refine wpAnyT_skip (i := 41) rfl (by kernel_rfl) rfl (fun _ _ _ h => h) (fun _ => ⟨y0', y1', y2', y3', y4', s3⟩) ?_; (try simp only [Act.put, List.setIfInBounds_toArray, List.set_cons_zero, List.set_cons_succ]))
              | (refine wpAnyT_read (i := 41) rfl (by kernel_rfl) rfl (fun _ _ _ h => h) (by kernel_rfl) (⟨y0', y1', y2', y3', y4', s3⟩) (fun w hS_ => by obtain ⟨s_1, s_2, s_3, s_4, s_5, s_6⟩ := hS_; go_simp; try rfl) ?_; (try simp only [Act.put, List.setIfInBounds_toArray, List.set_cons_zero, List.set_cons_succ]))
              | (refine wpAnyT_skip (i := 41) rfl (by kernel_rfl) (by first | (simp [Region.wanted, yielded]; done) | (simp [Region.wanted, yielded, undef, *]; done)) (fun _ _ _ h => h) (fun _ => ⟨y0', y1', y2', y3', y4', s3⟩) ?_; (try simp only [Act.put, List.setIfInBounds_toArray, List.set_cons_zero, List.set_cons_succ]))
              | (refine wpAnyT_read (i := 41) rfl (by kernel_rfl) (by first | (simp [Region.wanted, yielded]; done) | (simp [Region.wanted, yielded, undef, *]; done)) (fun _ _ _ h => h) (by kernel_rfl) (⟨y0', y1', y2', y3', y4', s3⟩) (fun w hS_ => by obtain ⟨s_1, s_2, s_3, s_4, s_5, s_6⟩ := hS_; go_simp; try rfl) ?_; (try simp only [Act.put, List.setIfInBounds_toArray, List.set_cons_zero, List.set_cons_succ]))
              first
              | (refine wpAnyT_skip (i := 42) rfl (by kernel_rfl) rfl (fun _ _ _ h => h) (fun h_ => absurd h_ (by decide)) ?_; (try simp only [Act.put, List.setIfInBounds_toArray, List.set_cons_zero, List.set_cons_succ]))
              | (refine wpAnyT_free (i := 42) rfl (by kernel_rfl) rfl (fun _ _ _ h => h) (by kernel_rfl) (fun _ => by go_simp; try rfl) ?_; (try simp only [Act.put, List.setIfInBounds_toArray, List.set_cons_zero, List.set_cons_succ]))
              | (refine wpAnyT_skip (i := 42) rfl (by kernel_rfl) (by first | (simp [Region.wanted, yielded]; done) | (simp [Region.wanted, yielded, undef, *]; done)) (fun _ _ _ h => h) (fun h_ => absurd h_ (by decide)) ?_; (try simp only [Act.put, List.setIfInBounds_toArray, List.set_cons_zero, List.set_cons_succ]))
              | (refine wpAnyT_free (i := 42) rfl (by kernel_rfl) (by first | (simp [Region.wanted, yielded]; done) | (simp [Region.wanted, yielded, undef, *]; done)) (fun _ _ _ h => h) (by kernel_rfl) (fun _ => by go_simp; try rfl) ?_; (try simp only [Act.put, List.setIfInBounds_toArray, List.set_cons_zero, List.set_cons_succ]))
              first
              | (refine wpAnyT_skip (i := 43) rfl (by kernel_rfl) rfl (fun _ _ _ h => h) (fun h_ => absurd h_ (by decide)) ?_; (try simp only [Act.put, List.setIfInBounds_toArray, List.set_cons_zero, List.set_cons_succ]))
              | (refine wpAnyT_free (i := 43) rfl (by kernel_rfl) rfl (fun _ _ _ h => h) (by kernel_rfl) (fun _ => by go_simp; try rfl) ?_; (try simp only [Act.put, List.setIfInBounds_toArray, List.set_cons_zero, List.set_cons_succ]))
              | (refine wpAnyT_skip (i := 43) rfl (by kernel_rfl) (by first | (simp [Region.wanted, yielded]; done) | (simp [Region.wanted, yielded, undef, *]; done)) (fun _ _ _ h => h) (fun h_ => absurd h_ (by decide)) ?_; (try simp only [Act.put, List.setIfInBounds_toArray, List.set_cons_zero, List.set_cons_succ]))
              | (refine wpAnyT_free (i := 43) rfl (by kernel_rfl) (by first | (simp [Region.wanted, yielded]; done) | (simp [Region.wanted, yielded, undef, *]; done)) (fun _ _ _ h => h) (by kernel_rfl) (fun _ => by go_simp; try rfl) ?_; (try simp only [Act.put, List.setIfInBounds_toArray, List.set_cons_zero, List.set_cons_succ]))
              first
              | (refine wpAnyT_skip (i := 44) rfl (by kernel_rfl) rfl (fun _ _ _ h => h) (fun _ => ⟨y0', y1', y2', y3', y4', s3⟩) ?_; (try simp only [Act.put, List.setIfInBounds_toArray, List.set_cons_zero, List.set_cons_succ]))
              | (refine wpAnyT_read (i := 44) rfl (by kernel_rfl) rfl (fun _ _ _ h => h) (by kernel_rfl) (⟨y0', y1', y2', y3', y4', s3⟩) (fun w hS_ => by obtain ⟨s_1, s_2, s_3, s_4, s_5, s_6⟩ := hS_; go_simp; try rfl) ?_; (try simp only [Act.put, List.setIfInBounds_toArray, List.set_cons_zero, List.set_cons_succ]))
              | (refine wpAnyT_skip (i := 44) rfl (by kernel_rfl) (by first | (simp [Region.wanted, yielded]; done) | (simp [Region.wanted, yielded, undef, *]; done)) (fun _ _ _ h => h) (fun _ => ⟨y0', y1', y2', y3', y4', s3⟩) ?_; (try simp only [Act.put, List.setIfInBounds_toArray, List.set_cons_zero, List.set_cons_succ]))
              | (refine wpAnyT_read (i := 44) rfl (by kernel_rfl) (by first | (simp [Region.wanted, yielded]; done) | (simp [Region.wanted, yielded, undef, *]; done)) (fun _ _ _ h => h) (by kernel_rfl) (⟨y0', y1', y2', y3', y4', s3⟩) (fun w hS_ => by obtain ⟨s_1, s_2, s_3, s_4, s_5, s_6⟩ := hS_; go_simp; try rfl) ?_; (try simp only [Act.put, List.setIfInBounds_toArray, List.set_cons_zero, List.set_cons_succ]))
              first
              | (refine wpAnyT_skip (i := 45) rfl (by kernel_rfl) rfl (fun _ _ _ h => h) (fun h_ => absurd h_ (by decide)) ?_; (try simp only [Act.put, List.setIfInBounds_toArray, List.set_cons_zero, List.set_cons_succ]))
              | (refine wpAnyT_free (i := 45) rfl (by kernel_rfl) rfl (fun _ _ _ h => h) (by kernel_rfl) (fun _ => by go_simp; try rfl) ?_; (try simp only [Act.put, List.setIfInBounds_toArray, List.set_cons_zero, List.set_cons_succ]))
              | (refine wpAnyT_skip (i := 45) rfl (by kernel_rfl) (by first | (simp [Region.wanted, yielded]; done) | (simp [Region.wanted, yielded, undef, *]; done)) (fun _ _ _ h => h) (fun h_ => absurd h_ (by decide)) ?_; (try simp only [Act.put, List.setIfInBounds_toArray, List.set_cons_zero, List.set_cons_succ]))
              | (refine wpAnyT_free (i := 45) rfl (by kernel_rfl) (by first | (simp [Region.wanted, yielded]; done) | (simp [Region.wanted, yielded, undef, *]; done)) (fun _ _ _ h => h) (by kernel_rfl) (fun _ => by go_simp; try rfl) ?_; (try simp only [Act.put, List.setIfInBounds_toArray, List.set_cons_zero, List.set_cons_succ]))
              first
              | (refine wpAnyT_skip (i := 46) rfl (by kernel_rfl) rfl (fun _ _ _ h => h) (fun h_ => absurd h_ (by decide)) ?_; (try simp only [Act.put, List.setIfInBounds_toArray, List.set_cons_zero, List.set_cons_succ]))
              | (refine wpAnyT_free (i := 46) rfl (by kernel_rfl) rfl (fun _ _ _ h => h) (by kernel_rfl) (fun _ => by go_simp; try rfl) ?_; (try simp only [Act.put, List.setIfInBounds_toArray, List.set_cons_zero, List.set_cons_succ]))
              | (refine wpAnyT_skip (i := 46) rfl (by kernel_rfl) (by first | (simp [Region.wanted, yielded]; done) | (simp [Region.wanted, yielded, undef, *]; done)) (fun _ _ _ h => h) (fun h_ => absurd h_ (by decide)) ?_; (try simp only [Act.put, List.setIfInBounds_toArray, List.set_cons_zero, List.set_cons_succ]))
              | (refine wpAnyT_free (i := 46) rfl (by kernel_rfl) (by first | (simp [Region.wanted, yielded]; done) | (simp [Region.wanted, yielded, undef, *]; done)) (fun _ _ _ h => h) (by kernel_rfl) (fun _ => by go_simp; try rfl) ?_; (try simp only [Act.put, List.setIfInBounds_toArray, List.set_cons_zero, List.set_cons_succ]))
              first
              | (refine wpAnyT_skip (i := 23) rfl (by kernel_rfl) rfl (fun _ _ _ h => h) (fun h_ => absurd h_ (by decide)) ?_; (try simp only [Act.put, List.setIfInBounds_toArray, List.set_cons_zero, List.set_cons_succ]))
              | (refine wpAnyT_one (i := 23) rfl (by kernel_rfl) rfl ?_
                 intro K_ hK_
                 go_wp2_with ((go_at_call 57; refine (hsz _ l6).mono ?_; rintro e w7 ⟨rfl, rfl⟩))
                 refine hK_ _ _ ?_ ?_
                 · exact fun _ h_ => h_
                 clear hK_ K_
                 (try simp only [Act.put, List.setIfInBounds_toArray, List.set_cons_zero, List.set_cons_succ]))
              | (refine wpAnyT_skip (i := 23) rfl (by kernel_rfl) (by first | (simp [Region.wanted, yielded]; done) | (simp [Region.wanted, yielded, undef, *]; done)) (fun _ _ _ h => h) (fun h_ => absurd h_ (by decide)) ?_; (try simp only [Act.put, List.setIfInBounds_toArray, List.set_cons_zero, List.set_cons_succ]))
              | (refine wpAnyT_one (i := 23) rfl (by kernel_rfl) (by first | (simp [Region.wanted, yielded]; done) | (simp [Region.wanted, yielded, undef, *]; done)) ?_
                 intro K_ hK_
                 go_wp2_with ((go_at_call 57; refine (hsz _ l6).mono ?_; rintro e w7 ⟨rfl, rfl⟩))
                 refine hK_ _ _ ?_ ?_
                 · exact fun _ h_ => h_
                 clear hK_ K_
                 (try simp only [Act.put, List.setIfInBounds_toArray, List.set_cons_zero, List.set_cons_succ]))
              first
              | (refine wpAnyT_skip (i := 47) rfl (by kernel_rfl) rfl (fun _ _ _ h => h) (fun h_ => absurd h_ (by decide)) ?_; (try simp only [Act.put, List.setIfInBounds_toArray, List.set_cons_zero, List.set_cons_succ]))
              | (refine wpAnyT_free (i := 47) rfl (by kernel_rfl) rfl (fun _ _ _ h => h) (by kernel_rfl) (fun _ => by go_simp; try rfl) ?_; (try simp only [Act.put, List.setIfInBounds_toArray, List.set_cons_zero, List.set_cons_succ]))
              | (refine wpAnyT_skip (i := 47) rfl (by kernel_rfl) (by first | (simp [Region.wanted, yielded]; done) | (simp [Region.wanted, yielded, undef, *]; done)) (fun _ _ _ h => h) (fun h_ => absurd h_ (by decide)) ?_; (try simp only [Act.put, List.setIfInBounds_toArray, List.set_cons_zero, List.set_cons_succ]))
              | (refine wpAnyT_free (i := 47) rfl (by kernel_rfl) (by first | (simp [Region.wanted, yielded]; done) | (simp [Region.wanted, yielded, undef, *]; done)) (fun _ _ _ h => h) (by kernel_rfl) (fun _ => by go_simp; try rfl) ?_; (try simp only [Act.put, List.setIfInBounds_toArray, List.set_cons_zero, List.set_cons_succ]))
              (refine wpAnyT_free (i := 48) rfl (by kernel_rfl) rfl (fun _ _ _ h => h) (by kernel_rfl) (fun _ => by go_simp; try rfl) ?_; (try simp only [Act.put, List.setIfInBounds_toArray, List.set_cons_zero, List.set_cons_succ]))
              refine wpAnyT_done (by kernel_rfl) ?_ _
              go_wp2
              go_roundw
              case rel => exact ⟨j + 1, by omega, by go_num, hbi.trans (Below.mono (show Below wr.heap.size wr w6 from ⟨l6.os, l6.tape, l6.output, l6.size, l6.block⟩) hbi.size)⟩
              case measure => simp [intOf]; omega
            · obtain rfl : j = L1.segs.length := by omega
              have hGf := hG11.mono hbi
              go_wp2
              go_roundw
              case rel => exact ⟨k + 1, b1, L1, by omega, by omega, by go_num, rfl, hinv1, hGf⟩
              case measure => simp [intOf]; omega
      · have hw := works_07 W wr hG.below hh
        have hge : acts.length ≤ k ∨ 60 ≤ k := by omega
        by_cases hk2 : (k : Int) < (acts.length : Int)
        all_goals
          clear hA
          go_wp2_with (go_at_call 41; refine hw.mono ?_; rintro e w3 ⟨rfl, hb3⟩)
          go_ret
          exact ⟨rfl, hb3⟩
end Go.Proofs.YtediidajdpdeiaaDoor
