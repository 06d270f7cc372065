/- StorePlays (layer 8): the law's walk. -/
import Derived.Test.YtediidajdpdeiaaGreatDoorJ23
import Derived.Test.YtediidajdpdeiaaGreatDoorJ21
import Derived.Test.YtediidajdpdeiaaGreatDoorJ18
import Derived.Test.YtediidajdpdeiaaGreatDoorJ17

namespace Go.Proofs.YtediidajdpdeiaaGreatDoor
open Go.RowKit CrcM
set_option maxRecDepth 100000

theorem does_B8 {W w : World} {b r k : Nat} {s : So} {st0 : St} {rcs : List Rc} (h : BothS W w b r s s.per s.log st0) (hh : HalfAt W) (hf : s.Fine 301 k st0 rcs) (hk : k < 100) (a : Act08) (B : Option Addr) (cb : Nat) (hcb : a.b.length ≤ cb) (hcm : cb ≤ maxLen) (hB : RdB W B a.b) (inn : i64 a.n) (isl : i64 a.slot) (ifl : i64 a.flip) :
    Calls Tryz.prog 12 #[.pointer (some ⟨b, 0, none⟩), .pointer (some ⟨r, 0, none⟩), .agg #[.int .i64 a.kind, .int .i64 a.n, .int .i64 a.slot, .int .i64 a.flip, .slice B a.b.length cb]] w (DoesDid8 W b r (k + 1)) := by
  by_cases k0 : a.kind = 0
  · exact does_promise8 h hh hf hk _ _ _ _ _ B cb hcb hcm hB inn isl ifl k0
  by_cases k1 : a.kind = 1
  · exact does_accept8 h hh hf hk _ _ _ _ _ B cb hcb hcm hB inn isl ifl k1
  by_cases k2 : a.kind = 2
  · exact does_sync8 h hh hf hk _ _ _ _ _ B cb hcb hcm hB inn isl ifl k2
  by_cases k3 : a.kind = 3
  · exact does_snap8 h hh hf hk _ _ _ _ _ B cb hcb hcm hB inn isl ifl k3
  by_cases k4 : a.kind = 4
  · exact does_crash8 h hh hf hk _ _ _ _ _ B cb hcb hcm hB inn isl ifl k4
  by_cases k7 : a.kind = 7
  · exact does_forget8 h hh hf hk _ _ _ _ _ B cb hcb hcm hB inn isl ifl k7
  · exact does_restart8 h hh hf hk _ _ _ _ _ B cb hcb hcm hB inn isl ifl k0 k1 k2 k3 k4 k7

section
variable {W w w' : World} {b r p : Nat} {s : So} {L : Lg} {st0 : St}
theorem BothS.live (h : BothS W w b r s p L st0) : LiveS W w b s Non := by
  obtain ⟨T, h1, -⟩ := h
  exact h1.sub (fun _ hx => hx.elim)
theorem BothS.drewB (h : BothS W w b r s p L st0) : BothS W w.drew b r s p L st0 := h.mono (Below.refl _ _).drew
theorem BothS.drewS (h : BothS W w b r s p L st0) : LiveS W w.drew b s Non := h.drewB.live
theorem BothS.base0 (h : BothS W w b r s p L st0) (hd : s.log.down = true) : Calls Tryz.prog 16 #[.pointer (some ⟨b, 0, none⟩)] w fun e w' => e = .returned (.int .i64 0) ∧ w = w' := by
  obtain ⟨T, ⟨S, ⟨S1, S2, lb, db, mb, h⟩, -⟩, -⟩ := h
  have := baseS h
  rw [hd] at this
  exact this
theorem BothS.promised0 (h : BothS W w b r s p L st0) (hd : s.log.down = true) : Calls Tryz.prog 14 #[.pointer (some ⟨b, 0, none⟩)] w fun e w' => e = .returned (.int .i64 0) ∧ w = w' := by
  obtain ⟨T, ⟨S, ⟨S1, S2, lb, db, mb, h⟩, -⟩, -⟩ := h
  have := promisedS h
  rw [hd] at this
  exact this
theorem BothS.slots0 (h : BothS W w b r s p L st0) (hd : s.log.down = true) : Calls Tryz.prog 15 #[.pointer (some ⟨b, 0, none⟩)] w fun e w' => e = .returned (.int .i64 0) ∧ Below w.heap.size w w' := by
  obtain ⟨T, ⟨S, ⟨S1, S2, lb, db, mb, h⟩, -⟩, -⟩ := h
  have := slotsS h
  rw [hd] at this
  exact this
theorem len_at {S : Nat → Prop} {b' : Nat} (h : LogAt S w b' L) : Calls Tryz.prog 22 #[.pointer (some ⟨b', 0, none⟩)] w (Told w (.int .i64 (L.len : Int))) := by
  obtain ⟨hu, H, A, c, ps, hl⟩ := h
  exact lenL hl
theorem BothS.make8 {per : Int} (_hp : 1 ≤ per ∧ per ≤ 1024) {w0 w1 : World} (hw : Below W.heap.size W w0) (h1 : SoAt (Nw w0 w1) w1 b (So.new per.toNat)) (hb1 : Below w0.heap.size w0 w1) (h2 : IsRef8 (Nw w1 w') w' r per.toNat (Lg.new per.toNat) St.new) (hb2 : Below w1.heap.size w1 w') :
    BothS W w' b r (So.new per.toNat) (So.new per.toNat).per (So.new per.toNat).log St.new := by
  obtain ⟨S1, S2, lb, db, mb, h⟩ := h1
  have hb := hb1.trans (hb2.mono hb1.size)
  exact ⟨Nw w1 w', ⟨Nw w0 w1, ⟨S1, S2, lb, db, mb, h.below hb2⟩, fun x hx => Nat.le_trans hw.size hx.1, hw.trans (hb.mono hw.size), fun x hx => ⟨fun hs => by have := hs.2; have := hx.1; omega, hx.2⟩⟩, h2, fun x hx => Nat.le_trans (Nat.le_trans hw.size hb1.size) hx.1⟩
end

/-- WHAT a round leaves -/
def Round8 (W : World) (r k : Nat) (b : Nat) (w' : World) : Prop := ∃ s st0 rcs, BothS W w' b r s s.per s.log st0 ∧ s.Fine 301 k st0 rcs

set_option maxHeartbeats 8000000 in
theorem same_08 (W : World) (hh : HalfAt W) (per : Int) (A : Option Addr) (acts : List Act08) (c : Nat) (hA : ActsAt8 W A acts) (hlen : acts.length ≤ maxLen) :
    Calls Tryz.prog 3 #[.int .i64 per, .slice A acts.length c] W fun e w' => e = .returned (.bool true) ∧ Below W.heap.size W w' := by
  unfold maxLen at hlen
  by_cases hp : 1 ≤ per ∧ per ≤ 1024
  case neg =>
    have hw := works_08 W W (Below.refl _ _) hh
    by_cases h0 : (0 : Int) < (acts.length : Int)
    all_goals
      go_enter Tryz.func3, Tryz.ntmps3
      go_wp2_with (first
        | (go_at_call 7; refine (newS W per).mono ?_; rintro e w1 h1; rw [if_neg hp] at h1; obtain ⟨rfl, rfl⟩ := h1)
        | (go_at_call 8; refine (refNew_B8 w1 per).mono ?_; rintro e w2 h2; rw [if_neg hp] at h2; obtain ⟨rfl, rfl⟩ := h2))
      go_loopw [5, 9] (fun _ i wr => i = .int .i64 0 ∧ wr = w2) (fun _ _ _ => 0)
      case atStart => exact ⟨rfl, rfl⟩
      case round =>
        obtain ⟨rfl, rfl⟩ := hrel
        go_wp2_with (go_at_call 24; refine hw.mono ?_; rintro e w3 ⟨rfl, hb3⟩)
        go_ret
        exact ⟨rfl, hb3⟩
  case pos =>
    go_enter Tryz.func3, Tryz.ntmps3
    go_wp2_with (first
      | (go_at_call 7; refine (newS W per).mono ?_; rintro e w1 h1; rw [if_pos hp] at h1; obtain ⟨p1, rfl, ⟨b, rfl, hl1⟩, hb1⟩ := h1; unfold ptr)
      | (go_at_call 8; refine (refNew_B8 w1 per).mono ?_; rintro e w2 h2; rw [if_pos hp] at h2; obtain ⟨r, rfl, hr2, hb2⟩ := h2))
    have hG0 : Round8 W r 0 b w2 := ⟨_, _, [], BothS.make8 hp (Below.refl _ _) hl1 hb1 hr2 hb2, ⟨So.inv_new (by omega) (by omega) 301, Based.nil St.based_new, Nat.le_refl _⟩⟩
    clear hr2 hl1 hb1 hb2
    go_loopw [5, 9] (fun lv i wr => ∃ (k b : Nat), k ≤ acts.length ∧ k ≤ 50 ∧ i = .int .i64 k ∧ lv = .pointer (some ⟨b, 0, none⟩) ∧ Round8 W r k b wr) (fun _ i _ => 50 - (intOf i).toNat)
    case atStart => exact ⟨0, b, by omega, by omega, rfl, rfl, hG0⟩
    case round =>
      obtain ⟨k, b, hk, hk6, rfl, rfl, s, st0, rcs, hG, hf⟩ := hrel
      clear hG0
      by_cases hlt : k < acts.length ∧ k < 50
      · obtain ⟨hlt, hlt6⟩ := hlt
        obtain ⟨a, ha⟩ : ∃ a, acts[k]? = some a := ⟨_, List.getElem?_eq_getElem hlt⟩
        obtain ⟨g, o, B, cb, rfl, hg, e0, e1, e2, e3, e4, hcb, hcm, hB, ik, inn, isl, ifl⟩ := hA k a ha
        have hbel := hG.below
        have f0 : wr.cell? ⟨g, o + k * 5, none⟩ = some (.int .i64 a.kind) := (hbel.cell (p := ⟨g, o + k * 5, none⟩) hg).trans e0
        have f1 : wr.cell? ⟨g, o + k * 5 + 1, none⟩ = some (.int .i64 a.n) := (hbel.cell (p := ⟨g, o + k * 5 + 1, none⟩) hg).trans e1
        have f2 : wr.cell? ⟨g, o + k * 5 + 2, none⟩ = some (.int .i64 a.slot) := (hbel.cell (p := ⟨g, o + k * 5 + 2, none⟩) hg).trans e2
        have f3 : wr.cell? ⟨g, o + k * 5 + 3, none⟩ = some (.int .i64 a.flip) := (hbel.cell (p := ⟨g, o + k * 5 + 3, none⟩) hg).trans e3
        have f4 : wr.cell? ⟨g, o + k * 5 + 4, none⟩ = some (.slice B a.b.length cb) := (hbel.cell (p := ⟨g, o + k * 5 + 4, none⟩) hg).trans e4
        clear e0 e1 e2 e3 e4 ha hA
        have hlt' : (k : Int) < (acts.length : Int) := by omega
        have hlt6' : (k : Int) < 50 := by omega
        by_cases k6 : a.kind = 6
        case' pos =>
          have k6' : (a.kind == 6) = true := by simpa using k6
          have kc := fun (w : World) (C : Array Value) (n c : Nat) => Lib.run_convert_bytes_const (P := Tryz.prog) w 30 TB C n c Tryz.underlying30 Tryz.underlying5
          have hlo := hf.inv.len_ok
          have HFW := Lib.hid (show s.st.slots.length < 1048575 by have := hf.few; omega)
          clear f1 f2 f3 f4
          go_wp2_with (first
            | (go_at_call 9; refine hG.copy.mono ?_; rintro e w3 ⟨b3, rfl, hC3, hb3⟩)
            | (go_at_call 10
               have b34 := (Below.refl w3.heap.size w3).alloc (Nat.le_refl _) (Obj.cells #[.int .u8 122, .int .u8 122] TB (2, 3))
               have hL : Byt (w3.alloc (Obj.cells #[.int .u8 122, .int .u8 122] TB (2, 3))) (some ⟨w3.heap.size, 0, none⟩) [122, 122] := Own.of_cells (fun _ => True) (heap_alloc_new w3 _) trivial rfl
               have hC34 := hC3.mono b34
               refine (hC34.store (so' := (s.accept 0 1099511627776 [122, 122]).1) (n := (s.accept 0 1099511627776 [122, 122]).2) (fun S S1 S2 lb db mb hd hS => acceptS hd (hh.below hC34.below hh.lt) hlo HFW.out 0 1099511627776 (some ⟨w3.heap.size, 0, none⟩) [122, 122] 2 (hL.rd S) (by decide))).mono ?_
               rintro e w4 ⟨rfl, hC4⟩)
            | (go_at_call 11
               refine (hC4.store (so' := (s.accept 0 1099511627776 [122, 122]).1.snapshot.1) (n := (s.accept 0 1099511627776 [122, 122]).1.snapshot.2) (fun S S1 S2 lb db mb hd hS => snapshotS hd (hh.below hC4.below hh.lt) (fun hx => by have := hS _ hx; have := hh.lt; omega))).mono ?_
               rintro e w1 ⟨rfl, hC5⟩
               have hG1 := hC5.swap))
          have hf1 := hf.mono (Nat.le_refl _) (Nat.le_succ k) (by omega)
          generalize b3 = b1 at *
          generalize s = s1 at *
          generalize st0 = st1 at *
          generalize rcs = rcs1 at *
        case' neg =>
          have k6' : (a.kind == 6) = false := by simpa using k6
          have hdo := does_B8 hG hh hf (by omega) a B cb hcb hcm hB inn isl ifl
          go_wp2_with (first
            | (go_at_call 12; refine hdo.mono ?_; rintro e w1 ⟨rfl, s1, st1, rcs1, hG1, hf1⟩))
          generalize b = b1 at *
        all_goals
          have hi := hf1.inv
          have hlm := hi.len_ok
          have HI := Lib.hid hi
          obtain ⟨lr, hL⟩ := hG1.logIn
          have pt := hL.ptr
          have dw := hL.down
          have hdn := down_S hG1.drewS
          cases hu : s1.log.down
          case' true =>
            rw [hu] at dw hdn
            have HU := Lib.hid hu
            clear hu
            refine wp_region_T #[[], [], [], [], [], [], [5], [5], [5], [5, 8]] [5, 8] (fun w' => w'.cell? ⟨r, 1, none⟩ = some (.pointer (some ⟨lr, 0, none⟩)) ∧ w'.cell? ⟨lr, 2, none⟩ = some (.bool true)) 10 rfl (by kernel_rfl) ?_
            (refine wpF (i := 0) rfl (by kernel_rfl) rfl (fun _ _ _ h => h) (fun _ => by go_simp; try rfl) ?_; (try simp only [Act.put, sA, sB, sC]))
            (refine wpF (i := 2) rfl (by kernel_rfl) rfl (fun _ _ _ h => h) (fun _ => by go_simp; try rfl) ?_; (try simp only [Act.put, sA, sB, sC]))
            (refine wpF (i := 3) rfl (by kernel_rfl) rfl (fun _ _ _ h => h) (fun _ => by go_simp; try rfl) ?_; (try simp only [Act.put, sA, sB, sC]))
            (refine wpF (i := 4) rfl (by kernel_rfl) rfl (fun _ _ _ h => h) (fun _ => by go_simp; try rfl) ?_; (try simp only [Act.put, sA, sB, sC]))
            (refine wpAnyT_read (i := 5) rfl (by kernel_rfl) rfl (fun _ _ _ h => h) (by kernel_rfl) (⟨pt, dw⟩) (fun w hS_ => by obtain ⟨s_1, s_2⟩ := hS_; go_simp; try rfl) ?_; (try simp only [Act.put, sA, sB, sC]))
            (refine wpF (i := 6) rfl (by kernel_rfl) rfl (fun _ _ _ h => h) (fun _ => by go_simp; try rfl) ?_; (try simp only [Act.put, sA, sB, sC]))
            (refine wpF (i := 7) rfl (by kernel_rfl) rfl (fun _ _ _ h => h) (fun _ => by go_simp; try rfl) ?_; (try simp only [Act.put, sA, sB, sC]))
            (refine wpAnyT_read (i := 8) rfl (by kernel_rfl) rfl (fun _ _ _ h => h) (by kernel_rfl) (⟨pt, dw⟩) (fun w hS_ => by obtain ⟨s_1, s_2⟩ := hS_; go_simp; try rfl) ?_; (try simp only [Act.put, sA, sB, sC]))
            refine wpAnyT_one (i := 1) rfl (by kernel_rfl) rfl ?_
            intro K_ hK_
            go_wp2_with ((go_at_call 13; refine hdn.mono ?_; rintro e w2 ⟨rfl, rfl⟩))
            refine hK_ _ _ ?_ ?_
            · exact fun _ h_ => h_
            clear hK_ K_
            (try simp only [Act.put, sA, sB, sC])
            (refine wpF (i := 9) rfl (by kernel_rfl) rfl (fun _ _ _ h => h) (fun _ => by go_simp; try rfl) ?_; (try simp only [Act.put, sA, sB, sC]))
            refine wpAnyT_done (by kernel_rfl) ?_ _
            go_wp2_with (first
              | (go_at_call 14; refine (BothS.promised0 (by exact hG1.mono (Below.refl _ _).drew) HU.out).mono ?_; rintro e w2 ⟨rfl, rfl⟩)
              | (go_at_call 15; refine (BothS.slots0 (by exact hG1.mono (Below.refl _ _).drew) HU.out).mono ?_; rintro e w2 ⟨rfl, hb2⟩)
              | (go_at_call 16; refine (BothS.base0 ((hG1.mono (Below.refl _ _).drew).mono hb2) HU.out).mono ?_; rintro e w3 ⟨rfl, rfl⟩))
            go_roundw
            case rel => exact ⟨k + 1, b1, by omega, by omega, by go_num, rfl, s1, st1, rcs1, (hG1.mono (Below.refl _ _).drew).mono hb2, hf1⟩
            case measure => simp [intOf]; omega
          case' false =>
            rw [hu] at dw hdn
            have HU := Lib.hid hu
            have hlim := (hi.st hu).1
            have HLM := Lib.hid hlim
            have HFW := Lib.hid (show s1.st.slots.length ≤ 1048575 by have := hf1.few; omega)
            have HSM := Lib.hid hi.small
            clear hu hlim
            refine wp_region_T #[[], [], [], [], [], [], [5], [5], [5], [5, 8]] [5, 8] (fun w' => w'.cell? ⟨r, 1, none⟩ = some (.pointer (some ⟨lr, 0, none⟩)) ∧ w'.cell? ⟨lr, 2, none⟩ = some (.bool false)) 10 rfl (by kernel_rfl) ?_
            (refine wpF (i := 0) rfl (by kernel_rfl) rfl (fun _ _ _ h => h) (fun _ => by go_simp; try rfl) ?_; (try simp only [Act.put, sA, sB, sC]))
            (refine wpF (i := 2) rfl (by kernel_rfl) rfl (fun _ _ _ h => h) (fun _ => by go_simp; try rfl) ?_; (try simp only [Act.put, sA, sB, sC]))
            (refine wpF (i := 3) rfl (by kernel_rfl) rfl (fun _ _ _ h => h) (fun _ => by go_simp; try rfl) ?_; (try simp only [Act.put, sA, sB, sC]))
            (refine wpF (i := 4) rfl (by kernel_rfl) rfl (fun _ _ _ h => h) (fun _ => by go_simp; try rfl) ?_; (try simp only [Act.put, sA, sB, sC]))
            (refine wpAnyT_read (i := 5) rfl (by kernel_rfl) rfl (fun _ _ _ h => h) (by kernel_rfl) (⟨pt, dw⟩) (fun w hS_ => by obtain ⟨s_1, s_2⟩ := hS_; go_simp; try rfl) ?_; (try simp only [Act.put, sA, sB, sC]))
            (refine wpF (i := 6) rfl (by kernel_rfl) rfl (fun _ _ _ h => h) (fun _ => by go_simp; try rfl) ?_; (try simp only [Act.put, sA, sB, sC]))
            (refine wpF (i := 7) rfl (by kernel_rfl) rfl (fun _ _ _ h => h) (fun _ => by go_simp; try rfl) ?_; (try simp only [Act.put, sA, sB, sC]))
            (refine wpAnyT_read (i := 8) rfl (by kernel_rfl) rfl (fun _ _ _ h => h) (by kernel_rfl) (⟨pt, dw⟩) (fun w hS_ => by obtain ⟨s_1, s_2⟩ := hS_; go_simp; try rfl) ?_; (try simp only [Act.put, sA, sB, sC]))
            refine wpAnyT_one (i := 1) rfl (by kernel_rfl) rfl ?_
            intro K_ hK_
            go_wp2_with ((go_at_call 13; refine hdn.mono ?_; rintro e w2 ⟨rfl, rfl⟩))
            refine hK_ _ _ ?_ ?_
            · exact fun _ h_ => h_
            clear hK_ K_
            (try simp only [Act.put, sA, sB, sC])
            (refine wpF (i := 9) rfl (by kernel_rfl) rfl (fun _ _ _ h => h) (fun _ => by go_simp; try rfl) ?_; (try simp only [Act.put, sA, sB, sC]))
            refine wpAnyT_done (by kernel_rfl) ?_ _
            have hGd : BothS W w1.drew b1 r s1 s1.per s1.log st1 := hG1.mono (Below.refl _ _).drew
            clear hG1 hdn
            go_wp2_with (go_at_call 17; refine (hGd.state HI.out HU.out).mono ?_; rintro e w3 ⟨X3, A3, c3, rfl, hH3, hG3, l3⟩)
            obtain ⟨lr3, hL3⟩ := hG3.logIn
            have pt3 : w3.drew.cell? ⟨r, 1, none⟩ = some (.pointer (some ⟨lr3, 0, none⟩)) := hL3.ptr
            refine wp_region_T #[[], [], [], [], [], [], [], [], [], [], [], [], [], [], [], [], [], [], [], [], [], [], [], [], [], [], [25], [25], [25]] [25] (fun w' => w'.cell? ⟨r, 1, none⟩ = some (.pointer (some ⟨lr3, 0, none⟩)) ∧ True) 29 rfl (by kernel_rfl) ?_
            (refine wpF (i := 0) rfl (by kernel_rfl) rfl (fun _ _ _ h => h) (fun _ => by go_simp; try rfl) ?_; (try simp only [Act.put, sA, sB, sC]))
            (refine wpF (i := 2) rfl (by kernel_rfl) rfl (fun _ _ _ h => h) (fun _ => by go_simp; try rfl) ?_; (try simp only [Act.put, sA, sB, sC]))
            refine wpAnyT_one (i := 1) rfl (by kernel_rfl) rfl ?_
            intro K_ hK_
            go_wp2_with ((go_at_call 14; refine (promised_S (hG3.drewS) HU.out).mono ?_; rintro e w4 ⟨rfl, rfl⟩))
            refine hK_ _ _ ?_ ?_
            · exact fun _ h_ => h_
            clear hK_ K_
            (try simp only [Act.put, sA, sB, sC])
            (refine wpF (i := 3) rfl (by kernel_rfl) rfl (fun _ _ _ h => h) (fun _ => by go_simp; try rfl) ?_; (try simp only [Act.put, sA, sB, sC]))
            (refine wpF (i := 4) rfl (by kernel_rfl) rfl (fun _ _ _ h => h) (fun _ => by go_simp; try rfl) ?_; (try simp only [Act.put, sA, sB, sC]))
            first
            | (refine wpAnyT_skip (i := 5) rfl (by kernel_rfl) (by first | rfl | (simp [Region.wanted, yielded]; done) | (simp [Region.wanted, yielded, undef, *]; done) | fail) (fun _ _ _ h => h) (fun h_ => absurd h_ (by decide)) ?_; (try simp only [Act.put, sA, sB, sC]))
            | (refine wpF (i := 5) rfl (by kernel_rfl) (by first | rfl | (simp [Region.wanted, yielded]; done) | (simp [Region.wanted, yielded, undef, *]; done) | fail) (fun _ _ _ h => h) (fun _ => by go_simp; try rfl) ?_; (try simp only [Act.put, sA, sB, sC]))
            first
            | (refine wpAnyT_skip (i := 7) rfl (by kernel_rfl) (by first | rfl | (simp [Region.wanted, yielded]; done) | (simp [Region.wanted, yielded, undef, *]; done) | fail) (fun _ _ _ h => h) (fun h_ => absurd h_ (by decide)) ?_; (try simp only [Act.put, sA, sB, sC]))
            | (refine wpF (i := 7) rfl (by kernel_rfl) (by first | rfl | (simp [Region.wanted, yielded]; done) | (simp [Region.wanted, yielded, undef, *]; done) | fail) (fun _ _ _ h => h) (fun _ => by go_simp; try rfl) ?_; (try simp only [Act.put, sA, sB, sC]))
            first
            | (refine wpAnyT_skip (i := 6) rfl (by kernel_rfl) (by first | rfl | (simp [Region.wanted, yielded]; done) | (simp [Region.wanted, yielded, undef, *]; done) | fail) (fun _ _ _ h => h) (fun h_ => absurd h_ (by decide)) ?_; (try simp only [Act.put, sA, sB, sC]))
            | (refine wpAnyT_one (i := 6) rfl (by kernel_rfl) (by first | rfl | (simp [Region.wanted, yielded]; done) | (simp [Region.wanted, yielded, undef, *]; done) | fail) ?_
               intro K_ hK_
               go_wp2_with ((go_at_call 16; refine (base_S (hG3.drewS) HU.out).mono ?_; rintro e w4 ⟨rfl, rfl⟩))
               refine hK_ _ _ ?_ ?_
               · exact fun _ h_ => h_
               clear hK_ K_
               (try simp only [Act.put, sA, sB, sC]))
            first
            | (refine wpAnyT_skip (i := 8) rfl (by kernel_rfl) (by first | rfl | (simp [Region.wanted, yielded]; done) | (simp [Region.wanted, yielded, undef, *]; done) | fail) (fun _ _ _ h => h) (fun h_ => absurd h_ (by decide)) ?_; (try simp only [Act.put, sA, sB, sC]))
            | (refine wpAnyT_one (i := 8) rfl (by kernel_rfl) (by first | rfl | (simp [Region.wanted, yielded]; done) | (simp [Region.wanted, yielded, undef, *]; done) | fail) ?_
               intro K_ hK_
               go_wp2_with ((go_at_call 18; refine (hG3.drewB.base HI.out HU.out).mono ?_; rintro e w5 ⟨rfl, hG5, l5⟩; replace pt3 := (l5.cell (p := ⟨r, 1, none⟩) (cell_lt pt3)).trans pt3))
               refine hK_ _ _ ?_ ?_
               · exact fun _ _ => ⟨pt3, trivial⟩
               clear hK_ K_
               (try simp only [Act.put, sA, sB, sC]))
            first
            | (refine wpAnyT_skip (i := 9) rfl (by kernel_rfl) (by first | rfl | (simp [Region.wanted, yielded]; done) | (simp [Region.wanted, yielded, undef, *]; done) | fail) (fun _ _ _ h => h) (fun h_ => absurd h_ (by decide)) ?_; (try simp only [Act.put, sA, sB, sC]))
            | (refine wpF (i := 9) rfl (by kernel_rfl) (by first | rfl | (simp [Region.wanted, yielded]; done) | (simp [Region.wanted, yielded, undef, *]; done) | fail) (fun _ _ _ h => h) (fun _ => by go_simp; try rfl) ?_; (try simp only [Act.put, sA, sB, sC]))
            (refine wpF (i := 10) rfl (by kernel_rfl) rfl (fun _ _ _ h => h) (fun _ => by go_simp; try rfl) ?_; (try simp only [Act.put, sA, sB, sC]))
            (refine wpF (i := 11) rfl (by kernel_rfl) rfl (fun _ _ _ h => h) (fun _ => by go_simp; try rfl) ?_; (try simp only [Act.put, sA, sB, sC]))
            first
            | (refine wpAnyT_skip (i := 12) rfl (by kernel_rfl) (by first | rfl | (simp [Region.wanted, yielded]; done) | (simp [Region.wanted, yielded, undef, *]; done) | fail) (fun _ _ _ h => h) (fun h_ => absurd h_ (by decide)) ?_; (try simp only [Act.put, sA, sB, sC]))
            | (refine wpF (i := 12) rfl (by kernel_rfl) (by first | rfl | (simp [Region.wanted, yielded]; done) | (simp [Region.wanted, yielded, undef, *]; done) | fail) (fun _ _ _ h => h) (fun _ => by go_simp; try rfl) ?_; (try simp only [Act.put, sA, sB, sC]))
            first
            | (refine wpAnyT_skip (i := 14) rfl (by kernel_rfl) (by first | rfl | (simp [Region.wanted, yielded]; done) | (simp [Region.wanted, yielded, undef, *]; done) | fail) (fun _ _ _ h => h) (fun h_ => absurd h_ (by decide)) ?_; (try simp only [Act.put, sA, sB, sC]))
            | (refine wpF (i := 14) rfl (by kernel_rfl) (by first | rfl | (simp [Region.wanted, yielded]; done) | (simp [Region.wanted, yielded, undef, *]; done) | fail) (fun _ _ _ h => h) (fun _ => by go_simp; try rfl) ?_; (try simp only [Act.put, sA, sB, sC]))
            first
            | (refine wpAnyT_skip (i := 13) rfl (by kernel_rfl) (by first | rfl | (simp [Region.wanted, yielded]; done) | (simp [Region.wanted, yielded, undef, *]; done) | fail) (fun _ _ _ h => h) (fun h_ => absurd h_ (by decide)) ?_; (try simp only [Act.put, sA, sB, sC]))
            | (refine wpAnyT_one (i := 13) rfl (by kernel_rfl) (by first | rfl | (simp [Region.wanted, yielded]; done) | (simp [Region.wanted, yielded, undef, *]; done) | fail) ?_
               intro K_ hK_
               go_wp2_with ((go_at_call 20; refine (hG5.has HLM.out (by decide) HFW.out HU.out).mono ?_; rintro e w6 ⟨X6, A6, c6, rfl, hH6, hG6, l6⟩; replace pt3 := (l6.cell (p := ⟨r, 1, none⟩) (cell_lt pt3)).trans pt3; have l36 : Below w3.heap.size w3 w6 := Below.trans (show Below w3.heap.size w3 w5 from ⟨l5.os, l5.tape, l5.output, l5.size, l5.block⟩) (l6.mono l5.size); have hH36 := hH3.below l36))
               refine hK_ _ _ ?_ ?_
               · exact fun _ _ => ⟨pt3, trivial⟩
               clear hK_ K_
               (try simp only [Act.put, sA, sB, sC]))
            first
            | (refine wpAnyT_skip (i := 15) rfl (by kernel_rfl) (by first | rfl | (simp [Region.wanted, yielded]; done) | (simp [Region.wanted, yielded, undef, *]; done) | fail) (fun _ _ _ h => h) (fun h_ => absurd h_ (by decide)) ?_; (try simp only [Act.put, sA, sB, sC]))
            | (refine wpAnyT_one (i := 15) rfl (by kernel_rfl) (by first | rfl | (simp [Region.wanted, yielded]; done) | (simp [Region.wanted, yielded, undef, *]; done) | fail) ?_
               intro K_ hK_
               go_wp2_with ((go_at_call 19; refine (same_B8 w6 _ _ _ _ _ hH6 hH36).mono ?_; rintro e w7 ⟨rfl, l7⟩; have hG7 := hG6.mono l7; replace pt3 := (l7.cell (p := ⟨r, 1, none⟩) (cell_lt pt3)).trans pt3))
               refine hK_ _ _ ?_ ?_
               · exact fun _ _ => ⟨pt3, trivial⟩
               clear hK_ K_
               (try simp only [Act.put, sA, sB, sC]))
            first
            | (refine wpAnyT_skip (i := 16) rfl (by kernel_rfl) (by first | rfl | (simp [Region.wanted, yielded]; done) | (simp [Region.wanted, yielded, undef, *]; done) | fail) (fun _ _ _ h => h) (fun h_ => absurd h_ (by decide)) ?_; (try simp only [Act.put, sA, sB, sC]))
            | (refine wpF (i := 16) rfl (by kernel_rfl) (by first | rfl | (simp [Region.wanted, yielded]; done) | (simp [Region.wanted, yielded, undef, *]; done) | fail) (fun _ _ _ h => h) (fun _ => by go_simp; try rfl) ?_; (try simp only [Act.put, sA, sB, sC]))
            (refine wpF (i := 17) rfl (by kernel_rfl) rfl (fun _ _ _ h => h) (fun _ => by go_simp; try rfl) ?_; (try simp only [Act.put, sA, sB, sC]))
            (refine wpF (i := 18) rfl (by kernel_rfl) rfl (fun _ _ _ h => h) (fun _ => by go_simp; try rfl) ?_; (try simp only [Act.put, sA, sB, sC]))
            first
            | (refine wpAnyT_skip (i := 19) rfl (by kernel_rfl) (by first | rfl | (simp [Region.wanted, yielded]; done) | (simp [Region.wanted, yielded, undef, *]; done) | fail) (fun _ _ _ h => h) (fun h_ => absurd h_ (by decide)) ?_; (try simp only [Act.put, sA, sB, sC]))
            | (refine wpF (i := 19) rfl (by kernel_rfl) (by first | rfl | (simp [Region.wanted, yielded]; done) | (simp [Region.wanted, yielded, undef, *]; done) | fail) (fun _ _ _ h => h) (fun _ => by go_simp; try rfl) ?_; (try simp only [Act.put, sA, sB, sC]))
            first
            | (refine wpAnyT_skip (i := 22) rfl (by kernel_rfl) (by first | rfl | (simp [Region.wanted, yielded]; done) | (simp [Region.wanted, yielded, undef, *]; done) | fail) (fun _ _ _ h => h) (fun h_ => absurd h_ (by decide)) ?_; (try simp only [Act.put, sA, sB, sC]))
            | (refine wpF (i := 22) rfl (by kernel_rfl) (by first | rfl | (simp [Region.wanted, yielded]; done) | (simp [Region.wanted, yielded, undef, *]; done) | fail) (fun _ _ _ h => h) (fun _ => by go_simp; try rfl) ?_; (try simp only [Act.put, sA, sB, sC]))
            first
            | (refine wpAnyT_skip (i := 23) rfl (by kernel_rfl) (by first | rfl | (simp [Region.wanted, yielded]; done) | (simp [Region.wanted, yielded, undef, *]; done) | fail) (fun _ _ _ h => h) (fun h_ => absurd h_ (by decide)) ?_; (try simp only [Act.put, sA, sB, sC]))
            | (refine wpF (i := 23) rfl (by kernel_rfl) (by first | rfl | (simp [Region.wanted, yielded]; done) | (simp [Region.wanted, yielded, undef, *]; done) | fail) (fun _ _ _ h => h) (fun _ => by go_simp; try rfl) ?_; (try simp only [Act.put, sA, sB, sC]))
            first
            | (refine wpAnyT_skip (i := 24) rfl (by kernel_rfl) (by first | rfl | (simp [Region.wanted, yielded]; done) | (simp [Region.wanted, yielded, undef, *]; done) | fail) (fun _ _ _ h => h) (fun h_ => absurd h_ (by decide)) ?_; (try simp only [Act.put, sA, sB, sC]))
            | (refine wpF (i := 24) rfl (by kernel_rfl) (by first | rfl | (simp [Region.wanted, yielded]; done) | (simp [Region.wanted, yielded, undef, *]; done) | fail) (fun _ _ _ h => h) (fun _ => by go_simp; try rfl) ?_; (try simp only [Act.put, sA, sB, sC]))
            first
            | (refine wpAnyT_skip (i := 25) rfl (by kernel_rfl) (by first | rfl | (simp [Region.wanted, yielded]; done) | (simp [Region.wanted, yielded, undef, *]; done) | fail) (fun _ _ _ h => h) (fun _ => ⟨pt3, trivial⟩) ?_; (try simp only [Act.put, sA, sB, sC]))
            | (refine wpAnyT_read (i := 25) rfl (by kernel_rfl) (by first | rfl | (simp [Region.wanted, yielded]; done) | (simp [Region.wanted, yielded, undef, *]; done) | fail) (fun _ _ _ h => h) (by kernel_rfl) (⟨pt3, trivial⟩) (fun w hS_ => by obtain ⟨s_1, s_2⟩ := hS_; go_simp; try rfl) ?_; (try simp only [Act.put, sA, sB, sC]))
            first
            | (refine wpAnyT_skip (i := 20) rfl (by kernel_rfl) (by first | rfl | (simp [Region.wanted, yielded]; done) | (simp [Region.wanted, yielded, undef, *]; done) | fail) (fun _ _ _ h => h) (fun h_ => absurd h_ (by decide)) ?_; (try simp only [Act.put, sA, sB, sC]))
            | (refine wpAnyT_one (i := 20) rfl (by kernel_rfl) (by first | rfl | (simp [Region.wanted, yielded]; done) | (simp [Region.wanted, yielded, undef, *]; done) | fail) ?_
               intro K_ hK_
               go_wp2_with ((go_at_call 21; refine (log_S hG7.live).mono ?_; rintro e w8 ⟨b8, rfl, hl8, l8⟩; have hG8 := hG7.mono l8; replace pt3 := (l8.cell (p := ⟨r, 1, none⟩) (cell_lt pt3)).trans pt3))
               refine hK_ _ _ ?_ ?_
               · exact fun _ _ => ⟨pt3, trivial⟩
               clear hK_ K_
               (try simp only [Act.put, sA, sB, sC]))
            first
            | (refine wpAnyT_skip (i := 21) rfl (by kernel_rfl) (by first | rfl | (simp [Region.wanted, yielded]; done) | (simp [Region.wanted, yielded, undef, *]; done) | fail) (fun _ _ _ h => h) (fun h_ => absurd h_ (by decide)) ?_; (try simp only [Act.put, sA, sB, sC]))
            | (refine wpAnyT_one (i := 21) rfl (by kernel_rfl) (by first | rfl | (simp [Region.wanted, yielded]; done) | (simp [Region.wanted, yielded, undef, *]; done) | fail) ?_
               intro K_ hK_
               go_wp2_with ((go_at_call 22; refine (len_at hl8).mono ?_; rintro e w9 ⟨rfl, l9⟩; have hG9 := hG8.mono l9; replace pt3 := (l9.cell (p := ⟨r, 1, none⟩) (cell_lt pt3)).trans pt3))
               refine hK_ _ _ ?_ ?_
               · exact fun _ _ => ⟨pt3, trivial⟩
               clear hK_ K_
               (try simp only [Act.put, sA, sB, sC]))
            first
            | (refine wpAnyT_skip (i := 26) rfl (by kernel_rfl) (by first | rfl | (simp [Region.wanted, yielded]; done) | (simp [Region.wanted, yielded, undef, *]; done) | fail) (fun _ _ _ h => h) (fun h_ => absurd h_ (by decide)) ?_; (try simp only [Act.put, sA, sB, sC]))
            | (refine wpAnyT_sink (i := 26) rfl (by kernel_rfl) (by first | rfl | (simp [Region.wanted, yielded]; done) | (simp [Region.wanted, yielded, undef, *]; done) | fail) (by kernel_rfl) ?_
               intro K_ hK_
               go_wp2_with ((go_at_call 23; refine ((hG9.logAt pt3).asks (fun T1 H A c ps hl => refLen_B hl HI.out.log (by have := HSM.out; omega))).mono ?_; rintro e w10 ⟨rfl, hG10, l10⟩))
               (try (refine hK_ _ _ ?_; clear hK_ K_))
               (try simp only [Act.put, sA, sB, sC]))
            first
            | (refine wpAnyT_skip (i := 27) rfl (by kernel_rfl) (by first | rfl | (simp [Region.wanted, yielded]; done) | (simp [Region.wanted, yielded, undef, *]; done) | fail) (fun _ _ _ h => h) (fun h_ => absurd h_ (by decide)) ?_; (try simp only [Act.put, sA, sB, sC]))
            | (refine wpF (i := 27) rfl (by kernel_rfl) (by first | rfl | (simp [Region.wanted, yielded]; done) | (simp [Region.wanted, yielded, undef, *]; done) | fail) (fun _ _ _ h => h) (fun _ => by go_simp; try rfl) ?_; (try simp only [Act.put, sA, sB, sC]))
            (refine wpF (i := 28) rfl (by kernel_rfl) rfl (fun _ _ _ h => h) (fun _ => by go_simp; try rfl) ?_; (try simp only [Act.put, sA, sB, sC]))
            refine wpAnyT_done (by kernel_rfl) ?_ _
            go_wp2
            go_roundw
            case rel => exact ⟨k + 1, b1, by omega, by omega, by go_num, rfl, s1, st1, rcs1, hG10, hf1⟩
            case measure => simp [intOf]; omega
      · have hw := works_08 W wr hG.below hh
        have hge : acts.length ≤ k ∨ 50 ≤ k := by omega
        by_cases hk2 : (k : Int) < (acts.length : Int)
        all_goals
          clear hA
          go_wp2_with (go_at_call 24; refine hw.mono ?_; rintro e w3 ⟨rfl, hb3⟩)
          go_ret
          exact ⟨rfl, hb3⟩
end Go.Proofs.YtediidajdpdeiaaGreatDoor
