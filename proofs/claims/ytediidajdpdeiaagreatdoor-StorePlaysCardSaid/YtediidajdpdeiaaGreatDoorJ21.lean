/- The document's store (layer 8): size, New, SameHeld; the walks. -/
import Derived.Test.YtediidajdpdeiaaGreatDoorJ20
import Derived.Test.YtediidajdpdeiaaGreatDoorJ11
import Derived.Test.YtediidajdpdeiaaGreatDoorJ16
import Derived.Shelf.SlMaps.Clone
import Derived.Laws.Externs

namespace Go.Proofs.YtediidajdpdeiaaGreatDoor
open Go.RowKit CrcM
set_option maxRecDepth 100000

theorem size_B8 (w : World) (k : Nat) (hk : k ≤ 1099511627776) : Calls Tryz.prog 122 #[.int .i64 (k : Int)] w (Told w (.int .i64 ((numB k).length : Int))) := by
  have hn := numY_B w none 0 [] (Own.nil _ _ _) (by decide) k hk
  rw [List.nil_append, List.length_nil] at hn
  go_enter Tryz.func122, Tryz.ntmps122
  go_wp2_with (go_at_call 118; refine hn.mono ?_; rintro e w1 ⟨A, c, rfl, ho, hc, hm, hb⟩)
  go_ret
  exact ⟨rfl, hb⟩

/-- WHAT New leaves -/
def RnewDid8 (w : World) (per : Int) (e : Ending) (w' : World) : Prop := ∃ r, e = .returned (.tuple #[.pointer (some ⟨r, 0, none⟩), .int .i64 0]) ∧ IsRef8 (Nw w w') w' r per.toNat (Lg.new per.toNat) St.new ∧ Below w.heap.size w w'
theorem refNew_B8 (w : World) (per : Int) : Calls Tryz.prog 8 #[.int .i64 per] w fun e w' =>
    if 1 ≤ per ∧ per ≤ 1024 then RnewDid8 w per e w' else e = .returned (.tuple #[.pointer none, .int .i64 2]) ∧ w' = w := by
  have hN := refLogNew_B w per
  by_cases hp : 1 ≤ per ∧ per ≤ 1024
  · simp only [if_pos hp] at hN ⊢
    go_enter Tryz.func8, Tryz.ntmps8
    go_wp2_with (go_at_call 48; refine hN.mono ?_; rintro e w1 ⟨lr, A, c, ps, H, rfl, hl, hb⟩)
    go_ret2
    have hb2 := below_new w1 (.cells #[.int .i64 per, .pointer (some ⟨lr, 0, none⟩), .int .i64 0, .int .i64 0, .slice none 0 0] TRS)
    have hB := Blk.new w1 TRS #[.int .i64 per, .pointer (some ⟨lr, 0, none⟩), .int .i64 0, .int .i64 0, .slice none 0 0]
    obtain ⟨n, rfl⟩ : ∃ n : Nat, per = n := ⟨per.toNat, by omega⟩
    refine ⟨_, rfl, ⟨Nw w w1, Non, H, lr, A, c, ps, none, 0, hB, hl.below hb2, ⟨Nat.le_refl _, Nat.zero_le _, [], HeldRw.nil _, .inl ⟨rfl, rfl⟩⟩, fun x hx => ⟨hx.1, Nat.lt_of_lt_of_le hx.2 hb2.size⟩, fun x hx => hx.elim, ⟨hb.size, by simp⟩, fun hx => by have := hx.2; omega, fun hx => hx.elim, fun x _ hx => hx.elim, fun x hx => hx.2⟩, hb.trans (hb2.mono hb.size)⟩
  · simp only [if_neg hp] at hN ⊢
    go_enter Tryz.func8, Tryz.ntmps8
    go_wp2_with (go_at_call 48; refine hN.mono ?_; rintro e w1 ⟨rfl, rfl⟩)
    go_ret2
    exact ⟨rfl, rfl⟩

set_option maxHeartbeats 1000000 in
theorem same_B8 {Xa Xb : Nat → Prop} (w : World) (A : Option Addr) (ca : Nat) (B : Option Addr) (cb : Nat) (H : Slots) (ha : HeldS Xa w A ca H) (hb : HeldS Xb w B cb H) :
    Calls Tryz.prog 19 #[.slice A H.length ca, .slice B H.length cb] w fun e w' => e = .returned (.bool true) ∧ Below w.heap.size w w' := by
  go_enter Tryz.func19, Tryz.ntmps19
  go_wp2
  go_loopw [5] (fun i wr => ∃ k : Nat, k ≤ H.length ∧ i = .int .i64 (k : Int) ∧ Below w.heap.size w wr) (fun i _ => H.length - (intOf i).toNat)
  case atStart => exact ⟨0, Nat.zero_le _, rfl, Below.refl _ _⟩
  case round =>
    obtain ⟨k, hk, rfl, hb9⟩ := hrel
    by_cases hlt : k < H.length
    · obtain ⟨p, hp⟩ : ∃ p, H[k]? = some p := ⟨_, List.getElem?_eq_getElem hlt⟩
      obtain ⟨g1, o1, B1, d1', q1, -, x1, x2, x3, -, -, x4⟩ := (ha.below hb9).at_ hp
      obtain ⟨g2, o2, B2, d2', q2, -, y1', y2', y3, -, -, y4⟩ := (hb.below hb9).at_ hp
      subst q1
      subst q2
      have s1' : (convert 30 9 (.slice B1 p.2.value.length d1')).run Tryz.prog wr.drew = .ok (.string ⟨p.2.value.toArray⟩) wr.drew := HeldS.str (w := wr.drew) x4.drew d1'
      have s2' : (convert 30 9 (.slice B2 p.2.value.length d2')).run Tryz.prog wr.drew = .ok (.string ⟨p.2.value.toArray⟩) wr.drew := HeldS.str (w := wr.drew) y4.drew d2'
      have hlt' : (k : Int) < (H.length : Int) := by omega
      have KL := Lib.hid hlt
      have hHl := ha.len
      have hcap1 := ha.1
      have hcap2 := hb.1
      clear hp x4 y4 ha hb
      obtain ⟨sl, bl, vl⟩ := p
      simp only at x1 x2 x3 y1' y2' y3 s1' s2'
      go_wp2
      refine wp_region_T #[[], [], [], [], [], [], [], [], [], [], [4, 9], [4, 9], [4, 9], [4, 9], [4, 9], [4, 9], [4, 9], [4, 9], [4, 9], [4, 9], [4, 9], [4, 9], [4, 9, 16, 21], [4, 9, 16, 21], [4, 9, 16, 21], [4, 9, 16, 21], [4, 9, 16, 21], [4, 9, 16, 21], [4, 9, 16, 21], [4, 9, 16, 21], [4, 9, 16, 21, 29], [4, 9, 16, 21], [4, 9, 16, 21], [4, 9, 16, 21], [4, 9, 16, 21], [4, 9, 16, 21], [4, 9, 16, 21, 35], [4, 9, 16, 21, 29, 30, 35, 36], [4, 9, 16, 21, 29, 30, 35, 36]] [4, 9, 16, 21, 29, 30, 35, 36] (fun w' => w'.cell? ⟨g1, o1 + k * 3, none⟩ = some (.int .i64 (sl : Int)) ∧ w'.cell? ⟨g1, o1 + k * 3 + 1, none⟩ = some (.int .i64 (bl : Int)) ∧ w'.cell? ⟨g1, o1 + k * 3 + 2, none⟩ = some (.slice B1 vl.length d1') ∧ w'.cell? ⟨g2, o2 + k * 3, none⟩ = some (.int .i64 (sl : Int)) ∧ w'.cell? ⟨g2, o2 + k * 3 + 1, none⟩ = some (.int .i64 (bl : Int)) ∧ w'.cell? ⟨g2, o2 + k * 3 + 2, none⟩ = some (.slice B2 vl.length d2') ∧ (convert 30 9 (.slice B1 vl.length d1')).run Tryz.prog w' = .ok (.string ⟨vl.toArray⟩) w' ∧ (convert 30 9 (.slice B2 vl.length d2')).run Tryz.prog w' = .ok (.string ⟨vl.toArray⟩) w') 39 rfl (by kernel_rfl) ?_
      (refine wpF (i := 0) rfl (by kernel_rfl) rfl (fun _ _ _ h => h) (fun _ => by go_simp; try rfl) ?_; (try simp only [Act.put, sA, sB, sC]))
      (refine wpF (i := 1) rfl (by kernel_rfl) rfl (fun _ _ _ h => h) (fun _ => by go_simp; try rfl) ?_; (try simp only [Act.put, sA, sB, sC]))
      (refine wpF (i := 2) rfl (by kernel_rfl) rfl (fun _ _ _ h => h) (fun _ => by go_simp; try rfl) ?_; (try simp only [Act.put, sA, sB, sC]))
      (refine wpF (i := 3) rfl (by kernel_rfl) rfl (fun _ _ _ h => h) (fun _ => by go_simp; try rfl) ?_; (try simp only [Act.put, sA, sB, sC]))
      (refine wpAnyT_read (i := 4) rfl (by kernel_rfl) rfl (fun _ _ _ h => h) (by kernel_rfl) (⟨x1, x2, x3, y1', y2', y3, s1', s2'⟩) (fun w hS_ => by obtain ⟨s_1, s_2, s_3, s_4, s_5, s_6, s_7, s_8⟩ := hS_; go_simp; try rfl) ?_; (try simp only [Act.put, sA, sB, sC]))
      (refine wpF (i := 5) rfl (by kernel_rfl) rfl (fun _ _ _ h => h) (fun _ => by go_simp; try rfl) ?_; (try simp only [Act.put, sA, sB, sC]))
      (refine wpF (i := 6) rfl (by kernel_rfl) rfl (fun _ _ _ h => h) (fun _ => by go_simp; try rfl) ?_; (try simp only [Act.put, sA, sB, sC]))
      (refine wpF (i := 7) rfl (by kernel_rfl) rfl (fun _ _ _ h => h) (fun _ => by go_simp; try rfl) ?_; (try simp only [Act.put, sA, sB, sC]))
      (refine wpF (i := 8) rfl (by kernel_rfl) rfl (fun _ _ _ h => h) (fun _ => by go_simp; try rfl) ?_; (try simp only [Act.put, sA, sB, sC]))
      (refine wpAnyT_read (i := 9) rfl (by kernel_rfl) rfl (fun _ _ _ h => h) (by kernel_rfl) (⟨x1, x2, x3, y1', y2', y3, s1', s2'⟩) (fun w hS_ => by obtain ⟨s_1, s_2, s_3, s_4, s_5, s_6, s_7, s_8⟩ := hS_; go_simp; try rfl) ?_; (try simp only [Act.put, sA, sB, sC]))
      (refine wpF (i := 10) rfl (by kernel_rfl) rfl (fun _ _ _ h => h) (fun _ => by go_simp; try rfl) ?_; (try simp only [Act.put, sA, sB, sC]))
      (refine wpF (i := 11) rfl (by kernel_rfl) rfl (fun _ _ _ h => h) (fun _ => by go_simp; try rfl) ?_; (try simp only [Act.put, sA, sB, sC]))
      first
      | (refine wpAnyT_skip (i := 12) rfl (by kernel_rfl) (by first | rfl | (simp [Region.wanted, yielded]; done) | (simp [Region.wanted, yielded, undef, *]; done) | fail) (fun _ _ _ h => h) (fun h_ => absurd h_ (by decide)) ?_; (try simp only [Act.put, sA, sB, sC]))
      | (refine wpF (i := 12) rfl (by kernel_rfl) (by first | rfl | (simp [Region.wanted, yielded]; done) | (simp [Region.wanted, yielded, undef, *]; done) | fail) (fun _ _ _ h => h) (fun _ => by go_simp; try rfl) ?_; (try simp only [Act.put, sA, sB, sC]))
      first
      | (refine wpAnyT_skip (i := 13) rfl (by kernel_rfl) (by first | rfl | (simp [Region.wanted, yielded]; done) | (simp [Region.wanted, yielded, undef, *]; done) | fail) (fun _ _ _ h => h) (fun h_ => absurd h_ (by decide)) ?_; (try simp only [Act.put, sA, sB, sC]))
      | (refine wpF (i := 13) rfl (by kernel_rfl) (by first | rfl | (simp [Region.wanted, yielded]; done) | (simp [Region.wanted, yielded, undef, *]; done) | fail) (fun _ _ _ h => h) (fun _ => by go_simp; try rfl) ?_; (try simp only [Act.put, sA, sB, sC]))
      first
      | (refine wpAnyT_skip (i := 14) rfl (by kernel_rfl) (by first | rfl | (simp [Region.wanted, yielded]; done) | (simp [Region.wanted, yielded, undef, *]; done) | fail) (fun _ _ _ h => h) (fun h_ => absurd h_ (by decide)) ?_; (try simp only [Act.put, sA, sB, sC]))
      | (refine wpF (i := 14) rfl (by kernel_rfl) (by first | rfl | (simp [Region.wanted, yielded]; done) | (simp [Region.wanted, yielded, undef, *]; done) | fail) (fun _ _ _ h => h) (fun _ => by go_simp; try rfl) ?_; (try simp only [Act.put, sA, sB, sC]))
      first
      | (refine wpAnyT_skip (i := 15) rfl (by kernel_rfl) (by first | rfl | (simp [Region.wanted, yielded]; done) | (simp [Region.wanted, yielded, undef, *]; done) | fail) (fun _ _ _ h => h) (fun h_ => absurd h_ (by decide)) ?_; (try simp only [Act.put, sA, sB, sC]))
      | (refine wpF (i := 15) rfl (by kernel_rfl) (by first | rfl | (simp [Region.wanted, yielded]; done) | (simp [Region.wanted, yielded, undef, *]; done) | fail) (fun _ _ _ h => h) (fun _ => by go_simp; try rfl) ?_; (try simp only [Act.put, sA, sB, sC]))
      first
      | (refine wpAnyT_skip (i := 16) rfl (by kernel_rfl) (by first | rfl | (simp [Region.wanted, yielded]; done) | (simp [Region.wanted, yielded, undef, *]; done) | fail) (fun _ _ _ h => h) (fun _ => ⟨x1, x2, x3, y1', y2', y3, s1', s2'⟩) ?_; (try simp only [Act.put, sA, sB, sC]))
      | (refine wpAnyT_read (i := 16) rfl (by kernel_rfl) (by first | rfl | (simp [Region.wanted, yielded]; done) | (simp [Region.wanted, yielded, undef, *]; done) | fail) (fun _ _ _ h => h) (by kernel_rfl) (⟨x1, x2, x3, y1', y2', y3, s1', s2'⟩) (fun w hS_ => by obtain ⟨s_1, s_2, s_3, s_4, s_5, s_6, s_7, s_8⟩ := hS_; go_simp; try rfl) ?_; (try simp only [Act.put, sA, sB, sC]))
      first
      | (refine wpAnyT_skip (i := 17) rfl (by kernel_rfl) (by first | rfl | (simp [Region.wanted, yielded]; done) | (simp [Region.wanted, yielded, undef, *]; done) | fail) (fun _ _ _ h => h) (fun h_ => absurd h_ (by decide)) ?_; (try simp only [Act.put, sA, sB, sC]))
      | (refine wpF (i := 17) rfl (by kernel_rfl) (by first | rfl | (simp [Region.wanted, yielded]; done) | (simp [Region.wanted, yielded, undef, *]; done) | fail) (fun _ _ _ h => h) (fun _ => by go_simp; try rfl) ?_; (try simp only [Act.put, sA, sB, sC]))
      first
      | (refine wpAnyT_skip (i := 18) rfl (by kernel_rfl) (by first | rfl | (simp [Region.wanted, yielded]; done) | (simp [Region.wanted, yielded, undef, *]; done) | fail) (fun _ _ _ h => h) (fun h_ => absurd h_ (by decide)) ?_; (try simp only [Act.put, sA, sB, sC]))
      | (refine wpF (i := 18) rfl (by kernel_rfl) (by first | rfl | (simp [Region.wanted, yielded]; done) | (simp [Region.wanted, yielded, undef, *]; done) | fail) (fun _ _ _ h => h) (fun _ => by go_simp; try rfl) ?_; (try simp only [Act.put, sA, sB, sC]))
      first
      | (refine wpAnyT_skip (i := 19) rfl (by kernel_rfl) (by first | rfl | (simp [Region.wanted, yielded]; done) | (simp [Region.wanted, yielded, undef, *]; done) | fail) (fun _ _ _ h => h) (fun h_ => absurd h_ (by decide)) ?_; (try simp only [Act.put, sA, sB, sC]))
      | (refine wpF (i := 19) rfl (by kernel_rfl) (by first | rfl | (simp [Region.wanted, yielded]; done) | (simp [Region.wanted, yielded, undef, *]; done) | fail) (fun _ _ _ h => h) (fun _ => by go_simp; try rfl) ?_; (try simp only [Act.put, sA, sB, sC]))
      first
      | (refine wpAnyT_skip (i := 20) rfl (by kernel_rfl) (by first | rfl | (simp [Region.wanted, yielded]; done) | (simp [Region.wanted, yielded, undef, *]; done) | fail) (fun _ _ _ h => h) (fun h_ => absurd h_ (by decide)) ?_; (try simp only [Act.put, sA, sB, sC]))
      | (refine wpF (i := 20) rfl (by kernel_rfl) (by first | rfl | (simp [Region.wanted, yielded]; done) | (simp [Region.wanted, yielded, undef, *]; done) | fail) (fun _ _ _ h => h) (fun _ => by go_simp; try rfl) ?_; (try simp only [Act.put, sA, sB, sC]))
      first
      | (refine wpAnyT_skip (i := 21) rfl (by kernel_rfl) (by first | rfl | (simp [Region.wanted, yielded]; done) | (simp [Region.wanted, yielded, undef, *]; done) | fail) (fun _ _ _ h => h) (fun _ => ⟨x1, x2, x3, y1', y2', y3, s1', s2'⟩) ?_; (try simp only [Act.put, sA, sB, sC]))
      | (refine wpAnyT_read (i := 21) rfl (by kernel_rfl) (by first | rfl | (simp [Region.wanted, yielded]; done) | (simp [Region.wanted, yielded, undef, *]; done) | fail) (fun _ _ _ h => h) (by kernel_rfl) (⟨x1, x2, x3, y1', y2', y3, s1', s2'⟩) (fun w hS_ => by obtain ⟨s_1, s_2, s_3, s_4, s_5, s_6, s_7, s_8⟩ := hS_; go_simp; try rfl) ?_; (try simp only [Act.put, sA, sB, sC]))
      first
      | (refine wpAnyT_skip (i := 22) rfl (by kernel_rfl) (by first | rfl | (simp [Region.wanted, yielded]; done) | (simp [Region.wanted, yielded, undef, *]; done) | fail) (fun _ _ _ h => h) (fun h_ => absurd h_ (by decide)) ?_; (try simp only [Act.put, sA, sB, sC]))
      | (refine wpF (i := 22) rfl (by kernel_rfl) (by first | rfl | (simp [Region.wanted, yielded]; done) | (simp [Region.wanted, yielded, undef, *]; done) | fail) (fun _ _ _ h => h) (fun _ => by go_simp; try rfl) ?_; (try simp only [Act.put, sA, sB, sC]))
      (refine wpF (i := 23) rfl (by kernel_rfl) rfl (fun _ _ _ h => h) (fun _ => by go_simp; try rfl) ?_; (try simp only [Act.put, sA, sB, sC]))
      (refine wpF (i := 24) rfl (by kernel_rfl) rfl (fun _ _ _ h => h) (fun _ => by go_simp; try rfl) ?_; (try simp only [Act.put, sA, sB, sC]))
      first
      | (refine wpAnyT_skip (i := 25) rfl (by kernel_rfl) (by first | rfl | (simp [Region.wanted, yielded]; done) | (simp [Region.wanted, yielded, undef, *]; done) | fail) (fun _ _ _ h => h) (fun h_ => absurd h_ (by decide)) ?_; (try simp only [Act.put, sA, sB, sC]))
      | (refine wpF (i := 25) rfl (by kernel_rfl) (by first | rfl | (simp [Region.wanted, yielded]; done) | (simp [Region.wanted, yielded, undef, *]; done) | fail) (fun _ _ _ h => h) (fun _ => by go_simp; try rfl) ?_; (try simp only [Act.put, sA, sB, sC]))
      first
      | (refine wpAnyT_skip (i := 26) rfl (by kernel_rfl) (by first | rfl | (simp [Region.wanted, yielded]; done) | (simp [Region.wanted, yielded, undef, *]; done) | fail) (fun _ _ _ h => h) (fun h_ => absurd h_ (by decide)) ?_; (try simp only [Act.put, sA, sB, sC]))
      | (refine wpF (i := 26) rfl (by kernel_rfl) (by first | rfl | (simp [Region.wanted, yielded]; done) | (simp [Region.wanted, yielded, undef, *]; done) | fail) (fun _ _ _ h => h) (fun _ => by go_simp; try rfl) ?_; (try simp only [Act.put, sA, sB, sC]))
      first
      | (refine wpAnyT_skip (i := 27) rfl (by kernel_rfl) (by first | rfl | (simp [Region.wanted, yielded]; done) | (simp [Region.wanted, yielded, undef, *]; done) | fail) (fun _ _ _ h => h) (fun h_ => absurd h_ (by decide)) ?_; (try simp only [Act.put, sA, sB, sC]))
      | (refine wpF (i := 27) rfl (by kernel_rfl) (by first | rfl | (simp [Region.wanted, yielded]; done) | (simp [Region.wanted, yielded, undef, *]; done) | fail) (fun _ _ _ h => h) (fun _ => by go_simp; try rfl) ?_; (try simp only [Act.put, sA, sB, sC]))
      first
      | (refine wpAnyT_skip (i := 28) rfl (by kernel_rfl) (by first | rfl | (simp [Region.wanted, yielded]; done) | (simp [Region.wanted, yielded, undef, *]; done) | fail) (fun _ _ _ h => h) (fun h_ => absurd h_ (by decide)) ?_; (try simp only [Act.put, sA, sB, sC]))
      | (refine wpF (i := 28) rfl (by kernel_rfl) (by first | rfl | (simp [Region.wanted, yielded]; done) | (simp [Region.wanted, yielded, undef, *]; done) | fail) (fun _ _ _ h => h) (fun _ => by go_simp; try rfl) ?_; (try simp only [Act.put, sA, sB, sC]))
      first
      | (refine wpAnyT_skip (i := 29) rfl (by kernel_rfl) (by first | rfl | (simp [Region.wanted, yielded]; done) | (simp [Region.wanted, yielded, undef, *]; done) | fail) (fun _ _ _ h => h) (fun _ => ⟨x1, x2, x3, y1', y2', y3, s1', s2'⟩) ?_; (try simp only [Act.put, sA, sB, sC]))
      | (refine wpAnyT_read (i := 29) rfl (by kernel_rfl) (by first | rfl | (simp [Region.wanted, yielded]; done) | (simp [Region.wanted, yielded, undef, *]; done) | fail) (fun _ _ _ h => h) (by kernel_rfl) (⟨x1, x2, x3, y1', y2', y3, s1', s2'⟩) (fun w hS_ => by obtain ⟨s_1, s_2, s_3, s_4, s_5, s_6, s_7, s_8⟩ := hS_; go_simp; try rfl) ?_; (try simp only [Act.put, sA, sB, sC]))
      first
      | (refine wpAnyT_skip (i := 30) rfl (by kernel_rfl) (by first | rfl | (simp [Region.wanted, yielded]; done) | (simp [Region.wanted, yielded, undef, *]; done) | fail) (fun _ _ _ h => h) (fun _ => ⟨x1, x2, x3, y1', y2', y3, s1', s2'⟩) ?_; (try simp only [Act.put, sA, sB, sC]))
      | (refine wpAnyT_read (i := 30) rfl (by kernel_rfl) (by first | rfl | (simp [Region.wanted, yielded]; done) | (simp [Region.wanted, yielded, undef, *]; done) | fail) (fun _ _ _ h => h) (by kernel_rfl) (⟨x1, x2, x3, y1', y2', y3, s1', s2'⟩) (fun w hS_ => by obtain ⟨s_1, s_2, s_3, s_4, s_5, s_6, s_7, s_8⟩ := hS_; go_simp; try rfl) ?_; (try simp only [Act.put, sA, sB, sC]))
      first
      | (refine wpAnyT_skip (i := 31) rfl (by kernel_rfl) (by first | rfl | (simp [Region.wanted, yielded]; done) | (simp [Region.wanted, yielded, undef, *]; done) | fail) (fun _ _ _ h => h) (fun h_ => absurd h_ (by decide)) ?_; (try simp only [Act.put, sA, sB, sC]))
      | (refine wpF (i := 31) rfl (by kernel_rfl) (by first | rfl | (simp [Region.wanted, yielded]; done) | (simp [Region.wanted, yielded, undef, *]; done) | fail) (fun _ _ _ h => h) (fun _ => by go_simp; try rfl) ?_; (try simp only [Act.put, sA, sB, sC]))
      first
      | (refine wpAnyT_skip (i := 32) rfl (by kernel_rfl) (by first | rfl | (simp [Region.wanted, yielded]; done) | (simp [Region.wanted, yielded, undef, *]; done) | fail) (fun _ _ _ h => h) (fun h_ => absurd h_ (by decide)) ?_; (try simp only [Act.put, sA, sB, sC]))
      | (refine wpF (i := 32) rfl (by kernel_rfl) (by first | rfl | (simp [Region.wanted, yielded]; done) | (simp [Region.wanted, yielded, undef, *]; done) | fail) (fun _ _ _ h => h) (fun _ => by go_simp; try rfl) ?_; (try simp only [Act.put, sA, sB, sC]))
      first
      | (refine wpAnyT_skip (i := 33) rfl (by kernel_rfl) (by first | rfl | (simp [Region.wanted, yielded]; done) | (simp [Region.wanted, yielded, undef, *]; done) | fail) (fun _ _ _ h => h) (fun h_ => absurd h_ (by decide)) ?_; (try simp only [Act.put, sA, sB, sC]))
      | (refine wpF (i := 33) rfl (by kernel_rfl) (by first | rfl | (simp [Region.wanted, yielded]; done) | (simp [Region.wanted, yielded, undef, *]; done) | fail) (fun _ _ _ h => h) (fun _ => by go_simp; try rfl) ?_; (try simp only [Act.put, sA, sB, sC]))
      first
      | (refine wpAnyT_skip (i := 34) rfl (by kernel_rfl) (by first | rfl | (simp [Region.wanted, yielded]; done) | (simp [Region.wanted, yielded, undef, *]; done) | fail) (fun _ _ _ h => h) (fun h_ => absurd h_ (by decide)) ?_; (try simp only [Act.put, sA, sB, sC]))
      | (refine wpF (i := 34) rfl (by kernel_rfl) (by first | rfl | (simp [Region.wanted, yielded]; done) | (simp [Region.wanted, yielded, undef, *]; done) | fail) (fun _ _ _ h => h) (fun _ => by go_simp; try rfl) ?_; (try simp only [Act.put, sA, sB, sC]))
      first
      | (refine wpAnyT_skip (i := 35) rfl (by kernel_rfl) (by first | rfl | (simp [Region.wanted, yielded]; done) | (simp [Region.wanted, yielded, undef, *]; done) | fail) (fun _ _ _ h => h) (fun _ => ⟨x1, x2, x3, y1', y2', y3, s1', s2'⟩) ?_; (try simp only [Act.put, sA, sB, sC]))
      | (refine wpAnyT_read (i := 35) rfl (by kernel_rfl) (by first | rfl | (simp [Region.wanted, yielded]; done) | (simp [Region.wanted, yielded, undef, *]; done) | fail) (fun _ _ _ h => h) (by kernel_rfl) (⟨x1, x2, x3, y1', y2', y3, s1', s2'⟩) (fun w hS_ => by obtain ⟨s_1, s_2, s_3, s_4, s_5, s_6, s_7, s_8⟩ := hS_; go_simp; try rfl) ?_; (try simp only [Act.put, sA, sB, sC]))
      first
      | (refine wpAnyT_skip (i := 36) rfl (by kernel_rfl) (by first | rfl | (simp [Region.wanted, yielded]; done) | (simp [Region.wanted, yielded, undef, *]; done) | fail) (fun _ _ _ h => h) (fun _ => ⟨x1, x2, x3, y1', y2', y3, s1', s2'⟩) ?_; (try simp only [Act.put, sA, sB, sC]))
      | (refine wpAnyT_read (i := 36) rfl (by kernel_rfl) (by first | rfl | (simp [Region.wanted, yielded]; done) | (simp [Region.wanted, yielded, undef, *]; done) | fail) (fun _ _ _ h => h) (by kernel_rfl) (⟨x1, x2, x3, y1', y2', y3, s1', s2'⟩) (fun w hS_ => by obtain ⟨s_1, s_2, s_3, s_4, s_5, s_6, s_7, s_8⟩ := hS_; go_simp; try rfl) ?_; (try simp only [Act.put, sA, sB, sC]))
      first
      | (refine wpAnyT_skip (i := 37) rfl (by kernel_rfl) (by first | rfl | (simp [Region.wanted, yielded]; done) | (simp [Region.wanted, yielded, undef, *]; done) | fail) (fun _ _ _ h => h) (fun h_ => absurd h_ (by decide)) ?_; (try simp only [Act.put, sA, sB, sC]))
      | (refine wpF (i := 37) rfl (by kernel_rfl) (by first | rfl | (simp [Region.wanted, yielded]; done) | (simp [Region.wanted, yielded, undef, *]; done) | fail) (fun _ _ _ h => h) (fun _ => by go_simp; try rfl) ?_; (try simp only [Act.put, sA, sB, sC]))
      (refine wpF (i := 38) rfl (by kernel_rfl) rfl (fun _ _ _ h => h) (fun _ => by go_simp; try rfl) ?_; (try simp only [Act.put, sA, sB, sC]))
      refine wpAnyT_done (by kernel_rfl) ?_ _
      go_wp2
      go_roundw
      case rel => exact ⟨k + 1, by have := KL.out; omega, by go_num, hb9.drew⟩
      case measure => have := KL.out; simp [intOf]; omega
    · obtain rfl : k = H.length := by omega
      clear ha hb
      go_wp2
      go_ret
      exact ⟨rfl, hb9⟩
end Go.Proofs.YtediidajdpdeiaaGreatDoor

/- The document's store (layer 8): Snapshot, the walk. -/
namespace Go.Proofs.YtediidajdpdeiaaGreatDoor
open Go.RowKit CrcM
set_option maxRecDepth 100000

/-- how long the snapshot is, behind k slots -/
def longB (st : St) (k : Nat) : Nat := (numB st.promised).length + (numB st.base).length + (numB st.slots.length).length + ((st.slots.take k).map slotB).flatten.length
theorem longB_end (st : St) : longB st st.slots.length = (snapB st).length := by
  unfold longB snapB
  rw [List.take_length]
  simp only [List.length_append]
  omega
theorem longB_le (st : St) (k : Nat) : longB st k ≤ (snapB st).length := by
  rw [← longB_end]
  unfold longB
  rw [List.take_length]
  have e : (st.slots.map slotB).flatten.length = ((st.slots.take k).map slotB).flatten.length + ((st.slots.drop k).map slotB).flatten.length := by
    rw [← List.length_append, ← List.flatten_append, ← List.map_append, List.take_append_drop]
  omega
theorem longB_succ (st : St) {k : Nat} {p : Nat × Hd} (h : st.slots[k]? = some p) : longB st (k + 1) = longB st k + (numB p.1).length + (numB p.2.ballot).length + (numB p.2.value.length).length + p.2.value.length := by
  unfold longB
  rw [List.take_add_one, h, List.map_append, List.flatten_append, List.length_append]
  have : ((Option.toList (some p)).map slotB).flatten.length = (numB p.1).length + (numB p.2.ballot).length + (numB p.2.value.length).length + p.2.value.length := by
    simp only [Option.toList_some, List.map_cons, List.map_nil, List.flatten_cons, List.flatten_nil, List.append_nil]
    unfold slotB
    simp only [List.length_append]
    omega
  omega
theorem HeldS.bound {X : Nat → Prop} {w : World} {A : Option Addr} {c : Nat} {H : Slots} (h : HeldS X w A c H) : HeldS (fun x => X x ∧ x < w.heap.size) w A c H := by
  obtain ⟨h1, h2, xs, h3, h4⟩ := h
  refine ⟨h1, h2, xs, h3, h4.imp_right ?_⟩
  rintro ⟨g, o, cur, e, hg, hc, hj⟩
  exact ⟨g, o, cur, e, ⟨hg, (Array.getElem?_eq_some_iff.1 hc).1⟩, hc, hj⟩

section
variable {T T1 T2 H : Nat → Prop} {w w' : World} {r lr : Nat} {A1 : Option Addr} {c1 : Nat} {ps : List Nat} {A2 : Option Addr} {c2 : Nat} {per : Nat} {s : So} {st0 : St} {rcs : List Rc} {m n : Nat}
theorem RefO.mono {T' : Nat → Prop} {L : Lg} {st : St} {per : Nat} (h : RefO T T1 T2 H w r lr A1 c1 ps A2 c2 per L st) (hs : ∀ x, T x → T' x) (hl : ∀ x, T' x → x < w.heap.size) : RefO T' T1 T2 H w r lr A1 c1 ps A2 c2 per L st :=
  ⟨h.blk, h.log, h.snap, fun x hx => hs x (h.t1 x hx), fun x hx => hs x (h.t2 x hx), hs r h.hr, h.d1, h.d2, h.d12, hl⟩
/-- what a snapshot writes -/
theorem RefO.snapped {w5 w6 w7 : World} {X : Nat → Prop} {A : Option Addr} {c : Nat} {st : St} {lr' : Nat} {A' : Option Addr} {c' : Nat} {ps' : List Nat} {H' : Nat → Prop} {L L' : Lg}
    (h : RefO T T1 T2 H w5 r lr A1 c1 ps A2 c2 per L st0) (hX : HeldS X w5 A c st.slots) (hrX : ¬ X r)
    (e6 : w6 = ((w5.setCell ⟨r, 2, none⟩ (.int .i64 (st.promised : Int))).setCell ⟨r, 3, none⟩ (.int .i64 (st.base : Int))).setCell ⟨r, 4, none⟩ (.slice A st.slots.length c))
    (hl : RlogO (Nw w6 w7) H' w7 lr' A' c' ps' L'.ref) (hb7 : Below w6.heap.size w6 w7) :
    Fr (fun x => x = r) w5 (w7.setCell ⟨r, 1, none⟩ (.pointer (some ⟨lr', 0, none⟩))) ∧ RefO (fun x => T x ∨ X x ∧ x < w5.heap.size ∨ Nw w6 w7 x) (Nw w6 w7) (fun x => X x ∧ x < w5.heap.size) H' (w7.setCell ⟨r, 1, none⟩ (.pointer (some ⟨lr', 0, none⟩))) r lr' A' c' ps' A c per L' st := by
  have hnb : ¬ IsB w5 r := h.blk.notB (by decide)
  have f6 : Fr (fun x => x = r) w5 w6 := by
    rw [e6]
    exact (((Fr.refl (fun x => x = r) w5).setCell (p := ⟨r, 2, none⟩) (.inl rfl) hnb _).setCell (p := ⟨r, 3, none⟩) (.inl rfl) hnb _).setCell (p := ⟨r, 4, none⟩) (.inl rfl) hnb _
  have s6 : w6.heap.size = w5.heap.size := by rw [e6]; simp [World.setCell]
  have f7 : Fr (fun x => x = r) w5 w7 := f6.trans' (Fr.of_below (S := Non) hb7) (fun _ _ h => h.elim)
  have hB6 : Blk w6 r TRS #[.int .i64 (per : Int), .pointer (some ⟨lr, 0, none⟩), .int .i64 (st.promised : Int), .int .i64 (st.base : Int), .slice A st.slots.length c] := by
    rw [e6]
    simpa using ((h.blk.set 2 (.int .i64 (st.promised : Int))).set 3 (.int .i64 (st.base : Int))).set 4 (.slice A st.slots.length c)
  have hB7 := hB6.below' hb7
  have hB8 : Blk (w7.setCell ⟨r, 1, none⟩ (.pointer (some ⟨lr', 0, none⟩))) r TRS #[.int .i64 (per : Int), .pointer (some ⟨lr', 0, none⟩), .int .i64 (st.promised : Int), .int .i64 (st.base : Int), .slice A st.slots.length c] := by
    simpa using hB7.set 1 (.pointer (some ⟨lr', 0, none⟩))
  have f8 : Fr (fun x => x = r) w5 (w7.setCell ⟨r, 1, none⟩ (.pointer (some ⟨lr', 0, none⟩))) := f7.setCell (p := ⟨r, 1, none⟩) (.inl rfl) hnb _
  have f78 : Fr (fun x => x = r) w7 (w7.setCell ⟨r, 1, none⟩ (.pointer (some ⟨lr', 0, none⟩))) := (Fr.refl (fun x => x = r) w7).setCell (p := ⟨r, 1, none⟩) (.inl rfl) (hB7.notB (by decide)) _
  have hr5 : r < w5.heap.size := h.blk.lt
  have hNr : ¬ Nw w6 w7 r := fun q => by have := q.1; omega
  refine ⟨f8, hB8, hl.fr f78 (fun x hx e => (hNr (e ▸ hx)).elim), hX.bound.xk (fun x hx => f8.out x hx.2 (fun e => hrX (e ▸ hx.1))) f8.byt, fun x hx => .inr (.inr hx), fun x hx => .inr (.inl hx), .inl h.hr, hNr, fun hx => hrX hx.1, fun x hx hy => by have := hx.1; have := hy.2; omega, fun x hx => ?_⟩
  have s8 : (w7.setCell ⟨r, 1, none⟩ (.pointer (some ⟨lr', 0, none⟩))).heap.size = w7.heap.size := by simp [World.setCell]
  have := hb7.size
  rcases hx with hx | hx | hx
  · have := h.lt x hx; omega
  · have := hx.2; omega
  · have := hx.2; omega
set_option maxHeartbeats 2000000 in
theorem refSnapshot_B8 (h : RefO T T1 T2 H w r lr A1 c1 ps A2 c2 s.per s.log st0) (hi : s.inv m n st0 rcs) (hd : s.log.down = false) :
    Calls Tryz.prog 67 #[.pointer (some ⟨r, 0, none⟩)] w (RefDid8 T w r s.per (Lg.new s.per) s.st 0) := by
  obtain ⟨b0, b1, b2, b3, b4, ld⟩ := h.facts
  rw [hd] at ld
  obtain ⟨s1, e1, i1, d1, -, t1, l1⟩ := hi.sync hd
  have hSy := refLogSync_B h.log hi.log
  have hbig := snapB_len hi hd
  have hst := hi.st hd
  have hsm := hi.small
  have hper := hi.per
  have hok := hst.1.ok
  have hpr := hok.pr
  have hba := hok.ba
  have hlt0 := h.lt
  have hlen : s.st.slots.length ≤ 1099511627776 := by omega
  have hr0 := h.hr
  have q1 := numB_10 (n := s.st.promised) (by omega)
  have q2 := numB_10 (n := s.st.base) (by omega)
  have q3 := numB_10 (n := s.st.slots.length) (by omega)
  have wz1 : IntKind.i64.wrap (((numB s.st.promised).length : Int) + ((numB s.st.base).length : Int)) = ((numB s.st.promised).length : Int) + ((numB s.st.base).length : Int) := by rw [IntKind.wrap_i64]; omega
  have wz2 : IntKind.i64.wrap (((numB s.st.promised).length : Int) + ((numB s.st.base).length : Int) + ((numB s.st.slots.length).length : Int)) = ((numB s.st.promised).length : Int) + ((numB s.st.base).length : Int) + ((numB s.st.slots.length).length : Int) := by rw [IntKind.wrap_i64]; omega
  have L1 := Lib.hid l1
  have T1' := Lib.hid t1
  clear e1 l1 t1
  go_enter Tryz.func67, Tryz.ntmps67
  go_wp2_with (first
    | (go_at_call 66; refine hSy.mono ?_; rintro e w1 ⟨rfl, hl1, f1⟩; obtain ⟨hr1, g1⟩ := h.turn hl1 f1; rw [← L1.out] at hr1; obtain ⟨T1a, T2a, Ha, lra, A1a, c1a, psa, A2a, c2a, h1⟩ := hr1; have hall := all_S8 h1 i1 d1; rw [T1'.out] at hall; clear hSy hl1)
    | (go_at_call 76; refine hall.mono ?_; rintro e w2 ⟨X, A, c, rfl, hH, hX, hb2⟩; have hbr := Below.refl w2.heap.size w2; clear hall)
    | (go_at_call 122; refine (size_B8 _ _ (by first | exact hpr | exact hba | exact hlen)).mono ?_; rintro e w3 ⟨rfl, hb3⟩; have hbr := hbr.trans (hb3.mono hbr.size)))
  go_loopw [6, 7] (fun lv iv wr => ∃ k N : Nat, k ≤ s.st.slots.length ∧ iv = .int .i64 (k : Int) ∧ lv = .int .i64 (N : Int) ∧ Hid (N = longB s.st k) ∧ Below w3.heap.size w3 wr) (fun _ iv _ => s.st.slots.length - (intOf iv).toNat)
  case atStart => exact ⟨0, (numB s.st.promised).length + (numB s.st.base).length + (numB s.st.slots.length).length, Nat.zero_le _, rfl, by go_num, Lib.hid (by unfold longB; simp), Below.refl _ _⟩
  case round =>
    obtain ⟨k, N, hk, rfl, rfl, hN, hb9⟩ := hrel
    have hHl := hH.len
    have hcap := hH.1
    clear wz1 wz2
    have hN2 : N ≤ 65536 := by rw [hN.out]; exact Nat.le_trans (longB_le _ _) hbig
    by_cases hlt : k < s.st.slots.length
    · obtain ⟨p, hp⟩ : ∃ p, s.st.slots[k]? = some p := ⟨_, List.getElem?_eq_getElem hlt⟩
      obtain ⟨g, o, B, cb, q1', -, x1, x2, x3, -, -, -⟩ := ((hH.below hbr).below hb9).at_ hp
      subst q1'
      have hlt' : (k : Int) < (s.st.slots.length : Int) := by omega
      have KL := Lib.hid hlt
      have hS := longB_succ s.st hp
      rw [← hN.out] at hS
      have hS2 : N + (numB p.1).length + (numB p.2.ballot).length + (numB p.2.value.length).length + p.2.value.length ≤ 65536 := by rw [← hS]; exact Nat.le_trans (longB_le _ _) hbig
      have HS := Lib.hid hS
      obtain ⟨o1, o2, o3⟩ := hok.all p (List.mem_of_getElem? hp)
      have o4 : p.2.value.length ≤ 1099511627776 := by omega
      obtain ⟨sl, bl, vl⟩ := p
      simp only at x1 x2 x3 o1 o2 o3 o4 hS2
      have hbq := hb9.drew
      have v1 : IntKind.i64.wrap ((N : Int) + ((numB sl).length : Int)) = (N : Int) + ((numB sl).length : Int) := by rw [IntKind.wrap_i64]; omega
      have v2 : IntKind.i64.wrap ((N : Int) + ((numB sl).length : Int) + ((numB bl).length : Int)) = (N : Int) + ((numB sl).length : Int) + ((numB bl).length : Int) := by rw [IntKind.wrap_i64]; omega
      have v3 : IntKind.i64.wrap ((N : Int) + ((numB sl).length : Int) + ((numB bl).length : Int) + ((numB vl.length).length : Int)) = (N : Int) + ((numB sl).length : Int) + ((numB bl).length : Int) + ((numB vl.length).length : Int) := by rw [IntKind.wrap_i64]; omega
      have v4 : IntKind.i64.wrap ((N : Int) + ((numB sl).length : Int) + ((numB bl).length : Int) + ((numB vl.length).length : Int) + (vl.length : Int)) = (N : Int) + ((numB sl).length : Int) + ((numB bl).length : Int) + ((numB vl.length).length : Int) + (vl.length : Int) := by rw [IntKind.wrap_i64]; omega
      clear hp hS hH hlt hS2 hN
      go_wp2
      refine wp_region_T #[[], [], [], [], [], [], [5], [5], [], [], [], [], [], [5, 12], [5, 12], [], [], [], [], [], [19], [5, 12, 19], [5, 12, 19], [], [], [], [], [], [27], [5, 12, 19, 27], [5, 12, 19, 27]] [5, 12, 19, 27] (fun w' => w'.cell? ⟨g, o + k * 3, none⟩ = some (.int .i64 (sl : Int)) ∧ w'.cell? ⟨g, o + k * 3 + 1, none⟩ = some (.int .i64 (bl : Int)) ∧ w'.cell? ⟨g, o + k * 3 + 2, none⟩ = some (.slice B vl.length cb)) 31 rfl (by kernel_rfl) ?_
      (refine wpF (i := 0) rfl (by kernel_rfl) rfl (fun _ _ _ h => h) (fun _ => by go_simp; try rfl) ?_; (try simp only [Act.put, sA, sB, sC]))
      (refine wpF (i := 1) rfl (by kernel_rfl) rfl (fun _ _ _ h => h) (fun _ => by go_simp; try rfl) ?_; (try simp only [Act.put, sA, sB, sC]))
      (refine wpF (i := 2) rfl (by kernel_rfl) rfl (fun _ _ _ h => h) (fun _ => by go_simp; try rfl) ?_; (try simp only [Act.put, sA, sB, sC]))
      (refine wpF (i := 3) rfl (by kernel_rfl) rfl (fun _ _ _ h => h) (fun _ => by go_simp; try rfl) ?_; (try simp only [Act.put, sA, sB, sC]))
      (refine wpF (i := 4) rfl (by kernel_rfl) rfl (fun _ _ _ h => h) (fun _ => by go_simp; try rfl) ?_; (try simp only [Act.put, sA, sB, sC]))
      (refine wpAnyT_read (i := 5) rfl (by kernel_rfl) rfl (fun _ _ _ h => h) (by kernel_rfl) (⟨x1, x2, x3⟩) (fun w hS_ => by obtain ⟨s_1, s_2, s_3⟩ := hS_; go_simp; try rfl) ?_; (try simp only [Act.put, sA, sB, sC]))
      (refine wpF (i := 8) rfl (by kernel_rfl) rfl (fun _ _ _ h => h) (fun _ => by go_simp; try rfl) ?_; (try simp only [Act.put, sA, sB, sC]))
      (refine wpF (i := 9) rfl (by kernel_rfl) rfl (fun _ _ _ h => h) (fun _ => by go_simp; try rfl) ?_; (try simp only [Act.put, sA, sB, sC]))
      (refine wpF (i := 10) rfl (by kernel_rfl) rfl (fun _ _ _ h => h) (fun _ => by go_simp; try rfl) ?_; (try simp only [Act.put, sA, sB, sC]))
      (refine wpF (i := 11) rfl (by kernel_rfl) rfl (fun _ _ _ h => h) (fun _ => by go_simp; try rfl) ?_; (try simp only [Act.put, sA, sB, sC]))
      (refine wpAnyT_read (i := 12) rfl (by kernel_rfl) rfl (fun _ _ _ h => h) (by kernel_rfl) (⟨x1, x2, x3⟩) (fun w hS_ => by obtain ⟨s_1, s_2, s_3⟩ := hS_; go_simp; try rfl) ?_; (try simp only [Act.put, sA, sB, sC]))
      (refine wpF (i := 15) rfl (by kernel_rfl) rfl (fun _ _ _ h => h) (fun _ => by go_simp; try rfl) ?_; (try simp only [Act.put, sA, sB, sC]))
      (refine wpF (i := 16) rfl (by kernel_rfl) rfl (fun _ _ _ h => h) (fun _ => by go_simp; try rfl) ?_; (try simp only [Act.put, sA, sB, sC]))
      (refine wpF (i := 17) rfl (by kernel_rfl) rfl (fun _ _ _ h => h) (fun _ => by go_simp; try rfl) ?_; (try simp only [Act.put, sA, sB, sC]))
      (refine wpF (i := 18) rfl (by kernel_rfl) rfl (fun _ _ _ h => h) (fun _ => by go_simp; try rfl) ?_; (try simp only [Act.put, sA, sB, sC]))
      (refine wpAnyT_read (i := 19) rfl (by kernel_rfl) rfl (fun _ _ _ h => h) (by kernel_rfl) (⟨x1, x2, x3⟩) (fun w hS_ => by obtain ⟨s_1, s_2, s_3⟩ := hS_; go_simp; try rfl) ?_; (try simp only [Act.put, sA, sB, sC]))
      (refine wpF (i := 20) rfl (by kernel_rfl) rfl (fun _ _ _ h => h) (fun _ => by go_simp; try rfl) ?_; (try simp only [Act.put, sA, sB, sC]))
      (refine wpF (i := 23) rfl (by kernel_rfl) rfl (fun _ _ _ h => h) (fun _ => by go_simp; try rfl) ?_; (try simp only [Act.put, sA, sB, sC]))
      (refine wpF (i := 24) rfl (by kernel_rfl) rfl (fun _ _ _ h => h) (fun _ => by go_simp; try rfl) ?_; (try simp only [Act.put, sA, sB, sC]))
      (refine wpF (i := 25) rfl (by kernel_rfl) rfl (fun _ _ _ h => h) (fun _ => by go_simp; try rfl) ?_; (try simp only [Act.put, sA, sB, sC]))
      (refine wpF (i := 26) rfl (by kernel_rfl) rfl (fun _ _ _ h => h) (fun _ => by go_simp; try rfl) ?_; (try simp only [Act.put, sA, sB, sC]))
      (refine wpAnyT_read (i := 27) rfl (by kernel_rfl) rfl (fun _ _ _ h => h) (by kernel_rfl) (⟨x1, x2, x3⟩) (fun w hS_ => by obtain ⟨s_1, s_2, s_3⟩ := hS_; go_simp; try rfl) ?_; (try simp only [Act.put, sA, sB, sC]))
      (refine wpF (i := 28) rfl (by kernel_rfl) rfl (fun _ _ _ h => h) (fun _ => by go_simp; try rfl) ?_; (try simp only [Act.put, sA, sB, sC]))
      refine wpAnyT_one (i := 6) rfl (by kernel_rfl) rfl ?_
      intro K_ hK_
      go_wp2_with ((go_at_call 122; refine (size_B8 _ _ (by first | exact o1 | exact o2 | exact o4)).mono ?_; rintro e wA ⟨rfl, hbA⟩; have x1 := (hbA.cell (p := ⟨g, o + k * 3, none⟩) (cell_lt x1)).trans x1; have x2 := (hbA.cell (p := ⟨g, o + k * 3 + 1, none⟩) (cell_lt x2)).trans x2; have x3 := (hbA.cell (p := ⟨g, o + k * 3 + 2, none⟩) (cell_lt x3)).trans x3; have hbq := hbq.trans (hbA.mono hbq.size)))
      refine hK_ _ _ ?_ ?_
      · exact fun _ _ => ⟨x1, x2, x3⟩
      clear hK_ K_
      (try simp only [Act.put, sA, sB, sC])
      (refine wpF (i := 7) rfl (by kernel_rfl) rfl (fun _ _ _ h => h) (fun _ => by go_simp; try rfl) ?_; (try simp only [Act.put, sA, sB, sC]))
      refine wpAnyT_one (i := 13) rfl (by kernel_rfl) rfl ?_
      intro K_ hK_
      go_wp2_with ((go_at_call 122; refine (size_B8 _ _ (by first | exact o1 | exact o2 | exact o4)).mono ?_; rintro e wA ⟨rfl, hbA⟩; have x1 := (hbA.cell (p := ⟨g, o + k * 3, none⟩) (cell_lt x1)).trans x1; have x2 := (hbA.cell (p := ⟨g, o + k * 3 + 1, none⟩) (cell_lt x2)).trans x2; have x3 := (hbA.cell (p := ⟨g, o + k * 3 + 2, none⟩) (cell_lt x3)).trans x3; have hbq := hbq.trans (hbA.mono hbq.size)))
      refine hK_ _ _ ?_ ?_
      · exact fun _ _ => ⟨x1, x2, x3⟩
      clear hK_ K_
      (try simp only [Act.put, sA, sB, sC])
      (refine wpF (i := 14) rfl (by kernel_rfl) rfl (fun _ _ _ h => h) (fun _ => by go_simp; try rfl) ?_; (try simp only [Act.put, sA, sB, sC]))
      refine wpAnyT_one (i := 21) rfl (by kernel_rfl) rfl ?_
      intro K_ hK_
      go_wp2_with ((go_at_call 122; refine (size_B8 _ _ (by first | exact o1 | exact o2 | exact o4)).mono ?_; rintro e wA ⟨rfl, hbA⟩; have x1 := (hbA.cell (p := ⟨g, o + k * 3, none⟩) (cell_lt x1)).trans x1; have x2 := (hbA.cell (p := ⟨g, o + k * 3 + 1, none⟩) (cell_lt x2)).trans x2; have x3 := (hbA.cell (p := ⟨g, o + k * 3 + 2, none⟩) (cell_lt x3)).trans x3; have hbq := hbq.trans (hbA.mono hbq.size)))
      refine hK_ _ _ ?_ ?_
      · exact fun _ _ => ⟨x1, x2, x3⟩
      clear hK_ K_
      (try simp only [Act.put, sA, sB, sC])
      (refine wpF (i := 22) rfl (by kernel_rfl) rfl (fun _ _ _ h => h) (fun _ => by go_simp; try rfl) ?_; (try simp only [Act.put, sA, sB, sC]))
      (refine wpF (i := 29) rfl (by kernel_rfl) rfl (fun _ _ _ h => h) (fun _ => by go_simp; try rfl) ?_; (try simp only [Act.put, sA, sB, sC]))
      (refine wpF (i := 30) rfl (by kernel_rfl) rfl (fun _ _ _ h => h) (fun _ => by go_simp; try rfl) ?_; (try simp only [Act.put, sA, sB, sC]))
      refine wpAnyT_done (by kernel_rfl) ?_ _
      go_wp2
      go_roundw
      case rel => exact ⟨k + 1, N + (numB sl).length + (numB bl).length + (numB vl.length).length + vl.length, by have := KL.out; omega, by go_num, by go_num, Lib.hid HS.out.symm, hbq⟩
      case measure => have := KL.out; simp [intOf]; omega
    · obtain rfl : k = s.st.slots.length := by omega
      have gN : decide (65536 < N) = false := decide_eq_false (by omega)
      have gN2 : ¬ (65536 : Int) < (N : Int) := by omega
      have hBr := ((h1.blk.below' hb2).below' hbr).below' hb9
      obtain ⟨y0, y1, y2, y3, y4, -⟩ := ((((h1.below hb2).below hbr).below hb9)).facts
      have z1 := hBr.frozen 1
      have z2 := hBr.frozen 2
      have z3 := hBr.frozen 3
      have z4 := hBr.frozen 4
      have hnew := fun (w' : World) => refLogNew_B w' (s.per : Int)
      simp only [show (1 ≤ (s.per : Int) ∧ (s.per : Int) ≤ 1024) from by omega] at hnew
      clear hN2 hlt
      have hB6 := ((hBr.set 2 (.int .i64 (s.st.promised : Int))).set 3 (.int .i64 (s.st.base : Int))).set 4 (.slice A s.st.slots.length c)
      go_wp2_with (go_at_call 48; refine (hnew _).mono ?_; rintro e w7 ⟨lr', A', c', ps', H', rfl, hl7, hb7⟩; have hB7 := hB6.below' hb7; have uc1 := hB7.cell 1 (v := .pointer (some ⟨lra, 0, none⟩)) rfl; have uf1 := hB7.frozen 1)
      go_ret
      have hr5 := ((h1.below hb2).below hbr).below hb9
      have hXr : ¬ X r := fun hx => (hX r hx).elim h1.d2 (fun q => by have := h1.blk.lt; omega)
      rw [show ((s.per : Int)).toNat = s.per from Int.toNat_natCast _] at hl7
      obtain ⟨k1, k2⟩ := hr5.snapped ((hH.below hbr).below hb9) hXr rfl hl7 hb7
      have hb1r := (hb2.trans (hbr.mono hb2.size)).trans (hb9.mono (Nat.le_trans hb2.size hbr.size))
      have hs1 := g1.size
      have hs2 := hb1r.size
      have hs3 := k1.size
      have hs67 : wr.heap.size = (((wr.setCell ⟨r, 2, none⟩ (.int .i64 (s.st.promised : Int))).setCell ⟨r, 3, none⟩ (.int .i64 (s.st.base : Int))).setCell ⟨r, 4, none⟩ (.slice A s.st.slots.length c)).heap.size := by simp [World.setCell]
      refine ⟨rfl, ⟨_, _, _, _, _, _, _, _, _, k2.mono (fun x hx => ?_) (fun x hx => ?_)⟩, (g1.trans' (Fr.of_below (S := Non) hb1r) (fun _ _ h => h.elim)).trans' k1 (fun x _ e => e ▸ hr0)⟩
      · have hxl := k2.lt x hx
        rcases hx with hx | hx | hx
        · exact hx.imp_right fun q => ⟨q.1, hxl⟩
        · rcases hX x hx.1 with q | q
          · exact (h1.t2 x q).imp_right fun q => ⟨q.1, hxl⟩
          · exact .inr ⟨by omega, hxl⟩
        · exact .inr ⟨by have := hx.1; omega, hxl⟩
      · rcases hx with hx | hx
        · exact Nat.lt_of_lt_of_le (hlt0 x hx) (by omega)
        · exact hx.2
end
end Go.Proofs.YtediidajdpdeiaaGreatDoor

/- A store's Copy (layer 8): the walk. -/
namespace Go.Proofs.YtediidajdpdeiaaGreatDoor
open Go.RowKit CrcM
set_option maxRecDepth 100000

theorem mapsClone_B (w : World) (b : Nat) (es : Array MapEntry) (clock : Nat) (hb : w.heap[b]? = some (.map es clock)) :
    Calls Tryz.prog 52 #[.map (some b)] w fun e w' => e = .returned (.map (some w.heap.size)) ∧ w' = w.alloc (.map es clock) := by
  have hq := fun w => run_eql_map_nil_sl (P := Tryz.prog) w TMp TIn THd (some b) Tryz.underlying98
  go_enter Tryz.func52, Tryz.ntmps52
  go_wp2
  rw [run_callFunc_extern Tryz.func104 (by kernel_rfl) (by kernel_rfl) (by kernel_rfl) (e := Extern.MapsClone.clone) (by kernel_rfl), run_maps_clone_sl w TMp hb]
  simp only [Result.andThen]
  rw [Oper.upon_value]
  go_wp2
  rw [run_typeAssert_map_sl _ TMp 20 _ _ _ Tryz.underlying98]
  simp only [Result.andThen]
  rw [Oper.upon_value]
  go_wp2
  go_ret
  exact ⟨rfl, rfl⟩
theorem slotsClone {w : World} {b : Nat} {M : Slots} (h : SlotsAt w b M) :
    Calls Tryz.prog 52 #[.map (some b)] w fun e w' => e = .returned (.map (some w.heap.size)) ∧ SlotsAt w' w.heap.size M ∧ w'.heap.size = w.heap.size + 1 ∧ Below w.heap.size w w' := by
  obtain ⟨Z, ⟨es, clock, hb, F, hs, hD⟩, h2, h3, h4⟩ := h
  refine (mapsClone_B w b es clock hb).mono ?_
  rintro e w' ⟨rfl, rfl⟩
  have hB : Below w.heap.size w (w.alloc (.map es clock)) := (Below.refl _ w).alloc (Nat.le_refl _) _
  exact ⟨rfl, ⟨Z, ⟨es, clock, heap_alloc_new _ _, F, hs, hD⟩, h2, fun z hz => (h3 z hz).bk (BK.below hB), h4⟩, by simp, hB⟩
/-- a copy's blocks, each for itself -/
theorem So.copied {w w1 w2 w3 : World} {lb db : Nat} {Ad : Option Addr} {cd : Nat} {s : So} (hper : 1 ≤ s.per ∧ s.per ≤ 1024) (hok : s.st.ok) (hl1 : LogAt (Nw w w1) w1 lb s.log) (hb1 : Below w.heap.size w w1) (hd2 : DiskAt (Nw w1 w2) w2 db Ad cd s.snap) (hb2 : Below w1.heap.size w1 w2)
    (hm3 : SlotsAt w3 w2.heap.size s.st.slots) (hz3 : w3.heap.size = w2.heap.size + 1) (hb3 : Below w2.heap.size w2 w3) :
    SoAt (Nw w (w3.alloc (.cells #[.int .i64 (s.per : Int), .pointer (some ⟨lb, 0, none⟩), .pointer (some ⟨db, 0, none⟩), .int .i64 (s.st.promised : Int), .int .i64 (s.st.base : Int), .map (some w2.heap.size)] TSo))) (w3.alloc (.cells #[.int .i64 (s.per : Int), .pointer (some ⟨lb, 0, none⟩), .pointer (some ⟨db, 0, none⟩), .int .i64 (s.st.promised : Int), .int .i64 (s.st.base : Int), .map (some w2.heap.size)] TSo)) w3.heap.size s ∧
      Below w.heap.size w (w3.alloc (.cells #[.int .i64 (s.per : Int), .pointer (some ⟨lb, 0, none⟩), .pointer (some ⟨db, 0, none⟩), .int .i64 (s.st.promised : Int), .int .i64 (s.st.base : Int), .map (some w2.heap.size)] TSo)) := by
  have b4 := below_new w3 (.cells #[.int .i64 (s.per : Int), .pointer (some ⟨lb, 0, none⟩), .pointer (some ⟨db, 0, none⟩), .int .i64 (s.st.promised : Int), .int .i64 (s.st.base : Int), .map (some w2.heap.size)] TSo)
  have B := Blk.new w3 TSo #[.int .i64 (s.per : Int), .pointer (some ⟨lb, 0, none⟩), .pointer (some ⟨db, 0, none⟩), .int .i64 (s.st.promised : Int), .int .i64 (s.st.base : Int), .map (some w2.heap.size)]
  have e4 : (w3.alloc (.cells #[.int .i64 (s.per : Int), .pointer (some ⟨lb, 0, none⟩), .pointer (some ⟨db, 0, none⟩), .int .i64 (s.st.promised : Int), .int .i64 (s.st.base : Int), .map (some w2.heap.size)] TSo)).heap.size = w2.heap.size + 2 := by simp [hz3]
  have b24 := hb3.trans (b4.mono hb3.size)
  have b14 := hb2.trans (b24.mono hb2.size)
  have hw := hb1.size
  have hw2 := hb2.size
  generalize (w3.alloc (.cells #[.int .i64 (s.per : Int), .pointer (some ⟨lb, 0, none⟩), .pointer (some ⟨db, 0, none⟩), .int .i64 (s.st.promised : Int), .int .i64 (s.st.base : Int), .map (some w2.heap.size)] TSo)) = w4 at *
  have hm := hm3.below b4
  refine ⟨⟨Nw w w1, Nw w1 w2, lb, db, w2.heap.size, B, hl1.below b14, ⟨Ad, cd, hd2.below b24⟩, hm, fun x hx => ⟨hx.1, by have := hx.2; omega⟩, fun x hx => ⟨by have := hx.1; omega, by have := hx.2; omega⟩, ⟨by omega, by omega⟩, ⟨by omega, by omega⟩, fun x hx hy => by have := hx.2; have := hy.1; omega, ⟨fun hx => by have := hx.2; omega, fun hx => by have := hx.2; omega⟩, ⟨fun hx => by have := hx.2; omega, fun hx => by have := hx.2; omega⟩, fun x hx => hx.2, hper, hok⟩, hb1.trans (b14.mono hb1.size)⟩

section
variable {S S1 S2 : Nat → Prop} {w : World} {b lb db mb : Nat} {s : So}
/-- WHAT Copy leaves -/
def CopySDid (w : World) (s : So) (e : Ending) (w' : World) : Prop := ∃ b', e = .returned (.pointer (some ⟨b', 0, none⟩)) ∧ SoAt (Nw w w') w' b' s ∧ Below w.heap.size w w'
set_option maxHeartbeats 2000000 in
theorem copyS (h : SoO S S1 S2 w b lb db mb s) : Calls Tryz.prog 9 #[.pointer (some ⟨b, 0, none⟩)] w (CopySDid w s) := by
  have hper := h.per
  have hok := h.ok
  have h0 := h.below ((Below.refl _ w).drew)
  obtain ⟨c0, c1, c2, c3, c4, c5, z1, z3, z4⟩ := h0.facts
  obtain ⟨hu, H, A, c, ps, hl⟩ := id h0.log
  have hcl := copyL hl hu
  have hno := noneS h
  clear hl h z1 z3 z4
  go_enter Tryz.func9, Tryz.ntmps9
  go_wp2_with (go_at_call 49; refine hno.mono ?_; rintro e w' ⟨rfl, rfl⟩)
  refine wp_region_T #[[], [], [], [], [], [], [], [], [7], [], [], [], [], [7, 12], [], [], [], [], [], [], [], [], [], [], [], [], [7, 12, 25], [3, 7, 12, 17, 21, 25], [3, 7, 12, 17, 21, 25], [3, 7, 12, 17, 21, 25]] [3, 7, 12, 17, 21, 25] (fun w' => w'.cell? ⟨b, 0, none⟩ = some (.int .i64 (s.per : Int)) ∧ w'.cell? ⟨b, 1, none⟩ = some (.pointer (some ⟨lb, 0, none⟩)) ∧ w'.cell? ⟨b, 2, none⟩ = some (.pointer (some ⟨db, 0, none⟩)) ∧ w'.cell? ⟨b, 3, none⟩ = some (.int .i64 (s.st.promised : Int)) ∧ w'.cell? ⟨b, 4, none⟩ = some (.int .i64 (s.st.base : Int)) ∧ w'.cell? ⟨b, 5, none⟩ = some (.map (some mb))) 30 rfl (by kernel_rfl) ?_
  (refine wpF (i := 0) rfl (by kernel_rfl) rfl (fun _ _ _ h => h) (fun _ => by go_simp; try rfl) ?_; (try simp only [Act.put, sA, sB, sC]))
  (refine wpF (i := 1) rfl (by kernel_rfl) rfl (fun _ _ _ h => h) (fun _ => by go_simp; try rfl) ?_; (try simp only [Act.put, sA, sB, sC]))
  (refine wpF (i := 2) rfl (by kernel_rfl) rfl (fun _ _ _ h => h) (fun _ => by go_simp; try rfl) ?_; (try simp only [Act.put, sA, sB, sC]))
  (refine wpAnyT_read (i := 3) rfl (by kernel_rfl) rfl (fun _ _ _ h => h) (by kernel_rfl) (⟨c0, c1, c2, c3, c4, c5⟩) (fun w hS_ => by obtain ⟨s_1, s_2, s_3, s_4, s_5, s_6⟩ := hS_; go_simp; try rfl) ?_; (try simp only [Act.put, sA, sB, sC]))
  (refine wpF (i := 4) rfl (by kernel_rfl) rfl (fun _ _ _ h => h) (fun _ => by go_simp; try rfl) ?_; (try simp only [Act.put, sA, sB, sC]))
  (refine wpF (i := 5) rfl (by kernel_rfl) rfl (fun _ _ _ h => h) (fun _ => by go_simp; try rfl) ?_; (try simp only [Act.put, sA, sB, sC]))
  (refine wpF (i := 6) rfl (by kernel_rfl) rfl (fun _ _ _ h => h) (fun _ => by go_simp; try rfl) ?_; (try simp only [Act.put, sA, sB, sC]))
  (refine wpAnyT_read (i := 7) rfl (by kernel_rfl) rfl (fun _ _ _ h => h) (by kernel_rfl) (⟨c0, c1, c2, c3, c4, c5⟩) (fun w hS_ => by obtain ⟨s_1, s_2, s_3, s_4, s_5, s_6⟩ := hS_; go_simp; try rfl) ?_; (try simp only [Act.put, sA, sB, sC]))
  (refine wpF (i := 9) rfl (by kernel_rfl) rfl (fun _ _ _ h => h) (fun _ => by go_simp; try rfl) ?_; (try simp only [Act.put, sA, sB, sC]))
  (refine wpF (i := 10) rfl (by kernel_rfl) rfl (fun _ _ _ h => h) (fun _ => by go_simp; try rfl) ?_; (try simp only [Act.put, sA, sB, sC]))
  (refine wpF (i := 11) rfl (by kernel_rfl) rfl (fun _ _ _ h => h) (fun _ => by go_simp; try rfl) ?_; (try simp only [Act.put, sA, sB, sC]))
  (refine wpAnyT_read (i := 12) rfl (by kernel_rfl) rfl (fun _ _ _ h => h) (by kernel_rfl) (⟨c0, c1, c2, c3, c4, c5⟩) (fun w hS_ => by obtain ⟨s_1, s_2, s_3, s_4, s_5, s_6⟩ := hS_; go_simp; try rfl) ?_; (try simp only [Act.put, sA, sB, sC]))
  (refine wpF (i := 14) rfl (by kernel_rfl) rfl (fun _ _ _ h => h) (fun _ => by go_simp; try rfl) ?_; (try simp only [Act.put, sA, sB, sC]))
  (refine wpF (i := 15) rfl (by kernel_rfl) rfl (fun _ _ _ h => h) (fun _ => by go_simp; try rfl) ?_; (try simp only [Act.put, sA, sB, sC]))
  (refine wpF (i := 16) rfl (by kernel_rfl) rfl (fun _ _ _ h => h) (fun _ => by go_simp; try rfl) ?_; (try simp only [Act.put, sA, sB, sC]))
  (refine wpAnyT_read (i := 17) rfl (by kernel_rfl) rfl (fun _ _ _ h => h) (by kernel_rfl) (⟨c0, c1, c2, c3, c4, c5⟩) (fun w hS_ => by obtain ⟨s_1, s_2, s_3, s_4, s_5, s_6⟩ := hS_; go_simp; try rfl) ?_; (try simp only [Act.put, sA, sB, sC]))
  (refine wpF (i := 18) rfl (by kernel_rfl) rfl (fun _ _ _ h => h) (fun _ => by go_simp; try rfl) ?_; (try simp only [Act.put, sA, sB, sC]))
  (refine wpF (i := 19) rfl (by kernel_rfl) rfl (fun _ _ _ h => h) (fun _ => by go_simp; try rfl) ?_; (try simp only [Act.put, sA, sB, sC]))
  (refine wpF (i := 20) rfl (by kernel_rfl) rfl (fun _ _ _ h => h) (fun _ => by go_simp; try rfl) ?_; (try simp only [Act.put, sA, sB, sC]))
  (refine wpAnyT_read (i := 21) rfl (by kernel_rfl) rfl (fun _ _ _ h => h) (by kernel_rfl) (⟨c0, c1, c2, c3, c4, c5⟩) (fun w hS_ => by obtain ⟨s_1, s_2, s_3, s_4, s_5, s_6⟩ := hS_; go_simp; try rfl) ?_; (try simp only [Act.put, sA, sB, sC]))
  (refine wpF (i := 22) rfl (by kernel_rfl) rfl (fun _ _ _ h => h) (fun _ => by go_simp; try rfl) ?_; (try simp only [Act.put, sA, sB, sC]))
  (refine wpF (i := 23) rfl (by kernel_rfl) rfl (fun _ _ _ h => h) (fun _ => by go_simp; try rfl) ?_; (try simp only [Act.put, sA, sB, sC]))
  (refine wpF (i := 24) rfl (by kernel_rfl) rfl (fun _ _ _ h => h) (fun _ => by go_simp; try rfl) ?_; (try simp only [Act.put, sA, sB, sC]))
  (refine wpAnyT_read (i := 25) rfl (by kernel_rfl) rfl (fun _ _ _ h => h) (by kernel_rfl) (⟨c0, c1, c2, c3, c4, c5⟩) (fun w hS_ => by obtain ⟨s_1, s_2, s_3, s_4, s_5, s_6⟩ := hS_; go_simp; try rfl) ?_; (try simp only [Act.put, sA, sB, sC]))
  refine wpAnyT_one (i := 8) rfl (by kernel_rfl) rfl ?_
  intro K_ hK_
  go_wp2_with ((go_at_call 50; refine hcl.mono ?_; rintro e w1 ⟨lb', rfl, hl1, hb1⟩; have h1 := h0.below hb1; obtain ⟨A1, cc1, hd⟩ := h1.snap; have hcd := copy_B hd; obtain ⟨c0, c1, c2, c3, c4, c5, -, -, -⟩ := h1.facts))
  refine hK_ _ _ ?_ ?_
  · exact fun _ _ => ⟨c0, c1, c2, c3, c4, c5⟩
  clear hK_ K_
  (try simp only [Act.put, sA, sB, sC])
  refine wpAnyT_one (i := 13) rfl (by kernel_rfl) rfl ?_
  intro K_ hK_
  go_wp2_with ((go_at_call 51; refine hcd.mono ?_; rintro e w2 ⟨p, rfl, ⟨db', A', c', rfl, hd2⟩, hb2⟩; have h2 := h1.below hb2; have hcm := slotsClone h2.map; obtain ⟨c0, c1, c2, c3, c4, c5, -, -, -⟩ := h2.facts))
  refine hK_ _ _ ?_ ?_
  · exact fun _ _ => ⟨c0, c1, c2, c3, c4, c5⟩
  clear hK_ K_
  (try simp only [Act.put, sA, sB, sC])
  refine wpAnyT_one (i := 26) rfl (by kernel_rfl) rfl ?_
  intro K_ hK_
  go_wp2_with ((go_at_call 52; refine hcm.mono ?_; rintro e w3 ⟨rfl, hm3, hz3, hb3⟩; have h3 := h2.below hb3; obtain ⟨c0, c1, c2, c3, c4, c5, -, -, -⟩ := h3.facts))
  refine hK_ _ _ ?_ ?_
  · exact fun _ _ => ⟨c0, c1, c2, c3, c4, c5⟩
  clear hK_ K_
  (try simp only [Act.put, sA, sB, sC])
  (refine wpF (i := 27) rfl (by kernel_rfl) rfl (fun _ _ _ h => h) (fun _ => by go_simp; try rfl) ?_; (try simp only [Act.put, sA, sB, sC]))
  refine wpAnyT_sink (i := 28) rfl (by kernel_rfl) rfl (by kernel_rfl) ?_
  intro K_ hK_
  go_wp2
  (try (refine hK_ _ _ ?_; clear hK_ K_))
  (try simp only [Act.put, sA, sB, sC])
  (refine wpF (i := 29) rfl (by kernel_rfl) rfl (fun _ _ _ h => h) (fun _ => by go_simp; try rfl) ?_; (try simp only [Act.put, sA, sB, sC]))
  refine wpAnyT_done (by kernel_rfl) ?_ _
  go_wp2
  go_ret
  obtain ⟨k1, k2⟩ := So.copied hper hok hl1 hb1 hd2 hb2 hm3 hz3 hb3
  rw [hz3] at k1
  exact ⟨_, rfl, k1, ((Below.refl w.heap.size w).drew).trans k2⟩
end
end Go.Proofs.YtediidajdpdeiaaGreatDoor

/- A store and the document's store side by side (layer 8), in memory. -/
namespace Go.Proofs.YtediidajdpdeiaaGreatDoor
open Go.RowKit CrcM
set_option maxRecDepth 100000

/-- a store b and the document's store r (its log is L), each for itself, newer than the law's beginning -/
def BothS (W w : World) (b r : Nat) (s : So) (p : Nat) (L : Lg) (st0 : St) : Prop := ∃ T, LiveS W w b s T ∧ IsRef8 T w r p L st0 ∧ ∀ x, T x → W.heap.size ≤ x
section
variable {W w w' : World} {b r p : Nat} {s s' : So} {L L' : Lg} {st0 st1 : St}
theorem IsRef8.keep [Hole] {T : Nat → Prop} (h : IsRef8 T w r p L st0) (hk : ∀ x, T x → w'.heap[x]? = w.heap[x]?) (hs : w.heap.size ≤ w'.heap.size) (kb : BK w w') : IsRef8 T w' r p L st0 := by
  obtain ⟨T1, T2, H, lr, A1, c1, ps, A2, c2, h⟩ := h
  have hlt : ∀ x, T x → x < w'.heap.size := fun x hx => Nat.lt_of_lt_of_le (h.lt x hx) hs
  exact ⟨T1, T2, H, lr, A1, c1, ps, A2, c2, h.blk.eq (hk _ h.hr), h.log.keep (fun x hx => hk x (h.t1 x hx)) (fun x hx => hlt x (h.t1 x hx)), h.snap.xk (fun x hx => hk x (h.t2 x hx)) kb, h.t1, h.t2, h.hr, h.d1, h.d2, h.d12, hlt⟩
theorem IsRef8.lt [Hole] {T : Nat → Prop} (h : IsRef8 T w r p L st0) : ∀ x, T x → x < w.heap.size := by
  obtain ⟨T1, T2, H, lr, A1, c1, ps, A2, c2, h⟩ := h
  exact h.lt
theorem LiveS.fr {T : Nat → Prop} (h : LiveS W w b s T) (f : Fr T w w') (hT : ∀ x, T x → W.heap.size ≤ x) : LiveS W w' b s (Up T w w') := by
  obtain ⟨S, ⟨S1, S2, lb, db, mb, hd⟩, hS, hb, hX⟩ := h
  refine ⟨S, ⟨S1, S2, lb, db, mb, hd.fr f (fun x hx hy => ((hX x hy).1 hx).elim)⟩, hS, ⟨f.os.trans hb.os, f.tape.trans hb.tape, f.output.trans hb.output, Nat.le_trans hb.size f.size, fun k hk => (f.out k (Nat.lt_of_lt_of_le hk hb.size) fun hh => by have := hT k hh; omega).trans (hb.block k hk)⟩, fun x hx => ?_⟩
  rcases hx with hx | hx
  · exact ⟨(hX x hx).1, Nat.lt_of_lt_of_le (hX x hx).2 f.size⟩
  · exact ⟨fun hs => by have := hd.lt x hs; have := hx.1; omega, hx.2⟩
theorem BothS.below (h : BothS W w b r s p L st0) : Below W.heap.size W w := by
  obtain ⟨T, h1, -⟩ := h
  exact h1.below
theorem BothS.mono (h : BothS W w b r s p L st0) (f : Below w.heap.size w w') : BothS W w' b r s p L st0 := by
  obtain ⟨T, h1, h2, h3⟩ := h
  exact ⟨T, h1.mono' f, h2.keep (fun x hx => f.block x (h2.lt x hx)) f.size (BK.below f), h3⟩
/-- the store turns -/
theorem BothS.store (h : BothS W w b r s p L st0) {f : Nat} {args : Array Value} {k : Int} (hc : ∀ T, LiveS W w b s T → Calls Tryz.prog f args w (LiveSDid W w b T (s', k))) :
    Calls Tryz.prog f args w fun e w' => e = .returned (.int .i64 k) ∧ BothS W w' b r s' p L st0 ∧ BK w w' := by
  obtain ⟨T, h1, h2, h3⟩ := h
  refine (hc T h1).mono ?_
  rintro e w' ⟨e1, k1, k2, k3⟩
  obtain ⟨S, hd, hS, hb, hX⟩ := id k1
  refine ⟨e1, ⟨T, k1, ?_, h3⟩, k3⟩
  obtain ⟨T1, T2, H, lr, A1, c1, ps, A2, c2, h⟩ := h2
  have hlt : ∀ x, T x → x < w'.heap.size := fun x hx => (hX x hx).2
  exact ⟨T1, T2, H, lr, A1, c1, ps, A2, c2, h.blk.eq (k2 _ h.hr), h.log.keep (fun x hx => k2 x (h.t1 x hx)) (fun x hx => hlt x (h.t1 x hx)), h.snap.xk (fun x hx => k2 x (h.t2 x hx)) k3, h.t1, h.t2, h.hr, h.d1, h.d2, h.d12, hlt⟩
/-- the document's store turns -/
theorem BothS.refd (h : BothS W w b r s p L st0) {f : Nat} {args : Array Value} {k : Int} (hc : ∀ T, IsRef8 T w r p L st0 → Calls Tryz.prog f args w (RefDid8 T w r p L' st1 k)) :
    Calls Tryz.prog f args w fun e w' => e = .returned (.int .i64 k) ∧ BothS W w' b r s p L' st1 := by
  obtain ⟨T, h1, h2, h3⟩ := h
  have hbl := h1.below
  refine (hc T h2).mono ?_
  rintro e w' ⟨e1, k1, k2⟩
  exact ⟨e1, _, h1.fr k2 h3, k1, fun x hx => hx.elim (h3 x) (fun q => Nat.le_trans hbl.size q.1)⟩
/-- what tells of the document's store -/
theorem BothS.asks (h : BothS W w b r s p L st0) {f : Nat} {args : Array Value} {v : Value} (hc : ∀ T, IsRef8 T w r p L st0 → Calls Tryz.prog f args w (Told w v)) :
    Calls Tryz.prog f args w fun e w' => e = .returned v ∧ BothS W w' b r s p L st0 ∧ Below w.heap.size w w' := by
  have h' := h
  obtain ⟨T, h1, h2, h3⟩ := h
  exact (hc T h2).mono fun e w' ⟨e1, e2⟩ => ⟨e1, h'.mono e2, e2⟩
end
end Go.Proofs.YtediidajdpdeiaaGreatDoor

/- A store and the document's store side by side (layer 8), behind whose back a row of bytes turns: Accept. -/
namespace Go.Proofs.YtediidajdpdeiaaGreatDoor
open Go.RowKit CrcM
set_option maxRecDepth 100000

/-- as BothS, where no value and no record lies in the row q, which is newer than the law's beginning and none of both stores' -/
def BothSH (q : Nat) (W w : World) (b r : Nat) (s : So) (p : Nat) (L : Lg) (st0 : St) : Prop := ∃ S T S1 S2 lb db mb, @SoO (holeAt q) S S1 S2 w b lb db mb s ∧ @IsRef8 (holeAt q) T w r p L st0 ∧ (∀ x, S x → W.heap.size ≤ x) ∧ (∀ x, T x → W.heap.size ≤ x ∧ x < w.heap.size) ∧ (∀ x, T x → ¬ S x) ∧ ¬ S q ∧ ¬ T q ∧ W.heap.size ≤ q ∧ q < w.heap.size ∧ Below W.heap.size W w
section
variable {q : Nat} {W w w' : World} {b r p : Nat} {s s' : So} {L L' : Lg} {st0 st1 : St}
theorem BothS.hold (h : BothS W w b r s p L st0) (hb : Below w.heap.size w w') (hq : w.heap.size ≤ q) (hq' : q < w'.heap.size) : BothSH q W w' b r s p L st0 := by
  obtain ⟨T, ⟨S, ⟨S1, S2, lb, db, mb, hd⟩, hS, hbl, hX⟩, h2, h3⟩ := h
  exact ⟨S, T, S1, S2, lb, db, mb, hd.hold hb hq hq', h2.hold hb hq, hS, fun x hx => ⟨h3 x hx, Nat.lt_of_lt_of_le (h2.lt x hx) hb.size⟩, fun x hx => (hX x hx).1, fun hx => by have := hd.lt q hx; omega, fun hx => by have := h2.lt q hx; omega, Nat.le_trans hbl.size hq, hq', hbl.trans (hb.mono hbl.size)⟩
theorem BothSH.free (h : BothSH q W w b r s p L st0) (m : Mut q w w') : BothS W w' b r s p L st0 := by
  obtain ⟨S, T, S1, S2, lb, db, mb, h1, h2, h3, h4, h5, h6, h7, h8, h9, h10⟩ := h
  exact ⟨T, ⟨S, ⟨S1, S2, lb, db, mb, m.so h1 h6⟩, h3, ⟨m.os.trans h10.os, m.tape.trans h10.tape, m.output.trans h10.output, by rw [m.size]; exact h10.size, fun k hk => (m.out k (by omega)).trans (h10.block k hk)⟩, fun x hx => ⟨h5 x hx, by rw [m.size]; exact (h4 x hx).2⟩⟩, m.isRef h2 h7, fun x hx => (h4 x hx).1⟩
theorem BothSH.below (h : BothSH q W w b r s p L st0) : Below W.heap.size W w := by
  obtain ⟨S, T, S1, S2, lb, db, mb, h1, h2, h3, h4, h5, h6, h7, h8, h9, h10⟩ := h
  exact h10
theorem BothSH.accept (h : BothSH q W w b r s p L st0) (hh : HalfAt W) (hlen : s.log.len ≤ 4611686018427387904) (hfew : s.st.slots.length < 1048575) (slot k : Int) (B : Option Addr) (v : List UInt8) (cb : Nat) (hv : Own Ever w B v) (hvl : v.length ≤ 70368744177664) :
    Calls Tryz.prog 10 #[.pointer (some ⟨b, 0, none⟩), .int .i64 slot, .int .i64 k, .slice B v.length cb] w fun e w' => e = .returned (.int .i64 (s.accept slot k v).2) ∧ BothSH q W w' b r (s.accept slot k v).1 p L st0 ∧ BK w w' := by
  obtain ⟨S, T, S1, S2, lb, db, mb, h1, h2, h3, h4, h5, h6, h7, h8, h9, h10⟩ := h
  refine (@acceptS (holeAt q) S S1 S2 w b lb db mb s h1 (hh.below h10 hh.lt) hlen hfew slot k B v cb (hv.rd S) hvl).mono ?_
  rintro e w' ⟨k1, ⟨b', e', S1', S2', lb', db', mb', k2⟩, k3⟩
  injection e' with e'
  injection e' with e'
  injection e' with e'
  subst e'
  have hs := k3.size
  have hSl := @SoO.lt (holeAt q) _ _ _ _ _ _ _ _ _ h1
  refine ⟨k1, ⟨_, T, S1', S2', lb', db', mb', k2, @IsRef8.keep w w' r p L st0 (holeAt q) T h2 (fun x hx => k3.out x (h4 x hx).2 (h5 x hx)) hs k3.byt, fun x hx => hx.elim (h3 x) (fun z => Nat.le_trans h10.size z.1), fun x hx => ⟨(h4 x hx).1, Nat.lt_of_lt_of_le (h4 x hx).2 hs⟩, fun x hx hx' => hx'.elim (h5 x hx) (fun z => by have := (h4 x hx).2; have := z.1; omega), fun hx => hx.elim h6 (fun z => by have := z.1; omega), h7, h8, Nat.lt_of_lt_of_le h9 hs, ?_⟩, k3.byt⟩
  exact ⟨k3.os.trans h10.os, k3.tape.trans h10.tape, k3.output.trans h10.output, Nat.le_trans h10.size hs, fun j hj => (k3.out j (Nat.lt_of_lt_of_le hj h10.size) fun hx => by have := h3 j hx; omega).trans (h10.block j hj)⟩
theorem BothSH.refAccept {s0 : So} {m n : Nat} {rcs : List Rc} (h : BothSH q W w b r s p s0.log st0) (hi : s0.inv m n st0 rcs) (slot k : Int) (B : Option Addr) (v : List UInt8) (cb : Nat) (hv : Own Ever w B v) (hvl : v.length ≤ 300) :
    Calls Tryz.prog 64 #[.pointer (some ⟨r, 0, none⟩), .int .i64 slot, .int .i64 k, .slice B v.length cb] w fun e w' => e = .returned (.int .i64 (s0.accept slot k v).2) ∧ BothSH q W w' b r s p (s0.accept slot k v).1.log st0 ∧ BK w w' := by
  obtain ⟨S, T, S1, S2, lb, db, mb, h1, ⟨T1, T2, H, lr, A1, c1, ps, A2, c2, h2⟩, h3, h4, h5, h6, h7, h8, h9, h10⟩ := h
  refine (refAccept_B8 (i := holeAt q) h2 hi slot k B v cb hv hvl).mono ?_
  rintro e w' ⟨k1, k2, k3⟩
  have hs := k3.size
  have hSl := @SoO.lt (holeAt q) _ _ _ _ _ _ _ _ _ h1
  have hTl := @IsRef8.lt w' r p (s0.accept slot k v).1.log st0 (holeAt q) _ k2
  refine ⟨k1, ⟨S, _, S1, S2, lb, db, mb, @SoO.fr (holeAt q) S S1 S2 T w w' b lb db mb s h1 k3 (fun x hx hy => ((h5 x hy) hx).elim), k2, h3, fun x hx => ⟨hx.elim (fun z => (h4 x z).1) (fun z => Nat.le_trans h10.size z.1), hTl x hx⟩, fun x hx hx' => hx.elim (fun z => h5 x z hx') (fun z => by have := hSl x hx'; have := z.1; omega), h6, fun hx => hx.elim h7 (fun z => by have := z.1; omega), h8, Nat.lt_of_lt_of_le h9 hs, ?_⟩, k3.byt⟩
  exact ⟨k3.os.trans h10.os, k3.tape.trans h10.tape, k3.output.trans h10.output, Nat.le_trans h10.size hs, fun j hj => (k3.out j (Nat.lt_of_lt_of_le hj h10.size) fun hx => by have := (h4 j hx).1; omega).trans (h10.block j hj)⟩
end
end Go.Proofs.YtediidajdpdeiaaGreatDoor

/- A store and the document's store side by side (layer 8): the document's log itself; State, has, Copy. -/
namespace Go.Proofs.YtediidajdpdeiaaGreatDoor
open Go.RowKit CrcM
set_option maxRecDepth 100000

section
variable {W w w' : World} {b r p : Nat} {s s' : So} {L L' : Lg} {st0 st1 : St}
/-- the document's log, as a law sees it -/
structure LogIn (W w : World) (b r : Nat) (s : So) (p : Nat) (L : Lg) (st0 : St) (lr : Nat) : Prop where
  ptr : w.cell? ⟨r, 1, none⟩ = some (.pointer (some ⟨lr, 0, none⟩))
  down : w.cell? ⟨lr, 2, none⟩ = some (.bool L.down)
  turn : ∀ {f : Nat} {args : Array Value} {k : Int} {L' : Lg}, (∀ T1 H A c ps, RlogO T1 H w lr A c ps L.ref → Calls Tryz.prog f args w (RlogDid T1 w (.pointer (some ⟨lr, 0, none⟩)) (L'.ref, k))) → Calls Tryz.prog f args w fun e w' => e = .returned (.int .i64 k) ∧ BothS W w' b r s p L' st0
  asks : ∀ {f : Nat} {args : Array Value} {v : Value}, (∀ T1 H A c ps, RlogO T1 H w lr A c ps L.ref → Calls Tryz.prog f args w (Told w v)) → Calls Tryz.prog f args w fun e w' => e = .returned v ∧ BothS W w' b r s p L st0 ∧ Below w.heap.size w w'
theorem BothS.logIn (h : BothS W w b r s p L st0) : ∃ lr, LogIn W w b r s p L st0 lr := by
  have h' := h
  obtain ⟨T, h1, ⟨T1, T2, H, lr, A1, c1, ps, A2, c2, h2⟩, h3⟩ := h
  obtain ⟨-, q1, -, -, -, q5⟩ := h2.facts
  have hbl := h1.below
  refine ⟨lr, q1, q5, fun hc => ?_, fun hc => ?_⟩
  · refine (hc T1 H A1 c1 ps h2.log).mono ?_
    rintro e w' ⟨e1, k1, k2⟩
    obtain ⟨k3, k4⟩ := h2.turn k1 k2
    exact ⟨e1, _, h1.fr k4 h3, k3, fun x hx => hx.elim (h3 x) (fun q => Nat.le_trans hbl.size q.1)⟩
  · exact (hc T1 H A1 c1 ps h2.log).mono fun e w' ⟨e1, e2⟩ => ⟨e1, h'.mono e2, e2⟩
/-- State, of a store that is up -/
theorem BothS.state {m n : Nat} {rcs : List Rc} (h : BothS W w b r s p s.log st0) (hi : s.inv m n st0 rcs) (hd : s.log.down = false) :
    Calls Tryz.prog 17 #[.pointer (some ⟨r, 0, none⟩)] w fun e w' => ∃ X A c, e = .returned (.tuple #[.int .i64 (s.st.promised : Int), .slice A s.st.slots.length c]) ∧ HeldS X w' A c s.st.slots ∧ BothS W w' b r s p s.log st0 ∧ Below w.heap.size w w' := by
  have h' := h
  obtain ⟨T, h1, ⟨T1, T2, H, lr, A1, c1, ps, A2, c2, h2⟩, h3⟩ := h
  refine (state_S8 h2 hi hd).mono ?_
  rintro e w' ⟨X, A, c, e1, k1, -, k3⟩
  exact ⟨X, A, c, e1, k1, h'.mono k3, k3⟩
theorem BothS.base {m n : Nat} {rcs : List Rc} (h : BothS W w b r s p s.log st0) (hi : s.inv m n st0 rcs) (hd : s.log.down = false) :
    Calls Tryz.prog 18 #[.pointer (some ⟨r, 0, none⟩)] w fun e w' => e = .returned (.int .i64 (s.st.base : Int)) ∧ BothS W w' b r s p s.log st0 ∧ Below w.heap.size w w' :=
  h.asks fun _ ⟨_, _, _, _, _, _, _, _, _, h2⟩ => base_S8 h2 hi hd
/-- what the store's slots have -/
theorem BothS.has {m : Nat} (h : BothS W w b r s p L st0) (hl : s.st.lim m) (hm : m ≤ 5000) (hfew : s.st.slots.length ≤ 1048575) (hu : s.log.down = false) :
    Calls Tryz.prog 20 #[.pointer (some ⟨b, 0, none⟩)] w fun e w' => ∃ X A c, e = .returned (.slice A s.st.slots.length c) ∧ HeldS X w' A c s.st.slots ∧ BothS W w' b r s p L st0 ∧ Below w.heap.size w w' := by
  have h' := h
  obtain ⟨T, h1, h2, h3⟩ := h
  refine (has_S h1 hl hm hfew hu).mono ?_
  rintro e w' ⟨A, c, e1, k1, -, k3⟩
  exact ⟨_, A, c, e1, k1, h'.mono k3, k3⟩
end
end Go.Proofs.YtediidajdpdeiaaGreatDoor
