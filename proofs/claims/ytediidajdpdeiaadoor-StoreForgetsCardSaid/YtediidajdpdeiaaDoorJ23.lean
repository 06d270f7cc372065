/- StoreForgets: the law's walk. -/
import Derived.Test.YtediidajdpdeiaaDoorJ22
import Derived.Test.YtediidajdpdeiaaDoorJ18

namespace Go.Proofs.YtediidajdpdeiaaDoor
open Go.RowKit CrcM
set_option maxRecDepth 100000

theorem forgets_max (a b : Nat) (w : World) : (Builtin.max_ #[3, 3] 3 #[.int .i64 (a : Int), .int .i64 (b : Int)]).run Tryd.prog w = .ok (.int .i64 ((max a b : Nat) : Int)) w := by
  rw [run_max_int2]
  have : (if (b : Int) > (a : Int) then (b : Int) else (a : Int)) = ((max a b : Nat) : Int) := by split <;> omega
  rw [this]

set_option maxHeartbeats 4000000 in
theorem forgetsLaw_08 (W : World) (hh : HalfAt W) (per : Int) (A : Option Addr) (acts : List Act08) (c : Nat) (hA : ActsAt8 W A acts) (hlen : acts.length ≤ maxLen) (x : Int) :
    Calls Tryd.prog 19 #[.int .i64 per, .slice A acts.length c, .int .i64 x] W fun e w' => e = .returned (.bool true) ∧ Below W.heap.size W w' := by
  obtain ⟨kk, hp1, hp2, hp3⟩ := rem_up x 45 (by decide)
  have hpr := rem_any x 45 (by decide)
  have wz1 : IntKind.i64.wrap (x.tmod 45) = x.tmod 45 := by rw [IntKind.wrap_i64]; omega
  have wz2 : IntKind.i64.wrap (x.tmod 45 + 45) = x.tmod 45 + 45 := by rw [IntKind.wrap_i64]; omega
  have wz3 : IntKind.i64.wrap (kk : Int) = (kk : Int) := by rw [IntKind.wrap_i64]; omega
  have hk45 : kk < 45 := by omega
  have hP := plays_08 W hh per A acts c hA hlen
  go_enter Tryd.func19, Tryd.ntmps19
  clear hA
  go_wp2_with (first
    | (go_at_call 58; refine hP.mono ?_; rintro e w1 ⟨b, s, st0, rcs, rfl, h1, hf, hd⟩
       obtain ⟨s1, st1, rcs1, e1, f1, d1, b1, p1, l1⟩ := hf.forget8 hd (by decide) kk (by omega)
       have hmax := forgets_max s.st.base kk
       have hlim := (hf.inv.st hd).1
       have hfew := (hf.inv.st hd).2
       have hlim1 := (f1.inv.st d1).1
       have hfew1 := (f1.inv.st d1).2
       have E1 := Lib.hid e1
       have B1 := Lib.hid b1
       have P1 := Lib.hid p1
       have L1 := Lib.hid l1
       have hH := has_S h1 hlim (by decide) (by omega) hd
       have hBa := base_S h1 hd
       have hPr := promised_S h1 hd
       clear hP e1 b1 p1 l1)
    | (go_at_call 61; refine hH.mono ?_; rintro e w2 ⟨A1, c1, rfl, hw2, h2, hb2⟩; have hBa := base_S h2 hd; have hPr := promised_S h2 hd; have hFo := forget_S h2 hh hf.inv (kk : Int); unfold LiveSDid at hFo; rw [E1.out] at hFo; clear hH)
    | (go_at_call 69; refine hBa.mono ?_; rintro e w2a ⟨rfl, rfl⟩; clear hBa)
    | (go_at_call 60; refine hPr.mono ?_; rintro e w2b ⟨rfl, rfl⟩; clear hPr)
    | (go_at_call 70; refine hFo.mono ?_; rintro e w3 ⟨rfl, h3, hx3, hk3⟩; have hw3 := hw2.xk hx3 hk3; have hBb := base_S h3 d1; have hPs := promised_S h3 d1; have hH2 := has_S h3 hlim1 (by decide) (by omega) d1; unfold HasDid at hH2; rw [B1.out] at hBb; rw [P1.out] at hPs; clear hFo)
    | (go_at_call 69; refine hBb.mono ?_; rintro e w3a ⟨rfl, rfl⟩; clear hBb)
    | (go_at_call 60; refine hPs.mono ?_; rintro e w3b ⟨rfl, rfl⟩; clear hPs)
    | (go_at_call 61; refine hH2.mono ?_; rintro e w4 ⟨A2, c2, rfl, hn4, h4, hb4⟩; have hw4 := hw3.below hb4; clear hH2))
  have hpr0 := hlim.ok.pr
  clear hlim hfew hlim1 hfew1 hw3 hw2 wz1 wz2 wz3 hp1 hp2 hpr hf
  obtain ⟨H, hH⟩ : ∃ H, H = s.st.slots := ⟨_, rfl⟩
  obtain ⟨H2, hH2⟩ : ∃ H2, H2 = s1.st.slots := ⟨_, rfl⟩
  have HF : Hid (H2 = H.filter (fun p => decide (kk ≤ p.1))) := Lib.hid (by rw [hH, hH2]; exact L1.out)
  rw [← hH] at hw4 ⊢
  rw [← hH2] at hn4 ⊢
  clear hH hH2 L1
  go_loopw [12, 52] (fun kv i wr => ∃ k : Nat, k ≤ H.length ∧ i = .int .i64 (k : Int) ∧ kv = .int .i64 ((((H.take k).filter (fun p => decide (kk ≤ p.1))).length : Nat) : Int) ∧ Below w4.heap.size w4 wr) (fun _ i _ => H.length - (intOf i).toNat)
  case atStart => exact ⟨0, Nat.zero_le _, rfl, rfl, Below.refl _ _⟩
  case round =>
    obtain ⟨k, hk, rfl, rfl, hb9⟩ := hrel
    have hHl := hw4.len
    have hHl2 := hn4.len
    have hcap1 := hw4.1
    have hcap2 := hn4.1
    have hsub : ((H.take k).filter (fun p => decide (kk ≤ p.1))).length ≤ H2.length := by
      rw [HF.out]
      exact ((List.take_sublist k H).filter _).length_le
    by_cases hlt : k < H.length
    · obtain ⟨p, hp⟩ : ∃ p, H[k]? = some p := ⟨_, List.getElem?_eq_getElem hlt⟩
      obtain ⟨g, o, B, cb, q1, -, x1, x2, x3, -, -, x4⟩ := (hw4.below hb9).at_ hp
      subst q1
      have hlt' : (k : Int) < (H.length : Int) := by omega
      have KL := Lib.hid hlt
      have hba := below_new wr (.cells #[.int .i64 (p.1 : Int), .int .i64 (p.2.ballot : Int), .slice B p.2.value.length cb] TH8)
      have za := Blk.new wr TH8 #[.int .i64 (p.1 : Int), .int .i64 (p.2.ballot : Int), .slice B p.2.value.length cb]
      have oa : Own Yes (wr.alloc (.cells #[.int .i64 (p.1 : Int), .int .i64 (p.2.ballot : Int), .slice B p.2.value.length cb] TH8)) B p.2.value := x4.bk (BK.below hba)
      by_cases hsl : kk ≤ p.1
      · obtain ⟨f1, f2⟩ := filter_at (fun p : Nat × Hd => decide (kk ≤ p.1)) hp (decide_eq_true hsl)
        rw [← HF.out] at f1
        have hm := (List.getElem?_eq_some_iff.1 f1).1
        obtain ⟨g2, o2, B2, cb2, q2, -, y1, y2, y3, -, -, y4⟩ := (hn4.below (hb9.trans (hba.mono hb9.size))).at_ f1
        subst q2
        have F2 := Lib.hid f2
        have g1 : decide (p.1 < kk) = false := decide_eq_false (by omega)
        clear f1 f2 hp hw4 hn4 x4 hsub hlt hsl
        generalize ((H.take k).filter (fun p => decide (kk ≤ p.1))).length = m at *
        obtain ⟨sl, bl, vl⟩ := p
        simp only at x1 x2 x3 hba za oa y1 y2 y3 y4 g1
        have k0 := za.cell 0 (v := .int .i64 (sl : Int)) rfl
        have k1 := za.cell 1 (v := .int .i64 (bl : Int)) rfl
        have k2 := za.cell 2 (v := .slice B vl.length cb) rfl
        have m1 : (m : Int) < (H2.length : Int) := by omega
        have m2 : decide (H2.length ≤ m) = false := decide_eq_false (by omega)
        have wm : IntKind.i64.wrap ((m : Int) + 1) = ((m + 1 : Nat) : Int) := by rw [IntKind.wrap_i64]; omega
        have s1' := HeldS.str (w := (wr.alloc (.cells #[.int .i64 (sl : Int), .int .i64 (bl : Int), .slice B vl.length cb] TH8)).drew) oa.drew cb
        have s2' := HeldS.str (w := (wr.alloc (.cells #[.int .i64 (sl : Int), .int .i64 (bl : Int), .slice B vl.length cb] TH8)).drew) y4.drew cb2
        go_wp2
        refine wp_region_T #[[], [], [], [], [], [], [], [], [], [], [], [], [9, 11], [9, 11], [9, 11], [9, 11], [9, 11], [9, 11], [9, 11], [9, 11], [9, 11], [9, 11], [9, 11, 19, 21], [9, 11, 19, 21], [9, 11, 19, 21], [9, 11, 19, 21], [9, 11, 19, 21], [9, 11, 19, 21], [9, 11, 19, 21], [9, 11, 19, 21], [9, 11, 19, 21, 29], [9, 11, 19, 21], [9, 11, 19, 21], [9, 11, 19, 21, 32], [9, 11, 19, 21, 29, 30, 32, 33], [9, 11, 19, 21, 29, 30, 32, 33]] [9, 11, 19, 21, 29, 30, 32, 33] (fun w' => w'.cell? ⟨g2, o2 + m * 3, none⟩ = some (.int .i64 (sl : Int)) ∧ w'.cell? ⟨g2, o2 + m * 3 + 1, none⟩ = some (.int .i64 (bl : Int)) ∧ w'.cell? ⟨g2, o2 + m * 3 + 2, none⟩ = some (.slice B2 vl.length cb2) ∧ w'.cell? ⟨wr.heap.size, 0, none⟩ = some (.int .i64 (sl : Int)) ∧ w'.cell? ⟨wr.heap.size, 1, none⟩ = some (.int .i64 (bl : Int)) ∧ w'.cell? ⟨wr.heap.size, 2, none⟩ = some (.slice B vl.length cb) ∧ (convert 22 9 (.slice B2 vl.length cb2)).run Tryd.prog w' = .ok (.string ⟨vl.toArray⟩) w' ∧ (convert 22 9 (.slice B vl.length cb)).run Tryd.prog w' = .ok (.string ⟨vl.toArray⟩) w') 36 rfl (by kernel_rfl) ?_
        (refine wpAnyT_free (i := 0) rfl (by kernel_rfl) rfl (fun _ _ _ h => h) (by kernel_rfl) (fun _ => by go_simp; try rfl) ?_; (try simp only [Act.put, List.setIfInBounds_toArray, List.set_cons_zero, List.set_cons_succ]))
        (refine wpAnyT_free (i := 1) rfl (by kernel_rfl) rfl (fun _ _ _ h => h) (by kernel_rfl) (fun _ => by go_simp; try rfl) ?_; (try simp only [Act.put, List.setIfInBounds_toArray, List.set_cons_zero, List.set_cons_succ]))
        (refine wpAnyT_free (i := 2) rfl (by kernel_rfl) rfl (fun _ _ _ h => h) (by kernel_rfl) (fun _ => by go_simp; try rfl) ?_; (try simp only [Act.put, List.setIfInBounds_toArray, List.set_cons_zero, List.set_cons_succ]))
        (refine wpAnyT_free (i := 3) rfl (by kernel_rfl) rfl (fun _ _ _ h => h) (by kernel_rfl) (fun _ => by go_simp; try rfl) ?_; (try simp only [Act.put, List.setIfInBounds_toArray, List.set_cons_zero, List.set_cons_succ]))
        (refine wpAnyT_free (i := 4) rfl (by kernel_rfl) rfl (fun _ _ _ h => h) (by kernel_rfl) (fun _ => by go_simp; try rfl) ?_; (try simp only [Act.put, List.setIfInBounds_toArray, List.set_cons_zero, List.set_cons_succ]))
        first
        | (refine wpAnyT_skip (i := 5) rfl (by kernel_rfl) rfl (fun _ _ _ h => h) (fun h_ => absurd h_ (by decide)) ?_; (try simp only [Act.put, List.setIfInBounds_toArray, List.set_cons_zero, List.set_cons_succ]))
        | (refine wpAnyT_free (i := 5) rfl (by kernel_rfl) rfl (fun _ _ _ h => h) (by kernel_rfl) (fun _ => by go_simp; try rfl) ?_; (try simp only [Act.put, List.setIfInBounds_toArray, List.set_cons_zero, List.set_cons_succ]))
        | (refine wpAnyT_skip (i := 5) rfl (by kernel_rfl) (by first | (simp [Region.wanted, yielded]; done) | (simp [Region.wanted, yielded, undef, *]; done)) (fun _ _ _ h => h) (fun h_ => absurd h_ (by decide)) ?_; (try simp only [Act.put, List.setIfInBounds_toArray, List.set_cons_zero, List.set_cons_succ]))
        | (refine wpAnyT_free (i := 5) rfl (by kernel_rfl) (by first | (simp [Region.wanted, yielded]; done) | (simp [Region.wanted, yielded, undef, *]; done)) (fun _ _ _ h => h) (by kernel_rfl) (fun _ => by go_simp; try rfl) ?_; (try simp only [Act.put, List.setIfInBounds_toArray, List.set_cons_zero, List.set_cons_succ]))
        first
        | (refine wpAnyT_skip (i := 6) rfl (by kernel_rfl) rfl (fun _ _ _ h => h) (fun h_ => absurd h_ (by decide)) ?_; (try simp only [Act.put, List.setIfInBounds_toArray, List.set_cons_zero, List.set_cons_succ]))
        | (refine wpAnyT_free (i := 6) rfl (by kernel_rfl) rfl (fun _ _ _ h => h) (by kernel_rfl) (fun _ => by go_simp; try rfl) ?_; (try simp only [Act.put, List.setIfInBounds_toArray, List.set_cons_zero, List.set_cons_succ]))
        | (refine wpAnyT_skip (i := 6) rfl (by kernel_rfl) (by first | (simp [Region.wanted, yielded]; done) | (simp [Region.wanted, yielded, undef, *]; done)) (fun _ _ _ h => h) (fun h_ => absurd h_ (by decide)) ?_; (try simp only [Act.put, List.setIfInBounds_toArray, List.set_cons_zero, List.set_cons_succ]))
        | (refine wpAnyT_free (i := 6) rfl (by kernel_rfl) (by first | (simp [Region.wanted, yielded]; done) | (simp [Region.wanted, yielded, undef, *]; done)) (fun _ _ _ h => h) (by kernel_rfl) (fun _ => by go_simp; try rfl) ?_; (try simp only [Act.put, List.setIfInBounds_toArray, List.set_cons_zero, List.set_cons_succ]))
        first
        | (refine wpAnyT_skip (i := 7) rfl (by kernel_rfl) rfl (fun _ _ _ h => h) (fun h_ => absurd h_ (by decide)) ?_; (try simp only [Act.put, List.setIfInBounds_toArray, List.set_cons_zero, List.set_cons_succ]))
        | (refine wpAnyT_free (i := 7) rfl (by kernel_rfl) rfl (fun _ _ _ h => h) (by kernel_rfl) (fun _ => by go_simp; try rfl) ?_; (try simp only [Act.put, List.setIfInBounds_toArray, List.set_cons_zero, List.set_cons_succ]))
        | (refine wpAnyT_skip (i := 7) rfl (by kernel_rfl) (by first | (simp [Region.wanted, yielded]; done) | (simp [Region.wanted, yielded, undef, *]; done)) (fun _ _ _ h => h) (fun h_ => absurd h_ (by decide)) ?_; (try simp only [Act.put, List.setIfInBounds_toArray, List.set_cons_zero, List.set_cons_succ]))
        | (refine wpAnyT_free (i := 7) rfl (by kernel_rfl) (by first | (simp [Region.wanted, yielded]; done) | (simp [Region.wanted, yielded, undef, *]; done)) (fun _ _ _ h => h) (by kernel_rfl) (fun _ => by go_simp; try rfl) ?_; (try simp only [Act.put, List.setIfInBounds_toArray, List.set_cons_zero, List.set_cons_succ]))
        first
        | (refine wpAnyT_skip (i := 8) rfl (by kernel_rfl) rfl (fun _ _ _ h => h) (fun h_ => absurd h_ (by decide)) ?_; (try simp only [Act.put, List.setIfInBounds_toArray, List.set_cons_zero, List.set_cons_succ]))
        | (refine wpAnyT_free (i := 8) rfl (by kernel_rfl) rfl (fun _ _ _ h => h) (by kernel_rfl) (fun _ => by go_simp; try rfl) ?_; (try simp only [Act.put, List.setIfInBounds_toArray, List.set_cons_zero, List.set_cons_succ]))
        | (refine wpAnyT_skip (i := 8) rfl (by kernel_rfl) (by first | (simp [Region.wanted, yielded]; done) | (simp [Region.wanted, yielded, undef, *]; done)) (fun _ _ _ h => h) (fun h_ => absurd h_ (by decide)) ?_; (try simp only [Act.put, List.setIfInBounds_toArray, List.set_cons_zero, List.set_cons_succ]))
        | (refine wpAnyT_free (i := 8) rfl (by kernel_rfl) (by first | (simp [Region.wanted, yielded]; done) | (simp [Region.wanted, yielded, undef, *]; done)) (fun _ _ _ h => h) (by kernel_rfl) (fun _ => by go_simp; try rfl) ?_; (try simp only [Act.put, List.setIfInBounds_toArray, List.set_cons_zero, List.set_cons_succ]))
        first
        | (refine wpAnyT_skip (i := 9) rfl (by kernel_rfl) rfl (fun _ _ _ h => h) (fun _ => ⟨y1, y2, y3, k0, k1, k2, s2', s1'⟩) ?_; (try simp only [Act.put, List.setIfInBounds_toArray, List.set_cons_zero, List.set_cons_succ]))
        | (refine wpAnyT_read (i := 9) rfl (by kernel_rfl) rfl (fun _ _ _ h => h) (by kernel_rfl) (⟨y1, y2, y3, k0, k1, k2, s2', s1'⟩) (fun w hS_ => by obtain ⟨s_1, s_2, s_3, s_4, s_5, s_6, s_7, s_8⟩ := hS_; go_simp; try rfl) ?_; (try simp only [Act.put, List.setIfInBounds_toArray, List.set_cons_zero, List.set_cons_succ]))
        | (refine wpAnyT_skip (i := 9) rfl (by kernel_rfl) (by first | (simp [Region.wanted, yielded]; done) | (simp [Region.wanted, yielded, undef, *]; done)) (fun _ _ _ h => h) (fun _ => ⟨y1, y2, y3, k0, k1, k2, s2', s1'⟩) ?_; (try simp only [Act.put, List.setIfInBounds_toArray, List.set_cons_zero, List.set_cons_succ]))
        | (refine wpAnyT_read (i := 9) rfl (by kernel_rfl) (by first | (simp [Region.wanted, yielded]; done) | (simp [Region.wanted, yielded, undef, *]; done)) (fun _ _ _ h => h) (by kernel_rfl) (⟨y1, y2, y3, k0, k1, k2, s2', s1'⟩) (fun w hS_ => by obtain ⟨s_1, s_2, s_3, s_4, s_5, s_6, s_7, s_8⟩ := hS_; go_simp; try rfl) ?_; (try simp only [Act.put, List.setIfInBounds_toArray, List.set_cons_zero, List.set_cons_succ]))
        first
        | (refine wpAnyT_skip (i := 10) rfl (by kernel_rfl) rfl (fun _ _ _ h => h) (fun h_ => absurd h_ (by decide)) ?_; (try simp only [Act.put, List.setIfInBounds_toArray, List.set_cons_zero, List.set_cons_succ]))
        | (refine wpAnyT_free (i := 10) rfl (by kernel_rfl) rfl (fun _ _ _ h => h) (by kernel_rfl) (fun _ => by go_simp; try rfl) ?_; (try simp only [Act.put, List.setIfInBounds_toArray, List.set_cons_zero, List.set_cons_succ]))
        | (refine wpAnyT_skip (i := 10) rfl (by kernel_rfl) (by first | (simp [Region.wanted, yielded]; done) | (simp [Region.wanted, yielded, undef, *]; done)) (fun _ _ _ h => h) (fun h_ => absurd h_ (by decide)) ?_; (try simp only [Act.put, List.setIfInBounds_toArray, List.set_cons_zero, List.set_cons_succ]))
        | (refine wpAnyT_free (i := 10) rfl (by kernel_rfl) (by first | (simp [Region.wanted, yielded]; done) | (simp [Region.wanted, yielded, undef, *]; done)) (fun _ _ _ h => h) (by kernel_rfl) (fun _ => by go_simp; try rfl) ?_; (try simp only [Act.put, List.setIfInBounds_toArray, List.set_cons_zero, List.set_cons_succ]))
        first
        | (refine wpAnyT_skip (i := 11) rfl (by kernel_rfl) rfl (fun _ _ _ h => h) (fun _ => ⟨y1, y2, y3, k0, k1, k2, s2', s1'⟩) ?_; (try simp only [Act.put, List.setIfInBounds_toArray, List.set_cons_zero, List.set_cons_succ]))
        | (refine wpAnyT_read (i := 11) rfl (by kernel_rfl) rfl (fun _ _ _ h => h) (by kernel_rfl) (⟨y1, y2, y3, k0, k1, k2, s2', s1'⟩) (fun w hS_ => by obtain ⟨s_1, s_2, s_3, s_4, s_5, s_6, s_7, s_8⟩ := hS_; go_simp; try rfl) ?_; (try simp only [Act.put, List.setIfInBounds_toArray, List.set_cons_zero, List.set_cons_succ]))
        | (refine wpAnyT_skip (i := 11) rfl (by kernel_rfl) (by first | (simp [Region.wanted, yielded]; done) | (simp [Region.wanted, yielded, undef, *]; done)) (fun _ _ _ h => h) (fun _ => ⟨y1, y2, y3, k0, k1, k2, s2', s1'⟩) ?_; (try simp only [Act.put, List.setIfInBounds_toArray, List.set_cons_zero, List.set_cons_succ]))
        | (refine wpAnyT_read (i := 11) rfl (by kernel_rfl) (by first | (simp [Region.wanted, yielded]; done) | (simp [Region.wanted, yielded, undef, *]; done)) (fun _ _ _ h => h) (by kernel_rfl) (⟨y1, y2, y3, k0, k1, k2, s2', s1'⟩) (fun w hS_ => by obtain ⟨s_1, s_2, s_3, s_4, s_5, s_6, s_7, s_8⟩ := hS_; go_simp; try rfl) ?_; (try simp only [Act.put, List.setIfInBounds_toArray, List.set_cons_zero, List.set_cons_succ]))
        first
        | (refine wpAnyT_skip (i := 12) rfl (by kernel_rfl) rfl (fun _ _ _ h => h) (fun h_ => absurd h_ (by decide)) ?_; (try simp only [Act.put, List.setIfInBounds_toArray, List.set_cons_zero, List.set_cons_succ]))
        | (refine wpAnyT_free (i := 12) rfl (by kernel_rfl) rfl (fun _ _ _ h => h) (by kernel_rfl) (fun _ => by go_simp; try rfl) ?_; (try simp only [Act.put, List.setIfInBounds_toArray, List.set_cons_zero, List.set_cons_succ]))
        | (refine wpAnyT_skip (i := 12) rfl (by kernel_rfl) (by first | (simp [Region.wanted, yielded]; done) | (simp [Region.wanted, yielded, undef, *]; done)) (fun _ _ _ h => h) (fun h_ => absurd h_ (by decide)) ?_; (try simp only [Act.put, List.setIfInBounds_toArray, List.set_cons_zero, List.set_cons_succ]))
        | (refine wpAnyT_free (i := 12) rfl (by kernel_rfl) (by first | (simp [Region.wanted, yielded]; done) | (simp [Region.wanted, yielded, undef, *]; done)) (fun _ _ _ h => h) (by kernel_rfl) (fun _ => by go_simp; try rfl) ?_; (try simp only [Act.put, List.setIfInBounds_toArray, List.set_cons_zero, List.set_cons_succ]))
        (refine wpAnyT_free (i := 13) rfl (by kernel_rfl) rfl (fun _ _ _ h => h) (by kernel_rfl) (fun _ => by go_simp; try rfl) ?_; (try simp only [Act.put, List.setIfInBounds_toArray, List.set_cons_zero, List.set_cons_succ]))
        (refine wpAnyT_free (i := 14) rfl (by kernel_rfl) rfl (fun _ _ _ h => h) (by kernel_rfl) (fun _ => by go_simp; try rfl) ?_; (try simp only [Act.put, List.setIfInBounds_toArray, List.set_cons_zero, List.set_cons_succ]))
        first
        | (refine wpAnyT_skip (i := 15) rfl (by kernel_rfl) rfl (fun _ _ _ h => h) (fun h_ => absurd h_ (by decide)) ?_; (try simp only [Act.put, List.setIfInBounds_toArray, List.set_cons_zero, List.set_cons_succ]))
        | (refine wpAnyT_free (i := 15) rfl (by kernel_rfl) rfl (fun _ _ _ h => h) (by kernel_rfl) (fun _ => by go_simp; try rfl) ?_; (try simp only [Act.put, List.setIfInBounds_toArray, List.set_cons_zero, List.set_cons_succ]))
        | (refine wpAnyT_skip (i := 15) rfl (by kernel_rfl) (by first | (simp [Region.wanted, yielded]; done) | (simp [Region.wanted, yielded, undef, *]; done)) (fun _ _ _ h => h) (fun h_ => absurd h_ (by decide)) ?_; (try simp only [Act.put, List.setIfInBounds_toArray, List.set_cons_zero, List.set_cons_succ]))
        | (refine wpAnyT_free (i := 15) rfl (by kernel_rfl) (by first | (simp [Region.wanted, yielded]; done) | (simp [Region.wanted, yielded, undef, *]; done)) (fun _ _ _ h => h) (by kernel_rfl) (fun _ => by go_simp; try rfl) ?_; (try simp only [Act.put, List.setIfInBounds_toArray, List.set_cons_zero, List.set_cons_succ]))
        first
        | (refine wpAnyT_skip (i := 16) rfl (by kernel_rfl) rfl (fun _ _ _ h => h) (fun h_ => absurd h_ (by decide)) ?_; (try simp only [Act.put, List.setIfInBounds_toArray, List.set_cons_zero, List.set_cons_succ]))
        | (refine wpAnyT_free (i := 16) rfl (by kernel_rfl) rfl (fun _ _ _ h => h) (by kernel_rfl) (fun _ => by go_simp; try rfl) ?_; (try simp only [Act.put, List.setIfInBounds_toArray, List.set_cons_zero, List.set_cons_succ]))
        | (refine wpAnyT_skip (i := 16) rfl (by kernel_rfl) (by first | (simp [Region.wanted, yielded]; done) | (simp [Region.wanted, yielded, undef, *]; done)) (fun _ _ _ h => h) (fun h_ => absurd h_ (by decide)) ?_; (try simp only [Act.put, List.setIfInBounds_toArray, List.set_cons_zero, List.set_cons_succ]))
        | (refine wpAnyT_free (i := 16) rfl (by kernel_rfl) (by first | (simp [Region.wanted, yielded]; done) | (simp [Region.wanted, yielded, undef, *]; done)) (fun _ _ _ h => h) (by kernel_rfl) (fun _ => by go_simp; try rfl) ?_; (try simp only [Act.put, List.setIfInBounds_toArray, List.set_cons_zero, List.set_cons_succ]))
        first
        | (refine wpAnyT_skip (i := 17) rfl (by kernel_rfl) rfl (fun _ _ _ h => h) (fun h_ => absurd h_ (by decide)) ?_; (try simp only [Act.put, List.setIfInBounds_toArray, List.set_cons_zero, List.set_cons_succ]))
        | (refine wpAnyT_free (i := 17) rfl (by kernel_rfl) rfl (fun _ _ _ h => h) (by kernel_rfl) (fun _ => by go_simp; try rfl) ?_; (try simp only [Act.put, List.setIfInBounds_toArray, List.set_cons_zero, List.set_cons_succ]))
        | (refine wpAnyT_skip (i := 17) rfl (by kernel_rfl) (by first | (simp [Region.wanted, yielded]; done) | (simp [Region.wanted, yielded, undef, *]; done)) (fun _ _ _ h => h) (fun h_ => absurd h_ (by decide)) ?_; (try simp only [Act.put, List.setIfInBounds_toArray, List.set_cons_zero, List.set_cons_succ]))
        | (refine wpAnyT_free (i := 17) rfl (by kernel_rfl) (by first | (simp [Region.wanted, yielded]; done) | (simp [Region.wanted, yielded, undef, *]; done)) (fun _ _ _ h => h) (by kernel_rfl) (fun _ => by go_simp; try rfl) ?_; (try simp only [Act.put, List.setIfInBounds_toArray, List.set_cons_zero, List.set_cons_succ]))
        first
        | (refine wpAnyT_skip (i := 18) rfl (by kernel_rfl) rfl (fun _ _ _ h => h) (fun h_ => absurd h_ (by decide)) ?_; (try simp only [Act.put, List.setIfInBounds_toArray, List.set_cons_zero, List.set_cons_succ]))
        | (refine wpAnyT_free (i := 18) rfl (by kernel_rfl) rfl (fun _ _ _ h => h) (by kernel_rfl) (fun _ => by go_simp; try rfl) ?_; (try simp only [Act.put, List.setIfInBounds_toArray, List.set_cons_zero, List.set_cons_succ]))
        | (refine wpAnyT_skip (i := 18) rfl (by kernel_rfl) (by first | (simp [Region.wanted, yielded]; done) | (simp [Region.wanted, yielded, undef, *]; done)) (fun _ _ _ h => h) (fun h_ => absurd h_ (by decide)) ?_; (try simp only [Act.put, List.setIfInBounds_toArray, List.set_cons_zero, List.set_cons_succ]))
        | (refine wpAnyT_free (i := 18) rfl (by kernel_rfl) (by first | (simp [Region.wanted, yielded]; done) | (simp [Region.wanted, yielded, undef, *]; done)) (fun _ _ _ h => h) (by kernel_rfl) (fun _ => by go_simp; try rfl) ?_; (try simp only [Act.put, List.setIfInBounds_toArray, List.set_cons_zero, List.set_cons_succ]))
        first
        | (refine wpAnyT_skip (i := 19) rfl (by kernel_rfl) rfl (fun _ _ _ h => h) (fun _ => ⟨y1, y2, y3, k0, k1, k2, s2', s1'⟩) ?_; (try simp only [Act.put, List.setIfInBounds_toArray, List.set_cons_zero, List.set_cons_succ]))
        | (refine wpAnyT_read (i := 19) rfl (by kernel_rfl) rfl (fun _ _ _ h => h) (by kernel_rfl) (⟨y1, y2, y3, k0, k1, k2, s2', s1'⟩) (fun w hS_ => by obtain ⟨s_1, s_2, s_3, s_4, s_5, s_6, s_7, s_8⟩ := hS_; go_simp; try rfl) ?_; (try simp only [Act.put, List.setIfInBounds_toArray, List.set_cons_zero, List.set_cons_succ]))
        | (refine wpAnyT_skip (i := 19) rfl (by kernel_rfl) (by first | (simp [Region.wanted, yielded]; done) | (simp [Region.wanted, yielded, undef, *]; done)) (fun _ _ _ h => h) (fun _ => ⟨y1, y2, y3, k0, k1, k2, s2', s1'⟩) ?_; (try simp only [Act.put, List.setIfInBounds_toArray, List.set_cons_zero, List.set_cons_succ]))
        | (refine wpAnyT_read (i := 19) rfl (by kernel_rfl) (by first | (simp [Region.wanted, yielded]; done) | (simp [Region.wanted, yielded, undef, *]; done)) (fun _ _ _ h => h) (by kernel_rfl) (⟨y1, y2, y3, k0, k1, k2, s2', s1'⟩) (fun w hS_ => by obtain ⟨s_1, s_2, s_3, s_4, s_5, s_6, s_7, s_8⟩ := hS_; go_simp; try rfl) ?_; (try simp only [Act.put, List.setIfInBounds_toArray, List.set_cons_zero, List.set_cons_succ]))
        first
        | (refine wpAnyT_skip (i := 20) rfl (by kernel_rfl) rfl (fun _ _ _ h => h) (fun h_ => absurd h_ (by decide)) ?_; (try simp only [Act.put, List.setIfInBounds_toArray, List.set_cons_zero, List.set_cons_succ]))
        | (refine wpAnyT_free (i := 20) rfl (by kernel_rfl) rfl (fun _ _ _ h => h) (by kernel_rfl) (fun _ => by go_simp; try rfl) ?_; (try simp only [Act.put, List.setIfInBounds_toArray, List.set_cons_zero, List.set_cons_succ]))
        | (refine wpAnyT_skip (i := 20) rfl (by kernel_rfl) (by first | (simp [Region.wanted, yielded]; done) | (simp [Region.wanted, yielded, undef, *]; done)) (fun _ _ _ h => h) (fun h_ => absurd h_ (by decide)) ?_; (try simp only [Act.put, List.setIfInBounds_toArray, List.set_cons_zero, List.set_cons_succ]))
        | (refine wpAnyT_free (i := 20) rfl (by kernel_rfl) (by first | (simp [Region.wanted, yielded]; done) | (simp [Region.wanted, yielded, undef, *]; done)) (fun _ _ _ h => h) (by kernel_rfl) (fun _ => by go_simp; try rfl) ?_; (try simp only [Act.put, List.setIfInBounds_toArray, List.set_cons_zero, List.set_cons_succ]))
        first
        | (refine wpAnyT_skip (i := 21) rfl (by kernel_rfl) rfl (fun _ _ _ h => h) (fun _ => ⟨y1, y2, y3, k0, k1, k2, s2', s1'⟩) ?_; (try simp only [Act.put, List.setIfInBounds_toArray, List.set_cons_zero, List.set_cons_succ]))
        | (refine wpAnyT_read (i := 21) rfl (by kernel_rfl) rfl (fun _ _ _ h => h) (by kernel_rfl) (⟨y1, y2, y3, k0, k1, k2, s2', s1'⟩) (fun w hS_ => by obtain ⟨s_1, s_2, s_3, s_4, s_5, s_6, s_7, s_8⟩ := hS_; go_simp; try rfl) ?_; (try simp only [Act.put, List.setIfInBounds_toArray, List.set_cons_zero, List.set_cons_succ]))
        | (refine wpAnyT_skip (i := 21) rfl (by kernel_rfl) (by first | (simp [Region.wanted, yielded]; done) | (simp [Region.wanted, yielded, undef, *]; done)) (fun _ _ _ h => h) (fun _ => ⟨y1, y2, y3, k0, k1, k2, s2', s1'⟩) ?_; (try simp only [Act.put, List.setIfInBounds_toArray, List.set_cons_zero, List.set_cons_succ]))
        | (refine wpAnyT_read (i := 21) rfl (by kernel_rfl) (by first | (simp [Region.wanted, yielded]; done) | (simp [Region.wanted, yielded, undef, *]; done)) (fun _ _ _ h => h) (by kernel_rfl) (⟨y1, y2, y3, k0, k1, k2, s2', s1'⟩) (fun w hS_ => by obtain ⟨s_1, s_2, s_3, s_4, s_5, s_6, s_7, s_8⟩ := hS_; go_simp; try rfl) ?_; (try simp only [Act.put, List.setIfInBounds_toArray, List.set_cons_zero, List.set_cons_succ]))
        first
        | (refine wpAnyT_skip (i := 22) rfl (by kernel_rfl) rfl (fun _ _ _ h => h) (fun h_ => absurd h_ (by decide)) ?_; (try simp only [Act.put, List.setIfInBounds_toArray, List.set_cons_zero, List.set_cons_succ]))
        | (refine wpAnyT_free (i := 22) rfl (by kernel_rfl) rfl (fun _ _ _ h => h) (by kernel_rfl) (fun _ => by go_simp; try rfl) ?_; (try simp only [Act.put, List.setIfInBounds_toArray, List.set_cons_zero, List.set_cons_succ]))
        | (refine wpAnyT_skip (i := 22) rfl (by kernel_rfl) (by first | (simp [Region.wanted, yielded]; done) | (simp [Region.wanted, yielded, undef, *]; done)) (fun _ _ _ h => h) (fun h_ => absurd h_ (by decide)) ?_; (try simp only [Act.put, List.setIfInBounds_toArray, List.set_cons_zero, List.set_cons_succ]))
        | (refine wpAnyT_free (i := 22) rfl (by kernel_rfl) (by first | (simp [Region.wanted, yielded]; done) | (simp [Region.wanted, yielded, undef, *]; done)) (fun _ _ _ h => h) (by kernel_rfl) (fun _ => by go_simp; try rfl) ?_; (try simp only [Act.put, List.setIfInBounds_toArray, List.set_cons_zero, List.set_cons_succ]))
        (refine wpAnyT_free (i := 23) rfl (by kernel_rfl) rfl (fun _ _ _ h => h) (by kernel_rfl) (fun _ => by go_simp; try rfl) ?_; (try simp only [Act.put, List.setIfInBounds_toArray, List.set_cons_zero, List.set_cons_succ]))
        (refine wpAnyT_free (i := 24) rfl (by kernel_rfl) rfl (fun _ _ _ h => h) (by kernel_rfl) (fun _ => by go_simp; try rfl) ?_; (try simp only [Act.put, List.setIfInBounds_toArray, List.set_cons_zero, List.set_cons_succ]))
        first
        | (refine wpAnyT_skip (i := 25) rfl (by kernel_rfl) rfl (fun _ _ _ h => h) (fun h_ => absurd h_ (by decide)) ?_; (try simp only [Act.put, List.setIfInBounds_toArray, List.set_cons_zero, List.set_cons_succ]))
        | (refine wpAnyT_free (i := 25) rfl (by kernel_rfl) rfl (fun _ _ _ h => h) (by kernel_rfl) (fun _ => by go_simp; try rfl) ?_; (try simp only [Act.put, List.setIfInBounds_toArray, List.set_cons_zero, List.set_cons_succ]))
        | (refine wpAnyT_skip (i := 25) rfl (by kernel_rfl) (by first | (simp [Region.wanted, yielded]; done) | (simp [Region.wanted, yielded, undef, *]; done)) (fun _ _ _ h => h) (fun h_ => absurd h_ (by decide)) ?_; (try simp only [Act.put, List.setIfInBounds_toArray, List.set_cons_zero, List.set_cons_succ]))
        | (refine wpAnyT_free (i := 25) rfl (by kernel_rfl) (by first | (simp [Region.wanted, yielded]; done) | (simp [Region.wanted, yielded, undef, *]; done)) (fun _ _ _ h => h) (by kernel_rfl) (fun _ => by go_simp; try rfl) ?_; (try simp only [Act.put, List.setIfInBounds_toArray, List.set_cons_zero, List.set_cons_succ]))
        first
        | (refine wpAnyT_skip (i := 26) rfl (by kernel_rfl) rfl (fun _ _ _ h => h) (fun h_ => absurd h_ (by decide)) ?_; (try simp only [Act.put, List.setIfInBounds_toArray, List.set_cons_zero, List.set_cons_succ]))
        | (refine wpAnyT_free (i := 26) rfl (by kernel_rfl) rfl (fun _ _ _ h => h) (by kernel_rfl) (fun _ => by go_simp; try rfl) ?_; (try simp only [Act.put, List.setIfInBounds_toArray, List.set_cons_zero, List.set_cons_succ]))
        | (refine wpAnyT_skip (i := 26) rfl (by kernel_rfl) (by first | (simp [Region.wanted, yielded]; done) | (simp [Region.wanted, yielded, undef, *]; done)) (fun _ _ _ h => h) (fun h_ => absurd h_ (by decide)) ?_; (try simp only [Act.put, List.setIfInBounds_toArray, List.set_cons_zero, List.set_cons_succ]))
        | (refine wpAnyT_free (i := 26) rfl (by kernel_rfl) (by first | (simp [Region.wanted, yielded]; done) | (simp [Region.wanted, yielded, undef, *]; done)) (fun _ _ _ h => h) (by kernel_rfl) (fun _ => by go_simp; try rfl) ?_; (try simp only [Act.put, List.setIfInBounds_toArray, List.set_cons_zero, List.set_cons_succ]))
        first
        | (refine wpAnyT_skip (i := 27) rfl (by kernel_rfl) rfl (fun _ _ _ h => h) (fun h_ => absurd h_ (by decide)) ?_; (try simp only [Act.put, List.setIfInBounds_toArray, List.set_cons_zero, List.set_cons_succ]))
        | (refine wpAnyT_free (i := 27) rfl (by kernel_rfl) rfl (fun _ _ _ h => h) (by kernel_rfl) (fun _ => by go_simp; try rfl) ?_; (try simp only [Act.put, List.setIfInBounds_toArray, List.set_cons_zero, List.set_cons_succ]))
        | (refine wpAnyT_skip (i := 27) rfl (by kernel_rfl) (by first | (simp [Region.wanted, yielded]; done) | (simp [Region.wanted, yielded, undef, *]; done)) (fun _ _ _ h => h) (fun h_ => absurd h_ (by decide)) ?_; (try simp only [Act.put, List.setIfInBounds_toArray, List.set_cons_zero, List.set_cons_succ]))
        | (refine wpAnyT_free (i := 27) rfl (by kernel_rfl) (by first | (simp [Region.wanted, yielded]; done) | (simp [Region.wanted, yielded, undef, *]; done)) (fun _ _ _ h => h) (by kernel_rfl) (fun _ => by go_simp; try rfl) ?_; (try simp only [Act.put, List.setIfInBounds_toArray, List.set_cons_zero, List.set_cons_succ]))
        first
        | (refine wpAnyT_skip (i := 28) rfl (by kernel_rfl) rfl (fun _ _ _ h => h) (fun h_ => absurd h_ (by decide)) ?_; (try simp only [Act.put, List.setIfInBounds_toArray, List.set_cons_zero, List.set_cons_succ]))
        | (refine wpAnyT_free (i := 28) rfl (by kernel_rfl) rfl (fun _ _ _ h => h) (by kernel_rfl) (fun _ => by go_simp; try rfl) ?_; (try simp only [Act.put, List.setIfInBounds_toArray, List.set_cons_zero, List.set_cons_succ]))
        | (refine wpAnyT_skip (i := 28) rfl (by kernel_rfl) (by first | (simp [Region.wanted, yielded]; done) | (simp [Region.wanted, yielded, undef, *]; done)) (fun _ _ _ h => h) (fun h_ => absurd h_ (by decide)) ?_; (try simp only [Act.put, List.setIfInBounds_toArray, List.set_cons_zero, List.set_cons_succ]))
        | (refine wpAnyT_free (i := 28) rfl (by kernel_rfl) (by first | (simp [Region.wanted, yielded]; done) | (simp [Region.wanted, yielded, undef, *]; done)) (fun _ _ _ h => h) (by kernel_rfl) (fun _ => by go_simp; try rfl) ?_; (try simp only [Act.put, List.setIfInBounds_toArray, List.set_cons_zero, List.set_cons_succ]))
        first
        | (refine wpAnyT_skip (i := 29) rfl (by kernel_rfl) rfl (fun _ _ _ h => h) (fun _ => ⟨y1, y2, y3, k0, k1, k2, s2', s1'⟩) ?_; (try simp only [Act.put, List.setIfInBounds_toArray, List.set_cons_zero, List.set_cons_succ]))
        | (refine wpAnyT_read (i := 29) rfl (by kernel_rfl) rfl (fun _ _ _ h => h) (by kernel_rfl) (⟨y1, y2, y3, k0, k1, k2, s2', s1'⟩) (fun w hS_ => by obtain ⟨s_1, s_2, s_3, s_4, s_5, s_6, s_7, s_8⟩ := hS_; go_simp; try rfl) ?_; (try simp only [Act.put, List.setIfInBounds_toArray, List.set_cons_zero, List.set_cons_succ]))
        | (refine wpAnyT_skip (i := 29) rfl (by kernel_rfl) (by first | (simp [Region.wanted, yielded]; done) | (simp [Region.wanted, yielded, undef, *]; done)) (fun _ _ _ h => h) (fun _ => ⟨y1, y2, y3, k0, k1, k2, s2', s1'⟩) ?_; (try simp only [Act.put, List.setIfInBounds_toArray, List.set_cons_zero, List.set_cons_succ]))
        | (refine wpAnyT_read (i := 29) rfl (by kernel_rfl) (by first | (simp [Region.wanted, yielded]; done) | (simp [Region.wanted, yielded, undef, *]; done)) (fun _ _ _ h => h) (by kernel_rfl) (⟨y1, y2, y3, k0, k1, k2, s2', s1'⟩) (fun w hS_ => by obtain ⟨s_1, s_2, s_3, s_4, s_5, s_6, s_7, s_8⟩ := hS_; go_simp; try rfl) ?_; (try simp only [Act.put, List.setIfInBounds_toArray, List.set_cons_zero, List.set_cons_succ]))
        first
        | (refine wpAnyT_skip (i := 30) rfl (by kernel_rfl) rfl (fun _ _ _ h => h) (fun _ => ⟨y1, y2, y3, k0, k1, k2, s2', s1'⟩) ?_; (try simp only [Act.put, List.setIfInBounds_toArray, List.set_cons_zero, List.set_cons_succ]))
        | (refine wpAnyT_read (i := 30) rfl (by kernel_rfl) rfl (fun _ _ _ h => h) (by kernel_rfl) (⟨y1, y2, y3, k0, k1, k2, s2', s1'⟩) (fun w hS_ => by obtain ⟨s_1, s_2, s_3, s_4, s_5, s_6, s_7, s_8⟩ := hS_; go_simp; try rfl) ?_; (try simp only [Act.put, List.setIfInBounds_toArray, List.set_cons_zero, List.set_cons_succ]))
        | (refine wpAnyT_skip (i := 30) rfl (by kernel_rfl) (by first | (simp [Region.wanted, yielded]; done) | (simp [Region.wanted, yielded, undef, *]; done)) (fun _ _ _ h => h) (fun _ => ⟨y1, y2, y3, k0, k1, k2, s2', s1'⟩) ?_; (try simp only [Act.put, List.setIfInBounds_toArray, List.set_cons_zero, List.set_cons_succ]))
        | (refine wpAnyT_read (i := 30) rfl (by kernel_rfl) (by first | (simp [Region.wanted, yielded]; done) | (simp [Region.wanted, yielded, undef, *]; done)) (fun _ _ _ h => h) (by kernel_rfl) (⟨y1, y2, y3, k0, k1, k2, s2', s1'⟩) (fun w hS_ => by obtain ⟨s_1, s_2, s_3, s_4, s_5, s_6, s_7, s_8⟩ := hS_; go_simp; try rfl) ?_; (try simp only [Act.put, List.setIfInBounds_toArray, List.set_cons_zero, List.set_cons_succ]))
        first
        | (refine wpAnyT_skip (i := 31) rfl (by kernel_rfl) rfl (fun _ _ _ h => h) (fun h_ => absurd h_ (by decide)) ?_; (try simp only [Act.put, List.setIfInBounds_toArray, List.set_cons_zero, List.set_cons_succ]))
        | (refine wpAnyT_free (i := 31) rfl (by kernel_rfl) rfl (fun _ _ _ h => h) (by kernel_rfl) (fun _ => by go_simp; try rfl) ?_; (try simp only [Act.put, List.setIfInBounds_toArray, List.set_cons_zero, List.set_cons_succ]))
        | (refine wpAnyT_skip (i := 31) rfl (by kernel_rfl) (by first | (simp [Region.wanted, yielded]; done) | (simp [Region.wanted, yielded, undef, *]; done)) (fun _ _ _ h => h) (fun h_ => absurd h_ (by decide)) ?_; (try simp only [Act.put, List.setIfInBounds_toArray, List.set_cons_zero, List.set_cons_succ]))
        | (refine wpAnyT_free (i := 31) rfl (by kernel_rfl) (by first | (simp [Region.wanted, yielded]; done) | (simp [Region.wanted, yielded, undef, *]; done)) (fun _ _ _ h => h) (by kernel_rfl) (fun _ => by go_simp; try rfl) ?_; (try simp only [Act.put, List.setIfInBounds_toArray, List.set_cons_zero, List.set_cons_succ]))
        first
        | (refine wpAnyT_skip (i := 32) rfl (by kernel_rfl) rfl (fun _ _ _ h => h) (fun _ => ⟨y1, y2, y3, k0, k1, k2, s2', s1'⟩) ?_; (try simp only [Act.put, List.setIfInBounds_toArray, List.set_cons_zero, List.set_cons_succ]))
        | (refine wpAnyT_read (i := 32) rfl (by kernel_rfl) rfl (fun _ _ _ h => h) (by kernel_rfl) (⟨y1, y2, y3, k0, k1, k2, s2', s1'⟩) (fun w hS_ => by obtain ⟨s_1, s_2, s_3, s_4, s_5, s_6, s_7, s_8⟩ := hS_; go_simp; try rfl) ?_; (try simp only [Act.put, List.setIfInBounds_toArray, List.set_cons_zero, List.set_cons_succ]))
        | (refine wpAnyT_skip (i := 32) rfl (by kernel_rfl) (by first | (simp [Region.wanted, yielded]; done) | (simp [Region.wanted, yielded, undef, *]; done)) (fun _ _ _ h => h) (fun _ => ⟨y1, y2, y3, k0, k1, k2, s2', s1'⟩) ?_; (try simp only [Act.put, List.setIfInBounds_toArray, List.set_cons_zero, List.set_cons_succ]))
        | (refine wpAnyT_read (i := 32) rfl (by kernel_rfl) (by first | (simp [Region.wanted, yielded]; done) | (simp [Region.wanted, yielded, undef, *]; done)) (fun _ _ _ h => h) (by kernel_rfl) (⟨y1, y2, y3, k0, k1, k2, s2', s1'⟩) (fun w hS_ => by obtain ⟨s_1, s_2, s_3, s_4, s_5, s_6, s_7, s_8⟩ := hS_; go_simp; try rfl) ?_; (try simp only [Act.put, List.setIfInBounds_toArray, List.set_cons_zero, List.set_cons_succ]))
        first
        | (refine wpAnyT_skip (i := 33) rfl (by kernel_rfl) rfl (fun _ _ _ h => h) (fun _ => ⟨y1, y2, y3, k0, k1, k2, s2', s1'⟩) ?_; (try simp only [Act.put, List.setIfInBounds_toArray, List.set_cons_zero, List.set_cons_succ]))
        | (refine wpAnyT_read (i := 33) rfl (by kernel_rfl) rfl (fun _ _ _ h => h) (by kernel_rfl) (⟨y1, y2, y3, k0, k1, k2, s2', s1'⟩) (fun w hS_ => by obtain ⟨s_1, s_2, s_3, s_4, s_5, s_6, s_7, s_8⟩ := hS_; go_simp; try rfl) ?_; (try simp only [Act.put, List.setIfInBounds_toArray, List.set_cons_zero, List.set_cons_succ]))
        | (refine wpAnyT_skip (i := 33) rfl (by kernel_rfl) (by first | (simp [Region.wanted, yielded]; done) | (simp [Region.wanted, yielded, undef, *]; done)) (fun _ _ _ h => h) (fun _ => ⟨y1, y2, y3, k0, k1, k2, s2', s1'⟩) ?_; (try simp only [Act.put, List.setIfInBounds_toArray, List.set_cons_zero, List.set_cons_succ]))
        | (refine wpAnyT_read (i := 33) rfl (by kernel_rfl) (by first | (simp [Region.wanted, yielded]; done) | (simp [Region.wanted, yielded, undef, *]; done)) (fun _ _ _ h => h) (by kernel_rfl) (⟨y1, y2, y3, k0, k1, k2, s2', s1'⟩) (fun w hS_ => by obtain ⟨s_1, s_2, s_3, s_4, s_5, s_6, s_7, s_8⟩ := hS_; go_simp; try rfl) ?_; (try simp only [Act.put, List.setIfInBounds_toArray, List.set_cons_zero, List.set_cons_succ]))
        first
        | (refine wpAnyT_skip (i := 34) rfl (by kernel_rfl) rfl (fun _ _ _ h => h) (fun h_ => absurd h_ (by decide)) ?_; (try simp only [Act.put, List.setIfInBounds_toArray, List.set_cons_zero, List.set_cons_succ]))
        | (refine wpAnyT_free (i := 34) rfl (by kernel_rfl) rfl (fun _ _ _ h => h) (by kernel_rfl) (fun _ => by go_simp; try rfl) ?_; (try simp only [Act.put, List.setIfInBounds_toArray, List.set_cons_zero, List.set_cons_succ]))
        | (refine wpAnyT_skip (i := 34) rfl (by kernel_rfl) (by first | (simp [Region.wanted, yielded]; done) | (simp [Region.wanted, yielded, undef, *]; done)) (fun _ _ _ h => h) (fun h_ => absurd h_ (by decide)) ?_; (try simp only [Act.put, List.setIfInBounds_toArray, List.set_cons_zero, List.set_cons_succ]))
        | (refine wpAnyT_free (i := 34) rfl (by kernel_rfl) (by first | (simp [Region.wanted, yielded]; done) | (simp [Region.wanted, yielded, undef, *]; done)) (fun _ _ _ h => h) (by kernel_rfl) (fun _ => by go_simp; try rfl) ?_; (try simp only [Act.put, List.setIfInBounds_toArray, List.set_cons_zero, List.set_cons_succ]))
        (refine wpAnyT_free (i := 35) rfl (by kernel_rfl) rfl (fun _ _ _ h => h) (by kernel_rfl) (fun _ => by go_simp; try rfl) ?_; (try simp only [Act.put, List.setIfInBounds_toArray, List.set_cons_zero, List.set_cons_succ]))
        refine wpAnyT_done (by kernel_rfl) ?_ _
        go_wp2
        go_roundw
        case rel => exact ⟨k + 1, by have := KL.out; omega, by go_num, by rw [F2.out]; go_num, (hb9.trans (hba.mono hb9.size)).drew⟩
        case measure => have := KL.out; simp [intOf]; omega
      · have F2 := Lib.hid (filter_not (fun p : Nat × Hd => decide (kk ≤ p.1)) hp (decide_eq_false hsl))
        have g1 : decide (p.1 < kk) = true := decide_eq_true (by omega)
        clear hp hw4 hn4 x4 hsub hlt hsl
        generalize ((H.take k).filter (fun p => decide (kk ≤ p.1))).length = m at *
        obtain ⟨sl, bl, vl⟩ := p
        simp only at x1 x2 x3 hba za oa g1
        have k0 := za.cell 0 (v := .int .i64 (sl : Int)) rfl
        go_wp2
        go_roundw
        case rel => exact ⟨k + 1, by have := KL.out; omega, by go_num, by rw [F2.out], hb9.trans (hba.mono hb9.size)⟩
        case measure => have := KL.out; simp [intOf]; omega
    · obtain rfl : k = H.length := by omega
      rw [List.take_length, ← HF.out]
      have h9 := h4.mono' hb9
      obtain ⟨s2, e2, i2, d2, y2, t2, -⟩ := f1.inv.sync d1
      obtain ⟨s3, e3, i3, d3, y3, -⟩ := i2.crash d2 0 0 (by decide)
      have hk0 : i64 0 := by unfold i64; omega
      have E2 := Lib.hid e2
      have E3 := Lib.hid e3
      have Y := Lib.hid (y3.trans y2)
      have T2 := Lib.hid t2
      clear e2 e3 y2 y3 t2 hw4 hn4 hsub HF
      by_cases hz : kk = 0
      · subst hz
        have hSy := sync_S h9
        unfold LiveSDid at hSy
        rw [E2.out] at hSy
        go_wp2_with (first
          | (go_at_call 59; refine hSy.mono ?_; rintro e w5 ⟨rfl, h5, -, -⟩; have hC := crash_S h5 0 0 hk0 hk0; unfold LiveSDid at hC; rw [E3.out] at hC; clear hSy)
          | (go_at_call 62; refine hC.mono ?_; rintro e w6 ⟨rfl, h6, -, -⟩; have hR := restart_S h6 hh i3 d3; clear hC)
          | (go_at_call 64; refine hR.mono ?_; rintro e w7 ⟨j, s4, rfl, h7, -, -, hro⟩; have hst := (i2.back d2 Y.out hro).trans T2.out; have u4 := hro.down; have hBc := base_S h7 u4; rw [hst, B1.out] at hBc; clear hR hro)
          | (go_at_call 69; refine hBc.mono ?_; rintro e w7a ⟨rfl, rfl⟩; have hWk := works_08 _ _ h7.below hh; clear hBc)
          | (go_at_call 65; refine hWk.mono ?_; rintro e w8 ⟨rfl, hb8⟩; clear hWk))
        go_ret
        exact ⟨rfl, hb8⟩
      · obtain ⟨r, rfl⟩ : ∃ r, kk = r + 1 := ⟨kk - 1, by omega⟩
        have wr1 : IntKind.i64.wrap (((r + 1 : Nat) : Int) - 1) = (r : Int) := by rw [IntKind.wrap_i64]; omega
        have hgt : (0 : Int) < ((r + 1 : Nat) : Int) := by omega
        have EA := Lib.hid (f1.inv.old8 d1 r s.st.promised (by rw [B1.out]; omega) hpr0 [])
        have hAc := accept_S h9 hh f1.inv (by have := f1.few; omega) (r : Int) (s.st.promised : Int) none [] 0 (fun S _ => Rd.nil _ _ _) (by decide)
        unfold LiveSDid at hAc
        rw [EA.out, List.length_nil] at hAc
        clear hz
        go_wp2_with (first
          | (go_at_call 66; refine hAc.mono ?_; rintro e w4b ⟨rfl, h4b, -, -⟩; have hSy := sync_S h4b; unfold LiveSDid at hSy; rw [E2.out] at hSy; clear hAc)
          | (go_at_call 59; refine hSy.mono ?_; rintro e w5 ⟨rfl, h5, -, -⟩; have hC := crash_S h5 0 0 hk0 hk0; unfold LiveSDid at hC; rw [E3.out] at hC; clear hSy)
          | (go_at_call 62; refine hC.mono ?_; rintro e w6 ⟨rfl, h6, -, -⟩; have hR := restart_S h6 hh i3 d3; clear hC)
          | (go_at_call 64; refine hR.mono ?_; rintro e w7 ⟨j, s4, rfl, h7, -, -, hro⟩; have hst := (i2.back d2 Y.out hro).trans T2.out; have u4 := hro.down; have hBc := base_S h7 u4; rw [hst, B1.out] at hBc; clear hR hro)
          | (go_at_call 69; refine hBc.mono ?_; rintro e w7a ⟨rfl, rfl⟩; have hWk := works_08 _ _ h7.below hh; clear hBc)
          | (go_at_call 65; refine hWk.mono ?_; rintro e w8 ⟨rfl, hb8⟩; clear hWk))
        go_ret
        exact ⟨rfl, hb8⟩
end Go.Proofs.YtediidajdpdeiaaDoor

/- What a law of the log is handed: calls, a call, two ints. -/
namespace Go.Proofs.YtediidajdpdeiaaDoor
open Go.RowKit Go.ChangeShapes Go.WideShapes Go.ChangeAt

section
variable {H : Type} {enc : TypeId × Value → H} {W W' : World}

set_option maxRecDepth 100000 in
theorem open_acts7 {fuel : Nat} {cs : List Value} {d : DataW H} {p : List MemPlace}
    (h : DataW.trod enc Tryd.prog W 0 (fun _ => true) true fuel 61 cs = some (d, p)) (hlt : ∀ x ∈ p, x.block < W.heap.size) :
    ∃ A acts c, cs = [.slice A (acts.length) c] ∧ acts.length ≤ maxLen ∧ ActsAt W A acts := by
  obtain ⟨A, len, cap, rfl, hl, hm, hi⟩ := open_structs (P := Tryd.prog) Tryd.underlying61 Tryd.underlying69 (by kernel_rfl) (by kernel_rfl) (by decide) h hlt
  have each : ∀ i, ∃ a : Act07, i < len → ∃ g o B c, A = some ⟨g, o, none⟩ ∧ g < W.heap.size ∧
      W.cell? ⟨g, o + i * 4, none⟩ = some (.int .i64 a.kind) ∧ W.cell? ⟨g, o + i * 4 + 1, none⟩ = some (.int .i64 a.n) ∧ W.cell? ⟨g, o + i * 4 + 2, none⟩ = some (.int .i64 a.flip) ∧
      W.cell? ⟨g, o + i * 4 + 3, none⟩ = some (.slice B a.b.length c) ∧ a.b.length ≤ c ∧ c ≤ maxLen ∧ RdB W B a.b ∧ i64 a.kind ∧ i64 a.n ∧ i64 a.flip := by
    intro i
    by_cases hil : i < len
    · obtain ⟨g, o, hA, hg, hf⟩ := hi i hil
      obtain ⟨v0, n0, y0, q0, c0, t0, _⟩ := hf 0 _ rfl
      obtain ⟨v1, n1, y1, q1, c1, t1, _⟩ := hf 1 _ rfl
      obtain ⟨v2, n2, y2, q2, c2, t2, _⟩ := hf 2 _ rfl
      obtain ⟨v3, n3, y3, q3, c3, t3, hq3⟩ := hf 3 _ rfl
      obtain ⟨k0, e0, hx0, w0⟩ := DataW.trod_int (P := Tryd.prog) Tryd.underlying3 t0
      obtain ⟨k1, e1, hx1, w1⟩ := DataW.trod_int (P := Tryd.prog) Tryd.underlying3 t1
      obtain ⟨k2, e2, hx2, w2⟩ := DataW.trod_int (P := Tryd.prog) Tryd.underlying3 t2
      obtain ⟨B, l, cc, e3, hl3, hm3, hr3⟩ := open_bytes (P := Tryd.prog) Tryd.underlying22 Tryd.underlying5 cells_u8 t3 hq3
      simp only [List.cons.injEq, and_true] at e0 e1 e2 e3
      subst e0 e1 e2 e3
      exact ⟨⟨k0, k1, k2, l⟩, fun _ => ⟨g, o, B, cc, hA, hg, c0, by simpa [Nat.add_assoc] using c1, by simpa [Nat.add_assoc] using c2, by simpa [Nat.add_assoc] using c3, hl3, hm3, hr3, i64_of w0, i64_of w1, i64_of w2⟩⟩
    · exact ⟨⟨0, 0, 0, []⟩, fun h => absurd h hil⟩
  have hch := Classical.axiomOfChoice each
  obtain ⟨f, hf⟩ := hch
  have hlen : ((List.range len).map f).length = len := by simp
  refine ⟨A, (List.range len).map f, cap, by rw [hlen], by rw [hlen]; omega, ?_⟩
  intro j a ha
  have hj : j < len := by rw [← hlen]; exact (List.getElem?_eq_some_iff.1 ha).1
  rw [List.getElem?_map, List.getElem?_range hj] at ha
  injection ha with ha
  subst ha
  exact hf j hj

set_option maxRecDepth 100000 in
/-- a call that is handed in by value -/
theorem open_act7 {base : Nat} {v : Value} {d : DataW H} {p : List MemPlace} (hv : Value.okWide Tryd.prog W .any base 69 v) (h : DataW.Trod enc Tryd.prog W 0 (fun _ => true) true 69 v d p)
    (hlt : ∀ x ∈ p, x.block < W.heap.size) :
    ∃ (a : Act07) (B : Option Addr) (c : Nat), v = .agg #[.int .i64 a.kind, .int .i64 a.n, .int .i64 a.flip, .slice B a.b.length c] ∧ a.b.length ≤ c ∧ c ≤ maxLen ∧ RdB W B a.b ∧ i64 a.kind ∧ i64 a.n ∧ i64 a.flip := by
  obtain ⟨v0, v1, v2, v3, y0, y1, y2, y3, n, rfl, rfl, rfl, t0, t1, t2, t3⟩ := Joins.open_agg4 (P := Tryd.prog) Tryd.underlying69 (by kernel_rfl) (by kernel_rfl) hv h
  obtain ⟨k0, e0, _, w0⟩ := DataW.trod_int (P := Tryd.prog) Tryd.underlying3 t0
  obtain ⟨k1, e1, _, w1⟩ := DataW.trod_int (P := Tryd.prog) Tryd.underlying3 t1
  obtain ⟨k2, e2, _, w2⟩ := DataW.trod_int (P := Tryd.prog) Tryd.underlying3 t2
  obtain ⟨B, l, cc, e3, hl3, hm3, hr3⟩ := open_bytes (P := Tryd.prog) Tryd.underlying22 Tryd.underlying5 cells_u8 (p := y3.2) (d := y3.1) t3 (fun x hx => hlt x (by simp [hx]))
  simp only [List.cons.injEq, and_true] at e0 e1 e2 e3
  subst e0 e1 e2 e3
  exact ⟨⟨k0, k1, k2, l⟩, B, cc, rfl, hl3, hm3, hr3, i64_of w0, i64_of w1, i64_of w2⟩

set_option maxRecDepth 100000 in
/-- two ints in an array that is handed in by value -/
theorem open_arr2 {base : Nat} {v : Value} {d : DataW H} {p : List MemPlace} (hv : Value.okWide Tryd.prog W .any base 62 v) (h : DataW.Trod enc Tryd.prog W 0 (fun _ => true) true 62 v d p) :
    ∃ x y : Int, v = .agg #[.int .i64 x, .int .i64 y] ∧ i64 x ∧ i64 y := by
  have hv' := hv
  simp only [Value.okWide, Tryd.underlying62] at hv'
  obtain ⟨cs, rfl, hsz, _⟩ := hv'
  have hc : Tryd.prog.cellsOf 62 = 2 := by kernel_rfl
  have hi : Tryd.prog.cellsOf 3 = 1 := by kernel_rfl
  rw [hc] at hsz
  obtain ⟨c0, c1, rfl⟩ : ∃ c0 c1, cs = #[c0, c1] := by
    obtain ⟨l⟩ := cs
    match l, hsz with
    | [a, b], _ => exact ⟨a, b, rfl⟩
  obtain ⟨fuel, hf⟩ := h
  obtain ⟨xs, m, _, _, _, hxl, hat⟩ := DataW.trod_array (P := Tryd.prog) Tryd.underlying62 hf
  have h0 := hat 0 (by omega)
  have h1 := hat 1 (by omega)
  rw [hi] at h0 h1
  rw [List.getElem?_eq_getElem (by omega)] at h0 h1
  obtain ⟨k0, e0, _, w0⟩ := DataW.trod_int (P := Tryd.prog) Tryd.underlying3 h0
  obtain ⟨k1, e1, _, w1⟩ := DataW.trod_int (P := Tryd.prog) Tryd.underlying3 h1
  simp [Value.cells] at e0 e1
  subst e0 e1
  exact ⟨k0, k1, rfl, i64_of w0, i64_of w1⟩

end
end Go.Proofs.YtediidajdpdeiaaDoor

/- What a law of the store is handed: calls, a call. -/
namespace Go.Proofs.YtediidajdpdeiaaDoor
open Go.RowKit Go.ChangeShapes Go.WideShapes Go.ChangeAt

theorem array5 {α : Type} {cs : Array α} (h : cs.size = 5) : ∃ c0 c1 c2 c3 c4, cs = #[c0, c1, c2, c3, c4] := by
  obtain ⟨l⟩ := cs
  match l, h with
  | [c0, c1, c2, c3, c4], _ => exact ⟨c0, c1, c2, c3, c4, rfl⟩
theorem list5 {α : Type} {cs : List α} (h : cs.length = 5) : ∃ c0 c1 c2 c3 c4, cs = [c0, c1, c2, c3, c4] := by
  match cs, h with
  | [c0, c1, c2, c3, c4], _ => exact ⟨c0, c1, c2, c3, c4, rfl⟩

section
variable {H : Type} {enc : TypeId × Value → H} {W W' : World}

set_option maxRecDepth 100000 in
theorem open_acts8 {fuel : Nat} {cs : List Value} {d : DataW H} {p : List MemPlace}
    (h : DataW.trod enc Tryd.prog W 0 (fun _ => true) true fuel 93 cs = some (d, p)) (hlt : ∀ x ∈ p, x.block < W.heap.size) :
    ∃ A acts c, cs = [.slice A (acts.length) c] ∧ acts.length ≤ maxLen ∧ ActsAt8 W A acts := by
  obtain ⟨A, len, cap, rfl, hl, hm, hi⟩ := open_structs (P := Tryd.prog) Tryd.underlying93 Tryd.underlying102 (by kernel_rfl) (by kernel_rfl) (by decide) h hlt
  have each : ∀ i, ∃ a : Act08, i < len → ∃ g o B c, A = some ⟨g, o, none⟩ ∧ g < W.heap.size ∧
      W.cell? ⟨g, o + i * 5, none⟩ = some (.int .i64 a.kind) ∧ W.cell? ⟨g, o + i * 5 + 1, none⟩ = some (.int .i64 a.n) ∧ W.cell? ⟨g, o + i * 5 + 2, none⟩ = some (.int .i64 a.slot) ∧ W.cell? ⟨g, o + i * 5 + 3, none⟩ = some (.int .i64 a.flip) ∧
      W.cell? ⟨g, o + i * 5 + 4, none⟩ = some (.slice B a.b.length c) ∧ a.b.length ≤ c ∧ c ≤ maxLen ∧ RdB W B a.b ∧ i64 a.kind ∧ i64 a.n ∧ i64 a.slot ∧ i64 a.flip := by
    intro i
    by_cases hil : i < len
    · obtain ⟨g, o, hA, hg, hf⟩ := hi i hil
      obtain ⟨v0, n0, y0, q0, c0, t0, _⟩ := hf 0 _ rfl
      obtain ⟨v1, n1, y1, q1, c1, t1, _⟩ := hf 1 _ rfl
      obtain ⟨v2, n2, y2, q2, c2, t2, _⟩ := hf 2 _ rfl
      obtain ⟨v3, n3, y3, q3, c3, t3, _⟩ := hf 3 _ rfl
      obtain ⟨v4, n4, y4, q4, c4, t4, hq4⟩ := hf 4 _ rfl
      obtain ⟨k0, e0, hx0, w0⟩ := DataW.trod_int (P := Tryd.prog) Tryd.underlying3 t0
      obtain ⟨k1, e1, hx1, w1⟩ := DataW.trod_int (P := Tryd.prog) Tryd.underlying3 t1
      obtain ⟨k2, e2, hx2, w2⟩ := DataW.trod_int (P := Tryd.prog) Tryd.underlying3 t2
      obtain ⟨k3, e3, hx3, w3⟩ := DataW.trod_int (P := Tryd.prog) Tryd.underlying3 t3
      obtain ⟨B, l, cc, e4, hl4, hm4, hr4⟩ := open_bytes (P := Tryd.prog) Tryd.underlying22 Tryd.underlying5 cells_u8 t4 hq4
      simp only [List.cons.injEq, and_true] at e0 e1 e2 e3 e4
      subst e0 e1 e2 e3 e4
      exact ⟨⟨k0, k1, k2, k3, l⟩, fun _ => ⟨g, o, B, cc, hA, hg, c0, by simpa [Nat.add_assoc] using c1, by simpa [Nat.add_assoc] using c2, by simpa [Nat.add_assoc] using c3, by simpa [Nat.add_assoc] using c4, hl4, hm4, hr4, i64_of w0, i64_of w1, i64_of w2, i64_of w3⟩⟩
    · exact ⟨⟨0, 0, 0, 0, []⟩, fun h => absurd h hil⟩
  have hch := Classical.axiomOfChoice each
  obtain ⟨f, hf⟩ := hch
  have hlen : ((List.range len).map f).length = len := by simp
  refine ⟨A, (List.range len).map f, cap, by rw [hlen], by rw [hlen]; omega, ?_⟩
  intro j a ha
  have hj : j < len := by rw [← hlen]; exact (List.getElem?_eq_some_iff.1 ha).1
  rw [List.getElem?_map, List.getElem?_range hj] at ha
  injection ha with ha
  subst ha
  exact hf j hj

set_option maxRecDepth 100000 in
/-- a call that is handed in by value -/
theorem open_act8 {base : Nat} {v : Value} {d : DataW H} {p : List MemPlace} (hv : Value.okWide Tryd.prog W .any base 102 v) (h : DataW.Trod enc Tryd.prog W 0 (fun _ => true) true 102 v d p)
    (hlt : ∀ x ∈ p, x.block < W.heap.size) :
    ∃ (a : Act08) (B : Option Addr) (c : Nat), v = .agg #[.int .i64 a.kind, .int .i64 a.n, .int .i64 a.slot, .int .i64 a.flip, .slice B a.b.length c] ∧ a.b.length ≤ c ∧ c ≤ maxLen ∧ RdB W B a.b ∧ i64 a.kind ∧ i64 a.n ∧ i64 a.slot ∧ i64 a.flip := by
  obtain ⟨cs, rfl, hsz⟩ := okWide_struct Tryd.underlying102 hv
  obtain ⟨v0, v1, v2, v3, v4, rfl⟩ := array5 (hsz.trans (by kernel_rfl))
  obtain ⟨fuel, hf⟩ := h
  obtain ⟨xs, n, _, hx, hl, hlen, hat⟩ := DataW.trod_struct Tryd.underlying102 hf
  obtain ⟨y0, y1, y2, y3, y4, rfl⟩ := list5 hlen
  simp only [Prod.mk.injEq] at hx
  obtain ⟨rfl, rfl⟩ := hx
  have o1 : Tryd.prog.cellsOf 3 = 1 := by kernel_rfl
  have o2 : Tryd.prog.cellsOf 22 = 1 := by kernel_rfl
  have t0 := hat 0 _ rfl
  have t1 := hat 1 _ rfl
  have t2 := hat 2 _ rfl
  have t3 := hat 3 _ rfl
  have t4 := hat 4 _ rfl
  simp [Value.cells, o1, o2] at t0 t1 t2 t3 t4
  obtain ⟨k0, e0, _, w0⟩ := DataW.trod_int (P := Tryd.prog) Tryd.underlying3 t0
  obtain ⟨k1, e1, _, w1⟩ := DataW.trod_int (P := Tryd.prog) Tryd.underlying3 t1
  obtain ⟨k2, e2, _, w2⟩ := DataW.trod_int (P := Tryd.prog) Tryd.underlying3 t2
  obtain ⟨k3, e3, _, w3⟩ := DataW.trod_int (P := Tryd.prog) Tryd.underlying3 t3
  obtain ⟨B, l, cc, e4, hl4, hm4, hr4⟩ := open_bytes (P := Tryd.prog) Tryd.underlying22 Tryd.underlying5 cells_u8 (p := y4.2) (d := y4.1) t4 (fun x hx => hlt x (by simp [hx]))
  simp only [List.cons.injEq, and_true] at e0 e1 e2 e3 e4
  subst e0 e1 e2 e3 e4
  exact ⟨⟨k0, k1, k2, k3, l⟩, B, cc, rfl, hl4, hm4, hr4, i64_of w0, i64_of w1, i64_of w2, i64_of w3⟩
end
end Go.Proofs.YtediidajdpdeiaaDoor
