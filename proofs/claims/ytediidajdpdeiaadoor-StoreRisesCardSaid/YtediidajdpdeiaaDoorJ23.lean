/- StoreRises: the law's walk. -/
import Derived.Test.YtediidajdpdeiaaDoorJ22

namespace Go.Proofs.YtediidajdpdeiaaDoor
open Go.RowKit CrcM
set_option maxRecDepth 100000

set_option maxHeartbeats 8000000 in
theorem risesLaw_08 (W : World) (hh : HalfAt W) (per : Int) (A : Option Addr) (acts : List Act08) (c : Nat) (hA : ActsAt8 W A acts) (hlen : acts.length ≤ maxLen) (C : Option Addr) (more : List Act08) (cc : Nat) (hC : ActsAt8 W C more) (hlenC : more.length ≤ maxLen) :
    Calls Tryd.prog 17 #[.int .i64 per, .slice A acts.length c, .slice C more.length cc] W fun e w' => e = .returned (.bool true) ∧ Below W.heap.size W w' := by
  have hP := plays_08 W hh per A acts c hA hlen
  unfold maxLen at hlenC
  go_enter Tryd.func17, Tryd.ntmps17
  clear hA
  go_wp2_with (first
    | (go_at_call 58; refine hP.mono ?_; rintro e w1 ⟨b, s0, st0, rcs, rfl, h1, hf0, hd⟩; have hPr := promised_S h1 hd; have hH := has_S h1 (hf0.inv.st hd).1 (by decide) (by have := (hf0.inv.st hd).2; omega) hd; clear hP)
    | (go_at_call 60; refine hPr.mono ?_; rintro e w1a ⟨rfl, rfl⟩; clear hPr)
    | (go_at_call 61; refine hH.mono ?_; rintro e w2 ⟨A1, c1, rfl, hw2, h2, hb2⟩; clear hH))
  obtain ⟨was, hwas⟩ : ∃ was, was = s0.st.slots := ⟨_, rfl⟩
  have hov0 : Over was s0.st.slots := by rw [hwas]; exact Over.refl _
  rw [← hwas] at hw2 ⊢
  clear hwas
  generalize Up Non w1 w2 = X at *
  go_loopw [8, 10] (fun pv iv wr => ∃ (k : Nat) (s : So), k ≤ more.length ∧ k ≤ 30 ∧ iv = .int .i64 (k : Int) ∧ pv = .int .i64 (s.st.promised : Int) ∧ s.Sound 40 (50 + k) ∧ s.log.down = false ∧ Over was s.st.slots ∧ LiveS W wr b s X ∧ HeldS X wr A1 c1 was) (fun _ iv _ => 30 - (intOf iv).toNat)
  case atStart => exact ⟨0, s0, by omega, by omega, rfl, rfl, hf0.sound, hd, hov0, h2, hw2⟩
  case round =>
    obtain ⟨k, s, hk, hk30, rfl, rfl, ⟨st, rs, hf⟩, hup, hov, hL, hw⟩ := hrel
    clear hf0 hd hov0 h2 hw2 h1
    by_cases hltk : k < more.length ∧ k < 30
    · obtain ⟨hlt1, hlt2⟩ := id hltk
      obtain ⟨a, ha⟩ : ∃ a, more[k]? = some a := ⟨_, List.getElem?_eq_getElem hlt1⟩
      obtain ⟨g, o, B, cb, rfl, hg, e0, e1, e2, e3, e4, hcb, hcm, hB, ik, inn, isl, ifl⟩ := hC k a ha
      have hbel := hL.below
      have f0 : wr.cell? ⟨g, o + k * 5, none⟩ = some (.int .i64 a.kind) := (hbel.cell (p := ⟨g, o + k * 5, none⟩) hg).trans e0
      have f1 : wr.cell? ⟨g, o + k * 5 + 1, none⟩ = some (.int .i64 a.n) := (hbel.cell (p := ⟨g, o + k * 5 + 1, none⟩) hg).trans e1
      have f2 : wr.cell? ⟨g, o + k * 5 + 2, none⟩ = some (.int .i64 a.slot) := (hbel.cell (p := ⟨g, o + k * 5 + 2, none⟩) hg).trans e2
      have f3 : wr.cell? ⟨g, o + k * 5 + 3, none⟩ = some (.int .i64 a.flip) := (hbel.cell (p := ⟨g, o + k * 5 + 3, none⟩) hg).trans e3
      have f4 : wr.cell? ⟨g, o + k * 5 + 4, none⟩ = some (.slice B a.b.length cb) := (hbel.cell (p := ⟨g, o + k * 5 + 4, none⟩) hg).trans e4
      clear e0 e1 e2 e3 e4 ha
      obtain ⟨kd, n, sl, fl, bb⟩ := a
      simp only at f0 f1 f2 f3 f4 hcb hB ik inn isl ifl
      have hlt' : (k : Int) < (more.length : Int) := by omega
      have hlt30 : (k : Int) < 30 := by omega
      have hba := below_new wr (.cells #[.int .i64 kd, .int .i64 n, .int .i64 sl, .int .i64 fl, .slice B bb.length cb] 102)
      have za := Blk.new wr 102 #[.int .i64 kd, .int .i64 n, .int .i64 sl, .int .i64 fl, .slice B bb.length cb]
      have hLa := hL.mono hba
      have hwa := hw.below hba
      have h150 : 50 + k < 150 := by omega
      have c0 := za.cell 0 (v := .int .i64 kd) rfl
      have c1' := za.cell 1 (v := .int .i64 n) rfl
      have c2' := za.cell 2 (v := .int .i64 sl) rfl
      have c4' := za.cell 4 (v := .slice B bb.length cb) rfl
      have hlta : wr.heap.size < (wr.alloc (.cells #[.int .i64 kd, .int .i64 n, .int .i64 sl, .int .i64 fl, .slice B bb.length cb] 102)).heap.size := za.lt
      unfold i64 at ik inn isl ifl
      clear hlt1 hlt2
      by_cases k0 : kd = 0
      · subst k0
        obtain ⟨hU, hiff⟩ := hf.promise8 hup h150 n
        have hPm := promise_S (hLa.mono' ((Below.refl _ (wr.alloc (.cells #[.int .i64 0, .int .i64 n, .int .i64 sl, .int .i64 fl, .slice B bb.length cb] 102))).drew)) hh hf.inv n
        obtain ⟨⟨s1, cd⟩, hs1⟩ : ∃ r, s.promise n = r := ⟨_, rfl⟩
        rw [hs1] at hU hiff hPm
        simp only at hU hiff
        unfold LiveSDid at hPm
        clear hs1
        rcases (show ((s.st.promised : Int) ≤ n ∧ n ≤ 1099511627776) ∨ (¬ (s.st.promised : Int) ≤ n) ∨ ((s.st.promised : Int) ≤ n ∧ ¬ n ≤ 1099511627776) by omega) with ⟨g1, g2⟩ | g1 | ⟨g1, g2⟩
        · obtain rfl : cd = 0 := hiff.2 ⟨g1, g2⟩
          have gd1 : decide ((s.st.promised : Int) ≤ n) = true := decide_eq_true g1
          have gd2 : decide (n ≤ 1099511627776) = true := decide_eq_true g2
          clear hiff g1 g2
          go_wp2
          refine wp_region_T #[[], [], [], [2], [2], [], [], [], [6], [2, 6], [2, 6], [2, 6], [2, 6, 11], [2, 6, 11], [2, 6, 11]] [2, 6, 11] (fun w' => w'.cell? ⟨wr.heap.size, 1, none⟩ = some (.int .i64 n) ∧ True) 15 rfl (by kernel_rfl) ?_
          (refine wpAnyT_free (i := 0) rfl (by kernel_rfl) rfl (fun _ _ _ h => h) (by kernel_rfl) (fun _ => by go_simp; try rfl) ?_; (try simp only [Act.put, List.setIfInBounds_toArray, List.set_cons_zero, List.set_cons_succ]))
          (refine wpAnyT_free (i := 1) rfl (by kernel_rfl) rfl (fun _ _ _ h => h) (by kernel_rfl) (fun _ => by go_simp; try rfl) ?_; (try simp only [Act.put, List.setIfInBounds_toArray, List.set_cons_zero, List.set_cons_succ]))
          (refine wpAnyT_read (i := 2) rfl (by kernel_rfl) rfl (fun _ _ _ h => h) (by kernel_rfl) (⟨c1', trivial⟩) (fun w hS_ => by obtain ⟨s_1, s_2⟩ := hS_; go_simp; try rfl) ?_; (try simp only [Act.put, List.setIfInBounds_toArray, List.set_cons_zero, List.set_cons_succ]))
          (refine wpAnyT_free (i := 5) rfl (by kernel_rfl) rfl (fun _ _ _ h => h) (by kernel_rfl) (fun _ => by go_simp; try rfl) ?_; (try simp only [Act.put, List.setIfInBounds_toArray, List.set_cons_zero, List.set_cons_succ]))
          (refine wpAnyT_read (i := 6) rfl (by kernel_rfl) rfl (fun _ _ _ h => h) (by kernel_rfl) (⟨c1', trivial⟩) (fun w hS_ => by obtain ⟨s_1, s_2⟩ := hS_; go_simp; try rfl) ?_; (try simp only [Act.put, List.setIfInBounds_toArray, List.set_cons_zero, List.set_cons_succ]))
          (refine wpAnyT_free (i := 7) rfl (by kernel_rfl) rfl (fun _ _ _ h => h) (by kernel_rfl) (fun _ => by go_simp; try rfl) ?_; (try simp only [Act.put, List.setIfInBounds_toArray, List.set_cons_zero, List.set_cons_succ]))
          (refine wpAnyT_free (i := 8) rfl (by kernel_rfl) rfl (fun _ _ _ h => h) (by kernel_rfl) (fun _ => by go_simp; try rfl) ?_; (try simp only [Act.put, List.setIfInBounds_toArray, List.set_cons_zero, List.set_cons_succ]))
          refine wpAnyT_one (i := 3) rfl (by kernel_rfl) rfl ?_
          intro K_ hK_
          go_wp2_with ((go_at_call 63; refine hPm.mono ?_; rintro e wx ⟨rfl, hX0, hx3, hk3⟩; have hzx := za.eq (hx3 _ (.inr ⟨Nat.le_refl _, hlta⟩)); have c1' := hzx.cell 1 (v := .int .i64 n) rfl))
          refine hK_ _ _ ?_ ?_
          · exact fun _ _ => ⟨hzx.cell 1 (v := .int .i64 n) rfl, trivial⟩
          clear hK_ K_
          (try simp only [Act.put, List.setIfInBounds_toArray, List.set_cons_zero, List.set_cons_succ])
          (refine wpAnyT_free (i := 4) rfl (by kernel_rfl) rfl (fun _ _ _ h => h) (by kernel_rfl) (fun _ => by go_simp; try rfl) ?_; (try simp only [Act.put, List.setIfInBounds_toArray, List.set_cons_zero, List.set_cons_succ]))
          (refine wpAnyT_free (i := 9) rfl (by kernel_rfl) rfl (fun _ _ _ h => h) (by kernel_rfl) (fun _ => by go_simp; try rfl) ?_; (try simp only [Act.put, List.setIfInBounds_toArray, List.set_cons_zero, List.set_cons_succ]))
          first
          | (refine wpAnyT_skip (i := 10) rfl (by kernel_rfl) rfl (fun _ _ _ h => h) (fun h_ => absurd h_ (by decide)) ?_; (try simp only [Act.put, List.setIfInBounds_toArray, List.set_cons_zero, List.set_cons_succ]))
          | (refine wpAnyT_free (i := 10) rfl (by kernel_rfl) rfl (fun _ _ _ h => h) (by kernel_rfl) (fun _ => by go_simp; try rfl) ?_; (try simp only [Act.put, List.setIfInBounds_toArray, List.set_cons_zero, List.set_cons_succ]))
          | (refine wpAnyT_skip (i := 10) rfl (by kernel_rfl) (by first | (simp [Region.wanted, yielded]; done) | (simp [Region.wanted, yielded, undef, *]; done)) (fun _ _ _ h => h) (fun h_ => absurd h_ (by decide)) ?_; (try simp only [Act.put, List.setIfInBounds_toArray, List.set_cons_zero, List.set_cons_succ]))
          | (refine wpAnyT_free (i := 10) rfl (by kernel_rfl) (by first | (simp [Region.wanted, yielded]; done) | (simp [Region.wanted, yielded, undef, *]; done)) (fun _ _ _ h => h) (by kernel_rfl) (fun _ => by go_simp; try rfl) ?_; (try simp only [Act.put, List.setIfInBounds_toArray, List.set_cons_zero, List.set_cons_succ]))
          first
          | (refine wpAnyT_skip (i := 11) rfl (by kernel_rfl) rfl (fun _ _ _ h => h) (fun _ => ⟨c1', trivial⟩) ?_; (try simp only [Act.put, List.setIfInBounds_toArray, List.set_cons_zero, List.set_cons_succ]))
          | (refine wpAnyT_read (i := 11) rfl (by kernel_rfl) rfl (fun _ _ _ h => h) (by kernel_rfl) (⟨c1', trivial⟩) (fun w hS_ => by obtain ⟨s_1, s_2⟩ := hS_; go_simp; try rfl) ?_; (try simp only [Act.put, List.setIfInBounds_toArray, List.set_cons_zero, List.set_cons_succ]))
          | (refine wpAnyT_skip (i := 11) rfl (by kernel_rfl) (by first | (simp [Region.wanted, yielded]; done) | (simp [Region.wanted, yielded, undef, *]; done)) (fun _ _ _ h => h) (fun _ => ⟨c1', trivial⟩) ?_; (try simp only [Act.put, List.setIfInBounds_toArray, List.set_cons_zero, List.set_cons_succ]))
          | (refine wpAnyT_read (i := 11) rfl (by kernel_rfl) (by first | (simp [Region.wanted, yielded]; done) | (simp [Region.wanted, yielded, undef, *]; done)) (fun _ _ _ h => h) (by kernel_rfl) (⟨c1', trivial⟩) (fun w hS_ => by obtain ⟨s_1, s_2⟩ := hS_; go_simp; try rfl) ?_; (try simp only [Act.put, List.setIfInBounds_toArray, List.set_cons_zero, List.set_cons_succ]))
          first
          | (refine wpAnyT_skip (i := 12) rfl (by kernel_rfl) rfl (fun _ _ _ h => h) (fun h_ => absurd h_ (by decide)) ?_; (try simp only [Act.put, List.setIfInBounds_toArray, List.set_cons_zero, List.set_cons_succ]))
          | (refine wpAnyT_free (i := 12) rfl (by kernel_rfl) rfl (fun _ _ _ h => h) (by kernel_rfl) (fun _ => by go_simp; try rfl) ?_; (try simp only [Act.put, List.setIfInBounds_toArray, List.set_cons_zero, List.set_cons_succ]))
          | (refine wpAnyT_skip (i := 12) rfl (by kernel_rfl) (by first | (simp [Region.wanted, yielded]; done) | (simp [Region.wanted, yielded, undef, *]; done)) (fun _ _ _ h => h) (fun h_ => absurd h_ (by decide)) ?_; (try simp only [Act.put, List.setIfInBounds_toArray, List.set_cons_zero, List.set_cons_succ]))
          | (refine wpAnyT_free (i := 12) rfl (by kernel_rfl) (by first | (simp [Region.wanted, yielded]; done) | (simp [Region.wanted, yielded, undef, *]; done)) (fun _ _ _ h => h) (by kernel_rfl) (fun _ => by go_simp; try rfl) ?_; (try simp only [Act.put, List.setIfInBounds_toArray, List.set_cons_zero, List.set_cons_succ]))
          (refine wpAnyT_free (i := 13) rfl (by kernel_rfl) rfl (fun _ _ _ h => h) (by kernel_rfl) (fun _ => by go_simp; try rfl) ?_; (try simp only [Act.put, List.setIfInBounds_toArray, List.set_cons_zero, List.set_cons_succ]))
          (refine wpAnyT_free (i := 14) rfl (by kernel_rfl) rfl (fun _ _ _ h => h) (by kernel_rfl) (fun _ => by go_simp; try rfl) ?_; (try simp only [Act.put, List.setIfInBounds_toArray, List.set_cons_zero, List.set_cons_succ]))
          refine wpAnyT_done (by kernel_rfl) ?_ _
          have hX := hX0.sub (X' := X) (fun _ q => .inl q)
          have hwX := hwa.xk (fun z hz => hx3 z (.inl hz)) hk3
          clear hX0 hx3 hk3 hPm hzx za hLa hwa c0 c1' c2' c4' f0 f1 f2 f3 f4
          obtain ⟨⟨st1, rcs1, hf1⟩, up1, hpr1, hov1⟩ := hU
          have hlim1 := (hf1.inv.st up1).1
          have hfew1 := (hf1.inv.st up1).2
          have gpr : decide (s1.st.promised < s.st.promised) = false := decide_eq_false (Nat.not_lt.2 hpr1)
          have OV := Lib.hid (hov.trans hov1)
          have HFX := Lib.hid hf1
          have LIM := Lib.hid hlim1
          clear hov hov1 hf1 hpr1 hC
          have hPa := promised_S hX up1
          have hPb := promised_S hX up1
          have hHx := has_S hX hlim1 (by decide) (by omega) up1
          clear hlim1 hf hL hw
          go_wp2_with (first
            | (go_at_call 60; refine hPa.mono ?_; rintro e w3a ⟨rfl, rfl⟩; clear hPa)
            | (go_at_call 60; refine hPb.mono ?_; rintro e w3b ⟨rfl, rfl⟩; clear hPb)
            | (go_at_call 61; refine hHx.mono ?_; rintro e w4 ⟨A3, c3, rfl, hn4, h4, hb4⟩; have hw4 := hwX.below hb4; clear hHx))
          generalize wr.heap.size = nb at *
          obtain ⟨H, hH⟩ : ∃ H, H = s1.st.slots := ⟨_, rfl⟩
          rw [← hH] at hn4 ⊢
          have HB : Hid (∀ p ∈ H, p.2.ballot ≤ s1.st.promised) := Lib.hid (fun p hp => ((LIM.out).slots p (hH ▸ hp)).2.2)
          clear hH gpr
          have h4' := h4.sub (X' := X) (fun _ q => .inl q)
          have hsize4 := h4.below.size
          go_loopw [92] (fun i wr => ∃ j : Nat, j ≤ H.length ∧ i = .int .i64 (j : Int) ∧ Below w4.heap.size w4 wr) (fun i _ => H.length - (intOf i).toNat)
          case atStart => exact ⟨0, Nat.zero_le _, rfl, Below.refl _ _⟩
          case round =>
            obtain ⟨j, hj, rfl, hb5⟩ := hrel
            have hHl := hn4.len
            have hcap1 := hn4.1
            by_cases hltj : j < H.length
            · obtain ⟨p, hp⟩ : ∃ p, H[j]? = some p := ⟨_, List.getElem?_eq_getElem hltj⟩
              obtain ⟨g2, o2, B2, cb2, q2, -, x1, x2, x3, -, -, -⟩ := (hn4.below hb5).at_ hp
              subst q2
              have hlt' : (j : Int) < (H.length : Int) := by omega
              have KL := Lib.hid hltj
              have gb : decide (s1.st.promised < p.2.ballot) = false := decide_eq_false (Nat.not_lt.2 (HB.out p (List.mem_of_getElem? hp)))
              have hba := below_new wr (.cells #[.int .i64 (p.1 : Int), .int .i64 (p.2.ballot : Int), .slice B2 p.2.value.length cb2] TH8)
              have za2 := Blk.new wr TH8 #[.int .i64 (p.1 : Int), .int .i64 (p.2.ballot : Int), .slice B2 p.2.value.length cb2]
              clear hp hltj hw4 hn4
              obtain ⟨sl2, bl2, vl2⟩ := p
              simp only at x1 x2 x3 gb hba za2
              have k1' := za2.cell 1 (v := .int .i64 (bl2 : Int)) rfl
              go_wp2
              go_roundw
              case rel => exact ⟨j + 1, by have := KL.out; omega, by go_num, hb5.trans (hba.mono hb5.size)⟩
              case measure => have := KL.out; simp [intOf]; omega
            · obtain rfl : j = H.length := by omega
              have hw5 := hw4.below hb5
              have h5 := h4'.mono' hb5
              clear hn4 hcap1 hHl hltj
              go_wp2
              generalize hw5n : wr = w5 at *
              clear hw5n
              go_loopw [103] (fun i wr => ∃ j : Nat, j ≤ was.length ∧ i = .int .i64 (j : Int) ∧ Below w5.heap.size w5 wr) (fun i _ => was.length - (intOf i).toNat)
              case atStart => exact ⟨0, Nat.zero_le _, rfl, Below.refl _ _⟩
              case round =>
                obtain ⟨j, hj, rfl, hb6⟩ := hrel
                have hHl := hw5.len
                have hcap1 := hw5.1
                by_cases hltj : j < was.length
                · obtain ⟨p, hp⟩ : ∃ p, was[j]? = some p := ⟨_, List.getElem?_eq_getElem hltj⟩
                  obtain ⟨g2, o2, B2, cb2, q2, -, x1, x2, x3, -, -, -⟩ := (hw5.below hb6).at_ hp
                  subst q2
                  have hlt' : (j : Int) < (was.length : Int) := by omega
                  have KL := Lib.hid hltj
                  obtain ⟨z, hz1, hz2⟩ := OV.out p (List.mem_of_getElem? hp)
                  have hget := LIM.out.ok.rise.get hz1
                  have hsl : p.1 ≤ 4611686018427387904 := by
                    have h1 := (LIM.out.slots _ hz1).1
                    simp only at h1
                    omega
                  have hba := below_new wr (.cells #[.int .i64 (p.1 : Int), .int .i64 (p.2.ballot : Int), .slice B2 p.2.value.length cb2] TH8)
                  have za2 := Blk.new wr TH8 #[.int .i64 (p.1 : Int), .int .i64 (p.2.ballot : Int), .slice B2 p.2.value.length cb2]
                  have hG := get_S ((h5.mono' hb6).mono' hba) up1 p.1 hsl
                  rw [hget] at hG
                  unfold GetDid at hG
                  simp only [Option.getD_some, Option.isSome_some] at hG
                  clear hp hltj hw5 hz1 hget hsl
                  obtain ⟨sl2, bl2, vl2⟩ := p
                  obtain ⟨zb, zv⟩ := z
                  simp only at x1 x2 x3 hba za2 hz2 hG
                  have gz : decide (zb < bl2) = false := decide_eq_false (Nat.not_lt.2 hz2)
                  clear hz2
                  have k0' := za2.cell 0 (v := .int .i64 (sl2 : Int)) rfl
                  go_wp2_with (first
                    | (go_at_call 68; refine hG.mono ?_; rintro e w7 ⟨A9, c9, rfl, ho9, hc9, hm9, hb7⟩; have z7 := za2.below' hb7; have k1' := z7.cell 1 (v := .int .i64 (bl2 : Int)) rfl; clear hG))
                  go_roundw
                  case rel => exact ⟨j + 1, by have := KL.out; omega, by go_num, (hb6.trans (hba.mono hb6.size)).trans (hb7.mono (Nat.le_trans hb6.size hba.size))⟩
                  case measure => have := KL.out; simp [intOf]; omega
                · obtain rfl : j = was.length := by omega
                  have KL := Lib.hid hltk
                  clear hltj hcap1 hHl hltk
                  go_wp2
                  go_roundw
                  case rel => exact ⟨k + 1, s1, by have := KL.out; omega, by have := KL.out; omega, by go_num, rfl, ⟨st1, rcs1, HFX.out⟩, up1, OV.out, h5.mono' hb6, hw5.below hb6⟩
                  case measure => have := KL.out; simp [intOf]; omega
        · have hcd : (cd == 0) = false := beq_eq_false_iff_ne.2 (fun q => g1 (hiff.1 q).1)
          have hcd2 : ¬ cd = 0 := fun q => g1 (hiff.1 q).1
          have gd1 : decide ((s.st.promised : Int) ≤ n) = false := decide_eq_false g1
          clear hiff g1
          go_wp2
          refine wp_region_T #[[], [], [], [2], [2], [], [], [], [6], [2, 6], [2, 6], [2, 6], [2, 6, 11], [2, 6, 11], [2, 6, 11]] [2, 6, 11] (fun w' => w'.cell? ⟨wr.heap.size, 1, none⟩ = some (.int .i64 n) ∧ True) 15 rfl (by kernel_rfl) ?_
          (refine wpAnyT_free (i := 0) rfl (by kernel_rfl) rfl (fun _ _ _ h => h) (by kernel_rfl) (fun _ => by go_simp; try rfl) ?_; (try simp only [Act.put, List.setIfInBounds_toArray, List.set_cons_zero, List.set_cons_succ]))
          (refine wpAnyT_free (i := 1) rfl (by kernel_rfl) rfl (fun _ _ _ h => h) (by kernel_rfl) (fun _ => by go_simp; try rfl) ?_; (try simp only [Act.put, List.setIfInBounds_toArray, List.set_cons_zero, List.set_cons_succ]))
          (refine wpAnyT_read (i := 2) rfl (by kernel_rfl) rfl (fun _ _ _ h => h) (by kernel_rfl) (⟨c1', trivial⟩) (fun w hS_ => by obtain ⟨s_1, s_2⟩ := hS_; go_simp; try rfl) ?_; (try simp only [Act.put, List.setIfInBounds_toArray, List.set_cons_zero, List.set_cons_succ]))
          (refine wpAnyT_free (i := 5) rfl (by kernel_rfl) rfl (fun _ _ _ h => h) (by kernel_rfl) (fun _ => by go_simp; try rfl) ?_; (try simp only [Act.put, List.setIfInBounds_toArray, List.set_cons_zero, List.set_cons_succ]))
          (refine wpAnyT_read (i := 6) rfl (by kernel_rfl) rfl (fun _ _ _ h => h) (by kernel_rfl) (⟨c1', trivial⟩) (fun w hS_ => by obtain ⟨s_1, s_2⟩ := hS_; go_simp; try rfl) ?_; (try simp only [Act.put, List.setIfInBounds_toArray, List.set_cons_zero, List.set_cons_succ]))
          (refine wpAnyT_free (i := 7) rfl (by kernel_rfl) rfl (fun _ _ _ h => h) (by kernel_rfl) (fun _ => by go_simp; try rfl) ?_; (try simp only [Act.put, List.setIfInBounds_toArray, List.set_cons_zero, List.set_cons_succ]))
          (refine wpAnyT_free (i := 8) rfl (by kernel_rfl) rfl (fun _ _ _ h => h) (by kernel_rfl) (fun _ => by go_simp; try rfl) ?_; (try simp only [Act.put, List.setIfInBounds_toArray, List.set_cons_zero, List.set_cons_succ]))
          refine wpAnyT_one (i := 3) rfl (by kernel_rfl) rfl ?_
          intro K_ hK_
          go_wp2_with ((go_at_call 63; refine hPm.mono ?_; rintro e wx ⟨rfl, hX0, hx3, hk3⟩; have hzx := za.eq (hx3 _ (.inr ⟨Nat.le_refl _, hlta⟩)); have c1' := hzx.cell 1 (v := .int .i64 n) rfl))
          refine hK_ _ _ ?_ ?_
          · exact fun _ _ => ⟨hzx.cell 1 (v := .int .i64 n) rfl, trivial⟩
          clear hK_ K_
          (try simp only [Act.put, List.setIfInBounds_toArray, List.set_cons_zero, List.set_cons_succ])
          (refine wpAnyT_free (i := 4) rfl (by kernel_rfl) rfl (fun _ _ _ h => h) (by kernel_rfl) (fun _ => by go_simp; try rfl) ?_; (try simp only [Act.put, List.setIfInBounds_toArray, List.set_cons_zero, List.set_cons_succ]))
          (refine wpAnyT_free (i := 9) rfl (by kernel_rfl) rfl (fun _ _ _ h => h) (by kernel_rfl) (fun _ => by go_simp; try rfl) ?_; (try simp only [Act.put, List.setIfInBounds_toArray, List.set_cons_zero, List.set_cons_succ]))
          first
          | (refine wpAnyT_skip (i := 10) rfl (by kernel_rfl) rfl (fun _ _ _ h => h) (fun h_ => absurd h_ (by decide)) ?_; (try simp only [Act.put, List.setIfInBounds_toArray, List.set_cons_zero, List.set_cons_succ]))
          | (refine wpAnyT_free (i := 10) rfl (by kernel_rfl) rfl (fun _ _ _ h => h) (by kernel_rfl) (fun _ => by go_simp; try rfl) ?_; (try simp only [Act.put, List.setIfInBounds_toArray, List.set_cons_zero, List.set_cons_succ]))
          | (refine wpAnyT_skip (i := 10) rfl (by kernel_rfl) (by first | (simp [Region.wanted, yielded]; done) | (simp [Region.wanted, yielded, undef, *]; done)) (fun _ _ _ h => h) (fun h_ => absurd h_ (by decide)) ?_; (try simp only [Act.put, List.setIfInBounds_toArray, List.set_cons_zero, List.set_cons_succ]))
          | (refine wpAnyT_free (i := 10) rfl (by kernel_rfl) (by first | (simp [Region.wanted, yielded]; done) | (simp [Region.wanted, yielded, undef, *]; done)) (fun _ _ _ h => h) (by kernel_rfl) (fun _ => by go_simp; try rfl) ?_; (try simp only [Act.put, List.setIfInBounds_toArray, List.set_cons_zero, List.set_cons_succ]))
          first
          | (refine wpAnyT_skip (i := 11) rfl (by kernel_rfl) rfl (fun _ _ _ h => h) (fun _ => ⟨c1', trivial⟩) ?_; (try simp only [Act.put, List.setIfInBounds_toArray, List.set_cons_zero, List.set_cons_succ]))
          | (refine wpAnyT_read (i := 11) rfl (by kernel_rfl) rfl (fun _ _ _ h => h) (by kernel_rfl) (⟨c1', trivial⟩) (fun w hS_ => by obtain ⟨s_1, s_2⟩ := hS_; go_simp; try rfl) ?_; (try simp only [Act.put, List.setIfInBounds_toArray, List.set_cons_zero, List.set_cons_succ]))
          | (refine wpAnyT_skip (i := 11) rfl (by kernel_rfl) (by first | (simp [Region.wanted, yielded]; done) | (simp [Region.wanted, yielded, undef, *]; done)) (fun _ _ _ h => h) (fun _ => ⟨c1', trivial⟩) ?_; (try simp only [Act.put, List.setIfInBounds_toArray, List.set_cons_zero, List.set_cons_succ]))
          | (refine wpAnyT_read (i := 11) rfl (by kernel_rfl) (by first | (simp [Region.wanted, yielded]; done) | (simp [Region.wanted, yielded, undef, *]; done)) (fun _ _ _ h => h) (by kernel_rfl) (⟨c1', trivial⟩) (fun w hS_ => by obtain ⟨s_1, s_2⟩ := hS_; go_simp; try rfl) ?_; (try simp only [Act.put, List.setIfInBounds_toArray, List.set_cons_zero, List.set_cons_succ]))
          first
          | (refine wpAnyT_skip (i := 12) rfl (by kernel_rfl) rfl (fun _ _ _ h => h) (fun h_ => absurd h_ (by decide)) ?_; (try simp only [Act.put, List.setIfInBounds_toArray, List.set_cons_zero, List.set_cons_succ]))
          | (refine wpAnyT_free (i := 12) rfl (by kernel_rfl) rfl (fun _ _ _ h => h) (by kernel_rfl) (fun _ => by go_simp; try rfl) ?_; (try simp only [Act.put, List.setIfInBounds_toArray, List.set_cons_zero, List.set_cons_succ]))
          | (refine wpAnyT_skip (i := 12) rfl (by kernel_rfl) (by first | (simp [Region.wanted, yielded]; done) | (simp [Region.wanted, yielded, undef, *]; done)) (fun _ _ _ h => h) (fun h_ => absurd h_ (by decide)) ?_; (try simp only [Act.put, List.setIfInBounds_toArray, List.set_cons_zero, List.set_cons_succ]))
          | (refine wpAnyT_free (i := 12) rfl (by kernel_rfl) (by first | (simp [Region.wanted, yielded]; done) | (simp [Region.wanted, yielded, undef, *]; done)) (fun _ _ _ h => h) (by kernel_rfl) (fun _ => by go_simp; try rfl) ?_; (try simp only [Act.put, List.setIfInBounds_toArray, List.set_cons_zero, List.set_cons_succ]))
          (refine wpAnyT_free (i := 13) rfl (by kernel_rfl) rfl (fun _ _ _ h => h) (by kernel_rfl) (fun _ => by go_simp; try rfl) ?_; (try simp only [Act.put, List.setIfInBounds_toArray, List.set_cons_zero, List.set_cons_succ]))
          (refine wpAnyT_free (i := 14) rfl (by kernel_rfl) rfl (fun _ _ _ h => h) (by kernel_rfl) (fun _ => by go_simp; try rfl) ?_; (try simp only [Act.put, List.setIfInBounds_toArray, List.set_cons_zero, List.set_cons_succ]))
          refine wpAnyT_done (by kernel_rfl) ?_ _
          have hX := hX0.sub (X' := X) (fun _ q => .inl q)
          have hwX := hwa.xk (fun z hz => hx3 z (.inl hz)) hk3
          clear hX0 hx3 hk3 hPm hzx za hLa hwa c0 c1' c2' c4' f0 f1 f2 f3 f4
          obtain ⟨⟨st1, rcs1, hf1⟩, up1, hpr1, hov1⟩ := hU
          have hlim1 := (hf1.inv.st up1).1
          have hfew1 := (hf1.inv.st up1).2
          have gpr : decide (s1.st.promised < s.st.promised) = false := decide_eq_false (Nat.not_lt.2 hpr1)
          have OV := Lib.hid (hov.trans hov1)
          have HFX := Lib.hid hf1
          have LIM := Lib.hid hlim1
          clear hov hov1 hf1 hpr1 hC
          have hPa := promised_S hX up1
          have hPb := promised_S hX up1
          have hHx := has_S hX hlim1 (by decide) (by omega) up1
          clear hlim1 hf hL hw
          go_wp2_with (first
            | (go_at_call 60; refine hPa.mono ?_; rintro e w3a ⟨rfl, rfl⟩; clear hPa)
            | (go_at_call 60; refine hPb.mono ?_; rintro e w3b ⟨rfl, rfl⟩; clear hPb)
            | (go_at_call 61; refine hHx.mono ?_; rintro e w4 ⟨A3, c3, rfl, hn4, h4, hb4⟩; have hw4 := hwX.below hb4; clear hHx))
          generalize wr.heap.size = nb at *
          obtain ⟨H, hH⟩ : ∃ H, H = s1.st.slots := ⟨_, rfl⟩
          rw [← hH] at hn4 ⊢
          have HB : Hid (∀ p ∈ H, p.2.ballot ≤ s1.st.promised) := Lib.hid (fun p hp => ((LIM.out).slots p (hH ▸ hp)).2.2)
          clear hH gpr
          have h4' := h4.sub (X' := X) (fun _ q => .inl q)
          have hsize4 := h4.below.size
          go_loopw [92] (fun i wr => ∃ j : Nat, j ≤ H.length ∧ i = .int .i64 (j : Int) ∧ Below w4.heap.size w4 wr) (fun i _ => H.length - (intOf i).toNat)
          case atStart => exact ⟨0, Nat.zero_le _, rfl, Below.refl _ _⟩
          case round =>
            obtain ⟨j, hj, rfl, hb5⟩ := hrel
            have hHl := hn4.len
            have hcap1 := hn4.1
            by_cases hltj : j < H.length
            · obtain ⟨p, hp⟩ : ∃ p, H[j]? = some p := ⟨_, List.getElem?_eq_getElem hltj⟩
              obtain ⟨g2, o2, B2, cb2, q2, -, x1, x2, x3, -, -, -⟩ := (hn4.below hb5).at_ hp
              subst q2
              have hlt' : (j : Int) < (H.length : Int) := by omega
              have KL := Lib.hid hltj
              have gb : decide (s1.st.promised < p.2.ballot) = false := decide_eq_false (Nat.not_lt.2 (HB.out p (List.mem_of_getElem? hp)))
              have hba := below_new wr (.cells #[.int .i64 (p.1 : Int), .int .i64 (p.2.ballot : Int), .slice B2 p.2.value.length cb2] TH8)
              have za2 := Blk.new wr TH8 #[.int .i64 (p.1 : Int), .int .i64 (p.2.ballot : Int), .slice B2 p.2.value.length cb2]
              clear hp hltj hw4 hn4
              obtain ⟨sl2, bl2, vl2⟩ := p
              simp only at x1 x2 x3 gb hba za2
              have k1' := za2.cell 1 (v := .int .i64 (bl2 : Int)) rfl
              go_wp2
              go_roundw
              case rel => exact ⟨j + 1, by have := KL.out; omega, by go_num, hb5.trans (hba.mono hb5.size)⟩
              case measure => have := KL.out; simp [intOf]; omega
            · obtain rfl : j = H.length := by omega
              have hw5 := hw4.below hb5
              have h5 := h4'.mono' hb5
              clear hn4 hcap1 hHl hltj
              go_wp2
              generalize hw5n : wr = w5 at *
              clear hw5n
              go_loopw [103] (fun i wr => ∃ j : Nat, j ≤ was.length ∧ i = .int .i64 (j : Int) ∧ Below w5.heap.size w5 wr) (fun i _ => was.length - (intOf i).toNat)
              case atStart => exact ⟨0, Nat.zero_le _, rfl, Below.refl _ _⟩
              case round =>
                obtain ⟨j, hj, rfl, hb6⟩ := hrel
                have hHl := hw5.len
                have hcap1 := hw5.1
                by_cases hltj : j < was.length
                · obtain ⟨p, hp⟩ : ∃ p, was[j]? = some p := ⟨_, List.getElem?_eq_getElem hltj⟩
                  obtain ⟨g2, o2, B2, cb2, q2, -, x1, x2, x3, -, -, -⟩ := (hw5.below hb6).at_ hp
                  subst q2
                  have hlt' : (j : Int) < (was.length : Int) := by omega
                  have KL := Lib.hid hltj
                  obtain ⟨z, hz1, hz2⟩ := OV.out p (List.mem_of_getElem? hp)
                  have hget := LIM.out.ok.rise.get hz1
                  have hsl : p.1 ≤ 4611686018427387904 := by
                    have h1 := (LIM.out.slots _ hz1).1
                    simp only at h1
                    omega
                  have hba := below_new wr (.cells #[.int .i64 (p.1 : Int), .int .i64 (p.2.ballot : Int), .slice B2 p.2.value.length cb2] TH8)
                  have za2 := Blk.new wr TH8 #[.int .i64 (p.1 : Int), .int .i64 (p.2.ballot : Int), .slice B2 p.2.value.length cb2]
                  have hG := get_S ((h5.mono' hb6).mono' hba) up1 p.1 hsl
                  rw [hget] at hG
                  unfold GetDid at hG
                  simp only [Option.getD_some, Option.isSome_some] at hG
                  clear hp hltj hw5 hz1 hget hsl
                  obtain ⟨sl2, bl2, vl2⟩ := p
                  obtain ⟨zb, zv⟩ := z
                  simp only at x1 x2 x3 hba za2 hz2 hG
                  have gz : decide (zb < bl2) = false := decide_eq_false (Nat.not_lt.2 hz2)
                  clear hz2
                  have k0' := za2.cell 0 (v := .int .i64 (sl2 : Int)) rfl
                  go_wp2_with (first
                    | (go_at_call 68; refine hG.mono ?_; rintro e w7 ⟨A9, c9, rfl, ho9, hc9, hm9, hb7⟩; have z7 := za2.below' hb7; have k1' := z7.cell 1 (v := .int .i64 (bl2 : Int)) rfl; clear hG))
                  go_roundw
                  case rel => exact ⟨j + 1, by have := KL.out; omega, by go_num, (hb6.trans (hba.mono hb6.size)).trans (hb7.mono (Nat.le_trans hb6.size hba.size))⟩
                  case measure => have := KL.out; simp [intOf]; omega
                · obtain rfl : j = was.length := by omega
                  have KL := Lib.hid hltk
                  clear hltj hcap1 hHl hltk
                  go_wp2
                  go_roundw
                  case rel => exact ⟨k + 1, s1, by have := KL.out; omega, by have := KL.out; omega, by go_num, rfl, ⟨st1, rcs1, HFX.out⟩, up1, OV.out, h5.mono' hb6, hw5.below hb6⟩
                  case measure => have := KL.out; simp [intOf]; omega
        · have hcd : (cd == 0) = false := beq_eq_false_iff_ne.2 (fun q => g2 (hiff.1 q).2)
          have hcd2 : ¬ cd = 0 := fun q => g2 (hiff.1 q).2
          have gd1 : decide ((s.st.promised : Int) ≤ n) = true := decide_eq_true g1
          have gd2 : decide (n ≤ 1099511627776) = false := decide_eq_false g2
          clear hiff g1 g2
          go_wp2
          refine wp_region_T #[[], [], [], [2], [2], [], [], [], [6], [2, 6], [2, 6], [2, 6], [2, 6, 11], [2, 6, 11], [2, 6, 11]] [2, 6, 11] (fun w' => w'.cell? ⟨wr.heap.size, 1, none⟩ = some (.int .i64 n) ∧ True) 15 rfl (by kernel_rfl) ?_
          (refine wpAnyT_free (i := 0) rfl (by kernel_rfl) rfl (fun _ _ _ h => h) (by kernel_rfl) (fun _ => by go_simp; try rfl) ?_; (try simp only [Act.put, List.setIfInBounds_toArray, List.set_cons_zero, List.set_cons_succ]))
          (refine wpAnyT_free (i := 1) rfl (by kernel_rfl) rfl (fun _ _ _ h => h) (by kernel_rfl) (fun _ => by go_simp; try rfl) ?_; (try simp only [Act.put, List.setIfInBounds_toArray, List.set_cons_zero, List.set_cons_succ]))
          (refine wpAnyT_read (i := 2) rfl (by kernel_rfl) rfl (fun _ _ _ h => h) (by kernel_rfl) (⟨c1', trivial⟩) (fun w hS_ => by obtain ⟨s_1, s_2⟩ := hS_; go_simp; try rfl) ?_; (try simp only [Act.put, List.setIfInBounds_toArray, List.set_cons_zero, List.set_cons_succ]))
          (refine wpAnyT_free (i := 5) rfl (by kernel_rfl) rfl (fun _ _ _ h => h) (by kernel_rfl) (fun _ => by go_simp; try rfl) ?_; (try simp only [Act.put, List.setIfInBounds_toArray, List.set_cons_zero, List.set_cons_succ]))
          (refine wpAnyT_read (i := 6) rfl (by kernel_rfl) rfl (fun _ _ _ h => h) (by kernel_rfl) (⟨c1', trivial⟩) (fun w hS_ => by obtain ⟨s_1, s_2⟩ := hS_; go_simp; try rfl) ?_; (try simp only [Act.put, List.setIfInBounds_toArray, List.set_cons_zero, List.set_cons_succ]))
          (refine wpAnyT_free (i := 7) rfl (by kernel_rfl) rfl (fun _ _ _ h => h) (by kernel_rfl) (fun _ => by go_simp; try rfl) ?_; (try simp only [Act.put, List.setIfInBounds_toArray, List.set_cons_zero, List.set_cons_succ]))
          (refine wpAnyT_free (i := 8) rfl (by kernel_rfl) rfl (fun _ _ _ h => h) (by kernel_rfl) (fun _ => by go_simp; try rfl) ?_; (try simp only [Act.put, List.setIfInBounds_toArray, List.set_cons_zero, List.set_cons_succ]))
          refine wpAnyT_one (i := 3) rfl (by kernel_rfl) rfl ?_
          intro K_ hK_
          go_wp2_with ((go_at_call 63; refine hPm.mono ?_; rintro e wx ⟨rfl, hX0, hx3, hk3⟩; have hzx := za.eq (hx3 _ (.inr ⟨Nat.le_refl _, hlta⟩)); have c1' := hzx.cell 1 (v := .int .i64 n) rfl))
          refine hK_ _ _ ?_ ?_
          · exact fun _ _ => ⟨hzx.cell 1 (v := .int .i64 n) rfl, trivial⟩
          clear hK_ K_
          (try simp only [Act.put, List.setIfInBounds_toArray, List.set_cons_zero, List.set_cons_succ])
          (refine wpAnyT_free (i := 4) rfl (by kernel_rfl) rfl (fun _ _ _ h => h) (by kernel_rfl) (fun _ => by go_simp; try rfl) ?_; (try simp only [Act.put, List.setIfInBounds_toArray, List.set_cons_zero, List.set_cons_succ]))
          (refine wpAnyT_free (i := 9) rfl (by kernel_rfl) rfl (fun _ _ _ h => h) (by kernel_rfl) (fun _ => by go_simp; try rfl) ?_; (try simp only [Act.put, List.setIfInBounds_toArray, List.set_cons_zero, List.set_cons_succ]))
          first
          | (refine wpAnyT_skip (i := 10) rfl (by kernel_rfl) rfl (fun _ _ _ h => h) (fun h_ => absurd h_ (by decide)) ?_; (try simp only [Act.put, List.setIfInBounds_toArray, List.set_cons_zero, List.set_cons_succ]))
          | (refine wpAnyT_free (i := 10) rfl (by kernel_rfl) rfl (fun _ _ _ h => h) (by kernel_rfl) (fun _ => by go_simp; try rfl) ?_; (try simp only [Act.put, List.setIfInBounds_toArray, List.set_cons_zero, List.set_cons_succ]))
          | (refine wpAnyT_skip (i := 10) rfl (by kernel_rfl) (by first | (simp [Region.wanted, yielded]; done) | (simp [Region.wanted, yielded, undef, *]; done)) (fun _ _ _ h => h) (fun h_ => absurd h_ (by decide)) ?_; (try simp only [Act.put, List.setIfInBounds_toArray, List.set_cons_zero, List.set_cons_succ]))
          | (refine wpAnyT_free (i := 10) rfl (by kernel_rfl) (by first | (simp [Region.wanted, yielded]; done) | (simp [Region.wanted, yielded, undef, *]; done)) (fun _ _ _ h => h) (by kernel_rfl) (fun _ => by go_simp; try rfl) ?_; (try simp only [Act.put, List.setIfInBounds_toArray, List.set_cons_zero, List.set_cons_succ]))
          first
          | (refine wpAnyT_skip (i := 11) rfl (by kernel_rfl) rfl (fun _ _ _ h => h) (fun _ => ⟨c1', trivial⟩) ?_; (try simp only [Act.put, List.setIfInBounds_toArray, List.set_cons_zero, List.set_cons_succ]))
          | (refine wpAnyT_read (i := 11) rfl (by kernel_rfl) rfl (fun _ _ _ h => h) (by kernel_rfl) (⟨c1', trivial⟩) (fun w hS_ => by obtain ⟨s_1, s_2⟩ := hS_; go_simp; try rfl) ?_; (try simp only [Act.put, List.setIfInBounds_toArray, List.set_cons_zero, List.set_cons_succ]))
          | (refine wpAnyT_skip (i := 11) rfl (by kernel_rfl) (by first | (simp [Region.wanted, yielded]; done) | (simp [Region.wanted, yielded, undef, *]; done)) (fun _ _ _ h => h) (fun _ => ⟨c1', trivial⟩) ?_; (try simp only [Act.put, List.setIfInBounds_toArray, List.set_cons_zero, List.set_cons_succ]))
          | (refine wpAnyT_read (i := 11) rfl (by kernel_rfl) (by first | (simp [Region.wanted, yielded]; done) | (simp [Region.wanted, yielded, undef, *]; done)) (fun _ _ _ h => h) (by kernel_rfl) (⟨c1', trivial⟩) (fun w hS_ => by obtain ⟨s_1, s_2⟩ := hS_; go_simp; try rfl) ?_; (try simp only [Act.put, List.setIfInBounds_toArray, List.set_cons_zero, List.set_cons_succ]))
          first
          | (refine wpAnyT_skip (i := 12) rfl (by kernel_rfl) rfl (fun _ _ _ h => h) (fun h_ => absurd h_ (by decide)) ?_; (try simp only [Act.put, List.setIfInBounds_toArray, List.set_cons_zero, List.set_cons_succ]))
          | (refine wpAnyT_free (i := 12) rfl (by kernel_rfl) rfl (fun _ _ _ h => h) (by kernel_rfl) (fun _ => by go_simp; try rfl) ?_; (try simp only [Act.put, List.setIfInBounds_toArray, List.set_cons_zero, List.set_cons_succ]))
          | (refine wpAnyT_skip (i := 12) rfl (by kernel_rfl) (by first | (simp [Region.wanted, yielded]; done) | (simp [Region.wanted, yielded, undef, *]; done)) (fun _ _ _ h => h) (fun h_ => absurd h_ (by decide)) ?_; (try simp only [Act.put, List.setIfInBounds_toArray, List.set_cons_zero, List.set_cons_succ]))
          | (refine wpAnyT_free (i := 12) rfl (by kernel_rfl) (by first | (simp [Region.wanted, yielded]; done) | (simp [Region.wanted, yielded, undef, *]; done)) (fun _ _ _ h => h) (by kernel_rfl) (fun _ => by go_simp; try rfl) ?_; (try simp only [Act.put, List.setIfInBounds_toArray, List.set_cons_zero, List.set_cons_succ]))
          (refine wpAnyT_free (i := 13) rfl (by kernel_rfl) rfl (fun _ _ _ h => h) (by kernel_rfl) (fun _ => by go_simp; try rfl) ?_; (try simp only [Act.put, List.setIfInBounds_toArray, List.set_cons_zero, List.set_cons_succ]))
          (refine wpAnyT_free (i := 14) rfl (by kernel_rfl) rfl (fun _ _ _ h => h) (by kernel_rfl) (fun _ => by go_simp; try rfl) ?_; (try simp only [Act.put, List.setIfInBounds_toArray, List.set_cons_zero, List.set_cons_succ]))
          refine wpAnyT_done (by kernel_rfl) ?_ _
          have hX := hX0.sub (X' := X) (fun _ q => .inl q)
          have hwX := hwa.xk (fun z hz => hx3 z (.inl hz)) hk3
          clear hX0 hx3 hk3 hPm hzx za hLa hwa c0 c1' c2' c4' f0 f1 f2 f3 f4
          obtain ⟨⟨st1, rcs1, hf1⟩, up1, hpr1, hov1⟩ := hU
          have hlim1 := (hf1.inv.st up1).1
          have hfew1 := (hf1.inv.st up1).2
          have gpr : decide (s1.st.promised < s.st.promised) = false := decide_eq_false (Nat.not_lt.2 hpr1)
          have OV := Lib.hid (hov.trans hov1)
          have HFX := Lib.hid hf1
          have LIM := Lib.hid hlim1
          clear hov hov1 hf1 hpr1 hC
          have hPa := promised_S hX up1
          have hPb := promised_S hX up1
          have hHx := has_S hX hlim1 (by decide) (by omega) up1
          clear hlim1 hf hL hw
          go_wp2_with (first
            | (go_at_call 60; refine hPa.mono ?_; rintro e w3a ⟨rfl, rfl⟩; clear hPa)
            | (go_at_call 60; refine hPb.mono ?_; rintro e w3b ⟨rfl, rfl⟩; clear hPb)
            | (go_at_call 61; refine hHx.mono ?_; rintro e w4 ⟨A3, c3, rfl, hn4, h4, hb4⟩; have hw4 := hwX.below hb4; clear hHx))
          generalize wr.heap.size = nb at *
          obtain ⟨H, hH⟩ : ∃ H, H = s1.st.slots := ⟨_, rfl⟩
          rw [← hH] at hn4 ⊢
          have HB : Hid (∀ p ∈ H, p.2.ballot ≤ s1.st.promised) := Lib.hid (fun p hp => ((LIM.out).slots p (hH ▸ hp)).2.2)
          clear hH gpr
          have h4' := h4.sub (X' := X) (fun _ q => .inl q)
          have hsize4 := h4.below.size
          go_loopw [92] (fun i wr => ∃ j : Nat, j ≤ H.length ∧ i = .int .i64 (j : Int) ∧ Below w4.heap.size w4 wr) (fun i _ => H.length - (intOf i).toNat)
          case atStart => exact ⟨0, Nat.zero_le _, rfl, Below.refl _ _⟩
          case round =>
            obtain ⟨j, hj, rfl, hb5⟩ := hrel
            have hHl := hn4.len
            have hcap1 := hn4.1
            by_cases hltj : j < H.length
            · obtain ⟨p, hp⟩ : ∃ p, H[j]? = some p := ⟨_, List.getElem?_eq_getElem hltj⟩
              obtain ⟨g2, o2, B2, cb2, q2, -, x1, x2, x3, -, -, -⟩ := (hn4.below hb5).at_ hp
              subst q2
              have hlt' : (j : Int) < (H.length : Int) := by omega
              have KL := Lib.hid hltj
              have gb : decide (s1.st.promised < p.2.ballot) = false := decide_eq_false (Nat.not_lt.2 (HB.out p (List.mem_of_getElem? hp)))
              have hba := below_new wr (.cells #[.int .i64 (p.1 : Int), .int .i64 (p.2.ballot : Int), .slice B2 p.2.value.length cb2] TH8)
              have za2 := Blk.new wr TH8 #[.int .i64 (p.1 : Int), .int .i64 (p.2.ballot : Int), .slice B2 p.2.value.length cb2]
              clear hp hltj hw4 hn4
              obtain ⟨sl2, bl2, vl2⟩ := p
              simp only at x1 x2 x3 gb hba za2
              have k1' := za2.cell 1 (v := .int .i64 (bl2 : Int)) rfl
              go_wp2
              go_roundw
              case rel => exact ⟨j + 1, by have := KL.out; omega, by go_num, hb5.trans (hba.mono hb5.size)⟩
              case measure => have := KL.out; simp [intOf]; omega
            · obtain rfl : j = H.length := by omega
              have hw5 := hw4.below hb5
              have h5 := h4'.mono' hb5
              clear hn4 hcap1 hHl hltj
              go_wp2
              generalize hw5n : wr = w5 at *
              clear hw5n
              go_loopw [103] (fun i wr => ∃ j : Nat, j ≤ was.length ∧ i = .int .i64 (j : Int) ∧ Below w5.heap.size w5 wr) (fun i _ => was.length - (intOf i).toNat)
              case atStart => exact ⟨0, Nat.zero_le _, rfl, Below.refl _ _⟩
              case round =>
                obtain ⟨j, hj, rfl, hb6⟩ := hrel
                have hHl := hw5.len
                have hcap1 := hw5.1
                by_cases hltj : j < was.length
                · obtain ⟨p, hp⟩ : ∃ p, was[j]? = some p := ⟨_, List.getElem?_eq_getElem hltj⟩
                  obtain ⟨g2, o2, B2, cb2, q2, -, x1, x2, x3, -, -, -⟩ := (hw5.below hb6).at_ hp
                  subst q2
                  have hlt' : (j : Int) < (was.length : Int) := by omega
                  have KL := Lib.hid hltj
                  obtain ⟨z, hz1, hz2⟩ := OV.out p (List.mem_of_getElem? hp)
                  have hget := LIM.out.ok.rise.get hz1
                  have hsl : p.1 ≤ 4611686018427387904 := by
                    have h1 := (LIM.out.slots _ hz1).1
                    simp only at h1
                    omega
                  have hba := below_new wr (.cells #[.int .i64 (p.1 : Int), .int .i64 (p.2.ballot : Int), .slice B2 p.2.value.length cb2] TH8)
                  have za2 := Blk.new wr TH8 #[.int .i64 (p.1 : Int), .int .i64 (p.2.ballot : Int), .slice B2 p.2.value.length cb2]
                  have hG := get_S ((h5.mono' hb6).mono' hba) up1 p.1 hsl
                  rw [hget] at hG
                  unfold GetDid at hG
                  simp only [Option.getD_some, Option.isSome_some] at hG
                  clear hp hltj hw5 hz1 hget hsl
                  obtain ⟨sl2, bl2, vl2⟩ := p
                  obtain ⟨zb, zv⟩ := z
                  simp only at x1 x2 x3 hba za2 hz2 hG
                  have gz : decide (zb < bl2) = false := decide_eq_false (Nat.not_lt.2 hz2)
                  clear hz2
                  have k0' := za2.cell 0 (v := .int .i64 (sl2 : Int)) rfl
                  go_wp2_with (first
                    | (go_at_call 68; refine hG.mono ?_; rintro e w7 ⟨A9, c9, rfl, ho9, hc9, hm9, hb7⟩; have z7 := za2.below' hb7; have k1' := z7.cell 1 (v := .int .i64 (bl2 : Int)) rfl; clear hG))
                  go_roundw
                  case rel => exact ⟨j + 1, by have := KL.out; omega, by go_num, (hb6.trans (hba.mono hb6.size)).trans (hb7.mono (Nat.le_trans hb6.size hba.size))⟩
                  case measure => have := KL.out; simp [intOf]; omega
                · obtain rfl : j = was.length := by omega
                  have KL := Lib.hid hltk
                  clear hltj hcap1 hHl hltk
                  go_wp2
                  go_roundw
                  case rel => exact ⟨k + 1, s1, by have := KL.out; omega, by have := KL.out; omega, by go_num, rfl, ⟨st1, rcs1, HFX.out⟩, up1, OV.out, h5.mono' hb6, hw5.below hb6⟩
                  case measure => have := KL.out; simp [intOf]; omega
      have n0 : (kd == 0) = false := by simpa using k0
      by_cases k1 : kd = 1
      · subst k1
        obtain ⟨q, q1, q2, q3⟩ := rem_up sl 40 (by decide)
        have qr := rem_any sl 40 (by decide)
        have v1 : IntKind.i64.wrap (sl.tmod 40) = sl.tmod 40 := by rw [IntKind.wrap_i64]; omega
        have v2 : IntKind.i64.wrap (sl.tmod 40 + 40) = sl.tmod 40 + 40 := by rw [IntKind.wrap_i64]; omega
        have v3 : IntKind.i64.wrap (q : Int) = (q : Int) := by rw [IntKind.wrap_i64]; omega
        obtain ⟨l, hl⟩ : ∃ l, l = bb.take 300 := ⟨_, rfl⟩
        have l1 : l.length ≤ bb.length := by rw [hl, List.length_take]; omega
        have l2 : l.length ≤ 300 := by rw [hl, List.length_take]; omega
        have l3 : (l.length : Int) ≤ (cb : Int) := by omega
        have hr : RdB W B l := hl ▸ hB.take 300
        have hmin : ∀ w, (Builtin.min_ #[3, 3] 3 #[.int .i64 (bb.length : Int), .int .i64 300]).run Tryd.prog w = .ok (.int .i64 (l.length : Int)) w := by
          intro w
          rw [run_min_int2]
          have : (l.length : Int) = if (300 : Int) < (bb.length : Int) then 300 else (bb.length : Int) := by rw [hl, List.length_take]; split <;> omega
          rw [this]
        have hU := hf.accept8 hup h150 (q : Int) n l l2 (by omega)
        have hfew := hf.few
        have hLd := hLa.mono' ((Below.refl _ (wr.alloc (.cells #[.int .i64 1, .int .i64 n, .int .i64 sl, .int .i64 fl, .slice B bb.length cb] 102))).drew)
        have hAc := accept_S hLd hh hf.inv (by omega) (q : Int) n B l cb (hr.arg hLd.below) (by omega)
        obtain ⟨⟨s1, cd⟩, hs1⟩ : ∃ r, s.accept (q : Int) n l = r := ⟨_, rfl⟩
        rw [hs1] at hU hAc
        simp only at hU
        unfold LiveSDid at hAc
        clear hs1 hl hB hr hLd
        go_wp2
        refine wp_region_T #[[], [], [], [2], [2], [2], [], [], [], [], [], [], [11], [11], [9, 11], [2, 7, 9, 11]] [2, 7, 9, 11] (fun w' => w'.cell? ⟨wr.heap.size, 1, none⟩ = some (.int .i64 n) ∧ w'.cell? ⟨wr.heap.size, 2, none⟩ = some (.int .i64 sl) ∧ w'.cell? ⟨wr.heap.size, 4, none⟩ = some (.slice B bb.length cb)) 16 rfl (by kernel_rfl) ?_
        (refine wpAnyT_free (i := 0) rfl (by kernel_rfl) rfl (fun _ _ _ h => h) (by kernel_rfl) (fun _ => by go_simp; try rfl) ?_; (try simp only [Act.put, List.setIfInBounds_toArray, List.set_cons_zero, List.set_cons_succ]))
        (refine wpAnyT_free (i := 1) rfl (by kernel_rfl) rfl (fun _ _ _ h => h) (by kernel_rfl) (fun _ => by go_simp; try rfl) ?_; (try simp only [Act.put, List.setIfInBounds_toArray, List.set_cons_zero, List.set_cons_succ]))
        (refine wpAnyT_read (i := 2) rfl (by kernel_rfl) rfl (fun _ _ _ h => h) (by kernel_rfl) (⟨c1', c2', c4'⟩) (fun w hS_ => by obtain ⟨s_1, s_2, s_3⟩ := hS_; go_simp; try rfl) ?_; (try simp only [Act.put, List.setIfInBounds_toArray, List.set_cons_zero, List.set_cons_succ]))
        (refine wpAnyT_free (i := 3) rfl (by kernel_rfl) rfl (fun _ _ _ h => h) (by kernel_rfl) (fun _ => by go_simp; try rfl) ?_; (try simp only [Act.put, List.setIfInBounds_toArray, List.set_cons_zero, List.set_cons_succ]))
        (refine wpAnyT_free (i := 4) rfl (by kernel_rfl) rfl (fun _ _ _ h => h) (by kernel_rfl) (fun _ => by go_simp; try rfl) ?_; (try simp only [Act.put, List.setIfInBounds_toArray, List.set_cons_zero, List.set_cons_succ]))
        (refine wpAnyT_free (i := 5) rfl (by kernel_rfl) rfl (fun _ _ _ h => h) (by kernel_rfl) (fun _ => by go_simp; try rfl) ?_; (try simp only [Act.put, List.setIfInBounds_toArray, List.set_cons_zero, List.set_cons_succ]))
        (refine wpAnyT_free (i := 6) rfl (by kernel_rfl) rfl (fun _ _ _ h => h) (by kernel_rfl) (fun _ => by go_simp; try rfl) ?_; (try simp only [Act.put, List.setIfInBounds_toArray, List.set_cons_zero, List.set_cons_succ]))
        (refine wpAnyT_read (i := 7) rfl (by kernel_rfl) rfl (fun _ _ _ h => h) (by kernel_rfl) (⟨c1', c2', c4'⟩) (fun w hS_ => by obtain ⟨s_1, s_2, s_3⟩ := hS_; go_simp; try rfl) ?_; (try simp only [Act.put, List.setIfInBounds_toArray, List.set_cons_zero, List.set_cons_succ]))
        (refine wpAnyT_free (i := 8) rfl (by kernel_rfl) rfl (fun _ _ _ h => h) (by kernel_rfl) (fun _ => by go_simp; try rfl) ?_; (try simp only [Act.put, List.setIfInBounds_toArray, List.set_cons_zero, List.set_cons_succ]))
        (refine wpAnyT_read (i := 9) rfl (by kernel_rfl) rfl (fun _ _ _ h => h) (by kernel_rfl) (⟨c1', c2', c4'⟩) (fun w hS_ => by obtain ⟨s_1, s_2, s_3⟩ := hS_; go_simp; try rfl) ?_; (try simp only [Act.put, List.setIfInBounds_toArray, List.set_cons_zero, List.set_cons_succ]))
        (refine wpAnyT_free (i := 10) rfl (by kernel_rfl) rfl (fun _ _ _ h => h) (by kernel_rfl) (fun _ => by go_simp; try rfl) ?_; (try simp only [Act.put, List.setIfInBounds_toArray, List.set_cons_zero, List.set_cons_succ]))
        (refine wpAnyT_read (i := 11) rfl (by kernel_rfl) rfl (fun _ _ _ h => h) (by kernel_rfl) (⟨c1', c2', c4'⟩) (fun w hS_ => by obtain ⟨s_1, s_2, s_3⟩ := hS_; go_simp; try rfl) ?_; (try simp only [Act.put, List.setIfInBounds_toArray, List.set_cons_zero, List.set_cons_succ]))
        (refine wpAnyT_free (i := 12) rfl (by kernel_rfl) rfl (fun _ _ _ h => h) (by kernel_rfl) (fun _ => by go_simp; try rfl) ?_; (try simp only [Act.put, List.setIfInBounds_toArray, List.set_cons_zero, List.set_cons_succ]))
        (refine wpAnyT_free (i := 13) rfl (by kernel_rfl) rfl (fun _ _ _ h => h) (by kernel_rfl) (fun _ => by go_simp; try rfl) ?_; (try simp only [Act.put, List.setIfInBounds_toArray, List.set_cons_zero, List.set_cons_succ]))
        (refine wpAnyT_free (i := 14) rfl (by kernel_rfl) rfl (fun _ _ _ h => h) (by kernel_rfl) (fun _ => by go_simp; try rfl) ?_; (try simp only [Act.put, List.setIfInBounds_toArray, List.set_cons_zero, List.set_cons_succ]))
        refine wpAnyT_sink (i := 15) rfl (by kernel_rfl) rfl (by kernel_rfl) ?_
        intro K_ hK_
        go_wp2_with ((go_at_call 66; refine hAc.mono ?_; rintro e wx ⟨rfl, hX0, hx3, hk3⟩; have hzx := za.eq (hx3 _ (.inr ⟨Nat.le_refl _, hlta⟩))))
        (try (refine hK_ _ _ ?_; clear hK_ K_))
        (try simp only [Act.put, List.setIfInBounds_toArray, List.set_cons_zero, List.set_cons_succ])
        refine wpAnyT_done (by kernel_rfl) ?_ _
        have hX := hX0.sub (X' := X) (fun _ q => .inl q)
        have hwX := hwa.xk (fun z hz => hx3 z (.inl hz)) hk3
        clear hX0 hx3 hk3 hAc hzx za hLa hwa c0 c1' c2' c4' f0 f1 f2 f3 f4 q1 q2 q3 qr v1 v2 v3 l1 l2 l3 hmin hfew
        obtain ⟨⟨st1, rcs1, hf1⟩, up1, hpr1, hov1⟩ := hU
        have hlim1 := (hf1.inv.st up1).1
        have hfew1 := (hf1.inv.st up1).2
        have gpr : decide (s1.st.promised < s.st.promised) = false := decide_eq_false (Nat.not_lt.2 hpr1)
        have OV := Lib.hid (hov.trans hov1)
        have HFX := Lib.hid hf1
        have LIM := Lib.hid hlim1
        clear hov hov1 hf1 hpr1 hC
        have hPa := promised_S hX up1
        have hPb := promised_S hX up1
        have hHx := has_S hX hlim1 (by decide) (by omega) up1
        clear hlim1 hf hL hw
        go_wp2_with (first
          | (go_at_call 60; refine hPa.mono ?_; rintro e w3a ⟨rfl, rfl⟩; clear hPa)
          | (go_at_call 60; refine hPb.mono ?_; rintro e w3b ⟨rfl, rfl⟩; clear hPb)
          | (go_at_call 61; refine hHx.mono ?_; rintro e w4 ⟨A3, c3, rfl, hn4, h4, hb4⟩; have hw4 := hwX.below hb4; clear hHx))
        generalize wr.heap.size = nb at *
        obtain ⟨H, hH⟩ : ∃ H, H = s1.st.slots := ⟨_, rfl⟩
        rw [← hH] at hn4 ⊢
        have HB : Hid (∀ p ∈ H, p.2.ballot ≤ s1.st.promised) := Lib.hid (fun p hp => ((LIM.out).slots p (hH ▸ hp)).2.2)
        clear hH gpr
        have h4' := h4.sub (X' := X) (fun _ q => .inl q)
        have hsize4 := h4.below.size
        go_loopw [92] (fun i wr => ∃ j : Nat, j ≤ H.length ∧ i = .int .i64 (j : Int) ∧ Below w4.heap.size w4 wr) (fun i _ => H.length - (intOf i).toNat)
        case atStart => exact ⟨0, Nat.zero_le _, rfl, Below.refl _ _⟩
        case round =>
          obtain ⟨j, hj, rfl, hb5⟩ := hrel
          have hHl := hn4.len
          have hcap1 := hn4.1
          by_cases hltj : j < H.length
          · obtain ⟨p, hp⟩ : ∃ p, H[j]? = some p := ⟨_, List.getElem?_eq_getElem hltj⟩
            obtain ⟨g2, o2, B2, cb2, q2, -, x1, x2, x3, -, -, -⟩ := (hn4.below hb5).at_ hp
            subst q2
            have hlt' : (j : Int) < (H.length : Int) := by omega
            have KL := Lib.hid hltj
            have gb : decide (s1.st.promised < p.2.ballot) = false := decide_eq_false (Nat.not_lt.2 (HB.out p (List.mem_of_getElem? hp)))
            have hba := below_new wr (.cells #[.int .i64 (p.1 : Int), .int .i64 (p.2.ballot : Int), .slice B2 p.2.value.length cb2] TH8)
            have za2 := Blk.new wr TH8 #[.int .i64 (p.1 : Int), .int .i64 (p.2.ballot : Int), .slice B2 p.2.value.length cb2]
            clear hp hltj hw4 hn4
            obtain ⟨sl2, bl2, vl2⟩ := p
            simp only at x1 x2 x3 gb hba za2
            have k1' := za2.cell 1 (v := .int .i64 (bl2 : Int)) rfl
            go_wp2
            go_roundw
            case rel => exact ⟨j + 1, by have := KL.out; omega, by go_num, hb5.trans (hba.mono hb5.size)⟩
            case measure => have := KL.out; simp [intOf]; omega
          · obtain rfl : j = H.length := by omega
            have hw5 := hw4.below hb5
            have h5 := h4'.mono' hb5
            clear hn4 hcap1 hHl hltj
            go_wp2
            generalize hw5n : wr = w5 at *
            clear hw5n
            go_loopw [103] (fun i wr => ∃ j : Nat, j ≤ was.length ∧ i = .int .i64 (j : Int) ∧ Below w5.heap.size w5 wr) (fun i _ => was.length - (intOf i).toNat)
            case atStart => exact ⟨0, Nat.zero_le _, rfl, Below.refl _ _⟩
            case round =>
              obtain ⟨j, hj, rfl, hb6⟩ := hrel
              have hHl := hw5.len
              have hcap1 := hw5.1
              by_cases hltj : j < was.length
              · obtain ⟨p, hp⟩ : ∃ p, was[j]? = some p := ⟨_, List.getElem?_eq_getElem hltj⟩
                obtain ⟨g2, o2, B2, cb2, q2, -, x1, x2, x3, -, -, -⟩ := (hw5.below hb6).at_ hp
                subst q2
                have hlt' : (j : Int) < (was.length : Int) := by omega
                have KL := Lib.hid hltj
                obtain ⟨z, hz1, hz2⟩ := OV.out p (List.mem_of_getElem? hp)
                have hget := LIM.out.ok.rise.get hz1
                have hsl : p.1 ≤ 4611686018427387904 := by
                  have h1 := (LIM.out.slots _ hz1).1
                  simp only at h1
                  omega
                have hba := below_new wr (.cells #[.int .i64 (p.1 : Int), .int .i64 (p.2.ballot : Int), .slice B2 p.2.value.length cb2] TH8)
                have za2 := Blk.new wr TH8 #[.int .i64 (p.1 : Int), .int .i64 (p.2.ballot : Int), .slice B2 p.2.value.length cb2]
                have hG := get_S ((h5.mono' hb6).mono' hba) up1 p.1 hsl
                rw [hget] at hG
                unfold GetDid at hG
                simp only [Option.getD_some, Option.isSome_some] at hG
                clear hp hltj hw5 hz1 hget hsl
                obtain ⟨sl2, bl2, vl2⟩ := p
                obtain ⟨zb, zv⟩ := z
                simp only at x1 x2 x3 hba za2 hz2 hG
                have gz : decide (zb < bl2) = false := decide_eq_false (Nat.not_lt.2 hz2)
                clear hz2
                have k0' := za2.cell 0 (v := .int .i64 (sl2 : Int)) rfl
                go_wp2_with (first
                  | (go_at_call 68; refine hG.mono ?_; rintro e w7 ⟨A9, c9, rfl, ho9, hc9, hm9, hb7⟩; have z7 := za2.below' hb7; have k1' := z7.cell 1 (v := .int .i64 (bl2 : Int)) rfl; clear hG))
                go_roundw
                case rel => exact ⟨j + 1, by have := KL.out; omega, by go_num, (hb6.trans (hba.mono hb6.size)).trans (hb7.mono (Nat.le_trans hb6.size hba.size))⟩
                case measure => have := KL.out; simp [intOf]; omega
              · obtain rfl : j = was.length := by omega
                have KL := Lib.hid hltk
                clear hltj hcap1 hHl hltk
                go_wp2
                go_roundw
                case rel => exact ⟨k + 1, s1, by have := KL.out; omega, by have := KL.out; omega, by go_num, rfl, ⟨st1, rcs1, HFX.out⟩, up1, OV.out, h5.mono' hb6, hw5.below hb6⟩
                case measure => have := KL.out; simp [intOf]; omega
      have n1 : (kd == 1) = false := by simpa using k1
      by_cases k3 : kd = 3
      · subst k3
        have hU := hf.snapshot8 hup h150
        have hSn := snapshot_S hLa hh
        obtain ⟨⟨s1, cd⟩, hs1⟩ : ∃ r, s.snapshot = r := ⟨_, rfl⟩
        rw [hs1] at hU hSn
        simp only at hU
        unfold LiveSDid at hSn
        clear hs1
        obtain ⟨⟨st1, rcs1, hf1⟩, up1, hpr1, hov1⟩ := hU
        have hlim1 := (hf1.inv.st up1).1
        have hfew1 := (hf1.inv.st up1).2
        have gpr : decide (s1.st.promised < s.st.promised) = false := decide_eq_false (Nat.not_lt.2 hpr1)
        have OV := Lib.hid (hov.trans hov1)
        have HFX := Lib.hid hf1
        have LIM := Lib.hid hlim1
        clear hov hov1 hf1 hpr1 hC
        go_wp2_with (first
          | (go_at_call 67; refine hSn.mono ?_; rintro e wx ⟨rfl, hX0, hx3, hk3⟩
             have hX := hX0.sub (X' := X) (fun _ q => .inl q)
             have hwX := hwa.xk (fun z hz => hx3 z (.inl hz)) hk3
             have hPa := promised_S hX up1
             have hPb := promised_S hX up1
             have hHx := has_S hX hlim1 (by decide) (by omega) up1
             clear hX0 hx3 hk3 hSn za hLa hwa c0 c1' c2' c4' f0 f1 f2 f3 f4 hlim1 hf hL hw)
          | (go_at_call 60; refine hPa.mono ?_; rintro e w3a ⟨rfl, rfl⟩; clear hPa)
          | (go_at_call 60; refine hPb.mono ?_; rintro e w3b ⟨rfl, rfl⟩; clear hPb)
          | (go_at_call 61; refine hHx.mono ?_; rintro e w4 ⟨A3, c3, rfl, hn4, h4, hb4⟩; have hw4 := hwX.below hb4; clear hHx))
        generalize wr.heap.size = nb at *
        obtain ⟨H, hH⟩ : ∃ H, H = s1.st.slots := ⟨_, rfl⟩
        rw [← hH] at hn4 ⊢
        have HB : Hid (∀ p ∈ H, p.2.ballot ≤ s1.st.promised) := Lib.hid (fun p hp => ((LIM.out).slots p (hH ▸ hp)).2.2)
        clear hH gpr
        have h4' := h4.sub (X' := X) (fun _ q => .inl q)
        have hsize4 := h4.below.size
        go_loopw [92] (fun i wr => ∃ j : Nat, j ≤ H.length ∧ i = .int .i64 (j : Int) ∧ Below w4.heap.size w4 wr) (fun i _ => H.length - (intOf i).toNat)
        case atStart => exact ⟨0, Nat.zero_le _, rfl, Below.refl _ _⟩
        case round =>
          obtain ⟨j, hj, rfl, hb5⟩ := hrel
          have hHl := hn4.len
          have hcap1 := hn4.1
          by_cases hltj : j < H.length
          · obtain ⟨p, hp⟩ : ∃ p, H[j]? = some p := ⟨_, List.getElem?_eq_getElem hltj⟩
            obtain ⟨g2, o2, B2, cb2, q2, -, x1, x2, x3, -, -, -⟩ := (hn4.below hb5).at_ hp
            subst q2
            have hlt' : (j : Int) < (H.length : Int) := by omega
            have KL := Lib.hid hltj
            have gb : decide (s1.st.promised < p.2.ballot) = false := decide_eq_false (Nat.not_lt.2 (HB.out p (List.mem_of_getElem? hp)))
            have hba := below_new wr (.cells #[.int .i64 (p.1 : Int), .int .i64 (p.2.ballot : Int), .slice B2 p.2.value.length cb2] TH8)
            have za2 := Blk.new wr TH8 #[.int .i64 (p.1 : Int), .int .i64 (p.2.ballot : Int), .slice B2 p.2.value.length cb2]
            clear hp hltj hw4 hn4
            obtain ⟨sl2, bl2, vl2⟩ := p
            simp only at x1 x2 x3 gb hba za2
            have k1' := za2.cell 1 (v := .int .i64 (bl2 : Int)) rfl
            go_wp2
            go_roundw
            case rel => exact ⟨j + 1, by have := KL.out; omega, by go_num, hb5.trans (hba.mono hb5.size)⟩
            case measure => have := KL.out; simp [intOf]; omega
          · obtain rfl : j = H.length := by omega
            have hw5 := hw4.below hb5
            have h5 := h4'.mono' hb5
            clear hn4 hcap1 hHl hltj
            go_wp2
            generalize hw5n : wr = w5 at *
            clear hw5n
            go_loopw [103] (fun i wr => ∃ j : Nat, j ≤ was.length ∧ i = .int .i64 (j : Int) ∧ Below w5.heap.size w5 wr) (fun i _ => was.length - (intOf i).toNat)
            case atStart => exact ⟨0, Nat.zero_le _, rfl, Below.refl _ _⟩
            case round =>
              obtain ⟨j, hj, rfl, hb6⟩ := hrel
              have hHl := hw5.len
              have hcap1 := hw5.1
              by_cases hltj : j < was.length
              · obtain ⟨p, hp⟩ : ∃ p, was[j]? = some p := ⟨_, List.getElem?_eq_getElem hltj⟩
                obtain ⟨g2, o2, B2, cb2, q2, -, x1, x2, x3, -, -, -⟩ := (hw5.below hb6).at_ hp
                subst q2
                have hlt' : (j : Int) < (was.length : Int) := by omega
                have KL := Lib.hid hltj
                obtain ⟨z, hz1, hz2⟩ := OV.out p (List.mem_of_getElem? hp)
                have hget := LIM.out.ok.rise.get hz1
                have hsl : p.1 ≤ 4611686018427387904 := by
                  have h1 := (LIM.out.slots _ hz1).1
                  simp only at h1
                  omega
                have hba := below_new wr (.cells #[.int .i64 (p.1 : Int), .int .i64 (p.2.ballot : Int), .slice B2 p.2.value.length cb2] TH8)
                have za2 := Blk.new wr TH8 #[.int .i64 (p.1 : Int), .int .i64 (p.2.ballot : Int), .slice B2 p.2.value.length cb2]
                have hG := get_S ((h5.mono' hb6).mono' hba) up1 p.1 hsl
                rw [hget] at hG
                unfold GetDid at hG
                simp only [Option.getD_some, Option.isSome_some] at hG
                clear hp hltj hw5 hz1 hget hsl
                obtain ⟨sl2, bl2, vl2⟩ := p
                obtain ⟨zb, zv⟩ := z
                simp only at x1 x2 x3 hba za2 hz2 hG
                have gz : decide (zb < bl2) = false := decide_eq_false (Nat.not_lt.2 hz2)
                clear hz2
                have k0' := za2.cell 0 (v := .int .i64 (sl2 : Int)) rfl
                go_wp2_with (first
                  | (go_at_call 68; refine hG.mono ?_; rintro e w7 ⟨A9, c9, rfl, ho9, hc9, hm9, hb7⟩; have z7 := za2.below' hb7; have k1' := z7.cell 1 (v := .int .i64 (bl2 : Int)) rfl; clear hG))
                go_roundw
                case rel => exact ⟨j + 1, by have := KL.out; omega, by go_num, (hb6.trans (hba.mono hb6.size)).trans (hb7.mono (Nat.le_trans hb6.size hba.size))⟩
                case measure => have := KL.out; simp [intOf]; omega
              · obtain rfl : j = was.length := by omega
                have KL := Lib.hid hltk
                clear hltj hcap1 hHl hltk
                go_wp2
                go_roundw
                case rel => exact ⟨k + 1, s1, by have := KL.out; omega, by have := KL.out; omega, by go_num, rfl, ⟨st1, rcs1, HFX.out⟩, up1, OV.out, h5.mono' hb6, hw5.below hb6⟩
                case measure => have := KL.out; simp [intOf]; omega
      have n3 : (kd == 3) = false := by simpa using k3
      have hU := hf.same hup h150
      have hX := hLa.sub (X' := X) (fun _ q => .inl q)
      have hwX := hwa
      obtain ⟨s1, hs1⟩ : ∃ s1, s1 = s := ⟨_, rfl⟩
      rw [show Up8 40 (50 + k) s s ↔ Up8 40 (50 + k) s s1 by rw [hs1]] at hU
      rw [← hs1] at hX
      clear hs1 hLa hwa
      obtain ⟨⟨st1, rcs1, hf1⟩, up1, hpr1, hov1⟩ := hU
      have hlim1 := (hf1.inv.st up1).1
      have hfew1 := (hf1.inv.st up1).2
      have gpr : decide (s1.st.promised < s.st.promised) = false := decide_eq_false (Nat.not_lt.2 hpr1)
      have OV := Lib.hid (hov.trans hov1)
      have HFX := Lib.hid hf1
      have LIM := Lib.hid hlim1
      clear hov hov1 hf1 hpr1 hC
      have hPa := promised_S hX up1
      have hPb := promised_S hX up1
      have hHx := has_S hX hlim1 (by decide) (by omega) up1
      clear hlim1 hf hL hw
      go_wp2_with (first
        | (go_at_call 60; refine hPa.mono ?_; rintro e w3a ⟨rfl, rfl⟩; clear hPa)
        | (go_at_call 60; refine hPb.mono ?_; rintro e w3b ⟨rfl, rfl⟩; clear hPb)
        | (go_at_call 61; refine hHx.mono ?_; rintro e w4 ⟨A3, c3, rfl, hn4, h4, hb4⟩; have hw4 := hwX.below hb4; clear hHx))
      generalize wr.heap.size = nb at *
      obtain ⟨H, hH⟩ : ∃ H, H = s1.st.slots := ⟨_, rfl⟩
      rw [← hH] at hn4 ⊢
      have HB : Hid (∀ p ∈ H, p.2.ballot ≤ s1.st.promised) := Lib.hid (fun p hp => ((LIM.out).slots p (hH ▸ hp)).2.2)
      clear hH gpr
      have h4' := h4.sub (X' := X) (fun _ q => .inl q)
      have hsize4 := h4.below.size
      go_loopw [92] (fun i wr => ∃ j : Nat, j ≤ H.length ∧ i = .int .i64 (j : Int) ∧ Below w4.heap.size w4 wr) (fun i _ => H.length - (intOf i).toNat)
      case atStart => exact ⟨0, Nat.zero_le _, rfl, Below.refl _ _⟩
      case round =>
        obtain ⟨j, hj, rfl, hb5⟩ := hrel
        have hHl := hn4.len
        have hcap1 := hn4.1
        by_cases hltj : j < H.length
        · obtain ⟨p, hp⟩ : ∃ p, H[j]? = some p := ⟨_, List.getElem?_eq_getElem hltj⟩
          obtain ⟨g2, o2, B2, cb2, q2, -, x1, x2, x3, -, -, -⟩ := (hn4.below hb5).at_ hp
          subst q2
          have hlt' : (j : Int) < (H.length : Int) := by omega
          have KL := Lib.hid hltj
          have gb : decide (s1.st.promised < p.2.ballot) = false := decide_eq_false (Nat.not_lt.2 (HB.out p (List.mem_of_getElem? hp)))
          have hba := below_new wr (.cells #[.int .i64 (p.1 : Int), .int .i64 (p.2.ballot : Int), .slice B2 p.2.value.length cb2] TH8)
          have za2 := Blk.new wr TH8 #[.int .i64 (p.1 : Int), .int .i64 (p.2.ballot : Int), .slice B2 p.2.value.length cb2]
          clear hp hltj hw4 hn4
          obtain ⟨sl2, bl2, vl2⟩ := p
          simp only at x1 x2 x3 gb hba za2
          have k1' := za2.cell 1 (v := .int .i64 (bl2 : Int)) rfl
          go_wp2
          go_roundw
          case rel => exact ⟨j + 1, by have := KL.out; omega, by go_num, hb5.trans (hba.mono hb5.size)⟩
          case measure => have := KL.out; simp [intOf]; omega
        · obtain rfl : j = H.length := by omega
          have hw5 := hw4.below hb5
          have h5 := h4'.mono' hb5
          clear hn4 hcap1 hHl hltj
          go_wp2
          generalize hw5n : wr = w5 at *
          clear hw5n
          go_loopw [103] (fun i wr => ∃ j : Nat, j ≤ was.length ∧ i = .int .i64 (j : Int) ∧ Below w5.heap.size w5 wr) (fun i _ => was.length - (intOf i).toNat)
          case atStart => exact ⟨0, Nat.zero_le _, rfl, Below.refl _ _⟩
          case round =>
            obtain ⟨j, hj, rfl, hb6⟩ := hrel
            have hHl := hw5.len
            have hcap1 := hw5.1
            by_cases hltj : j < was.length
            · obtain ⟨p, hp⟩ : ∃ p, was[j]? = some p := ⟨_, List.getElem?_eq_getElem hltj⟩
              obtain ⟨g2, o2, B2, cb2, q2, -, x1, x2, x3, -, -, -⟩ := (hw5.below hb6).at_ hp
              subst q2
              have hlt' : (j : Int) < (was.length : Int) := by omega
              have KL := Lib.hid hltj
              obtain ⟨z, hz1, hz2⟩ := OV.out p (List.mem_of_getElem? hp)
              have hget := LIM.out.ok.rise.get hz1
              have hsl : p.1 ≤ 4611686018427387904 := by
                have h1 := (LIM.out.slots _ hz1).1
                simp only at h1
                omega
              have hba := below_new wr (.cells #[.int .i64 (p.1 : Int), .int .i64 (p.2.ballot : Int), .slice B2 p.2.value.length cb2] TH8)
              have za2 := Blk.new wr TH8 #[.int .i64 (p.1 : Int), .int .i64 (p.2.ballot : Int), .slice B2 p.2.value.length cb2]
              have hG := get_S ((h5.mono' hb6).mono' hba) up1 p.1 hsl
              rw [hget] at hG
              unfold GetDid at hG
              simp only [Option.getD_some, Option.isSome_some] at hG
              clear hp hltj hw5 hz1 hget hsl
              obtain ⟨sl2, bl2, vl2⟩ := p
              obtain ⟨zb, zv⟩ := z
              simp only at x1 x2 x3 hba za2 hz2 hG
              have gz : decide (zb < bl2) = false := decide_eq_false (Nat.not_lt.2 hz2)
              clear hz2
              have k0' := za2.cell 0 (v := .int .i64 (sl2 : Int)) rfl
              go_wp2_with (first
                | (go_at_call 68; refine hG.mono ?_; rintro e w7 ⟨A9, c9, rfl, ho9, hc9, hm9, hb7⟩; have z7 := za2.below' hb7; have k1' := z7.cell 1 (v := .int .i64 (bl2 : Int)) rfl; clear hG))
              go_roundw
              case rel => exact ⟨j + 1, by have := KL.out; omega, by go_num, (hb6.trans (hba.mono hb6.size)).trans (hb7.mono (Nat.le_trans hb6.size hba.size))⟩
              case measure => have := KL.out; simp [intOf]; omega
            · obtain rfl : j = was.length := by omega
              have KL := Lib.hid hltk
              clear hltj hcap1 hHl hltk
              go_wp2
              go_roundw
              case rel => exact ⟨k + 1, s1, by have := KL.out; omega, by have := KL.out; omega, by go_num, rfl, ⟨st1, rcs1, HFX.out⟩, up1, OV.out, h5.mono' hb6, hw5.below hb6⟩
              case measure => have := KL.out; simp [intOf]; omega
    · have hge : more.length ≤ k ∨ 30 ≤ k := by omega
      have hWk := works_08 W wr hL.below hh
      by_cases hk2 : k < more.length
      all_goals
        clear hC hf hL hw hov
        go_wp2_with (go_at_call 65; refine hWk.mono ?_; rintro e w12 ⟨rfl, hb12⟩; clear hWk)
        go_ret
        exact ⟨rfl, hb12⟩
end Go.Proofs.YtediidajdpdeiaaDoor
