/- StoreTorn: the law's walk. -/
import Derived.Test.YtediidajdpdeiaaDoorJ22
import Derived.Test.YtediidajdpdeiaaDoorJ18

namespace Go.Proofs.YtediidajdpdeiaaDoor
open Go.RowKit CrcM
set_option maxRecDepth 100000

theorem torn_min (p q : Int) (hq : q = min p 1099511627775) (w : World) : (Builtin.min_ #[3, 3] 3 #[.int .i64 p, .int .i64 1099511627775]).run Tryd.prog w = .ok (.int .i64 q) w := by
  rw [run_min_int2]
  have : q = if (1099511627775 : Int) < p then 1099511627775 else p := by rw [hq]; split <;> omega
  rw [this]

theorem torn_tor {s s5 : So} {st0 : St} {rcs extra : List Rc} {a b n : Nat} (h : s.inv 40 50 st0 rcs) (hd : s.log.down = false) (hy : s5.sy = rcs.length) (hT : ∀ i, Tor s.st a b ((extra.take i).foldl Rc.play s.st)) : ∀ (j : Nat) (s6 : So), Rose 51 n s5 st0 (rcs ++ extra) j s6 → Tor s.st a b s6.st := by
  intro j s6 hr
  obtain ⟨i, hi⟩ := h.torn_back hd hy hr
  rw [hi]
  exact hT i

set_option maxHeartbeats 4000000 in
theorem tornLaw_08 (W : World) (hh : HalfAt W) (per : Int) (A : Option Addr) (acts : List Act08) (c : Nat) (hA : ActsAt8 W A acts) (hlen : acts.length ≤ maxLen) (x y : Int) (hy : i64 y) :
    Calls Tryd.prog 18 #[.int .i64 per, .slice A acts.length c, .agg #[.int .i64 x, .int .i64 y]] W fun e w' => e = .returned (.bool true) ∧ Below W.heap.size W w' := by
  have kc := fun (w : World) (C : Array Value) (n c : Nat) => Lib.run_convert_bytes_const (P := Tryd.prog) w 22 TB C n c Tryd.underlying22 Tryd.underlying5
  obtain ⟨kk, hp1, hp2, hp3⟩ := rem_up x 60 (by decide)
  have hpr := rem_any x 60 (by decide)
  have wz1 : IntKind.i64.wrap (x.tmod 60) = x.tmod 60 := by rw [IntKind.wrap_i64]; omega
  have wz2 : IntKind.i64.wrap (x.tmod 60 + 60) = x.tmod 60 + 60 := by rw [IntKind.wrap_i64]; omega
  have wz3 : IntKind.i64.wrap (kk : Int) = (kk : Int) := by rw [IntKind.wrap_i64]; omega
  have hk64 : i64 (kk : Int) := by unfold i64; omega
  have hbW := below_new W (.cells #[.int .i64 x, .int .i64 y] 62)
  have hblk := Blk.new W 62 #[.int .i64 x, .int .i64 y]
  have hP := plays_08 (W.alloc (.cells #[.int .i64 x, .int .i64 y] 62)) (hh.below hbW hh.lt) per A acts c (hA.below hbW) hlen
  have hh1 : HalfAt (W.alloc (.cells #[.int .i64 x, .int .i64 y] 62)) := hh.below hbW hh.lt
  go_enter Tryd.func18, Tryd.ntmps18
  clear hA
  go_wp2_with (first
    | (go_at_call 58; refine hP.mono ?_; rintro e w1 ⟨b, s, st0, rcs, rfl, h1, hf, hd⟩
       obtain ⟨s1, s2, s3, s4, c2, x2, c3, extra, e1, i1, d1, t1, p1, e2, i2, d2, n2, e3, d3, ⟨x3, i3⟩, ⟨c4, e4⟩, i4, d4, y4, hlo, hT⟩ := hf.torn hd
       obtain ⟨s5, e5, i5, d5, y5, -⟩ := i4.crash d4 (kk : Int) y (by omega)
       obtain ⟨q, hq⟩ : ∃ q : Int, q = min (s.st.promised : Int) 1099511627775 := ⟨_, rfl⟩
       have hpb := (hf.inv.st hd).1.ok.pr
       have hmin := torn_min (s.st.promised : Int) q hq
       have wq : IntKind.i64.wrap (q + 1) = q + 1 := (by rw [IntKind.wrap_i64]; omega)
       have e4 : s3.promise (q + 1) = (s4, c4) := (by rw [hq]; exact e4)
       have hlim := (hf.inv.st hd).1
       have hfew := (hf.inv.st hd).2
       have HB := Lib.hid (torn_tor (n := 53) hf.inv hd (y5.trans y4) hT)
       have hL40 : Hid (∀ p ∈ s.st.slots, p.1 < 40) := fun p hp => (hlim.slots p hp).1
       have E1 := Lib.hid e1
       have P1 := Lib.hid p1
       have E2 := Lib.hid e2
       have E3 := Lib.hid e3
       have E4 := Lib.hid e4
       have E5 := Lib.hid e5
       have T1 := Lib.hid t1
       have hl1 : s1.st.lim 40 := t1 ▸ hlim
       have hf1 : s1.st.slots.length ≤ 50 := t1 ▸ hfew
       have hS := sync_S h1
       unfold LiveSDid at hS
       rw [E1.out] at hS
       clear hP e1 p1 e2 e3 e4 e5 t1 hT hq y4 y5 hf hlo)
    | (go_at_call 59; refine hS.mono ?_; rintro e w2 ⟨rfl, h2, -⟩; have hPr := promised_S h2 d1; have hH := has_S h2 hl1 (by decide) (by omega) d1; unfold HasDid at hH; rw [T1.out] at hPr hH; clear hS hl1)
    | (go_at_call 60; refine hPr.mono ?_; rintro e w3 ⟨rfl, rfl⟩; clear hPr)
    | (go_at_call 61; refine hH.mono ?_; rintro e w4 ⟨A1, c1, rfl, hw4, h4, hb4⟩; have hPm := promise_S h4 hh1 i1 (s.st.promised : Int); unfold LiveSDid at hPm; rw [P1.out] at hPm; clear hH)
    | (go_at_call 63; refine hPm.mono ?_; rintro e w5 ⟨rfl, h5, hx5, hk5⟩; have hw5 := hw4.xk hx5 hk5; have hBa := base_S h5 d1; rw [T1.out] at hBa; clear hPm)
    | (go_at_call 69; refine hBa.mono ?_; rintro e w5b ⟨rfl, rfl⟩
       have hac := accept_S (h5.mono' (below_new w5 (.cells #[.int .u8 97] TB (1, 2)))) hh1 i1 (by omega) 1 (s.st.promised : Int) (some ⟨w5.heap.size, 0, none⟩) [97] 1 (Arg.lit _ (heap_alloc_new _ _) (by rfl)) (by decide)
       unfold LiveSDid at hac
       rw [show s1.accept 1 (s.st.promised : Int) [97] = (s2, c2) from E2.out, List.length_singleton] at hac
       have hwa := hw5.below (below_new w5 (.cells #[.int .u8 97] TB (1, 2)))
       clear hBa)
    | (go_at_call 66; refine hac.mono ?_; rintro e w6 ⟨rfl, h6, hx6, hk6⟩
       have hw6 := hwa.xk hx6 hk6
       have had := accept_S (h6.mono' (below_new w6 (.cells #[.int .u8 98] TB (1, 2)))) hh1 i2 n2 50 (s.st.promised : Int) (some ⟨w6.heap.size, 0, none⟩) [98] 1 (Arg.lit _ (heap_alloc_new _ _) (by rfl)) (by decide)
       unfold LiveSDid at had
       rw [show s2.accept 50 (s.st.promised : Int) [98] = (s3, c3) from E3.out, List.length_singleton] at had
       have hwb := hw6.below (below_new w6 (.cells #[.int .u8 98] TB (1, 2)))
       clear hac)
    | (go_at_call 66; refine had.mono ?_; rintro e w7 ⟨rfl, h7, hx7, hk7⟩
       have hw7 := hwb.xk hx7 hk7
       have hPn := promise_S h7 hh1 i3 (q + 1)
       unfold LiveSDid at hPn
       rw [E4.out] at hPn
       clear had)
    | (go_at_call 63; refine hPn.mono ?_; rintro e w8 ⟨rfl, h8, hx8, hk8⟩; have hw8 := hw7.xk hx8 hk8; have hPr4 := promised_S h8 d4; have hC := crash_S h8 (kk : Int) y hk64 hy; unfold LiveSDid at hC; rw [E5.out] at hC; have a0 := (h8.below.cell (p := ⟨W.heap.size, 0, none⟩) hblk.lt).trans (hblk.cell 0 (v := .int .i64 x) rfl); have a1 := (h8.below.cell (p := ⟨W.heap.size, 1, none⟩) hblk.lt).trans (hblk.cell 1 (v := .int .i64 y) rfl); clear hPn)
    | (go_at_call 60; refine hPr4.mono ?_; rintro e w8' ⟨rfl, rfl⟩; clear hPr4)
    | (go_at_call 62; refine hC.mono ?_; rintro e w9 ⟨rfl, h9, hx9, hk9⟩; have hR := restart_S h9 hh1 i5 d5; have hw9 := hw8.xk hx9 hk9; clear hC)
    | (go_at_call 64; refine hR.mono ?_; rintro e w10 ⟨j, s6, rfl, h10, hx10, hk10, hro⟩
       have hTo := HB.out _ _ hro
       have hup6 := hro.down
       have hl6 := (hro.inv.st hup6).1
       have hw10 := hw9.xk hx10 hk10
       have hPa := promised_S h10 hup6
       have hPb := promised_S h10 hup6
       have hBb := base_S h10 hup6
       rw [hTo.base] at hBb
       have g1 : decide (s6.st.promised < s.st.promised) = false := decide_eq_false (Nat.not_lt.2 hTo.lo)
       have g2 : decide (s4.st.promised < s6.st.promised) = false := decide_eq_false (Nat.not_lt.2 hTo.hi)
       have HTs := Lib.hid hTo.slots
       have HTb := Lib.hid hTo.b
       clear hR hTo hro)
    | (go_at_call 60; refine hPa.mono ?_; rintro e w10a ⟨rfl, rfl⟩; clear hPa)
    | (go_at_call 60; refine hPb.mono ?_; rintro e w10b ⟨rfl, rfl⟩; clear hPb)
    | (go_at_call 69; refine hBb.mono ?_; rintro e w10c ⟨rfl, rfl⟩; clear hBb))
  clear hlim hfew hw9 hw8 hw7 hw6 hw5 hw4 hwa hwb wz1 wz2 wz3 hp1 hp2 hp3 hpr hk64 a0 a1 g1 g2 wq hmin hpb hf1 n2
  generalize s.st.slots = H at *
  go_loopw [88] (fun i wr => ∃ k : Nat, k ≤ H.length ∧ i = .int .i64 (k : Int) ∧ Below w10.heap.size w10 wr) (fun i _ => H.length - (intOf i).toNat)
  case atStart => exact ⟨0, Nat.zero_le _, rfl, Below.refl _ _⟩
  case round =>
    obtain ⟨k, hk, rfl, hb9⟩ := hrel
    have hcap1 := hw10.1
    have hHl := hw10.len
    by_cases hlt : k < H.length
    · obtain ⟨p, hp⟩ : ∃ p, H[k]? = some p := ⟨_, List.getElem?_eq_getElem hlt⟩
      obtain ⟨g, o, B, cb, q1, -, x1, x2, x3, -, -, x4⟩ := (hw10.below hb9).at_ hp
      subst q1
      have hpm := List.mem_of_getElem? hp
      have hp40 := hL40.out p hpm
      obtain ⟨z, hz1, hz2, hz3⟩ := HTs.out p hpm
      have hget := hl6.ok.rise.get hz1
      have hlt' : (k : Int) < (H.length : Int) := by omega
      clear hp hw10 hpm hz1
      obtain ⟨sl, bl, vl⟩ := p
      simp only at x1 x2 x3 x4 hp40 hz2 hz3 hget
      have hba := below_new wr (.cells #[.int .i64 (sl : Int), .int .i64 (bl : Int), .slice B vl.length cb] TH8)
      have za := Blk.new wr TH8 #[.int .i64 (sl : Int), .int .i64 (bl : Int), .slice B vl.length cb]
      have oa : Own Yes (wr.alloc (.cells #[.int .i64 (sl : Int), .int .i64 (bl : Int), .slice B vl.length cb] TH8)) B vl := x4.bk (BK.below hba)
      have hG := get_S ((h10.mono' hb9).mono' hba) hup6 sl (by omega)
      rw [hget] at hG
      unfold GetDid at hG
      simp only [Option.getD_some, Option.isSome_some] at hG
      obtain ⟨b2, v2⟩ := z
      simp only at hz2 hz3 hG
      have hz2' : decide (b2 < bl) = false := decide_eq_false (Nat.not_lt.2 hz2)
      by_cases e1 : sl = 1
      · subst e1
        clear hz3 hget hz2
        go_wp2_with (first
          | (go_at_call 68; refine hG.mono ?_; rintro e w11 ⟨A9, c9, rfl, ho9, hc9, hm9, hb11⟩; have z11 := za.below' hb11; have ca0 := z11.cell 0 (v := .int .i64 ((1 : Nat) : Int)) rfl; have ca1 := z11.cell 1 (v := .int .i64 (bl : Int)) rfl; clear hG))
        go_roundw
        case rel => exact ⟨k + 1, by omega, by go_num, (hb9.trans (hba.mono hb9.size)).trans (hb11.mono (Nat.le_trans hb9.size hba.size))⟩
        case measure => simp [intOf]; omega
      · have e2 := hz3 e1
        injection e2 with e3 e4
        subst e3
        subst e4
        have n1 : ((sl : Int) == 1) = false := by rw [beq_eq_false_iff_ne]; omega
        have n2 : ¬ (sl : Int) = 1 := by omega
        clear hz3 hget hz2
        go_wp2_with (first
          | (go_at_call 68; refine hG.mono ?_; rintro e w11 ⟨A9, c9, rfl, ho9, hc9, hm9, hb11⟩; have z11 := za.below' hb11; have ca0 := z11.cell 0 (v := .int .i64 (sl : Int)) rfl; have ca1 := z11.cell 1 (v := .int .i64 (b2 : Int)) rfl; have ca2 := z11.cell 2 (v := .slice B v2.length cb) rfl; have s1' := HeldS.str (ho9.mono (S' := Yes) (fun _ _ => trivial)) c9; have s2' := HeldS.str (oa.bk (BK.below hb11)) cb; clear hG))
        go_roundw
        case rel => exact ⟨k + 1, by omega, by go_num, (hb9.trans (hba.mono hb9.size)).trans (hb11.mono (Nat.le_trans hb9.size hba.size))⟩
        case measure => simp [intOf]; omega
    · obtain rfl : k = H.length := by omega
      have hG := get_S (h10.mono' hb9) hup6 50 (by decide)
      clear hw10
      cases hg : getN 50 s6.st.slots with
      | none =>
        rw [hg] at hG
        unfold GetDid at hG
        simp only [Option.getD_none, Option.isSome_none, List.length_nil] at hG
        clear hg
        go_wp2_with (first
          | (go_at_call 68; refine hG.mono ?_; rintro e w11 ⟨A9, c9, rfl, ho9, hc9, hm9, hb11⟩; have hWk := works_08 _ w11 ((h10.mono' hb9).mono' hb11).below hh1; clear hG)
          | (go_at_call 65; refine hWk.mono ?_; rintro e w12 ⟨rfl, hb12⟩; clear hWk))
        go_ret
        exact ⟨rfl, hbW.trans (hb12.mono hbW.size)⟩
      | some z =>
        have hzb := HTb.out z (getN_some hg)
        rw [hg] at hG
        unfold GetDid at hG
        simp only [Option.getD_some, Option.isSome_some] at hG
        rw [hzb] at hG
        simp only [List.length_singleton] at hG
        clear hg hzb
        go_wp2_with (first
          | (go_at_call 68; refine hG.mono ?_; rintro e w11 ⟨A9, c9, rfl, ho9, hc9, hm9, hb11⟩; have hWk := works_08 _ w11 ((h10.mono' hb9).mono' hb11).below hh1; have s1' : (convert 22 9 (.slice A9 1 c9)).run Tryd.prog w11 = .ok (.string ⟨#[98]⟩) w11 := HeldS.str (v := [98]) (ho9.mono (S' := Yes) (fun _ _ => trivial)) c9; clear hG)
          | (go_at_call 65; refine hWk.mono ?_; rintro e w12 ⟨rfl, hb12⟩; clear hWk))
        go_ret
        exact ⟨rfl, hbW.trans (hb12.mono hbW.size)⟩
end Go.Proofs.YtediidajdpdeiaaDoor

/- What a law of the log is handed: calls, a call, two ints. -/
namespace Go.Proofs.YtediidajdpdeiaaDoor
open Go.RowKit Go.ChangeShapes Go.WideShapes Go.ChangeAt

section
variable {H : Type} {enc : TypeId × Value → H} {W W' : World}

set_option maxRecDepth 100000 in
theorem open_acts7 {fuel : Nat} {cs : List Value} {d : DataW H} {p : List MemPlace}
    (h : DataW.trod enc Tryd.prog W 0 (fun _ => true) true fuel 61 cs = some (d, p)) (hlt : ∀ x ∈ p, x.block < W.heap.size) :
    ∃ A acts c, cs = [.slice A (acts.length) c] ∧ acts.length ≤ maxLen ∧ ActsAt W A acts := by
  obtain ⟨A, len, cap, rfl, hl, hm, hi⟩ := open_structs (P := Tryd.prog) Tryd.underlying61 Tryd.underlying69 (by kernel_rfl) (by kernel_rfl) (by decide) h hlt
  have each : ∀ i, ∃ a : Act07, i < len → ∃ g o B c, A = some ⟨g, o, none⟩ ∧ g < W.heap.size ∧
      W.cell? ⟨g, o + i * 4, none⟩ = some (.int .i64 a.kind) ∧ W.cell? ⟨g, o + i * 4 + 1, none⟩ = some (.int .i64 a.n) ∧ W.cell? ⟨g, o + i * 4 + 2, none⟩ = some (.int .i64 a.flip) ∧
      W.cell? ⟨g, o + i * 4 + 3, none⟩ = some (.slice B a.b.length c) ∧ a.b.length ≤ c ∧ c ≤ maxLen ∧ RdB W B a.b ∧ i64 a.kind ∧ i64 a.n ∧ i64 a.flip := by
    intro i
    by_cases hil : i < len
    · obtain ⟨g, o, hA, hg, hf⟩ := hi i hil
      obtain ⟨v0, n0, y0, q0, c0, t0, _⟩ := hf 0 _ rfl
      obtain ⟨v1, n1, y1, q1, c1, t1, _⟩ := hf 1 _ rfl
      obtain ⟨v2, n2, y2, q2, c2, t2, _⟩ := hf 2 _ rfl
      obtain ⟨v3, n3, y3, q3, c3, t3, hq3⟩ := hf 3 _ rfl
      obtain ⟨k0, e0, hx0, w0⟩ := DataW.trod_int (P := Tryd.prog) Tryd.underlying3 t0
      obtain ⟨k1, e1, hx1, w1⟩ := DataW.trod_int (P := Tryd.prog) Tryd.underlying3 t1
      obtain ⟨k2, e2, hx2, w2⟩ := DataW.trod_int (P := Tryd.prog) Tryd.underlying3 t2
      obtain ⟨B, l, cc, e3, hl3, hm3, hr3⟩ := open_bytes (P := Tryd.prog) Tryd.underlying22 Tryd.underlying5 cells_u8 t3 hq3
      simp only [List.cons.injEq, and_true] at e0 e1 e2 e3
      subst e0 e1 e2 e3
      exact ⟨⟨k0, k1, k2, l⟩, fun _ => ⟨g, o, B, cc, hA, hg, c0, by simpa [Nat.add_assoc] using c1, by simpa [Nat.add_assoc] using c2, by simpa [Nat.add_assoc] using c3, hl3, hm3, hr3, i64_of w0, i64_of w1, i64_of w2⟩⟩
    · exact ⟨⟨0, 0, 0, []⟩, fun h => absurd h hil⟩
  have hch := Classical.axiomOfChoice each
  obtain ⟨f, hf⟩ := hch
  have hlen : ((List.range len).map f).length = len := by simp
  refine ⟨A, (List.range len).map f, cap, by rw [hlen], by rw [hlen]; omega, ?_⟩
  intro j a ha
  have hj : j < len := by rw [← hlen]; exact (List.getElem?_eq_some_iff.1 ha).1
  rw [List.getElem?_map, List.getElem?_range hj] at ha
  injection ha with ha
  subst ha
  exact hf j hj

set_option maxRecDepth 100000 in
/-- a call that is handed in by value -/
theorem open_act7 {base : Nat} {v : Value} {d : DataW H} {p : List MemPlace} (hv : Value.okWide Tryd.prog W .any base 69 v) (h : DataW.Trod enc Tryd.prog W 0 (fun _ => true) true 69 v d p)
    (hlt : ∀ x ∈ p, x.block < W.heap.size) :
    ∃ (a : Act07) (B : Option Addr) (c : Nat), v = .agg #[.int .i64 a.kind, .int .i64 a.n, .int .i64 a.flip, .slice B a.b.length c] ∧ a.b.length ≤ c ∧ c ≤ maxLen ∧ RdB W B a.b ∧ i64 a.kind ∧ i64 a.n ∧ i64 a.flip := by
  obtain ⟨v0, v1, v2, v3, y0, y1, y2, y3, n, rfl, rfl, rfl, t0, t1, t2, t3⟩ := Joins.open_agg4 (P := Tryd.prog) Tryd.underlying69 (by kernel_rfl) (by kernel_rfl) hv h
  obtain ⟨k0, e0, _, w0⟩ := DataW.trod_int (P := Tryd.prog) Tryd.underlying3 t0
  obtain ⟨k1, e1, _, w1⟩ := DataW.trod_int (P := Tryd.prog) Tryd.underlying3 t1
  obtain ⟨k2, e2, _, w2⟩ := DataW.trod_int (P := Tryd.prog) Tryd.underlying3 t2
  obtain ⟨B, l, cc, e3, hl3, hm3, hr3⟩ := open_bytes (P := Tryd.prog) Tryd.underlying22 Tryd.underlying5 cells_u8 (p := y3.2) (d := y3.1) t3 (fun x hx => hlt x (by simp [hx]))
  simp only [List.cons.injEq, and_true] at e0 e1 e2 e3
  subst e0 e1 e2 e3
  exact ⟨⟨k0, k1, k2, l⟩, B, cc, rfl, hl3, hm3, hr3, i64_of w0, i64_of w1, i64_of w2⟩

set_option maxRecDepth 100000 in
/-- two ints in an array that is handed in by value -/
theorem open_arr2 {base : Nat} {v : Value} {d : DataW H} {p : List MemPlace} (hv : Value.okWide Tryd.prog W .any base 62 v) (h : DataW.Trod enc Tryd.prog W 0 (fun _ => true) true 62 v d p) :
    ∃ x y : Int, v = .agg #[.int .i64 x, .int .i64 y] ∧ i64 x ∧ i64 y := by
  have hv' := hv
  simp only [Value.okWide, Tryd.underlying62] at hv'
  obtain ⟨cs, rfl, hsz, _⟩ := hv'
  have hc : Tryd.prog.cellsOf 62 = 2 := by kernel_rfl
  have hi : Tryd.prog.cellsOf 3 = 1 := by kernel_rfl
  rw [hc] at hsz
  obtain ⟨c0, c1, rfl⟩ : ∃ c0 c1, cs = #[c0, c1] := by
    obtain ⟨l⟩ := cs
    match l, hsz with
    | [a, b], _ => exact ⟨a, b, rfl⟩
  obtain ⟨fuel, hf⟩ := h
  obtain ⟨xs, m, _, _, _, hxl, hat⟩ := DataW.trod_array (P := Tryd.prog) Tryd.underlying62 hf
  have h0 := hat 0 (by omega)
  have h1 := hat 1 (by omega)
  rw [hi] at h0 h1
  rw [List.getElem?_eq_getElem (by omega)] at h0 h1
  obtain ⟨k0, e0, _, w0⟩ := DataW.trod_int (P := Tryd.prog) Tryd.underlying3 h0
  obtain ⟨k1, e1, _, w1⟩ := DataW.trod_int (P := Tryd.prog) Tryd.underlying3 h1
  simp [Value.cells] at e0 e1
  subst e0 e1
  exact ⟨k0, k1, rfl, i64_of w0, i64_of w1⟩

end
end Go.Proofs.YtediidajdpdeiaaDoor

/- What a law of the store is handed: calls, a call. -/
namespace Go.Proofs.YtediidajdpdeiaaDoor
open Go.RowKit Go.ChangeShapes Go.WideShapes Go.ChangeAt

theorem array5 {α : Type} {cs : Array α} (h : cs.size = 5) : ∃ c0 c1 c2 c3 c4, cs = #[c0, c1, c2, c3, c4] := by
  obtain ⟨l⟩ := cs
  match l, h with
  | [c0, c1, c2, c3, c4], _ => exact ⟨c0, c1, c2, c3, c4, rfl⟩
theorem list5 {α : Type} {cs : List α} (h : cs.length = 5) : ∃ c0 c1 c2 c3 c4, cs = [c0, c1, c2, c3, c4] := by
  match cs, h with
  | [c0, c1, c2, c3, c4], _ => exact ⟨c0, c1, c2, c3, c4, rfl⟩

section
variable {H : Type} {enc : TypeId × Value → H} {W W' : World}

set_option maxRecDepth 100000 in
theorem open_acts8 {fuel : Nat} {cs : List Value} {d : DataW H} {p : List MemPlace}
    (h : DataW.trod enc Tryd.prog W 0 (fun _ => true) true fuel 93 cs = some (d, p)) (hlt : ∀ x ∈ p, x.block < W.heap.size) :
    ∃ A acts c, cs = [.slice A (acts.length) c] ∧ acts.length ≤ maxLen ∧ ActsAt8 W A acts := by
  obtain ⟨A, len, cap, rfl, hl, hm, hi⟩ := open_structs (P := Tryd.prog) Tryd.underlying93 Tryd.underlying102 (by kernel_rfl) (by kernel_rfl) (by decide) h hlt
  have each : ∀ i, ∃ a : Act08, i < len → ∃ g o B c, A = some ⟨g, o, none⟩ ∧ g < W.heap.size ∧
      W.cell? ⟨g, o + i * 5, none⟩ = some (.int .i64 a.kind) ∧ W.cell? ⟨g, o + i * 5 + 1, none⟩ = some (.int .i64 a.n) ∧ W.cell? ⟨g, o + i * 5 + 2, none⟩ = some (.int .i64 a.slot) ∧ W.cell? ⟨g, o + i * 5 + 3, none⟩ = some (.int .i64 a.flip) ∧
      W.cell? ⟨g, o + i * 5 + 4, none⟩ = some (.slice B a.b.length c) ∧ a.b.length ≤ c ∧ c ≤ maxLen ∧ RdB W B a.b ∧ i64 a.kind ∧ i64 a.n ∧ i64 a.slot ∧ i64 a.flip := by
    intro i
    by_cases hil : i < len
    · obtain ⟨g, o, hA, hg, hf⟩ := hi i hil
      obtain ⟨v0, n0, y0, q0, c0, t0, _⟩ := hf 0 _ rfl
      obtain ⟨v1, n1, y1, q1, c1, t1, _⟩ := hf 1 _ rfl
      obtain ⟨v2, n2, y2, q2, c2, t2, _⟩ := hf 2 _ rfl
      obtain ⟨v3, n3, y3, q3, c3, t3, _⟩ := hf 3 _ rfl
      obtain ⟨v4, n4, y4, q4, c4, t4, hq4⟩ := hf 4 _ rfl
      obtain ⟨k0, e0, hx0, w0⟩ := DataW.trod_int (P := Tryd.prog) Tryd.underlying3 t0
      obtain ⟨k1, e1, hx1, w1⟩ := DataW.trod_int (P := Tryd.prog) Tryd.underlying3 t1
      obtain ⟨k2, e2, hx2, w2⟩ := DataW.trod_int (P := Tryd.prog) Tryd.underlying3 t2
      obtain ⟨k3, e3, hx3, w3⟩ := DataW.trod_int (P := Tryd.prog) Tryd.underlying3 t3
      obtain ⟨B, l, cc, e4, hl4, hm4, hr4⟩ := open_bytes (P := Tryd.prog) Tryd.underlying22 Tryd.underlying5 cells_u8 t4 hq4
      simp only [List.cons.injEq, and_true] at e0 e1 e2 e3 e4
      subst e0 e1 e2 e3 e4
      exact ⟨⟨k0, k1, k2, k3, l⟩, fun _ => ⟨g, o, B, cc, hA, hg, c0, by simpa [Nat.add_assoc] using c1, by simpa [Nat.add_assoc] using c2, by simpa [Nat.add_assoc] using c3, by simpa [Nat.add_assoc] using c4, hl4, hm4, hr4, i64_of w0, i64_of w1, i64_of w2, i64_of w3⟩⟩
    · exact ⟨⟨0, 0, 0, 0, []⟩, fun h => absurd h hil⟩
  have hch := Classical.axiomOfChoice each
  obtain ⟨f, hf⟩ := hch
  have hlen : ((List.range len).map f).length = len := by simp
  refine ⟨A, (List.range len).map f, cap, by rw [hlen], by rw [hlen]; omega, ?_⟩
  intro j a ha
  have hj : j < len := by rw [← hlen]; exact (List.getElem?_eq_some_iff.1 ha).1
  rw [List.getElem?_map, List.getElem?_range hj] at ha
  injection ha with ha
  subst ha
  exact hf j hj

set_option maxRecDepth 100000 in
/-- a call that is handed in by value -/
theorem open_act8 {base : Nat} {v : Value} {d : DataW H} {p : List MemPlace} (hv : Value.okWide Tryd.prog W .any base 102 v) (h : DataW.Trod enc Tryd.prog W 0 (fun _ => true) true 102 v d p)
    (hlt : ∀ x ∈ p, x.block < W.heap.size) :
    ∃ (a : Act08) (B : Option Addr) (c : Nat), v = .agg #[.int .i64 a.kind, .int .i64 a.n, .int .i64 a.slot, .int .i64 a.flip, .slice B a.b.length c] ∧ a.b.length ≤ c ∧ c ≤ maxLen ∧ RdB W B a.b ∧ i64 a.kind ∧ i64 a.n ∧ i64 a.slot ∧ i64 a.flip := by
  obtain ⟨cs, rfl, hsz⟩ := okWide_struct Tryd.underlying102 hv
  obtain ⟨v0, v1, v2, v3, v4, rfl⟩ := array5 (hsz.trans (by kernel_rfl))
  obtain ⟨fuel, hf⟩ := h
  obtain ⟨xs, n, _, hx, hl, hlen, hat⟩ := DataW.trod_struct Tryd.underlying102 hf
  obtain ⟨y0, y1, y2, y3, y4, rfl⟩ := list5 hlen
  simp only [Prod.mk.injEq] at hx
  obtain ⟨rfl, rfl⟩ := hx
  have o1 : Tryd.prog.cellsOf 3 = 1 := by kernel_rfl
  have o2 : Tryd.prog.cellsOf 22 = 1 := by kernel_rfl
  have t0 := hat 0 _ rfl
  have t1 := hat 1 _ rfl
  have t2 := hat 2 _ rfl
  have t3 := hat 3 _ rfl
  have t4 := hat 4 _ rfl
  simp [Value.cells, o1, o2] at t0 t1 t2 t3 t4
  obtain ⟨k0, e0, _, w0⟩ := DataW.trod_int (P := Tryd.prog) Tryd.underlying3 t0
  obtain ⟨k1, e1, _, w1⟩ := DataW.trod_int (P := Tryd.prog) Tryd.underlying3 t1
  obtain ⟨k2, e2, _, w2⟩ := DataW.trod_int (P := Tryd.prog) Tryd.underlying3 t2
  obtain ⟨k3, e3, _, w3⟩ := DataW.trod_int (P := Tryd.prog) Tryd.underlying3 t3
  obtain ⟨B, l, cc, e4, hl4, hm4, hr4⟩ := open_bytes (P := Tryd.prog) Tryd.underlying22 Tryd.underlying5 cells_u8 (p := y4.2) (d := y4.1) t4 (fun x hx => hlt x (by simp [hx]))
  simp only [List.cons.injEq, and_true] at e0 e1 e2 e3 e4
  subst e0 e1 e2 e3 e4
  exact ⟨⟨k0, k1, k2, k3, l⟩, B, cc, rfl, hl4, hm4, hr4, i64_of w0, i64_of w1, i64_of w2, i64_of w3⟩
end
end Go.Proofs.YtediidajdpdeiaaDoor
