/- The chapter's example (layer 8). -/
import Derived.Test.YtediidajdpdeiaaGreatDoorJ18
import Derived.Test.YtediidajdpdeiaaGreatDoorJ13
import Derived.Test.YtediidajdpdeiaaGreatDoorJ15
import Derived.Test.YtediidajdpdeiaaGreatDoorJ17

namespace Go.Proofs.YtediidajdpdeiaaGreatDoor
open Go.RowKit CrcM
set_option maxRecDepth 100000

def exLog : Lg := ((((((Lg.new 3).append (Rc.prom 3).enc).1.append (Rc.acc 0 3 [120]).enc).1.sync.1.append (Rc.acc 1 3 [121]).enc).1.crash 0 0).1.restart).1
theorem exLog_recs : (recsS exLog.segs).length = 2 := by decide +kernel
/-- what the example makes of a store -/
theorem works_plain : ∃ s1 s2 s3 s4 s5 rcs4, (So.new 3).inv 2 0 St.new [] ∧ (So.new 3).promise 3 = (s1, 0) ∧ s1.inv 2 1 St.new [.prom 3] ∧ s1.st.slots.length < 1048575 ∧ s1.accept ((0 : Nat) : Int) ((3 : Nat) : Int) [120] = (s2, 0) ∧ s2.sync = (s3, 0) ∧ s3.inv 2 2 St.new [.prom 3, .acc 0 3 [120]] ∧ s3.st.slots.length < 1048575 ∧
    s3.accept ((1 : Nat) : Int) ((3 : Nat) : Int) [121] = (s4, 0) ∧ rcs4 = [.prom 3, .acc 0 3 [120], .acc 1 3 [121]] ∧ s4.crash 0 0 = (s5, 0) ∧ s5.inv 2 3 St.new rcs4 ∧ s5.log.down = true ∧ s5.log.restart.1 = exLog := by
  have h0 := So.inv_new (per := 3) (by decide) (by decide) 2
  rcases h0.promise rfl (by decide) 3 with ⟨_, ⟨_, hh⟩ | ⟨_, _, hh⟩ | ⟨_, hh⟩⟩ | ⟨k, hk, _, _, s1, e1, p1⟩
  · exact absurd hh (by decide)
  · exact absurd hh (by decide)
  · exact absurd hh (by decide)
  obtain rfl : k = 3 := by omega
  have t1 : s1.st = ⟨3, 0, []⟩ := p1.st
  obtain ⟨s2, e2, p2⟩ := p1.inv.accept_ok p1.down (by decide) 0 3 [120] (by decide) (by decide) (by decide) (by decide) (by rw [t1]; decide) (by rw [t1]; decide)
  obtain ⟨s3, e3, i3, d3, y3, t3, l3⟩ := p2.inv.sync p2.down
  have t2 : s2.st = ⟨3, 0, [(0, ⟨3, [120]⟩)]⟩ := by rw [p2.st, t1]; rfl
  obtain ⟨s4, e4, p4⟩ := i3.accept_ok d3 (by decide) 1 3 [121] (by decide) (by decide) (by decide) (by decide) (by rw [t3, t2]; decide) (by rw [t3, t2]; decide)
  obtain ⟨s5, e5, i5, d5, y5, l5⟩ := p4.inv.crash p4.down 0 0 (by decide)
  refine ⟨s1, s2, s3, s4, s5, _, h0, e1, p1.inv, by rw [t1]; decide, e2, e3, i3, by rw [t3, t2]; decide, e4, rfl, e5, i5, d5, ?_⟩
  rw [l5, p4.log, l3, p2.log, p1.log]
  rfl
theorem works_state {s5 s6 : So} {rcs4 : List Rc} {j : Nat} (h : Rose 2 3 s5 St.new rcs4 j s6) (hr : rcs4 = [.prom 3, .acc 0 3 [120], .acc 1 3 [121]]) (hl : s5.log.restart.1 = exLog) : s6.st = ⟨3, 0, [(0, ⟨3, [120]⟩)]⟩ := by
  have h1 := h.inv.recs
  have h2 := congrArg List.length h1
  rw [h.log, hl, exLog_recs, List.length_map, List.length_take, hr] at h2
  have h3 := h.le
  rw [hr] at h3
  have : j = 2 := by simp only [List.length_cons, List.length_nil] at h2 h3; omega
  rw [h.inv.up h.down, hr, this]
  rfl
theorem works_08 (W w : World) (hb : Below W.heap.size W w) (hh : HalfAt W) : Calls Tryz.prog 24 #[] w fun e w' => e = .returned (.bool true) ∧ Below W.heap.size W w' := by
  have kc := fun (w : World) (C : Array Value) (n c : Nat) => Lib.run_convert_bytes_const (P := Tryz.prog) w 30 TB C n c Tryz.underlying30 Tryz.underlying5
  obtain ⟨s1, s2, s3, s4, s5, rcs4, h0, e1, i1, n1, e2, e3, i3, n3, e4, hrcs, e5, i5, d5, l5⟩ := works_plain
  have E1 := Lib.hid e1
  have E2 := Lib.hid e2
  have E3 := Lib.hid e3
  have E4 := Lib.hid e4
  have E5 := Lib.hid e5
  have L5 := Lib.hid l5
  have HR := Lib.hid hrcs
  clear e1 e2 e3 e4 e5 l5 hrcs
  go_enter Tryz.func24, Tryz.ntmps24
  go_wp2_with (first
    | (go_at_call 7; refine (new_S hb 3 (by decide) (by decide)).mono ?_; rintro e w1 ⟨b, rfl, hl1, hb1⟩; have hl1' := hl1.sub (X' := Non) (fun _ h => h.elim); have hP := promise_S hl1' hh h0 3; unfold LiveSDid at hP; rw [show (3 : Int).toNat = 3 from rfl, E1.out] at hP)
    | (go_at_call 62; refine hP.mono ?_; rintro e w2 ⟨rfl, hl2, -⟩; have hA := accept_S (hl2.mono' (below_new w2 (.cells #[.int .u8 120] TB (1, 2)))) hh i1 n1 0 3 (some ⟨w2.heap.size, 0, none⟩) [120] 1 (Arg.lit _ (heap_alloc_new _ _) (by rfl)) (by decide); unfold LiveSDid at hA; rw [show s1.accept 0 3 [120] = (s2, 0) from E2.out, List.length_singleton] at hA; clear hP)
    | (go_at_call 10; refine hA.mono ?_; rintro e w3 ⟨rfl, hl3, -⟩; have hY := sync_S hl3; unfold LiveSDid at hY; rw [E3.out] at hY; clear hA)
    | (go_at_call 65; refine hY.mono ?_; rintro e w4 ⟨rfl, hl4, -⟩; have hB := accept_S (hl4.mono' (below_new w4 (.cells #[.int .u8 121] TB (1, 2)))) hh i3 n3 1 3 (some ⟨w4.heap.size, 0, none⟩) [121] 1 (Arg.lit _ (heap_alloc_new _ _) (by rfl)) (by decide); unfold LiveSDid at hB; rw [show s3.accept 1 3 [121] = (s4, 0) from E4.out, List.length_singleton] at hB; clear hY)
    | (go_at_call 10; refine hB.mono ?_; rintro e w5 ⟨rfl, hl5, -⟩; have hC := crash_S hl5 0 0 (by unfold i64; decide) (by unfold i64; decide); unfold LiveSDid at hC; rw [E5.out] at hC; clear hB)
    | (go_at_call 70; refine hC.mono ?_; rintro e w6 ⟨rfl, hl6, -⟩; have hS := restart_S hl6 hh i5 d5; clear hC)
    | (go_at_call 72; refine hS.mono ?_; rintro e w7 ⟨j, s6, rfl, hl7, -, -, hro⟩; have hst := works_state hro HR.out L5.out; have hup := hro.down; have hG0 := get_S hl7 hup 0 (by decide); rw [hst, show getN 0 (⟨3, 0, [(0, ⟨3, [120]⟩)]⟩ : St).slots = some ⟨3, [120]⟩ from rfl] at hG0; unfold GetDid at hG0; simp only [Option.getD_some, Option.isSome_some, List.length_singleton] at hG0; clear hS)
    | (go_at_call 77; refine hG0.mono ?_; rintro e w8 ⟨A8, c8, rfl, ho8, hc8, hm8, hb8⟩; have hl8 := hl7.mono' hb8; have hG1 := get_S hl8 hup 1 (by decide); rw [hst, show getN 1 (⟨3, 0, [(0, ⟨3, [120]⟩)]⟩ : St).slots = none from rfl] at hG1; unfold GetDid at hG1; simp only [Option.getD_none, Option.isSome_none, List.length_nil] at hG1; clear hG0)
    | (go_at_call 77; refine hG1.mono ?_; rintro e w9 ⟨A9, c9, rfl, ho9, hc9, hm9, hb9⟩; have hl9 := hl8.mono' hb9; have hPr := promised_S hl9 hup; rw [hst] at hPr; have hSl := slots_S hl9 hup; rw [hst, show So.top (⟨3, 0, [(0, ⟨3, [120]⟩)]⟩ : St).slots = 1 from rfl] at hSl; have hs1 : (convert 30 9 (.slice A8 1 c8)).run Tryz.prog w9 = .ok (.string ⟨#[120]⟩) w9 := run_str (l := [120]) ((ho8.fr (S' := Non) (Fr.of_below hb9)).rd Non) c8; clear hG1)
    | (go_at_call 14; refine hPr.mono ?_; rintro e w10 ⟨rfl, rfl⟩)
    | (go_at_call 15; refine hSl.mono ?_; rintro e w11 ⟨rfl, hb11⟩))
  all_goals
    go_ret
    exact ⟨rfl, (hl9.mono' hb11).below⟩
end Go.Proofs.YtediidajdpdeiaaGreatDoor

/- The calls that the laws of the store play (layer 8): the walk. -/
namespace Go.Proofs.YtediidajdpdeiaaGreatDoor
open Go.RowKit CrcM
set_option maxRecDepth 100000

/-- a call -/
structure Act08 where
  kind : Int
  n : Int
  slot : Int
  flip : Int
  b : List UInt8

/-- calls that lie in memory, as the law was handed them -/
def ActsAt8 (W : World) (A : Option Addr) (acts : List Act08) : Prop := ∀ j a, acts[j]? = some a → ∃ g o B c, A = some ⟨g, o, none⟩ ∧ g < W.heap.size ∧
  W.cell? ⟨g, o + j * 5, none⟩ = some (.int .i64 a.kind) ∧ W.cell? ⟨g, o + j * 5 + 1, none⟩ = some (.int .i64 a.n) ∧ W.cell? ⟨g, o + j * 5 + 2, none⟩ = some (.int .i64 a.slot) ∧ W.cell? ⟨g, o + j * 5 + 3, none⟩ = some (.int .i64 a.flip) ∧
  W.cell? ⟨g, o + j * 5 + 4, none⟩ = some (.slice B a.b.length c) ∧ a.b.length ≤ c ∧ c ≤ maxLen ∧ RdB W B a.b ∧ i64 a.kind ∧ i64 a.n ∧ i64 a.slot ∧ i64 a.flip

theorem RdB.below8 {W W' : World} {A : Option Addr} {l : List UInt8} (h : RdB W A l) (hb : Below W.heap.size W W') : RdB W' A l := fun j x hx => by
  obtain ⟨ad, e, hlt, hc⟩ := h j x hx
  exact ⟨ad, e, Nat.lt_of_lt_of_le hlt hb.size, (hb.cell (p := ad.add j) (by rw [add_block]; exact hlt)).trans hc⟩
theorem ActsAt8.below {W W' : World} {A : Option Addr} {acts : List Act08} (h : ActsAt8 W A acts) (hb : Below W.heap.size W W') : ActsAt8 W' A acts := fun j a ha => by
  obtain ⟨g, o, B, c, e, hg, e0, e1, e2, e3, e4, h1, h2, h3, h4⟩ := h j a ha
  exact ⟨g, o, B, c, e, Nat.lt_of_lt_of_le hg hb.size, (hb.cell (p := ⟨g, o + j * 5, none⟩) hg).trans e0, (hb.cell (p := ⟨g, o + j * 5 + 1, none⟩) hg).trans e1, (hb.cell (p := ⟨g, o + j * 5 + 2, none⟩) hg).trans e2, (hb.cell (p := ⟨g, o + j * 5 + 3, none⟩) hg).trans e3, (hb.cell (p := ⟨g, o + j * 5 + 4, none⟩) hg).trans e4, h1, h2, h3.below8 hb, h4⟩

end Go.Proofs.YtediidajdpdeiaaGreatDoor

/- What a law of the store is handed: calls, a call. -/
namespace Go.Proofs.YtediidajdpdeiaaGreatDoor
open Go.RowKit Go.ChangeShapes Go.WideShapes Go.ChangeAt

section
variable {H : Type} {enc : TypeId × Value → H} {W W' : World}

set_option maxRecDepth 100000 in
theorem open_acts8 {fuel : Nat} {cs : List Value} {d : DataW H} {p : List MemPlace}
    (h : DataW.trod enc Tryz.prog W 0 (fun _ => true) true fuel 22 cs = some (d, p)) (hlt : ∀ x ∈ p, x.block < W.heap.size) :
    ∃ A acts c, cs = [.slice A (acts.length) c] ∧ acts.length ≤ maxLen ∧ ActsAt8 W A acts := by
  obtain ⟨A, len, cap, rfl, hl, hm, hi⟩ := open_structs (P := Tryz.prog) Tryz.underlying22 Tryz.underlying32 (by kernel_rfl) (by kernel_rfl) (by decide) h hlt
  have each : ∀ i, ∃ a : Act08, i < len → ∃ g o B c, A = some ⟨g, o, none⟩ ∧ g < W.heap.size ∧
      W.cell? ⟨g, o + i * 5, none⟩ = some (.int .i64 a.kind) ∧ W.cell? ⟨g, o + i * 5 + 1, none⟩ = some (.int .i64 a.n) ∧ W.cell? ⟨g, o + i * 5 + 2, none⟩ = some (.int .i64 a.slot) ∧ W.cell? ⟨g, o + i * 5 + 3, none⟩ = some (.int .i64 a.flip) ∧
      W.cell? ⟨g, o + i * 5 + 4, none⟩ = some (.slice B a.b.length c) ∧ a.b.length ≤ c ∧ c ≤ maxLen ∧ RdB W B a.b ∧ i64 a.kind ∧ i64 a.n ∧ i64 a.slot ∧ i64 a.flip := by
    intro i
    by_cases hil : i < len
    · obtain ⟨g, o, hA, hg, hf⟩ := hi i hil
      obtain ⟨v0, n0, y0, q0, c0, t0, _⟩ := hf 0 _ rfl
      obtain ⟨v1, n1, y1, q1, c1, t1, _⟩ := hf 1 _ rfl
      obtain ⟨v2, n2, y2, q2, c2, t2, _⟩ := hf 2 _ rfl
      obtain ⟨v3, n3, y3, q3, c3, t3, _⟩ := hf 3 _ rfl
      obtain ⟨v4, n4, y4, q4, c4, t4, hq4⟩ := hf 4 _ rfl
      obtain ⟨k0, e0, hx0, w0⟩ := DataW.trod_int (P := Tryz.prog) Tryz.underlying3 t0
      obtain ⟨k1, e1, hx1, w1⟩ := DataW.trod_int (P := Tryz.prog) Tryz.underlying3 t1
      obtain ⟨k2, e2, hx2, w2⟩ := DataW.trod_int (P := Tryz.prog) Tryz.underlying3 t2
      obtain ⟨k3, e3, hx3, w3⟩ := DataW.trod_int (P := Tryz.prog) Tryz.underlying3 t3
      obtain ⟨B, l, cc, e4, hl4, hm4, hr4⟩ := open_bytes (P := Tryz.prog) Tryz.underlying30 Tryz.underlying5 cells_u8 t4 hq4
      simp only [List.cons.injEq, and_true] at e0 e1 e2 e3 e4
      subst e0 e1 e2 e3 e4
      exact ⟨⟨k0, k1, k2, k3, l⟩, fun _ => ⟨g, o, B, cc, hA, hg, c0, by simpa [Nat.add_assoc] using c1, by simpa [Nat.add_assoc] using c2, by simpa [Nat.add_assoc] using c3, by simpa [Nat.add_assoc] using c4, hl4, hm4, hr4, i64_of w0, i64_of w1, i64_of w2, i64_of w3⟩⟩
    · exact ⟨⟨0, 0, 0, 0, []⟩, fun h => absurd h hil⟩
  have hch := Classical.axiomOfChoice each
  obtain ⟨f, hf⟩ := hch
  have hlen : ((List.range len).map f).length = len := by simp
  refine ⟨A, (List.range len).map f, cap, by rw [hlen], by rw [hlen]; omega, ?_⟩
  intro j a ha
  have hj : j < len := by rw [← hlen]; exact (List.getElem?_eq_some_iff.1 ha).1
  rw [List.getElem?_map, List.getElem?_range hj] at ha
  injection ha with ha
  subst ha
  exact hf j hj

end
end Go.Proofs.YtediidajdpdeiaaGreatDoor
