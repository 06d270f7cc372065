/- What a law of the log is handed: calls, a call, two ints. -/
import Derived.Test.YtediidajdpdeiaaDoorJ18
import Derived.Test.YtediidajdpdeiaaDoorJ22

namespace Go.Proofs.YtediidajdpdeiaaDoor
open Go.RowKit Go.ChangeShapes Go.WideShapes Go.ChangeAt

section
variable {H : Type} {enc : TypeId × Value → H} {W W' : World}

set_option maxRecDepth 100000 in
theorem open_acts7 {fuel : Nat} {cs : List Value} {d : DataW H} {p : List MemPlace}
    (h : DataW.trod enc Tryd.prog W 0 (fun _ => true) true fuel 61 cs = some (d, p)) (hlt : ∀ x ∈ p, x.block < W.heap.size) :
    ∃ A acts c, cs = [.slice A (acts.length) c] ∧ acts.length ≤ maxLen ∧ ActsAt W A acts := by
  obtain ⟨A, len, cap, rfl, hl, hm, hi⟩ := open_structs (P := Tryd.prog) Tryd.underlying61 Tryd.underlying69 (by kernel_rfl) (by kernel_rfl) (by decide) h hlt
  have each : ∀ i, ∃ a : Act07, i < len → ∃ g o B c, A = some ⟨g, o, none⟩ ∧ g < W.heap.size ∧
      W.cell? ⟨g, o + i * 4, none⟩ = some (.int .i64 a.kind) ∧ W.cell? ⟨g, o + i * 4 + 1, none⟩ = some (.int .i64 a.n) ∧ W.cell? ⟨g, o + i * 4 + 2, none⟩ = some (.int .i64 a.flip) ∧
      W.cell? ⟨g, o + i * 4 + 3, none⟩ = some (.slice B a.b.length c) ∧ a.b.length ≤ c ∧ c ≤ maxLen ∧ RdB W B a.b ∧ i64 a.kind ∧ i64 a.n ∧ i64 a.flip := by
    intro i
    by_cases hil : i < len
    · obtain ⟨g, o, hA, hg, hf⟩ := hi i hil
      obtain ⟨v0, n0, y0, q0, c0, t0, _⟩ := hf 0 _ rfl
      obtain ⟨v1, n1, y1, q1, c1, t1, _⟩ := hf 1 _ rfl
      obtain ⟨v2, n2, y2, q2, c2, t2, _⟩ := hf 2 _ rfl
      obtain ⟨v3, n3, y3, q3, c3, t3, hq3⟩ := hf 3 _ rfl
      obtain ⟨k0, e0, hx0, w0⟩ := DataW.trod_int (P := Tryd.prog) Tryd.underlying3 t0
      obtain ⟨k1, e1, hx1, w1⟩ := DataW.trod_int (P := Tryd.prog) Tryd.underlying3 t1
      obtain ⟨k2, e2, hx2, w2⟩ := DataW.trod_int (P := Tryd.prog) Tryd.underlying3 t2
      obtain ⟨B, l, cc, e3, hl3, hm3, hr3⟩ := open_bytes (P := Tryd.prog) Tryd.underlying22 Tryd.underlying5 cells_u8 t3 hq3
      simp only [List.cons.injEq, and_true] at e0 e1 e2 e3
      subst e0 e1 e2 e3
      exact ⟨⟨k0, k1, k2, l⟩, fun _ => ⟨g, o, B, cc, hA, hg, c0, by simpa [Nat.add_assoc] using c1, by simpa [Nat.add_assoc] using c2, by simpa [Nat.add_assoc] using c3, hl3, hm3, hr3, i64_of w0, i64_of w1, i64_of w2⟩⟩
    · exact ⟨⟨0, 0, 0, []⟩, fun h => absurd h hil⟩
  have hch := Classical.axiomOfChoice each
  obtain ⟨f, hf⟩ := hch
  have hlen : ((List.range len).map f).length = len := by simp
  refine ⟨A, (List.range len).map f, cap, by rw [hlen], by rw [hlen]; omega, ?_⟩
  intro j a ha
  have hj : j < len := by rw [← hlen]; exact (List.getElem?_eq_some_iff.1 ha).1
  rw [List.getElem?_map, List.getElem?_range hj] at ha
  injection ha with ha
  subst ha
  exact hf j hj

set_option maxRecDepth 100000 in
/-- a call that is handed in by value -/
theorem open_act7 {base : Nat} {v : Value} {d : DataW H} {p : List MemPlace} (hv : Value.okWide Tryd.prog W .any base 69 v) (h : DataW.Trod enc Tryd.prog W 0 (fun _ => true) true 69 v d p)
    (hlt : ∀ x ∈ p, x.block < W.heap.size) :
    ∃ (a : Act07) (B : Option Addr) (c : Nat), v = .agg #[.int .i64 a.kind, .int .i64 a.n, .int .i64 a.flip, .slice B a.b.length c] ∧ a.b.length ≤ c ∧ c ≤ maxLen ∧ RdB W B a.b ∧ i64 a.kind ∧ i64 a.n ∧ i64 a.flip := by
  obtain ⟨v0, v1, v2, v3, y0, y1, y2, y3, n, rfl, rfl, rfl, t0, t1, t2, t3⟩ := Joins.open_agg4 (P := Tryd.prog) Tryd.underlying69 (by kernel_rfl) (by kernel_rfl) hv h
  obtain ⟨k0, e0, _, w0⟩ := DataW.trod_int (P := Tryd.prog) Tryd.underlying3 t0
  obtain ⟨k1, e1, _, w1⟩ := DataW.trod_int (P := Tryd.prog) Tryd.underlying3 t1
  obtain ⟨k2, e2, _, w2⟩ := DataW.trod_int (P := Tryd.prog) Tryd.underlying3 t2
  obtain ⟨B, l, cc, e3, hl3, hm3, hr3⟩ := open_bytes (P := Tryd.prog) Tryd.underlying22 Tryd.underlying5 cells_u8 (p := y3.2) (d := y3.1) t3 (fun x hx => hlt x (by simp [hx]))
  simp only [List.cons.injEq, and_true] at e0 e1 e2 e3
  subst e0 e1 e2 e3
  exact ⟨⟨k0, k1, k2, l⟩, B, cc, rfl, hl3, hm3, hr3, i64_of w0, i64_of w1, i64_of w2⟩

set_option maxRecDepth 100000 in
/-- two ints in an array that is handed in by value -/
theorem open_arr2 {base : Nat} {v : Value} {d : DataW H} {p : List MemPlace} (hv : Value.okWide Tryd.prog W .any base 62 v) (h : DataW.Trod enc Tryd.prog W 0 (fun _ => true) true 62 v d p) :
    ∃ x y : Int, v = .agg #[.int .i64 x, .int .i64 y] ∧ i64 x ∧ i64 y := by
  have hv' := hv
  simp only [Value.okWide, Tryd.underlying62] at hv'
  obtain ⟨cs, rfl, hsz, _⟩ := hv'
  have hc : Tryd.prog.cellsOf 62 = 2 := by kernel_rfl
  have hi : Tryd.prog.cellsOf 3 = 1 := by kernel_rfl
  rw [hc] at hsz
  obtain ⟨c0, c1, rfl⟩ : ∃ c0 c1, cs = #[c0, c1] := by
    obtain ⟨l⟩ := cs
    match l, hsz with
    | [a, b], _ => exact ⟨a, b, rfl⟩
  obtain ⟨fuel, hf⟩ := h
  obtain ⟨xs, m, _, _, _, hxl, hat⟩ := DataW.trod_array (P := Tryd.prog) Tryd.underlying62 hf
  have h0 := hat 0 (by omega)
  have h1 := hat 1 (by omega)
  rw [hi] at h0 h1
  rw [List.getElem?_eq_getElem (by omega)] at h0 h1
  obtain ⟨k0, e0, _, w0⟩ := DataW.trod_int (P := Tryd.prog) Tryd.underlying3 h0
  obtain ⟨k1, e1, _, w1⟩ := DataW.trod_int (P := Tryd.prog) Tryd.underlying3 h1
  simp [Value.cells] at e0 e1
  subst e0 e1
  exact ⟨k0, k1, rfl, i64_of w0, i64_of w1⟩

end
end Go.Proofs.YtediidajdpdeiaaDoor

/- What a law of the store is handed: calls, a call. -/
namespace Go.Proofs.YtediidajdpdeiaaDoor
open Go.RowKit Go.ChangeShapes Go.WideShapes Go.ChangeAt

theorem array5 {α : Type} {cs : Array α} (h : cs.size = 5) : ∃ c0 c1 c2 c3 c4, cs = #[c0, c1, c2, c3, c4] := by
  obtain ⟨l⟩ := cs
  match l, h with
  | [c0, c1, c2, c3, c4], _ => exact ⟨c0, c1, c2, c3, c4, rfl⟩
theorem list5 {α : Type} {cs : List α} (h : cs.length = 5) : ∃ c0 c1 c2 c3 c4, cs = [c0, c1, c2, c3, c4] := by
  match cs, h with
  | [c0, c1, c2, c3, c4], _ => exact ⟨c0, c1, c2, c3, c4, rfl⟩

section
variable {H : Type} {enc : TypeId × Value → H} {W W' : World}

set_option maxRecDepth 100000 in
theorem open_acts8 {fuel : Nat} {cs : List Value} {d : DataW H} {p : List MemPlace}
    (h : DataW.trod enc Tryd.prog W 0 (fun _ => true) true fuel 93 cs = some (d, p)) (hlt : ∀ x ∈ p, x.block < W.heap.size) :
    ∃ A acts c, cs = [.slice A (acts.length) c] ∧ acts.length ≤ maxLen ∧ ActsAt8 W A acts := by
  obtain ⟨A, len, cap, rfl, hl, hm, hi⟩ := open_structs (P := Tryd.prog) Tryd.underlying93 Tryd.underlying102 (by kernel_rfl) (by kernel_rfl) (by decide) h hlt
  have each : ∀ i, ∃ a : Act08, i < len → ∃ g o B c, A = some ⟨g, o, none⟩ ∧ g < W.heap.size ∧
      W.cell? ⟨g, o + i * 5, none⟩ = some (.int .i64 a.kind) ∧ W.cell? ⟨g, o + i * 5 + 1, none⟩ = some (.int .i64 a.n) ∧ W.cell? ⟨g, o + i * 5 + 2, none⟩ = some (.int .i64 a.slot) ∧ W.cell? ⟨g, o + i * 5 + 3, none⟩ = some (.int .i64 a.flip) ∧
      W.cell? ⟨g, o + i * 5 + 4, none⟩ = some (.slice B a.b.length c) ∧ a.b.length ≤ c ∧ c ≤ maxLen ∧ RdB W B a.b ∧ i64 a.kind ∧ i64 a.n ∧ i64 a.slot ∧ i64 a.flip := by
    intro i
    by_cases hil : i < len
    · obtain ⟨g, o, hA, hg, hf⟩ := hi i hil
      obtain ⟨v0, n0, y0, q0, c0, t0, _⟩ := hf 0 _ rfl
      obtain ⟨v1, n1, y1, q1, c1, t1, _⟩ := hf 1 _ rfl
      obtain ⟨v2, n2, y2, q2, c2, t2, _⟩ := hf 2 _ rfl
      obtain ⟨v3, n3, y3, q3, c3, t3, _⟩ := hf 3 _ rfl
      obtain ⟨v4, n4, y4, q4, c4, t4, hq4⟩ := hf 4 _ rfl
      obtain ⟨k0, e0, hx0, w0⟩ := DataW.trod_int (P := Tryd.prog) Tryd.underlying3 t0
      obtain ⟨k1, e1, hx1, w1⟩ := DataW.trod_int (P := Tryd.prog) Tryd.underlying3 t1
      obtain ⟨k2, e2, hx2, w2⟩ := DataW.trod_int (P := Tryd.prog) Tryd.underlying3 t2
      obtain ⟨k3, e3, hx3, w3⟩ := DataW.trod_int (P := Tryd.prog) Tryd.underlying3 t3
      obtain ⟨B, l, cc, e4, hl4, hm4, hr4⟩ := open_bytes (P := Tryd.prog) Tryd.underlying22 Tryd.underlying5 cells_u8 t4 hq4
      simp only [List.cons.injEq, and_true] at e0 e1 e2 e3 e4
      subst e0 e1 e2 e3 e4
      exact ⟨⟨k0, k1, k2, k3, l⟩, fun _ => ⟨g, o, B, cc, hA, hg, c0, by simpa [Nat.add_assoc] using c1, by simpa [Nat.add_assoc] using c2, by simpa [Nat.add_assoc] using c3, by simpa [Nat.add_assoc] using c4, hl4, hm4, hr4, i64_of w0, i64_of w1, i64_of w2, i64_of w3⟩⟩
    · exact ⟨⟨0, 0, 0, 0, []⟩, fun h => absurd h hil⟩
  have hch := Classical.axiomOfChoice each
  obtain ⟨f, hf⟩ := hch
  have hlen : ((List.range len).map f).length = len := by simp
  refine ⟨A, (List.range len).map f, cap, by rw [hlen], by rw [hlen]; omega, ?_⟩
  intro j a ha
  have hj : j < len := by rw [← hlen]; exact (List.getElem?_eq_some_iff.1 ha).1
  rw [List.getElem?_map, List.getElem?_range hj] at ha
  injection ha with ha
  subst ha
  exact hf j hj

set_option maxRecDepth 100000 in
/-- a call that is handed in by value -/
theorem open_act8 {base : Nat} {v : Value} {d : DataW H} {p : List MemPlace} (hv : Value.okWide Tryd.prog W .any base 102 v) (h : DataW.Trod enc Tryd.prog W 0 (fun _ => true) true 102 v d p)
    (hlt : ∀ x ∈ p, x.block < W.heap.size) :
    ∃ (a : Act08) (B : Option Addr) (c : Nat), v = .agg #[.int .i64 a.kind, .int .i64 a.n, .int .i64 a.slot, .int .i64 a.flip, .slice B a.b.length c] ∧ a.b.length ≤ c ∧ c ≤ maxLen ∧ RdB W B a.b ∧ i64 a.kind ∧ i64 a.n ∧ i64 a.slot ∧ i64 a.flip := by
  obtain ⟨cs, rfl, hsz⟩ := okWide_struct Tryd.underlying102 hv
  obtain ⟨v0, v1, v2, v3, v4, rfl⟩ := array5 (hsz.trans (by kernel_rfl))
  obtain ⟨fuel, hf⟩ := h
  obtain ⟨xs, n, _, hx, hl, hlen, hat⟩ := DataW.trod_struct Tryd.underlying102 hf
  obtain ⟨y0, y1, y2, y3, y4, rfl⟩ := list5 hlen
  simp only [Prod.mk.injEq] at hx
  obtain ⟨rfl, rfl⟩ := hx
  have o1 : Tryd.prog.cellsOf 3 = 1 := by kernel_rfl
  have o2 : Tryd.prog.cellsOf 22 = 1 := by kernel_rfl
  have t0 := hat 0 _ rfl
  have t1 := hat 1 _ rfl
  have t2 := hat 2 _ rfl
  have t3 := hat 3 _ rfl
  have t4 := hat 4 _ rfl
  simp [Value.cells, o1, o2] at t0 t1 t2 t3 t4
  obtain ⟨k0, e0, _, w0⟩ := DataW.trod_int (P := Tryd.prog) Tryd.underlying3 t0
  obtain ⟨k1, e1, _, w1⟩ := DataW.trod_int (P := Tryd.prog) Tryd.underlying3 t1
  obtain ⟨k2, e2, _, w2⟩ := DataW.trod_int (P := Tryd.prog) Tryd.underlying3 t2
  obtain ⟨k3, e3, _, w3⟩ := DataW.trod_int (P := Tryd.prog) Tryd.underlying3 t3
  obtain ⟨B, l, cc, e4, hl4, hm4, hr4⟩ := open_bytes (P := Tryd.prog) Tryd.underlying22 Tryd.underlying5 cells_u8 (p := y4.2) (d := y4.1) t4 (fun x hx => hlt x (by simp [hx]))
  simp only [List.cons.injEq, and_true] at e0 e1 e2 e3 e4
  subst e0 e1 e2 e3 e4
  exact ⟨⟨k0, k1, k2, k3, l⟩, B, cc, rfl, hl4, hm4, hr4, i64_of w0, i64_of w1, i64_of w2, i64_of w3⟩
end
end Go.Proofs.YtediidajdpdeiaaDoor
