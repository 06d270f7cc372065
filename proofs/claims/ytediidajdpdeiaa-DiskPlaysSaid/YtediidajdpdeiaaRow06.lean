/- From a walk of a law of the disk to its row. -/
import Derived.Test.YtediidajdpdeiaaRows
import Derived.Test.YtediidajdpdeiaaWhole06
import Derived.JoinedCond
import Derived.Lib.SmallJoins
namespace Go.Proofs.Ytediidajdpdeiaa
open Go.RowKit Go.ChangeShapes Go.WideShapes Go.ChangeAt

theorem own_knob : ownKnob Try.prog.godebug = none := by kernel_rfl
theorem laid_out : laidOutB Try.prog = true := by kernel_rfl
theorem cells_u8 : Try.prog.cellsOf TB = 1 := by kernel_rfl

section
variable {H : Type} {enc : TypeId × Value → H} {W W' : World}

theorem i64_of {n : Int} (h : (Lit.int .i64 n).wf = true) : i64 n := by
  simpa [Lit.wf, IntKind.min, IntKind.max, IntKind.signed, IntKind.bits, i64] using h

theorem open_acts {fuel : Nat} {cs : List Value} {d : DataW H} {p : List MemPlace}
    (h : DataW.trod enc Try.prog W 0 (fun _ => true) true fuel 22 cs = some (d, p)) (hlt : ∀ x ∈ p, x.block < W.heap.size) :
    ∃ A acts c, cs = [.slice A (acts.length) c] ∧ acts.length ≤ maxLen ∧ ActsAt W A acts := by
  obtain ⟨A, len, cap, rfl, hl, hm, hi⟩ := open_structs (P := Try.prog) Try.underlying22 Try.underlying37 (by kernel_rfl) (by kernel_rfl) (by decide) h hlt
  have each : ∀ i, ∃ a : Act06, i < len → ∃ g o B c, A = some ⟨g, o, none⟩ ∧ g < W.heap.size ∧
      W.cell? ⟨g, o + i * 4, none⟩ = some (.int .i64 a.kind) ∧ W.cell? ⟨g, o + i * 4 + 1, none⟩ = some (.int .i64 a.n) ∧ W.cell? ⟨g, o + i * 4 + 2, none⟩ = some (.int .i64 a.flip) ∧
      W.cell? ⟨g, o + i * 4 + 3, none⟩ = some (.slice B a.b.length c) ∧ a.b.length ≤ c ∧ c ≤ maxLen ∧ RdB W B a.b ∧ i64 a.kind ∧ i64 a.n ∧ i64 a.flip := by
    intro i
    by_cases hil : i < len
    · obtain ⟨g, o, hA, hg, hf⟩ := hi i hil
      obtain ⟨v0, n0, y0, q0, c0, t0, _⟩ := hf 0 _ rfl
      obtain ⟨v1, n1, y1, q1, c1, t1, _⟩ := hf 1 _ rfl
      obtain ⟨v2, n2, y2, q2, c2, t2, _⟩ := hf 2 _ rfl
      obtain ⟨v3, n3, y3, q3, c3, t3, hq3⟩ := hf 3 _ rfl
      obtain ⟨k0, e0, hx0, w0⟩ := DataW.trod_int (P := Try.prog) Try.underlying3 t0
      obtain ⟨k1, e1, hx1, w1⟩ := DataW.trod_int (P := Try.prog) Try.underlying3 t1
      obtain ⟨k2, e2, hx2, w2⟩ := DataW.trod_int (P := Try.prog) Try.underlying3 t2
      obtain ⟨B, l, cc, e3, hl3, hm3, hr3⟩ := open_bytes (P := Try.prog) Try.underlying23 Try.underlying5 cells_u8 t3 hq3
      simp only [List.cons.injEq, and_true] at e0 e1 e2 e3
      subst e0 e1 e2 e3
      exact ⟨⟨k0, k1, k2, l⟩, fun _ => ⟨g, o, B, cc, hA, hg, c0, by simpa [Nat.add_assoc] using c1, by simpa [Nat.add_assoc] using c2, by simpa [Nat.add_assoc] using c3, hl3, hm3, hr3, i64_of w0, i64_of w1, i64_of w2⟩⟩
    · exact ⟨⟨0, 0, 0, []⟩, fun h => absurd h hil⟩
  have hch := Classical.axiomOfChoice each
  obtain ⟨f, hf⟩ := hch
  have hlen : ((List.range len).map f).length = len := by simp
  refine ⟨A, (List.range len).map f, cap, by rw [hlen], by rw [hlen]; omega, ?_⟩
  intro j a ha
  have hj : j < len := by rw [← hlen]; exact (List.getElem?_eq_some_iff.1 ha).1
  rw [List.getElem?_map, List.getElem?_range hj] at ha
  injection ha with ha
  subst ha
  exact hf j hj

/-- a call that is handed in by value -/
theorem open_act {base : Nat} {v : Value} {d : DataW H} {p : List MemPlace} (hv : Value.okWide Try.prog W .any base 37 v) (h : DataW.Trod enc Try.prog W 0 (fun _ => true) true 37 v d p)
    (hlt : ∀ x ∈ p, x.block < W.heap.size) :
    ∃ (a : Act06) (B : Option Addr) (c : Nat), v = .agg #[.int .i64 a.kind, .int .i64 a.n, .int .i64 a.flip, .slice B a.b.length c] ∧ a.b.length ≤ c ∧ c ≤ maxLen ∧ RdB W B a.b ∧ i64 a.kind ∧ i64 a.n ∧ i64 a.flip := by
  obtain ⟨v0, v1, v2, v3, y0, y1, y2, y3, n, rfl, rfl, rfl, t0, t1, t2, t3⟩ := Joins.open_agg4 (P := Try.prog) Try.underlying37 (by kernel_rfl) (by kernel_rfl) hv h
  obtain ⟨k0, e0, _, w0⟩ := DataW.trod_int (P := Try.prog) Try.underlying3 t0
  obtain ⟨k1, e1, _, w1⟩ := DataW.trod_int (P := Try.prog) Try.underlying3 t1
  obtain ⟨k2, e2, _, w2⟩ := DataW.trod_int (P := Try.prog) Try.underlying3 t2
  obtain ⟨B, l, cc, e3, hl3, hm3, hr3⟩ := open_bytes (P := Try.prog) Try.underlying23 Try.underlying5 cells_u8 (p := y3.2) (d := y3.1) t3 (fun x hx => hlt x (by simp [hx]))
  simp only [List.cons.injEq, and_true] at e0 e1 e2 e3
  subst e0 e1 e2 e3
  exact ⟨⟨k0, k1, k2, l⟩, B, cc, rfl, hl3, hm3, hr3, i64_of w0, i64_of w1, i64_of w2⟩

/-- two ints in an array that is handed in by value -/
theorem open_arr2 {base : Nat} {v : Value} {d : DataW H} {p : List MemPlace} (hv : Value.okWide Try.prog W .any base 39 v) (h : DataW.Trod enc Try.prog W 0 (fun _ => true) true 39 v d p) :
    ∃ x y : Int, v = .agg #[.int .i64 x, .int .i64 y] ∧ i64 x ∧ i64 y := by
  have hv' := hv
  simp only [Value.okWide, Try.underlying39] at hv'
  obtain ⟨cs, rfl, hsz, _⟩ := hv'
  have hc : Try.prog.cellsOf 39 = 2 := by kernel_rfl
  have hi : Try.prog.cellsOf 3 = 1 := by kernel_rfl
  rw [hc] at hsz
  obtain ⟨c0, c1, rfl⟩ : ∃ c0 c1, cs = #[c0, c1] := by
    obtain ⟨l⟩ := cs
    match l, hsz with
    | [a, b], _ => exact ⟨a, b, rfl⟩
  obtain ⟨fuel, hf⟩ := h
  obtain ⟨xs, m, _, _, _, hxl, hat⟩ := DataW.trod_array (P := Try.prog) Try.underlying39 hf
  have h0 := hat 0 (by omega)
  have h1 := hat 1 (by omega)
  rw [hi] at h0 h1
  rw [List.getElem?_eq_getElem (by omega)] at h0 h1
  obtain ⟨k0, e0, _, w0⟩ := DataW.trod_int (P := Try.prog) Try.underlying3 h0
  obtain ⟨k1, e1, _, w1⟩ := DataW.trod_int (P := Try.prog) Try.underlying3 h1
  simp [Value.cells] at e0 e1
  subst e0 e1
  exact ⟨k0, k1, rfl, i64_of w0, i64_of w1⟩

/-- what a law's walk owes, and what its row wants -/
theorem post_law {f : Func} {s : ChangeSpec} {args : Array Value} {ds : List (DataW H)} {before : List MemPlace}
    (hW : DataW.Whole enc Try.prog f.params.toList s.vars false W args.toList ds [] before) (hrt : f.resultTypes.toList = [4] ∧ f.resultTypes.size = 1)
    (hvars : s.vars = []) (hr : (f.params.toList.all fun t => Try.prog.readableRec t && decide (t < Try.prog.types.size)) = true)
    (hs : s.fn H (ds ++ []) = { results := [.lit (.bool true)], args := ds }) (hb : Below W.heap.size W W') : s.post enc Try.prog f false true false false W args (.bool true) W' := by
  have hW' := hW
  obtain ⟨p, q, hA, hV, rfl, _, _⟩ := hW
  rw [hvars] at hV
  obtain ⟨_, rfl⟩ := trodVars_none hV
  rw [List.append_nil] at hW'
  refine ⟨ds, [], p, [], p, [], by simpa using hW', ?_, ?_, ?_, hb.frame _, fun h => by cases h⟩
  · rw [hs, hrt.1, hrt.2]
    exact trodAll_cons_mk (shut_bool Try.underlying4 _) trodAll_mk0
  · rw [hs]
    exact trodAll_below laid_out _ _ _ _ hr hA hb fun x hx => by simpa using hW'.lt x hx
  · rw [hs, hvars]; rfl
end
end Go.Proofs.Ytediidajdpdeiaa
