/- A list of lists of bytes that a law is handed. -/
import Derived.Test.YtediidajdpdeiaaDoorRowL
namespace Go.Proofs.YtediidajdpdeiaaDoor
open Go.RowKit Go.ChangeShapes Go.WideShapes Go.ChangeAt

section
variable {H : Type} {enc : TypeId × Value → H} {W : World}
set_option maxRecDepth 100000 in
theorem open_bytess {fuel : Nat} {cs : List Value} {d : DataW H} {p : List MemPlace}
    (h : DataW.trod enc Tryd.prog W 0 (fun _ => true) true fuel 45 cs = some (d, p)) (hlt : ∀ x ∈ p, x.block < W.heap.size) :
    ∃ A xs c, cs = [.slice A (xs.length) c] ∧ xs.length ≤ maxLen ∧ RdBs W A xs := by
  rcases Deep.open_slice (P := Tryd.prog) Tryd.underlying45 h with ⟨rfl, _⟩ | ⟨a, len, cap, m, n, D, Pl, rfl, _, hl, hm, hmm, hx, hi⟩
  · exact ⟨none, [], 0, rfl, Nat.zero_le _, fun i l h => by simp at h⟩
  · simp only [if_true] at hmm
    subst hmm
    have hC : Tryd.prog.cellsOf 22 = 1 := by kernel_rfl
    simp only [Prod.mk.injEq] at hx
    have each : ∀ i, ∃ l : List UInt8, i < len → ∃ g o B c, a = ⟨g, o, none⟩ ∧ g < W.heap.size ∧ W.cell? ⟨g, o + i, none⟩ = some (.slice B l.length c) ∧ l.length ≤ c ∧ c ≤ maxLen ∧ RdB W B l := by
      intro i
      by_cases hil : i < len
      · obtain ⟨cs', hc, ht'⟩ := hi i (by omega)
        rw [hC] at hc
        obtain ⟨_, hcl, hat⟩ := World.cells?_some hc
        have hat0 := hat 0 (by omega)
        obtain ⟨v, rfl⟩ : ∃ v, cs' = [v] := by
          match cs', hcl with
          | [v], _ => exact ⟨v, rfl⟩
        simp only [List.getElem?_cons_zero] at hat0
        rw [Nat.mul_one, add_add', Nat.add_zero] at hat0
        obtain ⟨B, l, c, e, h1, h2, h3⟩ := open_bytes (P := Tryd.prog) Tryd.underlying22 Tryd.underlying5 cells_u8 ht' (fun x hx' => by
          refine hlt x ?_
          rw [hx.2]
          exact List.mem_append.2 (.inr (List.mem_flatMap.2 ⟨i, List.mem_range.2 (by omega), hx'⟩)))
        simp only [List.cons.injEq, and_true] at e
        subst e
        have hsp : a.spot = none := by
          obtain ⟨cs0, hc0, _⟩ := hi 0 (by omega)
          have hc0 : W.cells? 0 (a.add (0 * 1)) 1 = some cs0 := by rw [hC] at hc0; exact hc0
          obtain ⟨_, hcl0, hat1⟩ := World.cells?_some hc0
          obtain ⟨v0, rfl⟩ : ∃ v, cs0 = [v] := by
            match cs0, hcl0 with
            | [v], _ => exact ⟨v, rfl⟩
          have h2 : W.cell? ((a.add (0 * 1)).add 0) = some v0 := hat1 0 (by omega)
          have e : (a.add (0 * 1)).add 0 = a := by simp [Addr.add]
          rw [e] at h2
          unfold World.cell? at h2
          split at h2
          · split at h2
            · cases h2
            · rename_i hns; simpa using hns
          · cases h2
        obtain ⟨g, o, sp⟩ := a
        simp only at hsp
        subst hsp
        refine ⟨l, fun _ => ⟨g, o, B, c, rfl, ?_, by rw [add_mk] at hat0; exact hat0, h1, h2, h3⟩⟩
        rw [add_mk] at hat0
        have := cell_lt hat0
        exact this
      · exact ⟨[], fun h => absurd h hil⟩
    obtain ⟨f, hf⟩ := Classical.axiomOfChoice each
    have hlen : ((List.range len).map f).length = len := by simp
    refine ⟨some a, (List.range len).map f, m, by rw [hlen], by rw [hlen]; omega, ?_⟩
    intro j l hl'
    have hj : j < len := by rw [← hlen]; exact (List.getElem?_eq_some_iff.1 hl').1
    rw [List.getElem?_map, List.getElem?_range hj] at hl'
    injection hl' with hl'
    subst hl'
    obtain ⟨g, o, B, c, rfl, h1⟩ := hf j hj
    exact ⟨g, o, B, c, rfl, h1⟩
end
end Go.Proofs.YtediidajdpdeiaaDoor
