/- The arguments of a law, read as data: bytes, lists of bytes, structs in a list; and that they read so afterwards. -/
import Derived.Test.YtediidajdpdeiaaDoorBase
import Derived.OpenShut
import Derived.ChangeSame
import Derived.Deep.Slices
import Derived.Deep.Fields
import Derived.Carry
namespace Go.Proofs.YtediidajdpdeiaaDoor
open Go.RowKit Go.ChangeShapes Go.WideShapes Go.ChangeAt

section
variable {H : Type} {enc : TypeId × Value → H} {P : Program} {W W' : World}

theorem trodAll_below (hl : laidOutB P = true) : ∀ (ts : List TypeId) (vs : List Value) (ds : List (DataW H)) (p : List MemPlace), (ts.all fun t => P.readableRec t && decide (t < P.types.size)) = true →
    DataW.TrodAll enc P W 0 (fun _ => true) true ts vs ds p → Below W.heap.size W W' → (∀ x ∈ p, x.block < W.heap.size) → DataW.TrodAll enc P W' 0 (fun b => decide (b < W.heap.size)) true ts vs ds p
  | [], vs, ds, p, _, h, _, _ => by
    obtain ⟨rfl, rfl, rfl⟩ := trodAll_nil h
    exact trodAll_mk0
  | t :: ts, vs, ds, p, hr, h, hb, hlt => by
    obtain ⟨v, vs', d, ds', p1, q, rfl, rfl, rfl, h0, hs⟩ := trodAll_cons h
    simp only [List.all_cons, Bool.and_eq_true, decide_eq_true_eq] at hr
    exact trodAll_cons_mk (Below.trod hl hr.1.1 hr.1.2 h0 hb fun x hx => hlt x (List.mem_append.2 (.inl hx)))
      (trodAll_below hl ts vs' ds' q (by simpa using hr.2) hs hb fun x hx => hlt x (List.mem_append.2 (.inr hx)))

/-- bytes that were there at W -/
def RdB (W : World) (A : Option Addr) (l : List UInt8) : Prop := ∀ j x, l[j]? = some x → ∃ ad, A = some ad ∧ ad.block < W.heap.size ∧ W.cell? (ad.add j) = some (byteV x)

theorem open_bytes {t : TypeId} {fuel : Nat} {cs : List Value} {d : DataW H} {p : List MemPlace} (ht : P.underlying t = some (.slice TB)) (he : P.underlying TB = some (.int .u8)) (hc : P.cellsOf TB = 1)
    (h : DataW.trod enc P W 0 (fun _ => true) true fuel t cs = some (d, p)) (hlt : ∀ x ∈ p, x.block < W.heap.size) :
    ∃ A l c, cs = [.slice A l.length c] ∧ l.length ≤ c ∧ c ≤ maxLen ∧ RdB W A l := by
  rcases open_ints ht he hc h with ⟨rfl, _⟩ | ⟨a, len, cap, zs, rfl, _, hl, hm, hz, hx, hcell, hwz⟩
  · exact ⟨none, [], 0, rfl, Nat.le_refl _, Nat.zero_le _, fun j x h => by simp at h⟩
  · simp only [if_true] at hz
    have hlen : ((zs.take len).map fun z => UInt8.ofNat z.toNat).length = len := by rw [List.length_map, List.length_take]; omega
    refine ⟨some a, (zs.take len).map fun z => UInt8.ofNat z.toNat, cap, by rw [hlen], by rw [hlen]; exact hl, hm, ?_⟩
    intro j x hx'
    have hj : j < len := by rw [← hlen]; exact (List.getElem?_eq_some_iff.1 hx').1
    have hj2 : j < zs.length := by omega
    rw [List.getElem?_map, List.getElem?_take, if_pos hj, List.getElem?_eq_getElem hj2] at hx'
    injection hx' with hx'
    have hw := hwz zs[j] (List.getElem_mem hj2)
    have hw' : 0 ≤ zs[j] ∧ zs[j] ≤ 255 := by simpa [Lit.wf, IntKind.min, IntKind.max, IntKind.signed, IntKind.bits] using hw
    have hc' := hcell j hj2
    refine ⟨a, rfl, ?_, ?_⟩
    · simp only [Prod.mk.injEq] at hx
      have := hlt (.cell a.block a.off) (by rw [hx.2]; exact MemPlace.mem_row.2 ⟨0, by omega, by simp⟩)
      exact this
    · rw [hc', ← hx']
      simp only [byteV, List.getD_eq_getElem?_getD, List.getElem?_eq_getElem hj2, Option.getD_some]
      have e1 : (UInt8.ofNat zs[j].toNat).toNat = zs[j].toNat := by
        rw [UInt8.toNat_ofNat']
        exact Nat.mod_eq_of_lt (by omega)
      rw [e1, Int.toNat_of_nonneg hw'.1]

/-- a list of structs of fields of one cell each: the cells, and how each reads -/
theorem open_structs {t e : TypeId} {fs : Array Field} {fuel : Nat} {cs : List Value} {d : DataW H} {p : List MemPlace} (ht : P.underlying t = some (.slice e)) (he : P.underlying e = some (.struct fs))
    (hone : Deep.oneCellFields P fs = true) (hC : P.cellsOf e = fs.size) (h0 : 0 < fs.size) (h : DataW.trod enc P W 0 (fun _ => true) true fuel t cs = some (d, p)) (hlt : ∀ x ∈ p, x.block < W.heap.size) :
    ∃ A len cap, cs = [.slice A len cap] ∧ len ≤ cap ∧ cap ≤ maxLen ∧ ∀ i, i < len → ∃ g o, A = some ⟨g, o, none⟩ ∧ g < W.heap.size ∧
      ∀ (j : Nat) (f : Field), fs[j]? = some f → ∃ (v : Value) (n : Nat) (y : DataW H) (q : List MemPlace), W.cell? ⟨g, o + (i * fs.size + j), none⟩ = some v ∧ DataW.trod enc P W 0 (fun _ => true) true n f.type [v] = some (y, q) ∧ ∀ x ∈ q, x.block < W.heap.size := by
  rcases Deep.open_slice ht h with ⟨rfl, _⟩ | ⟨a, len, cap, m, n, D, Pl, rfl, _, hl, hm, hmm, hx, hi⟩
  · exact ⟨none, 0, 0, rfl, Nat.le_refl _, Nat.zero_le _, fun i h => by omega⟩
  · simp only [if_true] at hmm
    subst hmm
    refine ⟨some a, len, m, rfl, hl, hm, fun i hilt => ?_⟩
    obtain ⟨cs', hc, ht'⟩ := hi i (by omega)
    rw [hC] at hc
    obtain ⟨_, hcl, hat⟩ := World.cells?_some hc
    simp only [Prod.mk.injEq] at hx
    have hsp : a.spot = none := by
      have h1 := hat 0 h0
      rw [List.getElem?_eq_getElem (by omega)] at h1
      by_cases hi0 : i = 0
      · subst hi0
        rw [Nat.zero_mul] at h1
        have e : (a.add 0).add 0 = a := by simp [Addr.add]
        rw [e] at h1
        unfold World.cell? at h1
        split at h1
        · split at h1
          · cases h1
          · rename_i hns; simpa using hns
        · cases h1
      · obtain ⟨cs0, hc0, _⟩ := hi 0 (by omega)
        rw [hC] at hc0
        obtain ⟨_, hcl0, hat0⟩ := World.cells?_some hc0
        have h2 := hat0 0 h0
        rw [List.getElem?_eq_getElem (by omega), Nat.zero_mul] at h2
        have e : (a.add 0).add 0 = a := by simp [Addr.add]
        rw [e] at h2
        unfold World.cell? at h2
        split at h2
        · split at h2
          · cases h2
          · rename_i hns; simpa using hns
        · cases h2
    obtain ⟨g, o, sp⟩ := a
    simp only at hsp
    subst hsp
    refine ⟨g, o, rfl, ?_, ?_⟩
    · exact hlt (.cell g o) (by rw [hx.2]; exact List.mem_append.2 (.inl (MemPlace.mem_row.2 ⟨0, by rw [hC]; exact Nat.mul_pos (by omega) h0, by simp⟩)))
    · intro j f hj
      obtain ⟨ys, n', _, hy, _, hyl, hf⟩ := DataW.trod_struct he ht'
      obtain ⟨ho, hk⟩ := Deep.hone_of hone j f hj
      have hjl : j < fs.size := (Array.getElem?_eq_some_iff.1 hj).1
      have hcell := hat j hjl
      have hjc : j < cs'.length := by omega
      rw [List.getElem?_eq_getElem hjc, add_add', add_mk] at hcell
      have h1 := hf j f hj
      rw [ho, hk] at h1
      have hone' : (cs'.drop j).take 1 = [cs'[j]] := by
        rw [List.drop_eq_getElem_cons hjc]
        rfl
      rw [hone', List.getElem?_eq_getElem (by omega)] at h1
      simp only [Prod.mk.injEq] at hy
      refine ⟨_, n', _, (ys[j]'(by omega)).2, hcell, h1, fun x hx' => ?_⟩
      refine hlt x ?_
      rw [hx.2]
      refine List.mem_append.2 (.inr (List.mem_flatMap.2 ⟨i, List.mem_range.2 (by omega), ?_⟩))
      rw [hy.2]
      exact List.mem_flatMap.2 ⟨ys[j]'(by omega), List.getElem_mem _, hx'⟩

end
end Go.Proofs.YtediidajdpdeiaaDoor
