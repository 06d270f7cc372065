/- Rows of values of one cell each, that lie anywhere in a block of one's own: what append, a reslice and a store leave. -/
import Derived.Test.YtediidajdpdeiaaDoorApp
import Derived.Lib.Hide
namespace Go.Proofs.YtediidajdpdeiaaDoor
open Go.RowKit

/-- a slice v of elements of type e reads vals, in a block of S -/
def Row (S : Nat → Prop) (w : World) (e : TypeId) (v : Value) (vals : List Value) : Prop :=
  (v = .slice none 0 0 ∧ vals = []) ∨
  ∃ g o c cur, v = .slice (some ⟨g, o, none⟩) vals.length c ∧ S g ∧ w.heap[g]? = some (.cells cur e (0, 0)) ∧ vals.length ≤ c ∧ c ≤ maxLen ∧ cur.size = o + c ∧ (cur.toList.drop o).take vals.length = vals

section
variable {S S' : Nat → Prop} {w w' : World} {e : TypeId} {v : Value} {vals : List Value}
theorem Row.nil (S : Nat → Prop) (w : World) (e : TypeId) : Row S w e (.slice none 0 0) [] := .inl ⟨rfl, rfl⟩
theorem Row.val (h : Row S w e v vals) : ∃ A c, v = .slice A vals.length c ∧ vals.length ≤ c ∧ c ≤ maxLen := by
  rcases h with ⟨rfl, rfl⟩ | ⟨g, o, c, cur, rfl, _, _, h1, h2, _⟩
  · exact ⟨none, 0, rfl, Nat.le_refl _, Nat.zero_le _⟩
  · exact ⟨_, c, rfl, h1, h2⟩
theorem Row.mono (h : Row S w e v vals) (hs : ∀ b, b < w.heap.size → S b → S' b) : Row S' w e v vals := by
  refine h.imp_right ?_
  rintro ⟨g, o, c, cur, h1, h2, h3, h4⟩
  exact ⟨g, o, c, cur, h1, hs g (Array.getElem?_eq_some_iff.1 h3).1 h2, h3, h4⟩
theorem Row.same (h : Row S w e v vals) (hk : ∀ b, S b → w'.heap[b]? = w.heap[b]?) : Row S w' e v vals := by
  refine h.imp_right ?_
  rintro ⟨g, o, c, cur, h1, h2, h3, h4⟩
  exact ⟨g, o, c, cur, h1, h2, (hk g h2).trans h3, h4⟩
theorem Row.fr (h : Row S w e v vals) (f : Fr S' w w') (hd : ∀ x, S x → S' x → IsB w x) : Row S w' e v vals := by
  refine h.imp_right ?_
  rintro ⟨g, o, c, cur, h1, h2, h3, h4⟩
  refine ⟨g, o, c, cur, h1, h2, ?_, h4⟩
  rw [← h3]
  by_cases hs : S' g
  · exact f.byt g (hd g h2 hs)
  · exact f.out g (Array.getElem?_eq_some_iff.1 h3).1 hs
theorem Row.below (h : Row S w e v vals) (hb : Below w.heap.size w w') : Row S w' e v vals := h.fr (S' := Non) (Fr.of_below hb) fun _ _ h => h.elim
/-- a block of another type has turned -/
theorem Row.otherBlk {b : Nat} {t : TypeId} {cs : Array Value} (h : Row S w e v vals) (hb : Blk w b t cs) (hne : t ≠ e) (f : Fr (fun x => x = b) w w') : Row S w' e v vals := by
  refine h.imp_right ?_
  rintro ⟨g, o, c, cur, h1, h2, h3, h4⟩
  refine ⟨g, o, c, cur, h1, h2, ?_, h4⟩
  rw [← h3]
  refine f.out g (Array.getElem?_eq_some_iff.1 h3).1 fun e' => ?_
  subst e'
  unfold Blk at hb
  rw [h3] at hb
  injection hb with hb
  injection hb with _ hb
  exact hne hb.symm
/-- a row's own block is none of another type -/
theorem Row.ownNe {b : Nat} {t : TypeId} {cs : Array Value} (h : Row S w e v vals) (hb : Blk w b t cs) (hne : t ≠ e) : v.ownBlock ≠ some b := by
  rcases h with ⟨rfl, _⟩ | ⟨g, o, c, cur, rfl, _, h3, _⟩
  · simp [Value.ownBlock]
  · intro e'
    have e' : some g = some b := e'
    injection e' with e'
    subst e'
    unfold Blk at hb
    rw [h3] at hb
    injection hb with hb
    injection hb with _ hb
    exact hne hb.symm
theorem Row.drew (h : Row S w e v vals) : Row S w.drew e v vals := h
/-- the k-th cell -/
theorem Row.cell (h : Row S w e v vals) {k : Nat} {u : Value} (hk : vals[k]? = some u) : ∃ g o c, v = .slice (some ⟨g, o, none⟩) vals.length c ∧ S g ∧ g < w.heap.size ∧ w.cell? ⟨g, o + k, none⟩ = some u ∧ w.frozen? ⟨g, o + k, none⟩ = false := by
  rcases h with ⟨rfl, rfl⟩ | ⟨g, o, c, cur, h1, h2, h3, h4, h5, h6, h7⟩
  · simp at hk
  · refine ⟨g, o, c, h1, h2, (Array.getElem?_eq_some_iff.1 h3).1, ?_, ?_⟩
    · have hlt := (List.getElem?_eq_some_iff.1 hk).1
      rw [← h7, List.getElem?_take_of_lt hlt, List.getElem?_drop] at hk
      simp only [World.cell?, h3]
      simpa using hk
    · simp [World.frozen?, h3]
/-- a reslice from n on, not to the very end of the room -/
theorem Row.drop (h : Row S w e v vals) {n : Nat} (hn : n < vals.length) : ∃ g o c, v = .slice (some ⟨g, o, none⟩) vals.length c ∧ vals.length ≤ c ∧ Row S w e (.slice (some ⟨g, o + n, none⟩) (vals.length - n) (c - n)) (vals.drop n) := by
  rcases h with ⟨rfl, rfl⟩ | ⟨g, o, c, cur, h1, h2, h3, h4, h5, h6, h7⟩
  · simp at hn
  · refine ⟨g, o, c, h1, h4, .inr ⟨g, o + n, c - n, cur, by rw [List.length_drop], h2, h3, by rw [List.length_drop]; omega, by omega, by omega, ?_⟩⟩
    rw [List.length_drop, ← List.drop_drop]
    have := congrArg (List.drop n) h7
    rw [List.drop_take] at this
    exact this
theorem Row.of_own {base n : Nat} {xs : List Value} (h : w.ownsRow base e 1 v n xs) (hS : ∀ g, v.ownBlock = some g → S g) : Row S w e v xs := by
  have hl : xs.length = n := by simpa using h.1
  rcases h.2 with ⟨rfl, rfl⟩ | ⟨g, cap, cur, rfl, hb, hg, hnc, hm, hs, ht⟩
  · exact .inl ⟨rfl, List.eq_nil_of_length_eq_zero hl⟩
  · rw [Nat.mul_one] at hs ht
    exact .inr ⟨g, 0, cap, cur, by rw [hl], hS g rfl, hg, by omega, hm, by omega, by rw [hl]; simpa using ht⟩
end

/-- what an append of one value onto a row leaves -/
theorem run_append_row {P : Program} {S : Nat → Prop} {w : World} {e : TypeId} {v : Value} {vals : List Value} (t ty : TypeId) (i : TypeInfo) (z : Value) (bytes : Nat) (ht : P.underlying t = some (.slice e)) (hi : P.info? e = some i) (hz : i.zero = some z) (hsz : i.size = 1)
    (hby : i.bytes = bytes) (hzs : z.cells.size = 1) (h : Row S w e v vals) (a : Addr) (u : Value) (hu : w.cell? a = some u) (h1 : u.oneCell' = true) (hlen : vals.length + 1 ≤ maxLen) (hbytes : (vals.length + 1) * bytes ≤ 140737488355328) (he : e ≠ TB) :
    ∃ v' w', (Builtin.append_ #[t, t] ty #[v, .slice (some a) 1 1]).run P w = .ok v' w' ∧ Row (Up S w w') w' e v' (vals ++ [u]) ∧ Fr S w w' ∧ (∀ b, b < w.heap.size → v.ownBlock ≠ some b → w'.heap[b]? = w.heap[b]?) := by
  have hnews : ∀ j x, ([u] : List Value)[j]? = some x → w.cell? (a.add j) = some x := by
    intro j x hx
    match j, hx with
    | 0, hx => injection hx with hx; subst hx; simpa [Addr.add] using hu
    | j + 1, hx => simp at hx
  rcases h with ⟨rfl, rfl⟩ | ⟨g, o, c, cur, rfl, h2, h3, h4, h5, h6, h7⟩
  · have hrun := run_append_nil (P := P) w t ty e i z ht hi hz a 1 1 [u] (by rw [hsz]; rfl) hnews (by omega) (by omega) (by rw [hby]; simp at hbytes; omega)
    have hc1 := grownCap_ge w 1 0 e
    have hc2 := grownCap_le_maxLen w 1 0 e (by simp [maxLen])
    refine ⟨_, _, hrun, .inr ⟨w.heap.size, 0, grownCap w 1 0 e, _, rfl, .inr ⟨Nat.le_refl _, by simp⟩, heap_alloc_new w.drew _, hc1, hc2, ?_, ?_⟩, ((Fr.refl S w).drew.alloc _), fun b hb _ => Below.heap_alloc w.drew _ b hb⟩
    · simp [size_zeroCells, hzs]; omega
    · simp
  · by_cases hr : vals.length + 1 ≤ c
    · have hgl := (Array.getElem?_eq_some_iff.1 h3).1
      have hf := run_firstCells_some (P := P) w i.size 1 a 1 1 [u] (by rw [hsz]; rfl) hnews
      have hst := run_storeCells_at P g (o + vals.length) e [u] 0 cur w h3 (by simp; omega) (by intro x hx; rw [List.mem_singleton] at hx; rw [hx]; exact h1)
      simp only [Nat.add_zero] at hst
      have hrun : (Builtin.append_ #[t, t] ty #[.slice (some ⟨g, o, none⟩) vals.length c, .slice (some a) 1 1]).run P w =
          .ok (.slice (some ⟨g, o, none⟩) (vals.length + 1) c) (w.setRow g (cur.toList.take (o + vals.length) ++ [u] ++ cur.toList.drop (o + vals.length + [u].length)).toArray) := by
        rw [hsz] at hf
        simp only [List.length_singleton] at hst ⊢
        simp [Builtin.append_, run_underlying ht, sizeOf, typeInfo, hi, Builtin.lenOf, hr, hf, Addr.add_lit, hst, hsz]
      have hrow := setRow_heap w g cur (cur.toList.take (o + vals.length) ++ [u] ++ cur.toList.drop (o + vals.length + [u].length)).toArray e (0, 0) h3
      have hnb : ¬ IsB w g := by
        rintro ⟨cs, fz, hh⟩
        rw [h3] at hh
        injection hh with hh
        injection hh with _ hh
        exact he hh
      refine ⟨_, _, hrun, .inr ⟨g, o, c, _, by rw [List.length_append]; rfl, .inl h2, hrow, by rw [List.length_append]; simpa using hr, h5, ?_, ?_⟩, ⟨rfl, rfl, rfl, by simp [World.setRow], fun b hb hn => setRow_other w g b _ (fun e => hn (e ▸ h2)), fun b hb => setRow_other w g b _ (fun e => hnb (e ▸ hb))⟩, fun b hb hn => setRow_other w g b _ (fun e => hn (by rw [e]; rfl))⟩
      · simp [List.length_take, List.length_drop]; omega
      · have e1 : (cur.toList.take (o + vals.length)).length = o + vals.length := by rw [List.length_take]; simp; omega
        rw [List.toList_toArray, List.append_assoc, List.drop_append_of_le_length (by omega), List.drop_take, Nat.add_sub_cancel_left, h7, List.length_append, List.length_singleton, ← List.append_assoc]
        exact List.take_left' (by simp)
    · have holds : ∀ j x, vals[j]? = some x → w.cell? ((⟨g, o, none⟩ : Addr).add j) = some x := by
        intro j x hx
        have hlt := (List.getElem?_eq_some_iff.1 hx).1
        rw [← h7, List.getElem?_take_of_lt hlt, List.getElem?_drop] at hx
        rw [add_mk]
        simp only [World.cell?, h3]
        simpa using hx
      have hrun := run_append_grow (P := P) w t ty e i z ht hi hz ⟨g, o, none⟩ vals.length c vals (by rw [hsz, Nat.mul_one]) holds a 1 1 [u] (by rw [hsz]; rfl) hnews (by omega) (by unfold maxLen at hlen; omega) (growslice_fits (by omega) (by rw [hby]; exact hbytes))
      have hc1 := grownCap_ge w (vals.length + 1) c e
      have hc2 := grownCap_le_maxLen w (vals.length + 1) c e hlen
      refine ⟨_, _, hrun, .inr ⟨w.heap.size, 0, grownCap w (vals.length + 1) c e, _, by rw [List.length_append]; rfl, .inr ⟨Nat.le_refl _, by simp⟩, heap_alloc_new w.drew _, by rw [List.length_append]; exact hc1, hc2, ?_, ?_⟩, ((Fr.refl S w).drew.alloc _), fun b hb _ => Below.heap_alloc w.drew _ b hb⟩
      · simp [size_zeroCells, hzs]; omega
      · simp [List.take_append, List.take_of_length_le]

theorem wpList_append_row {P : Program} {S : Nat → Prop} {w : World} {ops : Array Oper} {rest : List Oper} {o : Oper} {a : Act} {Q : Exit → Act → World → Prop} (hgd : o.guard = none) (s x : Operand) (t : TypeId)
    (ho : o.op = .call { callee := .builtin .append, args := #[s, x], argTypes := #[t, t] })
    (e : TypeId) (i : TypeInfo) (z : Value) (bytes : Nat) (ht : P.underlying t = some (.slice e)) (hi : P.info? e = some i) (hz : i.zero = some z) (hsize : i.size = 1) (hby : i.bytes = bytes) (hzs : z.cells.size = 1)
    (v : Value) (vals : List Value) (hs : a.eval s = v) (h : Row S w e v vals) (ad : Addr) (u : Value) (hx : a.eval x = .slice (some ad) 1 1) (hu : w.cell? ad = some u) (h1 : u.oneCell' = true)
    (h63 : vals.length + 1 ≤ maxLen) (hbytes : (vals.length + 1) * bytes ≤ 140737488355328) (he : e ≠ TB)
    (hk : ∀ v' w', Row (Up S w w') w' e v' (vals ++ [u]) → Fr S w w' → (∀ b, b < w.heap.size → v.ownBlock ≠ some b → w'.heap[b]? = w.heap[b]?) → wpList P ops Q rest (a.put o.dst v') w') :
    wpList P ops Q (o :: rest) a w := by
  obtain ⟨v', w', hrun, h2, h3, h4⟩ := run_append_row (P := P) t o.type i z bytes ht hi hz hsize hby hzs h ad u hu h1 h63 hbytes he
  exact wpList_ran hgd (run_builtin2 .append s x t t Builtin.append_ ho hs hx (fun _ _ => rfl) hrun) (hk v' w' h2 h3 h4)

/-- the same within a region -/
theorem oper_append_row {P : Program} {S : Nat → Prop} {w : World} {o : Oper} {a : Act} {K : Act → World → Prop} {Q : Exit → Act → World → Prop} (s x : Operand) (t : TypeId)
    (ho : o.op = .call { callee := .builtin .append, args := #[s, x], argTypes := #[t, t] })
    (e : TypeId) (i : TypeInfo) (z : Value) (bytes : Nat) (ht : P.underlying t = some (.slice e)) (hi : P.info? e = some i) (hz : i.zero = some z) (hsize : i.size = 1) (hby : i.bytes = bytes) (hzs : z.cells.size = 1)
    (v : Value) (vals : List Value) (hs : a.eval s = v) (h : Row S w e v vals) (ad : Addr) (u : Value) (hx : a.eval x = .slice (some ad) 1 1) (hu : w.cell? ad = some u) (h1 : u.oneCell' = true)
    (h63 : vals.length + 1 ≤ maxLen) (hbytes : (vals.length + 1) * bytes ≤ 140737488355328) (he : e ≠ TB)
    (hk : ∀ v' w', Row (Up S w w') w' e v' (vals ++ [u]) → Fr S w w' → (∀ b, b < w.heap.size → v.ownBlock ≠ some b → w'.heap[b]? = w.heap[b]?) → K (a.put o.dst v') w') :
    o.wp P a w K Q := by
  obtain ⟨v', w', hrun, h2, h3, h4⟩ := run_append_row (P := P) t o.type i z bytes ht hi hz hsize hby hzs h ad u hu h1 h63 hbytes he
  have hr := run_builtin2 .append s x t t Builtin.append_ ho hs hx (fun _ _ => rfl) hrun
  unfold Oper.wp
  rw [hr]
  exact hk v' w' h2 h3 h4

/-- a store into a row -/
theorem Row.store {S : Nat → Prop} {w : World} {e : TypeId} {vals : List Value} {g o c : Nat} (h : Row S w e (.slice (some ⟨g, o, none⟩) vals.length c) vals) {k : Nat} (hk : k < vals.length) (u : Value) : Row S (w.setCell ⟨g, o + k, none⟩ u) e (.slice (some ⟨g, o, none⟩) vals.length c) (vals.set k u) := by
  rcases h with ⟨h1, _⟩ | ⟨g', o', c', cur, h1, h2, h3, h4, h5, h6, h7⟩
  · simp at h1
  · simp only [Value.slice.injEq, Option.some.injEq, Addr.mk.injEq, and_true, true_and] at h1
    obtain ⟨⟨rfl, rfl⟩, rfl⟩ := h1
    refine .inr ⟨g, o, c, cur.setIfInBounds (o + k) u, by rw [List.length_set], h2, ?_, by rw [List.length_set]; exact h4, h5, by simpa using h6, ?_⟩
    · simp [World.setCell, Array.getElem?_modify, h3]
    · rw [List.length_set, Array.toList_setIfInBounds]
      have hl : ((cur.toList.drop o).take vals.length).length = vals.length := by rw [h7]
      apply List.ext_getElem?
      intro i
      rw [List.getElem?_take, List.getElem?_drop, List.getElem?_set, List.getElem?_set]
      have e1 : ∀ i, i < vals.length → cur.toList[o + i]? = vals[i]? := by
        intro i hi
        have := congrArg (fun l => l[i]?) h7
        simp only [List.getElem?_take_of_lt hi, List.getElem?_drop] at this
        exact this
      by_cases hi : i < vals.length
      · rw [if_pos hi]
        by_cases hik : k = i
        · subst hik
          rw [if_pos rfl, if_pos rfl, if_pos (by simp; omega), if_pos hi]
        · rw [if_neg (by omega), if_neg hik]
          exact e1 i hi
      · rw [if_neg hi, if_neg (by omega)]
        exact (List.getElem?_eq_none_iff.2 (by omega)).symm
end Go.Proofs.YtediidajdpdeiaaDoor
