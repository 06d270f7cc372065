/- Rows of values of one cell each, that lie anywhere in a block of one's own: what append, a reslice and a store leave. -/
import Derived.Test.YtediidajdpdeiaaDoorJ3
import Derived.Lib.Hide
import Derived.Test.YtediidajdpdeiaaDoorJ0

namespace Go.Proofs.YtediidajdpdeiaaDoor
open Go.RowKit

/-- a slice v of elements of type e reads vals, in a block of S -/
def Row (S : Nat → Prop) (w : World) (e : TypeId) (v : Value) (vals : List Value) : Prop :=
  (v = .slice none 0 0 ∧ vals = []) ∨
  ∃ g o c cur, v = .slice (some ⟨g, o, none⟩) vals.length c ∧ S g ∧ w.heap[g]? = some (.cells cur e (0, 0)) ∧ vals.length ≤ c ∧ c ≤ maxLen ∧ cur.size = o + c ∧ (cur.toList.drop o).take vals.length = vals

section
variable {S S' : Nat → Prop} {w w' : World} {e : TypeId} {v : Value} {vals : List Value}
theorem Row.nil (S : Nat → Prop) (w : World) (e : TypeId) : Row S w e (.slice none 0 0) [] := .inl ⟨rfl, rfl⟩
theorem Row.val (h : Row S w e v vals) : ∃ A c, v = .slice A vals.length c ∧ vals.length ≤ c ∧ c ≤ maxLen := by
  rcases h with ⟨rfl, rfl⟩ | ⟨g, o, c, cur, rfl, _, _, h1, h2, _⟩
  · exact ⟨none, 0, rfl, Nat.le_refl _, Nat.zero_le _⟩
  · exact ⟨_, c, rfl, h1, h2⟩
theorem Row.mono (h : Row S w e v vals) (hs : ∀ b, b < w.heap.size → S b → S' b) : Row S' w e v vals := by
  refine h.imp_right ?_
  rintro ⟨g, o, c, cur, h1, h2, h3, h4⟩
  exact ⟨g, o, c, cur, h1, hs g (Array.getElem?_eq_some_iff.1 h3).1 h2, h3, h4⟩
theorem Row.same (h : Row S w e v vals) (hk : ∀ b, S b → w'.heap[b]? = w.heap[b]?) : Row S w' e v vals := by
  refine h.imp_right ?_
  rintro ⟨g, o, c, cur, h1, h2, h3, h4⟩
  exact ⟨g, o, c, cur, h1, h2, (hk g h2).trans h3, h4⟩
theorem Row.fr (h : Row S w e v vals) (f : Fr S' w w') (hd : ∀ x, S x → S' x → IsB w x) : Row S w' e v vals := by
  refine h.imp_right ?_
  rintro ⟨g, o, c, cur, h1, h2, h3, h4⟩
  refine ⟨g, o, c, cur, h1, h2, ?_, h4⟩
  rw [← h3]
  by_cases hs : S' g
  · exact f.byt g (hd g h2 hs)
  · exact f.out g (Array.getElem?_eq_some_iff.1 h3).1 hs
theorem Row.below (h : Row S w e v vals) (hb : Below w.heap.size w w') : Row S w' e v vals := h.fr (S' := Non) (Fr.of_below hb) fun _ _ h => h.elim
/-- a block of another type has turned -/
theorem Row.otherBlk {b : Nat} {t : TypeId} {cs : Array Value} (h : Row S w e v vals) (hb : Blk w b t cs) (hne : t ≠ e) (f : Fr (fun x => x = b) w w') : Row S w' e v vals := by
  refine h.imp_right ?_
  rintro ⟨g, o, c, cur, h1, h2, h3, h4⟩
  refine ⟨g, o, c, cur, h1, h2, ?_, h4⟩
  rw [← h3]
  refine f.out g (Array.getElem?_eq_some_iff.1 h3).1 fun e' => ?_
  subst e'
  unfold Blk at hb
  rw [h3] at hb
  injection hb with hb
  injection hb with _ hb
  exact hne hb.symm
/-- a row's own block is none of another type -/
theorem Row.ownNe {b : Nat} {t : TypeId} {cs : Array Value} (h : Row S w e v vals) (hb : Blk w b t cs) (hne : t ≠ e) : v.ownBlock ≠ some b := by
  rcases h with ⟨rfl, _⟩ | ⟨g, o, c, cur, rfl, _, h3, _⟩
  · simp [Value.ownBlock]
  · intro e'
    have e' : some g = some b := e'
    injection e' with e'
    subst e'
    unfold Blk at hb
    rw [h3] at hb
    injection hb with hb
    injection hb with _ hb
    exact hne hb.symm
theorem Row.drew (h : Row S w e v vals) : Row S w.drew e v vals := h
/-- the k-th cell -/
theorem Row.cell (h : Row S w e v vals) {k : Nat} {u : Value} (hk : vals[k]? = some u) : ∃ g o c, v = .slice (some ⟨g, o, none⟩) vals.length c ∧ S g ∧ g < w.heap.size ∧ w.cell? ⟨g, o + k, none⟩ = some u ∧ w.frozen? ⟨g, o + k, none⟩ = false := by
  rcases h with ⟨rfl, rfl⟩ | ⟨g, o, c, cur, h1, h2, h3, h4, h5, h6, h7⟩
  · simp at hk
  · refine ⟨g, o, c, h1, h2, (Array.getElem?_eq_some_iff.1 h3).1, ?_, ?_⟩
    · have hlt := (List.getElem?_eq_some_iff.1 hk).1
      rw [← h7, List.getElem?_take_of_lt hlt, List.getElem?_drop] at hk
      simp only [World.cell?, h3]
      simpa using hk
    · simp [World.frozen?, h3]
/-- a reslice from n on, not to the very end of the room -/
theorem Row.drop (h : Row S w e v vals) {n : Nat} (hn : n < vals.length) : ∃ g o c, v = .slice (some ⟨g, o, none⟩) vals.length c ∧ vals.length ≤ c ∧ Row S w e (.slice (some ⟨g, o + n, none⟩) (vals.length - n) (c - n)) (vals.drop n) := by
  rcases h with ⟨rfl, rfl⟩ | ⟨g, o, c, cur, h1, h2, h3, h4, h5, h6, h7⟩
  · simp at hn
  · refine ⟨g, o, c, h1, h4, .inr ⟨g, o + n, c - n, cur, by rw [List.length_drop], h2, h3, by rw [List.length_drop]; omega, by omega, by omega, ?_⟩⟩
    rw [List.length_drop, ← List.drop_drop]
    have := congrArg (List.drop n) h7
    rw [List.drop_take] at this
    exact this
theorem Row.of_own {base n : Nat} {xs : List Value} (h : w.ownsRow base e 1 v n xs) (hS : ∀ g, v.ownBlock = some g → S g) : Row S w e v xs := by
  have hl : xs.length = n := by simpa using h.1
  rcases h.2 with ⟨rfl, rfl⟩ | ⟨g, cap, cur, rfl, hb, hg, hnc, hm, hs, ht⟩
  · exact .inl ⟨rfl, List.eq_nil_of_length_eq_zero hl⟩
  · rw [Nat.mul_one] at hs ht
    exact .inr ⟨g, 0, cap, cur, by rw [hl], hS g rfl, hg, by omega, hm, by omega, by rw [hl]; simpa using ht⟩
end

/-- what an append of one value onto a row leaves -/
theorem run_append_row {P : Program} {S : Nat → Prop} {w : World} {e : TypeId} {v : Value} {vals : List Value} (t ty : TypeId) (i : TypeInfo) (z : Value) (bytes : Nat) (ht : P.underlying t = some (.slice e)) (hi : P.info? e = some i) (hz : i.zero = some z) (hsz : i.size = 1)
    (hby : i.bytes = bytes) (hzs : z.cells.size = 1) (h : Row S w e v vals) (a : Addr) (u : Value) (hu : w.cell? a = some u) (h1 : u.oneCell' = true) (hlen : vals.length + 1 ≤ maxLen) (hbytes : (vals.length + 1) * bytes ≤ 140737488355328) (he : e ≠ TB) :
    ∃ v' w', (Builtin.append_ #[t, t] ty #[v, .slice (some a) 1 1]).run P w = .ok v' w' ∧ Row (Up S w w') w' e v' (vals ++ [u]) ∧ Fr S w w' ∧ (∀ b, b < w.heap.size → v.ownBlock ≠ some b → w'.heap[b]? = w.heap[b]?) := by
  have hnews : ∀ j x, ([u] : List Value)[j]? = some x → w.cell? (a.add j) = some x := by
    intro j x hx
    match j, hx with
    | 0, hx => injection hx with hx; subst hx; simpa [Addr.add] using hu
    | j + 1, hx => simp at hx
  rcases h with ⟨rfl, rfl⟩ | ⟨g, o, c, cur, rfl, h2, h3, h4, h5, h6, h7⟩
  · have hrun := run_append_nil (P := P) w t ty e i z ht hi hz a 1 1 [u] (by rw [hsz]; rfl) hnews (by omega) (by omega) (by rw [hby]; simp at hbytes; omega)
    have hc1 := grownCap_ge w 1 0 e
    have hc2 := grownCap_le_maxLen w 1 0 e (by simp [maxLen])
    refine ⟨_, _, hrun, .inr ⟨w.heap.size, 0, grownCap w 1 0 e, _, rfl, .inr ⟨Nat.le_refl _, by simp⟩, heap_alloc_new w.drew _, hc1, hc2, ?_, ?_⟩, ((Fr.refl S w).drew.alloc _), fun b hb _ => Below.heap_alloc w.drew _ b hb⟩
    · simp [size_zeroCells, hzs]; omega
    · simp
  · by_cases hr : vals.length + 1 ≤ c
    · have hgl := (Array.getElem?_eq_some_iff.1 h3).1
      have hf := run_firstCells_some (P := P) w i.size 1 a 1 1 [u] (by rw [hsz]; rfl) hnews
      have hst := run_storeCells_at P g (o + vals.length) e [u] 0 cur w h3 (by simp; omega) (by intro x hx; rw [List.mem_singleton] at hx; rw [hx]; exact h1)
      simp only [Nat.add_zero] at hst
      have hrun : (Builtin.append_ #[t, t] ty #[.slice (some ⟨g, o, none⟩) vals.length c, .slice (some a) 1 1]).run P w =
          .ok (.slice (some ⟨g, o, none⟩) (vals.length + 1) c) (w.setRow g (cur.toList.take (o + vals.length) ++ [u] ++ cur.toList.drop (o + vals.length + [u].length)).toArray) := by
        rw [hsz] at hf
        simp only [List.length_singleton] at hst ⊢
        simp [Builtin.append_, run_underlying ht, sizeOf, typeInfo, hi, Builtin.lenOf, hr, hf, Addr.add_lit, hst, hsz]
      have hrow := setRow_heap w g cur (cur.toList.take (o + vals.length) ++ [u] ++ cur.toList.drop (o + vals.length + [u].length)).toArray e (0, 0) h3
      have hnb : ¬ IsB w g := by
        rintro ⟨cs, fz, hh⟩
        rw [h3] at hh
        injection hh with hh
        injection hh with _ hh
        exact he hh
      refine ⟨_, _, hrun, .inr ⟨g, o, c, _, by rw [List.length_append]; rfl, .inl h2, hrow, by rw [List.length_append]; simpa using hr, h5, ?_, ?_⟩, ⟨rfl, rfl, rfl, by simp [World.setRow], fun b hb hn => setRow_other w g b _ (fun e => hn (e ▸ h2)), fun b hb => setRow_other w g b _ (fun e => hnb (e ▸ hb))⟩, fun b hb hn => setRow_other w g b _ (fun e => hn (by rw [e]; rfl))⟩
      · simp [List.length_take, List.length_drop]; omega
      · have e1 : (cur.toList.take (o + vals.length)).length = o + vals.length := by rw [List.length_take]; simp; omega
        rw [List.toList_toArray, List.append_assoc, List.drop_append_of_le_length (by omega), List.drop_take, Nat.add_sub_cancel_left, h7, List.length_append, List.length_singleton, ← List.append_assoc]
        exact List.take_left' (by simp)
    · have holds : ∀ j x, vals[j]? = some x → w.cell? ((⟨g, o, none⟩ : Addr).add j) = some x := by
        intro j x hx
        have hlt := (List.getElem?_eq_some_iff.1 hx).1
        rw [← h7, List.getElem?_take_of_lt hlt, List.getElem?_drop] at hx
        rw [add_mk]
        simp only [World.cell?, h3]
        simpa using hx
      have hrun := run_append_grow (P := P) w t ty e i z ht hi hz ⟨g, o, none⟩ vals.length c vals (by rw [hsz, Nat.mul_one]) holds a 1 1 [u] (by rw [hsz]; rfl) hnews (by omega) (by unfold maxLen at hlen; omega) (growslice_fits (by omega) (by rw [hby]; exact hbytes))
      have hc1 := grownCap_ge w (vals.length + 1) c e
      have hc2 := grownCap_le_maxLen w (vals.length + 1) c e hlen
      refine ⟨_, _, hrun, .inr ⟨w.heap.size, 0, grownCap w (vals.length + 1) c e, _, by rw [List.length_append]; rfl, .inr ⟨Nat.le_refl _, by simp⟩, heap_alloc_new w.drew _, by rw [List.length_append]; exact hc1, hc2, ?_, ?_⟩, ((Fr.refl S w).drew.alloc _), fun b hb _ => Below.heap_alloc w.drew _ b hb⟩
      · simp [size_zeroCells, hzs]; omega
      · simp [List.take_append, List.take_of_length_le]

theorem wpList_append_row {P : Program} {S : Nat → Prop} {w : World} {ops : Array Oper} {rest : List Oper} {o : Oper} {a : Act} {Q : Exit → Act → World → Prop} (hgd : o.guard = none) (s x : Operand) (t : TypeId)
    (ho : o.op = .call { callee := .builtin .append, args := #[s, x], argTypes := #[t, t] })
    (e : TypeId) (i : TypeInfo) (z : Value) (bytes : Nat) (ht : P.underlying t = some (.slice e)) (hi : P.info? e = some i) (hz : i.zero = some z) (hsize : i.size = 1) (hby : i.bytes = bytes) (hzs : z.cells.size = 1)
    (v : Value) (vals : List Value) (hs : a.eval s = v) (h : Row S w e v vals) (ad : Addr) (u : Value) (hx : a.eval x = .slice (some ad) 1 1) (hu : w.cell? ad = some u) (h1 : u.oneCell' = true)
    (h63 : vals.length + 1 ≤ maxLen) (hbytes : (vals.length + 1) * bytes ≤ 140737488355328) (he : e ≠ TB)
    (hk : ∀ v' w', Row (Up S w w') w' e v' (vals ++ [u]) → Fr S w w' → (∀ b, b < w.heap.size → v.ownBlock ≠ some b → w'.heap[b]? = w.heap[b]?) → wpList P ops Q rest (a.put o.dst v') w') :
    wpList P ops Q (o :: rest) a w := by
  obtain ⟨v', w', hrun, h2, h3, h4⟩ := run_append_row (P := P) t o.type i z bytes ht hi hz hsize hby hzs h ad u hu h1 h63 hbytes he
  exact wpList_ran hgd (run_builtin2 .append s x t t Builtin.append_ ho hs hx (fun _ _ => rfl) hrun) (hk v' w' h2 h3 h4)

/-- the same within a region -/
theorem oper_append_row {P : Program} {S : Nat → Prop} {w : World} {o : Oper} {a : Act} {K : Act → World → Prop} {Q : Exit → Act → World → Prop} (s x : Operand) (t : TypeId)
    (ho : o.op = .call { callee := .builtin .append, args := #[s, x], argTypes := #[t, t] })
    (e : TypeId) (i : TypeInfo) (z : Value) (bytes : Nat) (ht : P.underlying t = some (.slice e)) (hi : P.info? e = some i) (hz : i.zero = some z) (hsize : i.size = 1) (hby : i.bytes = bytes) (hzs : z.cells.size = 1)
    (v : Value) (vals : List Value) (hs : a.eval s = v) (h : Row S w e v vals) (ad : Addr) (u : Value) (hx : a.eval x = .slice (some ad) 1 1) (hu : w.cell? ad = some u) (h1 : u.oneCell' = true)
    (h63 : vals.length + 1 ≤ maxLen) (hbytes : (vals.length + 1) * bytes ≤ 140737488355328) (he : e ≠ TB)
    (hk : ∀ v' w', Row (Up S w w') w' e v' (vals ++ [u]) → Fr S w w' → (∀ b, b < w.heap.size → v.ownBlock ≠ some b → w'.heap[b]? = w.heap[b]?) → K (a.put o.dst v') w') :
    o.wp P a w K Q := by
  obtain ⟨v', w', hrun, h2, h3, h4⟩ := run_append_row (P := P) t o.type i z bytes ht hi hz hsize hby hzs h ad u hu h1 h63 hbytes he
  have hr := run_builtin2 .append s x t t Builtin.append_ ho hs hx (fun _ _ => rfl) hrun
  unfold Oper.wp
  rw [hr]
  exact hk v' w' h2 h3 h4

/-- a store into a row -/
theorem Row.store {S : Nat → Prop} {w : World} {e : TypeId} {vals : List Value} {g o c : Nat} (h : Row S w e (.slice (some ⟨g, o, none⟩) vals.length c) vals) {k : Nat} (hk : k < vals.length) (u : Value) : Row S (w.setCell ⟨g, o + k, none⟩ u) e (.slice (some ⟨g, o, none⟩) vals.length c) (vals.set k u) := by
  rcases h with ⟨h1, _⟩ | ⟨g', o', c', cur, h1, h2, h3, h4, h5, h6, h7⟩
  · simp at h1
  · simp only [Value.slice.injEq, Option.some.injEq, Addr.mk.injEq, and_true, true_and] at h1
    obtain ⟨⟨rfl, rfl⟩, rfl⟩ := h1
    refine .inr ⟨g, o, c, cur.setIfInBounds (o + k) u, by rw [List.length_set], h2, ?_, by rw [List.length_set]; exact h4, h5, by simpa using h6, ?_⟩
    · simp [World.setCell, Array.getElem?_modify, h3]
    · rw [List.length_set, Array.toList_setIfInBounds]
      have hl : ((cur.toList.drop o).take vals.length).length = vals.length := by rw [h7]
      apply List.ext_getElem?
      intro i
      rw [List.getElem?_take, List.getElem?_drop, List.getElem?_set, List.getElem?_set]
      have e1 : ∀ i, i < vals.length → cur.toList[o + i]? = vals[i]? := by
        intro i hi
        have := congrArg (fun l => l[i]?) h7
        simp only [List.getElem?_take_of_lt hi, List.getElem?_drop] at this
        exact this
      by_cases hi : i < vals.length
      · rw [if_pos hi]
        by_cases hik : k = i
        · subst hik
          rw [if_pos rfl, if_pos rfl, if_pos (by simp; omega), if_pos hi]
        · rw [if_neg (by omega), if_neg hik]
          exact e1 i hi
      · rw [if_neg hi, if_neg (by omega)]
        exact (List.getElem?_eq_none_iff.2 (by omega)).symm
end Go.Proofs.YtediidajdpdeiaaDoor

/- The disk's functions do what the plain functions say: the walks. -/
namespace Go.Proofs.YtediidajdpdeiaaDoor
open Go.RowKit
set_option maxRecDepth 100000

/-- block b is a disk -/
structure DiskAt (S : Nat → Prop) (w : World) (b : Nat) (A : Option Addr) (c : Nat) (D : Dk) : Prop where
  blk : Blk w b 139 #[.bool true, .bool D.down, .slice A D.all.length c, .int .i64 (D.kept : Int)]
  own : Own S w A D.all
  inS : S b
  lt : ∀ x, S x → x < w.heap.size
  cap : D.all.length ≤ c
  ok : D.ok

def IsDisk (S : Nat → Prop) (w : World) (p : Value) (D : Dk) : Prop := ∃ b A c, p = .pointer (some ⟨b, 0, none⟩) ∧ DiskAt S w b A c D

section
variable {S S' : Nat → Prop} {w w' : World} {b : Nat} {A : Option Addr} {c : Nat} {D : Dk} {p : Value}

theorem DiskAt.fr (h : DiskAt S w b A c D) (f : Fr S' w w') (hd : ∀ x, S x → S' x → IsB w x) : DiskAt S w' b A c D :=
  ⟨h.blk.fr f fun hs => h.blk.notB (by decide) (hd _ h.inS hs), h.own.fr f, h.inS, fun x hx => Nat.lt_of_lt_of_le (h.lt x hx) f.size, h.cap, h.ok⟩
theorem IsDisk.fr (h : IsDisk S w p D) (f : Fr S' w w') (hd : ∀ x, S x → S' x → IsB w x) : IsDisk S w' p D := by
  obtain ⟨b, A, c, rfl, h⟩ := h
  exact ⟨b, A, c, rfl, h.fr f hd⟩
theorem DiskAt.lt2 (h : DiskAt S w b A c D) : D.all.length ≤ 4194304 := h.ok.2
end

/-- what a walk wants to know of a disk -/
theorem DiskAt.facts {S : Nat → Prop} {w : World} {b : Nat} {A : Option Addr} {c : Nat} {dn : Bool} {all : List UInt8} {kept : Nat} (h : DiskAt S w b A c ⟨dn, all, kept⟩) :
    w.cell? ⟨b, 0, none⟩ = some (.bool true) ∧ w.cell? ⟨b, 1, none⟩ = some (.bool dn) ∧ w.cell? ⟨b, 2, none⟩ = some (.slice A all.length c) ∧ w.cell? ⟨b, 3, none⟩ = some (.int .i64 (kept : Int)) ∧
    w.frozen? ⟨b, 1, none⟩ = false ∧ w.frozen? ⟨b, 2, none⟩ = false ∧ w.frozen? ⟨b, 3, none⟩ = false ∧ b < w.heap.size ∧ all.length ≤ c ∧ kept ≤ all.length ∧ all.length ≤ 4194304 :=
  ⟨h.blk.cell 0 rfl, h.blk.cell 1 rfl, h.blk.cell 2 rfl, h.blk.cell 3 rfl, h.blk.frozen 1, h.blk.frozen 2, h.blk.frozen 3, h.blk.lt, h.cap, h.ok.1, h.ok.2⟩

theorem none_at {S : Nat → Prop} {w : World} {b : Nat} {A : Option Addr} {c : Nat} {D : Dk} (h : DiskAt S w b A c D) :
    Calls Tryd.prog 103 #[.pointer (some ⟨b, 0, none⟩)] w fun e w' => e = .returned (.bool false) ∧ w = w' := by
  have c0 := h.blk.cell 0 rfl
  go_enter Tryd.func103, Tryd.ntmps103
  go_wp2
  go_ret
  exact ⟨rfl, rfl⟩

theorem asked_at {S : Nat → Prop} {w : World} {b : Nat} {A : Option Addr} {c : Nat} {D : Dk} (h : DiskAt S w b A c D) :
    Calls Tryd.prog 117 #[.pointer (some ⟨b, 0, none⟩)] w fun e w' => e = .returned (.int .i64 (if D.down then 10 else 0)) ∧ w = w' := by
  have c1 := h.blk.cell 1 rfl
  obtain ⟨dn, all, kept⟩ := D
  cases dn
  all_goals
    go_enter Tryd.func117, Tryd.ntmps117
    go_wp2_with (go_at_call 103; refine (none_at h).mono ?_; rintro e w' ⟨rfl, rfl⟩)
    go_ret
    exact ⟨rfl, rfl⟩

/-- WHAT a change of a disk leaves -/
def DiskDid (S : Nat → Prop) (w : World) (p : Value) (r : Dk × Int) (e : Ending) (w' : World) : Prop :=
  e = .returned (.int .i64 r.2) ∧ IsDisk (Up S w w') w' p r.1 ∧ Fr S w w'

theorem DiskAt.notB {S : Nat → Prop} {w : World} {b : Nat} {A : Option Addr} {c : Nat} {D : Dk} (h : DiskAt S w b A c D) : ¬ IsB w b := h.blk.notB (by decide)

/-- nothing was done -/
theorem DiskAt.same {S : Nat → Prop} {w : World} {b : Nat} {A : Option Addr} {c : Nat} {D : Dk} (h : DiskAt S w b A c D) : IsDisk (Up S w w) w (.pointer (some ⟨b, 0, none⟩)) D :=
  ⟨b, A, c, rfl, h.blk, h.own.mono fun _ => .inl, .inl h.inS, fun x hx => hx.elim (h.lt x) (fun h => h.2), h.cap, h.ok⟩

/-- the struct has turned, and there are new blocks -/
theorem DiskAt.turned {S : Nat → Prop} {w w' : World} {b : Nat} {A : Option Addr} {c : Nat} {D : Dk} (h : DiskAt S w b A c D) (f : Fr S w w') {A' : Option Addr} {c' : Nat} {D' : Dk}
    (hb : Blk w' b 139 #[.bool true, .bool D'.down, .slice A' D'.all.length c', .int .i64 (D'.kept : Int)]) (ho : Own (Up S w w') w' A' D'.all) (hc : D'.all.length ≤ c') (hok : D'.ok) :
    IsDisk (Up S w w') w' (.pointer (some ⟨b, 0, none⟩)) D' :=
  ⟨b, A', c', rfl, hb, ho, .inl h.inS, fun x hx => hx.elim (fun hx => Nat.lt_of_lt_of_le (h.lt x hx) f.size) (fun h => h.2), hc, hok⟩

theorem DiskAt.below {S : Nat → Prop} {w w1 : World} {b : Nat} {A : Option Addr} {c : Nat} {D : Dk} (h : DiskAt S w b A c D) (hb : Below w.heap.size w w1) : DiskAt S w1 b A c D :=
  h.fr (S' := Non) (Fr.of_below hb) (fun _ _ h => h.elim)

theorem DiskAt.drew {S : Nat → Prop} {w : World} {b : Nat} {A : Option Addr} {c : Nat} {D : Dk} (h : DiskAt S w b A c D) : DiskAt S w.drew b A c D := ⟨h.blk, h.own, h.inS, h.lt, h.cap, h.ok⟩

theorem append_B {S : Nat → Prop} {w : World} {b : Nat} {A : Option Addr} {c : Nat} {D : Dk} (h : DiskAt S w b A c D) (B : Option Addr) (l : List UInt8) (cb : Nat) (hl : l.length ≤ 70368744177664) (hr : Rd S w B l) :
    Calls Tryd.prog 85 #[.pointer (some ⟨b, 0, none⟩), .slice B l.length cb] w (DiskDid S w (.pointer (some ⟨b, 0, none⟩)) (D.append l)) := by
  have hok' := Dk.ok_append h.ok l
  obtain ⟨dn, all, kept⟩ := D
  obtain ⟨c0, c1, c2, c3, z1, z2, z3, hb, hcap, hk, hall⟩ := h.facts
  obtain ⟨i, hi, hz, hs, hby⟩ := info_parts info_u8
  cases dn
  · by_cases hf : 4194304 < all.length + l.length
    · have e : (Dk.append ⟨false, all, kept⟩ l) = (⟨false, all, kept⟩, 7) := by simp [Dk.append, hf]
      have H := Lib.hid e
      clear e hok'
      go_enter Tryd.func85, Tryd.ntmps85
      go_wp2_with (go_at_call 117; refine (asked_at h).mono ?_; rintro e w' ⟨rfl, rfl⟩)
      go_ret
      rw [H.out]
      exact ⟨rfl, h.same, Fr.refl _ _⟩
    · have e : (Dk.append ⟨false, all, kept⟩ l) = (⟨false, all ++ l, kept⟩, 0) := by simp [Dk.append, hf]
      have H := Lib.hid e
      rw [e] at hok'
      clear e
      rcases Nat.eq_zero_or_pos l.length with h0 | h0
      · obtain rfl := List.eq_nil_of_length_eq_zero h0
        clear h0 hf hl
        have hcz := run_copy_zero (P := Tryd.prog) 22 3 i Tryd.underlying22 hi A B 0 cb
        show Calls _ _ #[_, .slice B 0 cb] w _
        go_enter Tryd.func85, Tryd.ntmps85
        go_wp2_with (first
          | (go_at_call 117; refine (asked_at h).mono ?_; rintro e w' ⟨rfl, rfl⟩)
          | (go_at_call 116; refine (grow_zero A all.length _ (by omega)).mono ?_; rintro e w' ⟨rfl, rfl⟩))
        go_ret
        rw [H.out]
        have F0 : Fr S w (w.setCell ⟨b, 2, none⟩ (.slice A all.length all.length)) := (Fr.refl S w).setCell (p := ⟨b, 2, none⟩) (.inl h.inS) h.notB _
        exact ⟨rfl, h.turned F0 (by simpa using h.blk.set 2 _) (by simpa using (h.own.fr F0).mono fun _ => .inl) (by simp) hok', F0⟩
      · go_enter Tryd.func85, Tryd.ntmps85
        go_wp2_with (first
          | (go_at_call 117; refine (asked_at h).mono ?_; rintro e w' ⟨rfl, rfl⟩)
          | (with_reducible refine wpList_copyB rfl (.tmp 49) (.tmp 50) 22 rfl i Tryd.underlying22 hi hs _ _ _ rfl w.heap.size all.length cur ?fr S B _ _ l rfl rfl ?hr ?hX ?hdl ?hfit ?_)
          | (go_at_call 116; refine (grow_B S A all l.length _ (h.own.rd S) h0 (by omega)).mono ?_; rintro e w' ⟨cg, cur, rfl, hc1, hc2, hcs, hct, rfl⟩))
        all_goals have F0 : Fr S w (((w.setCell ⟨b, 2, none⟩ (.slice (some ⟨w.heap.size, 0, none⟩) (all.length + l.length) cg)).alloc (.cells cur TB)).drew) := (((Fr.refl S w).setCell (p := ⟨b, 2, none⟩) (.inl h.inS) h.notB _).alloc _).drew
        case hr => exact hr.fr F0
        case hdl => rfl
        case hfit => omega
        case fr => exact (Blk.new' _ TB cur (by simp)).drew
        go_ret
        rw [H.out]
        have e2 := List.append_assoc (all.map byteV) (l.map byteV) (cur.toList.drop (all.length + l.length))
        have hrow := setRow_heap _ w.heap.size cur (all.map byteV ++ (l.map byteV ++ cur.toList.drop (all.length + l.length))).toArray TB (0, 0) ((Blk.new' (w.setCell ⟨b, 2, none⟩ (.slice (some ⟨w.heap.size, 0, none⟩) (all.length + l.length) cg)) TB cur (by simp)).drew)
        have F1 := F0.setRow w.heap.size (Nat.le_refl _) (all.map byteV ++ (l.map byteV ++ cur.toList.drop (all.length + l.length))).toArray
        refine ⟨rfl, h.turned F1 ?_ (Own.of_cells _ hrow (.inr ⟨Nat.le_refl _, by simp [World.setRow]⟩) ?_) (by simp; omega) hok', F1⟩
        · exact ((by simpa using (((h.blk.set 2 _).alloc _).drew).setRow _ _ (by omega)))
        · rw [← e2, List.toList_toArray, ← List.map_append, List.take_append_of_le_length (by simp), List.take_of_length_le (by simp)]
  · have e : (Dk.append ⟨true, all, kept⟩ l) = (⟨true, all, kept⟩, 10) := by simp [Dk.append]
    have H := Lib.hid e
    clear e hok'
    go_enter Tryd.func85, Tryd.ntmps85
    go_wp2_with (go_at_call 117; refine (asked_at h).mono ?_; rintro e w' ⟨rfl, rfl⟩)
    go_ret
    rw [H.out]
    exact ⟨rfl, h.same, Fr.refl _ _⟩

theorem sync_B {S : Nat → Prop} {w : World} {b : Nat} {A : Option Addr} {c : Nat} {D : Dk} (h : DiskAt S w b A c D) :
    Calls Tryd.prog 94 #[.pointer (some ⟨b, 0, none⟩)] w (DiskDid S w (.pointer (some ⟨b, 0, none⟩)) D.sync) := by
  have hok' := Dk.ok_sync h.ok
  obtain ⟨dn, all, kept⟩ := D
  obtain ⟨c0, c1, c2, c3, z1, z2, z3, hb, hcap, hk, hall⟩ := h.facts
  cases dn
  all_goals
    go_enter Tryd.func94, Tryd.ntmps94
    go_wp2_with (go_at_call 117; refine (asked_at h).mono ?_; rintro e w' ⟨rfl, rfl⟩)
    go_ret
  · have F0 : Fr S w (w.setCell ⟨b, 3, none⟩ (.int .i64 (all.length : Int))) := (Fr.refl S w).setCell (p := ⟨b, 3, none⟩) (.inl h.inS) h.notB _
    exact ⟨rfl, h.turned F0 (D' := ⟨false, all, all.length⟩) (by simpa using h.blk.set 3 _) ((h.own.fr F0).mono fun _ => .inl) hcap hok', F0⟩
  · exact ⟨rfl, h.same, Fr.refl _ _⟩

theorem restart_B {S : Nat → Prop} {w : World} {b : Nat} {A : Option Addr} {c : Nat} {D : Dk} (h : DiskAt S w b A c D) :
    Calls Tryd.prog 92 #[.pointer (some ⟨b, 0, none⟩)] w (DiskDid S w (.pointer (some ⟨b, 0, none⟩)) D.restart) := by
  have hok' := Dk.ok_restart h.ok
  obtain ⟨dn, all, kept⟩ := D
  obtain ⟨c0, c1, c2, c3, z1, z2, z3, hb, hcap, hk, hall⟩ := h.facts
  cases dn
  all_goals
    go_enter Tryd.func92, Tryd.ntmps92
    go_wp2_with (go_at_call 103; refine (none_at h).mono ?_; rintro e w' ⟨rfl, rfl⟩)
    go_ret
  · exact ⟨rfl, h.same, Fr.refl _ _⟩
  · have F0 : Fr S w ((w.setCell ⟨b, 1, none⟩ (.bool false)).setCell ⟨b, 3, none⟩ (.int .i64 (all.length : Int))) :=
      ((Fr.refl S w).setCell (p := ⟨b, 1, none⟩) (.inl h.inS) h.notB _).setCell (p := ⟨b, 3, none⟩) (.inl h.inS) h.notB _
    exact ⟨rfl, h.turned F0 (D' := ⟨false, all, all.length⟩) (by simpa using (h.blk.set 1 _).set 3 _) ((h.own.fr F0).mono fun _ => .inl) hcap hok', F0⟩

/-- WHAT Read leaves -/
def DiskRead (w : World) (D : Dk) (e : Ending) (w' : World) : Prop :=
  ∃ A' c', e = .returned (.tuple #[.slice A' D.read.1.length c', .int .i64 D.read.2]) ∧ Own (New w) w' A' D.read.1 ∧ D.read.1.length ≤ c' ∧ c' ≤ maxLen ∧ Below w.heap.size w w'

theorem read_B {S : Nat → Prop} {w : World} {b : Nat} {A : Option Addr} {c : Nat} {D : Dk} (h : DiskAt S w b A c D) :
    Calls Tryd.prog 119 #[.pointer (some ⟨b, 0, none⟩)] w (DiskRead w D) := by
  obtain ⟨dn, all, kept⟩ := D
  obtain ⟨c0, c1, c2, c3, z1, z2, z3, hb, hcap, hk, hall⟩ := h.facts
  cases dn
  all_goals
    go_enter Tryd.func119, Tryd.ntmps119
    go_wp2_with (first
      | (go_at_call 117; refine (asked_at h).mono ?_; rintro e w' ⟨rfl, rfl⟩)
      | (go_at_call 80; refine (clone_B S A all c _ (h.own.rd S) (by omega)).mono ?_; rintro e w' ⟨A', c', rfl, hor, hc', hm', hbel⟩; have ho := Own.of_row' hor))
    go_ret2
  · exact ⟨_, _, rfl, ho, hc', hm', hbel⟩
  · exact ⟨none, 0, rfl, Own.nil _ _ _, Nat.le_refl _, Nat.zero_le _, Below.refl _ _⟩

theorem cut_B {S : Nat → Prop} {w : World} {b : Nat} {A : Option Addr} {c : Nat} {D : Dk} (h : DiskAt S w b A c D) (n : Int) :
    Calls Tryd.prog 121 #[.pointer (some ⟨b, 0, none⟩), .int .i64 n] w (DiskDid S w (.pointer (some ⟨b, 0, none⟩)) (D.cut n)) := by
  have hok' := Dk.ok_cut h.ok n
  obtain ⟨dn, all, kept⟩ := D
  obtain ⟨c0, c1, c2, c3, z1, z2, z3, hb, hcap, hk, hall⟩ := h.facts
  cases dn
  · by_cases hn : n < 0 ∨ (all.length : Int) < n
    · have e : (Dk.cut ⟨false, all, kept⟩ n) = (⟨false, all, kept⟩, 2) := by simp [Dk.cut, hn]
      have H := Lib.hid e
      clear e hok'
      go_enter Tryd.func121, Tryd.ntmps121
      go_wp2_with (go_at_call 117; refine (asked_at h).mono ?_; rintro e w' ⟨rfl, rfl⟩)
      all_goals
        go_ret
        rw [H.out]
        exact ⟨rfl, h.same, Fr.refl _ _⟩
    · have e : (Dk.cut ⟨false, all, kept⟩ n) = (⟨false, all.take n.toNat, n.toNat⟩, 0) := by simp [Dk.cut, hn]
      have H := Lib.hid e
      rw [e] at hok'
      clear e
      obtain ⟨m, rfl⟩ : ∃ m : Nat, n = m := ⟨n.toNat, by omega⟩
      rw [Int.toNat_natCast] at H hok'
      have hm : m ≤ all.length := by omega
      go_enter Tryd.func121, Tryd.ntmps121
      go_wp2_with (go_at_call 117; refine (asked_at h).mono ?_; rintro e w' ⟨rfl, rfl⟩)
      go_ret
      rw [H.out]
      have F0 : Fr S w ((w.setCell ⟨b, 2, none⟩ (.slice A m m)).setCell ⟨b, 3, none⟩ (.int .i64 (m : Int))) :=
        ((Fr.refl S w).setCell (p := ⟨b, 2, none⟩) (.inl h.inS) h.notB _).setCell (p := ⟨b, 3, none⟩) (.inl h.inS) h.notB _
      have em : (all.take m).length = m := by rw [List.length_take]; omega
      exact ⟨rfl, h.turned F0 (c' := m) (D' := ⟨false, all.take m, m⟩) (by simpa [em] using (h.blk.set 2 (.slice A m m)).set 3 (.int .i64 (m : Int))) (((h.own.fr F0).take m).mono fun _ => .inl) (by simp only; omega) hok', F0⟩
  · have e : (Dk.cut ⟨true, all, kept⟩ n) = (⟨true, all, kept⟩, 10) := by simp [Dk.cut]
    have H := Lib.hid e
    clear e hok'
    go_enter Tryd.func121, Tryd.ntmps121
    go_wp2_with (go_at_call 117; refine (asked_at h).mono ?_; rintro e w' ⟨rfl, rfl⟩)
    go_ret
    rw [H.out]
    exact ⟨rfl, h.same, Fr.refl _ _⟩

theorem swap_B {S : Nat → Prop} {w : World} {b : Nat} {A : Option Addr} {c : Nat} {D : Dk} (h : DiskAt S w b A c D) (B : Option Addr) (l : List UInt8) (cb : Nat) (hl : l.length ≤ 70368744177664) (hr : Rd S w B l) :
    Calls Tryd.prog 114 #[.pointer (some ⟨b, 0, none⟩), .slice B l.length cb] w (DiskDid S w (.pointer (some ⟨b, 0, none⟩)) (D.swap l)) := by
  have hok' := Dk.ok_swap h.ok l
  obtain ⟨dn, all, kept⟩ := D
  obtain ⟨c0, c1, c2, c3, z1, z2, z3, hb, hcap, hk, hall⟩ := h.facts
  cases dn
  · by_cases hn : 4194304 < l.length
    · have e : (Dk.swap ⟨false, all, kept⟩ l) = (⟨false, all, kept⟩, 7) := by simp [Dk.swap, hn]
      have H := Lib.hid e
      clear e hok'
      go_enter Tryd.func114, Tryd.ntmps114
      go_wp2_with (go_at_call 117; refine (asked_at h).mono ?_; rintro e w' ⟨rfl, rfl⟩)
      go_ret
      rw [H.out]
      exact ⟨rfl, h.same, Fr.refl _ _⟩
    · have e : (Dk.swap ⟨false, all, kept⟩ l) = (⟨false, l, l.length⟩, 0) := by simp [Dk.swap, hn]
      have H := Lib.hid e
      rw [e] at hok'
      clear e
      go_enter Tryd.func114, Tryd.ntmps114
      go_wp2_with (first
        | (go_at_call 117; refine (asked_at h).mono ?_; rintro e w' ⟨rfl, rfl⟩)
        | (go_at_call 80; refine (clone_B S B l cb _ hr (by omega)).mono ?_; rintro e w1 ⟨A', c', rfl, hor, hc', hm', hbel⟩; have ho := Own.of_row' hor; have h1 := h.below hbel; obtain ⟨d0, d1, d2, d3, y1, y2, y3, hb1, -⟩ := h1.facts))
      go_ret
      rw [H.out]
      have F0 : Fr S w ((w1.setCell ⟨b, 2, none⟩ (.slice A' l.length c')).setCell ⟨b, 3, none⟩ (.int .i64 (l.length : Int))) :=
        ((Fr.of_below hbel).setCell (p := ⟨b, 2, none⟩) (.inl h.inS) h.notB _).setCell (p := ⟨b, 3, none⟩) (.inl h.inS) h.notB _
      have F1 : Fr S w1 ((w1.setCell ⟨b, 2, none⟩ (.slice A' l.length c')).setCell ⟨b, 3, none⟩ (.int .i64 (l.length : Int))) :=
        ((Fr.refl S w1).setCell (p := ⟨b, 2, none⟩) (.inl h.inS) h1.notB _).setCell (p := ⟨b, 3, none⟩) (.inl h.inS) h1.notB _
      exact ⟨rfl, h.turned F0 (D' := ⟨false, l, l.length⟩) (by simpa using (h1.blk.set 2 _).set 3 _) ((ho.fr F1).up fun x hx => .inr hx) hc' hok', F0⟩
  · have e : (Dk.swap ⟨true, all, kept⟩ l) = (⟨true, all, kept⟩, 10) := by simp [Dk.swap]
    have H := Lib.hid e
    clear e hok'
    go_enter Tryd.func114, Tryd.ntmps114
    go_wp2_with (go_at_call 117; refine (asked_at h).mono ?_; rintro e w' ⟨rfl, rfl⟩)
    go_ret
    rw [H.out]
    exact ⟨rfl, h.same, Fr.refl _ _⟩

theorem size_B {S : Nat → Prop} {w : World} {b : Nat} {A : Option Addr} {c : Nat} {D : Dk} (h : DiskAt S w b A c D) :
    Calls Tryd.prog 57 #[.pointer (some ⟨b, 0, none⟩)] w fun e w' => e = .returned (.int .i64 (D.all.length : Int)) ∧ w = w' := by
  obtain ⟨dn, all, kept⟩ := D
  obtain ⟨c0, c1, c2, c3, z1, z2, z3, hb, hcap, hk, hall⟩ := h.facts
  go_enter Tryd.func57, Tryd.ntmps57
  go_wp2_with (go_at_call 103; refine (none_at h).mono ?_; rintro e w' ⟨rfl, rfl⟩)
  go_ret
  exact ⟨rfl, rfl⟩

theorem new_B (w : World) : Calls Tryd.prog 84 #[] w fun e w' => ∃ p, e = .returned p ∧ IsDisk (Nw w w') w' p Dk.new ∧ Below w.heap.size w w' := by
  go_enter Tryd.func84, Tryd.ntmps84
  go_wp2
  go_ret
  exact ⟨_, rfl, ⟨_, _, _, rfl, Blk.new _ _ _, Own.nil _ _ _, ⟨Nat.le_refl _, by simp⟩, fun x hx => hx.2, Nat.le_refl _, Dk.ok_new⟩, (Below.refl _ _).alloc (Nat.le_refl _) _⟩

/-- WHAT Kept leaves -/
def BytesNew (w : World) (l : List UInt8) (e : Ending) (w' : World) : Prop :=
  ∃ A' c', e = .returned (.slice A' l.length c') ∧ Own (New w) w' A' l ∧ l.length ≤ c' ∧ c' ≤ maxLen ∧ Below w.heap.size w w'

theorem kept_B {S : Nat → Prop} {w : World} {b : Nat} {A : Option Addr} {c : Nat} {D : Dk} (h : DiskAt S w b A c D) :
    Calls Tryd.prog 56 #[.pointer (some ⟨b, 0, none⟩)] w (BytesNew w (D.all.take D.kept)) := by
  obtain ⟨dn, all, kept⟩ := D
  obtain ⟨c0, c1, c2, c3, z1, z2, z3, hb, hcap, hk, hall⟩ := h.facts
  have em : (all.take kept).length = kept := by rw [List.length_take]; omega
  have hcl := fun w (hr : Rd S w A all) => clone_B S A (all.take kept) kept w (hr.take kept) (by omega)
  rw [em] at hcl
  have k0 : (0 : Int) ≤ (kept : Int) := by omega
  have k1 : (kept : Int) ≤ (c : Int) := by omega
  have k2 : (kept : Int) ≤ (kept : Int) := by omega
  go_enter Tryd.func56, Tryd.ntmps56
  go_wp2_with (go_at_call 103; refine (none_at h).mono ?_; rintro e w' ⟨rfl, rfl⟩)
  go_region_held3 (fun w' => w'.cell? ⟨b, 2, none⟩ = some (.slice A all.length c) ∧ w'.cell? ⟨b, 3, none⟩ = some (.int .i64 (kept : Int))) (go_keep)
    ((go_at_call 80; refine (hcl _ (h.own.rd S).drew).mono ?_; rintro e w1 ⟨A', c', rfl, hor, hc', hm', hbel⟩; have ho := Own.of_row' hor; have h1 := h.drew.below hbel; obtain ⟨d0, d1, d2, d3, y1, y2, y3, hb1, -⟩ := h1.facts))
  go_wp2
  go_ret
  exact ⟨A', c', by rw [em]; rfl, ho, hc', hm', ⟨hbel.os, hbel.tape, hbel.output, hbel.size, hbel.block⟩⟩

end Go.Proofs.YtediidajdpdeiaaDoor

/- The disk's Copy and Crash: the walks. -/
namespace Go.Proofs.YtediidajdpdeiaaDoor
open Go.RowKit
set_option maxRecDepth 100000

theorem copy_B {S : Nat → Prop} {w : World} {b : Nat} {A : Option Addr} {c : Nat} {D : Dk} (h : DiskAt S w b A c D) :
    Calls Tryd.prog 88 #[.pointer (some ⟨b, 0, none⟩)] w fun e w' => ∃ p, e = .returned p ∧ IsDisk (Nw w w') w' p D ∧ Below w.heap.size w w' := by
  obtain ⟨dn, all, kept⟩ := D
  obtain ⟨c0, c1, c2, c3, z1, z2, z3, hb, hcap, hk, hall⟩ := h.facts
  go_enter Tryd.func88, Tryd.ntmps88
  have F0 : Fr S w (w.alloc (.cells #[.bool true, .bool dn, .slice A all.length c, .int .i64 (kept : Int)] 139)) := (Fr.refl S w).alloc _
  go_wp2_with (first
    | (go_at_call 103; refine (none_at h).mono ?_; rintro e w' ⟨rfl, rfl⟩)
    | (go_at_call 80; refine (clone_B S A all c _ ((h.own.rd S).fr F0) (by omega)).mono ?_; rintro e w1 ⟨A', c', rfl, hor, hc', hm', hbel⟩
       have hn := (Blk.new w 139 #[.bool true, .bool dn, .slice A all.length c, .int .i64 (kept : Int)]).eq (hbel.block w.heap.size (by simp))
       have e2 : w1.cell? ⟨w.heap.size, 2, none⟩ = some (.slice A all.length c) := hn.cell 2 rfl
       have y2 := hn.frozen 2
       have hlt : w.heap.size < w1.heap.size := hn.lt))
  go_ret
  have F1 : Fr S w (w1.setCell ⟨w.heap.size, 2, none⟩ (.slice A' all.length c')) := (F0.trans (S' := Non) (Fr.of_below hbel) (fun _ h => h.elim)).setCell (p := ⟨w.heap.size, 2, none⟩) (.inr (Nat.le_refl _)) (notB_new (Nat.le_refl _)) _
  have F2 : Fr (New w) w1 (w1.setCell ⟨w.heap.size, 2, none⟩ (.slice A' all.length c')) := (Fr.refl _ _).setCell (p := ⟨w.heap.size, 2, none⟩) (.inl (Nat.le_refl _)) (hn.notB (by decide)) _
  have F3 : Fr Non w (w1.setCell ⟨w.heap.size, 2, none⟩ (.slice A' all.length c')) := ((((Fr.refl Non w).alloc _).trans (S' := Non) (Fr.of_below hbel) (fun _ h => h.elim)).setCell (p := ⟨w.heap.size, 2, none⟩) (.inr (Nat.le_refl _)) (notB_new (Nat.le_refl _)) _)
  have ho := (Own.of_row' hor).fr F2
  refine ⟨_, rfl, ⟨w.heap.size, A', c', rfl, by simpa using hn.set 2 (.slice A' all.length c'), ?_, ⟨Nat.le_refl _, by simpa [World.setCell] using hlt⟩, fun x hx => hx.2, hc', h.ok⟩, F3.below (fun _ h => h.elim)⟩
  intro j x hx
  obtain ⟨ad, q1, q2, q3, q4⟩ := ho j x hx
  exact ⟨ad, q1, q2, q3, by have : w.heap.size + 1 ≤ ad.block := by simpa [New] using q4
                            omega, q3.lt⟩

theorem turn_bits_all : ∀ (x : Fin 256) (k : Fin 8), bits .xor .u8 (x.val : Int) (2 ^ min k.val 8 % 256) = ((UInt8.ofNat x.val ^^^ UInt8.ofNat (2 ^ k.val)).toNat : Int) := by decide +kernel
theorem turn_bits (x : UInt8) (k : Nat) (hk : k < 8) : Value.int .u8 (bits .xor .u8 (x.toNat : Int) (2 ^ min k 8 % 256)) = byteV (turnByte x k) := by
  have := turn_bits_all ⟨x.toNat, x.toNat_lt⟩ ⟨k, hk⟩
  simp only [UInt8.ofNat_toNat] at this
  rw [this]; rfl

set_option maxHeartbeats 2000000 in
set_option maxRecDepth 100000 in
/-- a crash -/
theorem crash_B {S : Nat → Prop} {w : World} {b : Nat} {A : Option Addr} {c : Nat} {D : Dk} (h : DiskAt S w b A c D) (keep flip : Int) (hk63 : keep ≤ 9223372036854775807) (hf63 : flip ≤ 9223372036854775807) (hk0 : -9223372036854775808 ≤ keep) (hf0 : -9223372036854775808 ≤ flip) :
    Calls Tryd.prog 91 #[.pointer (some ⟨b, 0, none⟩), .int .i64 keep, .int .i64 flip] w (DiskDid S w (.pointer (some ⟨b, 0, none⟩)) (D.crash keep flip)) := by
  have hok' := Dk.ok_crash h.ok keep flip
  obtain ⟨dn, all, kept⟩ := D
  obtain ⟨c0, c1, c2, c3, z1, z2, z3, hb, hcap, hk, hall⟩ := h.facts
  cases dn
  · by_cases hn : keep < 0
    · have e : (Dk.crash ⟨false, all, kept⟩ keep flip) = (⟨false, all, kept⟩, 2) := by simp [Dk.crash, hn]
      have H := Lib.hid e
      clear e hok'
      go_enter Tryd.func91, Tryd.ntmps91
      go_wp2_with (go_at_call 117; refine (asked_at h).mono ?_; rintro e w' ⟨rfl, rfl⟩)
      go_ret
      rw [H.out]
      exact ⟨rfl, h.same, Fr.refl _ _⟩
    · obtain ⟨kn, rfl⟩ : ∃ m : Nat, keep = m := ⟨keep.toNat, by omega⟩
      have e : (Dk.crash ⟨false, all, kept⟩ kn flip) = (⟨true, all.take kept ++ torn (all.drop kept) kn flip, kept⟩, 0) := by simp [Dk.crash]
      have H := Lib.hid e
      rw [e] at hok'
      clear e
      obtain ⟨n, hn1⟩ : ∃ n : Nat, n = min kn (all.length - kept) := ⟨_, rfl⟩
      have hmin : ∀ w, (Builtin.min_ #[3, 3] 3 #[.int .i64 (kn : Int), .int .i64 ((all.length : Int) - (kept : Int))]).run Tryd.prog w = .ok (.int .i64 (n : Int)) w := by
        intro w
        simp only [Builtin.min_]
        simp [Builtin.min2]
        split <;> omega
      have hn2 : kept + n ≤ all.length := by omega
      have em : (all.take (kept + n)).length = kept + n := by rw [List.length_take]; omega
      have hcl := fun w (hr : Rd S w A all) => clone_B S A (all.take (kept + n)) c w (hr.take (kept + n)) (by omega)
      rw [em] at hcl
      have h1 : DiskAt S (w.setCell ⟨b, 1, none⟩ (.bool true)) b A c ⟨true, all, kept⟩ :=
        ⟨by simpa using h.blk.set 1 (.bool true), h.own.fr ((Fr.refl S w).setCell (p := ⟨b, 1, none⟩) (.inl h.inS) h.notB _), h.inS, by simpa [World.setCell] using h.lt, h.cap, h.ok⟩
      have F1 : Fr S w (w.setCell ⟨b, 1, none⟩ (.bool true)) := (Fr.refl S w).setCell (p := ⟨b, 1, none⟩) (.inl h.inS) h.notB _
      have k0 : (0 : Int) ≤ (kept : Int) + (n : Int) := by omega
      have k1 : (kept : Int) + (n : Int) ≤ (c : Int) := by omega
      have k2 : IntKind.i64.wrap ((all.length : Int) - (kept : Int)) = (all.length : Int) - (kept : Int) := by rw [IntKind.wrap_i64]; omega
      have k3 : IntKind.i64.wrap ((kept : Int) + (n : Int)) = (kept : Int) + (n : Int) := by rw [IntKind.wrap_i64]; omega
      have k4 : ((kept : Int) + (n : Int)).toNat = kept + n := by omega
      have HN := Lib.hid hn1
      clear hn1
      go_enter Tryd.func91, Tryd.ntmps91
      go_wp2_with (go_at_call 117; refine (asked_at h).mono ?_; rintro e w' ⟨rfl, rfl⟩)
      clear c0 c1 c2 c3 z1 z2 z3
      generalize w.setCell ⟨b, 1, none⟩ (.bool true) = w1 at *
      obtain ⟨c0, c1, c2, c3, z1, z2, z3, hb, -⟩ := h1.facts
      refine wp_region_T #[[], [], [], [], [], [], [], [], [], [], [], [], [], [], [13], [], [], [], [], [13, 18], [13, 18], [8, 13, 18], [4, 8, 13, 18], [4, 8, 13, 18], [4, 8, 13, 18], [4, 8, 13, 18], [4, 8, 13, 18]] [4, 8, 13, 18] (fun w' => w'.cell? ⟨b, 2, none⟩ = some (.slice A all.length c) ∧ w'.cell? ⟨b, 3, none⟩ = some (.int .i64 (kept : Int))) 27 rfl (by kernel_rfl) ?_
      (refine wpAnyT_free (i := 0) rfl (by kernel_rfl) rfl (fun _ _ _ h => h) (by kernel_rfl) (fun _ => by go_simp; try rfl) ?_; (try simp only [Act.put, List.setIfInBounds_toArray, List.set_cons_zero, List.set_cons_succ]))
      (refine wpAnyT_free (i := 1) rfl (by kernel_rfl) rfl (fun _ _ _ h => h) (by kernel_rfl) (fun _ => by go_simp; try rfl) ?_; (try simp only [Act.put, List.setIfInBounds_toArray, List.set_cons_zero, List.set_cons_succ]))
      (refine wpAnyT_free (i := 2) rfl (by kernel_rfl) rfl (fun _ _ _ h => h) (by kernel_rfl) (fun _ => by go_simp; try rfl) ?_; (try simp only [Act.put, List.setIfInBounds_toArray, List.set_cons_zero, List.set_cons_succ]))
      (refine wpAnyT_free (i := 3) rfl (by kernel_rfl) rfl (fun _ _ _ h => h) (by kernel_rfl) (fun _ => by go_simp; try rfl) ?_; (try simp only [Act.put, List.setIfInBounds_toArray, List.set_cons_zero, List.set_cons_succ]))
      (refine wpAnyT_read (i := 4) rfl (by kernel_rfl) rfl (fun _ _ _ h => h) (by kernel_rfl) (⟨c2, c3⟩) (fun w hS_ => by obtain ⟨s_1, s_2⟩ := hS_; go_simp; try rfl) ?_; (try simp only [Act.put, List.setIfInBounds_toArray, List.set_cons_zero, List.set_cons_succ]))
      (refine wpAnyT_free (i := 5) rfl (by kernel_rfl) rfl (fun _ _ _ h => h) (by kernel_rfl) (fun _ => by go_simp; try rfl) ?_; (try simp only [Act.put, List.setIfInBounds_toArray, List.set_cons_zero, List.set_cons_succ]))
      (refine wpAnyT_free (i := 6) rfl (by kernel_rfl) rfl (fun _ _ _ h => h) (by kernel_rfl) (fun _ => by go_simp; try rfl) ?_; (try simp only [Act.put, List.setIfInBounds_toArray, List.set_cons_zero, List.set_cons_succ]))
      (refine wpAnyT_free (i := 7) rfl (by kernel_rfl) rfl (fun _ _ _ h => h) (by kernel_rfl) (fun _ => by go_simp; try rfl) ?_; (try simp only [Act.put, List.setIfInBounds_toArray, List.set_cons_zero, List.set_cons_succ]))
      (refine wpAnyT_read (i := 8) rfl (by kernel_rfl) rfl (fun _ _ _ h => h) (by kernel_rfl) (⟨c2, c3⟩) (fun w hS_ => by obtain ⟨s_1, s_2⟩ := hS_; go_simp; try rfl) ?_; (try simp only [Act.put, List.setIfInBounds_toArray, List.set_cons_zero, List.set_cons_succ]))
      (refine wpAnyT_free (i := 9) rfl (by kernel_rfl) rfl (fun _ _ _ h => h) (by kernel_rfl) (fun _ => by go_simp; try rfl) ?_; (try simp only [Act.put, List.setIfInBounds_toArray, List.set_cons_zero, List.set_cons_succ]))
      (refine wpAnyT_free (i := 10) rfl (by kernel_rfl) rfl (fun _ _ _ h => h) (by kernel_rfl) (fun _ => by go_simp; try rfl) ?_; (try simp only [Act.put, List.setIfInBounds_toArray, List.set_cons_zero, List.set_cons_succ]))
      (refine wpAnyT_free (i := 11) rfl (by kernel_rfl) rfl (fun _ _ _ h => h) (by kernel_rfl) (fun _ => by go_simp; try rfl) ?_; (try simp only [Act.put, List.setIfInBounds_toArray, List.set_cons_zero, List.set_cons_succ]))
      (refine wpAnyT_free (i := 12) rfl (by kernel_rfl) rfl (fun _ _ _ h => h) (by kernel_rfl) (fun _ => by go_simp; try rfl) ?_; (try simp only [Act.put, List.setIfInBounds_toArray, List.set_cons_zero, List.set_cons_succ]))
      (refine wpAnyT_read (i := 13) rfl (by kernel_rfl) rfl (fun _ _ _ h => h) (by kernel_rfl) (⟨c2, c3⟩) (fun w hS_ => by obtain ⟨s_1, s_2⟩ := hS_; go_simp; try rfl) ?_; (try simp only [Act.put, List.setIfInBounds_toArray, List.set_cons_zero, List.set_cons_succ]))
      (refine wpAnyT_free (i := 14) rfl (by kernel_rfl) rfl (fun _ _ _ h => h) (by kernel_rfl) (fun _ => by go_simp; try rfl) ?_; (try simp only [Act.put, List.setIfInBounds_toArray, List.set_cons_zero, List.set_cons_succ]))
      (refine wpAnyT_free (i := 15) rfl (by kernel_rfl) rfl (fun _ _ _ h => h) (by kernel_rfl) (fun _ => by go_simp; try rfl) ?_; (try simp only [Act.put, List.setIfInBounds_toArray, List.set_cons_zero, List.set_cons_succ]))
      (refine wpAnyT_free (i := 16) rfl (by kernel_rfl) rfl (fun _ _ _ h => h) (by kernel_rfl) (fun _ => by go_simp; try rfl) ?_; (try simp only [Act.put, List.setIfInBounds_toArray, List.set_cons_zero, List.set_cons_succ]))
      (refine wpAnyT_free (i := 17) rfl (by kernel_rfl) rfl (fun _ _ _ h => h) (by kernel_rfl) (fun _ => by go_simp; try rfl) ?_; (try simp only [Act.put, List.setIfInBounds_toArray, List.set_cons_zero, List.set_cons_succ]))
      (refine wpAnyT_read (i := 18) rfl (by kernel_rfl) rfl (fun _ _ _ h => h) (by kernel_rfl) (⟨c2, c3⟩) (fun w hS_ => by obtain ⟨s_1, s_2⟩ := hS_; go_simp; try rfl) ?_; (try simp only [Act.put, List.setIfInBounds_toArray, List.set_cons_zero, List.set_cons_succ]))
      (refine wpAnyT_free (i := 19) rfl (by kernel_rfl) rfl (fun _ _ _ h => h) (by kernel_rfl) (fun _ => by go_simp; try rfl) ?_; (try simp only [Act.put, List.setIfInBounds_toArray, List.set_cons_zero, List.set_cons_succ]))
      (refine wpAnyT_free (i := 20) rfl (by kernel_rfl) rfl (fun _ _ _ h => h) (by kernel_rfl) (fun _ => by go_simp; try rfl) ?_; (try simp only [Act.put, List.setIfInBounds_toArray, List.set_cons_zero, List.set_cons_succ]))
      (refine wpAnyT_free (i := 21) rfl (by kernel_rfl) rfl (fun _ _ _ h => h) (by kernel_rfl) (fun _ => by go_simp; try rfl) ?_; (try simp only [Act.put, List.setIfInBounds_toArray, List.set_cons_zero, List.set_cons_succ]))
      (refine wpAnyT_free (i := 22) rfl (by kernel_rfl) rfl (fun _ _ _ h => h) (by kernel_rfl) (fun _ => by go_simp; try rfl) ?_; (try simp only [Act.put, List.setIfInBounds_toArray, List.set_cons_zero, List.set_cons_succ]))
      refine wpAnyT_sink (i := 23) rfl (by kernel_rfl) rfl (by kernel_rfl) ?_
      intro K_ hK_
      go_wp2_with ((go_at_call 80; refine (hcl _ (h1.own.rd S).drew).mono ?_; rintro e w2 ⟨A', c', rfl, hor, hc', hm', hbel⟩; have h2 := h1.drew.below hbel; obtain ⟨d0, d1, d2, d3, y1, y2, y3, hb1, -⟩ := h2.facts))
      (try (refine hK_ _ _ ?_; clear hK_ K_))
      (try simp only [Act.put, List.setIfInBounds_toArray, List.set_cons_zero, List.set_cons_succ])
      (refine wpAnyT_free (i := 24) rfl (by kernel_rfl) rfl (fun _ _ _ h => h) (by kernel_rfl) (fun _ => by go_simp; try rfl) ?_; (try simp only [Act.put, List.setIfInBounds_toArray, List.set_cons_zero, List.set_cons_succ]))
      (refine wpAnyT_free (i := 25) rfl (by kernel_rfl) rfl (fun _ _ _ h => h) (by kernel_rfl) (fun _ => by go_simp; try rfl) ?_; (try simp only [Act.put, List.setIfInBounds_toArray, List.set_cons_zero, List.set_cons_succ]))
      refine wpAnyT_sink (i := 26) rfl (by kernel_rfl) rfl (by kernel_rfl) ?_
      intro K_ hK_
      go_wp2
      (try (refine hK_ _ _ ?_; clear hK_ K_))
      (try simp only [Act.put, List.setIfInBounds_toArray, List.set_cons_zero, List.set_cons_succ])
      refine wpAnyT_done (by kernel_rfl) ?_ _
      rw [em] at hor hc'
      have g1 : ¬ IsB w2 b := h2.notB
      have hB : b < w1.drew.heap.size := hb
      have hor3 := ownsRow_setCell_below hor (a := ⟨b, 2, none⟩) hB (.slice A' (kept + n) c')
      have b3 := h2.blk.set 2 (.slice A' (kept + n) c')
      have F3 : Fr S w (w2.setCell ⟨b, 2, none⟩ (.slice A' (kept + n) c')) :=
        ((F1.drew.trans (S' := Non) (Fr.of_below hbel) (fun _ h => h.elim)).setCell (p := ⟨b, 2, none⟩) (.inl h.inS) h.notB _)
      clear d0 d1 d2 d3 y1 y2 y3 hb1 c0 c1 c2 c3 z1 z2 z3 hmin hcl
      generalize w2.setCell ⟨b, 2, none⟩ (.slice A' (kept + n) c') = w3 at *
      have c2 : w3.cell? ⟨b, 2, none⟩ = some (.slice A' (kept + n) c') := b3.cell 2 rfl
      have c3 : w3.cell? ⟨b, 3, none⟩ = some (.int .i64 (kept : Int)) := b3.cell 3 rfl
      have kc : kept + n ≤ c' := hc'
      have k5 : (kept : Int) ≤ (kept : Int) + (n : Int) := by omega
      go_wp2
      refine wp_region_T #[[], [], [], [], [], [], [], [], [3, 7], [3, 7]] [3, 7] (fun w' => w'.cell? ⟨b, 2, none⟩ = some (.slice A' (kept + n) c') ∧ w'.cell? ⟨b, 3, none⟩ = some (.int .i64 (kept : Int))) 10 rfl (by kernel_rfl) ?_
      (refine wpAnyT_free (i := 0) rfl (by kernel_rfl) rfl (fun _ _ _ h => h) (by kernel_rfl) (fun _ => by go_simp; try rfl) ?_; (try simp only [Act.put, List.setIfInBounds_toArray, List.set_cons_zero, List.set_cons_succ]))
      (refine wpAnyT_free (i := 1) rfl (by kernel_rfl) rfl (fun _ _ _ h => h) (by kernel_rfl) (fun _ => by go_simp; try rfl) ?_; (try simp only [Act.put, List.setIfInBounds_toArray, List.set_cons_zero, List.set_cons_succ]))
      (refine wpAnyT_free (i := 2) rfl (by kernel_rfl) rfl (fun _ _ _ h => h) (by kernel_rfl) (fun _ => by go_simp; try rfl) ?_; (try simp only [Act.put, List.setIfInBounds_toArray, List.set_cons_zero, List.set_cons_succ]))
      (refine wpAnyT_read (i := 3) rfl (by kernel_rfl) rfl (fun _ _ _ h => h) (by kernel_rfl) (⟨c2, c3⟩) (fun w hS_ => by obtain ⟨s_1, s_2⟩ := hS_; go_simp; try rfl) ?_; (try simp only [Act.put, List.setIfInBounds_toArray, List.set_cons_zero, List.set_cons_succ]))
      (refine wpAnyT_free (i := 4) rfl (by kernel_rfl) rfl (fun _ _ _ h => h) (by kernel_rfl) (fun _ => by go_simp; try rfl) ?_; (try simp only [Act.put, List.setIfInBounds_toArray, List.set_cons_zero, List.set_cons_succ]))
      (refine wpAnyT_free (i := 5) rfl (by kernel_rfl) rfl (fun _ _ _ h => h) (by kernel_rfl) (fun _ => by go_simp; try rfl) ?_; (try simp only [Act.put, List.setIfInBounds_toArray, List.set_cons_zero, List.set_cons_succ]))
      (refine wpAnyT_free (i := 6) rfl (by kernel_rfl) rfl (fun _ _ _ h => h) (by kernel_rfl) (fun _ => by go_simp; try rfl) ?_; (try simp only [Act.put, List.setIfInBounds_toArray, List.set_cons_zero, List.set_cons_succ]))
      (refine wpAnyT_read (i := 7) rfl (by kernel_rfl) rfl (fun _ _ _ h => h) (by kernel_rfl) (⟨c2, c3⟩) (fun w hS_ => by obtain ⟨s_1, s_2⟩ := hS_; go_simp; try rfl) ?_; (try simp only [Act.put, List.setIfInBounds_toArray, List.set_cons_zero, List.set_cons_succ]))
      (refine wpAnyT_free (i := 8) rfl (by kernel_rfl) rfl (fun _ _ _ h => h) (by kernel_rfl) (fun _ => by go_simp; try rfl) ?_; (try simp only [Act.put, List.setIfInBounds_toArray, List.set_cons_zero, List.set_cons_succ]))
      (refine wpAnyT_free (i := 9) rfl (by kernel_rfl) rfl (fun _ _ _ h => h) (by kernel_rfl) (fun _ => by go_simp; try rfl) ?_; (try simp only [Act.put, List.setIfInBounds_toArray, List.set_cons_zero, List.set_cons_succ]))
      refine wpAnyT_done (by kernel_rfl) ?_ _
      have HA := Lib.hid (Eq.refl (if c' = kept then A' else Option.map (fun x => x.add kept) A'))
      generalize hA8 : (if c' = kept then A' else Option.map (fun x => x.add kept) A') = A8
      rw [hA8] at HA
      have HA8 := Lib.hid hA8
      clear hA8 HA
      by_cases hfl : 0 ≤ flip
      · obtain ⟨fl, rfl⟩ : ∃ m : Nat, flip = m := ⟨flip.toNat, by omega⟩
        by_cases hfn : fl / 8 < n
        · have q1 : (0 : Int) ≤ (fl : Int) := by omega
          have q2 : (fl : Int) / 8 < (n : Int) := by omega
          obtain ⟨g, cap, hv, hg1, hg2⟩ := hor3.form (by omega)
          have hA' : A' = some ⟨g, 0, none⟩ := by injection hv
          have hA8 : A8 = some ⟨g, kept, none⟩ := by
            rw [← HA8.out, hA', if_neg (by omega)]
            simp [add_mk]
          subst hA8
          subst hA'
          clear hv HA8
          have hlt : kept + fl / 8 < (all.take (kept + n)).length := by rw [em]; omega
          obtain ⟨x, hx⟩ : ∃ x, (all.take (kept + n))[kept + fl / 8]? = some x := ⟨_, List.getElem?_eq_getElem hlt⟩
          have hxc : w3.cell? ⟨g, kept + fl / 8, none⟩ = some (.int .u8 (x.toNat : Int)) := by
            rw [hor3.cellAt _ (by omega), List.getElem?_map, hx]; rfl
          have hxf := hor3.frozenAt (kept + fl / 8)
          have Hx := Lib.hid hx
          clear hx
          go_wp2
          have q3 : IntKind.i64.wrap ((fl : Int) / 8) = (fl : Int) / 8 := by rw [IntKind.wrap_i64]; omega
          have q4 : (0 : Int) ≤ (fl : Int) / 8 := by omega
          have q5 : ((fl : Int) / 8).toNat = fl / 8 := by omega
          have q6 : IntKind.i64.wrap ((fl : Int) % 8) = (fl : Int) % 8 := by rw [IntKind.wrap_i64]; omega
          have q7 : (0 : Int) ≤ (fl : Int) % 8 := by omega
          have q8 : ((fl : Int) % 8).toNat = fl % 8 := by omega
          refine wp_region_T #[[], [], [], [], [], [], [], [], [4], [4], [4]] [4] (fun w' => w'.cell? ⟨g, kept + fl / 8, none⟩ = some (.int .u8 (x.toNat : Int)) ∧ True) 11 rfl (by kernel_rfl) ?_
          (refine wpAnyT_free (i := 0) rfl (by kernel_rfl) rfl (fun _ _ _ h => h) (by kernel_rfl) (fun _ => by go_simp; try rfl) ?_; (try simp only [Act.put, List.setIfInBounds_toArray, List.set_cons_zero, List.set_cons_succ]))
          (refine wpAnyT_free (i := 1) rfl (by kernel_rfl) rfl (fun _ _ _ h => h) (by kernel_rfl) (fun _ => by go_simp; try rfl) ?_; (try simp only [Act.put, List.setIfInBounds_toArray, List.set_cons_zero, List.set_cons_succ]))
          (refine wpAnyT_free (i := 2) rfl (by kernel_rfl) rfl (fun _ _ _ h => h) (by kernel_rfl) (fun _ => by go_simp; try rfl) ?_; (try simp only [Act.put, List.setIfInBounds_toArray, List.set_cons_zero, List.set_cons_succ]))
          (refine wpAnyT_free (i := 3) rfl (by kernel_rfl) rfl (fun _ _ _ h => h) (by kernel_rfl) (fun _ => by go_simp; try rfl) ?_; (try simp only [Act.put, List.setIfInBounds_toArray, List.set_cons_zero, List.set_cons_succ]))
          (refine wpAnyT_read (i := 4) rfl (by kernel_rfl) rfl (fun _ _ _ h => h) (by kernel_rfl) (⟨hxc, trivial⟩) (fun w hS_ => by obtain ⟨s_1, s_2⟩ := hS_; go_simp; try rfl) ?_; (try simp only [Act.put, List.setIfInBounds_toArray, List.set_cons_zero, List.set_cons_succ]))
          (refine wpAnyT_free (i := 5) rfl (by kernel_rfl) rfl (fun _ _ _ h => h) (by kernel_rfl) (fun _ => by go_simp; try rfl) ?_; (try simp only [Act.put, List.setIfInBounds_toArray, List.set_cons_zero, List.set_cons_succ]))
          (refine wpAnyT_free (i := 6) rfl (by kernel_rfl) rfl (fun _ _ _ h => h) (by kernel_rfl) (fun _ => by go_simp; try rfl) ?_; (try simp only [Act.put, List.setIfInBounds_toArray, List.set_cons_zero, List.set_cons_succ]))
          (refine wpAnyT_free (i := 7) rfl (by kernel_rfl) rfl (fun _ _ _ h => h) (by kernel_rfl) (fun _ => by go_simp; try rfl) ?_; (try simp only [Act.put, List.setIfInBounds_toArray, List.set_cons_zero, List.set_cons_succ]))
          (refine wpAnyT_free (i := 8) rfl (by kernel_rfl) rfl (fun _ _ _ h => h) (by kernel_rfl) (fun _ => by go_simp; try rfl) ?_; (try simp only [Act.put, List.setIfInBounds_toArray, List.set_cons_zero, List.set_cons_succ]))
          (refine wpAnyT_free (i := 9) rfl (by kernel_rfl) rfl (fun _ _ _ h => h) (by kernel_rfl) (fun _ => by go_simp; try rfl) ?_; (try simp only [Act.put, List.setIfInBounds_toArray, List.set_cons_zero, List.set_cons_succ]))
          refine wpAnyT_sink (i := 10) rfl (by kernel_rfl) rfl (by kernel_rfl) ?_
          intro K_ hK_
          clear q3 q6; go_wp2
          (try (refine hK_ _ _ ?_; clear hK_ K_))
          (try simp only [Act.put, List.setIfInBounds_toArray, List.set_cons_zero, List.set_cons_succ])
          refine wpAnyT_done (by kernel_rfl) ?_ _
          go_wp2
          go_ret
          have et := torn_in all kept kn n fl x HN.out hk hfn Hx.out
          rw [H.out, et]
          rw [et] at hok'
          have eb := turn_bits x (fl % 8) (by omega)
          have hst := (hor3.stored (kept + fl / 8) (byteV (turnByte x (fl % 8)))).1
          rw [← List.map_set] at hst
          have F4 : Fr S w ((w3.setCell ⟨g, kept + fl / 8, none⟩ (byteV (turnByte x (fl % 8)))).drew.drew) :=
            ((F3.setCell (p := ⟨g, kept + fl / 8, none⟩) (.inr (Nat.le_trans F1.size hg1)) (notB_new (Nat.le_trans F1.size hg1)) _).drew).drew
          have hgb : b ≠ g := by have : w1.drew.heap.size = w1.heap.size := rfl
                                 omega
          have es : ((all.take (kept + n)).set (kept + fl / 8) (turnByte x (fl % 8))).length = kept + n := by rw [List.length_set, em]
          rw [eb]
          refine ⟨rfl, h.turned F4 (A' := some ⟨g, 0, none⟩) (D' := ⟨true, (all.take (kept + n)).set (kept + fl / 8) (turnByte x (fl % 8)), kept⟩) ?_ ?_ (by rw [es]; exact kc) hok', F4⟩
          · rw [es]
            have b4 := b3.far (p := ⟨g, kept + fl / 8, none⟩) hgb (byteV (turnByte x (fl % 8)))
            simpa using b4.drew.drew
          · exact Own.drew (Own.drew ((Own.of_row hst es.symm).up (S' := S) (W := w) fun x hx => .inr (Nat.le_trans F1.size hx)))
        · have q1 : (0 : Int) ≤ (fl : Int) := by omega
          have q2 : ¬ (fl : Int) / 8 < (n : Int) := by omega
          clear HA8
          go_wp2
          go_ret
          have et := torn_out all kept kn n fl HN.out hfn
          rw [H.out, et]
          rw [et] at hok'
          exact ⟨rfl, h.turned F3.drew (D' := ⟨true, all.take (kept + n), kept⟩) (by simpa [em] using b3.drew) (Own.drew ((Own.of_row (l := all.take (kept + n)) hor3 em.symm).up (S' := S) (W := w) fun x hx => .inr (Nat.le_trans F1.size hx))) (by rw [em]; exact kc) hok', F3.drew⟩
      · clear HA8
        go_wp2
        go_ret
        have et := torn_none all kept kn n flip HN.out (by omega)
        rw [H.out, et]
        rw [et] at hok'
        exact ⟨rfl, h.turned F3.drew (D' := ⟨true, all.take (kept + n), kept⟩) (by simpa [em] using b3.drew) (Own.drew ((Own.of_row (l := all.take (kept + n)) hor3 em.symm).up (S' := S) (W := w) fun x hx => .inr (Nat.le_trans F1.size hx))) (by rw [em]; exact kc) hok', F3.drew⟩
  · have e : (Dk.crash ⟨true, all, kept⟩ keep flip) = (⟨true, all, kept⟩, 10) := by simp [Dk.crash]
    have H := Lib.hid e
    clear e hok'
    go_enter Tryd.func91, Tryd.ntmps91
    go_wp2_with (go_at_call 117; refine (asked_at h).mono ?_; rintro e w' ⟨rfl, rfl⟩)
    go_ret
    rw [H.out]
    exact ⟨rfl, h.same, Fr.refl _ _⟩
end Go.Proofs.YtediidajdpdeiaaDoor
