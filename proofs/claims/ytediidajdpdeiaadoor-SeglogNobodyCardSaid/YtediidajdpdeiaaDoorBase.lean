/- Words for memory: what turned and what did not, bytes that are read, blocks that are known whole. No program is in sight but for the number of the type 'uint8'. -/
import Derived.Test.YtediidajdpdeiaaDoorProg
import Derived.WalkKit
import Derived.ProofKit
import Derived.BigQuiet
import Derived.Deep.QuietTactic
import Derived.Deep.RegionHeld3
import Derived.Deep.AppendLies
import Derived.Maps.AppendAt
import Derived.Deep.Draws
namespace Go.Proofs.YtediidajdpdeiaaDoor
open Go.RowKit

/-- the type uint8 -/
abbrev TB : TypeId := 5

def byteV (x : UInt8) : Value := .int .u8 (x.toNat : Int)

theorem add_block (a : Addr) (n : Nat) : (a.add n).block = a.block := by unfold Addr.add; split <;> rfl
theorem add_add' (a : Addr) (i j : Nat) : (a.add i).add j = a.add (i + j) := by
  unfold Addr.add
  by_cases hi : i = 0 <;> by_cases hj : j = 0 <;> simp [hi, hj, Nat.add_assoc]
theorem add_mk (b o n : Nat) : (⟨b, o, none⟩ : Addr).add n = ⟨b, o + n, none⟩ := by
  unfold Addr.add; split <;> simp_all

/-- block b is known whole -/
def Blk (w : World) (b : Nat) (t : TypeId) (cs : Array Value) : Prop := w.heap[b]? = some (.cells cs t (0, 0))

section
variable {w w' : World} {b : Nat} {t : TypeId} {cs : Array Value}
theorem Blk.lt (h : Blk w b t cs) : b < w.heap.size := (Array.getElem?_eq_some_iff.1 h).1
theorem Blk.cell (h : Blk w b t cs) (i : Nat) {v : Value} (hv : cs[i]? = some v) : w.cell? ⟨b, i, none⟩ = some v := by
  unfold Blk at h; simp [World.cell?, h, hv]
theorem Blk.frozen (h : Blk w b t cs) (i : Nat) : w.frozen? ⟨b, i, none⟩ = false := by
  unfold Blk at h
  simp [World.frozen?, h]
theorem Blk.new (w : World) (t : TypeId) (cs : Array Value) : Blk (w.alloc (.cells cs t)) w.heap.size t cs := heap_alloc_new w _
theorem Blk.new' (w : World) (t : TypeId) (cs : Array Value) {g : Nat} (h : w.heap.size = g) : Blk (w.alloc (.cells cs t)) g t cs := h ▸ heap_alloc_new w _
theorem Blk.setRow (h : Blk w b t cs) (g : Nat) (xs : Array Value) (hg : b ≠ g) : Blk (w.setRow g xs) b t cs := (setRow_other w g b xs hg).trans h
theorem Blk.drew (h : Blk w b t cs) : Blk w.drew b t cs := h
theorem Blk.drewN (h : Blk w b t cs) (n : Nat) : Blk (w.drewN n) b t cs := h
theorem Blk.alloc (h : Blk w b t cs) (o : Obj) : Blk (w.alloc o) b t cs := (Below.heap_alloc w o b h.lt).trans h
theorem Blk.set (h : Blk w b t cs) (i : Nat) (u : Value) : Blk (w.setCell ⟨b, i, none⟩ u) b t (cs.setIfInBounds i u) := by
  unfold Blk at h ⊢
  simp [World.setCell, Array.getElem?_modify, h]
theorem Blk.far (h : Blk w b t cs) {p : Addr} (hp : b ≠ p.block) (u : Value) : Blk (w.setCell p u) b t cs := (Below.heap_setCell w p u b hp).trans h
theorem Blk.eq (h : Blk w b t cs) (e : w'.heap[b]? = w.heap[b]?) : Blk w' b t cs := e.trans h
end

/-- block b is a row of bytes -/
def IsB (w : World) (b : Nat) : Prop := ∃ cs fz, w.heap[b]? = some (.cells cs TB fz)

/-- WHAT TURNED: no block outside S, and no row of bytes; there may be new blocks. -/
structure Fr (S : Nat → Prop) (w w' : World) : Prop where
  os : w'.os = w.os
  tape : w'.tape = w.tape
  output : w'.output = w.output
  size : w.heap.size ≤ w'.heap.size
  out : ∀ b, b < w.heap.size → ¬ S b → w'.heap[b]? = w.heap[b]?
  byt : ∀ b, IsB w b → w'.heap[b]? = w.heap[b]?

/-- S' is S with new blocks at most -/
def Gr (S : Nat → Prop) (w : World) (S' : Nat → Prop) : Prop := ∀ b, S' b → S b ∨ w.heap.size ≤ b

/-- the blocks that are new behind w -/
def New (w : World) : Nat → Prop := fun b => w.heap.size ≤ b
def Non : Nat → Prop := fun _ => False

section
variable {S S' : Nat → Prop} {w w1 w2 w' : World} {b : Nat}
theorem IsB.lt (h : IsB w b) : b < w.heap.size := by
  obtain ⟨cs, fz, h⟩ := h
  exact (Array.getElem?_eq_some_iff.1 h).1
theorem IsB.eq (h : IsB w b) (e : w'.heap[b]? = w.heap[b]?) : IsB w' b := by
  obtain ⟨cs, fz, h⟩ := h
  exact ⟨cs, fz, e.trans h⟩
theorem IsB.fr (h : IsB w b) (f : Fr S w w') : IsB w' b := h.eq (f.byt b h)
theorem Fr.refl (S : Nat → Prop) (w : World) : Fr S w w := ⟨rfl, rfl, rfl, Nat.le_refl _, fun _ _ _ => rfl, fun _ _ => rfl⟩
theorem Fr.trans' (h : Fr S w w1) (k : Fr S' w1 w2) (hs : ∀ b, b < w.heap.size → S' b → S b) : Fr S w w2 :=
  ⟨k.os.trans h.os, k.tape.trans h.tape, k.output.trans h.output, Nat.le_trans h.size k.size,
    fun b hb hn => (k.out b (Nat.lt_of_lt_of_le hb h.size) (fun hh => hn (hs b hb hh))).trans (h.out b hb hn),
    fun b hb => (k.byt b (hb.fr h)).trans (h.byt b hb)⟩
theorem Fr.trans (h : Fr S w w1) (k : Fr S' w1 w2) (hs : Gr S w S') : Fr S w w2 :=
  h.trans' k fun b hb hh => (hs b hh).resolve_right (by omega)
theorem Fr.mono (h : Fr S w w') (hs : ∀ b, b < w.heap.size → S b → S' b) : Fr S' w w' := ⟨h.os, h.tape, h.output, h.size, fun b hb hn => h.out b hb (fun hh => hn (hs b hb hh)), h.byt⟩
theorem Fr.drew (h : Fr S w w1) : Fr S w w1.drew := ⟨h.os, h.tape, h.output, h.size, h.out, h.byt⟩
theorem Fr.drewN (h : Fr S w w1) (n : Nat) : Fr S w (w1.drewN n) := ⟨h.os, h.tape, h.output, h.size, h.out, h.byt⟩
theorem Fr.alloc (h : Fr S w w1) (o : Obj) : Fr S w (w1.alloc o) :=
  h.trans' (S' := Non) ⟨rfl, rfl, rfl, by simp, fun b hb _ => Below.heap_alloc _ _ _ hb, fun b hb => Below.heap_alloc _ _ _ hb.lt⟩ (fun _ _ h => h.elim)
/-- a store into a cell of a block of S, or of a new one, that is no row of bytes that was there -/
theorem Fr.setCell (h : Fr S w w1) {p : Addr} (hp : S p.block ∨ w.heap.size ≤ p.block) (hb : ¬ IsB w p.block) (u : Value) : Fr S w (w1.setCell p u) :=
  ⟨h.os, h.tape, h.output, by have := h.size; simpa [World.setCell] using this,
    fun b hb' hn => by
      rw [Below.heap_setCell _ _ _ _ (by rintro rfl; exact hp.elim hn (fun hp => by omega))]
      exact h.out b hb' hn,
    fun b hb' => by
      rw [Below.heap_setCell _ _ _ _ (by rintro rfl; exact hb hb')]
      exact h.byt b hb'⟩
theorem Fr.of_below (h : Below w.heap.size w w') : Fr S w w' := ⟨h.os, h.tape, h.output, h.size, fun b hb _ => h.block b hb, fun b hb => h.block b hb.lt⟩
theorem Fr.below (h : Fr S w w') (hs : ∀ b, S b → w.heap.size ≤ b) : Below w.heap.size w w' := ⟨h.os, h.tape, h.output, h.size, fun b hb => h.out b hb fun hh => by have := hs b hh; omega⟩
theorem Blk.fr {t : TypeId} {cs : Array Value} (h : Blk w b t cs) (f : Fr S w w') (hs : ¬ S b) : Blk w' b t cs := h.eq (f.out b h.lt hs)
theorem Blk.notB {t : TypeId} {cs : Array Value} (h : Blk w b t cs) (ht : t ≠ TB) : ¬ IsB w b := by
  rintro ⟨cs', fz, h'⟩
  unfold Blk at h
  rw [h] at h'
  injection h' with h'
  injection h' with _ h'
  exact ht h'
theorem notB_new (h : w.heap.size ≤ b) : ¬ IsB w b := fun hh => by have := hh.lt; omega
theorem Blk.ne {t t' : TypeId} {b' : Nat} {cs cs' : Array Value} (h : Blk w b t cs) (h' : Blk w b' t' cs') (hne : t ≠ t') : b ≠ b' := by
  rintro rfl
  unfold Blk at h h'
  rw [h] at h'
  injection h' with h'
  injection h' with _ ht
  exact hne ht
theorem Gr.refl (S : Nat → Prop) (w : World) : Gr S w S := fun _ h => .inl h
theorem Gr.trans {S1 S2 : Nat → Prop} (h : Gr S w S1) (k : Gr S1 w1 S2) (hw : w.heap.size ≤ w1.heap.size) : Gr S w S2 := fun b hb => by
  rcases k b hb with hb | hb
  · exact h b hb
  · exact .inr (by omega)
end

/-- THE BYTES l ARE READ from A on; what is written in S does not turn them. -/
def Rd (S : Nat → Prop) (w : World) (A : Option Addr) (l : List UInt8) : Prop :=
  ∀ j x, l[j]? = some x → ∃ ad, A = some ad ∧ w.cell? (ad.add j) = some (byteV x) ∧ (¬ S ad.block ∨ IsB w ad.block)

/-- THE BYTES l ARE READ from A on, in a row of bytes of S. -/
def Own (S : Nat → Prop) (w : World) (A : Option Addr) (l : List UInt8) : Prop :=
  ∀ j x, l[j]? = some x → ∃ ad, A = some ad ∧ w.cell? (ad.add j) = some (byteV x) ∧ IsB w ad.block ∧ S ad.block

section
variable {S S' : Nat → Prop} {w w' : World} {A : Option Addr} {l : List UInt8}
theorem cell_eq {a : Addr} (e : w'.heap[a.block]? = w.heap[a.block]?) : w'.cell? a = w.cell? a := by simp [World.cell?, e]
theorem cell_lt {a : Addr} {v : Value} (h : w.cell? a = some v) : a.block < w.heap.size := World.block_lt_of_cell? w a h
theorem Rd.nil (S : Nat → Prop) (w : World) (A : Option Addr) : Rd S w A [] := fun j x h => by simp at h
theorem Own.nil (S : Nat → Prop) (w : World) (A : Option Addr) : Own S w A [] := fun j x h => by simp at h
theorem Rd.mono (h : Rd S w A l) (hs : ∀ b, b < w.heap.size → S' b → S b) : Rd S' w A l := fun j x hx => by
  obtain ⟨ad, e, hc, hb⟩ := h j x hx
  have hlt := cell_lt hc
  rw [add_block] at hlt
  exact ⟨ad, e, hc, hb.imp_left fun hn hh => hn (hs _ hlt hh)⟩
theorem Rd.fr (h : Rd S w A l) (f : Fr S w w') : Rd S w' A l := fun j x hx => by
  obtain ⟨ad, e, hc, hb⟩ := h j x hx
  have hlt := cell_lt hc
  rw [add_block] at hlt
  have he : w'.heap[ad.block]? = w.heap[ad.block]? := by
    rcases hb with hb | hb
    · exact f.out _ hlt hb
    · exact f.byt _ hb
  refine ⟨ad, e, (cell_eq (by rw [add_block]; exact he)).trans hc, hb.imp_right fun hb => hb.eq he⟩
theorem Own.fr (h : Own S w A l) (f : Fr S' w w') : Own S w' A l := fun j x hx => by
  obtain ⟨ad, e, hc, hb, hs⟩ := h j x hx
  have he := f.byt _ hb
  exact ⟨ad, e, (cell_eq (by rw [add_block]; exact he)).trans hc, hb.eq he, hs⟩
theorem Own.rd (h : Own S w A l) (S' : Nat → Prop) : Rd S' w A l := fun j x hx => by
  obtain ⟨ad, e, hc, hb, hs⟩ := h j x hx
  exact ⟨ad, e, hc, .inr hb⟩
theorem Own.mono (h : Own S w A l) (hs : ∀ b, S b → S' b) : Own S' w A l := fun j x hx => by
  obtain ⟨ad, e, hc, hb, h1⟩ := h j x hx
  exact ⟨ad, e, hc, hb, hs _ h1⟩
/-- S, and what is new -/
def Up (S : Nat → Prop) (w w' : World) : Nat → Prop := fun x => S x ∨ (w.heap.size ≤ x ∧ x < w'.heap.size)
/-- what is new alone -/
def Nw (w w' : World) : Nat → Prop := fun x => w.heap.size ≤ x ∧ x < w'.heap.size
/-- what one owns lies in the heap, so 'new' needs one bound alone -/
theorem Own.up {W : World} (h : Own S w A l) (hs : ∀ b, S b → S' b ∨ W.heap.size ≤ b) : Own (Up S' W w) w A l := fun j x hx => by
  obtain ⟨ad, e, hc, hb, h1⟩ := h j x hx
  exact ⟨ad, e, hc, hb, (hs _ h1).imp_right fun h2 => ⟨h2, hb.lt⟩⟩
theorem Rd.drew (h : Rd S w A l) : Rd S w.drew A l := h
theorem Own.drew (h : Own S w A l) : Own S w.drew A l := h
theorem Up_drew (S : Nat → Prop) (w w' : World) : Up S w w'.drew = Up S w w' := rfl
theorem Rd.drewN (h : Rd S w A l) (n : Nat) : Rd S (w.drewN n) A l := h
theorem Rd.take (h : Rd S w A l) (n : Nat) : Rd S w A (l.take n) := fun j x hx => by
  rw [List.getElem?_take] at hx
  split at hx
  · exact h j x hx
  · cases hx
theorem Own.take (h : Own S w A l) (n : Nat) : Own S w A (l.take n) := fun j x hx => by
  rw [List.getElem?_take] at hx
  split at hx
  · exact h j x hx
  · cases hx
/-- a slice from n on, in the walk's own spelling of its address -/
theorem Rd.drop (h : Rd S w A l) (n c : Nat) (hc : l.length ≤ c) : Rd S w (if c = n then A else A.map (·.add n)) (l.drop n) := fun j x hx => by
  rw [List.getElem?_drop] at hx
  obtain ⟨ad, rfl, hcell, hb⟩ := h _ x hx
  have hlt : n + j < l.length := (List.getElem?_eq_some_iff.1 hx).1
  rw [if_neg (by omega)]
  exact ⟨ad.add n, rfl, by rw [add_add']; exact hcell, by rw [add_block]; exact hb⟩
theorem Own.drop (h : Own S w A l) (n c : Nat) (hc : l.length ≤ c) : Own S w (if c = n then A else A.map (·.add n)) (l.drop n) := fun j x hx => by
  rw [List.getElem?_drop] at hx
  obtain ⟨ad, rfl, hcell, hb⟩ := h _ x hx
  have hlt : n + j < l.length := (List.getElem?_eq_some_iff.1 hx).1
  rw [if_neg (by omega)]
  exact ⟨ad.add n, rfl, by rw [add_add']; exact hcell, by rw [add_block]; exact hb⟩

/-- the cells of bytes that are read, as the kit's laws want them -/
theorem Rd.cells (h : Rd S w A l) {ad : Addr} (hA : A = some ad) : ∀ j u, (l.map byteV)[j]? = some u → w.cell? (ad.add j) = some u := by
  intro j u hu
  rw [List.getElem?_map] at hu
  cases hx : l[j]? with
  | none => rw [hx] at hu; cases hu
  | some x =>
    rw [hx] at hu
    obtain ⟨ad', rfl, hc, _⟩ := h j x hx
    injection hA with hA
    subst hA
    injection hu with hu
    rw [← hu]; exact hc
theorem byteV_one : ∀ u ∈ l.map byteV, u.oneCell' = true := by
  intro u hu
  obtain ⟨x, _, rfl⟩ := List.mem_map.1 hu
  rfl
/-- a new row, by the kit's word, is a row of bytes of one's own -/
theorem Own.of_row {base n c : Nat} (h : w.ownsRow base TB 1 (.slice A n c) n (l.map byteV)) (hn : n = l.length) : Own (fun b => base ≤ b) w A l := by
  intro j x hx
  have hlt : j < l.length := (List.getElem?_eq_some_iff.1 hx).1
  rcases h.2 with ⟨hv, h0⟩ | ⟨g, cap, cur, hv, hb, hg, hnc, hm, hs, ht⟩
  · omega
  · have hA : A = some ⟨g, 0, none⟩ := by injection hv
    refine ⟨⟨g, 0, none⟩, hA, ?_, ⟨cur, _, hg⟩, hb⟩
    refine h.cells (g := g) (by rw [hA]; rfl) j (byteV x) ?_
    rw [List.getElem?_map, hx]; rfl
end
end Go.Proofs.YtediidajdpdeiaaDoor
