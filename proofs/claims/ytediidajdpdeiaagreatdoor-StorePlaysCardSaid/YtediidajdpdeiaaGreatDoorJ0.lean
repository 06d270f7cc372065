/- What a disk is and does, as plain functions: no program is in sight. -/
import Derived.Test.YtediidajdpdeiaaGreatDoorProg
import Derived.WalkKit
import Derived.ProofKit
import Derived.BigQuiet
import Derived.Deep.QuietTactic
import Derived.Deep.RegionHeld3
import Derived.Deep.AppendLies
import Derived.Maps.AppendAt
import Derived.Deep.Draws
import Derived.WalkSpells
import Derived.WalkLawsBesides
import Derived.Lib.AppendZerosOnto
import Derived.Lib.SlBytesConst
import Derived.OrdersHeld
import Derived.Lib.Hide

namespace Go.Proofs.YtediidajdpdeiaaGreatDoor

/-- a disk that New made: is it down, its bytes, how many of them are kept -/
structure Dk where
  down : Bool
  all : List UInt8
  kept : Nat

/-- a bit of a byte is turned -/
def turnByte (x : UInt8) (k : Nat) : UInt8 := x ^^^ UInt8.ofNat (2 ^ k)
/-- bit i of bytes is turned, if it is there -/
def turn (l : List UInt8) (i : Nat) : List UInt8 := l.modify (i / 8) (fun x => turnByte x (i % 8))
/-- what a crash leaves of bytes that are not kept -/
def torn (l : List UInt8) (keep flip : Int) : List UInt8 := if 0 ≤ flip then turn (l.take keep.toNat) flip.toNat else l.take keep.toNat

namespace Dk
def new : Dk := ⟨false, [], 0⟩
def ok (D : Dk) : Prop := D.kept ≤ D.all.length ∧ D.all.length ≤ 4194304
def append (D : Dk) (b : List UInt8) : Dk × Int := if D.down then (D, 10) else if 4194304 < D.all.length + b.length then (D, 7) else (⟨false, D.all ++ b, D.kept⟩, 0)
def sync (D : Dk) : Dk × Int := if D.down then (D, 10) else (⟨false, D.all, D.all.length⟩, 0)
def cut (D : Dk) (n : Int) : Dk × Int := if D.down then (D, 10) else if n < 0 ∨ (D.all.length : Int) < n then (D, 2) else (⟨false, D.all.take n.toNat, n.toNat⟩, 0)
def swap (D : Dk) (b : List UInt8) : Dk × Int := if D.down then (D, 10) else if 4194304 < b.length then (D, 7) else (⟨false, b, b.length⟩, 0)
def crash (D : Dk) (keep flip : Int) : Dk × Int :=
  if D.down then (D, 10) else if keep < 0 then (D, 2) else (⟨true, D.all.take D.kept ++ torn (D.all.drop D.kept) keep flip, D.kept⟩, 0)
def restart (D : Dk) : Dk × Int := if D.down then (⟨false, D.all, D.all.length⟩, 0) else (D, 9)
def read (D : Dk) : List UInt8 × Int := if D.down then ([], 10) else (D.all, 0)
end Dk

theorem length_turn (l : List UInt8) (i : Nat) : (turn l i).length = l.length := by unfold turn; simp
theorem length_torn_le (l : List UInt8) (k f : Int) : (torn l k f).length ≤ l.length := by
  unfold torn
  split
  · rw [length_turn, List.length_take]; omega
  · rw [List.length_take]; omega
theorem length_torn (l : List UInt8) (k f : Int) : (torn l k f).length = min k.toNat l.length := by
  unfold torn
  split
  · rw [length_turn, List.length_take]
  · rw [List.length_take]

theorem take_torn (l : List UInt8) (kn n m : Nat) (hm : l.length = m) (hn : n = min kn m) : l.take kn = l.take n := by
  subst hn
  rcases Nat.le_total kn m with h | h
  · rw [Nat.min_eq_left h]
  · rw [Nat.min_eq_right h, List.take_of_length_le (by omega), List.take_of_length_le (by omega)]

theorem torn_none (all : List UInt8) (kept kn n : Nat) (flip : Int) (hn : n = min kn (all.length - kept)) (hf : flip < 0) :
    all.take kept ++ torn (all.drop kept) kn flip = all.take (kept + n) := by
  unfold torn
  rw [if_neg (by omega), Int.toNat_natCast, take_torn _ kn n _ (List.length_drop ..) hn, List.take_add]

theorem torn_out (all : List UInt8) (kept kn n fl : Nat) (hn : n = min kn (all.length - kept)) (hf : ¬ fl / 8 < n) :
    all.take kept ++ torn (all.drop kept) kn fl = all.take (kept + n) := by
  unfold torn turn
  rw [if_pos (by omega), Int.toNat_natCast, Int.toNat_natCast, take_torn _ kn n _ (List.length_drop ..) hn, List.take_add]
  congr 1
  apply List.modify_eq_self
  rw [List.length_take, List.length_drop]
  omega

theorem torn_in (all : List UInt8) (kept kn n fl : Nat) (x : UInt8) (hn : n = min kn (all.length - kept)) (hk : kept ≤ all.length) (_hf : fl / 8 < n) (hx : (all.take (kept + n))[kept + fl / 8]? = some x) :
    all.take kept ++ torn (all.drop kept) kn fl = (all.take (kept + n)).set (kept + fl / 8) (turnByte x (fl % 8)) := by
  unfold torn turn
  rw [if_pos (by omega), Int.toNat_natCast, Int.toNat_natCast, take_torn _ kn n _ (List.length_drop ..) hn]
  rw [List.take_add] at hx ⊢
  have hl : (all.take kept).length = kept := by rw [List.length_take]; omega
  rw [List.set_append_right _ _ (by omega), hl, Nat.add_sub_cancel_left]
  congr 1
  rw [List.getElem?_append_right (by omega), hl, Nat.add_sub_cancel_left] at hx
  apply List.ext_getElem?
  intro i
  rw [List.getElem?_modify, List.getElem?_set]
  by_cases h : fl / 8 = i
  · subst h
    rw [hx]
    have := (List.getElem?_eq_some_iff.1 hx).1
    rw [if_pos rfl, if_pos this]
    simp
  · simp [h]

namespace Dk
theorem ok_new : new.ok := ⟨by simp [new], by simp [new]⟩
theorem ok_append {D : Dk} (h : D.ok) (b : List UInt8) : (D.append b).1.ok := by
  unfold append ok at *
  split
  · exact h
  · split
    · exact h
    · simp only [List.length_append]; omega
theorem ok_sync {D : Dk} (h : D.ok) : D.sync.1.ok := by
  unfold sync ok at *
  split
  · exact h
  · simp only; omega
theorem ok_cut {D : Dk} (h : D.ok) (n : Int) : (D.cut n).1.ok := by
  unfold cut ok at *
  split
  · exact h
  · split
    · exact h
    · simp only [List.length_take]; omega
theorem ok_swap {D : Dk} (h : D.ok) (b : List UInt8) : (D.swap b).1.ok := by
  unfold swap ok at *
  split
  · exact h
  · split
    · exact h
    · simp only; omega
theorem ok_crash {D : Dk} (h : D.ok) (k f : Int) : (D.crash k f).1.ok := by
  unfold crash ok at *
  split
  · exact h
  · split
    · exact h
    · have := length_torn_le (D.all.drop D.kept) k f
      simp only [List.length_append, List.length_take, List.length_drop] at *; omega
theorem ok_restart {D : Dk} (h : D.ok) : D.restart.1.ok := by
  unfold restart ok at *
  split
  · simp only; omega
  · exact h
end Dk
end Go.Proofs.YtediidajdpdeiaaGreatDoor

/- Words for memory: what turned and what did not, bytes that are read, blocks that are known whole. No program is in sight but for the number of the type 'uint8'. -/
namespace Go.Proofs.YtediidajdpdeiaaGreatDoor
open Go.RowKit

/-- the type uint8 -/
abbrev TB : TypeId := 5

def byteV (x : UInt8) : Value := .int .u8 (x.toNat : Int)

theorem add_block (a : Addr) (n : Nat) : (a.add n).block = a.block := by unfold Addr.add; split <;> rfl
theorem add_add' (a : Addr) (i j : Nat) : (a.add i).add j = a.add (i + j) := by
  unfold Addr.add
  by_cases hi : i = 0 <;> by_cases hj : j = 0 <;> simp [hi, hj, Nat.add_assoc]
theorem add_mk (b o n : Nat) : (⟨b, o, none⟩ : Addr).add n = ⟨b, o + n, none⟩ := by
  unfold Addr.add; split <;> simp_all

/-- block b is known whole -/
def Blk (w : World) (b : Nat) (t : TypeId) (cs : Array Value) : Prop := w.heap[b]? = some (.cells cs t (0, 0))

section
variable {w w' : World} {b : Nat} {t : TypeId} {cs : Array Value}
theorem Blk.lt (h : Blk w b t cs) : b < w.heap.size := (Array.getElem?_eq_some_iff.1 h).1
theorem Blk.cell (h : Blk w b t cs) (i : Nat) {v : Value} (hv : cs[i]? = some v) : w.cell? ⟨b, i, none⟩ = some v := by
  unfold Blk at h; simp [World.cell?, h, hv]
theorem Blk.frozen (h : Blk w b t cs) (i : Nat) : w.frozen? ⟨b, i, none⟩ = false := by
  unfold Blk at h
  simp [World.frozen?, h]
theorem Blk.new (w : World) (t : TypeId) (cs : Array Value) : Blk (w.alloc (.cells cs t)) w.heap.size t cs := heap_alloc_new w _
theorem Blk.new' (w : World) (t : TypeId) (cs : Array Value) {g : Nat} (h : w.heap.size = g) : Blk (w.alloc (.cells cs t)) g t cs := h ▸ heap_alloc_new w _
theorem Blk.setRow (h : Blk w b t cs) (g : Nat) (xs : Array Value) (hg : b ≠ g) : Blk (w.setRow g xs) b t cs := (setRow_other w g b xs hg).trans h
theorem Blk.drew (h : Blk w b t cs) : Blk w.drew b t cs := h
theorem Blk.alloc (h : Blk w b t cs) (o : Obj) : Blk (w.alloc o) b t cs := (Below.heap_alloc w o b h.lt).trans h
theorem Blk.set (h : Blk w b t cs) (i : Nat) (u : Value) : Blk (w.setCell ⟨b, i, none⟩ u) b t (cs.setIfInBounds i u) := by
  unfold Blk at h ⊢
  simp [World.setCell, Array.getElem?_modify, h]
theorem Blk.far (h : Blk w b t cs) {p : Addr} (hp : b ≠ p.block) (u : Value) : Blk (w.setCell p u) b t cs := (Below.heap_setCell w p u b hp).trans h
theorem Blk.eq (h : Blk w b t cs) (e : w'.heap[b]? = w.heap[b]?) : Blk w' b t cs := e.trans h
end

/-- block b is a row of bytes -/
def IsB (w : World) (b : Nat) : Prop := ∃ cs fz, w.heap[b]? = some (.cells cs TB fz)

/-- WHAT TURNED: no block outside S, and no row of bytes; there may be new blocks. -/
structure Fr (S : Nat → Prop) (w w' : World) : Prop where
  os : w'.os = w.os
  tape : w'.tape = w.tape
  output : w'.output = w.output
  size : w.heap.size ≤ w'.heap.size
  out : ∀ b, b < w.heap.size → ¬ S b → w'.heap[b]? = w.heap[b]?
  byt : ∀ b, IsB w b → w'.heap[b]? = w.heap[b]?

/-- S' is S with new blocks at most -/
def Gr (S : Nat → Prop) (w : World) (S' : Nat → Prop) : Prop := ∀ b, S' b → S b ∨ w.heap.size ≤ b

/-- the blocks that are new behind w -/
def New (w : World) : Nat → Prop := fun b => w.heap.size ≤ b
def Non : Nat → Prop := fun _ => False

section
variable {S S' : Nat → Prop} {w w1 w2 w' : World} {b : Nat}
theorem IsB.lt (h : IsB w b) : b < w.heap.size := by
  obtain ⟨cs, fz, h⟩ := h
  exact (Array.getElem?_eq_some_iff.1 h).1
theorem IsB.eq (h : IsB w b) (e : w'.heap[b]? = w.heap[b]?) : IsB w' b := by
  obtain ⟨cs, fz, h⟩ := h
  exact ⟨cs, fz, e.trans h⟩
theorem IsB.fr (h : IsB w b) (f : Fr S w w') : IsB w' b := h.eq (f.byt b h)
theorem Fr.refl (S : Nat → Prop) (w : World) : Fr S w w := ⟨rfl, rfl, rfl, Nat.le_refl _, fun _ _ _ => rfl, fun _ _ => rfl⟩
theorem Fr.trans' (h : Fr S w w1) (k : Fr S' w1 w2) (hs : ∀ b, b < w.heap.size → S' b → S b) : Fr S w w2 :=
  ⟨k.os.trans h.os, k.tape.trans h.tape, k.output.trans h.output, Nat.le_trans h.size k.size,
    fun b hb hn => (k.out b (Nat.lt_of_lt_of_le hb h.size) (fun hh => hn (hs b hb hh))).trans (h.out b hb hn),
    fun b hb => (k.byt b (hb.fr h)).trans (h.byt b hb)⟩
theorem Fr.trans (h : Fr S w w1) (k : Fr S' w1 w2) (hs : Gr S w S') : Fr S w w2 :=
  h.trans' k fun b hb hh => (hs b hh).resolve_right (by omega)
theorem Fr.mono (h : Fr S w w') (hs : ∀ b, b < w.heap.size → S b → S' b) : Fr S' w w' := ⟨h.os, h.tape, h.output, h.size, fun b hb hn => h.out b hb (fun hh => hn (hs b hb hh)), h.byt⟩
theorem Fr.drew (h : Fr S w w1) : Fr S w w1.drew := ⟨h.os, h.tape, h.output, h.size, h.out, h.byt⟩
theorem Fr.alloc (h : Fr S w w1) (o : Obj) : Fr S w (w1.alloc o) :=
  h.trans' (S' := Non) ⟨rfl, rfl, rfl, by simp, fun b hb _ => Below.heap_alloc _ _ _ hb, fun b hb => Below.heap_alloc _ _ _ hb.lt⟩ (fun _ _ h => h.elim)
/-- a store into a cell of a block of S, or of a new one, that is no row of bytes that was there -/
theorem Fr.setCell (h : Fr S w w1) {p : Addr} (hp : S p.block ∨ w.heap.size ≤ p.block) (hb : ¬ IsB w p.block) (u : Value) : Fr S w (w1.setCell p u) :=
  ⟨h.os, h.tape, h.output, by have := h.size; simpa [World.setCell] using this,
    fun b hb' hn => by
      rw [Below.heap_setCell _ _ _ _ (by rintro rfl; exact hp.elim hn (fun hp => by omega))]
      exact h.out b hb' hn,
    fun b hb' => by
      rw [Below.heap_setCell _ _ _ _ (by rintro rfl; exact hb hb')]
      exact h.byt b hb'⟩
theorem Fr.of_below (h : Below w.heap.size w w') : Fr S w w' := ⟨h.os, h.tape, h.output, h.size, fun b hb _ => h.block b hb, fun b hb => h.block b hb.lt⟩
theorem Fr.below (h : Fr S w w') (hs : ∀ b, S b → w.heap.size ≤ b) : Below w.heap.size w w' := ⟨h.os, h.tape, h.output, h.size, fun b hb => h.out b hb fun hh => by have := hs b hh; omega⟩
theorem Blk.fr {t : TypeId} {cs : Array Value} (h : Blk w b t cs) (f : Fr S w w') (hs : ¬ S b) : Blk w' b t cs := h.eq (f.out b h.lt hs)
theorem Blk.notB {t : TypeId} {cs : Array Value} (h : Blk w b t cs) (ht : t ≠ TB) : ¬ IsB w b := by
  rintro ⟨cs', fz, h'⟩
  unfold Blk at h
  rw [h] at h'
  injection h' with h'
  injection h' with _ h'
  exact ht h'
theorem notB_new (h : w.heap.size ≤ b) : ¬ IsB w b := fun hh => by have := hh.lt; omega
theorem Blk.ne {t t' : TypeId} {b' : Nat} {cs cs' : Array Value} (h : Blk w b t cs) (h' : Blk w b' t' cs') (hne : t ≠ t') : b ≠ b' := by
  rintro rfl
  unfold Blk at h h'
  rw [h] at h'
  injection h' with h'
  injection h' with _ ht
  exact hne ht
theorem Gr.refl (S : Nat → Prop) (w : World) : Gr S w S := fun _ h => .inl h
theorem Gr.trans {S1 S2 : Nat → Prop} (h : Gr S w S1) (k : Gr S1 w1 S2) (hw : w.heap.size ≤ w1.heap.size) : Gr S w S2 := fun b hb => by
  rcases k b hb with hb | hb
  · exact h b hb
  · exact .inr (by omega)
end

/-- THE BYTES l ARE READ from A on; what is written in S does not turn them. -/
def Rd (S : Nat → Prop) (w : World) (A : Option Addr) (l : List UInt8) : Prop :=
  ∀ j x, l[j]? = some x → ∃ ad, A = some ad ∧ w.cell? (ad.add j) = some (byteV x) ∧ (¬ S ad.block ∨ IsB w ad.block)

/-- THE BYTES l ARE READ from A on, in a row of bytes of S. -/
def Own (S : Nat → Prop) (w : World) (A : Option Addr) (l : List UInt8) : Prop :=
  ∀ j x, l[j]? = some x → ∃ ad, A = some ad ∧ w.cell? (ad.add j) = some (byteV x) ∧ IsB w ad.block ∧ S ad.block

section
variable {S S' : Nat → Prop} {w w' : World} {A : Option Addr} {l : List UInt8}
theorem cell_eq {a : Addr} (e : w'.heap[a.block]? = w.heap[a.block]?) : w'.cell? a = w.cell? a := by simp [World.cell?, e]
theorem cell_lt {a : Addr} {v : Value} (h : w.cell? a = some v) : a.block < w.heap.size := World.block_lt_of_cell? w a h
theorem Rd.nil (S : Nat → Prop) (w : World) (A : Option Addr) : Rd S w A [] := fun j x h => by simp at h
theorem Own.nil (S : Nat → Prop) (w : World) (A : Option Addr) : Own S w A [] := fun j x h => by simp at h
theorem Rd.mono (h : Rd S w A l) (hs : ∀ b, b < w.heap.size → S' b → S b) : Rd S' w A l := fun j x hx => by
  obtain ⟨ad, e, hc, hb⟩ := h j x hx
  have hlt := cell_lt hc
  rw [add_block] at hlt
  exact ⟨ad, e, hc, hb.imp_left fun hn hh => hn (hs _ hlt hh)⟩
theorem Rd.fr (h : Rd S w A l) (f : Fr S w w') : Rd S w' A l := fun j x hx => by
  obtain ⟨ad, e, hc, hb⟩ := h j x hx
  have hlt := cell_lt hc
  rw [add_block] at hlt
  have he : w'.heap[ad.block]? = w.heap[ad.block]? := by
    rcases hb with hb | hb
    · exact f.out _ hlt hb
    · exact f.byt _ hb
  refine ⟨ad, e, (cell_eq (by rw [add_block]; exact he)).trans hc, hb.imp_right fun hb => hb.eq he⟩
theorem Own.fr (h : Own S w A l) (f : Fr S' w w') : Own S w' A l := fun j x hx => by
  obtain ⟨ad, e, hc, hb, hs⟩ := h j x hx
  have he := f.byt _ hb
  exact ⟨ad, e, (cell_eq (by rw [add_block]; exact he)).trans hc, hb.eq he, hs⟩
theorem Own.rd (h : Own S w A l) (S' : Nat → Prop) : Rd S' w A l := fun j x hx => by
  obtain ⟨ad, e, hc, hb, hs⟩ := h j x hx
  exact ⟨ad, e, hc, .inr hb⟩
theorem Own.mono (h : Own S w A l) (hs : ∀ b, S b → S' b) : Own S' w A l := fun j x hx => by
  obtain ⟨ad, e, hc, hb, h1⟩ := h j x hx
  exact ⟨ad, e, hc, hb, hs _ h1⟩
/-- S, and what is new -/
def Up (S : Nat → Prop) (w w' : World) : Nat → Prop := fun x => S x ∨ (w.heap.size ≤ x ∧ x < w'.heap.size)
/-- what is new alone -/
def Nw (w w' : World) : Nat → Prop := fun x => w.heap.size ≤ x ∧ x < w'.heap.size
/-- what one owns lies in the heap, so 'new' needs one bound alone -/
theorem Own.up {W : World} (h : Own S w A l) (hs : ∀ b, S b → S' b ∨ W.heap.size ≤ b) : Own (Up S' W w) w A l := fun j x hx => by
  obtain ⟨ad, e, hc, hb, h1⟩ := h j x hx
  exact ⟨ad, e, hc, hb, (hs _ h1).imp_right fun h2 => ⟨h2, hb.lt⟩⟩
theorem Rd.drew (h : Rd S w A l) : Rd S w.drew A l := h
theorem Own.drew (h : Own S w A l) : Own S w.drew A l := h
theorem Rd.take (h : Rd S w A l) (n : Nat) : Rd S w A (l.take n) := fun j x hx => by
  rw [List.getElem?_take] at hx
  split at hx
  · exact h j x hx
  · cases hx
theorem Own.take (h : Own S w A l) (n : Nat) : Own S w A (l.take n) := fun j x hx => by
  rw [List.getElem?_take] at hx
  split at hx
  · exact h j x hx
  · cases hx
/-- a slice from n on, in the walk's own spelling of its address -/
theorem Rd.drop (h : Rd S w A l) (n c : Nat) (hc : l.length ≤ c) : Rd S w (if c = n then A else A.map (·.add n)) (l.drop n) := fun j x hx => by
  rw [List.getElem?_drop] at hx
  obtain ⟨ad, rfl, hcell, hb⟩ := h _ x hx
  have hlt : n + j < l.length := (List.getElem?_eq_some_iff.1 hx).1
  rw [if_neg (by omega)]
  exact ⟨ad.add n, rfl, by rw [add_add']; exact hcell, by rw [add_block]; exact hb⟩
theorem Own.drop (h : Own S w A l) (n c : Nat) (hc : l.length ≤ c) : Own S w (if c = n then A else A.map (·.add n)) (l.drop n) := fun j x hx => by
  rw [List.getElem?_drop] at hx
  obtain ⟨ad, rfl, hcell, hb⟩ := h _ x hx
  have hlt : n + j < l.length := (List.getElem?_eq_some_iff.1 hx).1
  rw [if_neg (by omega)]
  exact ⟨ad.add n, rfl, by rw [add_add']; exact hcell, by rw [add_block]; exact hb⟩

/-- the cells of bytes that are read, as the kit's laws want them -/
theorem Rd.cells (h : Rd S w A l) {ad : Addr} (hA : A = some ad) : ∀ j u, (l.map byteV)[j]? = some u → w.cell? (ad.add j) = some u := by
  intro j u hu
  rw [List.getElem?_map] at hu
  cases hx : l[j]? with
  | none => rw [hx] at hu; cases hu
  | some x =>
    rw [hx] at hu
    obtain ⟨ad', rfl, hc, _⟩ := h j x hx
    injection hA with hA
    subst hA
    injection hu with hu
    rw [← hu]; exact hc
theorem byteV_one : ∀ u ∈ l.map byteV, u.oneCell' = true := by
  intro u hu
  obtain ⟨x, _, rfl⟩ := List.mem_map.1 hu
  rfl
/-- a new row, by the kit's word, is a row of bytes of one's own -/
theorem Own.of_row {base n c : Nat} (h : w.ownsRow base TB 1 (.slice A n c) n (l.map byteV)) (hn : n = l.length) : Own (fun b => base ≤ b) w A l := by
  intro j x hx
  have hlt : j < l.length := (List.getElem?_eq_some_iff.1 hx).1
  rcases h.2 with ⟨hv, h0⟩ | ⟨g, cap, cur, hv, hb, hg, hnc, hm, hs, ht⟩
  · omega
  · have hA : A = some ⟨g, 0, none⟩ := by injection hv
    refine ⟨⟨g, 0, none⟩, hA, ?_, ⟨cur, _, hg⟩, hb⟩
    refine h.cells (g := g) (by rw [hA]; rfl) j (byteV x) ?_
    rw [List.getElem?_map, hx]; rfl
end
end Go.Proofs.YtediidajdpdeiaaGreatDoor

/- append, copy, slices.Clone and slices.Grow at lists of bytes, as laws for walks. -/
namespace Go.Proofs.YtediidajdpdeiaaGreatDoor
open Go.RowKit

section
variable {P : Program} {w w' W : World}

theorem wpList_ran {ops : Array Oper} {rest : List Oper} {o : Oper} {a : Act} {Q : Exit → Act → World → Prop} (hgd : o.guard = none) {v : Value}
    (h : (execOp a.eval o).run P w = .ok (.value v) w') (k : wpList P ops Q rest (a.put o.dst v) w') : wpList P ops Q (o :: rest) a w := by
  refine wpList_plain hgd fun K hK => ?_
  unfold Oper.wp
  rw [h]
  exact hK _ _ k

theorem run_builtin2 {o : Oper} {a : Act} (b : Builtin) (x y : Operand) (t u : TypeId) {vx vy r : Value} (f : Array TypeId → TypeId → Array Value → Sem Value)
    (ho : o.op = .call { callee := .builtin b, args := #[x, y], argTypes := #[t, u] }) (hx : a.eval x = vx) (hy : a.eval y = vy)
    (hb : ∀ cs vs, builtin b #[t, u] o.type cs vs = (do pure (.value (← f #[t, u] o.type vs)))) (h : (f #[t, u] o.type #[vx, vy]).run P w = .ok r w') :
    (execOp a.eval o).run P w = .ok (.value r) w' := by
  unfold execOp
  simp only [ho, resolve, invoke, Sem.run_bind, Sem.run_pure, Result.andThen_ok, List.map_toArray, List.map_cons, List.map_nil, hx, hy, hb, h]

theorem run_append_zero (t ty e : TypeId) (i : TypeInfo) (ht : P.underlying t = some (.slice e)) (hi : P.info? e = some i)
    (A B : Option Addr) (n c d : Nat) (hn : n ≤ c) : (Builtin.append_ #[t, t] ty #[.slice A n c, .slice B 0 d]).run P w = .ok (.slice A n c) w := by
  have h0 : n + 0 ≤ c := by omega
  cases A <;> cases B <;> simp [Builtin.append_, run_underlying ht, sizeOf, typeInfo, hi, Builtin.lenOf, Builtin.firstCells, hn, loadCells, loadCellsFrom, storeCells]

theorem run_append_rd (base : Nat) (t ty e : TypeId) (i : TypeInfo) (z : Value) (size bytes : Nat) (ht : P.underlying t = some (.slice e)) (hi : P.info? e = some i) (hz : i.zero = some z)
    (hsize : i.size = size) (hby : i.bytes = bytes) (hzs : z.cells.size = size) (hsz : 0 < size)
    (v : Value) (n : Nat) (xs : List Value) (hown : w.ownsRow base e size v n xs)
    (A : Option Addr) (m c : Nat) (news : List Value) (hl : news.length = m * size) (hr : ∀ j u, news[j]? = some u → ∃ ad, A = some ad ∧ w.cell? (ad.add j) = some u) (h1 : ∀ u ∈ news, u.oneCell' = true)
    (h63 : n + m ≤ maxLen) (hbytes : (n + m) * bytes ≤ 140737488355328) (hbase : base ≤ w.heap.size) :
    ∃ v' w', (Builtin.append_ #[t, t] ty #[v, .slice A m c]).run P w = .ok v' w' ∧ w'.ownsRow base e size v' (n + m) (xs ++ news) ∧ w.grownBy w' v.ownBlock ∧
      (v'.ownBlock = v.ownBlock ∨ v'.ownBlock = some w.heap.size) := by
  rcases Nat.eq_zero_or_pos m with h0 | h0
  · subst h0
    have hn : news = [] := List.eq_nil_of_length_eq_zero (by simpa using hl)
    subst hn
    rcases hown.2 with ⟨rfl, rfl⟩ | ⟨g, cap, cur, rfl, _, _, hnc, _⟩
    · exact ⟨_, w, run_append_zero t ty e i ht hi _ _ _ _ _ (Nat.le_refl _), by simpa using hown, ⟨rfl, rfl, rfl, Nat.le_refl _, fun _ _ _ => rfl⟩, .inl rfl⟩
    · exact ⟨_, w, run_append_zero t ty e i ht hi _ _ _ _ _ hnc, by simpa using hown, ⟨rfl, rfl, rfl, Nat.le_refl _, fun _ _ _ => rfl⟩, .inl rfl⟩
  · have hpos : 0 < news.length := by rw [hl]; exact Nat.mul_pos h0 hsz
    obtain ⟨ad, rfl, _⟩ := hr 0 _ (List.getElem?_eq_getElem hpos)
    have hc : ∀ j u, news[j]? = some u → w.cell? (ad.add j) = some u := by
      intro j u hu
      obtain ⟨ad', e, h⟩ := hr j u hu
      injection e with e
      rw [e]; exact h
    obtain ⟨v', w', hrun, h2, h3, _, h5⟩ := run_append_own_at (P := P) w base t ty e i z size bytes ht hi hz hsize hby hzs hsz v n xs hown ad m c news hl hc h1 h63 hbytes hbase
    exact ⟨v', w', hrun, h2, h3, h5⟩

theorem Fr.grown {S : Nat → Prop} {row : Option Nat} (h : Fr S W w) (hg : w.grownBy w' row) (hr : ∀ k, row = some k → W.heap.size ≤ k) : Fr S W w' :=
  ⟨hg.os.trans h.os, hg.tape.trans h.tape, hg.output.trans h.output, Nat.le_trans h.size hg.size,
    fun b hb hn => (hg.block b (Nat.lt_of_lt_of_le hb h.size) (fun e => by have := hr b e.symm; omega)).trans (h.out b hb hn),
    fun b hb => (hg.block b (Nat.lt_of_lt_of_le hb.lt h.size) (fun e => by have := hr b e.symm; have := hb.lt; omega)).trans (h.byt b hb)⟩

/-- what an append of bytes onto a row of one's own leaves -/
theorem wpList_appB {ops : Array Oper} {rest : List Oper} {o : Oper} {a : Act} {Q : Exit → Act → World → Prop} (hgd : o.guard = none) (s x : Operand) (t : TypeId)
    (ho : o.op = .call { callee := .builtin .append, args := #[s, x], argTypes := #[t, t] }) {P : Program}
    (i : TypeInfo) (ht : P.underlying t = some (.slice TB)) (hi : P.info? TB = some i) (hz : i.zero = some (.int .u8 0)) (hsize : i.size = 1) (hby : i.bytes = 1)
    (base : Nat) (v : Value) (n : Nat) (xs : List UInt8) (hs : a.eval s = v) (hown : w.ownsRow base TB 1 v n (xs.map byteV))
    (S : Nat → Prop) (A : Option Addr) (m c : Nat) (l : List UInt8) (hx : a.eval x = .slice A m c) (hl : l.length = m) (hr : Rd S w A l)
    (hbytes : n + m ≤ 140737488355328) (hbase : base ≤ w.heap.size)
    (h : ∀ v' w', w'.ownsRow base TB 1 v' (n + m) ((xs ++ l).map byteV) → w.grownBy w' v.ownBlock → (v'.ownBlock = v.ownBlock ∨ v'.ownBlock = some w.heap.size) → wpList P ops Q rest (a.put o.dst v') w') :
    wpList P ops Q (o :: rest) a w := by
  obtain ⟨v', w', hrun, h2, h3, h5⟩ := run_append_rd (P := P) (w := w) base t o.type TB i (.int .u8 0) 1 1 ht hi hz hsize hby rfl (by omega) v n (xs.map byteV) hown A m c (l.map byteV) (by simp [hl])
    (fun j u hu => by
      rw [List.getElem?_map] at hu
      cases hj : l[j]? with
      | none => rw [hj] at hu; cases hu
      | some y =>
        rw [hj] at hu
        obtain ⟨ad, e, hc, _⟩ := hr j y hj
        injection hu with hu
        exact ⟨ad, e, by rw [← hu]; exact hc⟩) byteV_one (by simp only [maxLen]; omega) (by omega) hbase
  rw [← List.map_append] at h2
  exact wpList_ran hgd (run_builtin2 .append s x t t Builtin.append_ ho hs hx (fun _ _ => rfl) hrun) (h v' w' h2 h3 h5)
end

/-- copy of bytes into a row: the whole source fits -/
theorem wpList_copyB {P : Program} {w : World} {ops : Array Oper} {rest : List Oper} {o : Oper} {a : Act} {Q : Exit → Act → World → Prop} (hgd : o.guard = none) (s x : Operand) (t : TypeId)
    (ho : o.op = .call { callee := .builtin .copy, args := #[s, x], argTypes := #[t, t] })
    (i : TypeInfo) (ht : P.underlying t = some (.slice TB)) (hi : P.info? TB = some i) (hsize : i.size = 1)
    (X : Option Addr) (dl dc : Nat) (hs : a.eval s = .slice X dl dc) (g off : Nat) (cur : Array Value) (fr : w.heap[g]? = some (.cells cur TB (0, 0)))
    (S : Nat → Prop) (A : Option Addr) (m c : Nat) (l : List UInt8) (hx : a.eval x = .slice A m c) (hl : l.length = m) (hr : Rd S w A l)
    (hX : 0 < m → X = some ⟨g, off, none⟩) (hdl : dl = m) (hfit : off + m ≤ cur.size)
    (h : wpList P ops Q rest (a.put o.dst (goInt m)) (w.setRow g (cur.toList.take off ++ l.map byteV ++ cur.toList.drop (off + m)).toArray)) :
    wpList P ops Q (o :: rest) a w := by
  subst hdl
  have hrun : (Builtin.copy_ #[t, t] o.type #[.slice X dl dc, .slice A dl c]).run P w = .ok (goInt dl) (w.setRow g (cur.toList.take off ++ l.map byteV ++ cur.toList.drop (off + dl)).toArray) := by
    rcases Nat.eq_zero_or_pos dl with h0 | h0
    · subst h0
      obtain rfl := List.eq_nil_of_length_eq_zero hl
      have e : (cur.toList.take off ++ ([] : List UInt8).map byteV ++ cur.toList.drop (off + 0)).toArray = cur := by simp
      rw [e, setRow_self w g cur TB (0, 0) fr]
      cases X <;> cases A <;> simp [Builtin.copy_, run_underlying ht, Builtin.lenOf, Builtin.firstCells, sizeOf, typeInfo, hi, storeCells, loadCells, loadCellsFrom]
    · obtain rfl := hX h0
      have hpos : 0 < l.length := by omega
      obtain ⟨ad, rfl, _⟩ := hr 0 _ (List.getElem?_eq_getElem hpos)
      have := run_copy_row (P := P) w t t o.type TB g off dl dc ad dl c cur TB (l.map byteV) ht (by rw [hi]; simp [hsize]) fr (by simp [hl]) (hr.cells rfl) (by simp [hl]; omega) byteV_one
      simpa [hl] using this
  exact wpList_ran hgd (run_builtin2 .copy s x t t Builtin.copy_ ho hs hx (fun _ _ => rfl) hrun) h

theorem run_copy_zero {P : Program} (t ty : TypeId) (i : TypeInfo) (ht : P.underlying t = some (.slice TB)) (hi : P.info? TB = some i) (X A : Option Addr) (c d : Nat) (w : World) :
    (Builtin.copy_ #[t, t] ty #[.slice X 0 c, .slice A 0 d]).run P w = .ok (.int .i64 0) w := by
  cases X <;> cases A <;> simp [Builtin.copy_, run_underlying ht, Builtin.lenOf, Builtin.firstCells, sizeOf, typeInfo, hi, storeCells, loadCells, loadCellsFrom, goInt]

theorem Fr.setRow {S : Nat → Prop} {W w : World} (h : Fr S W w) (g : Nat) (hg : W.heap.size ≤ g) (cs : Array Value) : Fr S W (w.setRow g cs) :=
  ⟨h.os, h.tape, h.output, by have := h.size; simpa [World.setRow] using this,
    fun b hb hn => (setRow_other w g b cs (by omega)).trans (h.out b hb hn),
    fun b hb => (setRow_other w g b cs (by have := hb.lt; omega)).trans (h.byt b hb)⟩

/-- a row whose first cells are bytes -/
theorem Own.of_cells {w : World} {g : Nat} {cs : Array Value} {fz : Nat × Nat} {l : List UInt8} (S : Nat → Prop) (h : w.heap[g]? = some (.cells cs TB fz)) (hs : S g) (hl : cs.toList.take l.length = l.map byteV) :
    Own S w (some ⟨g, 0, none⟩) l := by
  intro j x hx
  have hlt : j < l.length := (List.getElem?_eq_some_iff.1 hx).1
  refine ⟨_, rfl, ?_, ⟨cs, fz, h⟩, hs⟩
  have e : (cs.toList.take l.length)[j]? = some (byteV x) := by rw [hl, List.getElem?_map, hx]; rfl
  rw [List.getElem?_take, if_pos hlt] at e
  rw [add_mk, Nat.zero_add]
  simp only [World.cell?, h]
  simpa using e

theorem info_u8 : (Tryz.prog.info? TB).map (fun i => (i.zero, i.size, i.bytes)) = some (some (.int .u8 0), 1, 1) := by kernel_rfl

/-- a row of no bytes, just made -/
theorem ownsB_none (w : World) : (w.alloc (.cells #[] TB)).ownsRow w.heap.size TB 1 (.slice (some ⟨w.heap.size, 0, none⟩) 0 0) 0 (([] : List UInt8).map byteV) :=
  World.ownsRow_made w #[] 0 (Nat.le_refl _) (by simp [maxLen]) (by simp)

theorem own_val {w : World} {base n : Nat} {v : Value} {xs : List Value} {e : TypeId} {sz : Nat} (h : w.ownsRow base e sz v n xs) : ∃ A c, v = .slice A n c ∧ n ≤ c ∧ c ≤ maxLen := by
  rcases h.2 with ⟨rfl, rfl⟩ | ⟨g, cap, cur, rfl, _, _, hc, hm, _⟩
  · exact ⟨_, _, rfl, Nat.le_refl _, Nat.zero_le _⟩
  · exact ⟨_, _, rfl, hc, hm⟩

/-- WHAT slices.Clone LEAVES: a new row of the same bytes, nil for nil -/
def Cloned (w : World) (l : List UInt8) (e : Ending) (w' : World) : Prop :=
  ∃ A' c', e = .returned (.slice A' l.length c') ∧ w'.ownsRow w.heap.size TB 1 (.slice A' l.length c') l.length (l.map byteV) ∧ l.length ≤ c' ∧ c' ≤ maxLen ∧ Below w.heap.size w w'

theorem Rd.none_ {S : Nat → Prop} {w : World} {l : List UInt8} (h : Rd S w none l) : l = [] := by
  cases l with
  | nil => rfl
  | cons x l => obtain ⟨ad, e, _⟩ := h 0 x rfl; cases e

theorem cloned_of {w w1 : World} (l : List UInt8) {v1 : Value} (hown : w1.ownsRow w.heap.size TB 1 v1 l.length (l.map byteV))
    (hg : (w.alloc (.cells #[] TB)).grownBy w1 (some w.heap.size)) : Cloned w l (.returned v1) w1 := by
  obtain ⟨A', c', rfl, hc, hm⟩ := own_val hown
  exact ⟨A', c', rfl, hown, hc, hm, ((Below.refl _ _).alloc (Nat.le_refl _) _).grown hg (by simp) (by rintro k ⟨⟩; exact Nat.le_refl _)⟩

theorem Own.of_row' {w w' : World} {A : Option Addr} {c : Nat} {l : List UInt8} (h : w'.ownsRow w.heap.size TB 1 (.slice A l.length c) l.length (l.map byteV)) : Own (New w) w' A l := Own.of_row h rfl

theorem clone_B (S : Nat → Prop) (A : Option Addr) (l : List UInt8) (c : Nat) (w : World) (hr : Rd S w A l) (hl : l.length ≤ 70368744177664) :
    Calls Tryz.prog 56 #[.slice A l.length c] w (Cloned w l) := by
  obtain ⟨i, hi, hz, hs, hb⟩ := info_parts info_u8
  rcases A with _ | ad
  · obtain rfl := hr.none_
    have hnil := fun (w : World) => Lib.run_eql_slice_nil w (P := Tryz.prog) 30 TB none 0 c 0 0 Tryz.underlying30
    show Calls _ _ #[.slice none 0 c] w _
    go_enter Tryz.func56, Tryz.ntmps56
    go_wp2
    go_ret
    exact ⟨_, _, rfl, World.ownsRow_nil _ _ _ _, Nat.le_refl _, Nat.zero_le _, Below.refl _ _⟩
  · have hnil := fun (w : World) => Lib.run_eql_slice_nil w (P := Tryz.prog) 30 TB (some ad) l.length c 0 0 Tryz.underlying30
    go_enter Tryz.func56, Tryz.ntmps56
    go_wp2_with (at_builtin
                 refine wpList_appB rfl (.tmp 5) (.tmp 6) 30 rfl i Tryz.underlying30 hi hz hs hb w.heap.size _ 0 [] rfl (ownsB_none w) Non (some ad) l.length c l rfl rfl (((hr.mono (fun _ _ h => h.elim)).fr ((Fr.refl _ _).alloc _))) (by omega) (by simp) ?_
                 intro v1 w1 hown hgrow hat)
    go_ret
    exact cloned_of l (by simpa using hown) hgrow

/-- WHAT slices.Grow LEAVES of a slice without room, for m bytes more, m at least one: a new row, whose first bytes are the slice's, and which has room. -/
def Grew (w : World) (l : List UInt8) (m : Nat) (e : Ending) (w' : World) : Prop :=
  ∃ c cur, e = .returned (.slice (some ⟨w.heap.size, 0, none⟩) l.length c) ∧ l.length + m ≤ c ∧ c ≤ maxLen ∧ cur.size = c ∧ cur.toList.take l.length = l.map byteV ∧ w' = w.drew.alloc (.cells cur TB)

set_option maxRecDepth 100000 in
theorem grow_B (S : Nat → Prop) (A : Option Addr) (l : List UInt8) (m : Nat) (w : World) (hr : Rd S w A l) (hm : 0 < m) (hl : l.length + m ≤ 70368744177664) :
    Calls Tryz.prog 149 #[.slice A l.length l.length, .int .i64 m] w (Grew w l m) := by
  obtain ⟨i, hi, hz, hs, hb⟩ := info_parts info_u8
  have hf : (Builtin.firstCells i.size l.length (.slice A l.length l.length)).run Tryz.prog w.drew = .ok (l.map byteV).toArray w.drew := by
    rcases A with _ | ad
    · obtain rfl := hr.none_
      simp [Builtin.firstCells]
    · exact run_firstCells_some (P := Tryz.prog) w.drew i.size l.length ad l.length l.length (l.map byteV) (by simp [hs]) (by simpa using hr.cells rfl)
  have hc1 := grownCap_ge w (l.length + m) l.length TB
  have hc2 := grownCap_le_maxLen w (l.length + m) l.length TB (by simp only [maxLen]; omega)
  have hrun := Lib.run_append_grow_zeros (P := Tryz.prog) w 30 3 30 TB i _ .i64 .i64 Tryz.underlying30 Tryz.underlying3 hi hz A l.length l.length (l.map byteV) hf m hm (by omega) (by omega) (by omega) (by rw [hb]; omega) (growslice_fits (by omega) (by rw [hb]; omega))
  go_enter Tryz.func149, Tryz.ntmps149
  go_wp2_with (at_builtin
               refine wpList_ran rfl (run_builtin2 .append (.tmp 20) (.tmp 21) 30 3 Builtin.append_ rfl rfl rfl (fun _ _ => rfl) hrun) ?_)
  go_ret
  refine ⟨_, _, rfl, hc1, hc2, ?_, ?_, rfl⟩
  · simp [size_zeroCells]; omega
  · simp

theorem grow_zero (A : Option Addr) (n : Nat) (w : World) (_hn : n ≤ 70368744177664) :
    Calls Tryz.prog 149 #[.slice A n n, .int .i64 0] w fun e w' => e = .returned (.slice A n n) ∧ w = w' := by
  go_enter Tryz.func149, Tryz.ntmps149
  go_wp2
  go_ret
  exact ⟨rfl, rfl⟩
end Go.Proofs.YtediidajdpdeiaaGreatDoor

/- Bytes as texts. -/
namespace Go.Proofs.YtediidajdpdeiaaGreatDoor
open Go.RowKit

/-- bytes as a text -/
abbrev str (l : List UInt8) : Value := .string ⟨l.toArray⟩

theorem foldl_push_nat (l : List UInt8) : ∀ s : ByteArray, (l.map fun x => (x.toNat : Int)).foldl (fun r n => r.push (UInt8.ofNat n.toNat)) s = ⟨s.data ++ l.toArray⟩ := by
  induction l with
  | nil => intro s; simp
  | cons x l ih =>
    intro s
    rw [List.map_cons, List.foldl_cons, ih]
    congr 1
    simp [ByteArray.push]

/-- string(b) -/
theorem run_str {S : Nat → Prop} {w : World} {A : Option Addr} {l : List UInt8} (hr : Rd S w A l) (c : Nat) :
    (convert 30 9 (.slice A l.length c)).run Tryz.prog w = .ok (str l) w := by
  rw [run_convert_bytes_string (P := Tryz.prog) w 30 9 TB A l.length c Tryz.underlying30 Tryz.underlying5 Tryz.underlying9]
  rcases A with _ | ad
  · obtain rfl := hr.none_
    simp [Conv.bytesToString, str, ByteArray.empty, ByteArray.emptyWithCapacity]; rfl
  · have h1 := run_loadCells_list (P := Tryz.prog) w ad (l.map byteV) (hr.cells rfl)
    rw [List.length_map] at h1
    rw [run_bytesToString (P := Tryz.prog) w ad l.length c (l.map fun x => (x.toNat : Int)) (by rw [h1, List.map_map]; rfl), foldl_push_nat]
    simp [str, ByteArray.empty, ByteArray.emptyWithCapacity]; rfl

end Go.Proofs.YtediidajdpdeiaaGreatDoor

/- A region that draws its order, walked in one order: what touches no memory, or reads it where nothing that could come before writes there, may be taken first; an effect that is the only one to come up is carried out. What is read is known by S; what does not wait for all that reads must keep S. -/
namespace Go.Proofs.YtediidajdpdeiaaGreatDoor
open Go.RowKit

/-! three of Lean's laws, by short names -/
theorem sA {α : Type} (l : List α) (i : Nat) (a : α) : l.toArray.setIfInBounds i a = (l.set i a).toArray := List.setIfInBounds_toArray l i a
theorem sB {α : Type} (x : α) (l : List α) (a : α) : (x :: l).set 0 a = a :: l := List.set_cons_zero ..
theorem sC {α : Type} (x : α) (l : List α) (n : Nat) (a : α) : (x :: l).set (n + 1) a = x :: l.set n a := List.set_cons_succ ..


section
variable {P : Program} {ops : Array Oper} {Q : Exit → Act → World → Prop} {md : Region.Mode} {S : World → Prop}

/-- what j waits for, by edges of its own or of those -/
abbrev Anc := Array (List Nat)
def Oper.on (md : Region.Mode) (o : Oper) (r : Nat) : Bool := o.after.any fun e => Region.binds md e && e.on == r
/-- the table is right: all that it names is waited for -/
def ancOk (md : Region.Mode) (ops : Array Oper) (T : Anc) : Bool :=
  (List.range ops.size).all fun j => match ops[j]? with
    | some o => (T.getD j []).all fun r => Oper.on md o r || o.after.any fun e => Region.binds md e && (T.getD e.on []).contains r
    | none => true
/-- something that reads may come up behind j -/
def needs (T : Anc) (R : List Nat) (j : Nat) : Bool := R.any fun r => r != j && !(T.getD j []).contains r
/-- with each that has come up, all that it waits for has -/
def Closed (T : Anc) (listed : Array Bool) : Prop := ∀ j, listed.getD j false = true → ∀ r ∈ T.getD j [], listed.getD r false = true

/-- whatever order is picked from here on; S is kept where it is needed -/
def wpAnyT (P : Program) (md : Region.Mode) (ops : Array Oper) (Q : Exit → Act → World → Prop) (T : Anc) (R : List Nat) (S : World → Prop) : Nat → Array Bool → Act → World → Prop
  | 0, listed, a, w => Region.ready md ops listed = [] ∧ Q .normal a w
  | fuel + 1, listed, a, w =>
    (Region.ready md ops listed = [] → Q .normal a w) ∧
    ∀ i ∈ Region.ready md ops listed, wpOp P ops Q i (fun a' w' => (needs T R i = true → S w → S w') ∧ wpAnyT P md ops Q T R S fuel (listed.setIfInBounds i true) a' w') a w

variable {R : List Nat} {T : Anc}

theorem wpAny_of_T : ∀ (fuel : Nat) (listed : Array Bool) (a : Act) (w : World), wpAnyT P md ops Q T R S fuel listed a w → wpAny P md ops Q fuel listed a w
  | 0, _, _, _, h => h
  | fuel + 1, _, _, _, h => ⟨h.1, fun i hi => wpOp_mono (fun a' w' h' => wpAny_of_T fuel _ a' w' h'.2) (h.2 i hi)⟩

/-- what may come up has all that it waits for behind it -/
theorem Closed.ready {listed : Array Bool} (hT : ancOk md ops T = true) (hc : Closed T listed) {j : Nat} (hj : j ∈ Region.ready md ops listed) : ∀ r ∈ T.getD j [], listed.getD r false = true := by
  obtain ⟨_, oj, hoj, hall⟩ := mem_ready.1 hj
  intro r hr
  unfold ancOk at hT
  rw [List.all_eq_true] at hT
  have h1 := hT j (List.mem_range.2 (Array.getElem?_eq_some_iff.1 hoj).1)
  rw [hoj] at h1
  simp only [List.all_eq_true] at h1
  have h2 := h1 r hr
  rw [Bool.or_eq_true] at h2
  rcases h2 with h2 | h2
  · obtain ⟨e, he, hb⟩ := Array.any_eq_true'.1 h2
    simp only [Bool.and_eq_true, beq_iff_eq] at hb
    rw [← hb.2]
    exact hall e he hb.1
  · obtain ⟨e, he, hb⟩ := Array.any_eq_true'.1 h2
    simp only [Bool.and_eq_true, List.contains_iff_mem] at hb
    exact hc e.on (hall e he hb.1) r hb.2

theorem Closed.set {listed : Array Bool} (hT : ancOk md ops T = true) (hc : Closed T listed) {j : Nat} (hj : j ∈ Region.ready md ops listed) : Closed T (listed.setIfInBounds j true) := by
  intro k hk r hr
  have hmono : ∀ x, listed.getD x false = true → (listed.setIfInBounds j true).getD x false = true := fun x hx => by
    by_cases hjx : j = x
    · subst hjx
      rcases Nat.lt_or_ge j listed.size with h' | h'
      · simp [h']
      · simp [Array.getElem?_eq_none h'] at hx
    · rw [getD_set_ne false hjx]; exact hx
  by_cases hjk : j = k
  · subst hjk
    exact hmono r (hc.ready hT hj r hr)
  · rw [getD_set_ne false hjk] at hk
    exact hmono r (hc k hk r hr)

theorem needs_of {listed : Array Bool} (hT : ancOk md ops T = true) (hc : Closed T listed) {i j : Nat} (hR : i ∈ R) (hji : j ≠ i) (hj : j ∈ Region.ready md ops listed) (hun : listed.getD i true = false) : needs T R j = true := by
  unfold needs
  rw [List.any_eq_true]
  refine ⟨i, hR, ?_⟩
  simp only [Bool.and_eq_true, bne_iff_ne, ne_eq, Bool.not_eq_true']
  refine ⟨Ne.symm hji, ?_⟩
  rw [Bool.eq_false_iff]
  intro h
  have h1 := hc.ready hT hj i (by simpa using h)
  rcases Nat.lt_or_ge i listed.size with h' | h'
  · simp [h'] at hun h1; rw [hun] at h1; cases h1
  · simp [Array.getElem?_eq_none h'] at h1

theorem wpAnyT_first {i : Nat} {oi : Oper} {v : Value} {S1 : World → Prop} (hT : ancOk md ops T = true) (hi : ops[i]? = some oi) (hsel : ∀ (j : Nat) (o : Oper) cs b, ops[j]? = some o → o.op ≠ .select cs b)
    (hQ : ∀ c a w, Q (.panic c) (a.put oi.dst v) w → Q (.panic c) a w) (h1 : (∀ w, S1 w) ∨ (i ∈ R ∧ ∀ w, S w → S1 w)) :
    ∀ (fuel : Nat) (listed : Array Bool) (a : Act) (w : World), Closed T listed →
      (∀ j oj, ops[j]? = some oj → j ≠ i → listed.getD j true = false → (∀ e ∈ oj.after, Region.binds md e = true → e.on ≠ i) → oi.apart ops oj = true) →
      i ∈ Region.ready md ops listed → YieldsIf P ops S1 oi v a → (i ∈ R → S w) →
      wpAnyT P md ops Q T R S fuel (listed.setIfInBounds i true) (a.put oi.dst v) w → wpAnyT P md ops Q T R S (fuel + 1) listed a w := by
  intro fuel
  induction fuel with
  | zero =>
    intro listed a w _ _ hr hy hS H
    have hw1 : S1 w := h1.elim (fun h => h w) (fun h => h.2 w (hS h.1))
    refine ⟨fun h => (by rw [h] at hr; cases hr), fun j hj => ?_⟩
    by_cases hji : j = i
    · subst hji; exact hy.wpOp hi hw1 ⟨fun _ h => h, H⟩
    · have := ready_mono hj hji
      rw [H.1] at this
      cases this
  | succ fuel ih =>
    intro listed a w hcl hfree hr hy hS H
    have hw1 : S1 w := h1.elim (fun h => h w) (fun h => h.2 w (hS h.1))
    refine ⟨fun h => (by rw [h] at hr; cases hr), fun j hj => ?_⟩
    by_cases hji : j = i
    · subst hji; exact hy.wpOp hi hw1 ⟨fun _ h => h, H⟩
    · have h1' := H.2 j (ready_mono hj hji)
      obtain ⟨hjun, oj, hoj, hall⟩ := mem_ready.1 hj
      have hnot : ∀ e ∈ oj.after, Region.binds md e = true → e.on ≠ i := fun e he hb heq => by
        have h1 := hall e he hb
        have h0 := (mem_ready.1 hr).1
        rw [heq] at h1
        rcases Nat.lt_or_ge i listed.size with h' | h'
        · simp [h'] at h0 h1; rw [h0] at h1; cases h1
        · simp [Array.getElem?_eq_none h'] at h1
      have h2 := wpOp_putIf hoj (hfree j oj hoj hji hjun hnot) (fun cs b => hsel i oi cs b hi) (fun cs b => hsel j oj cs b hoj) hQ hy h1'
      have hfree' : ∀ k ok, ops[k]? = some ok → k ≠ i → (listed.setIfInBounds j true).getD k true = false →
          (∀ e ∈ ok.after, Region.binds md e = true → e.on ≠ i) → oi.apart ops ok = true := fun k ok hk hki hun hno => by
        refine hfree k ok hk hki ?_ hno
        by_cases hjk : j = k
        · subst hjk; exact hjun
        · rw [getD_set_ne true hjk] at hun; exact hun
      refine wpOp_mono (fun a' w' h3 => ⟨h3.2.1, ih (listed.setIfInBounds j true) a' w' (hcl.set hT hj) hfree' (ready_mono hr (Ne.symm hji)) h3.1 (fun hR => h3.2.1 (needs_of hT hcl hR hji hj (mem_ready.1 hr).1) (hS hR)) ?_⟩) h2
      rw [Array.setIfInBounds_comm _ _ hji]
      exact h3.2.2

/-- the same as a Bool -/
def closedB (T : Anc) (listed : Array Bool) : Bool := (List.range T.size).all fun j => !listed.getD j false || (T.getD j []).all fun r => listed.getD r false
theorem closedB_spec {listed : Array Bool} (h : closedB T listed = true) : Closed T listed := by
  intro j hj r hr
  unfold closedB at h
  rw [List.all_eq_true] at h
  rcases Nat.lt_or_ge j T.size with hlt | hge
  · have h1 := h j (List.mem_range.2 hlt)
    rw [hj] at h1
    simp only [Bool.not_true, Bool.false_or, List.all_eq_true] at h1
    exact h1 r hr
  · simp [Array.getElem?_eq_none hge] at hr

/-- may number i be taken first? -/
def takeOk (md : Region.Mode) (ops : Array Oper) (T : Anc) (listed : Array Bool) (i : Nat) : Bool := Region.noSelect ops && Region.free md ops listed i && (Region.ready md ops listed).contains i && (ancOk md ops T && closedB T listed)

section
variable {i : Nat} {oi : Oper} {v : Value} {fuel : Nat} {listed : Array Bool} {a : Act} {w : World}
/-- number i touches no memory -/
theorem wpAnyT_free (hi_ : ops.toList[i]? = some oi) (hok : takeOk md ops T listed i = true) (hg : Region.wanted oi (yielded ops a.tmps) = true)
    (hQ : ∀ c a w, Q (.panic c) (a.put oi.dst v) w → Q (.panic c) a w) (hR : R.contains i = false)
    (hy : ∀ w, (execOp a.eval oi).run P w = .ok (.value v) w)
    (h : wpAnyT P md ops Q T R S fuel (listed.setIfInBounds i true) (a.put oi.dst v) w) : wpAnyT P md ops Q T R S (fuel + 1) listed a w := by
  have hi : ops[i]? = some oi := by rw [← Array.getElem?_toList]; exact hi_
  simp only [takeOk, Bool.and_eq_true] at hok
  exact wpAnyT_first (S1 := fun _ => True) hok.2.1 hi (Region.noSelect_spec hok.1.1.1) hQ (.inl fun _ => trivial) fuel listed a w (closedB_spec hok.2.2) (Region.free_spec hi hok.1.1.2) (by simpa using hok.1.2)
    (.inl ⟨hg, fun w _ => hy w⟩) (fun hm => by simp_all) h
/-- as wpAnyT_free, the looks in one -/
theorem wpF (hi_ : ops.toList[i]? = some oi) (hok : (takeOk md ops T listed i && !R.contains i) = true) (hg : Region.wanted oi (yielded ops a.tmps) = true)
    (hQ : ∀ c a w, Q (.panic c) (a.put oi.dst v) w → Q (.panic c) a w) (hy : ∀ w, (execOp a.eval oi).run P w = .ok (.value v) w)
    (h : wpAnyT P md ops Q T R S fuel (listed.setIfInBounds i true) (a.put oi.dst v) w) : wpAnyT P md ops Q T R S (fuel + 1) listed a w := by
  rw [Bool.and_eq_true, Bool.not_eq_true'] at hok
  exact wpAnyT_free hi_ hok.1 hg hQ hok.2 hy h
/-- number i reads -/
theorem wpAnyT_read (hi_ : ops.toList[i]? = some oi) (hok : takeOk md ops T listed i = true) (hg : Region.wanted oi (yielded ops a.tmps) = true)
    (hQ : ∀ c a w, Q (.panic c) (a.put oi.dst v) w → Q (.panic c) a w) (hR : R.contains i = true) (hS : S w)
    (hy : ∀ w, S w → (execOp a.eval oi).run P w = .ok (.value v) w)
    (h : wpAnyT P md ops Q T R S fuel (listed.setIfInBounds i true) (a.put oi.dst v) w) : wpAnyT P md ops Q T R S (fuel + 1) listed a w := by
  have hi : ops[i]? = some oi := by rw [← Array.getElem?_toList]; exact hi_
  simp only [takeOk, Bool.and_eq_true] at hok
  exact wpAnyT_first (S1 := S) hok.2.1 hi (Region.noSelect_spec hok.1.1.1) hQ (.inr ⟨by simpa using hR, fun _ h => h⟩) fuel listed a w (closedB_spec hok.2.2) (Region.free_spec hi hok.1.1.2) (by simpa using hok.1.2)
    (.inl ⟨hg, hy⟩) (fun _ => hS) h
/-- number i is passed over: its guard says no -/
theorem wpAnyT_skip (hi_ : ops.toList[i]? = some oi) (hok : takeOk md ops T listed i = true) (hg : Region.wanted oi (yielded ops a.tmps) = false)
    (hQ : ∀ c a w, Q (.panic c) (a.put oi.dst undef) w → Q (.panic c) a w) (hR : i ∈ R → S w)
    (h : wpAnyT P md ops Q T R S fuel (listed.setIfInBounds i true) (a.put oi.dst undef) w) : wpAnyT P md ops Q T R S (fuel + 1) listed a w := by
  have hi : ops[i]? = some oi := by rw [← Array.getElem?_toList]; exact hi_
  simp only [takeOk, Bool.and_eq_true] at hok
  exact wpAnyT_first (S1 := fun _ => True) hok.2.1 hi (Region.noSelect_spec hok.1.1.1) hQ (.inl fun _ => trivial) fuel listed a w (closedB_spec hok.2.2) (Region.free_spec hi hok.1.1.2) (by simpa using hok.1.2)
    (.inr ⟨hg, rfl⟩) hR h
/-- number i alone may come up: it is carried out -/
theorem wpAnyT_one (hi_ : ops.toList[i]? = some oi) (hr : Region.ready md ops listed = [i]) (hg : Region.wanted oi (yielded ops a.tmps) = true)
    (h : ∀ K : Act → World → Prop, (∀ a' w', (needs T R i = true → S w → S w') → wpAnyT P md ops Q T R S fuel (listed.setIfInBounds i true) a' w' → K a' w') → oi.wp P a w K Q) :
    wpAnyT P md ops Q T R S (fuel + 1) listed a w := by
  have hi : ops[i]? = some oi := by rw [← Array.getElem?_toList]; exact hi_
  refine ⟨fun h0 => (by rw [hr] at h0; cases h0), fun j hj => ?_⟩
  rw [hr] at hj
  obtain rfl : j = i := by simpa using hj
  unfold wpOp
  simp only [hi, hg, if_true]
  exact .inl (h _ fun a' w' h1 h2 => ⟨h1, h2⟩)
/-- it alone may come up, and all that reads has come up before it -/
theorem wpAnyT_sink (hi_ : ops.toList[i]? = some oi) (hr : Region.ready md ops listed = [i]) (hg : Region.wanted oi (yielded ops a.tmps) = true) (hn : needs T R i = false)
    (h : ∀ K : Act → World → Prop, (∀ a' w', wpAnyT P md ops Q T R S fuel (listed.setIfInBounds i true) a' w' → K a' w') → oi.wp P a w K Q) :
    wpAnyT P md ops Q T R S (fuel + 1) listed a w :=
  wpAnyT_one hi_ hr hg fun K hK => h K fun a' w' h' => hK a' w' (fun e => by rw [hn] at e; cases e) h'
theorem wpAnyT_done (hr : Region.ready md ops listed = []) (h : Q .normal a w) : ∀ fuel, wpAnyT P md ops Q T R S fuel listed a w
  | 0 => ⟨hr, h⟩
  | _ + 1 => ⟨fun _ => h, by rw [hr]; simp⟩
end

theorem wp_region_T (T : Anc) (R : List Nat) (S : World → Prop) (n : Nat) {id : Nat} {a : Act} {w : World} (hn : ops.size = n) (hm : P.follows .mixedOrders = true)
    (h : wpAnyT P .any ops Q T R S n (Array.replicate n false) a w.drew) : (Code.region id ops true).wp P Q a w := by
  subst hn
  exact wp_region_any hm (wpAny_of_T _ _ _ _ h)

end
end Go.Proofs.YtediidajdpdeiaaGreatDoor

/- The sum of bytes, by half a byte and bit by bit: no program is in sight. -/
namespace Go.Proofs.YtediidajdpdeiaaGreatDoor.CrcM

/-- one bit of the register -/
def bit1 (r : BitVec 32) : BitVec 32 := (r >>> 1) ^^^ (if r.getLsbD 0 then 0xedb88320#32 else 0#32)
def bit4 (r : BitVec 32) : BitVec 32 := bit1 (bit1 (bit1 (bit1 r)))
def bit8 (r : BitVec 32) : BitVec 32 := bit4 (bit4 r)
def upd (r : BitVec 32) (x : UInt8) : BitVec 32 := bit8 (r ^^^ BitVec.ofNat 32 x.toNat)
def reg (r : BitVec 32) (l : List UInt8) : BitVec 32 := l.foldl upd r
def sum (l : List UInt8) : BitVec 32 := ~~~ (reg (BitVec.allOnes 32) l)

def halfN : List Nat := [0x00000000, 0x1db71064, 0x3b6e20c8, 0x26d930ac, 0x76dc4190, 0x6b6b51f4, 0x4db26158, 0x5005713c, 0xedb88320, 0xf00f9344, 0xd6d6a3e8, 0xcb61b38c, 0x9b64c2b0, 0x86d3d2d4, 0xa00ae278, 0xbdbdf21c]
def half (n : Nat) : BitVec 32 := BitVec.ofNat 32 (halfN.getD n 0)

theorem bit1_xor (x y : BitVec 32) : bit1 (x ^^^ y) = bit1 x ^^^ bit1 y := by
  unfold bit1
  rw [BitVec.ushiftRight_xor_distrib, BitVec.getLsbD_xor]
  have c : ∀ a b p : BitVec 32, a ^^^ b ^^^ p = a ^^^ (b ^^^ p) := fun a b p => BitVec.xor_assoc a b p
  have d : ∀ a b p : BitVec 32, a ^^^ b ^^^ p = a ^^^ p ^^^ b := fun a b p => by rw [c, c, BitVec.xor_comm b p]
  have e : ∀ a b p : BitVec 32, a ^^^ p ^^^ (b ^^^ p) = a ^^^ b := fun a b p => by rw [BitVec.xor_comm b p, ← BitVec.xor_assoc, c a p p, BitVec.xor_self, BitVec.xor_zero]
  cases x.getLsbD 0 <;> cases y.getLsbD 0 <;> simp only [Bool.xor_false, Bool.xor_true, Bool.not_true, Bool.not_false, Bool.false_eq_true, if_true, if_false, BitVec.xor_zero]
  · rw [c]
  · rw [d]
  · rw [e]

theorem bit4_xor (x y : BitVec 32) : bit4 (x ^^^ y) = bit4 x ^^^ bit4 y := by unfold bit4; simp only [bit1_xor]
theorem bit1_even (x : BitVec 32) (h : x.getLsbD 0 = false) : bit1 x = x >>> 1 := by unfold bit1; rw [h]; simp

theorem bit4_hi (x : BitVec 32) (h : ∀ i, i < 4 → x.getLsbD i = false) : bit4 x = x >>> 4 := by
  unfold bit4
  have g : ∀ k, k < 4 → (x >>> k).getLsbD 0 = false := fun k hk => by rw [BitVec.getLsbD_ushiftRight]; exact h k hk
  rw [bit1_even x (h 0 (by omega)), bit1_even (x >>> 1) (g 1 (by omega)),
    bit1_even (x >>> 1 >>> 1) (by rw [← BitVec.shiftRight_add]; exact g 2 (by omega)), bit1_even (x >>> 1 >>> 1 >>> 1) (by rw [← BitVec.shiftRight_add, ← BitVec.shiftRight_add]; exact g 3 (by omega))]
  simp only [← BitVec.shiftRight_add]

theorem bit4_lo : ∀ n : Fin 16, bit4 (BitVec.ofNat 32 n.val) = half n.val := by decide +kernel

theorem split4 (r : BitVec 32) : r = (r &&& 0xfffffff0#32) ^^^ (r &&& 15#32) := by
  ext i hi
  have h : (0xfffffff0#32).getLsbD i = !(15#32).getLsbD i := by
    have : ∀ i : Fin 32, (0xfffffff0#32).getLsbD i.val = !(15#32).getLsbD i.val := by decide +kernel
    exact this ⟨i, hi⟩
  simp only [BitVec.getLsbD_eq_getElem hi] at h
  simp only [BitVec.getElem_xor, BitVec.getElem_and, h]
  cases r[i] <;> cases (15#32)[i] <;> rfl

theorem and15 (r : BitVec 32) : r &&& 15#32 = BitVec.ofNat 32 (r.toNat % 16) := by
  apply BitVec.eq_of_toNat_eq
  have e : (15#32).toNat = 2 ^ 4 - 1 := rfl
  rw [BitVec.toNat_and, e, Nat.and_two_pow_sub_one_eq_mod, BitVec.toNat_ofNat]
  have := Nat.mod_lt r.toNat (show 0 < 16 by omega)
  omega

theorem bit4_table (r : BitVec 32) : bit4 r = (r >>> 4) ^^^ half (r.toNat % 16) := by
  conv => lhs; rw [split4 r, bit4_xor]
  congr 1
  · rw [bit4_hi]
    · ext i hi
      simp only [BitVec.getElem_ushiftRight, BitVec.getLsbD_and]
      by_cases h : 4 + i < 32
      · have : ∀ i : Fin 32, 4 ≤ i.val → (0xfffffff0#32).getLsbD i.val = true := by decide +kernel
        rw [this ⟨4 + i, h⟩ (by simp)]; simp
      · rw [BitVec.getLsbD_of_ge r (4 + i) (by omega)]; simp
    · intro i hi
      have : ∀ i : Fin 4, (0xfffffff0#32).getLsbD i.val = false := by decide +kernel
      rw [BitVec.getLsbD_and, this ⟨i, hi⟩]; simp
  · rw [and15]
    exact bit4_lo ⟨r.toNat % 16, Nat.mod_lt _ (by omega)⟩

/-- the document's loop: bit k of a byte -/
def bitDoc (r : BitVec 32) (b : Nat) : BitVec 32 := if (r ^^^ BitVec.ofNat 32 b).getLsbD 0 then (r >>> 1) ^^^ 0xedb88320#32 else r >>> 1

theorem bitDoc_eq (r : BitVec 32) (b : Nat) : bitDoc r b ^^^ BitVec.ofNat 32 (b / 2) = bit1 (r ^^^ BitVec.ofNat 32 b) ∨ 2 ^ 32 ≤ b := by
  by_cases hb : 2 ^ 32 ≤ b
  · exact .inr hb
  · left
    have e : BitVec.ofNat 32 (b / 2) = BitVec.ofNat 32 b >>> 1 := by
      apply BitVec.eq_of_toNat_eq
      rw [BitVec.toNat_ushiftRight, BitVec.toNat_ofNat, BitVec.toNat_ofNat, Nat.shiftRight_eq_div_pow, Nat.mod_eq_of_lt (a := b / 2) (by omega), Nat.mod_eq_of_lt (a := b) (by omega)]
    unfold bitDoc bit1
    rw [BitVec.ushiftRight_xor_distrib, e]
    split
    · simp only [BitVec.xor_assoc]; congr 1; rw [BitVec.xor_comm]
    · simp

/-- from a bit's register to the next: what stands behind k bits of the document's loop -/
theorem docRound (r : BitVec 32) (b : Nat) (hb : b < 2 ^ 32) : bitDoc r b = bit1 (r ^^^ BitVec.ofNat 32 b) ^^^ BitVec.ofNat 32 (b / 2) := by
  rcases bitDoc_eq r b with h | h
  · rw [← h, BitVec.xor_assoc, BitVec.xor_self, BitVec.xor_zero]
  · omega

def docLoop : Nat → BitVec 32 → Nat → BitVec 32
  | 0, r, _ => r
  | k + 1, r, b => docLoop k (bitDoc r b) (b / 2)

def iter1 : Nat → BitVec 32 → BitVec 32
  | 0, r => r
  | k + 1, r => iter1 k (bit1 r)

theorem docLoop_eq : ∀ (k : Nat) (r : BitVec 32) (b : Nat), b < 2 ^ 32 → docLoop k r b = iter1 k (r ^^^ BitVec.ofNat 32 b) ^^^ BitVec.ofNat 32 (b / 2 ^ k)
  | 0, r, b, _ => by simp [docLoop, iter1, BitVec.xor_assoc]
  | k + 1, r, b, hb => by
    have e : bit1 (r ^^^ BitVec.ofNat 32 b) ^^^ BitVec.ofNat 32 (b / 2) ^^^ BitVec.ofNat 32 (b / 2) = bit1 (r ^^^ BitVec.ofNat 32 b) := by
      rw [BitVec.xor_assoc, BitVec.xor_self, BitVec.xor_zero]
    rw [docLoop, docLoop_eq k _ _ (by omega), docRound r b hb, iter1, e, Nat.div_div_eq_div_mul, Nat.pow_succ, Nat.mul_comm 2]

theorem doc8 (r : BitVec 32) (x : UInt8) : docLoop 8 r x.toNat = upd r x := by
  have hx := x.toNat_lt
  rw [docLoop_eq 8 r _ (by omega)]
  have : x.toNat / 2 ^ 8 = 0 := by omega
  rw [this]
  simp [iter1, upd, bit8, bit4]

/-! one bit that is turned is told -/
theorem bit1_inj {x y : BitVec 32} (h : bit1 x = bit1 y) : x = y := by
  have h31 : ∀ z : BitVec 32, (bit1 z).getLsbD 31 = z.getLsbD 0 := by
    intro z
    unfold bit1
    rw [BitVec.getLsbD_xor]
    cases hz : z.getLsbD 0 <;> simp
  have h0 : x.getLsbD 0 = y.getLsbD 0 := by rw [← h31 x, ← h31 y, h]
  have hs : x >>> 1 = y >>> 1 := by
    unfold bit1 at h
    rw [h0] at h
    have := congrArg (· ^^^ (if y.getLsbD 0 then 0xedb88320#32 else 0#32)) h
    simpa [BitVec.xor_assoc] using this
  apply BitVec.eq_of_getLsbD_eq
  intro i hi
  rcases Nat.eq_zero_or_pos i with rfl | hp
  · exact h0
  · have := congrArg (fun z => z.getLsbD (i - 1)) hs
    simp only [BitVec.getLsbD_ushiftRight] at this
    rwa [show 1 + (i - 1) = i by omega] at this

theorem bit8_inj {x y : BitVec 32} (h : bit8 x = bit8 y) : x = y := by
  unfold bit8 bit4 at h
  exact bit1_inj (bit1_inj (bit1_inj (bit1_inj (bit1_inj (bit1_inj (bit1_inj (bit1_inj h)))))))

theorem upd_inj {r r' : BitVec 32} {x : UInt8} (h : upd r x = upd r' x) : r = r' := by
  have := bit8_inj h
  have := congrArg (· ^^^ BitVec.ofNat 32 x.toNat) this
  simpa [BitVec.xor_assoc] using this

theorem upd_byte {r : BitVec 32} {x y : UInt8} (h : upd r x = upd r y) : x = y := by
  have h1 := bit8_inj h
  have h2 := congrArg (r ^^^ ·) h1
  simp only [← BitVec.xor_assoc, BitVec.xor_self, BitVec.zero_xor] at h2
  have h3 := congrArg BitVec.toNat h2
  have hx := x.toNat_lt
  have hy := y.toNat_lt
  rw [BitVec.toNat_ofNat, BitVec.toNat_ofNat, Nat.mod_eq_of_lt (by omega), Nat.mod_eq_of_lt (by omega)] at h3
  exact UInt8.toNat_inj.1 h3

theorem reg_inj : ∀ (l : List UInt8) {r r' : BitVec 32}, reg r l = reg r' l → r = r'
  | [], _, _, h => h
  | _ :: l, _, _, h => upd_inj (reg_inj l h)

theorem reg_append (r : BitVec 32) (a b : List UInt8) : reg r (a ++ b) = reg (reg r a) b := List.foldl_append

theorem sum_one {a b : List UInt8} {x y : UInt8} (h : sum (a ++ x :: b) = sum (a ++ y :: b)) : x = y := by
  unfold sum at h
  have h := congrArg (fun z => ~~~ z) h
  simp only [BitVec.not_not] at h
  rw [reg_append, reg_append] at h
  exact upd_byte (reg_inj b h)

/-- a number's four bytes, the lowest first -/
def four (n : Nat) : List UInt8 := [UInt8.ofNat (n % 256), UInt8.ofNat (n / 256 % 256), UInt8.ofNat (n / 65536 % 256), UInt8.ofNat (n / 16777216 % 256)]
/-- the number of the first four bytes -/
def num4 (l : List UInt8) : Nat := (l.getD 0 0).toNat + (l.getD 1 0).toNat * 256 + (l.getD 2 0).toNat * 65536 + (l.getD 3 0).toNat * 16777216
/-- a body's frame -/
def frame (b : List UInt8) : List UInt8 := four b.length ++ (four (sum (four b.length)).toNat ++ (four (sum b).toNat ++ b))
theorem byte_mod (n : Nat) : (UInt8.ofNat (n % 256)).toNat = n % 256 := by
  rw [UInt8.toNat_ofNat']
  exact Nat.mod_mod ..
theorem num4_four (n : Nat) (h : n < 4294967296) (l : List UInt8) : num4 (four n ++ l) = n := by
  unfold num4 four
  simp only [List.cons_append, List.getD_cons_zero, List.getD_cons_succ, byte_mod]
  omega
theorem num4_lt (l : List UInt8) : num4 l < 4294967296 := by
  unfold num4
  have h0 := (l.getD 0 0).toNat_lt
  have h1 := (l.getD 1 0).toNat_lt
  have h2 := (l.getD 2 0).toNat_lt
  have h3 := (l.getD 3 0).toNat_lt
  omega
theorem length_four (n : Nat) : (four n).length = 4 := rfl
theorem length_frame (b : List UInt8) : (frame b).length = b.length + 12 := by
  simp only [frame, List.length_append, length_four]; omega

end Go.Proofs.YtediidajdpdeiaaGreatDoor.CrcM

/- The functions of package crc: the walks. -/
namespace Go.Proofs.YtediidajdpdeiaaGreatDoor
open Go.RowKit CrcM
set_option maxRecDepth 100000

/-- the table of half bytes is as the program's text lays it -/
def HalfAt (w : World) : Prop := ∀ i, i < 16 → w.cell? ⟨0, i, none⟩ = some (.int .u32 ((half i).toNat : Int))

theorem HalfAt.below {w w' : World} {B : Nat} (h : HalfAt w) (hb : Below B w w') (h0 : 0 < B) : HalfAt w' := fun i hi => (hb.cell (p := ⟨0, i, none⟩) h0).trans (h i hi)
theorem HalfAt.lt {w : World} (h : HalfAt w) : 0 < w.heap.size := by
  have := cell_lt (h 0 (by omega))
  simpa using this

/-- byte slices in a row -/
def PartsAt (w : World) (P : Option Addr) (parts : List (List UInt8)) : Prop := ∀ j l, parts[j]? = some l → ∃ ad A c, P = some ad ∧ w.cell? (ad.add j) = some (.slice A l.length c) ∧ l.length ≤ maxLen ∧ Rd Non w A l

theorem ofInt32 (n : Nat) : BitVec.ofInt 32 (n : Int) = BitVec.ofNat 32 n := BitVec.ofInt_natCast ..
theorem wrap_u32 (n : Nat) (h : n < 4294967296) : IntKind.u32.wrap (n : Int) = (n : Int) := by
  simp [IntKind.wrap, IntKind.signed, IntKind.bits]; omega
theorem bxor_nat (a b : BitVec 32) : bits .xor .u32 (a.toNat : Int) (b.toNat : Int) = ((a ^^^ b).toNat : Int) := by
  have h := (a ^^^ b).isLt
  have e1 : BitVec.ofInt IntKind.u32.bits (a.toNat : Int) = a := by
    show BitVec.ofInt 32 _ = _
    rw [ofInt32, BitVec.ofNat_toNat, BitVec.setWidth_eq]
  have e2 : BitVec.ofInt IntKind.u32.bits (b.toNat : Int) = b := by
    show BitVec.ofInt 32 _ = _
    rw [ofInt32, BitVec.ofNat_toNat, BitVec.setWidth_eq]
  unfold bits
  simp only [e1, e2]
  exact wrap_u32 _ h
theorem byte32 (x : UInt8) : (BitVec.ofNat 32 x.toNat).toNat = x.toNat := by
  have := x.toNat_lt
  rw [BitVec.toNat_ofNat]; omega
theorem bxor_byte (a : BitVec 32) (x : UInt8) : bits .xor .u32 (a.toNat : Int) (x.toNat : Int) = ((a ^^^ BitVec.ofNat 32 x.toNat).toNat : Int) := by
  rw [← bxor_nat, byte32]
theorem bstep (a : BitVec 32) : bits .xor .u32 ((a.toNat : Int) / 16) ((half (a.toNat % 16)).toNat : Int) = ((bit4 a).toNat : Int) := by
  rw [bit4_table, ← bxor_nat, BitVec.toNat_ushiftRight, Nat.shiftRight_eq_div_pow]
  rfl
theorem band15 (a : BitVec 32) : bits .and .u32 (a.toNat : Int) 15 = ((a.toNat % 16 : Nat) : Int) := by
  have e1 : BitVec.ofInt IntKind.u32.bits (a.toNat : Int) = a := by
    show BitVec.ofInt 32 _ = _
    rw [ofInt32, BitVec.ofNat_toNat, BitVec.setWidth_eq]
  have e2 : BitVec.ofInt IntKind.u32.bits 15 = 15#32 := rfl
  have h := Nat.mod_lt a.toNat (show 0 < 16 by omega)
  unfold bits
  simp only [e1, e2]
  have e3 : (a &&& 15#32 : BitVec 32).toNat = a.toNat % 16 := by
    rw [and15, BitVec.toNat_ofNat]; omega
  have := wrap_u32 (a.toNat % 16) (by omega)
  rw [← this]
  congr 2

theorem ret_int {k : IntKind} {a b : Int} (h : a = b) : Ending.returned (.int k a) = Ending.returned (.int k b) := by rw [h]
theorem bnot (a : BitVec 32) : bits .xor .u32 IntKind.u32.max (a.toNat : Int) = ((~~~ a).toNat : Int) := by
  have e : IntKind.u32.max = ((BitVec.allOnes 32).toNat : Int) := rfl
  rw [e, bxor_nat, BitVec.allOnes_xor]

set_option maxHeartbeats 1000000 in
theorem sum_B (w : World) (hh : HalfAt w) (P : Option Addr) (parts : List (List UInt8)) (pc : Nat) (hp : PartsAt w P parts) (hlen : parts.length ≤ maxLen) :
    Calls Tryz.prog 115 #[.slice P parts.length pc] w fun e w' => e = .returned (.int .u32 ((sum parts.flatten).toNat : Int)) ∧ w = w' := by
  unfold maxLen at hlen
  go_enter Tryz.func115, Tryz.ntmps115
  go_wp2
  go_loop [3, 10] (fun r i => ∃ k : Nat, k ≤ parts.length ∧ i = .int .i64 k ∧ r = .int .u32 ((reg (BitVec.allOnes 32) (parts.take k).flatten).toNat : Int)) (fun _ i => parts.length - (intOf i).toNat)
  case atStart => exact ⟨0, by omega, rfl, by simp [reg]⟩
  case round =>
    obtain ⟨k, hk, rfl, rfl⟩ := hrel
    by_cases hlt : k < parts.length
    · obtain ⟨l, hl⟩ : ∃ l, parts[k]? = some l := ⟨_, List.getElem?_eq_getElem hlt⟩
      obtain ⟨ad, A, c, rfl, hc, hll, hr⟩ := hp k l hl
      have HS := Lib.hid (show (parts.take (k + 1)).flatten = (parts.take k).flatten ++ l by rw [List.take_add_one, hl]; simp)
      generalize (parts.take k).flatten = pre at *
      unfold maxLen at hll
      clear hl
      go_wp2
      go_loop [3, 16] (fun r i => ∃ j : Nat, j ≤ l.length ∧ i = .int .i64 j ∧ r = .int .u32 ((reg (BitVec.allOnes 32) (pre ++ l.take j)).toNat : Int)) (fun _ i => l.length - (intOf i).toNat)
      case atStart => exact ⟨0, by omega, rfl, by simp⟩
      case round =>
        obtain ⟨j, hj, rfl, rfl⟩ := hrel
        by_cases hlj : j < l.length
        · obtain ⟨x, hx⟩ : ∃ x, l[j]? = some x := ⟨_, List.getElem?_eq_getElem hlj⟩
          obtain ⟨bd, rfl, hcx, _⟩ := hr j x hx
          have HT := Lib.hid (show reg (BitVec.allOnes 32) (pre ++ l.take (j + 1)) = upd (reg (BitVec.allOnes 32) (pre ++ l.take j)) x by
            rw [List.take_add_one, hx]; simp [reg, List.foldl_append])
          generalize reg (BitVec.allOnes 32) (pre ++ l.take j) = R at *
          unfold byteV at hcx
          clear hx
          have hxl := x.toNat_lt
          have e1 : bits .xor .u32 (R.toNat : Int) (x.toNat : Int) = ((R ^^^ BitVec.ofNat 32 x.toNat).toNat : Int) := bxor_byte R x
          obtain ⟨R1, hR1⟩ : ∃ R1, R1 = R ^^^ BitVec.ofNat 32 x.toNat := ⟨_, rfl⟩
          rw [← hR1] at e1
          have e2 := band15 R1
          have e3 := hh (R1.toNat % 16) (Nat.mod_lt _ (by omega))
          have e4 := bstep R1
          have e5 := band15 (bit4 R1)
          have e6 := hh ((bit4 R1).toNat % 16) (Nat.mod_lt _ (by omega))
          have e7 := bstep (bit4 R1)
          have b1 := Nat.mod_lt R1.toNat (show 0 < 16 by omega)
          have b2 := Nat.mod_lt (bit4 R1).toNat (show 0 < 16 by omega)
          have HR := Lib.hid hR1
          clear hR1
          go_wp2
          go_round
          case rel => exact ⟨j + 1, by omega, by go_num, by rw [HT.out, HR.out]; rfl⟩
          case measure => simp [intOf]; omega
        · obtain rfl : j = l.length := by omega
          go_wp2
          go_round
          case rel => exact ⟨k + 1, by omega, by go_num, by rw [HS.out, List.take_length]⟩
          case measure => simp [intOf]; omega
    · obtain rfl : k = parts.length := by omega
      have g1 : IntKind.u32.signed = false := rfl
      go_wp2
      go_ret
      exact ⟨ret_int (bnot _), rfl⟩
end Go.Proofs.YtediidajdpdeiaaGreatDoor
