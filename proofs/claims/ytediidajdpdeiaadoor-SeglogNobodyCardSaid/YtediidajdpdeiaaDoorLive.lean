/- The disk as the laws see it: all that is owned is newer than the law's beginning. -/
import Derived.Test.YtediidajdpdeiaaDoorDisk2
import Derived.Test.YtediidajdpdeiaaDoorStr
import Derived.Test.YtediidajdpdeiaaDoorOpen
namespace Go.Proofs.YtediidajdpdeiaaDoor
open Go.RowKit

/-- a disk that was made since W, of whose memory nothing has turned -/
def Live (W w : World) (b : Nat) (D : Dk) : Prop := ∃ S A c, DiskAt S w b A c D ∧ (∀ x, S x → W.heap.size ≤ x) ∧ Below W.heap.size W w
/-- bytes that are read whatever was made since W is written (but for rows of bytes) -/
def Arg (W w : World) (A : Option Addr) (l : List UInt8) : Prop := ∀ S : Nat → Prop, (∀ x, S x → W.heap.size ≤ x) → Rd S w A l

section
variable {W w w' : World} {b : Nat} {D : Dk} {A : Option Addr} {l : List UInt8}
theorem Live.below (h : Live W w b D) : Below W.heap.size W w := by
  obtain ⟨S, A, c, _, _, hb⟩ := h
  exact hb
theorem RdB.arg (h : RdB W A l) (hb : Below W.heap.size W w) : Arg W w A l := fun S hS j x hx => by
  obtain ⟨ad, e, hlt, hc⟩ := h j x hx
  exact ⟨ad, e, (hb.cell (p := ad.add j) (by rw [add_block]; exact hlt)).trans hc, .inl fun hh => by have := hS _ hh; omega⟩
theorem RdB.take (h : RdB W A l) (n : Nat) : RdB W A (l.take n) := fun j x hx => by
  rw [List.getElem?_take] at hx
  split at hx
  · exact h j x hx
  · cases hx
theorem Own.arg {S : Nat → Prop} (h : Own S w A l) : Arg W w A l := fun S' _ => h.rd S'
theorem Live.mono (h : Live W w b D) (f : Below w.heap.size w w') : Live W w' b D := by
  obtain ⟨S, A, c, hd, hS, hb⟩ := h
  exact ⟨S, A, c, hd.below f, hS, hb.trans (f.mono hb.size)⟩
theorem Live.did {S : Nat → Prop} {r : Dk × Int} (hS : ∀ x, S x → W.heap.size ≤ x) (hb : Below W.heap.size W w) (hi : IsDisk (Up S w w') w' (.pointer (some ⟨b, 0, none⟩)) r.1) (hf : Fr S w w') : Live W w' b r.1 := by
  obtain ⟨b', A, c, e, h⟩ := hi
  have eb : b = b' := by injection e with e; injection e with e; injection e
  subst eb
  refine ⟨_, A, c, h, fun x hx => hx.elim (hS x) (fun h => Nat.le_trans hb.size h.1), ?_⟩
  have h1 := hb
  exact ⟨hf.os.trans hb.os, hf.tape.trans hb.tape, hf.output.trans hb.output, Nat.le_trans hb.size hf.size,
    fun k hk => (hf.out k (Nat.lt_of_lt_of_le hk hb.size) fun hh => by have := hS k hh; omega).trans (hb.block k hk)⟩
end

/-- rows of bytes are as they were -/
def BK (w w' : World) : Prop := ∀ b, IsB w b → w'.heap[b]? = w.heap[b]?
theorem BK.refl (w : World) : BK w w := fun _ _ => rfl
theorem BK.trans {a b c : World} (h : BK a b) (k : BK b c) : BK a c := fun x hx => (k x (hx.eq (h x hx))).trans (h x hx)
theorem BK.below {w w' : World} (h : Below w.heap.size w w') : BK w w' := fun b hb => h.block b hb.lt
/-- bytes in rows of bytes -/
def Byt (w : World) (A : Option Addr) (l : List UInt8) : Prop := Own (fun _ => True) w A l
theorem Byt.bk {w w' : World} {A : Option Addr} {l : List UInt8} (h : Byt w A l) (k : BK w w') : Byt w' A l := fun j x hx => by
  obtain ⟨ad, e, hc, hb, hs⟩ := h j x hx
  exact ⟨ad, e, (cell_eq (by rw [add_block]; exact k _ hb)).trans hc, hb.eq (k _ hb), hs⟩
theorem Byt.arg {W w : World} {A : Option Addr} {l : List UInt8} (h : Byt w A l) : Arg W w A l := Own.arg h

/-- a literal of bytes, just laid -/
theorem Arg.lit {W w : World} {g : Nat} {cs : Array Value} {fz : Nat × Nat} (l : List UInt8) (h : w.heap[g]? = some (.cells cs TB fz)) (hl : cs.toList = l.map byteV) : Arg W w (some ⟨g, 0, none⟩) l :=
  (Own.of_cells (S := fun _ => True) h trivial (by rw [hl]; exact List.take_of_length_le (by simp))).arg

end Go.Proofs.YtediidajdpdeiaaDoor
