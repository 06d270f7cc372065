/- The disk as the laws see it: all that is owned is newer than the law's beginning. -/
import Derived.Test.YtediidajdpdeiaaDisk2
import Derived.Test.YtediidajdpdeiaaStr
import Derived.Test.YtediidajdpdeiaaOpen
namespace Go.Proofs.Ytediidajdpdeiaa
open Go.RowKit

/-- a disk that was made since W, of whose memory nothing has turned -/
def Live (W w : World) (b : Nat) (D : Dk) : Prop := ∃ S A c, DiskAt S w b A c D ∧ (∀ x, S x → W.heap.size ≤ x) ∧ Below W.heap.size W w
/-- bytes that are read whatever was made since W is written (but for rows of bytes) -/
def Arg (W w : World) (A : Option Addr) (l : List UInt8) : Prop := ∀ S : Nat → Prop, (∀ x, S x → W.heap.size ≤ x) → Rd S w A l

section
variable {W w w' : World} {b : Nat} {D : Dk} {A : Option Addr} {l : List UInt8}
theorem Live.below (h : Live W w b D) : Below W.heap.size W w := by
  obtain ⟨S, A, c, _, _, hb⟩ := h
  exact hb
theorem RdB.arg (h : RdB W A l) (hb : Below W.heap.size W w) : Arg W w A l := fun S hS j x hx => by
  obtain ⟨ad, e, hlt, hc⟩ := h j x hx
  exact ⟨ad, e, (hb.cell (p := ad.add j) (by rw [add_block]; exact hlt)).trans hc, .inl fun hh => by have := hS _ hh; omega⟩
theorem RdB.take (h : RdB W A l) (n : Nat) : RdB W A (l.take n) := fun j x hx => by
  rw [List.getElem?_take] at hx
  split at hx
  · exact h j x hx
  · cases hx
theorem Own.arg {S : Nat → Prop} (h : Own S w A l) : Arg W w A l := fun S' _ => h.rd S'
theorem Live.mono (h : Live W w b D) (f : Below w.heap.size w w') : Live W w' b D := by
  obtain ⟨S, A, c, hd, hS, hb⟩ := h
  exact ⟨S, A, c, hd.below f, hS, hb.trans (f.mono hb.size)⟩
theorem Live.did {S : Nat → Prop} {r : Dk × Int} (hS : ∀ x, S x → W.heap.size ≤ x) (hb : Below W.heap.size W w) (hi : IsDisk (Up S w w') w' (.pointer (some ⟨b, 0, none⟩)) r.1) (hf : Fr S w w') : Live W w' b r.1 := by
  obtain ⟨b', A, c, e, h⟩ := hi
  have eb : b = b' := by injection e with e; injection e with e; injection e
  subst eb
  refine ⟨_, A, c, h, fun x hx => hx.elim (hS x) (fun h => Nat.le_trans hb.size h.1), ?_⟩
  have h1 := hb
  exact ⟨hf.os.trans hb.os, hf.tape.trans hb.tape, hf.output.trans hb.output, Nat.le_trans hb.size hf.size,
    fun k hk => (hf.out k (Nat.lt_of_lt_of_le hk hb.size) fun hh => by have := hS k hh; omega).trans (hb.block k hk)⟩
end

/-- rows of bytes are as they were -/
def BK (w w' : World) : Prop := ∀ b, IsB w b → w'.heap[b]? = w.heap[b]?
theorem BK.refl (w : World) : BK w w := fun _ _ => rfl
theorem BK.trans {a b c : World} (h : BK a b) (k : BK b c) : BK a c := fun x hx => (k x (hx.eq (h x hx))).trans (h x hx)
theorem BK.below {w w' : World} (h : Below w.heap.size w w') : BK w w' := fun b hb => h.block b hb.lt
/-- bytes in rows of bytes -/
def Byt (w : World) (A : Option Addr) (l : List UInt8) : Prop := Own (fun _ => True) w A l
theorem Byt.bk {w w' : World} {A : Option Addr} {l : List UInt8} (h : Byt w A l) (k : BK w w') : Byt w' A l := fun j x hx => by
  obtain ⟨ad, e, hc, hb, hs⟩ := h j x hx
  exact ⟨ad, e, (cell_eq (by rw [add_block]; exact k _ hb)).trans hc, hb.eq (k _ hb), hs⟩
theorem Byt.arg {W w : World} {A : Option Addr} {l : List UInt8} (h : Byt w A l) : Arg W w A l := Own.arg h

/-- WHAT a change of a live disk leaves -/
def LiveDid (W w : World) (b : Nat) (r : Dk × Int) (e : Ending) (w' : World) : Prop := e = .returned (.int .i64 r.2) ∧ Live W w' b r.1 ∧ BK w w'

theorem down_B {S : Nat → Prop} {w : World} {b : Nat} {A : Option Addr} {c : Nat} {D : Dk} (h : DiskAt S w b A c D) :
    Calls Try.prog 19 #[.pointer (some ⟨b, 0, none⟩)] w fun e w' => e = .returned (.bool D.down) ∧ w = w' := by
  obtain ⟨dn, all, kept⟩ := D
  obtain ⟨c0, c1, c2, c3, z1, z2, z3, hb, hcap, hk, hall⟩ := h.facts
  go_enter Try.func19, Try.ntmps19
  go_wp2_with (go_at_call 27; refine (none_at h).mono ?_; rintro e w' ⟨rfl, rfl⟩)
  go_ret
  exact ⟨rfl, rfl⟩

section
variable {W w : World} {b : Nat} {D : Dk}
theorem append_L (h : Live W w b D) (B : Option Addr) (l : List UInt8) (cb : Nat) (hl : l.length ≤ 70368744177664) (hr : Arg W w B l) :
    Calls Try.prog 9 #[.pointer (some ⟨b, 0, none⟩), .slice B l.length cb] w (LiveDid W w b (D.append l)) := by
  obtain ⟨S, A, c, hd, hS, hb⟩ := h
  exact (append_B hd B l cb hl (hr S hS)).mono fun e w' ⟨h1, h2, h3⟩ => ⟨h1, Live.did hS hb h2 h3, h3.byt⟩
theorem swap_L (h : Live W w b D) (B : Option Addr) (l : List UInt8) (cb : Nat) (hl : l.length ≤ 70368744177664) (hr : Arg W w B l) :
    Calls Try.prog 10 #[.pointer (some ⟨b, 0, none⟩), .slice B l.length cb] w (LiveDid W w b (D.swap l)) := by
  obtain ⟨S, A, c, hd, hS, hb⟩ := h
  exact (swap_B hd B l cb hl (hr S hS)).mono fun e w' ⟨h1, h2, h3⟩ => ⟨h1, Live.did hS hb h2 h3, h3.byt⟩
theorem sync_L (h : Live W w b D) : Calls Try.prog 17 #[.pointer (some ⟨b, 0, none⟩)] w (LiveDid W w b D.sync) := by
  obtain ⟨S, A, c, hd, hS, hb⟩ := h
  exact (sync_B hd).mono fun e w' ⟨h1, h2, h3⟩ => ⟨h1, Live.did hS hb h2 h3, h3.byt⟩
theorem cut_L (h : Live W w b D) (n : Int) : Calls Try.prog 14 #[.pointer (some ⟨b, 0, none⟩), .int .i64 n] w (LiveDid W w b (D.cut n)) := by
  obtain ⟨S, A, c, hd, hS, hb⟩ := h
  exact (cut_B hd n).mono fun e w' ⟨h1, h2, h3⟩ => ⟨h1, Live.did hS hb h2 h3, h3.byt⟩
theorem restart_L (h : Live W w b D) : Calls Try.prog 12 #[.pointer (some ⟨b, 0, none⟩)] w (LiveDid W w b D.restart) := by
  obtain ⟨S, A, c, hd, hS, hb⟩ := h
  exact (restart_B hd).mono fun e w' ⟨h1, h2, h3⟩ => ⟨h1, Live.did hS hb h2 h3, h3.byt⟩
theorem crash_L (h : Live W w b D) (keep flip : Int) (h1 : keep ≤ 9223372036854775807) (h2 : flip ≤ 9223372036854775807) (h3 : -9223372036854775808 ≤ keep) (h4 : -9223372036854775808 ≤ flip) :
    Calls Try.prog 11 #[.pointer (some ⟨b, 0, none⟩), .int .i64 keep, .int .i64 flip] w (LiveDid W w b (D.crash keep flip)) := by
  obtain ⟨S, A, c, hd, hS, hb⟩ := h
  exact (crash_B hd keep flip h1 h2 h3 h4).mono fun e w' ⟨h1, h2, h3⟩ => ⟨h1, Live.did hS hb h2 h3, h3.byt⟩
theorem down_L (h : Live W w b D) : Calls Try.prog 19 #[.pointer (some ⟨b, 0, none⟩)] w fun e w' => e = .returned (.bool D.down) ∧ w = w' := by
  obtain ⟨S, A, c, hd, hS, hb⟩ := h
  exact down_B hd
theorem size_L (h : Live W w b D) : Calls Try.prog 18 #[.pointer (some ⟨b, 0, none⟩)] w fun e w' => e = .returned (.int .i64 (D.all.length : Int)) ∧ w = w' := by
  obtain ⟨S, A, c, hd, hS, hb⟩ := h
  exact size_B hd
theorem append_L' (h : Live W w b D) (B : Option Addr) (l : List UInt8) (cb : Nat) (D' : Dk) (r : Int) (he : D.append l = (D', r)) (hl : l.length ≤ 70368744177664) (hr : Arg W w B l) :
    Calls Try.prog 9 #[.pointer (some ⟨b, 0, none⟩), .slice B l.length cb] w fun e w' => e = .returned (.int .i64 r) ∧ Live W w' b D' := by
  have := append_L h B l cb hl hr
  rw [he] at this
  exact this.mono fun e w' h => ⟨h.1, h.2.1⟩
theorem swap_L' (h : Live W w b D) (B : Option Addr) (l : List UInt8) (cb : Nat) (D' : Dk) (r : Int) (he : D.swap l = (D', r)) (hl : l.length ≤ 70368744177664) (hr : Arg W w B l) :
    Calls Try.prog 10 #[.pointer (some ⟨b, 0, none⟩), .slice B l.length cb] w fun e w' => e = .returned (.int .i64 r) ∧ Live W w' b D' := by
  have := swap_L h B l cb hl hr
  rw [he] at this
  exact this.mono fun e w' h => ⟨h.1, h.2.1⟩
theorem sync_L' (h : Live W w b D) (D' : Dk) (r : Int) (he : D.sync = (D', r)) : Calls Try.prog 17 #[.pointer (some ⟨b, 0, none⟩)] w fun e w' => e = .returned (.int .i64 r) ∧ Live W w' b D' := by
  have := sync_L h
  rw [he] at this
  exact this.mono fun e w' h => ⟨h.1, h.2.1⟩
theorem restart_L' (h : Live W w b D) (D' : Dk) (r : Int) (he : D.restart = (D', r)) : Calls Try.prog 12 #[.pointer (some ⟨b, 0, none⟩)] w fun e w' => e = .returned (.int .i64 r) ∧ Live W w' b D' := by
  have := restart_L h
  rw [he] at this
  exact this.mono fun e w' h => ⟨h.1, h.2.1⟩
theorem cut_L' (h : Live W w b D) (n : Int) (D' : Dk) (r : Int) (he : D.cut n = (D', r)) : Calls Try.prog 14 #[.pointer (some ⟨b, 0, none⟩), .int .i64 n] w fun e w' => e = .returned (.int .i64 r) ∧ Live W w' b D' := by
  have := cut_L h n
  rw [he] at this
  exact this.mono fun e w' h => ⟨h.1, h.2.1⟩
theorem crash_L' (h : Live W w b D) (keep flip : Int) (D' : Dk) (r : Int) (he : D.crash keep flip = (D', r)) (h1 : keep ≤ 9223372036854775807) (h2 : flip ≤ 9223372036854775807) (h3 : -9223372036854775808 ≤ keep) (h4 : -9223372036854775808 ≤ flip) :
    Calls Try.prog 11 #[.pointer (some ⟨b, 0, none⟩), .int .i64 keep, .int .i64 flip] w fun e w' => e = .returned (.int .i64 r) ∧ Live W w' b D' := by
  have := crash_L h keep flip h1 h2 h3 h4
  rw [he] at this
  exact this.mono fun e w' h => ⟨h.1, h.2.1⟩
/-- WHAT Read leaves: new bytes, and the disk as it was -/
def LiveRead (W : World) (b : Nat) (D : Dk) (e : Ending) (w' : World) : Prop :=
  ∃ A' c', e = .returned (.tuple #[.slice A' D.read.1.length c', .int .i64 D.read.2]) ∧ Arg W w' A' D.read.1 ∧ D.read.1.length ≤ c' ∧ c' ≤ maxLen ∧ Live W w' b D
theorem read_L (h : Live W w b D) : Calls Try.prog 13 #[.pointer (some ⟨b, 0, none⟩)] w (LiveRead W b D) := by
  obtain ⟨S, A, c, hd, hS, hb⟩ := h
  exact (read_B hd).mono fun e w' ⟨A', c', h1, h2, h3, h4, h5⟩ => ⟨A', c', h1, h2.arg, h3, h4, S, A, c, hd.below h5, hS, hb.trans (h5.mono hb.size)⟩
theorem read_L' (h : Live W w b D) (l : List UInt8) (r : Int) (he : D.read = (l, r)) :
    Calls Try.prog 13 #[.pointer (some ⟨b, 0, none⟩)] w fun e w' =>
      ∃ A' c', e = .returned (.tuple #[.slice A' l.length c', .int .i64 r]) ∧ Arg W w' A' l ∧ l.length ≤ c' ∧ c' ≤ maxLen ∧ Live W w' b D := by
  have := read_L h
  unfold LiveRead at this
  rw [he] at this
  exact this
def LiveBytes (W w : World) (b : Nat) (D : Dk) (l : List UInt8) (e : Ending) (w' : World) : Prop :=
  ∃ A' c', e = .returned (.slice A' l.length c') ∧ Byt w' A' l ∧ l.length ≤ c' ∧ c' ≤ maxLen ∧ Live W w' b D ∧ BK w w'
theorem kept_L (h : Live W w b D) : Calls Try.prog 16 #[.pointer (some ⟨b, 0, none⟩)] w (LiveBytes W w b D (D.all.take D.kept)) := by
  obtain ⟨S, A, c, hd, hS, hb⟩ := h
  exact (kept_B hd).mono fun e w' ⟨A', c', h1, h2, h3, h4, h5⟩ => ⟨A', c', h1, h2.mono fun _ _ => trivial, h3, h4, ⟨S, A, c, hd.below h5, hS, hb.trans (h5.mono hb.size)⟩, BK.below h5⟩
theorem kept_L' (h : Live W w b D) (l : List UInt8) (hl : D.all.take D.kept = l) : Calls Try.prog 16 #[.pointer (some ⟨b, 0, none⟩)] w (LiveBytes W w b D l) := hl ▸ kept_L h
theorem new_L (hb : Below W.heap.size W w) : Calls Try.prog 20 #[] w fun e w' => ∃ b, e = .returned (.pointer (some ⟨b, 0, none⟩)) ∧ Live W w' b Dk.new := by
  refine (new_B w).mono ?_
  rintro e w' ⟨p, rfl, ⟨b, A, c, rfl, hd⟩, h5⟩
  exact ⟨b, rfl, _, A, c, hd, fun x hx => Nat.le_trans hb.size hx.1, hb.trans (h5.mono hb.size)⟩
theorem copy_L (h : Live W w b D) : Calls Try.prog 21 #[.pointer (some ⟨b, 0, none⟩)] w fun e w' => ∃ b', e = .returned (.pointer (some ⟨b', 0, none⟩)) ∧ Live W w' b' D ∧ Live W w' b D := by
  obtain ⟨S, A, c, hd, hS, hb⟩ := h
  refine (copy_B hd).mono ?_
  rintro e w' ⟨p, rfl, ⟨b', A', c', rfl, hd'⟩, h5⟩
  exact ⟨b', rfl, ⟨_, A', c', hd', fun x hx => Nat.le_trans hb.size hx.1, hb.trans (h5.mono hb.size)⟩, S, A, c, hd.below h5, hS, hb.trans (h5.mono hb.size)⟩
end

/-- a literal of bytes, just laid -/
theorem Arg.lit {W w : World} {g : Nat} {cs : Array Value} {fz : Nat × Nat} (l : List UInt8) (h : w.heap[g]? = some (.cells cs TB fz)) (hl : cs.toList = l.map byteV) : Arg W w (some ⟨g, 0, none⟩) l :=
  (Own.of_cells (S := fun _ => True) h trivial (by rw [hl]; exact List.take_of_length_le (by simp))).arg

theorem works_06 (W w : World) (hb : Below W.heap.size W w) : Calls Try.prog 15 #[] w fun e w' => e = .returned (.bool true) ∧ Below W.heap.size W w' := by
  have kc := fun (w : World) (C : Array Value) (n c : Nat) => Lib.run_convert_bytes_const (P := Try.prog) w 23 TB C n c Try.underlying23 Try.underlying5
  go_enter Try.func15, Try.ntmps15
  go_wp2_with (first
    | (go_at_call 20; refine (new_L hb).mono ?_; rintro e w1 ⟨b, rfl, h1⟩; clear hb)
    | (go_at_call 9; refine (append_L' (h1.mono ((Below.refl _ _).alloc (Nat.le_refl _) _)) _ [97, 98, 99] 3 ⟨false, [97, 98, 99], 0⟩ 0 rfl (by decide) (Arg.lit _ (heap_alloc_new _ _) (by rfl))).mono ?_; rintro e w2 ⟨rfl, h2⟩; clear h1)
    | (go_at_call 17; refine (sync_L' h2 ⟨false, [97, 98, 99], 3⟩ 0 rfl).mono ?_; rintro e w3 ⟨rfl, h3⟩; clear h2)
    | (go_at_call 9; refine (append_L' (h3.mono ((Below.refl _ _).alloc (Nat.le_refl _) _)) _ [100, 101] 2 ⟨false, [97, 98, 99, 100, 101], 3⟩ 0 rfl (by decide) (Arg.lit _ (heap_alloc_new _ _) (by rfl))).mono ?_; rintro e w4 ⟨rfl, h4⟩; clear h3)
    | (go_at_call 11; refine (crash_L' h4 1 0 ⟨true, [97, 98, 99, 101], 3⟩ 0 rfl (by decide) (by decide) (by decide) (by decide)).mono ?_; rintro e w5 ⟨rfl, h5⟩; clear h4)
    | (go_at_call 12; refine (restart_L' h5 ⟨false, [97, 98, 99, 101], 4⟩ 0 rfl).mono ?_; rintro e w6 ⟨rfl, h6⟩; clear h5)
    | (go_at_call 13; refine (read_L' h6 [97, 98, 99, 101] 0 rfl).mono ?_; rintro e w7 ⟨A', c', rfl, ha, hc, hm, h7⟩; have ks : (convert 23 9 (.slice A' 4 c')).run Try.prog w7 = .ok (.string ⟨#[97, 98, 99, 101]⟩) w7 := run_str (ha Non (fun _ h => h.elim)) c'; clear hc hm ha))
  go_ret
  exact ⟨rfl, h7.below⟩
end Go.Proofs.Ytediidajdpdeiaa
