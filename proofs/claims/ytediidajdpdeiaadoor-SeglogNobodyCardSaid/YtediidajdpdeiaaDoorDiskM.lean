/- What a disk is and does, as plain functions: no program is in sight. -/
namespace Go.Proofs.YtediidajdpdeiaaDoor

/-- a disk that New made: is it down, its bytes, how many of them are kept -/
structure Dk where
  down : Bool
  all : List UInt8
  kept : Nat

/-- a bit of a byte is turned -/
def turnByte (x : UInt8) (k : Nat) : UInt8 := x ^^^ UInt8.ofNat (2 ^ k)
/-- bit i of bytes is turned, if it is there -/
def turn (l : List UInt8) (i : Nat) : List UInt8 := l.modify (i / 8) (fun x => turnByte x (i % 8))
/-- what a crash leaves of bytes that are not kept -/
def torn (l : List UInt8) (keep flip : Int) : List UInt8 := if 0 ≤ flip then turn (l.take keep.toNat) flip.toNat else l.take keep.toNat

namespace Dk
def new : Dk := ⟨false, [], 0⟩
def ok (D : Dk) : Prop := D.kept ≤ D.all.length ∧ D.all.length ≤ 4194304
def append (D : Dk) (b : List UInt8) : Dk × Int := if D.down then (D, 10) else if 4194304 < D.all.length + b.length then (D, 7) else (⟨false, D.all ++ b, D.kept⟩, 0)
def sync (D : Dk) : Dk × Int := if D.down then (D, 10) else (⟨false, D.all, D.all.length⟩, 0)
def cut (D : Dk) (n : Int) : Dk × Int := if D.down then (D, 10) else if n < 0 ∨ (D.all.length : Int) < n then (D, 2) else (⟨false, D.all.take n.toNat, n.toNat⟩, 0)
def swap (D : Dk) (b : List UInt8) : Dk × Int := if D.down then (D, 10) else if 4194304 < b.length then (D, 7) else (⟨false, b, b.length⟩, 0)
def crash (D : Dk) (keep flip : Int) : Dk × Int :=
  if D.down then (D, 10) else if keep < 0 then (D, 2) else (⟨true, D.all.take D.kept ++ torn (D.all.drop D.kept) keep flip, D.kept⟩, 0)
def restart (D : Dk) : Dk × Int := if D.down then (⟨false, D.all, D.all.length⟩, 0) else (D, 9)
def read (D : Dk) : List UInt8 × Int := if D.down then ([], 10) else (D.all, 0)
end Dk

theorem length_turn (l : List UInt8) (i : Nat) : (turn l i).length = l.length := by unfold turn; simp
theorem length_torn_le (l : List UInt8) (k f : Int) : (torn l k f).length ≤ l.length := by
  unfold torn
  split
  · rw [length_turn, List.length_take]; omega
  · rw [List.length_take]; omega
theorem length_torn (l : List UInt8) (k f : Int) : (torn l k f).length = min k.toNat l.length := by
  unfold torn
  split
  · rw [length_turn, List.length_take]
  · rw [List.length_take]

theorem take_torn (l : List UInt8) (kn n m : Nat) (hm : l.length = m) (hn : n = min kn m) : l.take kn = l.take n := by
  subst hn
  rcases Nat.le_total kn m with h | h
  · rw [Nat.min_eq_left h]
  · rw [Nat.min_eq_right h, List.take_of_length_le (by omega), List.take_of_length_le (by omega)]

theorem torn_none (all : List UInt8) (kept kn n : Nat) (flip : Int) (hn : n = min kn (all.length - kept)) (hf : flip < 0) :
    all.take kept ++ torn (all.drop kept) kn flip = all.take (kept + n) := by
  unfold torn
  rw [if_neg (by omega), Int.toNat_natCast, take_torn _ kn n _ (List.length_drop ..) hn, List.take_add]

theorem torn_out (all : List UInt8) (kept kn n fl : Nat) (hn : n = min kn (all.length - kept)) (hf : ¬ fl / 8 < n) :
    all.take kept ++ torn (all.drop kept) kn fl = all.take (kept + n) := by
  unfold torn turn
  rw [if_pos (by omega), Int.toNat_natCast, Int.toNat_natCast, take_torn _ kn n _ (List.length_drop ..) hn, List.take_add]
  congr 1
  apply List.modify_eq_self
  rw [List.length_take, List.length_drop]
  omega

theorem torn_in (all : List UInt8) (kept kn n fl : Nat) (x : UInt8) (hn : n = min kn (all.length - kept)) (hk : kept ≤ all.length) (hf : fl / 8 < n) (hx : (all.take (kept + n))[kept + fl / 8]? = some x) :
    all.take kept ++ torn (all.drop kept) kn fl = (all.take (kept + n)).set (kept + fl / 8) (turnByte x (fl % 8)) := by
  unfold torn turn
  rw [if_pos (by omega), Int.toNat_natCast, Int.toNat_natCast, take_torn _ kn n _ (List.length_drop ..) hn]
  rw [List.take_add] at hx ⊢
  have hl : (all.take kept).length = kept := by rw [List.length_take]; omega
  rw [List.set_append_right _ _ (by omega), hl, Nat.add_sub_cancel_left]
  congr 1
  rw [List.getElem?_append_right (by omega), hl, Nat.add_sub_cancel_left] at hx
  apply List.ext_getElem?
  intro i
  rw [List.getElem?_modify, List.getElem?_set]
  by_cases h : fl / 8 = i
  · subst h
    rw [hx]
    have := (List.getElem?_eq_some_iff.1 hx).1
    rw [if_pos rfl, if_pos this]
    simp
  · simp [h]

namespace Dk
theorem ok_new : new.ok := ⟨by simp [new], by simp [new]⟩
theorem ok_append {D : Dk} (h : D.ok) (b : List UInt8) : (D.append b).1.ok := by
  unfold append ok at *
  split
  · exact h
  · split
    · exact h
    · simp only [List.length_append]; omega
theorem ok_sync {D : Dk} (h : D.ok) : D.sync.1.ok := by
  unfold sync ok at *
  split
  · exact h
  · simp only; omega
theorem ok_cut {D : Dk} (h : D.ok) (n : Int) : (D.cut n).1.ok := by
  unfold cut ok at *
  split
  · exact h
  · split
    · exact h
    · simp only [List.length_take]; omega
theorem ok_swap {D : Dk} (h : D.ok) (b : List UInt8) : (D.swap b).1.ok := by
  unfold swap ok at *
  split
  · exact h
  · split
    · exact h
    · simp only; omega
theorem ok_crash {D : Dk} (h : D.ok) (k f : Int) : (D.crash k f).1.ok := by
  unfold crash ok at *
  split
  · exact h
  · split
    · exact h
    · have := length_torn_le (D.all.drop D.kept) k f
      simp only [List.length_append, List.length_take, List.length_drop] at *; omega
theorem ok_restart {D : Dk} (h : D.ok) : D.restart.1.ok := by
  unfold restart ok at *
  split
  · simp only; omega
  · exact h
end Dk
end Go.Proofs.YtediidajdpdeiaaDoor
