/- Lists of records that a law holds (layer 7): what stays of them, and parts of them. -/
import Derived.Test.YtediidajdpdeiaaDoorPlays07
import Derived.Test.YtediidajdpdeiaaDoorWorks07
namespace Go.Proofs.YtediidajdpdeiaaDoor
open Go.RowKit CrcM
set_option maxRecDepth 100000

/-- a list of records in X -/
def Held (X : Nat → Prop) (w : World) (A : Option Addr) (c : Nat) (recs : List (List UInt8)) : Prop := ∃ vals, Row X w TBs (.slice A recs.length c) vals ∧ Recs w vals recs

section
variable {X X' : Nat → Prop} {w w' : World} {A : Option Addr} {c : Nat} {recs : List (List UInt8)}
theorem Own.bk {S : Nat → Prop} {A : Option Addr} {l : List UInt8} (h : Own S w A l) (k : BK w w') : Own S w' A l := fun j x hx => by
  obtain ⟨ad, e, hc, hb, hs⟩ := h j x hx
  exact ⟨ad, e, (cell_eq (by rw [add_block]; exact k _ hb)).trans hc, hb.eq (k _ hb), hs⟩
theorem Recs.bk {vals : List Value} (h : Recs w vals recs) (k : BK w w') : Recs w' vals recs :=
  ⟨h.1, fun i r hr => by
    obtain ⟨A, c, h1, h2, h3, h4⟩ := h.2 i r hr
    exact ⟨A, c, h1, h2, h3, h4.bk k⟩⟩
theorem Held.xk (h : Held X w A c recs) (k : XK X w w') (kb : BK w w') : Held X w' A c recs := by
  obtain ⟨vals, h1, h2⟩ := h
  exact ⟨vals, h1.same k, h2.bk kb⟩
theorem Held.below (h : Held X w A c recs) (hb : Below w.heap.size w w') : Held X w' A c recs := by
  obtain ⟨vals, h1, h2⟩ := h
  exact ⟨vals, Row.below h1 hb, h2.fr (Fr.of_below (S := Non) hb)⟩
theorem Held.mono (h : Held X w A c recs) (hs : ∀ x, X x → X' x) : Held X' w A c recs := by
  obtain ⟨vals, h1, h2⟩ := h
  exact ⟨vals, h1.mono (fun x _ hx => hs x hx), h2⟩
theorem Held.cap (h : Held X w A c recs) : recs.length ≤ c ∧ c ≤ maxLen := by
  obtain ⟨vals, h1, h2⟩ := h
  obtain ⟨A', c', e, h3, h4⟩ := h1.val
  injection e with e1 e2 e3
  subst e3
  exact ⟨by omega, h4⟩
theorem Held.take (h : Held X w A c recs) (n : Nat) (hn : n ≤ recs.length) : ∃ vals, Row X w TBs (.slice A n c) vals ∧ Recs w vals (recs.take n) := by
  obtain ⟨vals, h1, h2⟩ := h
  have hr : Recs w (vals.take n) (recs.take n) := by
    refine ⟨by rw [List.length_take, List.length_take, h2.1], fun i r hr => ?_⟩
    rw [List.getElem?_take] at hr
    split at hr
    · rename_i hi
      obtain ⟨A, c, h3, h4⟩ := h2.2 i r hr
      exact ⟨A, c, by rw [List.getElem?_take_of_lt hi]; exact h3, h4⟩
    · cases hr
  refine ⟨vals.take n, ?_, hr⟩
  have hvl := h2.1
  rcases h1 with ⟨e, h3⟩ | ⟨g, o, c', cur, e, h3, h4, h5, h6, h7, h8⟩
  · injection e with e1 e2 e3
    subst e1 e3
    obtain rfl : n = 0 := by omega
    exact .inl ⟨rfl, rfl⟩
  · injection e with e1 e2 e3
    subst e1 e3
    refine .inr ⟨g, o, c, cur, by rw [List.length_take]; congr 1; omega, h3, h4, by rw [List.length_take]; omega, h6, h7, ?_⟩
    rw [List.length_take, Nat.min_eq_left (by omega), ← h8, List.take_take, Nat.min_eq_left (by omega)]
theorem Held.drop (h : Held X w A c recs) (n : Nat) (hn : n < recs.length) : ∃ g o, A = some ⟨g, o, none⟩ ∧ Held X w (some ⟨g, o + n, none⟩) (c - n) (recs.drop n) := by
  obtain ⟨vals, h1, h2⟩ := h
  have hvl := h2.1
  obtain ⟨g, o, c', e, h3, h4⟩ := h1.drop (n := n) (by omega)
  injection e with e1 e2 e3
  subst e1 e3
  refine ⟨g, o, rfl, vals.drop n, ?_, ?_⟩
  · rw [List.length_drop, ← hvl]
    exact h4
  · refine ⟨by rw [List.length_drop, List.length_drop, hvl], fun i r hr => ?_⟩
    rw [List.getElem?_drop] at hr
    obtain ⟨A, c, h5, h6⟩ := h2.2 _ r hr
    exact ⟨A, c, by rw [List.getElem?_drop]; exact h5, h6⟩
theorem alike_H {Xa Xb : Nat → Prop} {B : Option Addr} {cb : Nat} {ys : List (List UInt8)} (ha : Held Xa w A c recs) (hb : Held Xb w B cb ys) :
    Calls Tryd.prog 45 #[.slice A recs.length c, .slice B ys.length cb] w fun e w' => e = .returned (.bool (decide (recs = ys))) ∧ Below w.heap.size w w' := by
  obtain ⟨va, h1, h2⟩ := ha
  obtain ⟨vb, h3, h4⟩ := hb
  exact alike_B w A recs c va B ys cb vb h1 h2 h3 h4
theorem alike_take {Xa Xb : Nat → Prop} {B : Option Addr} {cb : Nat} {ys : List (List UInt8)} (ha : Held Xa w A c recs) (hb : Held Xb w B cb ys) (n : Nat) (hn : n ≤ ys.length) :
    Calls Tryd.prog 45 #[.slice A recs.length c, .slice B n cb] w fun e w' => e = .returned (.bool (decide (recs = ys.take n))) ∧ Below w.heap.size w w' := by
  obtain ⟨va, h1, h2⟩ := ha
  obtain ⟨vb, h3, h4⟩ := hb.take n hn
  have hl : (ys.take n).length = n := by rw [List.length_take]; omega
  have := alike_B w A recs c va B (ys.take n) cb vb h1 h2 (by rw [hl]; exact h3) h4
  rw [hl] at this
  exact this
theorem alike_take2 {Xa Xb : Nat → Prop} {B : Option Addr} {cb : Nat} {ys : List (List UInt8)} (ha : Held Xa w A c recs) (hb : Held Xb w B cb ys) (n : Nat) (hn : n ≤ recs.length) :
    Calls Tryd.prog 45 #[.slice A n c, .slice B ys.length cb] w fun e w' => e = .returned (.bool (decide (recs.take n = ys))) ∧ Below w.heap.size w w' := by
  obtain ⟨va, h1, h2⟩ := ha.take n hn
  obtain ⟨vb, h3, h4⟩ := hb
  have hl : (recs.take n).length = n := by rw [List.length_take]; omega
  have := alike_B w A (recs.take n) c va B ys cb vb (by rw [hl]; exact h1) h2 h3 h4
  rw [hl] at this
  exact this
theorem alike_nil (w : World) (A B : Option Addr) (ca cb : Nat) : Calls Tryd.prog 45 #[.slice A 0 ca, .slice B 0 cb] w fun e w' => e = .returned (.bool true) ∧ Below w.heap.size w w' := by
  go_enter Tryd.func45, Tryd.ntmps45
  go_wp2
  go_loopw [13] (fun i wr => i = .int .i64 0 ∧ Below w.heap.size w wr) (fun _ _ => 0)
  case atStart => exact ⟨rfl, Below.refl _ _⟩
  case round =>
    obtain ⟨rfl, hb9⟩ := hrel
    go_wp2
    go_ret
    exact ⟨rfl, hb9⟩
end

/-- WHAT all leaves, for a law -/
theorem all_H {W w : World} {b : Nat} {L : Lg} {X : Nat → Prop} (h : LiveG W w b L X) {m : Nat} (hinv : L.inv m) (hm : m ≤ 1048576) :
    Calls Tryd.prog 40 #[.pointer (some ⟨b, 0, none⟩)] w fun e w' => ∃ A c, e = .returned (.tuple #[.slice A L.recs.length c, .bool true]) ∧ Held (Up X w w') w' A c L.recs ∧ LiveG W w' b L (Up X w w') ∧ Below w.heap.size w w' := by
  refine (all_G h hinv hm).mono ?_
  rintro e w' ⟨A, c, vals, rfl, h1, h2, h3, h4⟩
  exact ⟨A, c, rfl, ⟨vals, h1.mono (fun x hl hx => .inr ⟨hx, hl⟩), h2⟩, h3, h4⟩
end Go.Proofs.YtediidajdpdeiaaDoor
