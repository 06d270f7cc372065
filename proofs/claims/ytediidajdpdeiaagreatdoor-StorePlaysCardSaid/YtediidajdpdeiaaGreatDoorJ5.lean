/- The document's log in memory (layer 7): its disks, each for itself. -/
import Derived.Test.YtediidajdpdeiaaGreatDoorJ3
import Derived.Test.YtediidajdpdeiaaGreatDoorJ4
import Derived.Test.YtediidajdpdeiaaGreatDoorJ0
import Derived.RangeFuncNested
import Derived.RangeFuncBound
import Derived.RangeFuncCalls
import Derived.RangeFuncLeaves
import Derived.OrdersIn
import Derived.OwnWalkIn
import Derived.Test.YtediidajdpdeiaaGreatDoorJ1
import Derived.Shelf.Abstract
import Derived.Shelf.RegionOpen
import Derived.WalkKit
import Derived.TacticsInMore
import Derived.LoopNIn
import Derived.LoopIn
import Derived.Laws.ResultCell
import Derived.Test.YtediidajdpdeiaaGreatDoorJ2

namespace Go.Proofs.YtediidajdpdeiaaGreatDoor
open Go.RowKit CrcM
set_option maxRecDepth 100000

/-- block b is a disk of the document's -/
def RefB (S : Nat → Prop) (w : World) (b : Nat) (R : Rk) : Prop := ∃ A1 c1 A2 c2, RefAt S w b A1 c1 A2 c2 R
theorem RefB.fr {S S' : Nat → Prop} {w w' : World} {b : Nat} {R : Rk} (h : RefB S w b R) (f : Fr S' w w') (hd : ∀ x, S x → S' x → IsB w x) : RefB S w' b R := by
  obtain ⟨A1, c1, A2, c2, h⟩ := h
  exact ⟨A1, c1, A2, c2, h.fr f hd⟩
theorem RefB.lt {S : Nat → Prop} {w : World} {b : Nat} {R : Rk} (h : RefB S w b R) : ∀ x, S x → x < w.heap.size := by
  obtain ⟨A1, c1, A2, c2, h⟩ := h
  exact h.lt
theorem RefB.mono {S S' : Nat → Prop} {w : World} {b : Nat} {R : Rk} (h : RefB S w b R) (hs : ∀ x, S x → S' x) (hl : ∀ x, S' x → x < w.heap.size) : RefB S' w b R := by
  obtain ⟨A1, c1, A2, c2, h⟩ := h
  exact ⟨A1, c1, A2, c2, h.blk, h.own1.mono hs, h.own2.mono hs, hs _ h.inS, hl, h.cap1, h.cap2, h.ok⟩

/-- blocks ps are the document's disks, each for itself, none in H -/
def Refs (S H : Nat → Prop) (w : World) (ps : List Nat) (gs : List Rk) : Prop :=
  ∃ F : Nat → Nat → Prop, (∀ i x, F i x → S x ∧ ¬ H x ∧ x < w.heap.size) ∧ (∀ i j x, i ≠ j → F i x → F j x → IsB w x) ∧ ps.length = gs.length ∧ ∀ i p g, ps[i]? = some p → gs[i]? = some g → RefB (F i) w p g

section
variable {w w' : World} {S S' H H' : Nat → Prop} {ps : List Nat} {gs : List Rk}
theorem Refs.nil (S H : Nat → Prop) (w : World) : Refs S H w [] [] := ⟨fun _ _ => False, fun _ _ h => h.elim, fun _ _ _ _ h => h.elim, rfl, fun i p g h => by simp at h⟩
theorem Refs.len (h : Refs S H w ps gs) : ps.length = gs.length := h.choose_spec.2.2.1
theorem Refs.fr (h : Refs S H w ps gs) (f : Fr S' w w') (hd : ∀ x, S x → ¬ H x → S' x → IsB w x) : Refs S H w' ps gs := by
  obtain ⟨F, h1, h2, h3, h4⟩ := h
  exact ⟨F, fun i x hx => ⟨(h1 i x hx).1, (h1 i x hx).2.1, Nat.lt_of_lt_of_le (h1 i x hx).2.2 f.size⟩, fun i j x n p q => (h2 i j x n p q).fr f, h3, fun i p g hp hg => (h4 i p g hp hg).fr f fun x p q => hd x (h1 i x p).1 (h1 i x p).2.1 q⟩
theorem Refs.mono (h : Refs S H w ps gs) (hs : ∀ x, x < w.heap.size → S x → S' x) (hh : ∀ x, x < w.heap.size → S x → H' x → H x) : Refs S' H' w ps gs := by
  obtain ⟨F, h1, h2, h3, h4⟩ := h
  exact ⟨F, fun i x hx => ⟨hs x (h1 i x hx).2.2 (h1 i x hx).1, fun k => (h1 i x hx).2.1 (hh x (h1 i x hx).2.2 (h1 i x hx).1 k), (h1 i x hx).2.2⟩, h2, h3, h4⟩
/-- one segment alone, and what becomes of all when it turns -/
theorem Refs.at (h : Refs S H w ps gs) {i p : Nat} {g : Rk} (hp : ps[i]? = some p) (hg : gs[i]? = some g) :
    ∃ Fi : Nat → Prop, (∀ x, Fi x → S x ∧ ¬ H x ∧ x < w.heap.size) ∧ RefB Fi w p g ∧
      ∀ w' p' g', Fr Fi w w' → (∀ x, H x → x < w.heap.size) → RefB (Up Fi w w') w' p' g' → Refs (Up S w w') H w' (ps.set i p') (gs.set i g') := by
  obtain ⟨F, h1, h2, h3, h4⟩ := h
  refine ⟨F i, h1 i, h4 i p g hp hg, fun w' p' g' f hH hs => ?_⟩
  refine ⟨fun j x => (j = i → Up (F i) w w' x) ∧ (j ≠ i → F j x), ?_, ?_, by rw [List.length_set, List.length_set]; exact h3, ?_⟩
  · intro j x hx
    by_cases hj : j = i
    · rcases hx.1 hj with hx | hx
      · exact ⟨.inl (h1 i x hx).1, (h1 i x hx).2.1, Nat.lt_of_lt_of_le (h1 i x hx).2.2 f.size⟩
      · exact ⟨.inr hx, fun k => by have := hH x k; omega, hx.2⟩
    · have hx := hx.2 hj
      exact ⟨.inl (h1 j x hx).1, (h1 j x hx).2.1, Nat.lt_of_lt_of_le (h1 j x hx).2.2 f.size⟩
  · intro j k x hn hj hk
    by_cases h5 : j = i
    · have h6 : k ≠ i := by omega
      have hk := hk.2 h6
      rcases hj.1 h5 with hj | hj
      · exact (h2 i k x (by omega) hj hk).fr f
      · have := (h1 k x hk).2.2; omega
    · have hj := hj.2 h5
      by_cases h6 : k = i
      · rcases hk.1 h6 with hk | hk
        · exact (h2 j i x h5 hj hk).fr f
        · have := (h1 j x hj).2.2; omega
      · exact (h2 j k x hn hj (hk.2 h6)).fr f
  · intro j q g2 hq hg2
    by_cases hji : j = i
    · rcases set_at hq with ⟨_, rfl⟩ | ⟨h, _⟩
      · rcases set_at hg2 with ⟨_, rfl⟩ | ⟨h, _⟩
        · exact hs.mono (fun x hx => ⟨fun _ => hx, fun h => (h hji).elim⟩) (fun x hx => hs.lt x (hx.1 hji))
        · exact (h hji).elim
      · exact (h hji).elim
    · rcases set_at hq with ⟨h, _⟩ | ⟨_, hq⟩
      · exact (hji h).elim
      · rcases set_at hg2 with ⟨h, _⟩ | ⟨_, hg2⟩
        · exact (hji h).elim
        · have := (h4 j q g2 hq hg2).fr f fun x p q => h2 j i x hji p q
          exact this.mono (fun x hx => ⟨fun h => (hji h).elim, fun _ => hx⟩) (fun x hx => this.lt x (hx.2 hji))
/-- one more, of its own -/
theorem Refs.snoc (h : Refs S H w ps gs) (f : Fr S' w w') (hd : ∀ x, S x → ¬ H x → S' x → IsB w x) (hH : ∀ x, H x → x < w.heap.size) {p : Nat} {g : Rk} (hs : RefB (Nw w w') w' p g) : Refs (Up S w w') H w' (ps ++ [p]) (gs ++ [g]) := by
  have h' := h.fr f hd
  obtain ⟨F, h1, h2, h3, h4⟩ := h
  refine ⟨fun j x => (j = ps.length → Nw w w' x) ∧ (j ≠ ps.length → F j x), ?_, ?_, by simp [h3], ?_⟩
  · intro j x hx
    by_cases hj : j = ps.length
    · have hx := hx.1 hj
      exact ⟨.inr hx, fun k => by have := hH x k; have := hx.1; omega, hx.2⟩
    · have hx := hx.2 hj
      exact ⟨.inl (h1 j x hx).1, (h1 j x hx).2.1, Nat.lt_of_lt_of_le (h1 j x hx).2.2 f.size⟩
  · intro j k x hn hj hk
    by_cases h5 : j = ps.length
    · have h6 : k ≠ ps.length := by omega
      have := (h1 k x (hk.2 h6)).2.2
      have := (hj.1 h5).1
      omega
    · by_cases h6 : k = ps.length
      · have := (h1 j x (hj.2 h5)).2.2
        have := (hk.1 h6).1
        omega
      · exact (h2 j k x hn (hj.2 h5) (hk.2 h6)).fr f
  · intro j q g2 hq hg2
    by_cases hj : j = ps.length
    · subst hj
      rw [List.getElem?_append_right (Nat.le_refl _)] at hq
      rw [h3, List.getElem?_append_right (Nat.le_refl _)] at hg2
      simp only [Nat.sub_self, List.getElem?_cons_zero, Option.some.injEq] at hq hg2
      subst hq; subst hg2
      exact hs.mono (fun x hx => ⟨fun _ => hx, fun h => (h rfl).elim⟩) (fun x hx => hs.lt x (hx.1 rfl))
    · have hlt : j < ps.length := by
        have := (List.getElem?_eq_some_iff.1 hq).1
        rw [List.length_append, List.length_singleton] at this
        omega
      rw [List.getElem?_append_left hlt] at hq
      rw [List.getElem?_append_left (by omega)] at hg2
      have := (h4 j q g2 hq hg2).fr f fun x p q => hd x (h1 j x p).1 (h1 j x p).2.1 q
      exact this.mono (fun x hx => ⟨fun h => (hj h).elim, fun _ => hx⟩) (fun x hx => this.lt x (hx.2 hj))
theorem Refs.tail {p : Nat} {g : Rk} (h : Refs S H w (p :: ps) (g :: gs)) : Refs S H w ps gs := by
  obtain ⟨F, h1, h2, h3, h4⟩ := h
  exact ⟨fun j => F (j + 1), fun i => h1 (i + 1), fun i j x n => h2 (i + 1) (j + 1) x (by omega), by simpa using h3, fun i p g hp hg => h4 (i + 1) p g (by simpa using hp) (by simpa using hg)⟩
theorem Refs.take (h : Refs S H w ps gs) (n : Nat) : Refs S H w (ps.take n) (gs.take n) := by
  obtain ⟨F, h1, h2, h3, h4⟩ := h
  refine ⟨F, h1, h2, by simp [h3], fun i p g hp hg => ?_⟩
  rw [List.getElem?_take] at hp hg
  split at hp
  · rename_i hi
    rw [if_pos hi] at hg
    exact h4 i p g hp hg
  · cases hp
end

end Go.Proofs.YtediidajdpdeiaaGreatDoor

/- A range over a function whose rounds are handed what the world holds: my own law, at the wide fence. And: a region of a round by the plain rules. -/
namespace Go.Proofs.YtediidajdpdeiaaGreatDoor
open Go.RowKit

/-- how a round's body may be left -/
def roundPost (B : Nat) (I : Nat → World → Prop) (Ix : Code → Nat → World → Prop) (k : Nat) (W : World) : Exit → Act → World → Prop
  | .normal, _, W' => KeepsFrom B W W' ∧ I (k + 1) W'
  | .ret, _, W' => KeepsFrom B W W' ∧ Ix .ret (k + 1) W'
  | .exit id, _, W' => KeepsFrom B W W' ∧ Ix (.exit id) (k + 1) W'
  | .goto t, _, W' => KeepsFrom B W W' ∧ Ix (.goto t) (k + 1) W'
  | .panic _, _, _ => False
  | .outgrown, _, _ => False

/-- an iterator's word: rounds are handed what Gv says; S: how many, where all have come -/
def Iterates (P : Program) (gf : Nat) (lb : Array Value) (Gv : Nat → Array Value → World → Prop) (I : Nat → World → Prop) (S : Nat → Prop) (w : World) : Prop :=
  ∀ (n l : Nat) (J Jx : Nat → World → Prop) (W : World), Below w.heap.size w W → (∀ k W, J k W → I k W) → OwnFrom W.heap.size J → 
    (∀ k v W1, J k W1 → Gv k v W1 → YieldAt Fence.wide (n - 1) P l v W1 fun e W' => (e = .returned (.bool true) ∧ J (k + 1) W') ∨ (e = .returned (.bool false) ∧ Jx (k + 1) W')) →
    J 0 W →
    CallsIn Fence.wide n P gf (#[.func (.yield l) #[] #[]] ++ lb) W fun e W' => (∃ v, e = .returned v) ∧ ((∃ k, S k ∧ J k W') ∨ (∃ k, Jx k W'))

theorem wp_rangeFunc_G {P : Program} {g : Operand} {ps : Array Tmp} {assign body : Code} {Q : Exit → Act → World → Prop} {a : Act} {w : World} {n : Nat}
    {gf : Nat} {lb : Array Value} (hg : a.eval g = .func (.func gf) #[] lb) (eg : ∀ args w, (callFunc gf args).run P w = .ok (.enter gf args) w)
    {Gv : Nat → Array Value → World → Prop} {I : Nat → World → Prop} {S : Nat → Prop} (hseq : Iterates P gf lb Gv I S w)
    (hps : ∀ k v W, Gv k v W → v.size = ps.size) (hG : ∀ v, OwnFrom w.heap.size fun k W => Gv k v W)
    (Ix : Code → Nat → World → Prop) (hI : OwnFrom w.heap.size I) (hIx : ∀ c, OwnFrom w.heap.size (Ix c)) (h0 : I 0 w) (a₁ : Array Value → Act)
    (hassign : ∀ (l : Nat) (k : Nat) (v : Array Value) (W : World) (K : Act → World → Prop), Gv k v W → K (a₁ v) W →
      assign.wpIn (Fence.wide.inRound l) n P (Exit.then K (fun _ _ _ => False)) { tmps := (ps.zip v).foldl (fun t (p, v) => t.setIfInBounds p v) a.tmps, defers := [] } W)
    (hbody : ∀ (l : Nat) (k : Nat) (v : Array Value) (W : World), I k W → Gv k v W → body.wpIn (Fence.wide.inRound l) n P (roundPost w.heap.size I Ix k W) (a₁ v) W)
    (hdone : ∀ (D k : Nat) (W : World), w.heap.size ≤ D → S k → I k W → W.heap[D]? = some (.deferred (some [])) → Q .normal { a with defers := { target := .collected D, args := #[] } :: a.defers } W)
    (hstop : ∀ (D : Nat) (c : Code) (k : Nat) (W : World), w.heap.size ≤ D → Ix c k W → W.heap[D]? = some (.deferred (some [])) → c.wpIn Fence.wide (n + 2) P Q { a with defers := { target := .collected D, args := #[] } :: a.defers } W) :
    (Code.rangeFunc g ps assign body).wpIn Fence.wide (n + 2) P Q a w := by
  refine wpIn_rangeFunc ?_
  intro fn hfn
  obtain ⟨rec, hrec⟩ : ∃ rec : LoopState → Option Code → Loop, rec = fun st pe => { state := st, pending := pe, fn, tmps := a.tmps, params := ps, assign, body, defers := w.heap.size } := ⟨_, rfl⟩
  obtain ⟨W1, hW1⟩ : ∃ W1, (w.alloc (.deferred (some []))).alloc (.loop (rec .ready none)) = W1 := ⟨_, rfl⟩
  have hL1 : W1.heap[w.heap.size + 1]? = some (.loop (rec .ready none)) := by
    rw [← hW1]; have := World.alloc_heap_new (w.alloc (.deferred (some []))) (.loop (rec .ready none)); rwa [World.size_alloc] at this
  have hK1 : W1.heap[w.heap.size]? = some (.deferred (some [])) := by
    rw [← hW1]; exact (Below.heap_alloc _ _ _ (by simp)).trans (World.alloc_heap_new w _)
  have hI1 : I 0 W1 := by rw [← hW1]; exact hI.alloc _ (hI.alloc _ h0)
  have hb1 : Below w.heap.size w W1 := by
    rw [← hW1]; exact ((Below.refl _ w).alloc (Nat.le_refl _) _).alloc (by simp) _
  refine ⟨w.heap.size + 1, [{ target := .collected w.heap.size, args := #[] }], W1, { target := .fn (.func gf) lb, args := #[.func (.yield (w.heap.size + 1)) #[] #[]] }, W1, gf,
    #[.func (.yield (w.heap.size + 1)) #[] #[]] ++ lb, W1, ?_, ?_, ?_, ?_, fun _ => by omega, ?_⟩
  · rw [← hW1, hrec]; exact run_enterLoop_outer _ _ _ _ _
  · simp only [resolve, hg]
    simp [go_sem]
  · intro f' hf'; trivial
  · simp [invoke, go_sem, eg]
  · refine (hseq (n + 1) (w.heap.size + 1)
      (fun k W => I k W ∧ W.heap[w.heap.size + 1]? = some (.loop (rec .ready none)) ∧ W.heap[w.heap.size]? = some (.deferred (some [])))
      (fun k W => ∃ c, Ix c k W ∧ W.heap[w.heap.size + 1]? = some (.loop (rec .done (some c))) ∧ W.heap[w.heap.size]? = some (.deferred (some [])))
      W1 hb1 (fun _ _ h => h.1) ?_ ?_ ⟨hI1, hL1, hK1⟩).mono ?_
    · -- the iterator's own steps
      intro s A B row hs hg' hr
      have hlt : w.heap.size + 1 < W1.heap.size := (Array.getElem?_eq_some_iff.1 hL1).1
      refine ⟨hI s A B row hs.1 hg' (fun r e => ⟨by have := (hr r e).1; omega, (hr r e).2⟩), ?_, ?_⟩
      · refine (hg'.block _ (Array.getElem?_eq_some_iff.1 hs.2.1).1 ?_).trans hs.2.1
        intro e; have := (hr _ e.symm).1; omega
      · refine (hg'.block _ (Array.getElem?_eq_some_iff.1 hs.2.2).1 ?_).trans hs.2.2
        intro e; have := (hr _ e.symm).1; omega
    · -- one round
      rintro k v W ⟨hi, hl, hk⟩ hgv
      have hlt : w.heap.size + 1 < W.heap.size := (Array.getElem?_eq_some_iff.1 hl).1
      have hy := run_yield (P := P) (args := v) hl (by rw [hrec]; exact hps k v W hgv)
      rw [hrec] at hy
      refine ⟨fn, _, assign, body, hy, roundIn_of_wpIn hfn (hassign _ k v W _ hgv ⟨_, run_beginRound hl (by rw [hrec]), ?_⟩)⟩
      have hl2 : (W.putObj (w.heap.size + 1) (.loop { rec .ready none with state := .busy })).heap[w.heap.size + 1]? = some (.loop { rec .ready none with state := .busy }) := World.putObj_heap_same hlt
      have hk2 : (W.putObj (w.heap.size + 1) (.loop { rec .ready none with state := .busy })).heap[w.heap.size]? = some (.deferred (some [])) := (World.putObj_heap_other (by omega)).trans hk
      refine wpIn_mono (hbody _ k v _ (hI.putObj _ hi (by omega) hl rfl) ((hG v).putObj _ hgv (by omega) hl rfl)) ?_
      have fin : ∀ (jump : Option Code) (W3 : World), KeepsFrom w.heap.size (W.putObj (w.heap.size + 1) (.loop { rec .ready none with state := .busy })) W3 →
          (Instr.endRound (w.heap.size + 1) jump).run P W3 = .ok (.bool jump.isNone) (W3.putObj (w.heap.size + 1) (.loop (rec (if jump.isNone then .ready else .done) jump))) ∧
          W3.heap[w.heap.size + 1]? = some (.loop { rec .ready none with state := .busy }) ∧
          (W3.putObj (w.heap.size + 1) (.loop (rec (if jump.isNone then .ready else .done) jump))).heap[w.heap.size + 1]? = some (.loop (rec (if jump.isNone then .ready else .done) jump)) ∧
          (W3.putObj (w.heap.size + 1) (.loop (rec (if jump.isNone then .ready else .done) jump))).heap[w.heap.size]? = some (.deferred (some [])) := fun jump W3 hk3 => by
        have hl3 := hk3.same _ _ (by omega) hl2 rfl
        have := run_endRound (P := P) jump hl3
        rw [hrec] at this ⊢
        exact ⟨this, by rw [hrec] at hl3; exact hl3, World.putObj_heap_same (Array.getElem?_eq_some_iff.1 hl3).1, (World.putObj_heap_other (by omega)).trans (hk3.same _ _ (Nat.le_refl _) hk2 rfl)⟩
      rintro e a3 W3 hp
      cases e with
      | normal =>
        obtain ⟨hk3, hi3⟩ := hp
        obtain ⟨hr, hl3, hl4, hk4⟩ := fin none W3 hk3
        exact ⟨_, _, hr, .inl ⟨rfl, hI.putObj _ hi3 (by omega) hl3 rfl, hl4, hk4⟩⟩
      | ret =>
        obtain ⟨hk3, hi3⟩ := hp
        obtain ⟨hr, hl3, hl4, hk4⟩ := fin (some .ret) W3 hk3
        exact ⟨_, _, hr, .inr ⟨rfl, .ret, (hIx _).putObj _ hi3 (by omega) hl3 rfl, hl4, hk4⟩⟩
      | exit id =>
        obtain ⟨hk3, hi3⟩ := hp
        obtain ⟨hr, hl3, hl4, hk4⟩ := fin (some (.exit id)) W3 hk3
        exact ⟨_, _, hr, .inr ⟨rfl, .exit id, (hIx _).putObj _ hi3 (by omega) hl3 rfl, hl4, hk4⟩⟩
      | goto t =>
        obtain ⟨hk3, hi3⟩ := hp
        obtain ⟨hr, hl3, hl4, hk4⟩ := fin (some (.goto t)) W3 hk3
        exact ⟨_, _, hr, .inr ⟨rfl, .goto t, (hIx _).putObj _ hi3 (by omega) hl3 rfl, hl4, hk4⟩⟩
      | panic ch => exact hp.elim
      | outgrown => exact hp.elim
    · rintro e W2 ⟨⟨v, rfl⟩, (⟨k, hS, hi, hl, hk⟩ | ⟨k, c, hi, hl, hk⟩)⟩
      · exact ⟨none, _, by have := run_endLoop (P := P) hl (by rw [hrec]; simp); rw [hrec] at this; exact this, hdone _ k _ (Nat.le_refl _) hS (hI.putObj _ hi (by omega) hl rfl) ((World.putObj_heap_other (by omega)).trans hk)⟩
      · exact ⟨some c, _, by have := run_endLoop (P := P) hl (by rw [hrec]; simp); rw [hrec] at this; exact this, hstop _ c k _ (Nat.le_refl _) ((hIx c).putObj _ hi (by omega) hl rfl) ((World.putObj_heap_other (by omega)).trans hk)⟩

/-! a round's regions by the plain rules -/
section
variable {P : Program} {Q : Exit → Act → World → Prop} {l m : Nat}
def noDefer (o : Oper) : Bool := match o.op with
  | .defer _ => false
  | _ => true
theorem noDefer.ne {o : Oper} (h : noDefer o = true) : ∀ c, o.op ≠ .defer c := by
  intro c e; unfold noDefer at h; rw [e] at h; cases h

theorem oper_in {o : Oper} {a : Act} {w : World} {K : Act → World → Prop} (hd : noDefer o = true) (h : o.wp P a w K Q) : o.wpIn (Fence.wide.inRound l) m P a w K Q := by
  refine ⟨fun _ _ => trivial, ?_⟩
  rw [Fence.inRound_round, Oper.semAt_some l _ _ (noDefer.ne hd)]
  unfold Oper.wp at h
  generalize (execOp a.eval o).run P w = r at h ⊢
  cases r with
  | ok nx w' =>
    cases nx with
    | value v => exact h
    | skip => exact h
    | defer d => exact h
    | enter f args => exact ⟨fun e => (by cases e), CallsIn.inRound l (callsIn_wide.2 h)⟩
    | row rw_ args =>
      refine ⟨fun e => (by cases e), ?_⟩
      intro c cs _
      obtain ⟨v, w'', r, s⟩ := h c cs
      exact ⟨v, w'', r, stepsIn_wide.2 s⟩
    | round l f tmps assign body => exact h.elim
    | _ => exact h.elim
  | halt hx w' =>
    cases hx with
    | panic v => exact h
    | _ => exact h.elim

theorem any_in {md : Region.Mode} {ops : Array Oper} (hno : ¬ LetsOut Q) (hd : ∀ (i : Nat) (o : Oper), ops[i]? = some o → noDefer o = true) : ∀ (fuel : Nat) (listed : Array Bool) (a : Act) (w : World), wpAny P md ops Q fuel listed a w → wpAnyIn (Fence.wide.inRound l) m P md ops Q fuel listed a w
  | 0, _, _, _, h => h
  | fuel + 1, listed, a, w, h => by
    refine ⟨h.1, fun i hi => ?_⟩
    have h1 := h.2 i hi
    unfold wpOp at h1
    unfold wpOpIn
    split at h1
    · rename_i e; simp only [e]; exact any_in hno hd fuel _ a w h1
    · rename_i o e
      simp only [e]
      split at h1
      · rename_i hw
        rw [if_pos hw]
        rcases h1 with h1 | ⟨_, h1⟩
        · exact Oper.wpIn_mono (fun a w h => any_in hno hd fuel _ a w h) (oper_in (hd i o e) h1)
        · exact absurd h1 hno
      · rename_i hw
        rw [if_neg hw]
        exact ⟨fun _ _ => trivial, any_in hno hd fuel _ _ w h1⟩

/-- a region of a round that draws its order -/
theorem wpIn_region_T {ops : Array Oper} (T : Anc) (R : List Nat) (S : World → Prop) (n : Nat) {id : Nat} {a : Act} {w : World} (hn : ops.size = n) (hm : P.follows .mixedOrders = true)
    (hd : ops.all noDefer = true) (hno : ¬ LetsOut Q)
    (h : wpAnyT P .any ops Q T R S n (Array.replicate n false) a w.drew) : (Code.region id ops true).wpIn (Fence.wide.inRound l) m P Q a w := by
  subst hn
  refine wpIn_region_any hm (any_in hno ?_ _ _ _ _ (wpAny_of_T _ _ _ _ h))
  intro i o ho
  obtain ⟨hlt, e⟩ := Array.getElem?_eq_some_iff.1 ho
  have := (Array.all_eq_true.1 hd) i hlt
  rw [e] at this; exact this
end

end Go.Proofs.YtediidajdpdeiaaGreatDoor

/- crc.All: the iterator's word. -/
namespace Go.Proofs.YtediidajdpdeiaaGreatDoor
open Go.RowKit Go.Shelf CrcM
attribute [local go_sem] Oper.semAt_some
set_option maxRecDepth 100000

theorem OwnFrom.below {B : Nat} {J : Nat → World → Prop} (h : OwnFrom B J) {k : Nat} {W W' : World} (hs : J k W) (hb : Below W.heap.size W W') : J k W' :=
  h k W W' none hs ⟨hb.os, hb.tape, hb.output, hb.size, fun j hj _ => hb.block j hj⟩ (fun _ e => by cases e)

/-- where the k-th body lies -/
inductive Pos (b : List UInt8) : Nat → Nat → Prop
  | start : Pos b 0 0
  | step {k at_ : Nat} {body : List UInt8} {en : Nat} : Pos b k at_ → next b at_ = .ok (body, en) → Pos b (k + 1) en

theorem next_ok {b : List UInt8} {at_ : Nat} {p : List UInt8 × Nat} (h : next b at_ = .ok p) : at_ < p.2 ∧ p.2 ≤ b.length ∧ p.1.length ≤ 65536 ∧ p.2 = at_ + 12 + p.1.length := by
  unfold next at h
  split at h
  · cases h
  · split at h
    · cases h
    · rename_i h1 h2
      rw [Int.toNat_natCast] at h
      simp only at h
      split at h
      · cases h
      · split at h
        · cases h
        · split at h
          · cases h
          · split at h
            · cases h
            · rename_i h3 h4 h5 h6
              injection h with h; subst h
              rw [List.length_drop] at h5
              simp only [List.length_take, List.length_drop]
              omega

theorem next_err {b : List UInt8} {a r : Int} (h : next b a = .error r) : r ≠ 0 := by
  unfold next at h
  split at h
  · injection h with h; omega
  · split at h
    · injection h with h; omega
    · simp only at h
      split at h
      · injection h with h; omega
      · split at h
        · injection h with h; omega
        · split at h
          · injection h with h; omega
          · split at h
            · injection h with h; omega
            · cases h

theorem Pos.le {b : List UInt8} {k at_ : Nat} (h : Pos b k at_) : at_ ≤ b.length := by
  cases h with
  | start => omega
  | step _ hn => exact (next_ok hn).2.1

def AllS (b : List UInt8) (k : Nat) : Prop := ∃ at_ r, Pos b k at_ ∧ next b at_ = .error r
/-- what the iterator reads -/
def AllNeeds (bx : Nat) (A : Option Addr) (c : Nat) (b : List UInt8) (W : World) : Prop :=
  HalfAt W ∧ W.cell? ⟨bx, 0, none⟩ = some (.slice A b.length c) ∧ Rd Non W A b

end Go.Proofs.YtediidajdpdeiaaGreatDoor

/- crc.Good: the walk. -/
namespace Go.Proofs.YtediidajdpdeiaaGreatDoor
open Go.RowKit Go.Shelf CrcM
attribute [local go_sem] Oper.semAt_some
set_option maxRecDepth 100000

theorem Pos.det {b : List UInt8} {k p q : Nat} (h : Pos b k p) (h' : Pos b k q) : p = q := by
  induction h generalizing q with
  | start => cases h'; rfl
  | step h1 h2 ih =>
    cases h' with
    | step h3 h4 =>
      have := ih h3; subst this
      rw [h2] at h4; injection h4 with h4; injection h4

theorem all_B (w : World) (A : Option Addr) (n c : Nat) :
    Calls Tryz.prog 178 #[.slice A n c] w fun e w' => e = .returned (.func (.func 188) #[] #[.pointer (some ⟨w.heap.size, 0, none⟩)]) ∧ w.alloc (.cells #[.slice A n c] 30) = w' := by
  go_enter Tryz.func178, Tryz.ntmps178
  go_wp2
  go_ret
  exact ⟨rfl, rfl⟩

/-- what Good answers -/
def GoodIs (b : List UInt8) (at_ : Nat) (r : Int) : Prop := ∃ k, Pos b k at_ ∧ (∃ r', next b at_ = .error r' ∧ r = if at_ = b.length then 0 else r')

theorem KeepsFrom.below {B : Nat} {W W' : World} (h : Below W.heap.size W W') : KeepsFrom B W W' :=
  ⟨h.size, fun k _ _ hk _ => (h.block k (Array.getElem?_eq_some_iff.1 hk).1).trans hk⟩

def GoodI (w : World) (A : Option Addr) (b : List UInt8) (c : Nat) (k : Nat) (W : World) : Prop :=
  ((∃ at_ : Nat, Pos b k at_ ∧ W.cell? ⟨w.heap.size + 1, 0, none⟩ = some (.int .i64 (at_ : Int))) ∧ W.frozen? ⟨w.heap.size + 1, 0, none⟩ = false ∧
    W.cell? ⟨w.heap.size, 0, none⟩ = some (.slice A b.length c) ∧ W.cell? ⟨w.heap.size + 2, 0, none⟩ = some (.slice A b.length c)) ∧ Below w.heap.size w W

theorem GoodI.own (w : World) (A : Option Addr) (b : List UInt8) (c : Nat) {B : Nat} (hB : w.heap.size ≤ B) : OwnFrom B (GoodI w A b c) := by
  refine OwnFrom.and ?_ (ownFrom_below (Nat.le_refl _) hB)
  rintro k W W' row ⟨⟨at_, hp, h1⟩, h2, h3, h4⟩ hg hr
  have hr' : ∀ r, row = some r → ∃ o : Obj, W.heap[r]? = some o ∧ o.isCells = false := fun r e => (hr r e).2
  exact ⟨⟨at_, hp, cell_kept h1 hg hr'⟩, (frozen_kept h1 hg hr').trans h2, cell_kept h3 hg hr', cell_kept h4 hg hr'⟩

end Go.Proofs.YtediidajdpdeiaaGreatDoor

/- crc.All: the iterator's word, where the bodies that are told are rows of one's own. -/
namespace Go.Proofs.YtediidajdpdeiaaGreatDoor
open Go.RowKit Go.Shelf CrcM
attribute [local go_sem] Oper.semAt_some
set_option maxRecDepth 100000

def AllGvO (b : List UInt8) (k : Nat) (v : Array Value) (W : World) : Prop :=
  ∃ at_ body en A c, Pos b k at_ ∧ next b at_ = .ok (body, en) ∧ v = #[.int .i64 (at_ : Int), .slice A body.length c] ∧ Own (fun _ => True) W A body ∧ body.length ≤ c ∧ c ≤ maxLen

theorem GvO_own (b : List UInt8) (v : Array Value) (B : Nat) : OwnFrom B fun k W => AllGvO b k v W := by
  intro k W W' row hs hg hr
  obtain ⟨at_, body, en, A, c, h1, h2, h3, h4, h5⟩ := hs
  refine ⟨at_, body, en, A, c, h1, h2, h3, ?_, h5⟩
  intro j x hx
  obtain ⟨ad, e, hc, ⟨cs, fz, hb⟩, _⟩ := h4 j x hx
  refine ⟨ad, e, cell_kept hc hg (fun r e => (hr r e).2), ⟨cs, fz, ?_⟩, trivial⟩
  refine (hg.block _ (Array.getElem?_eq_some_iff.1 hb).1 ?_).trans hb
  intro e
  obtain ⟨o, ho, hcs⟩ := (hr _ e.symm).2
  rw [hb] at ho
  injection ho with ho
  rw [← ho] at hcs
  cases hcs

set_option maxHeartbeats 1000000 in
theorem all_iteratesO (bx : Nat) (A : Option Addr) (c : Nat) (b : List UInt8) (hbc : b.length ≤ c) (hcm : c ≤ maxLen) (I : Nat → World → Prop) (hI : ∀ k W, I k W → AllNeeds bx A c b W) (w : World) :
    Iterates Tryz.prog 188 #[.pointer (some ⟨bx, 0, none⟩)] (AllGvO b) I (AllS b) w := by
  intro n l J Jx W hW hJI hJ hY h0
  refine callsIn_of_wp Tryz.func188 rfl trivial ?_ rfl
  simp only [Tryz.ntmps188, List.size_toArray, List.length_cons, List.length_nil, Nat.reduceAdd, Nat.reduceSub, Array.replicate_succ, Array.replicate_zero, List.push_toArray, List.append_toArray, List.nil_append, List.cons_append]
  gi_wp2
  gi_loopw [3] (fun p wr => ∃ k at_ : Nat, Pos b k at_ ∧ p = .int .i64 at_ ∧ J k wr) (fun p _ => b.length + 1 - (intOf p).toNat)
  case atStart => exact ⟨0, 0, .start, rfl, h0⟩
  case round =>
    obtain ⟨k, at_, hpos, rfl, hJk⟩ := hrel
    obtain ⟨hh, hbx, hrb⟩ := hI k _ (hJI k _ hJk)
    have hnx := next_B wr hh A b c b.length hrb rfl hbc hcm (at_ : Int)
    cases hn : next b at_ with
    | error r =>
      have hr0 : ¬ r = 0 := next_err hn
      gi_wp2_with (refine ⟨trivial, fun h_ => (by cases h_), ?_⟩; gi_at_call 158; refine (callsIn_wide.2 hnx).mono ?_; intro e w2 hd; unfold NextDid at hd; rw [hn] at hd; obtain ⟨rfl, hb2⟩ := hd)
      all_goals (refine ⟨fun _ h => (by cases h), ?_⟩; gi_wp2)
      refine bodyPost_ret (results_none rfl _ _ _) rfl ?_
      exact ⟨⟨_, rfl⟩, .inl ⟨k, ⟨at_, r, hpos, hn⟩, OwnFrom.below hJ hJk hb2⟩⟩
    | ok p =>
      obtain ⟨body, en⟩ := p
      have hno := Lib.hid (next_ok hn)
      gi_wp2_with (refine ⟨trivial, fun h_ => (by cases h_), ?_⟩; gi_at_call 158; refine (callsIn_wide.2 hnx).mono ?_; intro e w2 hd; unfold NextDid at hd; rw [hn] at hd; obtain ⟨A', c', rfl, ho, hc', hm', hb2⟩ := hd; obtain ⟨fn, tmps, asg, bdy, hy, hR⟩ := hY k #[.int .i64 (at_ : Int), .slice A' body.length c'] w2 (OwnFrom.below hJ hJk hb2) ⟨at_, body, en, A', c', hpos, hn, rfl, ho.mono (fun _ _ => trivial), hc', hm'⟩)
      refine ⟨fun h_ => (by cases h_), hR.mono ?_⟩
      rintro e W3 (⟨rfl, hJ3⟩ | ⟨rfl, hJx3⟩)
      · gi_wp2
        go_roundw
        case rel => exact ⟨k + 1, en, .step hpos hn, rfl, hJ3⟩
        case measure =>
          have := hno.out.1
          have := hno.out.2.1
          simp [intOf] at *
          omega
      · gi_wp2
        refine bodyPost_ret (results_none rfl _ _ _) rfl ?_
        exact ⟨⟨_, rfl⟩, .inr ⟨k + 1, hJx3⟩⟩
end Go.Proofs.YtediidajdpdeiaaGreatDoor

/- What a segment's bytes say when they are read from the front on (layer 7), in plain words. -/
namespace Go.Proofs.YtediidajdpdeiaaGreatDoor
open CrcM

/-- the bodies up to a place -/
inductive Got (b : List UInt8) : List (List UInt8) → Nat → Prop
  | start : Got b [] 0
  | step {bs : List (List UInt8)} {at_ : Nat} {body : List UInt8} {en : Nat} : Got b bs at_ → next b at_ = .ok (body, en) → Got b (bs ++ [body]) en

theorem Got.zero {b : List UInt8} {bs : List (List UInt8)} {at_ : Nat} (h : Got b bs at_) (hb : bs = []) : at_ = 0 := by
  cases h with
  | start => rfl
  | step h1 h2 => simp at hb
theorem Got.pos {b : List UInt8} {bs : List (List UInt8)} {at_ : Nat} (h : Got b bs at_) : Pos b bs.length at_ := by
  induction h with
  | start => exact .start
  | step h1 h2 ih => rw [List.length_append]; exact .step ih h2
theorem Got.le {b : List UInt8} {bs : List (List UInt8)} {at_ : Nat} (h : Got b bs at_) : 12 * bs.length ≤ at_ ∧ at_ ≤ b.length ∧ ∀ x ∈ bs, x.length ≤ 65536 := by
  induction h with
  | start => exact ⟨by simp, Nat.zero_le _, fun x hx => (by cases hx)⟩
  | step h1 h2 ih =>
    obtain ⟨h3, h4, h5, h6⟩ := next_ok h2
    simp only at h3 h4 h5 h6
    refine ⟨by rw [List.length_append, List.length_singleton]; omega, h4, fun x hx => ?_⟩
    rcases List.mem_append.1 hx with hx | hx
    · exact ih.2.2 x hx
    · rw [List.mem_singleton] at hx; rw [hx]; exact h5
theorem framesF_got {b : List UInt8} {bs : List (List UInt8)} {at_ : Nat} (h : Got b bs at_) : ∀ f, framesF (bs.length + f) b 0 = (bs ++ (framesF f b at_).1, (framesF f b at_).2) := by
  induction h with
  | start => intro f; rw [List.length_nil, Nat.zero_add]; rfl
  | step h1 h2 ih =>
    intro f
    rename_i bs at_ body en
    rw [List.length_append, List.length_singleton, Nat.add_assoc, Nat.add_comm 1 f, ih (f + 1)]
    have e : framesF (f + 1) b at_ = (body :: (framesF f b en).1, (framesF f b en).2) := by
      rw [framesF, h2]
    rw [e, List.append_assoc]
    rfl
theorem Got.all {b : List UInt8} {bs : List (List UInt8)} {at_ : Nat} {r : Int} (h : Got b bs at_) (he : next b at_ = .error r) : framesOf b = (bs, at_) := by
  have hle := h.le
  have := framesF_got h (b.length - bs.length + 1)
  unfold framesOf
  rw [show b.length + 1 = bs.length + (b.length - bs.length + 1) by omega, this, framesF, he]
  simp
theorem framesOf_first {b body : List UInt8} {en : Nat} (h : next b 0 = .ok (body, en)) : ∃ t, (framesOf b).1 = body :: t := by
  unfold framesOf
  rw [framesF]
  have h' : next b ((0 : Nat) : Int) = .ok (body, en) := h
  rw [h']
  exact ⟨_, rfl⟩
/-- all bytes have their bodies and an end -/
theorem framesF_is (b : List UInt8) : ∀ (f : Nat) (bs : List (List UInt8)) (at_ : Nat), Got b bs at_ → b.length < at_ + f → ∃ bs' at' r, Got b bs' at' ∧ next b at' = .error r
  | 0, bs, at_, h, hf => by have := h.le; omega
  | f + 1, bs, at_, h, hf => by
    cases hn : next b at_ with
    | error r => exact ⟨bs, at_, r, h, hn⟩
    | ok p =>
      obtain ⟨body, en⟩ := p
      have := (next_ok hn).1
      simp only at this
      exact framesF_is b f _ _ (h.step hn) (by omega)
theorem framesOf_is (b : List UInt8) : ∃ r, Got b (framesOf b).1 (framesOf b).2 ∧ next b (framesOf b).2 = .error r := by
  obtain ⟨bs, at_, r, h1, h2⟩ := framesF_is b (b.length + 1) [] 0 .start (by omega)
  rw [h1.all h2]
  exact ⟨r, h1, h2⟩

/-- what is known of a segment so far -/
def ScanSt (due : Int) (bs : List (List UInt8)) (base : Int) (recs : List (List UInt8)) : Prop := match bs with
  | [] => base = -1 ∧ recs = []
  | hd :: t => recs = t ∧ ∃ n : Nat, readNum hd = .ok (n, hd.length) ∧ base = (n : Int) ∧ (due < 0 ∨ (n : Int) = due)

theorem scan_bad {D : Dk} {due : Int} {hd : List UInt8} {t : List (List UInt8)} (h : (framesOf D.all).1 = hd :: t) (hb : ∀ n : Nat, readNum hd = .ok (n, hd.length) → ¬ (due < 0 ∨ (n : Int) = due)) : scan D due = none := by
  unfold scan
  rw [h]
  simp only
  split
  · rfl
  · rename_i n s e
    rw [if_neg]
    rintro ⟨h1, h2⟩
    subst h1
    exact hb n e h2
theorem scan_none {D : Dk} {due : Int} (h : (framesOf D.all).1 = []) : scan D due = none := by
  unfold scan
  rw [h]
theorem scan_some {D : Dk} {due : Int} {hd : List UInt8} {t : List (List UInt8)} {n en : Nat} (h : framesOf D.all = (hd :: t, en)) (hn : readNum hd = .ok (n, hd.length)) (hd2 : due < 0 ∨ (n : Int) = due) : scan D due = some (⟨(D.cut en).1, n, t, t.length⟩, decide (en = D.all.length)) := by
  unfold scan
  rw [h]
  simp only [hn]
  rw [if_pos ⟨trivial, hd2⟩]
theorem scan_ok {D : Dk} {due : Int} {g : Sg} {wh : Bool} (hD : D.ok) (hdn : D.down = false) (h : scan D due = some (g, wh)) : g.ok ∧ g.up := by
  obtain ⟨r, hg, he⟩ := framesOf_is D.all
  have hfo := hg.all he
  generalize (framesOf D.all).1 = bs at *
  generalize (framesOf D.all).2 = en at *
  have hle := hg.le
  unfold scan at h
  rw [hfo] at h
  simp only at h
  split at h
  · cases h
  · rename_i hd t
    split at h
    · cases h
    · rename_i n s e2
      split at h
      · rename_i hc
        injection h with h
        injection h with h1 h2
        subst h1
        have hb := (readN_le hd 0 0 n s e2).1
        rw [List.length_cons] at hle
        have hl := hD.2
        refine ⟨⟨hb, ?_, Nat.le_refl _, fun x hx => ?_⟩, ?_⟩
        · show t.length ≤ 349525
          omega
        · exact hle.2.2 x (List.mem_cons_of_mem _ hx)
        · unfold Dk.cut Sg.up
          rw [hdn]
          simp only [Bool.false_eq_true, if_false]
          rw [if_neg (by omega), Int.toNat_natCast]
          refine ⟨rfl, ?_⟩
          simp only [List.length_take]
          omega
      · cases h
end Go.Proofs.YtediidajdpdeiaaGreatDoor

/- The log's head, Append (layer 7): the walks. -/
namespace Go.Proofs.YtediidajdpdeiaaGreatDoor
open Go.RowKit CrcM
set_option maxRecDepth 100000

theorem head_B (w : World) (hh : HalfAt w) (base : Nat) (hn : base ≤ 4611686018427387904) :
    Calls Tryz.prog 108 #[.int .i64 (base : Int)] w (BytesNew w (headB base)) := by
  have h10 : (numB base).length ≤ 10 := numB_10 (by omega)
  have hN := Num_B w w (Below.refl _ _) none 0 [] (Rd.nil _ _ _) (by simp) base hn
  rw [List.nil_append, List.length_nil] at hN
  go_enter Tryz.func108, Tryz.ntmps108
  go_wp2_with (go_at_call 54; refine hN.mono ?_; rintro e w1 ⟨v1, rfl, ho1, hb1⟩; obtain ⟨A1, c1, rfl, hc1, hm1⟩ := own_val ho1)
  have hF := frame_B w1 (hh.below hb1 hh.lt) A1 (numB base) c1 (numB base).length (own_rd ho1 rfl) rfl (by unfold maxLen; omega)
  simp only [if_pos (show (numB base).length ≤ 65536 by omega)] at hF
  refine hF.mono ?_
  rintro e w2 ⟨A2, c2, rfl, ho2, hc2, hm2, hb2⟩
  go_wp2
  go_ret
  refine ⟨A2, c2, rfl, ?_, hc2, hm2, hb1.trans (hb2.mono hb1.size)⟩
  exact ho2.mono (fun x hx => Nat.le_trans hb1.size hx)
end Go.Proofs.YtediidajdpdeiaaGreatDoor
