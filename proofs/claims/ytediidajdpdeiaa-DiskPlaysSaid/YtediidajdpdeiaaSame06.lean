/- DiskPlays: the disk and the document's, side by side. -/
import Derived.Test.YtediidajdpdeiaaTears06
import Derived.Test.YtediidajdpdeiaaRef06b
namespace Go.Proofs.Ytediidajdpdeiaa
open Go.RowKit
set_option maxRecDepth 100000

/-- the document's disk of a disk -/
def Dk.ref (D : Dk) : Rk := ⟨D.all.take D.kept, D.all.drop D.kept, D.down⟩
theorem ref_new : Dk.new.ref = Rk.new := rfl
theorem ref_append {D : Dk} (h : D.ok) (l : List UInt8) : (D.append l).1.ref = (D.ref.append l).1 ∧ (D.append l).2 = (D.ref.append l).2 := by
  obtain ⟨dn, all, kept⟩ := D
  obtain ⟨h1, h2⟩ := h
  simp only at h1 h2
  cases dn
  · have e : (all.take kept).length + (all.drop kept).length + l.length = all.length + l.length := by rw [List.length_take, List.length_drop]; omega
    by_cases hf : 4194304 < all.length + l.length
    · have hf' : 4194304 < (all.take kept).length + (all.drop kept).length + l.length := by omega
      have eD : Dk.append ⟨false, all, kept⟩ l = (⟨false, all, kept⟩, 7) := by simp [Dk.append, hf]
      have eR : Rk.append ⟨all.take kept, all.drop kept, false⟩ l = (⟨all.take kept, all.drop kept, false⟩, 7) := by unfold Rk.append; rw [if_neg (by simp), if_pos hf']
      show (Dk.append ⟨false, all, kept⟩ l).1.ref = (Rk.append ⟨all.take kept, all.drop kept, false⟩ l).1 ∧ _ = (Rk.append ⟨all.take kept, all.drop kept, false⟩ l).2
      rw [eD, eR]
      exact ⟨rfl, rfl⟩
    · have hf' : ¬ 4194304 < (all.take kept).length + (all.drop kept).length + l.length := by omega
      have e1 : kept - all.length = 0 := by omega
      have eD : Dk.append ⟨false, all, kept⟩ l = (⟨false, all ++ l, kept⟩, 0) := by simp [Dk.append, hf]
      have eR : Rk.append ⟨all.take kept, all.drop kept, false⟩ l = (⟨all.take kept, all.drop kept ++ l, false⟩, 0) := by unfold Rk.append; rw [if_neg (by simp), if_neg hf']
      show (Dk.append ⟨false, all, kept⟩ l).1.ref = (Rk.append ⟨all.take kept, all.drop kept, false⟩ l).1 ∧ _ = (Rk.append ⟨all.take kept, all.drop kept, false⟩ l).2
      rw [eD, eR]
      refine ⟨?_, rfl⟩
      simp [Dk.ref, List.take_append, List.drop_append, e1]
  · simp [Dk.append, Dk.ref, Rk.append]
theorem ref_sync {D : Dk} : D.sync.1.ref = D.ref.sync.1 ∧ D.sync.2 = D.ref.sync.2 := by
  obtain ⟨dn, all, kept⟩ := D
  cases dn <;> simp [Dk.sync, Dk.ref, Rk.sync]
theorem ref_cut {D : Dk} (n : Int) : (D.cut n).1.ref = (D.ref.cut n).1 ∧ (D.cut n).2 = (D.ref.cut n).2 := by
  obtain ⟨dn, all, kept⟩ := D
  cases dn
  · by_cases h : n < 0 ∨ (all.length : Int) < n
    · simp [Dk.cut, Dk.ref, Rk.cut, h]
    · simp [Dk.cut, Dk.ref, Rk.cut, h, List.take_take]
  · simp [Dk.cut, Dk.ref, Rk.cut]
theorem ref_swap {D : Dk} (l : List UInt8) : (D.swap l).1.ref = (D.ref.swap l).1 ∧ (D.swap l).2 = (D.ref.swap l).2 := by
  obtain ⟨dn, all, kept⟩ := D
  cases dn
  · by_cases h : 4194304 < l.length <;> simp [Dk.swap, Dk.ref, Rk.swap, h]
  · simp [Dk.swap, Dk.ref, Rk.swap]
theorem ref_crash {D : Dk} (h : D.ok) (k f : Int) : (D.crash k f).1.ref = (D.ref.crash k f).1 ∧ (D.crash k f).2 = (D.ref.crash k f).2 := by
  obtain ⟨dn, all, kept⟩ := D
  obtain ⟨h1, h2⟩ := h
  simp only at h1 h2
  cases dn
  · by_cases hk : k < 0
    · simp [Dk.crash, Dk.ref, Rk.crash, hk]
    · have e : (all.take kept).length = kept := by rw [List.length_take]; omega
      simp only [Dk.crash, Dk.ref, Rk.crash, hk]
      simp [List.take_left' e, List.drop_left' e]
  · simp [Dk.crash, Dk.ref, Rk.crash]
theorem ref_restart {D : Dk} : D.restart.1.ref = D.ref.restart.1 ∧ D.restart.2 = D.ref.restart.2 := by
  obtain ⟨dn, all, kept⟩ := D
  cases dn <;> simp [Dk.restart, Dk.ref, Rk.restart]
theorem ref_read {D : Dk} : D.read = D.ref.read := by
  obtain ⟨dn, all, kept⟩ := D
  cases dn <;> simp [Dk.read, Dk.ref, Rk.read]

/-- both, side by side -/
def Both (X : Nat → Prop) (W w : World) (b r : Nat) (D : Dk) (R : Rk) : Prop := ∃ S1 A c S2 A1 c1 A2 c2, DiskAt S1 w b A c D ∧ RefAt S2 w r A1 c1 A2 c2 R ∧ (∀ x, S1 x → S2 x → IsB w x) ∧
  (∀ x, S1 x → W.heap.size ≤ x) ∧ (∀ x, S2 x → W.heap.size ≤ x) ∧ Below W.heap.size W w ∧ (∀ x, X x → x < w.heap.size ∧ ¬ S1 x ∧ ¬ S2 x)

theorem BK.fr {S : Nat → Prop} {w w' : World} (h : Fr S w w') : BK w w' := h.byt

section
variable {X : Nat → Prop} {W w w' : World} {b r : Nat} {D : Dk} {R : Rk}
theorem Both.below (h : Both X W w b r D R) : Below W.heap.size W w := by
  obtain ⟨_, _, _, _, _, _, _, _, _, _, _, _, _, h, _⟩ := h
  exact h
theorem Both.mono (h : Both X W w b r D R) (hb : Below w.heap.size w w') : Both X W w' b r D R := by
  obtain ⟨S1, A, c, S2, A1, c1, A2, c2, h1, h2, h3, h4, h5, h6, h7⟩ := h
  exact ⟨S1, A, c, S2, A1, c1, A2, c2, h1.below hb, h2.below hb, fun x hx hy => (h3 x hx hy).eq (hb.block x (h1.lt x hx)), h4, h5, h6.trans (hb.mono h6.size), fun x hx => ⟨Nat.lt_of_lt_of_le (h7 x hx).1 hb.size, (h7 x hx).2⟩⟩
theorem Both.live (h : Both X W w b r D R) : Live W w b D := by
  obtain ⟨S1, A, c, S2, A1, c1, A2, c2, h1, h2, h3, h4, h5, h6, h7⟩ := h
  exact ⟨S1, A, c, h1, h4, h6⟩
theorem fr_below {S : Nat → Prop} {W w w' : World} (hb : Below W.heap.size W w) (hf : Fr S w w') (hS : ∀ x, S x → W.heap.size ≤ x) : Below W.heap.size W w' := by
  refine ⟨hf.os.trans hb.os, hf.tape.trans hb.tape, hf.output.trans hb.output, Nat.le_trans hb.size hf.size, fun j hj => ?_⟩
  exact (hf.out j (Nat.lt_of_lt_of_le hj hb.size) (fun hh => by have := hS j hh; omega)).trans (hb.block j hj)
/-- the disk has turned -/
theorem Both.disk {S1 S2 : Nat → Prop} {A A1 A2 : Option Addr} {c c1 c2 : Nat} {q : Dk × Int} (h1 : DiskAt S1 w b A c D) (h2 : RefAt S2 w r A1 c1 A2 c2 R) (h3 : ∀ x, S1 x → S2 x → IsB w x)
    (h4 : ∀ x, S1 x → W.heap.size ≤ x) (h5 : ∀ x, S2 x → W.heap.size ≤ x) (h6 : Below W.heap.size W w) (h7 : ∀ x, X x → x < w.heap.size ∧ ¬ S1 x ∧ ¬ S2 x) (hi : IsDisk (Up S1 w w') w' (.pointer (some ⟨b, 0, none⟩)) q.1) (hf : Fr S1 w w') : Both X W w' b r q.1 R := by
  obtain ⟨b', A', c', e, hd⟩ := hi
  obtain rfl : b = b' := by injection e with e; injection e with e; injection e with e
  refine ⟨_, A', c', S2, A1, c1, A2, c2, hd, h2.fr hf (fun x hx hy => h3 x hy hx), fun x hx hy => ?_, fun x hx => hx.elim (h4 x) (fun hh => Nat.le_trans h6.size hh.1), h5, fr_below h6 hf h4, fun x hx => ⟨Nat.lt_of_lt_of_le (h7 x hx).1 hf.size, fun hh => hh.elim (h7 x hx).2.1 (fun hh => by have := (h7 x hx).1; omega), (h7 x hx).2.2⟩⟩
  rcases hx with hx | hx
  · exact (h3 x hx hy).fr hf
  · have := h2.lt x hy; omega
theorem Both.ref_ {S1 S2 : Nat → Prop} {A A1 A2 : Option Addr} {c c1 c2 : Nat} {q : Rk × Int} (h1 : DiskAt S1 w b A c D) (h2 : RefAt S2 w r A1 c1 A2 c2 R) (h3 : ∀ x, S1 x → S2 x → IsB w x)
    (h4 : ∀ x, S1 x → W.heap.size ≤ x) (h5 : ∀ x, S2 x → W.heap.size ≤ x) (h6 : Below W.heap.size W w) (h7 : ∀ x, X x → x < w.heap.size ∧ ¬ S1 x ∧ ¬ S2 x) (hi : IsRef (Up S2 w w') w' (.pointer (some ⟨r, 0, none⟩)) q.1) (hf : Fr S2 w w') : Both X W w' b r D q.1 := by
  obtain ⟨b', A', c', A'', c'', e, hd⟩ := hi
  obtain rfl : r = b' := by injection e with e; injection e with e; injection e with e
  refine ⟨S1, A, c, _, A', c', A'', c'', h1.fr hf (fun x hx hy => h3 x hx hy), hd, fun x hy hx => ?_, h4, fun x hx => hx.elim (h5 x) (fun hh => Nat.le_trans h6.size hh.1), fr_below h6 hf h5, fun x hx => ⟨Nat.lt_of_lt_of_le (h7 x hx).1 hf.size, (h7 x hx).2.1, fun hh => hh.elim (h7 x hx).2.2 (fun hh => by have := (h7 x hx).1; omega)⟩⟩
  rcases hx with hx | hx
  · exact (h3 x hy hx).fr hf
  · have := h1.lt x hy; omega
theorem Both.ok (h : Both X W w b r D R) : D.ok ∧ R.ok := by
  obtain ⟨S1, A, c, S2, A1, c1, A2, c2, h1, h2, -⟩ := h
  exact ⟨h1.ok, h2.ok⟩

def BothDisk (X : Nat → Prop) (W w : World) (b r : Nat) (q : Dk × Int) (R : Rk) (e : Ending) (w' : World) : Prop := e = .returned (.int .i64 q.2) ∧ Both X W w' b r q.1 R ∧ BK w w' ∧ ∀ x, X x → w'.heap[x]? = w.heap[x]?
def BothRef (X : Nat → Prop) (W w : World) (b r : Nat) (D : Dk) (q : Rk × Int) (e : Ending) (w' : World) : Prop := e = .returned (.int .i64 q.2) ∧ Both X W w' b r D q.1 ∧ BK w w' ∧ ∀ x, X x → w'.heap[x]? = w.heap[x]?

theorem append_2 (h : Both X W w b r D R) (B : Option Addr) (l : List UInt8) (cb : Nat) (hl : l.length ≤ 35184372088832) (hr : Byt w B l) :
    Calls Try.prog 9 #[.pointer (some ⟨b, 0, none⟩), .slice B l.length cb] w (BothDisk X W w b r (D.append l) R) := by
  obtain ⟨S1, A, c, S2, A1, c1, A2, c2, h1, h2, h3, h4, h5, h6, h7⟩ := h
  exact (append_B h1 B l cb (by omega) (Own.rd hr S1)).mono fun e w' ⟨q1, q2, q3⟩ => ⟨q1, Both.disk h1 h2 h3 h4 h5 h6 h7 q2 q3, q3.byt, fun x hx => q3.out x (h7 x hx).1 (h7 x hx).2.1⟩
theorem swap_2 (h : Both X W w b r D R) (B : Option Addr) (l : List UInt8) (cb : Nat) (hl : l.length ≤ 35184372088832) (hr : Byt w B l) :
    Calls Try.prog 10 #[.pointer (some ⟨b, 0, none⟩), .slice B l.length cb] w (BothDisk X W w b r (D.swap l) R) := by
  obtain ⟨S1, A, c, S2, A1, c1, A2, c2, h1, h2, h3, h4, h5, h6, h7⟩ := h
  exact (swap_B h1 B l cb (by omega) (Own.rd hr S1)).mono fun e w' ⟨q1, q2, q3⟩ => ⟨q1, Both.disk h1 h2 h3 h4 h5 h6 h7 q2 q3, q3.byt, fun x hx => q3.out x (h7 x hx).1 (h7 x hx).2.1⟩
theorem sync_2 (h : Both X W w b r D R) : Calls Try.prog 17 #[.pointer (some ⟨b, 0, none⟩)] w (BothDisk X W w b r D.sync R) := by
  obtain ⟨S1, A, c, S2, A1, c1, A2, c2, h1, h2, h3, h4, h5, h6, h7⟩ := h
  exact (sync_B h1).mono fun e w' ⟨q1, q2, q3⟩ => ⟨q1, Both.disk h1 h2 h3 h4 h5 h6 h7 q2 q3, q3.byt, fun x hx => q3.out x (h7 x hx).1 (h7 x hx).2.1⟩
theorem restart_2 (h : Both X W w b r D R) : Calls Try.prog 12 #[.pointer (some ⟨b, 0, none⟩)] w (BothDisk X W w b r D.restart R) := by
  obtain ⟨S1, A, c, S2, A1, c1, A2, c2, h1, h2, h3, h4, h5, h6, h7⟩ := h
  exact (restart_B h1).mono fun e w' ⟨q1, q2, q3⟩ => ⟨q1, Both.disk h1 h2 h3 h4 h5 h6 h7 q2 q3, q3.byt, fun x hx => q3.out x (h7 x hx).1 (h7 x hx).2.1⟩
theorem cut_2 (h : Both X W w b r D R) (n : Int) : Calls Try.prog 14 #[.pointer (some ⟨b, 0, none⟩), .int .i64 n] w (BothDisk X W w b r (D.cut n) R) := by
  obtain ⟨S1, A, c, S2, A1, c1, A2, c2, h1, h2, h3, h4, h5, h6, h7⟩ := h
  exact (cut_B h1 n).mono fun e w' ⟨q1, q2, q3⟩ => ⟨q1, Both.disk h1 h2 h3 h4 h5 h6 h7 q2 q3, q3.byt, fun x hx => q3.out x (h7 x hx).1 (h7 x hx).2.1⟩
theorem crash_2 (h : Both X W w b r D R) (keep flip : Int) (k1 : i64 keep) (k2 : i64 flip) : Calls Try.prog 11 #[.pointer (some ⟨b, 0, none⟩), .int .i64 keep, .int .i64 flip] w (BothDisk X W w b r (D.crash keep flip) R) := by
  obtain ⟨S1, A, c, S2, A1, c1, A2, c2, h1, h2, h3, h4, h5, h6, h7⟩ := h
  exact (crash_B h1 keep flip k1.2 k2.2 k1.1 k2.1).mono fun e w' ⟨q1, q2, q3⟩ => ⟨q1, Both.disk h1 h2 h3 h4 h5 h6 h7 q2 q3, q3.byt, fun x hx => q3.out x (h7 x hx).1 (h7 x hx).2.1⟩
theorem refAppend_2 (h : Both X W w b r D R) (B : Option Addr) (l : List UInt8) (cb : Nat) (hl : l.length ≤ 35184372088832) (hr : Byt w B l) :
    Calls Try.prog 28 #[.pointer (some ⟨r, 0, none⟩), .slice B l.length cb] w (BothRef X W w b r D (R.append l)) := by
  obtain ⟨S1, A, c, S2, A1, c1, A2, c2, h1, h2, h3, h4, h5, h6, h7⟩ := h
  exact (refAppend_B h2 B l cb hl (Own.rd hr S2)).mono fun e w' ⟨q1, q2, q3⟩ => ⟨q1, Both.ref_ h1 h2 h3 h4 h5 h6 h7 q2 q3, q3.byt, fun x hx => q3.out x (h7 x hx).1 (h7 x hx).2.2⟩
theorem refSwap_2 (h : Both X W w b r D R) (B : Option Addr) (l : List UInt8) (cb : Nat) (hl : l.length ≤ 35184372088832) (hr : Byt w B l) :
    Calls Try.prog 31 #[.pointer (some ⟨r, 0, none⟩), .slice B l.length cb] w (BothRef X W w b r D (R.swap l)) := by
  obtain ⟨S1, A, c, S2, A1, c1, A2, c2, h1, h2, h3, h4, h5, h6, h7⟩ := h
  exact (refSwap_B h2 B l cb hl (Own.rd hr S2)).mono fun e w' ⟨q1, q2, q3⟩ => ⟨q1, Both.ref_ h1 h2 h3 h4 h5 h6 h7 q2 q3, q3.byt, fun x hx => q3.out x (h7 x hx).1 (h7 x hx).2.2⟩
theorem refSync_2 (h : Both X W w b r D R) : Calls Try.prog 29 #[.pointer (some ⟨r, 0, none⟩)] w (BothRef X W w b r D R.sync) := by
  obtain ⟨S1, A, c, S2, A1, c1, A2, c2, h1, h2, h3, h4, h5, h6, h7⟩ := h
  exact (refSync_B h2).mono fun e w' ⟨q1, q2, q3⟩ => ⟨q1, Both.ref_ h1 h2 h3 h4 h5 h6 h7 q2 q3, q3.byt, fun x hx => q3.out x (h7 x hx).1 (h7 x hx).2.2⟩
theorem refRestart_2 (h : Both X W w b r D R) : Calls Try.prog 33 #[.pointer (some ⟨r, 0, none⟩)] w (BothRef X W w b r D R.restart) := by
  obtain ⟨S1, A, c, S2, A1, c1, A2, c2, h1, h2, h3, h4, h5, h6, h7⟩ := h
  exact (refRestart_B h2).mono fun e w' ⟨q1, q2, q3⟩ => ⟨q1, Both.ref_ h1 h2 h3 h4 h5 h6 h7 q2 q3, q3.byt, fun x hx => q3.out x (h7 x hx).1 (h7 x hx).2.2⟩
theorem refCut_2 (h : Both X W w b r D R) (n : Int) : Calls Try.prog 30 #[.pointer (some ⟨r, 0, none⟩), .int .i64 n] w (BothRef X W w b r D (R.cut n)) := by
  obtain ⟨S1, A, c, S2, A1, c1, A2, c2, h1, h2, h3, h4, h5, h6, h7⟩ := h
  exact (refCut_B h2 n).mono fun e w' ⟨q1, q2, q3⟩ => ⟨q1, Both.ref_ h1 h2 h3 h4 h5 h6 h7 q2 q3, q3.byt, fun x hx => q3.out x (h7 x hx).1 (h7 x hx).2.2⟩
theorem refCrash_2 (h : Both X W w b r D R) (keep flip : Int) (k1 : i64 keep) (k2 : i64 flip) (hs : R.rest.length ≤ 4194304) : Calls Try.prog 32 #[.pointer (some ⟨r, 0, none⟩), .int .i64 keep, .int .i64 flip] w (BothRef X W w b r D (R.crash keep flip)) := by
  obtain ⟨S1, A, c, S2, A1, c1, A2, c2, h1, h2, h3, h4, h5, h6, h7⟩ := h
  exact (refCrash_B h2 keep flip k1.2 k2.2 k1.1 k2.1 hs).mono fun e w' ⟨q1, q2, q3⟩ => ⟨q1, Both.ref_ h1 h2 h3 h4 h5 h6 h7 q2 q3, q3.byt, fun x hx => q3.out x (h7 x hx).1 (h7 x hx).2.2⟩

theorem ownsRow_bk {base n c : Nat} {A : Option Addr} {xs : List Value} (h : w.ownsRow base TB 1 (.slice A n c) n xs) (k : BK w w') : w'.ownsRow base TB 1 (.slice A n c) n xs := by
  refine ⟨h.1, ?_⟩
  rcases h.2 with hh | ⟨g, cap, cur, hv, hb, hg, hnc, hm, hs, ht⟩
  · exact .inl hh
  · exact .inr ⟨g, cap, cur, hv, hb, (k g ⟨cur, _, hg⟩).trans hg, hnc, hm, hs, ht⟩
theorem Own.far {S : Nat → Prop} {A : Option Addr} {l : List UInt8} (h : Own S w A l) {p : Addr} (hp : ¬ S p.block) (u : Value) : Own S (w.setCell p u) A l := fun j x hx => by
  obtain ⟨ad, e, hc, hb, hs⟩ := h j x hx
  have he : (w.setCell p u).heap[ad.block]? = w.heap[ad.block]? := Below.heap_setCell _ _ _ _ (by rintro e; exact hp (e ▸ hs))
  exact ⟨ad, e, (cell_eq (by rw [add_block]; exact he)).trans hc, hb.eq he, hs⟩
theorem Own.farB {w : World} {S : Nat → Prop} {A : Option Addr} {l : List UInt8} (h : Own S w A l) {p : Addr} (hp : ¬ S p.block) (u : Value) : Own S (w.setCell p u) A l := Own.far h hp u
/-- a byte of a row of X is written -/
theorem Both.far (h : Both X W w b r D R) {p : Addr} (hp : X p.block) (hW : W.heap.size ≤ p.block) (u : Value) : Both X W (w.setCell p u) b r D R := by
  obtain ⟨S1, A, c, S2, A1, c1, A2, c2, h1, h2, h3, h4, h5, h6, h7⟩ := h
  obtain ⟨q1, q2, q3⟩ := h7 _ hp
  have hsz : (w.setCell p u).heap.size = w.heap.size := by simp [World.setCell]
  refine ⟨S1, A, c, S2, A1, c1, A2, c2, ⟨h1.blk.far (fun e => q2 (e ▸ h1.inS)) u, h1.own.far q2 u, h1.inS, fun x hx => by rw [hsz]; exact h1.lt x hx, h1.cap, h1.ok⟩,
    ⟨h2.blk.far (fun e => q3 (e ▸ h2.inS)) u, h2.own1.far q3 u, h2.own2.far q3 u, h2.inS, fun x hx => by rw [hsz]; exact h2.lt x hx, h2.cap1, h2.cap2, h2.ok⟩, fun x hx hy => ?_, h4, h5, h6.setCell hW u, fun x hx => by rw [hsz]; exact h7 x hx⟩
  exact (h3 x hx hy).eq (Below.heap_setCell _ _ _ _ (by rintro rfl; exact q2 hx))
theorem Both.non (h : Both X W w b r D R) : Both Non W w b r D R := by
  obtain ⟨S1, A, c, S2, A1, c1, A2, c2, h1, h2, h3, h4, h5, h6, h7⟩ := h
  exact ⟨S1, A, c, S2, A1, c1, A2, c2, h1, h2, h3, h4, h5, h6, fun _ h => h.elim⟩
/-- what is new is not theirs -/
theorem Both.also (h : Both Non W w b r D R) (hb : Below w.heap.size w w') : Both (Nw w w') W w' b r D R := by
  obtain ⟨S1, A, c, S2, A1, c1, A2, c2, h1, h2, h3, h4, h5, h6, h7⟩ := h
  refine ⟨S1, A, c, S2, A1, c1, A2, c2, h1.below hb, h2.below hb, fun x hx hy => (h3 x hx hy).eq (hb.block x (h1.lt x hx)), h4, h5, h6.trans (hb.mono h6.size), fun x hx => ⟨hx.2, fun hh => ?_, fun hh => ?_⟩⟩
  · have := h1.lt x hh; have := hx.1; omega
  · have := h2.lt x hh; have := hx.1; omega
end
end Go.Proofs.Ytediidajdpdeiaa
