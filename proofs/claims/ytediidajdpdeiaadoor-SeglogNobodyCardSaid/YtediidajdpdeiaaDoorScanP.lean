/- What a segment's bytes say when they are read from the front on (layer 7), in plain words. -/
import Derived.Test.YtediidajdpdeiaaDoorSegM
import Derived.Test.YtediidajdpdeiaaDoorAllO
namespace Go.Proofs.YtediidajdpdeiaaDoor
open CrcM

/-- the bodies up to a place -/
inductive Got (b : List UInt8) : List (List UInt8) → Nat → Prop
  | start : Got b [] 0
  | step {bs : List (List UInt8)} {at_ : Nat} {body : List UInt8} {en : Nat} : Got b bs at_ → next b at_ = .ok (body, en) → Got b (bs ++ [body]) en

theorem Got.zero {b : List UInt8} {bs : List (List UInt8)} {at_ : Nat} (h : Got b bs at_) (hb : bs = []) : at_ = 0 := by
  cases h with
  | start => rfl
  | step h1 h2 => simp at hb
theorem Got.pos {b : List UInt8} {bs : List (List UInt8)} {at_ : Nat} (h : Got b bs at_) : Pos b bs.length at_ := by
  induction h with
  | start => exact .start
  | step h1 h2 ih => rw [List.length_append]; exact .step ih h2
theorem Got.le {b : List UInt8} {bs : List (List UInt8)} {at_ : Nat} (h : Got b bs at_) : 12 * bs.length ≤ at_ ∧ at_ ≤ b.length ∧ ∀ x ∈ bs, x.length ≤ 65536 := by
  induction h with
  | start => exact ⟨by simp, Nat.zero_le _, fun x hx => (by cases hx)⟩
  | step h1 h2 ih =>
    obtain ⟨h3, h4, h5, h6⟩ := next_ok h2
    simp only at h3 h4 h5 h6
    refine ⟨by rw [List.length_append, List.length_singleton]; omega, h4, fun x hx => ?_⟩
    rcases List.mem_append.1 hx with hx | hx
    · exact ih.2.2 x hx
    · rw [List.mem_singleton] at hx; rw [hx]; exact h5
theorem framesF_got {b : List UInt8} {bs : List (List UInt8)} {at_ : Nat} (h : Got b bs at_) : ∀ f, framesF (bs.length + f) b 0 = (bs ++ (framesF f b at_).1, (framesF f b at_).2) := by
  induction h with
  | start => intro f; rw [List.length_nil, Nat.zero_add]; rfl
  | step h1 h2 ih =>
    intro f
    rename_i bs at_ body en
    rw [List.length_append, List.length_singleton, Nat.add_assoc, Nat.add_comm 1 f, ih (f + 1)]
    have e : framesF (f + 1) b at_ = (body :: (framesF f b en).1, (framesF f b en).2) := by
      rw [framesF, h2]
    rw [e, List.append_assoc]
    rfl
theorem Got.all {b : List UInt8} {bs : List (List UInt8)} {at_ : Nat} {r : Int} (h : Got b bs at_) (he : next b at_ = .error r) : framesOf b = (bs, at_) := by
  have hle := h.le
  have := framesF_got h (b.length - bs.length + 1)
  unfold framesOf
  rw [show b.length + 1 = bs.length + (b.length - bs.length + 1) by omega, this, framesF, he]
  simp
theorem framesOf_first {b body : List UInt8} {en : Nat} (h : next b 0 = .ok (body, en)) : ∃ t, (framesOf b).1 = body :: t := by
  unfold framesOf
  rw [framesF]
  have h' : next b ((0 : Nat) : Int) = .ok (body, en) := h
  rw [h']
  exact ⟨_, rfl⟩
/-- all bytes have their bodies and an end -/
theorem framesF_is (b : List UInt8) : ∀ (f : Nat) (bs : List (List UInt8)) (at_ : Nat), Got b bs at_ → b.length < at_ + f → ∃ bs' at' r, Got b bs' at' ∧ next b at' = .error r
  | 0, bs, at_, h, hf => by have := h.le; omega
  | f + 1, bs, at_, h, hf => by
    cases hn : next b at_ with
    | error r => exact ⟨bs, at_, r, h, hn⟩
    | ok p =>
      obtain ⟨body, en⟩ := p
      have := (next_ok hn).1
      simp only at this
      exact framesF_is b f _ _ (h.step hn) (by omega)
theorem framesOf_is (b : List UInt8) : ∃ r, Got b (framesOf b).1 (framesOf b).2 ∧ next b (framesOf b).2 = .error r := by
  obtain ⟨bs, at_, r, h1, h2⟩ := framesF_is b (b.length + 1) [] 0 .start (by omega)
  rw [h1.all h2]
  exact ⟨r, h1, h2⟩

/-- what is known of a segment so far -/
def ScanSt (due : Int) (bs : List (List UInt8)) (base : Int) (recs : List (List UInt8)) : Prop := match bs with
  | [] => base = -1 ∧ recs = []
  | hd :: t => recs = t ∧ ∃ n : Nat, readNum hd = .ok (n, hd.length) ∧ base = (n : Int) ∧ (due < 0 ∨ (n : Int) = due)

theorem scan_bad {D : Dk} {due : Int} {hd : List UInt8} {t : List (List UInt8)} (h : (framesOf D.all).1 = hd :: t) (hb : ∀ n : Nat, readNum hd = .ok (n, hd.length) → ¬ (due < 0 ∨ (n : Int) = due)) : scan D due = none := by
  unfold scan
  rw [h]
  simp only
  split
  · rfl
  · rename_i n s e
    rw [if_neg]
    rintro ⟨h1, h2⟩
    subst h1
    exact hb n e h2
theorem scan_none {D : Dk} {due : Int} (h : (framesOf D.all).1 = []) : scan D due = none := by
  unfold scan
  rw [h]
theorem scan_some {D : Dk} {due : Int} {hd : List UInt8} {t : List (List UInt8)} {n en : Nat} (h : framesOf D.all = (hd :: t, en)) (hn : readNum hd = .ok (n, hd.length)) (hd2 : due < 0 ∨ (n : Int) = due) : scan D due = some (⟨(D.cut en).1, n, t, t.length⟩, decide (en = D.all.length)) := by
  unfold scan
  rw [h]
  simp only [hn]
  rw [if_pos ⟨trivial, hd2⟩]
theorem scan_ok {D : Dk} {due : Int} {g : Sg} {wh : Bool} (hD : D.ok) (hdn : D.down = false) (h : scan D due = some (g, wh)) : g.ok ∧ g.up := by
  obtain ⟨r, hg, he⟩ := framesOf_is D.all
  have hfo := hg.all he
  generalize (framesOf D.all).1 = bs at *
  generalize (framesOf D.all).2 = en at *
  have hle := hg.le
  unfold scan at h
  rw [hfo] at h
  simp only at h
  split at h
  · cases h
  · rename_i hd t
    split at h
    · cases h
    · rename_i n s e2
      split at h
      · rename_i hc
        injection h with h
        injection h with h1 h2
        subst h1
        have hb := (readN_le hd 0 0 n s e2).1
        rw [List.length_cons] at hle
        have hl := hD.2
        refine ⟨⟨hb, ?_, Nat.le_refl _, fun x hx => ?_⟩, ?_⟩
        · show t.length ≤ 349525
          omega
        · exact hle.2.2 x (List.mem_cons_of_mem _ hx)
        · unfold Dk.cut Sg.up
          rw [hdn]
          simp only [Bool.false_eq_true, if_false]
          rw [if_neg (by omega), Int.toNat_natCast]
          refine ⟨rfl, ?_⟩
          simp only [List.length_take]
          omega
      · cases h
end Go.Proofs.YtediidajdpdeiaaDoor
