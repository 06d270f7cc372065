/- crc.All: the iterator's word, where the bodies that are told are rows of one's own. -/
import Derived.Test.YtediidajdpdeiaaDoorJ7
import Derived.Test.YtediidajdpdeiaaDoorJ2
import Derived.Test.YtediidajdpdeiaaDoorJ5

namespace Go.Proofs.YtediidajdpdeiaaDoor
open Go.RowKit Go.Shelf CrcM
attribute [local go_sem] Oper.semAt_some
set_option maxRecDepth 100000

def AllGvO (b : List UInt8) (k : Nat) (v : Array Value) (W : World) : Prop :=
  ∃ at_ body en A c, Pos b k at_ ∧ next b at_ = .ok (body, en) ∧ v = #[.int .i64 (at_ : Int), .slice A body.length c] ∧ Own (fun _ => True) W A body ∧ body.length ≤ c ∧ c ≤ maxLen

theorem GvO_own (b : List UInt8) (v : Array Value) (B : Nat) : OwnFrom B fun k W => AllGvO b k v W := by
  intro k W W' row hs hg hr
  obtain ⟨at_, body, en, A, c, h1, h2, h3, h4, h5⟩ := hs
  refine ⟨at_, body, en, A, c, h1, h2, h3, ?_, h5⟩
  intro j x hx
  obtain ⟨ad, e, hc, ⟨cs, fz, hb⟩, _⟩ := h4 j x hx
  refine ⟨ad, e, cell_kept hc hg (fun r e => (hr r e).2), ⟨cs, fz, ?_⟩, trivial⟩
  refine (hg.block _ (Array.getElem?_eq_some_iff.1 hb).1 ?_).trans hb
  intro e
  obtain ⟨o, ho, hcs⟩ := (hr _ e.symm).2
  rw [hb] at ho
  injection ho with ho
  rw [← ho] at hcs
  cases hcs

set_option maxHeartbeats 1000000 in
theorem all_iteratesO (bx : Nat) (A : Option Addr) (c : Nat) (b : List UInt8) (hbc : b.length ≤ c) (hcm : c ≤ maxLen) (I : Nat → World → Prop) (hI : ∀ k W, I k W → AllNeeds bx A c b W) (w : World) :
    Iterates Tryd.prog 81 #[.pointer (some ⟨bx, 0, none⟩)] (AllGvO b) I (AllS b) w := by
  intro n l J Jx W hW hJI hJ hY h0
  refine callsIn_of_wp Tryd.func81 rfl trivial ?_ rfl
  simp only [Tryd.ntmps81, List.size_toArray, List.length_cons, List.length_nil, Nat.reduceAdd, Nat.reduceSub, Array.replicate_succ, Array.replicate_zero, List.push_toArray, List.append_toArray, List.nil_append, List.cons_append]
  gi_wp2
  gi_loopw [3] (fun p wr => ∃ k at_ : Nat, Pos b k at_ ∧ p = .int .i64 at_ ∧ J k wr) (fun p _ => b.length + 1 - (intOf p).toNat)
  case atStart => exact ⟨0, 0, .start, rfl, h0⟩
  case round =>
    obtain ⟨k, at_, hpos, rfl, hJk⟩ := hrel
    obtain ⟨hh, hbx, hrb⟩ := hI k _ (hJI k _ hJk)
    have hnx := next_B wr hh A b c b.length hrb rfl hbc hcm (at_ : Int)
    cases hn : next b at_ with
    | error r =>
      have hr0 : ¬ r = 0 := next_err hn
      gi_wp2_with (refine ⟨trivial, fun h_ => (by cases h_), ?_⟩; gi_at_call 28; refine (callsIn_wide.2 hnx).mono ?_; intro e w2 hd; unfold NextDid at hd; rw [hn] at hd; obtain ⟨rfl, hb2⟩ := hd)
      all_goals (refine ⟨fun _ h => (by cases h), ?_⟩; gi_wp2)
      refine bodyPost_ret (results_none rfl _ _ _) rfl ?_
      exact ⟨⟨_, rfl⟩, .inl ⟨k, ⟨at_, r, hpos, hn⟩, OwnFrom.below hJ hJk hb2⟩⟩
    | ok p =>
      obtain ⟨body, en⟩ := p
      have hno := Lib.hid (next_ok hn)
      gi_wp2_with (refine ⟨trivial, fun h_ => (by cases h_), ?_⟩; gi_at_call 28; refine (callsIn_wide.2 hnx).mono ?_; intro e w2 hd; unfold NextDid at hd; rw [hn] at hd; obtain ⟨A', c', rfl, ho, hc', hm', hb2⟩ := hd; obtain ⟨fn, tmps, asg, bdy, hy, hR⟩ := hY k #[.int .i64 (at_ : Int), .slice A' body.length c'] w2 (OwnFrom.below hJ hJk hb2) ⟨at_, body, en, A', c', hpos, hn, rfl, ho.mono (fun _ _ => trivial), hc', hm'⟩)
      refine ⟨fun h_ => (by cases h_), hR.mono ?_⟩
      rintro e W3 (⟨rfl, hJ3⟩ | ⟨rfl, hJx3⟩)
      · gi_wp2
        go_roundw
        case rel => exact ⟨k + 1, en, .step hpos hn, rfl, hJ3⟩
        case measure =>
          have := hno.out.1
          have := hno.out.2.1
          simp [intOf] at *
          omega
      · gi_wp2
        refine bodyPost_ret (results_none rfl _ _ _) rfl ?_
        exact ⟨⟨_, rfl⟩, .inr ⟨k + 1, hJx3⟩⟩
end Go.Proofs.YtediidajdpdeiaaDoor

/- What a segment's bytes say when they are read from the front on (layer 7), in plain words. -/
namespace Go.Proofs.YtediidajdpdeiaaDoor
open CrcM

/-- the bodies up to a place -/
inductive Got (b : List UInt8) : List (List UInt8) → Nat → Prop
  | start : Got b [] 0
  | step {bs : List (List UInt8)} {at_ : Nat} {body : List UInt8} {en : Nat} : Got b bs at_ → next b at_ = .ok (body, en) → Got b (bs ++ [body]) en

theorem Got.zero {b : List UInt8} {bs : List (List UInt8)} {at_ : Nat} (h : Got b bs at_) (hb : bs = []) : at_ = 0 := by
  cases h with
  | start => rfl
  | step h1 h2 => simp at hb
theorem Got.pos {b : List UInt8} {bs : List (List UInt8)} {at_ : Nat} (h : Got b bs at_) : Pos b bs.length at_ := by
  induction h with
  | start => exact .start
  | step h1 h2 ih => rw [List.length_append]; exact .step ih h2
theorem Got.le {b : List UInt8} {bs : List (List UInt8)} {at_ : Nat} (h : Got b bs at_) : 12 * bs.length ≤ at_ ∧ at_ ≤ b.length ∧ ∀ x ∈ bs, x.length ≤ 65536 := by
  induction h with
  | start => exact ⟨by simp, Nat.zero_le _, fun x hx => (by cases hx)⟩
  | step h1 h2 ih =>
    obtain ⟨h3, h4, h5, h6⟩ := next_ok h2
    simp only at h3 h4 h5 h6
    refine ⟨by rw [List.length_append, List.length_singleton]; omega, h4, fun x hx => ?_⟩
    rcases List.mem_append.1 hx with hx | hx
    · exact ih.2.2 x hx
    · rw [List.mem_singleton] at hx; rw [hx]; exact h5
theorem framesF_got {b : List UInt8} {bs : List (List UInt8)} {at_ : Nat} (h : Got b bs at_) : ∀ f, framesF (bs.length + f) b 0 = (bs ++ (framesF f b at_).1, (framesF f b at_).2) := by
  induction h with
  | start => intro f; rw [List.length_nil, Nat.zero_add]; rfl
  | step h1 h2 ih =>
    intro f
    rename_i bs at_ body en
    rw [List.length_append, List.length_singleton, Nat.add_assoc, Nat.add_comm 1 f, ih (f + 1)]
    have e : framesF (f + 1) b at_ = (body :: (framesF f b en).1, (framesF f b en).2) := by
      rw [framesF, h2]
    rw [e, List.append_assoc]
    rfl
theorem Got.all {b : List UInt8} {bs : List (List UInt8)} {at_ : Nat} {r : Int} (h : Got b bs at_) (he : next b at_ = .error r) : framesOf b = (bs, at_) := by
  have hle := h.le
  have := framesF_got h (b.length - bs.length + 1)
  unfold framesOf
  rw [show b.length + 1 = bs.length + (b.length - bs.length + 1) by omega, this, framesF, he]
  simp
theorem framesOf_first {b body : List UInt8} {en : Nat} (h : next b 0 = .ok (body, en)) : ∃ t, (framesOf b).1 = body :: t := by
  unfold framesOf
  rw [framesF]
  have h' : next b ((0 : Nat) : Int) = .ok (body, en) := h
  rw [h']
  exact ⟨_, rfl⟩
/-- all bytes have their bodies and an end -/
theorem framesF_is (b : List UInt8) : ∀ (f : Nat) (bs : List (List UInt8)) (at_ : Nat), Got b bs at_ → b.length < at_ + f → ∃ bs' at' r, Got b bs' at' ∧ next b at' = .error r
  | 0, bs, at_, h, hf => by have := h.le; omega
  | f + 1, bs, at_, h, hf => by
    cases hn : next b at_ with
    | error r => exact ⟨bs, at_, r, h, hn⟩
    | ok p =>
      obtain ⟨body, en⟩ := p
      have := (next_ok hn).1
      simp only at this
      exact framesF_is b f _ _ (h.step hn) (by omega)
theorem framesOf_is (b : List UInt8) : ∃ r, Got b (framesOf b).1 (framesOf b).2 ∧ next b (framesOf b).2 = .error r := by
  obtain ⟨bs, at_, r, h1, h2⟩ := framesF_is b (b.length + 1) [] 0 .start (by omega)
  rw [h1.all h2]
  exact ⟨r, h1, h2⟩

/-- what is known of a segment so far -/
def ScanSt (due : Int) (bs : List (List UInt8)) (base : Int) (recs : List (List UInt8)) : Prop := match bs with
  | [] => base = -1 ∧ recs = []
  | hd :: t => recs = t ∧ ∃ n : Nat, readNum hd = .ok (n, hd.length) ∧ base = (n : Int) ∧ (due < 0 ∨ (n : Int) = due)

theorem scan_bad {D : Dk} {due : Int} {hd : List UInt8} {t : List (List UInt8)} (h : (framesOf D.all).1 = hd :: t) (hb : ∀ n : Nat, readNum hd = .ok (n, hd.length) → ¬ (due < 0 ∨ (n : Int) = due)) : scan D due = none := by
  unfold scan
  rw [h]
  simp only
  split
  · rfl
  · rename_i n s e
    rw [if_neg]
    rintro ⟨h1, h2⟩
    subst h1
    exact hb n e h2
theorem scan_none {D : Dk} {due : Int} (h : (framesOf D.all).1 = []) : scan D due = none := by
  unfold scan
  rw [h]
theorem scan_some {D : Dk} {due : Int} {hd : List UInt8} {t : List (List UInt8)} {n en : Nat} (h : framesOf D.all = (hd :: t, en)) (hn : readNum hd = .ok (n, hd.length)) (hd2 : due < 0 ∨ (n : Int) = due) : scan D due = some (⟨(D.cut en).1, n, t, t.length⟩, decide (en = D.all.length)) := by
  unfold scan
  rw [h]
  simp only [hn]
  rw [if_pos ⟨trivial, hd2⟩]
theorem scan_ok {D : Dk} {due : Int} {g : Sg} {wh : Bool} (hD : D.ok) (hdn : D.down = false) (h : scan D due = some (g, wh)) : g.ok ∧ g.up := by
  obtain ⟨r, hg, he⟩ := framesOf_is D.all
  have hfo := hg.all he
  generalize (framesOf D.all).1 = bs at *
  generalize (framesOf D.all).2 = en at *
  have hle := hg.le
  unfold scan at h
  rw [hfo] at h
  simp only at h
  split at h
  · cases h
  · rename_i hd t
    split at h
    · cases h
    · rename_i n s e2
      split at h
      · rename_i hc
        injection h with h
        injection h with h1 h2
        subst h1
        have hb := (readN_le hd 0 0 n s e2).1
        rw [List.length_cons] at hle
        have hl := hD.2
        refine ⟨⟨hb, ?_, Nat.le_refl _, fun x hx => ?_⟩, ?_⟩
        · show t.length ≤ 349525
          omega
        · exact hle.2.2 x (List.mem_cons_of_mem _ hx)
        · unfold Dk.cut Sg.up
          rw [hdn]
          simp only [Bool.false_eq_true, if_false]
          rw [if_neg (by omega), Int.toNat_natCast]
          refine ⟨rfl, ?_⟩
          simp only [List.length_take]
          omega
      · cases h
end Go.Proofs.YtediidajdpdeiaaDoor

/- The log's head, Append (layer 7): the walks. -/
namespace Go.Proofs.YtediidajdpdeiaaDoor
open Go.RowKit CrcM
set_option maxRecDepth 100000

theorem head_B (w : World) (hh : HalfAt w) (base : Nat) (hn : base ≤ 4611686018427387904) :
    Calls Tryd.prog 86 #[.int .i64 (base : Int)] w (BytesNew w (headB base)) := by
  have h10 : (numB base).length ≤ 10 := numB_10 (by omega)
  have hN := Num_B w w (Below.refl _ _) none 0 [] (Rd.nil _ _ _) (by simp) base hn
  rw [List.nil_append, List.length_nil] at hN
  go_enter Tryd.func86, Tryd.ntmps86
  go_wp2_with (go_at_call 107; refine hN.mono ?_; rintro e w1 ⟨v1, rfl, ho1, hb1⟩; obtain ⟨A1, c1, rfl, hc1, hm1⟩ := own_val ho1)
  have hF := frame_B w1 (hh.below hb1 hh.lt) A1 (numB base) c1 (numB base).length (own_rd ho1 rfl) rfl (by unfold maxLen; omega)
  simp only [if_pos (show (numB base).length ≤ 65536 by omega)] at hF
  refine hF.mono ?_
  rintro e w2 ⟨A2, c2, rfl, ho2, hc2, hm2, hb2⟩
  go_wp2
  go_ret
  refine ⟨A2, c2, rfl, ?_, hc2, hm2, hb1.trans (hb2.mono hb1.size)⟩
  exact ho2.mono (fun x hx => Nat.le_trans hb1.size hx)
end Go.Proofs.YtediidajdpdeiaaDoor
