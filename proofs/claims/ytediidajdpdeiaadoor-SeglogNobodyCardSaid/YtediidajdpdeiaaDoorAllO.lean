/- crc.All: the iterator's word, where the bodies that are told are rows of one's own. -/
import Derived.Test.YtediidajdpdeiaaDoorGood
namespace Go.Proofs.YtediidajdpdeiaaDoor
open Go.RowKit Go.Shelf CrcM
attribute [local go_sem] Oper.semAt_some
set_option maxRecDepth 100000

def AllGvO (b : List UInt8) (k : Nat) (v : Array Value) (W : World) : Prop :=
  ∃ at_ body en A c, Pos b k at_ ∧ next b at_ = .ok (body, en) ∧ v = #[.int .i64 (at_ : Int), .slice A body.length c] ∧ Own (fun _ => True) W A body ∧ body.length ≤ c ∧ c ≤ maxLen

theorem GvO_own (b : List UInt8) (v : Array Value) (B : Nat) : OwnFrom B fun k W => AllGvO b k v W := by
  intro k W W' row hs hg hr
  obtain ⟨at_, body, en, A, c, h1, h2, h3, h4, h5⟩ := hs
  refine ⟨at_, body, en, A, c, h1, h2, h3, ?_, h5⟩
  intro j x hx
  obtain ⟨ad, e, hc, ⟨cs, fz, hb⟩, _⟩ := h4 j x hx
  refine ⟨ad, e, cell_kept hc hg (fun r e => (hr r e).2), ⟨cs, fz, ?_⟩, trivial⟩
  refine (hg.block _ (Array.getElem?_eq_some_iff.1 hb).1 ?_).trans hb
  intro e
  obtain ⟨o, ho, hcs⟩ := (hr _ e.symm).2
  rw [hb] at ho
  injection ho with ho
  rw [← ho] at hcs
  cases hcs

set_option maxHeartbeats 1000000 in
theorem all_iteratesO (bx : Nat) (A : Option Addr) (c : Nat) (b : List UInt8) (hbc : b.length ≤ c) (hcm : c ≤ maxLen) (I : Nat → World → Prop) (hI : ∀ k W, I k W → AllNeeds bx A c b W) (w : World) :
    Iterates Tryd.prog 81 #[.pointer (some ⟨bx, 0, none⟩)] (AllGvO b) I (AllS b) w := by
  intro n l J Jx W hW hJI hJ hY h0
  refine callsIn_of_wp Tryd.func81 rfl trivial ?_ rfl
  simp only [Tryd.ntmps81, List.size_toArray, List.length_cons, List.length_nil, Nat.reduceAdd, Nat.reduceSub, Array.replicate_succ, Array.replicate_zero, List.push_toArray, List.append_toArray, List.nil_append, List.cons_append]
  gi_wp2
  gi_loopw [3] (fun p wr => ∃ k at_ : Nat, Pos b k at_ ∧ p = .int .i64 at_ ∧ J k wr) (fun p _ => b.length + 1 - (intOf p).toNat)
  case atStart => exact ⟨0, 0, .start, rfl, h0⟩
  case round =>
    obtain ⟨k, at_, hpos, rfl, hJk⟩ := hrel
    obtain ⟨hh, hbx, hrb⟩ := hI k _ (hJI k _ hJk)
    have hnx := next_B wr hh A b c b.length hrb rfl hbc hcm (at_ : Int)
    cases hn : next b at_ with
    | error r =>
      have hr0 : ¬ r = 0 := next_err hn
      gi_wp2_with (refine ⟨trivial, fun h_ => (by cases h_), ?_⟩; gi_at_call 28; refine (callsIn_wide.2 hnx).mono ?_; intro e w2 hd; unfold NextDid at hd; rw [hn] at hd; obtain ⟨rfl, hb2⟩ := hd)
      all_goals (refine ⟨fun _ h => (by cases h), ?_⟩; gi_wp2)
      refine bodyPost_ret (results_none rfl _ _ _) rfl ?_
      exact ⟨⟨_, rfl⟩, .inl ⟨k, ⟨at_, r, hpos, hn⟩, OwnFrom.below hJ hJk hb2⟩⟩
    | ok p =>
      obtain ⟨body, en⟩ := p
      have hno := Lib.hid (next_ok hn)
      gi_wp2_with (refine ⟨trivial, fun h_ => (by cases h_), ?_⟩; gi_at_call 28; refine (callsIn_wide.2 hnx).mono ?_; intro e w2 hd; unfold NextDid at hd; rw [hn] at hd; obtain ⟨A', c', rfl, ho, hc', hm', hb2⟩ := hd; obtain ⟨fn, tmps, asg, bdy, hy, hR⟩ := hY k #[.int .i64 (at_ : Int), .slice A' body.length c'] w2 (OwnFrom.below hJ hJk hb2) ⟨at_, body, en, A', c', hpos, hn, rfl, ho.mono (fun _ _ => trivial), hc', hm'⟩)
      refine ⟨fun h_ => (by cases h_), hR.mono ?_⟩
      rintro e W3 (⟨rfl, hJ3⟩ | ⟨rfl, hJx3⟩)
      · gi_wp2
        go_roundw
        case rel => exact ⟨k + 1, en, .step hpos hn, rfl, hJ3⟩
        case measure =>
          have := hno.out.1
          have := hno.out.2.1
          simp [intOf] at *
          omega
      · gi_wp2
        refine bodyPost_ret (results_none rfl _ _ _) rfl ?_
        exact ⟨⟨_, rfl⟩, .inr ⟨k + 1, hJx3⟩⟩
end Go.Proofs.YtediidajdpdeiaaDoor
