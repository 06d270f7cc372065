/- crc.All: the iterator's word. -/
import Derived.Test.YtediidajdpdeiaaDoorNext
import Derived.Test.YtediidajdpdeiaaDoorRange
import Derived.Shelf.Abstract
import Derived.Shelf.RegionOpen
import Derived.WalkKit
import Derived.TacticsInMore
import Derived.LoopNIn
import Derived.LoopIn
namespace Go.Proofs.YtediidajdpdeiaaDoor
open Go.RowKit Go.Shelf CrcM
attribute [local go_sem] Oper.semAt_some
set_option maxRecDepth 100000

theorem OwnFrom.below {B : Nat} {J : Nat → World → Prop} (h : OwnFrom B J) {k : Nat} {W W' : World} (hs : J k W) (hb : Below W.heap.size W W') : J k W' :=
  h k W W' none hs ⟨hb.os, hb.tape, hb.output, hb.size, fun j hj _ => hb.block j hj⟩ (fun _ e => by cases e)

/-- where the k-th body lies -/
inductive Pos (b : List UInt8) : Nat → Nat → Prop
  | start : Pos b 0 0
  | step {k at_ : Nat} {body : List UInt8} {en : Nat} : Pos b k at_ → next b at_ = .ok (body, en) → Pos b (k + 1) en

theorem next_ok {b : List UInt8} {at_ : Nat} {p : List UInt8 × Nat} (h : next b at_ = .ok p) : at_ < p.2 ∧ p.2 ≤ b.length ∧ p.1.length ≤ 65536 ∧ p.2 = at_ + 12 + p.1.length := by
  unfold next at h
  split at h
  · cases h
  · split at h
    · cases h
    · rename_i h1 h2
      rw [Int.toNat_natCast] at h
      simp only at h
      split at h
      · cases h
      · split at h
        · cases h
        · split at h
          · cases h
          · split at h
            · cases h
            · rename_i h3 h4 h5 h6
              injection h with h; subst h
              rw [List.length_drop] at h5
              simp only [List.length_take, List.length_drop]
              omega

theorem next_err {b : List UInt8} {a r : Int} (h : next b a = .error r) : r ≠ 0 := by
  unfold next at h
  split at h
  · injection h with h; omega
  · split at h
    · injection h with h; omega
    · simp only at h
      split at h
      · injection h with h; omega
      · split at h
        · injection h with h; omega
        · split at h
          · injection h with h; omega
          · split at h
            · injection h with h; omega
            · cases h

theorem Pos.le {b : List UInt8} {k at_ : Nat} (h : Pos b k at_) : at_ ≤ b.length := by
  cases h with
  | start => omega
  | step _ hn => exact (next_ok hn).2.1

def AllGv (b : List UInt8) (k : Nat) (v : Array Value) (W : World) : Prop :=
  ∃ at_ body en A c, Pos b k at_ ∧ next b at_ = .ok (body, en) ∧ v = #[.int .i64 (at_ : Int), .slice A body.length c] ∧ Rd Non W A body ∧ body.length ≤ c ∧ c ≤ maxLen
def AllS (b : List UInt8) (k : Nat) : Prop := ∃ at_ r, Pos b k at_ ∧ next b at_ = .error r
/-- what the iterator reads -/
def AllNeeds (bx : Nat) (A : Option Addr) (c : Nat) (b : List UInt8) (W : World) : Prop :=
  HalfAt W ∧ W.cell? ⟨bx, 0, none⟩ = some (.slice A b.length c) ∧ Rd Non W A b

set_option maxHeartbeats 1000000 in
theorem all_iterates (bx : Nat) (A : Option Addr) (c : Nat) (b : List UInt8) (hbc : b.length ≤ c) (hcm : c ≤ maxLen) (I : Nat → World → Prop) (hI : ∀ k W, I k W → AllNeeds bx A c b W) (w : World) :
    Iterates Tryd.prog 81 #[.pointer (some ⟨bx, 0, none⟩)] (AllGv b) I (AllS b) w := by
  intro n l J Jx W hW hJI hJ hY h0
  refine callsIn_of_wp Tryd.func81 rfl trivial ?_ rfl
  simp only [Tryd.ntmps81, List.size_toArray, List.length_cons, List.length_nil, Nat.reduceAdd, Nat.reduceSub, Array.replicate_succ, Array.replicate_zero, List.push_toArray, List.append_toArray, List.nil_append, List.cons_append]
  gi_wp2
  gi_loopw [3] (fun p wr => ∃ k at_ : Nat, Pos b k at_ ∧ p = .int .i64 at_ ∧ J k wr) (fun p _ => b.length + 1 - (intOf p).toNat)
  case atStart => exact ⟨0, 0, .start, rfl, h0⟩
  case round =>
    obtain ⟨k, at_, hpos, rfl, hJk⟩ := hrel
    obtain ⟨hh, hbx, hrb⟩ := hI k _ (hJI k _ hJk)
    have hnx := next_B wr hh A b c b.length hrb rfl hbc hcm (at_ : Int)
    cases hn : next b at_ with
    | error r =>
      have hr0 : ¬ r = 0 := next_err hn
      gi_wp2_with (refine ⟨trivial, fun h_ => (by cases h_), ?_⟩; gi_at_call 28; refine (callsIn_wide.2 hnx).mono ?_; intro e w2 hd; unfold NextDid at hd; rw [hn] at hd; obtain ⟨rfl, hb2⟩ := hd)
      all_goals (refine ⟨fun _ h => (by cases h), ?_⟩; gi_wp2)
      refine bodyPost_ret (results_none rfl _ _ _) rfl ?_
      exact ⟨⟨_, rfl⟩, .inl ⟨k, ⟨at_, r, hpos, hn⟩, OwnFrom.below hJ hJk hb2⟩⟩
    | ok p =>
      obtain ⟨body, en⟩ := p
      have hno := Lib.hid (next_ok hn)
      gi_wp2_with (refine ⟨trivial, fun h_ => (by cases h_), ?_⟩; gi_at_call 28; refine (callsIn_wide.2 hnx).mono ?_; intro e w2 hd; unfold NextDid at hd; rw [hn] at hd; obtain ⟨A', c', rfl, ho, hc', hm', hb2⟩ := hd; obtain ⟨fn, tmps, asg, bdy, hy, hR⟩ := hY k #[.int .i64 (at_ : Int), .slice A' body.length c'] w2 (OwnFrom.below hJ hJk hb2) ⟨at_, body, en, A', c', hpos, hn, rfl, ho.rd _, hc', hm'⟩)
      refine ⟨fun h_ => (by cases h_), hR.mono ?_⟩
      rintro e W3 (⟨rfl, hJ3⟩ | ⟨rfl, hJx3⟩)
      · gi_wp2
        go_roundw
        case rel => exact ⟨k + 1, en, .step hpos hn, rfl, hJ3⟩
        case measure =>
          have := hno.out.1
          have := hno.out.2.1
          simp [intOf] at *
          omega
      · gi_wp2
        refine bodyPost_ret (results_none rfl _ _ _) rfl ?_
        exact ⟨⟨_, rfl⟩, .inr ⟨k + 1, hJx3⟩⟩
end Go.Proofs.YtediidajdpdeiaaDoor
