/- crc.All's iterator, handed a function literal. -/
import Derived.Test.YtediidajdpdeiaaDoorAll
namespace Go.Proofs.YtediidajdpdeiaaDoor
open Go.RowKit Go.Shelf CrcM
set_option maxRecDepth 100000

set_option maxHeartbeats 1000000 in
theorem all_calls (bx : Nat) (A : Option Addr) (c : Nat) (b : List UInt8) (hbc : b.length ≤ c) (hcm : c ≤ maxLen) (w : World) (f : Nat) (caps : Array Value) (eg : ∀ args w, (callFunc f args).run Tryd.prog w = .ok (.enter f args) w)
    (J Jx : Nat → World → Prop) (hI : ∀ k W, J k W → AllNeeds bx A c b W) (hJ : ∀ k W W', J k W → Below W.heap.size W W' → J k W')
    (hY : ∀ k v W1, J k W1 → AllGv b k v W1 → Calls Tryd.prog f (v ++ caps) W1 fun e W' => (e = .returned (.bool true) ∧ J (k + 1) W') ∨ (e = .returned (.bool false) ∧ Jx (k + 1) W')) (h0 : J 0 w) :
    Calls Tryd.prog 81 #[.func (.func f) #[] caps, .pointer (some ⟨bx, 0, none⟩)] w fun e W' => e = .returned (.tuple #[]) ∧ ((∃ k, AllS b k ∧ J k W') ∨ (∃ k, Jx k W')) := by
  go_enter Tryd.func81, Tryd.ntmps81
  go_wp2
  go_loopw [3] (fun p wr => ∃ k at_ : Nat, Pos b k at_ ∧ p = .int .i64 at_ ∧ J k wr) (fun p _ => b.length + 1 - (intOf p).toNat)
  case atStart => exact ⟨0, 0, .start, rfl, h0⟩
  case round =>
    obtain ⟨k, at_, hpos, rfl, hJk⟩ := hrel
    obtain ⟨hh, hbx, hrb⟩ := hI k _ hJk
    have hnx := next_B wr hh A b c b.length hrb rfl hbc hcm (at_ : Int)
    cases hn : next b at_ with
    | error r =>
      have hr0 : ¬ r = 0 := next_err hn
      have HN := Lib.hid hn
      clear hn
      go_wp2_with (first
        | (go_at_call 28; refine hnx.mono ?_; intro e w2 hd; unfold NextDid at hd; rw [HN.out] at hd; obtain ⟨rfl, hb2⟩ := hd)
        | fail)
      refine bodyPost_ret (results_none rfl _ _ _) rfl ?_
      exact ⟨rfl, .inl ⟨k, ⟨at_, r, hpos, HN.out⟩, hJ _ _ _ hJk hb2⟩⟩
    | ok p =>
      obtain ⟨body, en⟩ := p
      have hno := Lib.hid (next_ok hn)
      have HN := Lib.hid hn
      clear hn
      go_wp2_with (first
        | (go_at_call 28; refine hnx.mono ?_; intro e w2 hd; unfold NextDid at hd; rw [HN.out] at hd; obtain ⟨A', c', rfl, ho, hc', hm', hb2⟩ := hd; have hC := hY k #[.int .i64 (at_ : Int), .slice A' body.length c'] w2 (hJ _ _ _ hJk hb2) ⟨at_, body, en, A', c', hpos, HN.out, rfl, ho.rd _, hc', hm'⟩)
        | fail)
      refine hC.mono ?_
      rintro e W3 (⟨rfl, hJ3⟩ | ⟨rfl, hJx3⟩)
      · clear hC hnx
        go_wp2
        go_roundw
        case rel => exact ⟨k + 1, en, .step hpos HN.out, rfl, hJ3⟩
        case measure =>
          have := hno.out.1
          have := hno.out.2.1
          simp [intOf] at *
          omega
      · clear hC hnx
        go_wp2
        refine bodyPost_ret (results_none rfl _ _ _) rfl ?_
        exact ⟨rfl, .inr ⟨k + 1, hJx3⟩⟩
end Go.Proofs.YtediidajdpdeiaaDoor
