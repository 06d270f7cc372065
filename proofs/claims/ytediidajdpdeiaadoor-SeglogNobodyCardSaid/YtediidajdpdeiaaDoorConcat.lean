/- slices.Concat at lists of bytes: the walk. -/
import Derived.Test.YtediidajdpdeiaaDoorCrc
namespace Go.Proofs.YtediidajdpdeiaaDoor
open Go.RowKit
set_option maxRecDepth 100000

theorem Rd.below {w w' : World} {A : Option Addr} {l : List UInt8} (h : Rd Non w A l) (hb : Below w.heap.size w w') : Rd Non w' A l := h.fr (Fr.of_below hb)
theorem PartsAt.below {w w' : World} {P : Option Addr} {parts : List (List UInt8)} (h : PartsAt w P parts) (hb : Below w.heap.size w w') : PartsAt w' P parts := fun j l hl => by
  obtain ⟨ad, A, c, e, hc, hm, hr⟩ := h j l hl
  exact ⟨ad, A, c, e, (hb.cell (p := ad.add j) (cell_lt hc)).trans hc, hm, hr.below hb⟩

theorem grow_nil (m : Nat) (w : World) (hm : m ≤ 70368744177664) :
    Calls Tryd.prog 116 #[.slice none 0 0, .int .i64 m] w fun e w' => ∃ v, e = .returned v ∧ w'.ownsRow w.heap.size TB 1 v 0 (([] : List UInt8).map byteV) ∧ Below w.heap.size w w' := by
  rcases Nat.eq_zero_or_pos m with h0 | h0
  · subst h0
    refine (grow_zero none 0 w (by omega)).mono ?_
    rintro e w' ⟨rfl, rfl⟩
    exact ⟨_, rfl, World.ownsRow_nil _ _ _ _, Below.refl _ _⟩
  · refine (grow_B Non none [] m w (Rd.nil _ _ _) h0 (by simpa using hm)).mono ?_
    rintro e w' ⟨c, cur, rfl, h1, h2, h3, h4, rfl⟩
    refine ⟨_, rfl, ⟨by simp, .inr ⟨w.heap.size, c, cur, rfl, Nat.le_refl _, heap_alloc_new w.drew _, by simp, h2, by omega, by simp⟩⟩, (Below.refl _ _).drew.alloc (by exact Nat.le_refl _) _⟩

theorem flatten_take_le (parts : List (List UInt8)) (k : Nat) : (parts.take k).flatten.length ≤ parts.flatten.length := by
  have h := congrArg (fun l : List (List UInt8) => l.flatten.length) (List.take_append_drop k parts)
  simp only [List.flatten_append, List.length_append] at h
  omega

set_option maxHeartbeats 1000000 in
theorem concat_B (w : World) (P : Option Addr) (parts : List (List UInt8)) (pc : Nat) (hp : PartsAt w P parts) (hlen : parts.length ≤ maxLen) (htot : parts.flatten.length ≤ 70368744177664) :
    Calls Tryd.prog 77 #[.slice P parts.length pc] w (Cloned w parts.flatten) := by
  unfold maxLen at hlen
  obtain ⟨i, hi, hz, hs, hb⟩ := info_parts info_u8
  go_enter Tryd.func77, Tryd.ntmps77
  go_wp2
  go_loop [3, 11] (fun r i => ∃ k : Nat, k ≤ parts.length ∧ i = .int .i64 k ∧ r = .int .i64 ((parts.take k).flatten.length : Int)) (fun _ i => parts.length - (intOf i).toNat)
  case atStart => exact ⟨0, by omega, rfl, rfl⟩
  case round =>
    obtain ⟨k, hk, rfl, rfl⟩ := hrel
    by_cases hlt : k < parts.length
    · obtain ⟨l, hl⟩ : ∃ l, parts[k]? = some l := ⟨_, List.getElem?_eq_getElem hlt⟩
      obtain ⟨ad, A, c, rfl, hc, hll, hr⟩ := hp k l hl
      have e1 : (parts.take (k + 1)).flatten.length = (parts.take k).flatten.length + l.length := by rw [List.take_add_one, hl]; simp
      have e2 := flatten_take_le parts (k + 1)
      rw [e1] at e2
      have HS := Lib.hid e1
      generalize (parts.take k).flatten.length = n at *
      clear hl e1
      go_wp2
      go_round
      case rel => exact ⟨k + 1, by omega, by go_num, by rw [HS.out]; go_num⟩
      case measure => simp [intOf]; omega
    · obtain rfl : k = parts.length := by omega
      have e3 : (parts.take parts.length).flatten.length = parts.flatten.length := by rw [List.take_length]
      rw [e3]
      generalize hn : parts.flatten.length = n at *
      have HN := Lib.hid hn
      clear hn e3
      go_wp2_with (go_at_call 116; refine (grow_nil n _ htot).mono ?_; rintro e w1 ⟨v1, rfl, ho, hb1⟩)
      go_loopw [6, 27] (fun v i wr => ∃ j : Nat, j ≤ parts.length ∧ i = .int .i64 j ∧ wr.ownsRow w.heap.size TB 1 v (parts.take j).flatten.length ((parts.take j).flatten.map byteV) ∧ Below w.heap.size w wr) (fun _ i _ => parts.length - (intOf i).toNat)
      case atStart => exact ⟨0, by omega, rfl, by simpa using ho, hb1⟩
      case round =>
        obtain ⟨j, hj, rfl, hown, hbel⟩ := hrel
        by_cases hlj : j < parts.length
        · obtain ⟨l, hl⟩ : ∃ l, parts[j]? = some l := ⟨_, List.getElem?_eq_getElem hlj⟩
          obtain ⟨ad, A, c, rfl, hc, hll, hr⟩ := hp.below hbel j l hl
          have e1 : (parts.take (j + 1)).flatten = (parts.take j).flatten ++ l := by rw [List.take_add_one, hl]; simp
          have e2 := flatten_take_le parts (j + 1)
          rw [HN.out, e1, List.length_append] at e2
          have HS := Lib.hid e1
          generalize (parts.take j).flatten = pre at *
          clear hl e1
          obtain ⟨Av, cv, rfl, _, _⟩ := own_val hown
          go_wp2_with (at_builtin
                       refine wpList_appB rfl (.tmp 31) (.tmp 32) 22 rfl i Tryd.underlying22 hi hz hs hb w.heap.size _ pre.length pre rfl hown Non A l.length c l rfl rfl hr (by omega) hbel.size ?_
                       intro v2 w2 hown2 hgrow hat)
          go_roundw
          case rel => exact ⟨j + 1, by omega, by go_num, by rw [HS.out, List.length_append]; exact hown2, hbel.grown hgrow hbel.size (fun k hk => (hown.lt k hk).1)⟩
          case measure => simp [intOf]; omega
        · obtain rfl : j = parts.length := by omega
          rw [List.take_length] at hown
          obtain ⟨Av, cv, rfl, hc1, hc2⟩ := own_val hown
          go_wp2
          go_ret
          exact ⟨Av, cv, rfl, hown, hc1, hc2, hbel⟩
end Go.Proofs.YtediidajdpdeiaaDoor
