/- The chapter's example (layer 7): the walk. -/
import Derived.Test.YtediidajdpdeiaaDoorWorks07P
import Derived.Test.YtediidajdpdeiaaDoorAll07
import Derived.Lib.ConvBytes
namespace Go.Proofs.YtediidajdpdeiaaDoor
open Go.RowKit CrcM
set_option maxRecDepth 100000

theorem bytesWorld_below (w : World) (e : TypeId) (s : ByteArray) : Below w.heap.size w (Lib.bytesWorld w e s) :=
  ⟨rfl, rfl, rfl, by rw [Lib.bytesWorld_size]; omega, fun j hj => Lib.bytesWorld_at_old w e s j hj⟩
theorem bytesWorld_arg (W w : World) (l : List UInt8) : Arg W (Lib.bytesWorld w TB ⟨l.toArray⟩) (some ⟨w.heap.size, 0, none⟩) l :=
  (Own.of_cells (S := fun _ => True) (Lib.bytesWorld_at_new w TB ⟨l.toArray⟩) trivial (by
    unfold Lib.bytesCells
    rw [Array.toList_append]
    simp [byteV])).arg

theorem works_07 (W w : World) (hb : Below W.heap.size W w) (hh : HalfAt W) : Calls Tryd.prog 41 #[] w fun e w' => e = .returned (.bool true) ∧ Below W.heap.size W w' := by
  have kc := fun (w : World) (C : Array Value) (n c : Nat) => Lib.run_convert_bytes_const (P := Tryd.prog) w 22 TB C n c Tryd.underlying22 Tryd.underlying5
  have ks := fun (w : World) (s : ByteArray) => Lib.run_convert_string_bytes (P := Tryd.prog) w 9 22 TB s Tryd.underlying9 Tryd.underlying22 Tryd.underlying5
  go_enter Tryd.func41, Tryd.ntmps41
  go_wp2_with (go_at_call 34; refine (new_G hb 2 (by decide) (by decide)).mono ?_; rintro e w1 ⟨b, rfl, h1, hb1⟩)
  have hlit := Blk.new w1 9 #[.string ⟨#[120]⟩, .string ⟨#[121]⟩, .string ⟨#[122]⟩]
  have h2 := h1.mono (below_new w1 (.cells #[.string ⟨#[120]⟩, .string ⟨#[121]⟩, .string ⟨#[122]⟩] 9))
  have h2' := h2.sub (X' := fun x => x = w1.heap.size) (fun x e => .inr ⟨by omega, by simp [e]⟩)
  have hcell : ∀ k, k < 3 → ∀ w' : World, w'.heap[w1.heap.size]? = some (Obj.cells #[.string ⟨#[120]⟩, .string ⟨#[121]⟩, .string ⟨#[122]⟩] 9 (0, 0)) → w'.cell? ⟨w1.heap.size, k, none⟩ = some (.string ⟨(exB k).toArray⟩) := fun k hk w' hw => by
    have hB : Blk w' w1.heap.size 9 #[.string ⟨#[120]⟩, .string ⟨#[121]⟩, .string ⟨#[122]⟩] := hw
    refine hB.cell k ?_
    match k, hk with
    | 0, _ => rfl
    | 1, _ => rfl
    | 2, _ => rfl
  go_loopw [17] (fun i wr => ∃ k : Nat, k ≤ 3 ∧ i = .int .i64 (k : Int) ∧ LiveG W wr b (exL k) (fun x => x = w1.heap.size) ∧ wr.heap[w1.heap.size]? = some (Obj.cells #[.string ⟨#[120]⟩, .string ⟨#[121]⟩, .string ⟨#[122]⟩] 9 (0, 0))) (fun i _ => 3 - (intOf i).toNat)
  case atStart => exact ⟨0, by omega, rfl, h2', hlit⟩
  case round =>
    obtain ⟨k, hk, rfl, hL, hcs⟩ := hrel
    by_cases hlt : k < 3
    · have a1 := hcell k hlt wr hcs
      have hl := ex_len ⟨k, by omega⟩
      have hlt' : (k : Int) < 3 := by omega
      have hbl : (exB k).length ≤ 70368744177664 := by unfold exB; simp
      clear hcell
      go_wp2_with (go_at_call 35; refine (append_G (hL.mono' (bytesWorld_below wr TB ⟨(exB k).toArray⟩)) hh hl _ (exB k) _ (bytesWorld_arg W wr (exB k)) hbl).mono ?_; rintro e w2 ⟨rfl, h2, hx, -⟩)
      go_roundw
      case rel => exact ⟨k + 1, by omega, by go_num, h2, ((hx _ rfl).trans (Lib.bytesWorld_at_old _ _ _ _ (hL.ltX _ rfl))).trans hcs⟩
      case measure => simp [intOf]; omega
    · obtain rfl : k = 3 := by omega
      obtain ⟨v1, v2, v3, v4, v5, v6, v7⟩ := ex_vals
      have hL0 := hL.sub (X' := Non) (fun _ h => h.elim)
      clear hcell hL hcs hlit h1 h2 h2'
      go_wp2_with (first
        | (go_at_call 46; refine (sync_G hL0).mono ?_; rintro e w3 ⟨rfl, h3, -⟩)
        | (go_at_call 35; refine (append_G (L := exL3) (h3.mono' ((below_new w3 (.cells #[.int .u8 119] TB (1, 2))))) hh v1 _ [119] _ (Arg.lit _ (heap_alloc_new _ _) (by rfl)) (by decide)).mono ?_; rintro e w4 ⟨rfl, h4, -⟩; have hL4 := len_G (L := exL4) h4; rw [v2] at hL4)
        | (go_at_call 37; refine hL4.mono ?_; rintro e w5 ⟨rfl, h5, -⟩; have hS5 := safe_G h5; rw [v3] at hS5; clear hL4)
        | (go_at_call 38; refine hS5.mono ?_; rintro e w6 ⟨rfl, h6, -⟩; have hC6 := crash_G h6 0 0 (by decide) (by decide) (by decide) (by decide); unfold LiveGDid at hC6; rw [v4] at hC6)
        | (go_at_call 43; refine hC6.mono ?_; rintro e w7 ⟨rfl, h7, -⟩; have hR7 := restart_G (L := exL5) h7 hh; unfold LiveGDid at hR7; rw [v5] at hR7)
        | (go_at_call 44; refine hR7.mono ?_; rintro e w8 ⟨rfl, h8, -⟩; have hL8 := len_G (L := exL6) h8; rw [v6] at hL8)
        | (go_at_call 37; refine hL8.mono ?_; rintro e w9 ⟨rfl, h9, -⟩; have hs9 := segments_G h9; unfold SegsLen at hs9; rw [v7] at hs9)
        | (go_at_call 36; refine hs9.mono ?_; rintro e w10 ⟨A10, c10, rfl, h10, -⟩))
      go_ret
      exact ⟨rfl, h10.below⟩
end Go.Proofs.YtediidajdpdeiaaDoor
