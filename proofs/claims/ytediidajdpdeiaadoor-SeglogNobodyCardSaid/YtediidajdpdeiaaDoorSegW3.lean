/- The log's head, Append (layer 7): the walks. -/
import Derived.Test.YtediidajdpdeiaaDoorSegW2
namespace Go.Proofs.YtediidajdpdeiaaDoor
open Go.RowKit CrcM
set_option maxRecDepth 100000

theorem head_B (w : World) (hh : HalfAt w) (base : Nat) (hn : base ≤ 4611686018427387904) :
    Calls Tryd.prog 86 #[.int .i64 (base : Int)] w (BytesNew w (headB base)) := by
  have h10 : (numB base).length ≤ 10 := numB_10 (by omega)
  have hN := Num_B w w (Below.refl _ _) none 0 [] (Rd.nil _ _ _) (by simp) base hn
  rw [List.nil_append, List.length_nil] at hN
  go_enter Tryd.func86, Tryd.ntmps86
  go_wp2_with (go_at_call 107; refine hN.mono ?_; rintro e w1 ⟨v1, rfl, ho1, hb1⟩; obtain ⟨A1, c1, rfl, hc1, hm1⟩ := own_val ho1)
  have hF := frame_B w1 (hh.below hb1 hh.lt) A1 (numB base) c1 (numB base).length (own_rd ho1 rfl) rfl (by unfold maxLen; omega)
  simp only [if_pos (show (numB base).length ≤ 65536 by omega)] at hF
  refine hF.mono ?_
  rintro e w2 ⟨A2, c2, rfl, ho2, hc2, hm2, hb2⟩
  go_wp2
  go_ret
  refine ⟨A2, c2, rfl, ?_, hc2, hm2, hb1.trans (hb2.mono hb1.size)⟩
  exact ho2.mono (fun x hx => Nat.le_trans hb1.size hx)
end Go.Proofs.YtediidajdpdeiaaDoor
