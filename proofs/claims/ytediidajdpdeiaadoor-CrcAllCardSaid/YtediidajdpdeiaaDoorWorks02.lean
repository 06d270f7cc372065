/- The document's Good, walked; and the chapter's example. -/
import Derived.Test.YtediidajdpdeiaaDoorRef02
import Derived.Test.YtediidajdpdeiaaDoorCrcP
namespace Go.Proofs.YtediidajdpdeiaaDoor
open Go.RowKit CrcM
set_option maxRecDepth 100000

/-- what a function that tells where frames end leaves -/
def GoodDid (w : World) (b : List UInt8) (e : Ending) (w' : World) : Prop := ∃ (at_ : Nat) (r : Int), GoodIs b at_ r ∧ e = .returned (.tuple #[.int .i64 (at_ : Int), .int .i64 r]) ∧ Below w.heap.size w w'

set_option maxHeartbeats 1000000 in
theorem refGood_B (w : World) (A : Option Addr) (b : List UInt8) (c n : Nat) (hr : Rd Non w A b) (hl : b.length = n) (hn : n ≤ c) (hm : c ≤ maxLen) :
    Calls Tryd.prog 31 #[.slice A n c] w (GoodDid w b) := by
  have HL := Lib.hid hl
  have hcm := hm
  unfold maxLen at hm
  clear hl
  go_enter Tryd.func31, Tryd.ntmps31
  go_wp2
  go_loopw [4] (fun p wr => ∃ k at_ : Nat, Pos b k at_ ∧ p = .int .i64 at_ ∧ Below w.heap.size w wr) (fun p _ => n + 1 - (intOf p).toNat)
  case atStart => exact ⟨0, 0, .start, rfl, Below.refl _ _⟩
  case round =>
    obtain ⟨k, at_, hp, rfl, hb⟩ := hrel
    have hle := hp.le
    rw [HL.out] at hle
    by_cases hlt : at_ < n
    · have hlt' : (at_ : Int) < (n : Int) := by omega
      have hnx := refNext_B wr A b c n (hr.below hb) HL.out hn hcm (at_ : Int)
      cases hx : next b at_ with
      | error r =>
        have hr0 : (r == 0) = false := by have := next_err hx; simpa using this
        have hG : GoodIs b at_ r := ⟨k, hp, r, hx, by rw [if_neg (by rw [HL.out]; omega)]⟩
        have HX := Lib.hid hx
        clear hx
        go_wp2_with (go_at_call 29; refine hnx.mono ?_; intro e w2 hd; unfold NextDid at hd; rw [HX.out] at hd; obtain ⟨rfl, hb2⟩ := hd; clear hnx)
        go_ret2
        exact ⟨at_, r, hG, rfl, hb.trans (hb2.mono hb.size)⟩
      | ok p =>
        obtain ⟨body, en⟩ := p
        have hno := next_ok hx
        simp only at hno
        have HN := Lib.hid hno
        have HX := Lib.hid hx
        clear hx hno
        go_wp2_with (go_at_call 29; refine hnx.mono ?_; intro e w2 hd; unfold NextDid at hd; rw [HX.out] at hd; obtain ⟨A', c', rfl, ho, hc', hm', hb2⟩ := hd; clear hnx)
        go_roundw
        case rel => exact ⟨k + 1, en, .step hp HX.out, rfl, hb.trans (hb2.mono hb.size)⟩
        case measure => have := HN.out; simp [intOf]; omega
    · obtain rfl : at_ = n := by omega
      go_wp2
      go_ret2
      exact ⟨at_, 0, ⟨k, hp, 4, by rw [← HL.out]; exact next_end b, by rw [if_pos HL.out.symm]⟩, rfl, hb⟩

theorem good_1 (b : List UInt8) (x : UInt8) (h : b.length ≤ 65536) (at_ : Nat) (r : Int) (hg : GoodIs (frame b ++ [x]) at_ r) : at_ = b.length + 12 ∧ r = 4 := by
  have hp := pos_frames [b] (by simpa using h) [x] 1 (by simp)
  have e : frames [b] = frame b := by simp [frames]
  have e1 : ([b] : List (List UInt8)).take 1 = [b] := rfl
  rw [e1, e, length_frame] at hp
  refine hg.det ⟨1, hp, 4, ?_, ?_⟩
  · unfold next
    rw [if_neg (by simp only [List.length_append, length_frame, List.length_cons, List.length_nil]; omega), if_pos (by simp only [List.length_append, length_frame, List.length_cons, List.length_nil]; omega)]
  · rw [if_neg (by simp only [List.length_append, length_frame, List.length_cons, List.length_nil]; omega)]

theorem run_equalIn_func_nil {P : Program} {t : TypeId} {ps rs : Array TypeId} {vd : Bool} (h : P.underlying t = some (.func ps rs vd)) (d : Nat) (f : Fn) (a c : Array Value) (w : World) :
    (Op.equalIn (d + 1) t (.func f a c) .nilFunc).run P w = .ok false w := by
  simp [Op.equalIn, run_underlying h]
theorem run_eql_func_nil {P : Program} {t : TypeId} {ps rs : Array TypeId} {vd : Bool} (h : P.underlying t = some (.func ps rs vd)) (f : Fn) (a c : Array Value) (w : World) :
    (binOp .eql t (.func f a c) .nilFunc).run P w = .ok (.bool false) w := by
  simp only [binOp]
  simp [show Op.equal t (.func f a c) .nilFunc = Op.equalIn (9999 + 1) t (.func f a c) .nilFunc from rfl, run_equalIn_func_nil h]
theorem run_neq_func_nil {P : Program} {t : TypeId} {ps rs : Array TypeId} {vd : Bool} (h : P.underlying t = some (.func ps rs vd)) (f : Fn) (a c : Array Value) (w : World) :
    (binOp .neq t (.func f a c) .nilFunc).run P w = .ok (.bool true) w := by
  simp only [binOp]
  simp [show Op.equal t (.func f a c) .nilFunc = Op.equalIn (9999 + 1) t (.func f a c) .nilFunc from rfl, run_equalIn_func_nil h]

theorem sum_check : (sum [49, 50, 51, 52, 53, 54, 55, 56, 57]).toNat = 3421780262 := by decide +kernel

set_option maxHeartbeats 1000000 in
theorem works_02 (w : World) (hh : HalfAt w) : Calls Tryd.prog 25 #[] w fun e w' => e = .returned (.bool true) ∧ Below w.heap.size w w' := by
  obtain ⟨i, hi, hz, hs, hby⟩ := info_parts info_u8
  have kc := fun (w : World) (C : Array Value) (n c : Nat) => Lib.run_convert_bytes_const (P := Tryd.prog) w 22 TB C n c Tryd.underlying22 Tryd.underlying5
  go_enter Tryd.func25, Tryd.ntmps25
  have kf := fun (f : Fn) (a c : Array Value) (w : World) => run_neq_func_nil (P := Tryd.prog) Tryd.underlying48 f a c w
  have l97 : (frame [97]).length = 13 := rfl
  have r0 : Rd Non (w.alloc (Obj.cells #[Value.int IntKind.u8 97] TB (1, 2))) (some ⟨w.heap.size, 0, none⟩) [97] := (Own.of_cells (fun _ => True) (heap_alloc_new w _) trivial rfl).rd _
  have b0 := below_new w (Obj.cells #[Value.int IntKind.u8 97] TB (1, 2))
  have hF := frame_B _ (hh.below b0 hh.lt) (some ⟨w.heap.size, 0, none⟩) [97] 1 1 r0 rfl (by simp [maxLen])
  simp only [if_pos (show 1 ≤ 65536 by omega), Made, l97] at hF
  generalize hw0 : w.alloc (Obj.cells #[Value.int IntKind.u8 97] TB (1, 2)) = w0 at *
  clear r0
  go_wp2_with (first
               | (go_at_call 26; refine hF.mono ?_; rintro e w1 ⟨A1, c1, rfl, ho1, hc1, hm1, hb1⟩; clear hF hw0; have ho1' := ho1.rd Non; have hB1 := b0.trans (hb1.mono b0.size))
               | (at_builtin
                  refine wpList_appB rfl (.tmp 12) (.tmp 13) 22 rfl i Tryd.underlying22 hi hz hs hby w1.heap.size (.slice (some ⟨w1.heap.size, 0, none⟩) 0 0) 0 [] rfl (ownsB_none w1) Non A1 13 c1 (frame [97]) rfl l97 (ho1'.fr ((Fr.refl _ _).alloc _)) (by omega) (by simp) ?_
                  intro v2 w2 hown2 hgrow2 hat2
                  obtain ⟨A2, c2, rfl, hc2, hm2⟩ := own_val hown2)
               | (at_builtin
                  refine wpList_appB rfl (.tmp 14) (.tmp 15) 22 rfl i Tryd.underlying22 hi hz hs hby w1.heap.size (.slice A2 13 c2) 13 (frame [97]) rfl (hown2.alloc _) Non _ 1 1 [7] rfl rfl (rd_one w2 _ 7 rfl _) (by omega) (by have := hgrow2.size; simp at *; omega) ?_
                  intro v3 w3 hown3 hgrow3 hat3
                  obtain ⟨A3, c3, rfl, hc3, hm3⟩ := own_val hown3)
               | (go_at_call 30
                  have hB2 := (hB1.alloc hB1.size (.cells #[] TB)).grown hgrow2 (by have := hB1.size; simp; omega) (fun j hj => by injection hj with hj; subst hj; exact hB1.size)
                  have hB3 := (hB2.alloc hB2.size (.cells #[.int .u8 7] TB)).grown hgrow3 (by have := hB2.size; simp; omega) (fun j hj => by have := (hown2.lt j hj).1; have := hB1.size; omega)
                  refine (good_B _ (hh.below hB3 hh.lt) A3 (frame [97] ++ [7]) c3 14 (own_rd hown3 rfl) rfl hc3 hm3).mono ?_
                  rintro e w4 ⟨at_, r, hg, rfl, hb4⟩
                  obtain ⟨rfl, rfl⟩ := good_1 [97] 7 (by simp) at_ r hg
                  have hB4 := hB3.trans (hb4.mono hB3.size)
                  clear hown2 hgrow2 hat2 hown3 hgrow3 hat3 hB1 hB2 hB3 hb1 b0 hb4 ho1 ho1' hg)
               | (go_at_call 24
                  have b5 := below_new w4 (Obj.cells #[Value.int IntKind.u8 49, Value.int IntKind.u8 50, Value.int IntKind.u8 51, Value.int IntKind.u8 52, Value.int IntKind.u8 53, Value.int IntKind.u8 54, Value.int IntKind.u8 55, Value.int IntKind.u8 56, Value.int IntKind.u8 57] TB (9, 10))
                  have r5 : Rd Non (w4.alloc (Obj.cells #[Value.int IntKind.u8 49, Value.int IntKind.u8 50, Value.int IntKind.u8 51, Value.int IntKind.u8 52, Value.int IntKind.u8 53, Value.int IntKind.u8 54, Value.int IntKind.u8 55, Value.int IntKind.u8 56, Value.int IntKind.u8 57] TB (9, 10))) (some ⟨w4.heap.size, 0, none⟩) [49, 50, 51, 52, 53, 54, 55, 56, 57] := (Own.of_cells (fun _ => True) (heap_alloc_new w4 _) trivial rfl).rd _
                  have hB5 := hB4.trans (b5.mono hB4.size)
                  have hS := sum_1 _ (hh.below hB5 hh.lt) _ _ 9 9 22 rfl r5 (by simp [maxLen])
                  simp only [World.size_alloc, sum_check] at hS
                  refine hS.mono ?_
                  rintro e w6 ⟨rfl, rfl⟩
                  have hB6 := hB5.alloc hB5.size (.cells #[.slice (some ⟨w4.heap.size, 0, none⟩) 9 9] 22)
                  clear hS r5 b5 hB5 hB4)
               | (go_at_call 32; refine (all_B _ _ _ _).mono ?_; rintro e w7 ⟨rfl, rfl⟩)
               | fail)
  go_ret
  exact ⟨rfl, hB6.alloc hB6.size _⟩
end Go.Proofs.YtediidajdpdeiaaDoor
