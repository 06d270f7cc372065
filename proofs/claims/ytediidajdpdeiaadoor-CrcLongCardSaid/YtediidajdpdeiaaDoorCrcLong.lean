/- For every input racewaylaw02.CrcLong returns true and leaves its arguments as they were: a body is framed up to the limit, and refused behind it. The package variable crc.half starts as the program's text lays it (the card ties that); no other condition. -/
import Derived.Test.YtediidajdpdeiaaDoorLaws02b
import Derived.Test.YtediidajdpdeiaaDoorCards
namespace Go.Proofs.YtediidajdpdeiaaDoor
open Go.RowKit Go.ChangeShapes Go.WideShapes Go.ChangeAt

set_option maxRecDepth 100000 in
theorem crcLong_lifted (os : Os) (started : os.Started) (H : Type) (enc : TypeId × Value → H) :
    ReturnsInHanded {} Tryd.checked os 6 .any (fun w args => (Rows.crcLongSpec.pre enc Tryd.prog Tryd.f6 [] false w args ∧ laidMetH Tryd.prog [("raceway/crc.half", Rows.laid_raceway_crc_half)] w) ∧ sizedMet enc Tryd.prog Tryd.f6 (OpenSpec.ofChange Rows.crcLongSpec) false w args)
      (Rows.crcLongSpec.post enc Tryd.prog Tryd.f6 false true false false) := by
  refine returnsInHanded_of_change_and (C := Tryd.checked) (X := fun w _ => laidMetH Tryd.prog [("raceway/crc.half", Rows.laid_raceway_crc_half)] w) (fun _ _ _ hh h => h.of_heap hh) own_knob started (by kernel_rfl) Tryd.func6
    (ChangeSpec.witness_shaped (enc := enc) (C := Tryd.checked) (os := os) (X := fun w _ => laidMetH Tryd.prog [("raceway/crc.half", Rows.laid_raceway_crc_half)] w) false (World.laidAll Tryd.prog os [("raceway/crc.half", Rows.laid_raceway_crc_half)]) #[.int .i64 0, .int .u8 0] 8 (World.laidAll_os _ _ _)
      (World.shaped_of_ZipB (by kernel_rfl) (by kernel_rfl)) (by kernel_rfl) (by kernel_rfl) (by kernel_rfl)
      (by rw [MakeChecks.laidMetH_plain _ _ _ (by kernel_rfl)]; exact laidMet_laidAll _ (by kernel_rfl) (by kernel_rfl))) ?_
  intro W base args ds gs before hval0 hW _ _ hL _
  have hh := halfAt_of_laid hL
  have hval : ∀ (j : Nat) t v, Tryd.f6.params[j]? = some t → args[j]? = some v → Value.okWide Tryd.prog W .any base t v := hval0
  have hW' := hW
  have hlt := hW.lt
  obtain ⟨p, q, hA0, hV, rfl, _, _⟩ := hW
  have hA : DataW.TrodAll enc Tryd.prog W 0 (fun _ => true) true Tryd.f6.params.toList args.toList ds p := hA0
  rw [Tryd.params6] at hA hval
  obtain ⟨rfl, rfl⟩ := trodVars_none hV
  obtain ⟨v0, vs0, d0, ds0, p0, q0, hargs, rfl, rfl, h0, r0⟩ := trodAll_cons hA
  obtain ⟨v1, vs1, d1, ds1, p1, q1, rfl, rfl, rfl, h1, r1⟩ := trodAll_cons r0
  obtain ⟨rfl, rfl, rfl⟩ := trodAll_nil r1
  obtain rfl : args = #[v0, v1] := by cases args; simp_all
  obtain ⟨n0, rfl, rfl, rfl, hn0⟩ := open_int Tryd.underlying3 (hval 0 _ v0 rfl rfl) h0
  obtain ⟨n1, rfl, rfl, rfl, hn1⟩ := open_int Tryd.underlying5 (hval 1 _ v1 rfl rfl) h1
  obtain ⟨x1, rfl⟩ := u8_of hn1
  refine (longLaw_02 W hh n0 (i64_of hn0) x1).mono fun e W' ⟨he, hb⟩ => ?_
  subst he
  exact ⟨_, rfl, post_law hW' ⟨rfl, rfl⟩ rfl (by kernel_rfl) rfl hb⟩

theorem crcLong_c1 : Tryd.pinned.checked.prog.funcNamed Rows.crcLongRow.func = some 6 := by kernel_rfl
theorem crcLong_c2 : joinedFacts Tryd.pinned.checked.prog 6 Tryd.f6 Rows.crcLongSpec Rows.crcLongRow = true := by kernel_rfl
theorem crcLong_c3 : Tryd.f6.isInstance Tryd.pinned.checked.prog Rows.crcLongRow.origin Rows.crcLongRow.targs := of_decide_eq_true (by kernel_rfl)
theorem crcLong_c4 : Tryd.f6.isWrapper Tryd.pinned.checked.prog Rows.crcLongRow.wrapper Rows.crcLongRow.mainSum := by
  unfold Func.isWrapper; first | (rw [if_pos (by decide +kernel)]; kernel_rfl) | (rw [if_neg (by decide +kernel)]; exact ⟨rfl, rfl⟩)
theorem crcLong_c5 : Rows.crcLongRow.wfByText (OpenSpec.ofChange Rows.crcLongSpec) = true := by kernel_rfl
theorem crcLong_c6 : Tryd.pinned.checked.prog.mainIs = some (true, "585feb5cc1a63fc20adbe26e4268597a744f81f1d91d3686b100c946d87de601".toList) := by kernel_rfl
theorem crcLong_c7 : true = Tryd.pinned.checked.prog.looks [] := by kernel_rfl
theorem crcLong_c8 : false = Rows.crcLongRow.goesBy Tryd.pinned.checked.prog := by kernel_rfl
theorem crcLong_c9 : Tryd.f6.params.toList.all (fun t => !Tryd.pinned.checked.prog.wantsStandIn t) = true := by kernel_rfl

theorem crcLong_row : Rows.CrcLongSaid :=
  OpenClaim.holds_of_wide 6 Tryd.f6 rfl rfl rfl rfl rfl rfl rfl ⟨rfl, rfl, rfl, rfl, rfl⟩ rfl rfl rfl rfl rfl crcLong_c1 Tryd.func6 crcLong_c2 crcLong_c3 crcLong_c4
    (fun os started H enc _ => crcLong_lifted os started H enc)

theorem crcLong_holds : Rows.CrcLongCardSaid :=
  Claim7.holds_tied_plain_at .later [] [.data] true (true, "585feb5cc1a63fc20adbe26e4268597a744f81f1d91d3686b100c946d87de601") true
    crcLong_row (fun _ h => by cases h) crcLong_c5 (fun _ h => by cases h) crcLong_row_tie rfl ⟨rfl, rfl⟩ crcLong_c6 rfl
    (fun f fn hf hfn => by
      obtain rfl : f = 6 := Option.some.inj (crcLong_c1.symm.trans hf) |>.symm
      obtain rfl : fn = Tryd.f6 := (Option.some.inj (Tryd.func6.symm.trans hfn)).symm
      refine ⟨crcLong_c7, fun j t ht => ?_⟩
      have hm : t ∈ Tryd.f6.params.toList := by
        rw [← Array.getElem?_toList] at ht
        exact List.mem_of_getElem? ht
      have h := List.all_eq_true.1 crcLong_c9 t hm
      rw [Bool.not_eq_true'] at h
      exact h)
    crcLong_c8
#print axioms crcLong_holds
end Go.Proofs.YtediidajdpdeiaaDoor
