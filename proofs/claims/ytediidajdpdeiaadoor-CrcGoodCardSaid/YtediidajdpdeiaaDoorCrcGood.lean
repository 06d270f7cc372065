/- For every input racewaylaw02.CrcGood returns true and leaves its arguments as they were: the frames of any bytes end where the reference says, and for its reason. The package variable crc.half starts as the program's text lays it (the card ties that); no other condition. -/
import Derived.Test.YtediidajdpdeiaaDoorLaws02
import Derived.Test.YtediidajdpdeiaaDoorCards
namespace Go.Proofs.YtediidajdpdeiaaDoor
open Go.RowKit Go.ChangeShapes Go.WideShapes Go.ChangeAt

set_option maxRecDepth 100000 in
theorem crcGood_lifted (os : Os) (started : os.Started) (H : Type) (enc : TypeId × Value → H) :
    ReturnsInHanded {} Tryd.checked os 5 .any (fun w args => (Rows.crcGoodSpec.pre enc Tryd.prog Tryd.f5 [] false w args ∧ laidMetH Tryd.prog [("raceway/crc.half", Rows.laid_raceway_crc_half)] w) ∧ sizedMet enc Tryd.prog Tryd.f5 (OpenSpec.ofChange Rows.crcGoodSpec) false w args)
      (Rows.crcGoodSpec.post enc Tryd.prog Tryd.f5 false true false false) := by
  refine returnsInHanded_of_change_and (C := Tryd.checked) (X := fun w _ => laidMetH Tryd.prog [("raceway/crc.half", Rows.laid_raceway_crc_half)] w) (fun _ _ _ hh h => h.of_heap hh) own_knob started (by kernel_rfl) Tryd.func5
    (ChangeSpec.witness_shaped (enc := enc) (C := Tryd.checked) (os := os) (X := fun w _ => laidMetH Tryd.prog [("raceway/crc.half", Rows.laid_raceway_crc_half)] w) false (World.laidAll Tryd.prog os [("raceway/crc.half", Rows.laid_raceway_crc_half)]) #[.slice none 0 0] 8 (World.laidAll_os _ _ _)
      (World.shaped_of_ZipB (by kernel_rfl) (by kernel_rfl)) (by kernel_rfl) (by kernel_rfl) (by kernel_rfl)
      (by rw [MakeChecks.laidMetH_plain _ _ _ (by kernel_rfl)]; exact laidMet_laidAll _ (by kernel_rfl) (by kernel_rfl))) ?_
  intro W base args ds gs before hval0 hW _ _ hL _
  have hh := halfAt_of_laid hL
  have hval : ∀ (j : Nat) t v, Tryd.f5.params[j]? = some t → args[j]? = some v → Value.okWide Tryd.prog W .any base t v := hval0
  have hW' := hW
  have hlt := hW.lt
  obtain ⟨p, q, hA0, hV, rfl, _, _⟩ := hW
  have hA : DataW.TrodAll enc Tryd.prog W 0 (fun _ => true) true Tryd.f5.params.toList args.toList ds p := hA0
  rw [Tryd.params5] at hA hval
  obtain ⟨rfl, rfl⟩ := trodVars_none hV
  obtain ⟨v0, vs0, d0, ds0, p0, q0, hargs, rfl, rfl, h0, r0⟩ := trodAll_cons hA
  obtain ⟨rfl, rfl, rfl⟩ := trodAll_nil r0
  obtain rfl : args = #[v0] := by cases args; simp_all
  obtain ⟨a0, l0, c0, rfl⟩ := okWide_slice Tryd.underlying22 (hval 0 _ v0 rfl rfl)
  obtain ⟨fu0, t0⟩ := h0
  obtain ⟨B0, bb0, cc0, e0, hcb0, hcm0, hB0⟩ := open_bytes (P := Tryd.prog) Tryd.underlying22 Tryd.underlying5 cells_u8 t0 (fun x hx => hlt x (by simp [hx]))
  simp only [Value.cells, List.cons.injEq, Value.slice.injEq, and_true] at e0
  obtain ⟨rfl, rfl, rfl⟩ := e0
  refine (goodLaw_02 W hh _ bb0 _ hB0.rd hcb0 hcm0).mono fun e W' ⟨he, hb⟩ => ?_
  subst he
  exact ⟨_, rfl, post_law hW' ⟨rfl, rfl⟩ rfl (by kernel_rfl) rfl hb⟩

theorem crcGood_c1 : Tryd.pinned.checked.prog.funcNamed Rows.crcGoodRow.func = some 5 := by kernel_rfl
theorem crcGood_c2 : joinedFacts Tryd.pinned.checked.prog 5 Tryd.f5 Rows.crcGoodSpec Rows.crcGoodRow = true := by kernel_rfl
theorem crcGood_c3 : Tryd.f5.isInstance Tryd.pinned.checked.prog Rows.crcGoodRow.origin Rows.crcGoodRow.targs := of_decide_eq_true (by kernel_rfl)
theorem crcGood_c4 : Tryd.f5.isWrapper Tryd.pinned.checked.prog Rows.crcGoodRow.wrapper Rows.crcGoodRow.mainSum := by
  unfold Func.isWrapper; first | (rw [if_pos (by decide +kernel)]; kernel_rfl) | (rw [if_neg (by decide +kernel)]; exact ⟨rfl, rfl⟩)
theorem crcGood_c5 : Rows.crcGoodRow.wfByText (OpenSpec.ofChange Rows.crcGoodSpec) = true := by kernel_rfl
theorem crcGood_c6 : Tryd.pinned.checked.prog.mainIs = some (true, "585feb5cc1a63fc20adbe26e4268597a744f81f1d91d3686b100c946d87de601".toList) := by kernel_rfl
theorem crcGood_c7 : true = Tryd.pinned.checked.prog.looks [] := by kernel_rfl
theorem crcGood_c8 : false = Rows.crcGoodRow.goesBy Tryd.pinned.checked.prog := by kernel_rfl
theorem crcGood_c9 : Tryd.f5.params.toList.all (fun t => !Tryd.pinned.checked.prog.wantsStandIn t) = true := by kernel_rfl

theorem crcGood_row : Rows.CrcGoodSaid :=
  OpenClaim.holds_of_wide 5 Tryd.f5 rfl rfl rfl rfl rfl rfl rfl ⟨rfl, rfl, rfl, rfl, rfl⟩ rfl rfl rfl rfl rfl crcGood_c1 Tryd.func5 crcGood_c2 crcGood_c3 crcGood_c4
    (fun os started H enc _ => crcGood_lifted os started H enc)

theorem crcGood_holds : Rows.CrcGoodCardSaid :=
  Claim7.holds_tied_plain_at .later [] [.data] true (true, "585feb5cc1a63fc20adbe26e4268597a744f81f1d91d3686b100c946d87de601") true
    crcGood_row (fun _ h => by cases h) crcGood_c5 (fun _ h => by cases h) crcGood_row_tie rfl ⟨rfl, rfl⟩ crcGood_c6 rfl
    (fun f fn hf hfn => by
      obtain rfl : f = 5 := Option.some.inj (crcGood_c1.symm.trans hf) |>.symm
      obtain rfl : fn = Tryd.f5 := (Option.some.inj (Tryd.func5.symm.trans hfn)).symm
      refine ⟨crcGood_c7, fun j t ht => ?_⟩
      have hm : t ∈ Tryd.f5.params.toList := by
        rw [← Array.getElem?_toList] at ht
        exact List.mem_of_getElem? ht
      have h := List.all_eq_true.1 crcGood_c9 t hm
      rw [Bool.not_eq_true'] at h
      exact h)
    crcGood_c8
#print axioms crcGood_holds
end Go.Proofs.YtediidajdpdeiaaDoor
