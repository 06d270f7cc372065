/- For every input racewaylaw02.CrcBits returns true and leaves its arguments as they were: one bit turned anywhere in a frame is told. The package variable crc.half starts as the program's text lays it (the card ties that); no other condition. -/
import Derived.Test.YtediidajdpdeiaaDoorLaws02b
import Derived.Test.YtediidajdpdeiaaDoorCards
namespace Go.Proofs.YtediidajdpdeiaaDoor
open Go.RowKit Go.ChangeShapes Go.WideShapes Go.ChangeAt

set_option maxRecDepth 100000 in
theorem crcBits_lifted (os : Os) (started : os.Started) (H : Type) (enc : TypeId × Value → H) :
    ReturnsInHanded {} Tryd.checked os 8 .any (fun w args => (Rows.crcBitsSpec.pre enc Tryd.prog Tryd.f8 [] false w args ∧ laidMetH Tryd.prog [("raceway/crc.half", Rows.laid_raceway_crc_half)] w) ∧ sizedMet enc Tryd.prog Tryd.f8 (OpenSpec.ofChange Rows.crcBitsSpec) false w args)
      (Rows.crcBitsSpec.post enc Tryd.prog Tryd.f8 false true false false) := by
  refine returnsInHanded_of_change_and (C := Tryd.checked) (X := fun w _ => laidMetH Tryd.prog [("raceway/crc.half", Rows.laid_raceway_crc_half)] w) (fun _ _ _ hh h => h.of_heap hh) own_knob started (by kernel_rfl) Tryd.func8
    (ChangeSpec.witness_shaped (enc := enc) (C := Tryd.checked) (os := os) (X := fun w _ => laidMetH Tryd.prog [("raceway/crc.half", Rows.laid_raceway_crc_half)] w) false (World.laidAll Tryd.prog os [("raceway/crc.half", Rows.laid_raceway_crc_half)]) #[.slice none 0 0, .int .i64 0] 8 (World.laidAll_os _ _ _)
      (World.shaped_of_ZipB (by kernel_rfl) (by kernel_rfl)) (by kernel_rfl) (by kernel_rfl) (by kernel_rfl)
      (by rw [MakeChecks.laidMetH_plain _ _ _ (by kernel_rfl)]; exact laidMet_laidAll _ (by kernel_rfl) (by kernel_rfl))) ?_
  intro W base args ds gs before hval0 hW _ _ hL _
  have hh := halfAt_of_laid hL
  have hval : ∀ (j : Nat) t v, Tryd.f8.params[j]? = some t → args[j]? = some v → Value.okWide Tryd.prog W .any base t v := hval0
  have hW' := hW
  have hlt := hW.lt
  obtain ⟨p, q, hA0, hV, rfl, _, _⟩ := hW
  have hA : DataW.TrodAll enc Tryd.prog W 0 (fun _ => true) true Tryd.f8.params.toList args.toList ds p := hA0
  rw [Tryd.params8] at hA hval
  obtain ⟨rfl, rfl⟩ := trodVars_none hV
  obtain ⟨v0, vs0, d0, ds0, p0, q0, hargs, rfl, rfl, h0, r0⟩ := trodAll_cons hA
  obtain ⟨v1, vs1, d1, ds1, p1, q1, rfl, rfl, rfl, h1, r1⟩ := trodAll_cons r0
  obtain ⟨rfl, rfl, rfl⟩ := trodAll_nil r1
  obtain rfl : args = #[v0, v1] := by cases args; simp_all
  obtain ⟨a0, l0, c0, rfl⟩ := okWide_slice Tryd.underlying22 (hval 0 _ v0 rfl rfl)
  obtain ⟨fu0, t0⟩ := h0
  obtain ⟨B0, bb0, cc0, e0, hcb0, hcm0, hB0⟩ := open_bytes (P := Tryd.prog) Tryd.underlying22 Tryd.underlying5 cells_u8 t0 (fun x hx => hlt x (by simp [hx]))
  simp only [Value.cells, List.cons.injEq, Value.slice.injEq, and_true] at e0
  obtain ⟨rfl, rfl, rfl⟩ := e0
  obtain ⟨n1, rfl, rfl, rfl, hn1⟩ := open_int Tryd.underlying3 (hval 1 _ v1 rfl rfl) h1
  refine (bitsLaw_02 W hh _ bb0 _ hB0.rd hcb0 hcm0 n1 (i64_of hn1)).mono fun e W' ⟨he, hb⟩ => ?_
  subst he
  exact ⟨_, rfl, post_law hW' ⟨rfl, rfl⟩ rfl (by kernel_rfl) rfl hb⟩

theorem crcBits_c1 : Tryd.pinned.checked.prog.funcNamed Rows.crcBitsRow.func = some 8 := by kernel_rfl
theorem crcBits_c2 : joinedFacts Tryd.pinned.checked.prog 8 Tryd.f8 Rows.crcBitsSpec Rows.crcBitsRow = true := by kernel_rfl
theorem crcBits_c3 : Tryd.f8.isInstance Tryd.pinned.checked.prog Rows.crcBitsRow.origin Rows.crcBitsRow.targs := of_decide_eq_true (by kernel_rfl)
theorem crcBits_c4 : Tryd.f8.isWrapper Tryd.pinned.checked.prog Rows.crcBitsRow.wrapper Rows.crcBitsRow.mainSum := by
  unfold Func.isWrapper; first | (rw [if_pos (by decide +kernel)]; kernel_rfl) | (rw [if_neg (by decide +kernel)]; exact ⟨rfl, rfl⟩)
theorem crcBits_c5 : Rows.crcBitsRow.wfByText (OpenSpec.ofChange Rows.crcBitsSpec) = true := by kernel_rfl
theorem crcBits_c6 : Tryd.pinned.checked.prog.mainIs = some (true, "585feb5cc1a63fc20adbe26e4268597a744f81f1d91d3686b100c946d87de601".toList) := by kernel_rfl
theorem crcBits_c7 : true = Tryd.pinned.checked.prog.looks [] := by kernel_rfl
theorem crcBits_c8 : false = Rows.crcBitsRow.goesBy Tryd.pinned.checked.prog := by kernel_rfl
theorem crcBits_c9 : Tryd.f8.params.toList.all (fun t => !Tryd.pinned.checked.prog.wantsStandIn t) = true := by kernel_rfl

theorem crcBits_row : Rows.CrcBitsSaid :=
  OpenClaim.holds_of_wide 8 Tryd.f8 rfl rfl rfl rfl rfl rfl rfl ⟨rfl, rfl, rfl, rfl, rfl⟩ rfl rfl rfl rfl rfl crcBits_c1 Tryd.func8 crcBits_c2 crcBits_c3 crcBits_c4
    (fun os started H enc _ => crcBits_lifted os started H enc)

theorem crcBits_holds : Rows.CrcBitsCardSaid :=
  Claim7.holds_tied_plain_at .later [] [.data] true (true, "585feb5cc1a63fc20adbe26e4268597a744f81f1d91d3686b100c946d87de601") true
    crcBits_row (fun _ h => by cases h) crcBits_c5 (fun _ h => by cases h) crcBits_row_tie rfl ⟨rfl, rfl⟩ crcBits_c6 rfl
    (fun f fn hf hfn => by
      obtain rfl : f = 8 := Option.some.inj (crcBits_c1.symm.trans hf) |>.symm
      obtain rfl : fn = Tryd.f8 := (Option.some.inj (Tryd.func8.symm.trans hfn)).symm
      refine ⟨crcBits_c7, fun j t ht => ?_⟩
      have hm : t ∈ Tryd.f8.params.toList := by
        rw [← Array.getElem?_toList] at ht
        exact List.mem_of_getElem? ht
      have h := List.all_eq_true.1 crcBits_c9 t hm
      rw [Bool.not_eq_true'] at h
      exact h)
    crcBits_c8
#print axioms crcBits_holds
end Go.Proofs.YtediidajdpdeiaaDoor
