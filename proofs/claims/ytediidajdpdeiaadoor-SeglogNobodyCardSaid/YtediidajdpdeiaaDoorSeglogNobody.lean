/- For every input racewaylaw07.SeglogNobody returns true and leaves its arguments as they were: logs that New did not make have nothing. The package variable crc.half starts as the program's text lays it (the card ties that); no other condition. -/
import Derived.Test.YtediidajdpdeiaaDoorNobody07
import Derived.Test.YtediidajdpdeiaaDoorOpen07
import Derived.Test.YtediidajdpdeiaaDoorCards
namespace Go.Proofs.YtediidajdpdeiaaDoor
open Go.RowKit Go.ChangeShapes Go.WideShapes Go.ChangeAt

set_option maxRecDepth 100000 in
theorem seglogNobody_lifted (os : Os) (started : os.Started) (H : Type) (enc : TypeId × Value → H) :
    ReturnsInHanded {} Tryd.checked os 14 .any (fun w args => (Rows.seglogNobodySpec.pre enc Tryd.prog Tryd.f14 [] false w args ∧ laidMetH Tryd.prog [("raceway/crc.half", Rows.laid_raceway_crc_half)] w) ∧ sizedMet enc Tryd.prog Tryd.f14 (OpenSpec.ofChange Rows.seglogNobodySpec) false w args)
      (Rows.seglogNobodySpec.post enc Tryd.prog Tryd.f14 false true false false) := by
  refine returnsInHanded_of_change_and (C := Tryd.checked) (X := fun w _ => laidMetH Tryd.prog [("raceway/crc.half", Rows.laid_raceway_crc_half)] w) (fun _ _ _ hh h => h.of_heap hh) own_knob started (by kernel_rfl) Tryd.func14
    (ChangeSpec.witness_shaped (enc := enc) (C := Tryd.checked) (os := os) (X := fun w _ => laidMetH Tryd.prog [("raceway/crc.half", Rows.laid_raceway_crc_half)] w) false (World.laidAll Tryd.prog os [("raceway/crc.half", Rows.laid_raceway_crc_half)]) #[.agg #[.int .i64 0, .int .i64 0, .int .i64 0, .slice none 0 0], .int .i64 0] 8 (World.laidAll_os _ _ _)
      (World.shaped_of_ZipB (by kernel_rfl) (by kernel_rfl)) (by kernel_rfl) (by kernel_rfl) (by kernel_rfl)
      (by rw [MakeChecks.laidMetH_plain _ _ _ (by kernel_rfl)]; exact laidMet_laidAll _ (by kernel_rfl) (by kernel_rfl))) ?_
  intro W base args ds gs before hval0 hW _ _ hL _
  have hh := halfAt_of_laid hL
  have hval : ∀ (j : Nat) t v, Tryd.f14.params[j]? = some t → args[j]? = some v → Value.okWide Tryd.prog W .any base t v := hval0
  have hW' := hW
  have hlt := hW.lt
  obtain ⟨p, q, hA0, hV, rfl, _, _⟩ := hW
  have hA : DataW.TrodAll enc Tryd.prog W 0 (fun _ => true) true Tryd.f14.params.toList args.toList ds p := hA0
  rw [Tryd.params14] at hA hval
  obtain ⟨rfl, rfl⟩ := trodVars_none hV
  obtain ⟨v0, vs0, d0, ds0, p0, q0, hargs, rfl, rfl, h0, r0⟩ := trodAll_cons hA
  obtain ⟨v1, vs1, d1, ds1, p1, q1, rfl, rfl, rfl, h1, r1⟩ := trodAll_cons r0
  obtain ⟨rfl, rfl, rfl⟩ := trodAll_nil r1
  obtain rfl : args = #[v0, v1] := by cases args; simp_all
  obtain ⟨ac0, B0, cc0, rfl, hcb0, hcm0, hB0, ik0, in0, if0⟩ := open_act7 (hval 0 _ v0 rfl rfl) h0 (fun x hx => hlt x (by simp [hx]))
  obtain ⟨n1, rfl, rfl, rfl, hn1⟩ := open_int Tryd.underlying3 (hval 1 _ v1 rfl rfl) h1
  refine (nobodyLaw_07 W hh ac0 B0 cc0 hB0 hcb0 hcm0 in0 if0 n1 (i64_of hn1)).mono fun e W' ⟨he, hb⟩ => ?_
  subst he
  exact ⟨_, rfl, post_law hW' ⟨rfl, rfl⟩ rfl (by kernel_rfl) rfl hb⟩

theorem seglogNobody_c1 : Tryd.pinned.checked.prog.funcNamed Rows.seglogNobodyRow.func = some 14 := by kernel_rfl
set_option maxRecDepth 100000 in
set_option maxHeartbeats 8000000 in
theorem seglogNobody_c2 : joinedFacts Tryd.pinned.checked.prog 14 Tryd.f14 Rows.seglogNobodySpec Rows.seglogNobodyRow = true := by
  unfold joinedFacts
  simp only [Bool.and_eq_true]
  repeat' (apply And.intro)
  all_goals decide +kernel
theorem seglogNobody_c3 : Tryd.f14.isInstance Tryd.pinned.checked.prog Rows.seglogNobodyRow.origin Rows.seglogNobodyRow.targs := of_decide_eq_true (by kernel_rfl)
theorem seglogNobody_c4 : Tryd.f14.isWrapper Tryd.pinned.checked.prog Rows.seglogNobodyRow.wrapper Rows.seglogNobodyRow.mainSum := by
  unfold Func.isWrapper; first | (rw [if_pos (by decide +kernel)]; kernel_rfl) | (rw [if_neg (by decide +kernel)]; exact ⟨rfl, rfl⟩)
theorem seglogNobody_c5 : Rows.seglogNobodyRow.wfByText (OpenSpec.ofChange Rows.seglogNobodySpec) = true := by kernel_rfl
theorem seglogNobody_c6 : Tryd.pinned.checked.prog.mainIs = some (true, "585feb5cc1a63fc20adbe26e4268597a744f81f1d91d3686b100c946d87de601".toList) := by kernel_rfl
theorem seglogNobody_c7 : true = Tryd.pinned.checked.prog.looks [] := by kernel_rfl
theorem seglogNobody_c8 : false = Rows.seglogNobodyRow.goesBy Tryd.pinned.checked.prog := by kernel_rfl
theorem seglogNobody_c9 : Tryd.f14.params.toList.all (fun t => !Tryd.pinned.checked.prog.wantsStandIn t) = true := by kernel_rfl

theorem seglogNobody_row : Rows.SeglogNobodySaid :=
  OpenClaim.holds_of_wide 14 Tryd.f14 rfl rfl rfl rfl rfl rfl rfl ⟨rfl, rfl, rfl, rfl, rfl⟩ rfl rfl rfl rfl rfl seglogNobody_c1 Tryd.func14 seglogNobody_c2 seglogNobody_c3 seglogNobody_c4
    (fun os started H enc _ => seglogNobody_lifted os started H enc)

theorem seglogNobody_holds : Rows.SeglogNobodyCardSaid :=
  Claim7.holds_tied_plain_at .later [] [.data] true (true, "585feb5cc1a63fc20adbe26e4268597a744f81f1d91d3686b100c946d87de601") true
    seglogNobody_row (fun _ h => by cases h) seglogNobody_c5 (fun _ h => by cases h) seglogNobody_row_tie rfl ⟨rfl, rfl⟩ seglogNobody_c6 rfl
    (fun f fn hf hfn => by
      obtain rfl : f = 14 := Option.some.inj (seglogNobody_c1.symm.trans hf) |>.symm
      obtain rfl : fn = Tryd.f14 := (Option.some.inj (Tryd.func14.symm.trans hfn)).symm
      refine ⟨seglogNobody_c7, fun j t ht => ?_⟩
      have hm : t ∈ Tryd.f14.params.toList := by
        rw [← Array.getElem?_toList] at ht
        exact List.mem_of_getElem? ht
      have h := List.all_eq_true.1 seglogNobody_c9 t hm
      rw [Bool.not_eq_true'] at h
      exact h)
    seglogNobody_c8
#print axioms seglogNobody_holds
end Go.Proofs.YtediidajdpdeiaaDoor
