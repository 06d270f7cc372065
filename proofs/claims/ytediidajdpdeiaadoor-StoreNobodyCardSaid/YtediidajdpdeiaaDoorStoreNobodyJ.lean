/- For every input racewaylaw08.StoreNobody returns true and leaves its arguments as they were: stores that New did not make have nothing. The package variable crc.half starts as the program's text lays it (the card ties that); no other condition. -/
import Derived.Test.YtediidajdpdeiaaDoorJ22
import Derived.Test.YtediidajdpdeiaaDoorJ23
import Derived.Test.YtediidajdpdeiaaDoorCards

namespace Go.Proofs.YtediidajdpdeiaaDoor
open Go.RowKit Go.ChangeShapes Go.WideShapes Go.ChangeAt

set_option maxRecDepth 100000 in
theorem storeNobody_lifted (os : Os) (started : os.Started) (H : Type) (enc : TypeId × Value → H) :
    ReturnsInHanded {} Tryd.checked os 21 .any (fun w args => (Rows.storeNobodySpec.pre enc Tryd.prog Tryd.f21 [] false w args ∧ laidMetH Tryd.prog [("raceway/crc.half", Rows.laid_raceway_crc_half)] w) ∧ sizedMet enc Tryd.prog Tryd.f21 (OpenSpec.ofChange Rows.storeNobodySpec) false w args)
      (Rows.storeNobodySpec.post enc Tryd.prog Tryd.f21 false true false false) := by
  refine returnsInHanded_of_change_and (C := Tryd.checked) (X := fun w _ => laidMetH Tryd.prog [("raceway/crc.half", Rows.laid_raceway_crc_half)] w) (fun _ _ _ hh h => h.of_heap hh) own_knob started (by kernel_rfl) Tryd.func21
    (ChangeSpec.witness_shaped (enc := enc) (C := Tryd.checked) (os := os) (X := fun w _ => laidMetH Tryd.prog [("raceway/crc.half", Rows.laid_raceway_crc_half)] w) false (World.laidAll Tryd.prog os [("raceway/crc.half", Rows.laid_raceway_crc_half)]) #[.agg #[.int .i64 0, .int .i64 0, .int .i64 0, .int .i64 0, .slice none 0 0], .int .i64 0] 8 (World.laidAll_os _ _ _)
      (World.shaped_of_ZipB (by kernel_rfl) (by kernel_rfl)) (by kernel_rfl) (by kernel_rfl) (by kernel_rfl)
      (by rw [MakeChecks.laidMetH_plain _ _ _ (by kernel_rfl)]; exact laidMet_laidAll _ (by kernel_rfl) (by kernel_rfl))) ?_
  intro W base args ds gs before hval0 hW _ _ hL _
  have hh := halfAt_of_laid hL
  have hval : ∀ (j : Nat) t v, Tryd.f21.params[j]? = some t → args[j]? = some v → Value.okWide Tryd.prog W .any base t v := hval0
  have hW' := hW
  have hlt := hW.lt
  obtain ⟨p, q, hA0, hV, rfl, _, _⟩ := hW
  have hA : DataW.TrodAll enc Tryd.prog W 0 (fun _ => true) true Tryd.f21.params.toList args.toList ds p := hA0
  rw [Tryd.params21] at hA hval
  obtain ⟨rfl, rfl⟩ := trodVars_none hV
  obtain ⟨v0, vs0, d0, ds0, p0, q0, hargs, rfl, rfl, h0, r0⟩ := trodAll_cons hA
  obtain ⟨v1, vs1, d1, ds1, p1, q1, rfl, rfl, rfl, h1, r1⟩ := trodAll_cons r0
  obtain ⟨rfl, rfl, rfl⟩ := trodAll_nil r1
  obtain rfl : args = #[v0, v1] := by cases args; simp_all
  obtain ⟨ac0, B0, cc0, rfl, hcb0, hcm0, hB0, ik0, in0, is0, if0⟩ := open_act8 (hval 0 _ v0 rfl rfl) h0 (fun x hx => hlt x (by simp [hx]))
  obtain ⟨n1, rfl, rfl, rfl, hn1⟩ := open_int Tryd.underlying3 (hval 1 _ v1 rfl rfl) h1
  refine (nobodyLaw_08 W hh ac0 B0 cc0 n1 (i64_of hn1)).mono fun e W' ⟨he, hb⟩ => ?_
  subst he
  exact ⟨_, rfl, post_law hW' ⟨rfl, rfl⟩ rfl (by kernel_rfl) rfl hb⟩

theorem storeNobody_c1 : Tryd.pinned.checked.prog.funcNamed Rows.storeNobodyRow.func = some 21 := by kernel_rfl
set_option maxRecDepth 100000 in
set_option maxHeartbeats 8000000 in
theorem storeNobody_c2 : joinedFacts Tryd.pinned.checked.prog 21 Tryd.f21 Rows.storeNobodySpec Rows.storeNobodyRow = true := by
  unfold joinedFacts
  simp only [Bool.and_eq_true]
  repeat' (apply And.intro)
  all_goals decide +kernel
theorem storeNobody_c3 : Tryd.f21.isInstance Tryd.pinned.checked.prog Rows.storeNobodyRow.origin Rows.storeNobodyRow.targs := of_decide_eq_true (by kernel_rfl)
theorem storeNobody_c4 : Tryd.f21.isWrapper Tryd.pinned.checked.prog Rows.storeNobodyRow.wrapper Rows.storeNobodyRow.mainSum := by
  unfold Func.isWrapper; first | (rw [if_pos (by decide +kernel)]; kernel_rfl) | (rw [if_neg (by decide +kernel)]; exact ⟨rfl, rfl⟩)
theorem storeNobody_c5 : Rows.storeNobodyRow.wfByText (OpenSpec.ofChange Rows.storeNobodySpec) = true := by kernel_rfl
theorem storeNobody_c6 : Tryd.pinned.checked.prog.mainIs = some (true, "585feb5cc1a63fc20adbe26e4268597a744f81f1d91d3686b100c946d87de601".toList) := by kernel_rfl
theorem storeNobody_c7 : true = Tryd.pinned.checked.prog.looks [] := by kernel_rfl
theorem storeNobody_c8 : false = Rows.storeNobodyRow.goesBy Tryd.pinned.checked.prog := by kernel_rfl
theorem storeNobody_c9 : Tryd.f21.params.toList.all (fun t => !Tryd.pinned.checked.prog.wantsStandIn t) = true := by kernel_rfl

theorem storeNobody_row : Rows.StoreNobodySaid :=
  OpenClaim.holds_of_wide 21 Tryd.f21 rfl rfl rfl rfl rfl rfl rfl ⟨rfl, rfl, rfl, rfl, rfl⟩ rfl rfl rfl rfl rfl storeNobody_c1 Tryd.func21 storeNobody_c2 storeNobody_c3 storeNobody_c4
    (fun os started H enc _ => storeNobody_lifted os started H enc)

theorem storeNobody_holds : Rows.StoreNobodyCardSaid :=
  Claim7.holds_tied_plain_at .later [] [.data] true (true, "585feb5cc1a63fc20adbe26e4268597a744f81f1d91d3686b100c946d87de601") true
    storeNobody_row (fun _ h => by cases h) storeNobody_c5 (fun _ h => by cases h) storeNobody_row_tie rfl ⟨rfl, rfl⟩ storeNobody_c6 rfl
    (fun f fn hf hfn => by
      obtain rfl : f = 21 := Option.some.inj (storeNobody_c1.symm.trans hf) |>.symm
      obtain rfl : fn = Tryd.f21 := (Option.some.inj (Tryd.func21.symm.trans hfn)).symm
      refine ⟨storeNobody_c7, fun j t ht => ?_⟩
      have hm : t ∈ Tryd.f21.params.toList := by
        rw [← Array.getElem?_toList] at ht
        exact List.mem_of_getElem? ht
      have h := List.all_eq_true.1 storeNobody_c9 t hm
      rw [Bool.not_eq_true'] at h
      exact h)
    storeNobody_c8
#print axioms storeNobody_holds
end Go.Proofs.YtediidajdpdeiaaDoor
