/- For every input racewaylaw08.StoreForgets returns true and leaves its arguments as they were: what lies below the base is forgotten, for good, and accepted no more; what lies above stays; behind a sync and any crash the base is no less. The package variable crc.half starts as the program's text lays it (the card ties that); no other condition. -/
import Derived.Test.YtediidajdpdeiaaDoorJ23
import Derived.Test.YtediidajdpdeiaaDoorCards

namespace Go.Proofs.YtediidajdpdeiaaDoor
open Go.RowKit Go.ChangeShapes Go.WideShapes Go.ChangeAt

set_option maxRecDepth 100000 in
theorem storeForgets_lifted (os : Os) (started : os.Started) (H : Type) (enc : TypeId × Value → H) :
    ReturnsInHanded {} Tryd.checked os 19 .any (fun w args => (Rows.storeForgetsSpec.pre enc Tryd.prog Tryd.f19 [] false w args ∧ laidMetH Tryd.prog [("raceway/crc.half", Rows.laid_raceway_crc_half)] w) ∧ sizedMet enc Tryd.prog Tryd.f19 (OpenSpec.ofChange Rows.storeForgetsSpec) false w args)
      (Rows.storeForgetsSpec.post enc Tryd.prog Tryd.f19 false true false false) := by
  refine returnsInHanded_of_change_and (C := Tryd.checked) (X := fun w _ => laidMetH Tryd.prog [("raceway/crc.half", Rows.laid_raceway_crc_half)] w) (fun _ _ _ hh h => h.of_heap hh) own_knob started (by kernel_rfl) Tryd.func19
    (ChangeSpec.witness_shaped (enc := enc) (C := Tryd.checked) (os := os) (X := fun w _ => laidMetH Tryd.prog [("raceway/crc.half", Rows.laid_raceway_crc_half)] w) false (World.laidAll Tryd.prog os [("raceway/crc.half", Rows.laid_raceway_crc_half)]) #[.int .i64 0, .slice none 0 0, .int .i64 0] 8 (World.laidAll_os _ _ _)
      (World.shaped_of_ZipB (by kernel_rfl) (by kernel_rfl)) (by kernel_rfl) (by kernel_rfl) (by kernel_rfl)
      (by rw [MakeChecks.laidMetH_plain _ _ _ (by kernel_rfl)]; exact laidMet_laidAll _ (by kernel_rfl) (by kernel_rfl))) ?_
  intro W base args ds gs before hval0 hW _ _ hL _
  have hh := halfAt_of_laid hL
  have hval : ∀ (j : Nat) t v, Tryd.f19.params[j]? = some t → args[j]? = some v → Value.okWide Tryd.prog W .any base t v := hval0
  have hW' := hW
  have hlt := hW.lt
  obtain ⟨p, q, hA0, hV, rfl, _, _⟩ := hW
  have hA : DataW.TrodAll enc Tryd.prog W 0 (fun _ => true) true Tryd.f19.params.toList args.toList ds p := hA0
  rw [Tryd.params19] at hA hval
  obtain ⟨rfl, rfl⟩ := trodVars_none hV
  obtain ⟨v0, vs0, d0, ds0, p0, q0, hargs, rfl, rfl, h0, r0⟩ := trodAll_cons hA
  obtain ⟨v1, vs1, d1, ds1, p1, q1, rfl, rfl, rfl, h1, r1⟩ := trodAll_cons r0
  obtain ⟨v2, vs2, d2, ds2, p2, q2, rfl, rfl, rfl, h2, r2⟩ := trodAll_cons r1
  obtain ⟨rfl, rfl, rfl⟩ := trodAll_nil r2
  obtain rfl : args = #[v0, v1, v2] := by cases args; simp_all
  obtain ⟨n0, rfl, rfl, rfl, hn0⟩ := open_int Tryd.underlying3 (hval 0 _ v0 rfl rfl) h0
  obtain ⟨a1, l1, c1, rfl⟩ := okWide_slice Tryd.underlying93 (hval 1 _ v1 rfl rfl)
  obtain ⟨fu1, t1⟩ := h1
  obtain ⟨A1, xs1, cc1, e1, hlen1, hxs1⟩ := open_acts8 t1 (fun x hx => hlt x (by simp [hx]))
  simp only [Value.cells, List.cons.injEq, Value.slice.injEq, and_true] at e1
  obtain ⟨rfl, rfl, rfl⟩ := e1
  obtain ⟨n2, rfl, rfl, rfl, hn2⟩ := open_int Tryd.underlying3 (hval 2 _ v2 rfl rfl) h2
  refine (forgetsLaw_08 W hh n0 _ xs1 _ hxs1 hlen1 n2).mono fun e W' ⟨he, hb⟩ => ?_
  subst he
  exact ⟨_, rfl, post_law hW' ⟨rfl, rfl⟩ rfl (by kernel_rfl) rfl hb⟩

theorem storeForgets_c1 : Tryd.pinned.checked.prog.funcNamed Rows.storeForgetsRow.func = some 19 := by kernel_rfl
set_option maxRecDepth 100000 in
set_option maxHeartbeats 8000000 in
theorem storeForgets_c2 : joinedFacts Tryd.pinned.checked.prog 19 Tryd.f19 Rows.storeForgetsSpec Rows.storeForgetsRow = true := by
  unfold joinedFacts
  simp only [Bool.and_eq_true]
  repeat' (apply And.intro)
  all_goals decide +kernel
theorem storeForgets_c3 : Tryd.f19.isInstance Tryd.pinned.checked.prog Rows.storeForgetsRow.origin Rows.storeForgetsRow.targs := of_decide_eq_true (by kernel_rfl)
theorem storeForgets_c4 : Tryd.f19.isWrapper Tryd.pinned.checked.prog Rows.storeForgetsRow.wrapper Rows.storeForgetsRow.mainSum := by
  unfold Func.isWrapper; first | (rw [if_pos (by decide +kernel)]; kernel_rfl) | (rw [if_neg (by decide +kernel)]; exact ⟨rfl, rfl⟩)
theorem storeForgets_c5 : Rows.storeForgetsRow.wfByText (OpenSpec.ofChange Rows.storeForgetsSpec) = true := by kernel_rfl
theorem storeForgets_c6 : Tryd.pinned.checked.prog.mainIs = some (true, "585feb5cc1a63fc20adbe26e4268597a744f81f1d91d3686b100c946d87de601".toList) := by kernel_rfl
theorem storeForgets_c7 : true = Tryd.pinned.checked.prog.looks [] := by kernel_rfl
theorem storeForgets_c8 : false = Rows.storeForgetsRow.goesBy Tryd.pinned.checked.prog := by kernel_rfl
theorem storeForgets_c9 : Tryd.f19.params.toList.all (fun t => !Tryd.pinned.checked.prog.wantsStandIn t) = true := by kernel_rfl

theorem storeForgets_row : Rows.StoreForgetsSaid :=
  OpenClaim.holds_of_wide 19 Tryd.f19 rfl rfl rfl rfl rfl rfl rfl ⟨rfl, rfl, rfl, rfl, rfl⟩ rfl rfl rfl rfl rfl storeForgets_c1 Tryd.func19 storeForgets_c2 storeForgets_c3 storeForgets_c4
    (fun os started H enc _ => storeForgets_lifted os started H enc)

theorem storeForgets_holds : Rows.StoreForgetsCardSaid :=
  Claim7.holds_tied_plain_at .later [] [.data] true (true, "585feb5cc1a63fc20adbe26e4268597a744f81f1d91d3686b100c946d87de601") true
    storeForgets_row (fun _ h => by cases h) storeForgets_c5 (fun _ h => by cases h) storeForgets_row_tie rfl ⟨rfl, rfl⟩ storeForgets_c6 rfl
    (fun f fn hf hfn => by
      obtain rfl : f = 19 := Option.some.inj (storeForgets_c1.symm.trans hf) |>.symm
      obtain rfl : fn = Tryd.f19 := (Option.some.inj (Tryd.func19.symm.trans hfn)).symm
      refine ⟨storeForgets_c7, fun j t ht => ?_⟩
      have hm : t ∈ Tryd.f19.params.toList := by
        rw [← Array.getElem?_toList] at ht
        exact List.mem_of_getElem? ht
      have h := List.all_eq_true.1 storeForgets_c9 t hm
      rw [Bool.not_eq_true'] at h
      exact h)
    storeForgets_c8
#print axioms storeForgets_holds
end Go.Proofs.YtediidajdpdeiaaDoor
