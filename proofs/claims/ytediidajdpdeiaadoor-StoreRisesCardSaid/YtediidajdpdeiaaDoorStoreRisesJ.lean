/- For every input racewaylaw08.StoreRises returns true and leaves its arguments as they were: the promise never falls while a store is up; no slot's ballot is above it; a slot's ballot never falls. The package variable crc.half starts as the program's text lays it (the card ties that); no other condition. -/
import Derived.Test.YtediidajdpdeiaaDoorJ23
import Derived.Test.YtediidajdpdeiaaDoorJ24
import Derived.Test.YtediidajdpdeiaaDoorCards

namespace Go.Proofs.YtediidajdpdeiaaDoor
open Go.RowKit Go.ChangeShapes Go.WideShapes Go.ChangeAt

set_option maxRecDepth 100000 in
theorem storeRises_lifted (os : Os) (started : os.Started) (H : Type) (enc : TypeId × Value → H) :
    ReturnsInHanded {} Tryd.checked os 17 .any (fun w args => (Rows.storeRisesSpec.pre enc Tryd.prog Tryd.f17 [] false w args ∧ laidMetH Tryd.prog [("raceway/crc.half", Rows.laid_raceway_crc_half)] w) ∧ sizedMet enc Tryd.prog Tryd.f17 (OpenSpec.ofChange Rows.storeRisesSpec) false w args)
      (Rows.storeRisesSpec.post enc Tryd.prog Tryd.f17 false true false false) := by
  refine returnsInHanded_of_change_and (C := Tryd.checked) (X := fun w _ => laidMetH Tryd.prog [("raceway/crc.half", Rows.laid_raceway_crc_half)] w) (fun _ _ _ hh h => h.of_heap hh) own_knob started (by kernel_rfl) Tryd.func17
    (ChangeSpec.witness_shaped (enc := enc) (C := Tryd.checked) (os := os) (X := fun w _ => laidMetH Tryd.prog [("raceway/crc.half", Rows.laid_raceway_crc_half)] w) false (World.laidAll Tryd.prog os [("raceway/crc.half", Rows.laid_raceway_crc_half)]) #[.int .i64 0, .slice none 0 0, .slice none 0 0] 8 (World.laidAll_os _ _ _)
      (World.shaped_of_ZipB (by kernel_rfl) (by kernel_rfl)) (by kernel_rfl) (by kernel_rfl) (by kernel_rfl)
      (by rw [MakeChecks.laidMetH_plain _ _ _ (by kernel_rfl)]; exact laidMet_laidAll _ (by kernel_rfl) (by kernel_rfl))) ?_
  intro W base args ds gs before hval0 hW _ _ hL _
  have hh := halfAt_of_laid hL
  have hval : ∀ (j : Nat) t v, Tryd.f17.params[j]? = some t → args[j]? = some v → Value.okWide Tryd.prog W .any base t v := hval0
  have hW' := hW
  have hlt := hW.lt
  obtain ⟨p, q, hA0, hV, rfl, _, _⟩ := hW
  have hA : DataW.TrodAll enc Tryd.prog W 0 (fun _ => true) true Tryd.f17.params.toList args.toList ds p := hA0
  rw [Tryd.params17] at hA hval
  obtain ⟨rfl, rfl⟩ := trodVars_none hV
  obtain ⟨v0, vs0, d0, ds0, p0, q0, hargs, rfl, rfl, h0, r0⟩ := trodAll_cons hA
  obtain ⟨v1, vs1, d1, ds1, p1, q1, rfl, rfl, rfl, h1, r1⟩ := trodAll_cons r0
  obtain ⟨v2, vs2, d2, ds2, p2, q2, rfl, rfl, rfl, h2, r2⟩ := trodAll_cons r1
  obtain ⟨rfl, rfl, rfl⟩ := trodAll_nil r2
  obtain rfl : args = #[v0, v1, v2] := by cases args; simp_all
  obtain ⟨n0, rfl, rfl, rfl, hn0⟩ := open_int Tryd.underlying3 (hval 0 _ v0 rfl rfl) h0
  obtain ⟨a1, l1, c1, rfl⟩ := okWide_slice Tryd.underlying93 (hval 1 _ v1 rfl rfl)
  obtain ⟨fu1, t1⟩ := h1
  obtain ⟨A1, xs1, cc1, e1, hlen1, hxs1⟩ := open_acts8 t1 (fun x hx => hlt x (by simp [hx]))
  simp only [Value.cells, List.cons.injEq, Value.slice.injEq, and_true] at e1
  obtain ⟨rfl, rfl, rfl⟩ := e1
  obtain ⟨a2, l2, c2, rfl⟩ := okWide_slice Tryd.underlying93 (hval 2 _ v2 rfl rfl)
  obtain ⟨fu2, t2⟩ := h2
  obtain ⟨A2, xs2, cc2, e2, hlen2, hxs2⟩ := open_acts8 t2 (fun x hx => hlt x (by simp [hx]))
  simp only [Value.cells, List.cons.injEq, Value.slice.injEq, and_true] at e2
  obtain ⟨rfl, rfl, rfl⟩ := e2
  refine (risesLaw_08 W hh n0 _ xs1 _ hxs1 hlen1 _ xs2 _ hxs2 hlen2).mono fun e W' ⟨he, hb⟩ => ?_
  subst he
  exact ⟨_, rfl, post_law hW' ⟨rfl, rfl⟩ rfl (by kernel_rfl) rfl hb⟩

theorem storeRises_c1 : Tryd.pinned.checked.prog.funcNamed Rows.storeRisesRow.func = some 17 := by kernel_rfl
set_option maxRecDepth 100000 in
set_option maxHeartbeats 8000000 in
theorem storeRises_c2 : joinedFacts Tryd.pinned.checked.prog 17 Tryd.f17 Rows.storeRisesSpec Rows.storeRisesRow = true := by
  unfold joinedFacts
  simp only [Bool.and_eq_true]
  repeat' (apply And.intro)
  all_goals decide +kernel
theorem storeRises_c3 : Tryd.f17.isInstance Tryd.pinned.checked.prog Rows.storeRisesRow.origin Rows.storeRisesRow.targs := of_decide_eq_true (by kernel_rfl)
theorem storeRises_c4 : Tryd.f17.isWrapper Tryd.pinned.checked.prog Rows.storeRisesRow.wrapper Rows.storeRisesRow.mainSum := by
  unfold Func.isWrapper; first | (rw [if_pos (by decide +kernel)]; kernel_rfl) | (rw [if_neg (by decide +kernel)]; exact ⟨rfl, rfl⟩)
theorem storeRises_c5 : Rows.storeRisesRow.wfByText (OpenSpec.ofChange Rows.storeRisesSpec) = true := by kernel_rfl
theorem storeRises_c6 : Tryd.pinned.checked.prog.mainIs = some (true, "585feb5cc1a63fc20adbe26e4268597a744f81f1d91d3686b100c946d87de601".toList) := by kernel_rfl
theorem storeRises_c7 : true = Tryd.pinned.checked.prog.looks [] := by kernel_rfl
theorem storeRises_c8 : false = Rows.storeRisesRow.goesBy Tryd.pinned.checked.prog := by kernel_rfl
theorem storeRises_c9 : Tryd.f17.params.toList.all (fun t => !Tryd.pinned.checked.prog.wantsStandIn t) = true := by kernel_rfl

theorem storeRises_row : Rows.StoreRisesSaid :=
  OpenClaim.holds_of_wide 17 Tryd.f17 rfl rfl rfl rfl rfl rfl rfl ⟨rfl, rfl, rfl, rfl, rfl⟩ rfl rfl rfl rfl rfl storeRises_c1 Tryd.func17 storeRises_c2 storeRises_c3 storeRises_c4
    (fun os started H enc _ => storeRises_lifted os started H enc)

theorem storeRises_holds : Rows.StoreRisesCardSaid :=
  Claim7.holds_tied_plain_at .later [] [.data] true (true, "585feb5cc1a63fc20adbe26e4268597a744f81f1d91d3686b100c946d87de601") true
    storeRises_row (fun _ h => by cases h) storeRises_c5 (fun _ h => by cases h) storeRises_row_tie rfl ⟨rfl, rfl⟩ storeRises_c6 rfl
    (fun f fn hf hfn => by
      obtain rfl : f = 17 := Option.some.inj (storeRises_c1.symm.trans hf) |>.symm
      obtain rfl : fn = Tryd.f17 := (Option.some.inj (Tryd.func17.symm.trans hfn)).symm
      refine ⟨storeRises_c7, fun j t ht => ?_⟩
      have hm : t ∈ Tryd.f17.params.toList := by
        rw [← Array.getElem?_toList] at ht
        exact List.mem_of_getElem? ht
      have h := List.all_eq_true.1 storeRises_c9 t hm
      rw [Bool.not_eq_true'] at h
      exact h)
    storeRises_c8
#print axioms storeRises_holds
end Go.Proofs.YtediidajdpdeiaaDoor
