/- For every input racewaylaw08.StorePlays returns true and leaves its arguments as they were: a store under any calls, snapshots, crashes and restarts has promised, and accepted, what the document says. The package variable crc.half starts as the program's text lays it (the card ties that); no other condition. -/
import Derived.Test.YtediidajdpdeiaaGreatDoorJ24
import Derived.Test.YtediidajdpdeiaaGreatDoorJ21
import Derived.Test.YtediidajdpdeiaaGreatDoorCards

namespace Go.Proofs.YtediidajdpdeiaaGreatDoor
open Go.RowKit Go.ChangeShapes Go.WideShapes Go.ChangeAt

set_option maxRecDepth 100000 in
theorem storePlays_lifted (os : Os) (started : os.Started) (H : Type) (enc : TypeId × Value → H) :
    ReturnsInHanded {} Tryz.checked os 3 .any (fun w args => (Rows.storePlaysSpec.pre enc Tryz.prog Tryz.f3 [] false w args ∧ laidMetH Tryz.prog [("raceway/crc.half", Rows.laid_raceway_crc_half)] w) ∧ sizedMet enc Tryz.prog Tryz.f3 (OpenSpec.ofChange Rows.storePlaysSpec) false w args)
      (Rows.storePlaysSpec.post enc Tryz.prog Tryz.f3 false true false false) := by
  refine returnsInHanded_of_change_and (C := Tryz.checked) (X := fun w _ => laidMetH Tryz.prog [("raceway/crc.half", Rows.laid_raceway_crc_half)] w) (fun _ _ _ hh h => h.of_heap hh) own_knob started (by kernel_rfl) Tryz.func3
    (ChangeSpec.witness_shaped (enc := enc) (C := Tryz.checked) (os := os) (X := fun w _ => laidMetH Tryz.prog [("raceway/crc.half", Rows.laid_raceway_crc_half)] w) false (World.laidAll Tryz.prog os [("raceway/crc.half", Rows.laid_raceway_crc_half)]) #[.int .i64 0, .slice none 0 0] 8 (World.laidAll_os _ _ _)
      (World.shaped_of_ZipB (by kernel_rfl) (by kernel_rfl)) (by kernel_rfl) (by kernel_rfl) (by kernel_rfl)
      (by rw [MakeChecks.laidMetH_plain _ _ _ (by kernel_rfl)]; exact laidMet_laidAll _ (by kernel_rfl) (by kernel_rfl))) ?_
  intro W base args ds gs before hval0 hW _ _ hL _
  have hh := halfAt_of_laid hL
  have hval : ∀ (j : Nat) t v, Tryz.f3.params[j]? = some t → args[j]? = some v → Value.okWide Tryz.prog W .any base t v := hval0
  have hW' := hW
  have hlt := hW.lt
  obtain ⟨p, q, hA0, hV, rfl, _, _⟩ := hW
  have hA : DataW.TrodAll enc Tryz.prog W 0 (fun _ => true) true Tryz.f3.params.toList args.toList ds p := hA0
  rw [Tryz.params3] at hA hval
  obtain ⟨rfl, rfl⟩ := trodVars_none hV
  obtain ⟨v0, vs0, d0, ds0, p0, q0, hargs, rfl, rfl, h0, r0⟩ := trodAll_cons hA
  obtain ⟨v1, vs1, d1, ds1, p1, q1, rfl, rfl, rfl, h1, r1⟩ := trodAll_cons r0
  obtain ⟨rfl, rfl, rfl⟩ := trodAll_nil r1
  obtain rfl : args = #[v0, v1] := by cases args; simp_all
  obtain ⟨n0, rfl, rfl, rfl, hn0⟩ := open_int Tryz.underlying3 (hval 0 _ v0 rfl rfl) h0
  obtain ⟨a1, l1, c1, rfl⟩ := okWide_slice Tryz.underlying22 (hval 1 _ v1 rfl rfl)
  obtain ⟨fu1, t1⟩ := h1
  obtain ⟨A1, xs1, cc1, e1, hlen1, hxs1⟩ := open_acts8 t1 (fun x hx => hlt x (by simp [hx]))
  simp only [Value.cells, List.cons.injEq, Value.slice.injEq, and_true] at e1
  obtain ⟨rfl, rfl, rfl⟩ := e1
  refine (same_08 W hh n0 _ xs1 _ hxs1 hlen1).mono fun e W' ⟨he, hb⟩ => ?_
  subst he
  exact ⟨_, rfl, post_law hW' ⟨rfl, rfl⟩ rfl (by kernel_rfl) rfl hb⟩

theorem storePlays_c1 : Tryz.pinned.checked.prog.funcNamed Rows.storePlaysRow.func = some 3 := by kernel_rfl
set_option maxRecDepth 100000 in
set_option maxHeartbeats 8000000 in
theorem storePlays_c2 : joinedFacts Tryz.pinned.checked.prog 3 Tryz.f3 Rows.storePlaysSpec Rows.storePlaysRow = true := by
  unfold joinedFacts
  simp only [Bool.and_eq_true]
  repeat' (apply And.intro)
  all_goals decide +kernel
theorem storePlays_c3 : Tryz.f3.isInstance Tryz.pinned.checked.prog Rows.storePlaysRow.origin Rows.storePlaysRow.targs := of_decide_eq_true (by kernel_rfl)
theorem storePlays_c4 : Tryz.f3.isWrapper Tryz.pinned.checked.prog Rows.storePlaysRow.wrapper Rows.storePlaysRow.mainSum := by
  unfold Func.isWrapper; first | (rw [if_pos (by decide +kernel)]; kernel_rfl) | (rw [if_neg (by decide +kernel)]; exact ⟨rfl, rfl⟩)
theorem storePlays_c5 : Rows.storePlaysRow.wfByText (OpenSpec.ofChange Rows.storePlaysSpec) = true := by kernel_rfl
theorem storePlays_c6 : Tryz.pinned.checked.prog.mainIs = some (true, "a77ce86359f10c7208912fb09b235b743b5dd142be4b02c328bbbfbcc7201467".toList) := by kernel_rfl
theorem storePlays_c7 : true = Tryz.pinned.checked.prog.looks [] := by kernel_rfl
theorem storePlays_c8 : false = Rows.storePlaysRow.goesBy Tryz.pinned.checked.prog := by kernel_rfl
theorem storePlays_c9 : Tryz.f3.params.toList.all (fun t => !Tryz.pinned.checked.prog.wantsStandIn t) = true := by kernel_rfl

theorem storePlays_row : Rows.StorePlaysSaid :=
  OpenClaim.holds_of_wide 3 Tryz.f3 rfl rfl rfl rfl rfl rfl rfl ⟨rfl, rfl, rfl, rfl, rfl⟩ rfl rfl rfl rfl rfl storePlays_c1 Tryz.func3 storePlays_c2 storePlays_c3 storePlays_c4
    (fun os started H enc _ => storePlays_lifted os started H enc)

theorem storePlays_holds : Rows.StorePlaysCardSaid :=
  Claim7.holds_tied_plain_at .later [] [.data] true (true, "a77ce86359f10c7208912fb09b235b743b5dd142be4b02c328bbbfbcc7201467") true
    storePlays_row (fun _ h => by cases h) storePlays_c5 (fun _ h => by cases h) storePlays_row_tie rfl ⟨rfl, rfl⟩ storePlays_c6 rfl
    (fun f fn hf hfn => by
      obtain rfl : f = 3 := Option.some.inj (storePlays_c1.symm.trans hf) |>.symm
      obtain rfl : fn = Tryz.f3 := (Option.some.inj (Tryz.func3.symm.trans hfn)).symm
      refine ⟨storePlays_c7, fun j t ht => ?_⟩
      have hm : t ∈ Tryz.f3.params.toList := by
        rw [← Array.getElem?_toList] at ht
        exact List.mem_of_getElem? ht
      have h := List.all_eq_true.1 storePlays_c9 t hm
      rw [Bool.not_eq_true'] at h
      exact h)
    storePlays_c8
#print axioms storePlays_holds
end Go.Proofs.YtediidajdpdeiaaGreatDoor
