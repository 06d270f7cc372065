/- slices.Sorted(maps.Keys(m)) at keys of the kind int: the kit's contracts, laid here. -/
import Derived.Test.YtediidajdpdeiaaGreatDoorJ11
import Derived.Shelf.SlIterI.Sorted
import Derived.Shelf.SortM.Plain
import Derived.Shelf.SortM.SortNone
import Derived.Ground.GgzProg
import Derived.Ground.SlgmProg
import Derived.Test.YtediidajdpdeiaaGreatDoorJ13
import Derived.Test.YtediidajdpdeiaaGreatDoorJ14
import Derived.Test.YtediidajdpdeiaaGreatDoorJ15

namespace Go.Proofs
open Go.RowKit Go.Maps Go.Sort Go.Shelf

def Tryz.keysA_ren : Go.Shelf.Ren := ⟨fun | 7 => 59 | 10 => 112 | n => n, fun | 23 => 98 | 26 => 3 | 3 => 105 | 28 => 115 | 0 => 0 | 27 => 114 | 33 => 154 | 4 => 4 | n => n, fun | n => n⟩
theorem Tryz.keysA : Go.Proofs.SlLaysZI.n7 Tryz.prog Tryz.keysA_ren := {
  mixed := by kernel_rfl
  f7 := ⟨Tryz.f59.name, by decide, Tryz.func59.trans (congrArg some (by kernel_rfl))⟩
  f10 := ⟨Tryz.f112.name, by decide, Tryz.func112.trans (congrArg some (by kernel_rfl))⟩
  t0 := Tryz.underlying0
  a0 := Tryz.isAgg0
  z0 := Tryz.sizeOf0
  v0 := Tryz.zeroValue0
  t4 := Tryz.underlying4
  a4 := Tryz.isAgg4
  z4 := Tryz.sizeOf4
  v4 := Tryz.zeroValue4
  t23 := Tryz.underlying98
  a23 := Tryz.isAgg98
  z23 := Tryz.sizeOf98
  v23 := Tryz.zeroValue98
  t26 := Tryz.underlying3
  a26 := Tryz.isAgg3
  z26 := Tryz.sizeOf3
  v26 := Tryz.zeroValue3
  t27 := Tryz.underlying114
  a27 := Tryz.isAgg114
  z27 := Tryz.sizeOf114
  v27 := Tryz.zeroValue114
  t28 := Tryz.underlying115
  a28 := Tryz.isAgg115
  z28 := Tryz.sizeOf115
  v28 := Tryz.zeroValue115
  t33 := Tryz.underlying154
  a33 := Tryz.isAgg154
  z33 := Tryz.sizeOf154
  v33 := Tryz.zeroValue154 }
def Tryz.sortedA_ren : Go.Shelf.Ren := ⟨fun | 6 => 58 | 8 => 110 | 9 => 111 | 11 => 150 | 13 => 152 | 12 => 151 | 23 => 176 | 24 => 177 | 14 => 167 | 15 => 168 | 16 => 169 | 17 => 170 | 18 => 171 | 19 => 172 | 20 => 173 | 21 => 174 | 22 => 175 | 25 => 182 | 26 => 183 | 27 => 184 | 28 => 185 | 29 => 186 | 30 => 187 | 31 => 190 | n => n, fun | 26 => 3 | 28 => 115 | 24 => 68 | 0 => 0 | 3 => 3 | 37 => 193 | 48 => 167 | 50 => 163 | 4 => 4 | 40 => 218 | 39 => 217 | 45 => 223 | 5 => 5 | 9 => 9 | 51 => 232 | 55 => 236 | 57 => 238 | 58 => 172 | 33 => 154 | n => n, fun | n => n⟩
theorem Tryz.sortedA : Go.Proofs.SlLaysZI.n6 Tryz.prog Tryz.sortedA_ren := {
  mixed := by kernel_rfl
  f6 := ⟨Tryz.f58.name, by decide, Tryz.func58.trans (congrArg some (by kernel_rfl))⟩
  f8 := ⟨Tryz.f110.name, by decide, Tryz.func110.trans (congrArg some (by kernel_rfl))⟩
  f11 := ⟨Tryz.f150.name, by decide, Tryz.func150.trans (congrArg some (by kernel_rfl))⟩
  t0 := Tryz.underlying0
  a0 := Tryz.isAgg0
  z0 := Tryz.sizeOf0
  v0 := Tryz.zeroValue0
  t24 := Tryz.underlying68
  a24 := Tryz.isAgg68
  z24 := Tryz.sizeOf68
  v24 := Tryz.zeroValue68
  t26 := Tryz.underlying3
  a26 := Tryz.isAgg3
  z26 := Tryz.sizeOf3
  v26 := Tryz.zeroValue3
  t28 := Tryz.underlying115
  a28 := Tryz.isAgg115
  z28 := Tryz.sizeOf115
  v28 := Tryz.zeroValue115
  i26 := by kernel_rfl }
def Tryz.sortA_ren : Go.Shelf.Ren := ⟨fun | 5 => 111 | 8 => 152 | 7 => 151 | 19 => 176 | 20 => 177 | 10 => 167 | 11 => 168 | 12 => 169 | 13 => 170 | 14 => 171 | 15 => 172 | 16 => 173 | 17 => 174 | 18 => 175 | 30 => 182 | 31 => 183 | 32 => 184 | 33 => 185 | 34 => 186 | 35 => 187 | 40 => 190 | n => n, fun | 23 => 68 | 25 => 3 | 3 => 3 | 32 => 193 | 22 => 68 | 0 => 0 | 44 => 167 | 46 => 163 | 4 => 4 | 36 => 218 | 35 => 217 | 41 => 223 | 5 => 5 | 9 => 9 | 53 => 232 | 57 => 236 | 63 => 238 | 64 => 172 | n => n, fun | n => n⟩
theorem Tryz.sortA : Go.Proofs.SlLaysM.n5 Tryz.prog Tryz.sortA_ren := {
  mixed := by kernel_rfl
  f5 := ⟨Tryz.f111.name, by decide, Tryz.func111.trans (congrArg some (by kernel_rfl))⟩
  f7 := ⟨Tryz.f151.name, by decide, Tryz.func151.trans (congrArg some (by kernel_rfl))⟩
  f8 := Tryz.func152.trans (congrArg some (by kernel_rfl))
  f10 := ⟨Tryz.f167.name, by decide, Tryz.func167.trans (congrArg some (by kernel_rfl))⟩
  f11 := ⟨Tryz.f168.name, by decide, Tryz.func168.trans (congrArg some (by kernel_rfl))⟩
  f12 := ⟨Tryz.f169.name, by decide, Tryz.func169.trans (congrArg some (by kernel_rfl))⟩
  f13 := ⟨Tryz.f170.name, by decide, Tryz.func170.trans (congrArg some (by kernel_rfl))⟩
  f14 := ⟨Tryz.f171.name, by decide, Tryz.func171.trans (congrArg some (by kernel_rfl))⟩
  f15 := ⟨Tryz.f172.name, by decide, Tryz.func172.trans (congrArg some (by kernel_rfl))⟩
  f16 := ⟨Tryz.f173.name, by decide, Tryz.func173.trans (congrArg some (by kernel_rfl))⟩
  f17 := ⟨Tryz.f174.name, by decide, Tryz.func174.trans (congrArg some (by kernel_rfl))⟩
  f18 := ⟨Tryz.f175.name, by decide, Tryz.func175.trans (congrArg some (by kernel_rfl))⟩
  f19 := Tryz.func176.trans (congrArg some (by kernel_rfl))
  f20 := Tryz.func177.trans (congrArg some (by kernel_rfl))
  f30 := ⟨Tryz.f182.name, by decide, Tryz.func182.trans (congrArg some (by kernel_rfl))⟩
  f31 := Tryz.func183.trans (congrArg some (by kernel_rfl))
  f32 := Tryz.func184.trans (congrArg some (by kernel_rfl))
  f33 := ⟨Tryz.f185.name, by decide, Tryz.func185.trans (congrArg some (by kernel_rfl))⟩
  f34 := ⟨Tryz.f186.name, by decide, Tryz.func186.trans (congrArg some (by kernel_rfl))⟩
  f35 := ⟨Tryz.f187.name, by decide, Tryz.func187.trans (congrArg some (by kernel_rfl))⟩
  f40 := ⟨Tryz.f190.name, by decide, Tryz.func190.trans (congrArg some (by kernel_rfl))⟩
  t0 := Tryz.underlying0
  a0 := Tryz.isAgg0
  z0 := Tryz.sizeOf0
  v0 := Tryz.zeroValue0
  t3 := Tryz.underlying3
  a3 := Tryz.isAgg3
  z3 := Tryz.sizeOf3
  v3 := Tryz.zeroValue3
  t4 := Tryz.underlying4
  a4 := Tryz.isAgg4
  z4 := Tryz.sizeOf4
  v4 := Tryz.zeroValue4
  t5 := Tryz.underlying5
  a5 := Tryz.isAgg5
  z5 := Tryz.sizeOf5
  v5 := Tryz.zeroValue5
  t9 := Tryz.underlying9
  a9 := Tryz.isAgg9
  z9 := Tryz.sizeOf9
  v9 := Tryz.zeroValue9
  t22 := Tryz.underlying68
  a22 := Tryz.isAgg68
  z22 := Tryz.sizeOf68
  v22 := Tryz.zeroValue68
  t23 := Tryz.underlying68
  a23 := Tryz.isAgg68
  z23 := Tryz.sizeOf68
  v23 := Tryz.zeroValue68
  t25 := Tryz.underlying3
  a25 := Tryz.isAgg3
  z25 := Tryz.sizeOf3
  v25 := Tryz.zeroValue3
  t32 := Tryz.underlying193
  a32 := Tryz.isAgg193
  z32 := Tryz.sizeOf193
  v32 := Tryz.zeroValue193
  t35 := Tryz.underlying217
  a35 := Tryz.isAgg217
  z35 := Tryz.sizeOf217
  v35 := Tryz.zeroValue217
  t36 := Tryz.underlying218
  a36 := Tryz.isAgg218
  z36 := Tryz.sizeOf218
  v36 := Tryz.zeroValue218
  t41 := Tryz.underlying223
  a41 := Tryz.isAgg223
  z41 := Tryz.sizeOf223
  v41 := Tryz.zeroValue223
  t44 := Tryz.underlying167
  a44 := Tryz.isAgg167
  z44 := Tryz.sizeOf167
  v44 := Tryz.zeroValue167
  t46 := Tryz.underlying163
  a46 := Tryz.isAgg163
  z46 := Tryz.sizeOf163
  v46 := Tryz.zeroValue163
  t53 := Tryz.underlying232
  a53 := Tryz.isAgg232
  z53 := Tryz.sizeOf232
  v53 := Tryz.zeroValue232
  t57 := Tryz.underlying236
  a57 := Tryz.isAgg236
  z57 := Tryz.sizeOf236
  v57 := Tryz.zeroValue236
  t63 := Tryz.underlying238
  a63 := Tryz.isAgg238
  z63 := Tryz.sizeOf238
  v63 := Tryz.zeroValue238
  t64 := Tryz.underlying172
  a64 := Tryz.isAgg172
  z64 := Tryz.sizeOf172
  v64 := Tryz.zeroValue172 }
theorem Tryz.sortsA (m : Nat) : AnyZI.SortsIn Tryz.prog Tryz.sortedA_ren Fence.wide m :=
  ⟨fun blk off cap ss W hH hblk hsz => callsIn_wide.2 (AnyM.slices_Sort_int Tryz.sortA blk off cap ss W hH hblk hsz),
   fun p cap W => callsIn_wide.2 (AnyM.slices_Sort_int_none Tryz.sortA p cap W)⟩
theorem Tryz.keysB (mb : Option Nat) (W : World) : Calls Tryz.prog 59 #[.map mb] W fun e w' => e = .returned (.func (.func 112) #[] #[.pointer (some ⟨W.heap.size, 0, none⟩)]) ∧ w' = W.alloc (.cells #[.map mb] 98) :=
  (callsIn_wide (n := 5)).1 (AnyZI.keys_in Tryz.keysA Fence.wide 5 trivial rfl mb W)
set_option maxHeartbeats 1000000 in
theorem Tryz.sortedB {H : Type} (b nn bx : Nat) (D0 : DataW H) (R : Value → Option (DataW H × List MemPlace)) (w : World) (hbx : w.cell? ⟨bx, 0, none⟩ = some (.map (some b))) (hown : w.ownsMap Tryz.prog 3 R b nn D0) (hmax : Maps.size D0 ≤ maxLen) (hbytes : Maps.size D0 * 8 ≤ 140737488355328) :
    Calls Tryz.prog 58 #[.func (.func 112) #[] #[.pointer (some ⟨bx, 0, none⟩)]] w fun e w' => ∃ (v : Value) (ss : List Int), e = .returned v ∧ ss.Perm (intKeys D0) ∧
      w'.ownsRow w.heap.size 3 1 v ss.length ((ss.mergeSort (fun x y => decide (x ≤ y))).map encZ) ∧ (v = .slice none 0 0 ↔ ss = []) ∧ Below w.heap.size w w' := by
  refine (callsIn_wide (n := 5)).1 ?_
  have hseq : SeqGives Fence.wide 2 Tryz.prog 112 #[.pointer (some ⟨bx, 0, none⟩)] encZ (fun ss => ss.Perm (intKeys D0)) (Maps.size D0) w :=
    AnyZI.keys_gives (ρ := Tryz.keysA_ren) { Tryz.keysA with } Fence.wide _ trivial rfl (by omega) bx b nn D0 _ (World.block_lt_of_cell? w _ hbx) hbx hown
  have cS := AnyZI.sorted_in Tryz.sortedA Fence.wide 5 trivial trivial trivial trivial rfl (by omega) (Tryz.sortsA _) (enters_of Tryz.func111 (by kernel_rfl) rfl) 112 #[.pointer (some ⟨bx, 0, none⟩)] trivial (enters_of Tryz.func112 (by kernel_rfl) rfl) _ _ hmax hbytes _ hseq
  exact cS
end Go.Proofs

/- A store's keys, sorted (layer 8). -/
namespace Go.Proofs.YtediidajdpdeiaaGreatDoor
open Go.RowKit CrcM Go.Sort Go.Shelf
set_option maxRecDepth 100000

theorem sortedI_of_perm {l l' : List Int} (h : l.Perm l') (hs : l'.Pairwise (fun x y => x < y)) : l.mergeSort (fun x y => decide (x ≤ y)) = l' := by
  have h1 : (l.mergeSort (fun x y => decide (x ≤ y))).Pairwise (fun x y : Int => (decide (x ≤ y)) = true) := List.pairwise_mergeSort (fun a b c h1 h2 => by simp only [decide_eq_true_eq] at *; omega) (fun a b => by simp only [Bool.or_eq_true, decide_eq_true_eq]; omega) l
  have h2 : (l.mergeSort (fun x y => decide (x ≤ y))).Perm l' := (List.mergeSort_perm l _).trans h
  exact h2.eq_of_pairwise (le := fun x y : Int => decide (x ≤ y) = true) (fun a b _ _ h1 h2 => by simp only [decide_eq_true_eq] at *; omega) h1 (hs.imp (fun h => by simp only [decide_eq_true_eq]; omega))
theorem intKeys_mapD (E : List (Nat × Value)) : intKeys (mapD E) = E.map (fun p => (p.1 : Int)) := by
  unfold mapD
  show (E.map fun p => (litN p.1, DataW.held (H := Value) p.2)).map (fun p => Go.intOf p.1) = _
  rw [List.map_map]
  rfl
/-- the keys, in a row of their own -/
def KeysDid (w : World) (M : Slots) (e : Ending) (w' : World) : Prop :=
  ∃ A c, e = .returned (.slice A M.length c) ∧ (∀ (j : Nat) (p : Nat × Hd), M[j]? = some p → ∃ g o, A = some ⟨g, o, none⟩ ∧ w'.cell? ⟨g, o + j, none⟩ = some (.int .i64 (p.1 : Int))) ∧ Below w.heap.size w w'
theorem sortedS {w : World} {mb bx : Nat} {M : Slots} (h : SlotsAt w mb M) (hr : Rise M) (hbx : w.cell? ⟨bx, 0, none⟩ = some (.map (some mb))) (hl : M.length ≤ 1048576) :
    Calls Tryz.prog 58 #[.func (.func 112) #[] #[.pointer (some ⟨bx, 0, none⟩)]] w (KeysDid w M) := by
  obtain ⟨Z, h1, rfl, h3, h4⟩ := h
  have hz : (slotsOf Z).length = Z.length := by unfold slotsOf; rw [List.length_map]
  have hv : (valsOf Z).length = Z.length := by unfold valsOf; rw [List.length_map]
  refine (Tryz.sortedB mb Z.length bx _ _ w hbx h1 (by rw [mapD_size, hv]; unfold maxLen; omega) (by rw [mapD_size, hv]; omega)).mono ?_
  rintro e w' ⟨v, ss, rfl, hp, hrow, hn, hb⟩
  have hk : intKeys (mapD (valsOf Z)) = (slotsOf Z).map (fun p => (p.1 : Int)) := by
    rw [intKeys_mapD]
    unfold valsOf slotsOf
    rw [List.map_map, List.map_map]
    rfl
  rw [hk] at hp
  have hlen := hp.length_eq
  rw [List.length_map] at hlen
  have hs := sortedI_of_perm hp (by
    rw [List.pairwise_map]
    exact hr.imp (fun h => by omega))
  rw [hs] at hrow
  rcases hrow.2 with ⟨rfl, hz'⟩ | ⟨gb, cap, cur, rfl, hbase, hgb, r1, r2, r3, r4⟩
  · rw [hlen] at hz'
    refine ⟨none, 0, by rw [hz'], fun j p hj => ?_, hb⟩
    rw [List.eq_nil_of_length_eq_zero hz'] at hj
    simp at hj
  · refine ⟨some ⟨gb, 0, none⟩, cap, by rw [hlen], fun j p hj => ⟨gb, 0, rfl, ?_⟩, hb⟩
    have hjl := (List.getElem?_eq_some_iff.1 hj).1
    have h5 : cur.toList[j]? = some (.int .i64 (p.1 : Int)) := by
      have := congrArg (fun l => l[j]?) r4
      simp only [Nat.mul_one, List.getElem?_map, hj, Option.map_some] at this
      rw [List.getElem?_take, if_pos (by omega)] at this
      exact this
    have h6 : cur[j]? = some (.int .i64 (p.1 : Int)) := by rw [← Array.getElem?_toList]; exact h5
    rw [Nat.zero_add]
    simp [World.cell?, hgb, h6]
end Go.Proofs.YtediidajdpdeiaaGreatDoor

/- A store's Snapshot (layer 8): the walk. -/
namespace Go.Proofs.YtediidajdpdeiaaGreatDoor
open Go.RowKit CrcM
set_option maxRecDepth 100000

theorem flat_len : ∀ {M : Slots}, (∀ p ∈ M, p.1 ≤ 1099511627776 ∧ p.2.ballot ≤ 1099511627776 ∧ p.2.value.length ≤ 32768) → (M.map slotB).flatten.length ≤ M.length * 32798
  | [], _ => by simp
  | p :: t, h => by
    have ih := flat_len (M := t) (fun q hq => h q (List.mem_cons_of_mem _ hq))
    obtain ⟨h1, h2, h3⟩ := h p (List.mem_cons_self ..)
    have n1 := numB_10 (n := p.1) (by omega)
    have n2 := numB_10 (n := p.2.ballot) (by omega)
    have n3 := numB_10 (n := p.2.value.length) (by omega)
    rw [List.map_cons, List.flatten_cons, List.length_append, List.length_cons]
    have : (slotB p).length ≤ 32798 := by
      unfold slotB
      simp only [List.length_append]
      omega
    omega
section
variable {S S1 S2 : Nat → Prop} {w : World} {b lb db mb : Nat} {s : So}
set_option maxHeartbeats 4000000 in
theorem snapshotS (h : SoO S S1 S2 w b lb db mb s) (hh : HalfAt w) (hSh : ¬ S 0) :
    Calls Tryz.prog 11 #[.pointer (some ⟨b, 0, none⟩)] w (SoDid S w (.pointer (some ⟨b, 0, none⟩)) s.snapshot) := by
  obtain ⟨iu, hiu, hzu, hsu, hbu⟩ := info_parts info_u8
  have ha := askedS h none [] 0 (fun j n hj => by simp at hj) (by simp)
  cases hdn : s.log.down
  case true =>
    rw [show askC s [] = 10 from by unfold askC; rw [hdn]; rfl] at ha
    have HE := Lib.hid (show s.snapshot = (s, 10) from by unfold So.snapshot; rw [hdn]; rfl)
    clear hdn
    go_enter Tryz.func11, Tryz.ntmps11
    go_wp2_with (go_at_call 53; refine ha.mono ?_; rintro e w' ⟨rfl, rfl⟩)
    go_ret
    rw [HE.out]
    exact ⟨rfl, h.same, Fr.refl _ _⟩
  rw [show askC s [] = 0 from by unfold askC; rw [hdn]; rfl] at ha
  obtain ⟨hu, H, A0, c0, ps, hl⟩ := id h.log
  have hs := syncL hl hu
  obtain ⟨g0, g1, g2, g3, g4, g5, -, -, -⟩ := h.facts
  have hok := h.ok
  have hpr := hok.pr
  have hba := hok.ba
  have hfw := hok.few
  have HRI := Lib.hid hok.rise
  have HAL := Lib.hid hok.all
  have hper := h.per
  obtain ⟨l1, hl1⟩ : ∃ l, [] ++ numB s.st.promised = l := ⟨_, rfl⟩
  obtain ⟨l2, hl2⟩ : ∃ l, l1 ++ numB s.st.base = l := ⟨_, rfl⟩
  obtain ⟨l3, hl3⟩ : ∃ l, l2 ++ numB s.st.slots.length = l := ⟨_, rfl⟩
  have q1 : l1.length ≤ 10 := by have := numB_10 (n := s.st.promised) (by omega); rw [← hl1]; simpa using this
  have q2 : l2.length ≤ 20 := by have := numB_10 (n := s.st.base) (by omega); rw [← hl2, List.length_append]; omega
  have q3 : l3.length ≤ 30 := by have := numB_10 (n := s.st.slots.length) (by omega); rw [← hl3, List.length_append]; omega
  have hsb : snapB s.st = l3 ++ (s.st.slots.map slotB).flatten := by
    rw [← hl3, ← hl2, ← hl1]
    unfold snapB
    simp
  have he : s.snapshot = if 65536 < (snapB s.st).length then (⟨s.per, s.log.sync.1, s.snap, s.st⟩, 3) else (⟨s.per, Lg.new s.per, (s.snap.swap (frame (snapB s.st))).1, s.st⟩, 0) := by unfold So.snapshot; rw [hdn]; rfl
  have HSB := Lib.hid hsb
  have HE := Lib.hid he
  have H1 := Lib.hid hl1
  have H2 := Lib.hid hl2
  have H3 := Lib.hid hl3
  clear hdn hsb he hl1 hl2 hl3
  go_enter Tryz.func11, Tryz.ntmps11
  go_wp2_with (first
    | (go_at_call 53; refine ha.mono ?_; rintro e w' ⟨rfl, rfl⟩)
    | (go_at_call 57; refine hs.mono ?_; rintro e w2 ⟨rfl, hl2, hf2⟩; obtain ⟨h2, f2⟩ := h.turnLog hl2 hf2; obtain ⟨d0, d1, d2, d3, d4, d5, -, -, -⟩ := h2.facts; have hnum1 := Num_B w2 w2 (Below.refl _ _) none 0 [] (by intro j x hx; simp at hx) (by simp) s.st.promised (by omega); rw [H1.out] at hnum1)
    | (go_at_call 54; refine hnum1.mono ?_; rintro e w3 ⟨v3, rfl, ho3, hb3⟩; obtain ⟨A3, c3, rfl, hc3, hm3⟩ := own_val ho3; have hO3 := Own.of_row ho3 rfl; obtain ⟨x0, x1, x2, x3, x4, x5, -, -, -⟩ := (h2.below hb3).facts; have hnum2 := Num_B w2 w3 hb3 A3 c3 l1 ((hO3.mono (S' := Ever) (fun _ _ => trivial)).rd Non) (by omega) s.st.base (by omega); rw [H2.out] at hnum2; clear hnum1)
    | (go_at_call 54; refine hnum2.mono ?_; rintro e w4 ⟨v4, rfl, ho4, hb4⟩; obtain ⟨A4, c4, rfl, hc4, hm4⟩ := own_val ho4; have hO4 := Own.of_row ho4 rfl; obtain ⟨y0, y1, y2, y3, y4, y5, -, -, -⟩ := (h2.below hb4).facts; have hnum3 := Num_B w2 w4 hb4 A4 c4 l2 ((hO4.mono (S' := Ever) (fun _ _ => trivial)).rd Non) (by omega) s.st.slots.length (by omega); rw [H3.out] at hnum3; have hln := fun ty => (h2.below hb4).map.len ty; clear hnum2)
    | (go_at_call 54; refine hnum3.mono ?_; rintro e w5 ⟨v5, rfl, ho5, hb5⟩; obtain ⟨A5, c5, rfl, hc5, hm5⟩ := own_val ho5; obtain ⟨z0, z1, z2, z3, z4, z5, -, -, -⟩ := (h2.below hb5).facts; clear hnum3)
    | (go_at_call 59; refine (Tryz.keysB (some mb) w5).mono ?_; rintro e w6 ⟨rfl, rfl⟩; have hbK := hb5.alloc hb5.size (.cells #[.map (some mb)] TMp); have hsrt := sortedS (M := s.st.slots) (h2.below hbK).map HRI.out ((Blk.new w5 TMp #[.map (some mb)]).cell 0 rfl) (Nat.le_succ_of_le hfw))
    | (go_at_call 58; refine hsrt.mono ?_; rintro e w7 ⟨Ak, ck, rfl, hkey, hbS⟩))
  have hbl7 : Below w2.heap.size w2 w7 := hbK.trans (hbS.mono hbK.size)
  have hb57 : Below w5.heap.size w5 w7 := (below_new w5 (.cells #[.map (some mb)] TMp)).trans (hbS.mono (by simp))
  have ho7 := ownsRow_below ho5 hb57
  have hn7 : s.st.slots.length ≤ 1048575 := hfw
  clear d0 d1 d2 d3 d4 d5 x0 x1 x2 x3 x4 x5 y0 y1 y2 y3 y4 y5 z0 z1 z2 z3 z4 z5 g0 g1 g2 g3 g4 g5 hb3 hb4 hbK hbS hb57 ho3 ho4 ho5 hO3 hO4 hsrt hln hs ha hl hb5
  have HFL := Lib.hid (flat_len HAL.out)
  have hkl : ∀ k, k ≤ s.st.slots.length → (l3 ++ ((s.st.slots.take k).map slotB).flatten).length ≤ 30 + 1048575 * 32798 := by
    intro k hk
    have := flat_len (M := s.st.slots.take k) (fun q hq => HAL.out q (List.mem_of_mem_take hq))
    rw [List.length_take] at this
    rw [List.length_append]
    have h2 : min k s.st.slots.length * 32798 ≤ 1048575 * 32798 := Nat.mul_le_mul_right _ (by omega)
    omega
  go_loopw [4, 56] (fun v i wr => ∃ k : Nat, k ≤ s.st.slots.length ∧ i = .int .i64 (k : Int) ∧ wr.ownsRow w2.heap.size TB 1 v (l3 ++ ((s.st.slots.take k).map slotB).flatten).length ((l3 ++ ((s.st.slots.take k).map slotB).flatten).map byteV) ∧ Below w2.heap.size w2 wr ∧ Below w7.heap.size w7 wr) (fun _ i _ => s.st.slots.length - (intOf i).toNat)
  case atStart => exact ⟨0, Nat.zero_le _, rfl, by simpa using ho7, hbl7, Below.refl _ _⟩
  case round =>
    obtain ⟨k, hk, rfl, ho, hbw, hbk⟩ := hrel
    have hKL := Lib.hid (hkl k hk)
    clear ho7
    obtain ⟨acc, hacc⟩ : ∃ l, l3 ++ ((s.st.slots.take k).map slotB).flatten = l := ⟨_, rfl⟩
    rw [hacc] at ho hKL
    have hkl' := hKL.out
    have HA := Lib.hid hacc
    clear hacc hKL
    obtain ⟨A, c, rfl, hcA, hmA⟩ := own_val ho
    have hw2 := h2.below hbw
    obtain ⟨g0, g1, g2, g3, g4, g5, -, -, -⟩ := hw2.facts
    by_cases hlt : k < s.st.slots.length
    · obtain ⟨⟨key, ⟨bal, val⟩⟩, hp⟩ : ∃ p, s.st.slots[k]? = some p := ⟨_, List.getElem?_eq_getElem hlt⟩
      obtain ⟨b1, b2, b3⟩ := HAL.out _ (List.mem_of_getElem? hp)
      simp only at b1 b2 b3
      obtain ⟨gk, ok_, rfl, hck⟩ := hkey k _ hp
      simp only at hck
      replace hck := (hbk.cell (p := ⟨gk, ok_ + k, none⟩) (cell_lt hck)).trans hck
      have hget : getN key s.st.slots = some ⟨bal, val⟩ := HRI.out.get (List.mem_of_getElem? hp)
      obtain ⟨vl, hlook, hvl⟩ := (hw2.below (Below.refl _ wr).drew).map.has key (by omega) hget
      obtain ⟨Av, cv, rfl, hcv, hmv, hov⟩ := hvl
      simp only at hcv hov
      have hlt' : (k : Int) < (s.st.slots.length : Int) := by omega
      have HP := Lib.hid hp
      have HG := Lib.hid hget
      clear hp hget
      have hb1' := (Below.refl wr.heap.size wr).drew
      have hb2' := hb1'.alloc (Nat.le_refl _) (.cells #[.int .i64 (key : Int), .int .i64 (bal : Int), .int .i64 (val.length : Int)] TIn)
      go_wp2
      refine wp_region_T #[[], [], [], [], [], [], [4], [4, 6], [], [], [], [], [], [11], [11, 13], [11, 13], [4, 6, 11, 13], [4, 6, 11, 13], []] [4, 6, 11, 13] (fun w' => w'.cell? ⟨b, 5, none⟩ = some (.map (some mb)) ∧ (Instr.lookup TMp (.map (some mb)) (.int .i64 (key : Int)) false).run Tryz.prog w' = .ok (.agg #[.int .i64 (bal : Int), .slice Av val.length cv]) w') 19 rfl (by kernel_rfl) ?_
      (refine wpF (i := 0) rfl (by kernel_rfl) rfl (fun _ _ _ h => h) (fun _ => by go_simp; try rfl) ?_; (try simp only [Act.put, sA, sB, sC]))
      (refine wpF (i := 1) rfl (by kernel_rfl) rfl (fun _ _ _ h => h) (fun _ => by go_simp; try rfl) ?_; (try simp only [Act.put, sA, sB, sC]))
      (refine wpF (i := 2) rfl (by kernel_rfl) rfl (fun _ _ _ h => h) (fun _ => by go_simp; try rfl) ?_; (try simp only [Act.put, sA, sB, sC]))
      (refine wpF (i := 3) rfl (by kernel_rfl) rfl (fun _ _ _ h => h) (fun _ => by go_simp; try rfl) ?_; (try simp only [Act.put, sA, sB, sC]))
      (refine wpAnyT_read (i := 4) rfl (by kernel_rfl) rfl (fun _ _ _ h => h) (by kernel_rfl) (⟨g5, hlook⟩) (fun w hS_ => by obtain ⟨s_1, s_2⟩ := hS_; go_simp; try rfl) ?_; (try simp only [Act.put, sA, sB, sC]))
      (refine wpF (i := 5) rfl (by kernel_rfl) rfl (fun _ _ _ h => h) (fun _ => by go_simp; try rfl) ?_; (try simp only [Act.put, sA, sB, sC]))
      (refine wpAnyT_read (i := 6) rfl (by kernel_rfl) rfl (fun _ _ _ h => h) (by kernel_rfl) (⟨g5, hlook⟩) (fun w hS_ => by obtain ⟨s_1, s_2⟩ := hS_; go_simp; try rfl) ?_; (try simp only [Act.put, sA, sB, sC]))
      (refine wpF (i := 7) rfl (by kernel_rfl) rfl (fun _ _ _ h => h) (fun _ => by go_simp; try rfl) ?_; (try simp only [Act.put, sA, sB, sC]))
      (refine wpF (i := 8) rfl (by kernel_rfl) rfl (fun _ _ _ h => h) (fun _ => by go_simp; try rfl) ?_; (try simp only [Act.put, sA, sB, sC]))
      (refine wpF (i := 9) rfl (by kernel_rfl) rfl (fun _ _ _ h => h) (fun _ => by go_simp; try rfl) ?_; (try simp only [Act.put, sA, sB, sC]))
      (refine wpF (i := 10) rfl (by kernel_rfl) rfl (fun _ _ _ h => h) (fun _ => by go_simp; try rfl) ?_; (try simp only [Act.put, sA, sB, sC]))
      (refine wpAnyT_read (i := 11) rfl (by kernel_rfl) rfl (fun _ _ _ h => h) (by kernel_rfl) (⟨g5, hlook⟩) (fun w hS_ => by obtain ⟨s_1, s_2⟩ := hS_; go_simp; try rfl) ?_; (try simp only [Act.put, sA, sB, sC]))
      (refine wpF (i := 12) rfl (by kernel_rfl) rfl (fun _ _ _ h => h) (fun _ => by go_simp; try rfl) ?_; (try simp only [Act.put, sA, sB, sC]))
      (refine wpAnyT_read (i := 13) rfl (by kernel_rfl) rfl (fun _ _ _ h => h) (by kernel_rfl) (⟨g5, hlook⟩) (fun w hS_ => by obtain ⟨s_1, s_2⟩ := hS_; go_simp; try rfl) ?_; (try simp only [Act.put, sA, sB, sC]))
      (refine wpF (i := 14) rfl (by kernel_rfl) rfl (fun _ _ _ h => h) (fun _ => by go_simp; try rfl) ?_; (try simp only [Act.put, sA, sB, sC]))
      (refine wpF (i := 15) rfl (by kernel_rfl) rfl (fun _ _ _ h => h) (fun _ => by go_simp; try rfl) ?_; (try simp only [Act.put, sA, sB, sC]))
      (refine wpF (i := 18) rfl (by kernel_rfl) rfl (fun _ _ _ h => h) (fun _ => by go_simp; try rfl) ?_; (try simp only [Act.put, sA, sB, sC]))
      refine wpAnyT_sink (i := 16) rfl (by kernel_rfl) rfl (by kernel_rfl) ?_
      intro K_ hK_
      go_wp2
      (try (refine hK_ _ _ ?_; clear hK_ K_))
      (try simp only [Act.put, sA, sB, sC])
      (refine wpF (i := 17) rfl (by kernel_rfl) rfl (fun _ _ _ h => h) (fun _ => by go_simp; try rfl) ?_; (try simp only [Act.put, sA, sB, sC]))
      refine wpAnyT_done (by kernel_rfl) ?_ _
      go_wp2
      simp only [List.getElem_toArray, List.getElem_cons_zero, List.getElem_cons_succ]
      have hb8 : Below wr.heap.size wr (wr.alloc (.cells #[.int .i64 (key : Int), .int .i64 (bal : Int), .int .i64 (val.length : Int)] TIn)).drew := (below_new wr _).drew
      have ho8 := (ownsRow_below ho (below_new wr (.cells #[.int .i64 (key : Int), .int .i64 (bal : Int), .int .i64 (val.length : Int)] TIn))).drew
      have hB8 := (Blk.new wr TIn #[.int .i64 (key : Int), .int .i64 (bal : Int), .int .i64 (val.length : Int)]).drew
      have hbw8 := hbw.trans (hb8.mono hbw.size)
      have hbk8 := hbk.trans (hb8.mono hbk.size)
      clear hlook hov g0 g1 g2 g3 g4 g5 hck hb8 hw2 hb1' hb2' ho
      have hrl : wr.heap.size < (wr.alloc (.cells #[.int .i64 (key : Int), .int .i64 (bal : Int), .int .i64 (val.length : Int)] TIn)).drew.heap.size := hB8.lt
      generalize (wr.alloc (.cells #[.int .i64 (key : Int), .int .i64 (bal : Int), .int .i64 (val.length : Int)] TIn)).drew = w8 at *
      obtain ⟨ns, hns⟩ : ∃ ns : List Nat, [key, bal, val.length] = ns := ⟨_, rfl⟩
      have hnl : ns.length = 3 := by rw [← hns]; rfl
      have hcell : ∀ (j n : Nat), ns[j]? = some n → w8.cell? ⟨wr.heap.size, j, none⟩ = some (.int .i64 (n : Int)) ∧ n ≤ 1099511627776 := by
        intro j n hj
        rw [← hns] at hj
        match j, hj with
        | 0, hj => injection hj with hj; subst hj; exact ⟨hB8.cell 0 rfl, b1⟩
        | 1, hj => injection hj with hj; subst hj; exact ⟨hB8.cell 1 rfl, b2⟩
        | 2, hj => injection hj with hj; subst hj; exact ⟨hB8.cell 2 rfl, by omega⟩
        | j + 3, hj => simp at hj
      have HNS := Lib.hid hns
      clear hns hB8
      generalize wr.heap.size = g8 at hcell
      go_loopw [4, 78] (fun v i wx => ∃ m : Nat, m ≤ 3 ∧ i = .int .i64 (m : Int) ∧ wx.ownsRow (if m = 0 then w2.heap.size else w8.heap.size) TB 1 v (acc ++ ((ns.take m).map numB).flatten).length ((acc ++ ((ns.take m).map numB).flatten).map byteV) ∧ Below w2.heap.size w2 wx ∧ Below w7.heap.size w7 wx ∧ Below w8.heap.size w8 wx) (fun _ i _ => 3 - (intOf i).toNat)
      case atStart => exact ⟨0, Nat.zero_le _, rfl, by simpa using ho8, hbw8, hbk8, Below.refl _ _⟩
      case round =>
        obtain ⟨m, hm, rfl, ho9, hbw9, hbk9, hb89⟩ := hrel
        have hsz8 := hbk8.size
        have hsz8' := hbw8.size
        clear ho8
        obtain ⟨acc9, hacc⟩ : ∃ l, acc ++ ((ns.take m).map numB).flatten = l := ⟨_, rfl⟩
        rw [hacc] at ho9
        have hal : acc9.length ≤ acc.length + 30 := by
          rw [← hacc, List.length_append]
          have : ((ns.take m).map numB).flatten.length ≤ 30 := by
            have hle : ∀ l : List Nat, (∀ n ∈ l, n ≤ 1099511627776) → (l.map numB).flatten.length ≤ l.length * 10 := by
              intro l
              induction l with
              | nil => intro _; simp
              | cons x r ih =>
                intro hx
                have h1 := ih (fun n hn => hx n (List.mem_cons_of_mem _ hn))
                have h2 := numB_10 (n := x) (by have := hx x (List.mem_cons_self ..); omega)
                rw [List.map_cons, List.flatten_cons, List.length_append, List.length_cons]
                omega
            have := hle (ns.take m) (fun n hn => by
              obtain ⟨j, hj⟩ := List.mem_iff_getElem?.1 (List.mem_of_mem_take hn)
              exact (hcell j n hj).2)
            rw [List.length_take] at this
            omega
          omega
        have HA9 := Lib.hid hacc
        clear hacc
        obtain ⟨A9, c9, rfl, hc9, hm9⟩ := own_val ho9
        by_cases hlt3 : m < 3
        · obtain ⟨n, hn⟩ : ∃ n, ns[m]? = some n := ⟨_, List.getElem?_eq_getElem (show m < ns.length by omega)⟩
          obtain ⟨hcn, hnb⟩ := hcell m n hn
          replace hcn := (hb89.cell (p := ⟨g8, m, none⟩) (cell_lt hcn)).trans hcn
          have hnum := Num_B wr wr (Below.refl _ _) A9 c9 acc9 (((Own.of_row ho9 rfl).mono (S' := Ever) (fun _ _ => trivial)).rd Non) (by omega) n (by omega)
          have HNX := Lib.hid (show acc9 ++ numB n = acc ++ ((ns.take (m + 1)).map numB).flatten by rw [List.take_add_one, hn, ← HA9.out]; simp)
          have hlt3' : (m : Int) < 3 := by omega
          clear hn
          go_wp2_with (go_at_call 54; refine hnum.mono ?_; rintro e w10 ⟨v10, rfl, ho10, hb10⟩; obtain ⟨A10, c10, rfl, hc10, hm10⟩ := own_val ho10)
          go_roundw
          case rel => exact ⟨m + 1, by omega, by go_num, by have h10 := ownsRow_mono ho10 hb89.size; rw [if_neg (Nat.succ_ne_zero m)]; rw [← HNX.out]; rw [List.length_append] at h10 ⊢; exact h10, hbw9.trans (hb10.mono hbw9.size), hbk9.trans (hb10.mono hbk9.size), hb89.trans (hb10.mono hb89.size)⟩
          case measure => simp [intOf]; omega
        · obtain rfl : m = 3 := by omega
          rw [if_neg (by decide)] at ho9
          have hw9 := h2.below hbw9
          obtain ⟨-, -, -, -, -, g5, -, -, -⟩ := hw9.facts
          obtain ⟨vl, hlook9, hvl⟩ := hw9.map.has key (by omega) HG.out
          obtain ⟨Av', cv', rfl, hcv', hmv', hov'⟩ := hvl
          simp only at hcv' hov'
          have hfld := fun (w' : World) => show (Instr.field THd (.agg #[.int .i64 (bal : Int), .slice Av' val.length cv']) 1).run Tryz.prog w' = .ok (.slice Av' val.length cv') w' from by go_simp; try rfl
          have HX := Lib.hid (show l3 ++ ((s.st.slots.take (k + 1)).map slotB).flatten = acc9 ++ val by
            rw [List.take_add_one, HP.out, ← HA9.out, ← HA.out, ← HNS.out]
            simp [slotB])
          go_wp2_with (at_builtin; refine wpList_appB rfl (.tmp 89) (.tmp 96) 30 rfl iu Tryz.underlying30 hiu hzu hsu hbu w8.heap.size _ acc9.length acc9 rfl ho9 Non Av' val.length cv' val rfl rfl (hov'.rd Non) (by omega) hb89.size ?_; intro v11 w11 ho11 hg11 hat11)
          exact ⟨⟨k + 1, by omega, by go_num, by rw [HX.out]; rw [List.length_append]; exact ownsRow_mono ho11 hsz8', hbw9.grown hg11 hbw9.size (fun j hj => Nat.le_trans hsz8' (ho9.lt j hj).1), hbk9.grown hg11 hbk9.size (fun j hj => Nat.le_trans hsz8 (ho9.lt j hj).1)⟩, by simp [intOf]; omega⟩
    · obtain rfl : k = s.st.slots.length := by omega
      rw [List.take_of_length_le (Nat.le_refl _)] at HA
      have hO := (Own.of_row ho rfl).mono (S' := Ever) (fun _ _ => trivial)
      have hhr := (hh.fr f2 hSh).below hbw (hh.fr f2 hSh).lt
      have hfr := frame_B wr hhr A acc c acc.length (hO.rd Non) rfl (by unfold maxLen; omega)
      have HSN := Lib.hid (show snapB s.st = acc by rw [HSB.out]; exact HA.out)
      by_cases hlong : acc.length ≤ 65536
      · have HE2 := Lib.hid (show s.snapshot = (⟨s.per, Lg.new s.per, (s.snap.swap (frame acc)).1, s.st⟩, 0) by rw [HE.out, HSN.out, if_neg (by omega)])
        simp only [if_pos hlong] at hfr
        unfold Made at hfr
        have hper2 : 1 ≤ (s.per : Int) ∧ (s.per : Int) ≤ 1024 := by omega
        go_wp2_with (first
          | (go_at_call 60; refine hfr.mono ?_; rintro e w3 ⟨A3', c3', rfl, ho3', hc3', hm3', hb3'⟩; have hw3 := hw2.below hb3'; obtain ⟨-, -, e2, -⟩ := hw3.facts; obtain ⟨Ad, cd, hd3⟩ := hw3.snap; have hsw := swap_B hd3 A3' (frame acc) c3' (by rw [length_frame]; omega) ((ho3'.mono (S' := Ever) (fun _ _ => trivial)).rd S2))
          | (go_at_call 61; refine hsw.mono ?_; rintro e w4 ⟨rfl, hd4, hf4⟩; obtain ⟨h4, f4⟩ := hw3.turnSnap hd4 hf4; obtain ⟨p0, -⟩ := h4.facts; have hnw := newL w4 (s.per : Int); simp only [if_pos hper2, Int.toNat_natCast] at hnw)
          | (go_at_call 46; refine hnw.mono ?_; rintro e w5 ⟨_, rfl, ⟨lb', rfl, hl5⟩, hb5⟩; have h5 := h4.below hb5; obtain ⟨r0, r1, r2, r3, r4, r5, rz1, -, -⟩ := h5.facts; unfold ptr))
        go_ret
        rw [HE2.out]
        have hlt4 : ∀ x, Nw w4 w5 x → w4.heap.size ≤ x := fun x hx => hx.1
        have h5m := h5.mono (S' := Up (Up (Up S w w2) w3 w4) w4 w5) (fun x hx => .inl hx) (Up.lt h4.lt hb5.size)
        obtain ⟨h6, f6⟩ := h5m.setLog hl5 (fun x hx => .inr hx) (fun x hx => ⟨fun q => by have := h4.lt x (h4.h2 x q); have := hx.1; omega, fun e => by have := h4.lt b h4.hb; have := hx.1; omega, fun e => by have := h4.lt mb h4.hm; have := hx.1; omega⟩)
        have s1 := f2.size
        have s2 := hbw.size
        have s3 := hb3'.size
        have s4 := hf4.size
        have s5 := hb5.size
        have hfin : ∀ x, Up (Up (Up S w w2) w3 w4) w4 w5 x → Up S w (w5.setCell ⟨b, 1, none⟩ (.pointer (some ⟨lb', 0, none⟩))) x := by
          have hz : (w5.setCell ⟨b, 1, none⟩ (.pointer (some ⟨lb', 0, none⟩))).heap.size = w5.heap.size := by simp [World.setCell]
          rintro x (((hx | hx) | hx) | hx)
          · exact .inl hx
          · exact .inr ⟨hx.1, by have := hx.2; omega⟩
          · exact .inr ⟨by have := hx.1; omega, by have := hx.2; omega⟩
          · exact .inr ⟨by have := hx.1; omega, by have := hx.2; omega⟩
        refine ⟨rfl, (h6.mono hfin (fun x hx => ?_)).is, ?_⟩
        · have hz : (w5.setCell ⟨b, 1, none⟩ (.pointer (some ⟨lb', 0, none⟩))).heap.size = w5.heap.size := by simp [World.setCell]
          rcases hx with hx | hx
          · have := h.lt x hx; omega
          · exact hx.2
        · have k1 : Fr S w w3 := (f2.trans' (Fr.of_below (S := Non) hbw) (fun _ _ h => h.elim)).trans' (Fr.of_below (S := Non) hb3') (fun _ _ h => h.elim)
          have k2 := k1.trans' f4 (fun x hx h => by rcases h with h | h; exact h; have := h.1; omega)
          have k3 := k2.trans' (Fr.of_below (S := Non) hb5) (fun _ _ h => h.elim)
          exact k3.trans' f6 (fun x hx h => by
            rcases h with ((h | h) | h) | h
            · exact h
            · have := h.1; omega
            · have := h.1; omega
            · have := h.1; omega)
      · have HE2 := Lib.hid (show s.snapshot = (⟨s.per, s.log.sync.1, s.snap, s.st⟩, 3) by rw [HE.out, HSN.out, if_pos (by omega)])
        simp only [if_neg hlong] at hfr
        go_wp2_with (go_at_call 60; refine hfr.mono ?_; rintro e w3 ⟨rfl, rfl⟩)
        go_ret
        rw [HE2.out]
        have s1 := f2.size
        have s2 := hbw.size
        refine ⟨rfl, ?_, f2.trans' (Fr.of_below (S := Non) hbw) (fun _ _ h => h.elim)⟩
        exact (hw2.mono (S' := Up S w w3) (fun x hx => hx.imp_right (fun q => ⟨q.1, by have := q.2; omega⟩)) (fun x hx => by
          rcases hx with hx | hx
          · have := h.lt x hx; omega
          · exact hx.2)).is
end
end Go.Proofs.YtediidajdpdeiaaGreatDoor

/- A store as the laws see it: all that is owned is newer than the law's beginning. -/
namespace Go.Proofs.YtediidajdpdeiaaGreatDoor
open Go.RowKit CrcM
set_option maxRecDepth 100000

section
variable {S S1 S2 : Nat → Prop} {w : World} {b lb db mb : Nat} {s : So}
/-- Restart of a store that is up -/
theorem restartUp (h : SoO S S1 S2 w b lb db mb s) (hh : HalfAt w) (hSh : ¬ S 0) (hup : s.log.down = false) :
    Calls Tryz.prog 72 #[.pointer (some ⟨b, 0, none⟩)] w (SoDid S w (.pointer (some ⟨b, 0, none⟩)) (s, 9)) := by
  obtain ⟨hu, H, A, c, ps, hl⟩ := id h.log
  have hb1 := below_new w (.cells #[.pointer (some ⟨b, 0, none⟩)] 23)
  have h1 := h.below hb1
  have hlr := restartL (hl.below hb1) hu (hh.below hb1 hh.lt) (fun hx => hSh (h.h1 _ hx))
  have hlc : s.log.restart = (s.log, 9) := by unfold Lg.restart; rw [hup]; rfl
  unfold LogDid at hlr
  rw [hlc] at hlr
  have B1 := Blk.new w 23 #[.pointer (some ⟨b, 0, none⟩)]
  have x1 := B1.cell 0 (v := .pointer (some ⟨b, 0, none⟩)) rfl
  obtain ⟨c0, c1, c2, c3, c4, c5, z1, z3, z4⟩ := h1.facts
  clear hlc
  go_enter Tryz.func72, Tryz.ntmps72
  go_wp2_with (first
    | (go_at_call 49; refine (noneS h1).mono ?_; rintro e w' ⟨rfl, rfl⟩)
    | (go_at_call 127; refine hlr.mono ?_; rintro e w2 ⟨rfl, hl2, hf2⟩))
  go_ret
  obtain ⟨h2, f2⟩ := h1.turnLog hl2 hf2
  exact SoDid.from hb1 h.lt ⟨rfl, h2.is, f2⟩
theorem logS (h : SoO S S1 S2 w b lb db mb s) : Calls Tryz.prog 21 #[.pointer (some ⟨b, 0, none⟩)] w (CopyDid w s.log) := by
  obtain ⟨c0, c1, c2, c3, c4, c5, z1, z3, z4⟩ := h.facts
  obtain ⟨hu, H, A, c, ps, hl⟩ := id h.log
  have hc := copyL hl hu
  go_enter Tryz.func21, Tryz.ntmps21
  go_wp2_with (first
    | (go_at_call 49; refine (noneS h).mono ?_; rintro e w' ⟨rfl, rfl⟩)
    | (go_at_call 50; refine hc.mono ?_; rintro e w2 ⟨b', rfl, hl2, hb2⟩))
  go_ret
  exact ⟨b', rfl, hl2, hb2⟩
end

/-- a store that was made since W, of whose memory nothing has turned; X is kept apart from it -/
def LiveS (W w : World) (b : Nat) (s : So) (X : Nat → Prop) : Prop := ∃ S, SoAt S w b s ∧ (∀ x, S x → W.heap.size ≤ x) ∧ Below W.heap.size W w ∧ ∀ x, X x → ¬ S x ∧ x < w.heap.size
section
variable {W w w' : World} {b : Nat} {s : So} {X : Nat → Prop}
theorem LiveS.below (h : LiveS W w b s X) : Below W.heap.size W w := by
  obtain ⟨S, _, _, hb, _⟩ := h
  exact hb
theorem LiveS.sub {X' : Nat → Prop} (h : LiveS W w b s X) (hs : ∀ x, X' x → X x) : LiveS W w b s X' := by
  obtain ⟨S, hd, hS, hb, hX⟩ := h
  exact ⟨S, hd, hS, hb, fun x hx => hX x (hs x hx)⟩
theorem LiveS.mono (h : LiveS W w b s X) (f : Below w.heap.size w w') : LiveS W w' b s (Up X w w') := by
  obtain ⟨S, ⟨S1, S2, lb, db, mb, hd⟩, hS, hb, hX⟩ := h
  refine ⟨S, ⟨S1, S2, lb, db, mb, hd.below f⟩, hS, hb.trans (f.mono hb.size), fun x hx => ?_⟩
  rcases hx with hx | hx
  · exact ⟨(hX x hx).1, Nat.lt_of_lt_of_le (hX x hx).2 f.size⟩
  · refine ⟨fun hs => ?_, hx.2⟩
    have := hd.lt x hs
    have := hx.1
    omega
theorem LiveS.mono' (h : LiveS W w b s X) (f : Below w.heap.size w w') : LiveS W w' b s X := (h.mono f).sub fun _ hx => .inl hx
theorem LiveS.turned {S : Nat → Prop} (hS : ∀ x, S x → W.heap.size ≤ x) (hb : Below W.heap.size W w) (hX : ∀ x, X x → ¬ S x ∧ x < w.heap.size) {s' : So} (hi : IsSo (Up S w w') w' (.pointer (some ⟨b, 0, none⟩)) s') (hf : Fr S w w') : LiveS W w' b s' X ∧ XK X w w' ∧ BK w w' := by
  obtain ⟨b', e, h⟩ := hi
  injection e with e
  injection e with e
  injection e with e
  subst e
  exact ⟨⟨_, h, fun x hx => hx.elim (hS x) (fun h => Nat.le_trans hb.size h.1), ⟨hf.os.trans hb.os, hf.tape.trans hb.tape, hf.output.trans hb.output, Nat.le_trans hb.size hf.size,
    fun k hk => (hf.out k (Nat.lt_of_lt_of_le hk hb.size) fun hh => by have := hS k hh; omega).trans (hb.block k hk)⟩, fun x hx => ⟨fun hs => hs.elim (hX x hx).1 (fun q => by have := (hX x hx).2; have := q.1; omega), Nat.lt_of_lt_of_le (hX x hx).2 hf.size⟩⟩, fun x hx => hf.out x (hX x hx).2 (hX x hx).1, hf.byt⟩
end

/-- WHAT a change of a live store leaves -/
def LiveSDid (W w : World) (b : Nat) (X : Nat → Prop) (r : So × Int) (e : Ending) (w' : World) : Prop := e = .returned (.int .i64 r.2) ∧ LiveS W w' b r.1 X ∧ XK X w w' ∧ BK w w'
section
variable {W w : World} {b : Nat} {s : So} {X : Nat → Prop} {m n : Nat} {st0 : St} {rcs : List Rc}
theorem LiveSDid.of {S : Nat → Prop} {r : So × Int} {e : Ending} {w' : World} (hS : ∀ x, S x → W.heap.size ≤ x) (hb : Below W.heap.size W w) (hX : ∀ x, X x → ¬ S x ∧ x < w.heap.size) (h : SoDid S w (.pointer (some ⟨b, 0, none⟩)) r e w') : LiveSDid W w b X r e w' :=
  ⟨h.1, LiveS.turned hS hb hX h.2.1 h.2.2⟩
theorem So.inv.len_ok (hi : s.inv m n st0 rcs) : s.log.len ≤ 4611686018427387904 := by
  have := hi.log.len_le
  have := hi.small
  omega
theorem promise_S (h : LiveS W w b s X) (hh : HalfAt W) (hi : s.inv m n st0 rcs) (k : Int) :
    Calls Tryz.prog 62 #[.pointer (some ⟨b, 0, none⟩), .int .i64 k] w (LiveSDid W w b X (s.promise k)) := by
  obtain ⟨S, ⟨S1, S2, lb, db, mb, h⟩, hS, hb, hX⟩ := h
  exact (promiseS h (hh.below hb hh.lt) hi.len_ok k).mono fun e w' q => LiveSDid.of hS hb hX q
theorem accept_S (h : LiveS W w b s X) (hh : HalfAt W) (hi : s.inv m n st0 rcs) (hf : s.st.slots.length < 1048575) (slot k : Int) (B : Option Addr) (v : List UInt8) (cb : Nat) (hv : Arg W w B v) (hvl : v.length ≤ 70368744177664) :
    Calls Tryz.prog 10 #[.pointer (some ⟨b, 0, none⟩), .int .i64 slot, .int .i64 k, .slice B v.length cb] w (LiveSDid W w b X (s.accept slot k v)) := by
  obtain ⟨S, ⟨S1, S2, lb, db, mb, h⟩, hS, hb, hX⟩ := h
  exact (acceptS h (hh.below hb hh.lt) hi.len_ok hf slot k B v cb (hv S hS) hvl).mono fun e w' q => LiveSDid.of hS hb hX q
theorem forget_S (h : LiveS W w b s X) (hh : HalfAt W) (hi : s.inv m n st0 rcs) (k : Int) :
    Calls Tryz.prog 68 #[.pointer (some ⟨b, 0, none⟩), .int .i64 k] w (LiveSDid W w b X (s.forget k)) := by
  obtain ⟨S, ⟨S1, S2, lb, db, mb, h⟩, hS, hb, hX⟩ := h
  exact (forgetS h (hh.below hb hh.lt) hi.len_ok k).mono fun e w' q => LiveSDid.of hS hb hX q
theorem sync_S (h : LiveS W w b s X) :
    Calls Tryz.prog 65 #[.pointer (some ⟨b, 0, none⟩)] w (LiveSDid W w b X s.sync) := by
  obtain ⟨S, ⟨S1, S2, lb, db, mb, h⟩, hS, hb, hX⟩ := h
  exact (syncS h).mono fun e w' q => LiveSDid.of hS hb hX q
theorem crash_S (h : LiveS W w b s X) (keep flip : Int) (hk : i64 keep) (hf : i64 flip) :
    Calls Tryz.prog 70 #[.pointer (some ⟨b, 0, none⟩), .int .i64 keep, .int .i64 flip] w (LiveSDid W w b X (s.crash keep flip)) := by
  obtain ⟨S, ⟨S1, S2, lb, db, mb, h⟩, hS, hb, hX⟩ := h
  unfold i64 at hk hf
  exact (crashS h keep flip hk.2 hf.2 hk.1 hf.1).mono fun e w' q => LiveSDid.of hS hb hX q
theorem snapshot_S (h : LiveS W w b s X) (hh : HalfAt W) :
    Calls Tryz.prog 11 #[.pointer (some ⟨b, 0, none⟩)] w (LiveSDid W w b X s.snapshot) := by
  obtain ⟨S, ⟨S1, S2, lb, db, mb, h⟩, hS, hb, hX⟩ := h
  exact (snapshotS h (hh.below hb hh.lt) (fun hx => by have := hS _ hx; have := hh.lt; omega)).mono fun e w' q => LiveSDid.of hS hb hX q
theorem restartUp_S (h : LiveS W w b s X) (hh : HalfAt W) (hu : s.log.down = false) :
    Calls Tryz.prog 72 #[.pointer (some ⟨b, 0, none⟩)] w (LiveSDid W w b X (s, 9)) := by
  obtain ⟨S, ⟨S1, S2, lb, db, mb, h⟩, hS, hb, hX⟩ := h
  exact (restartUp h (hh.below hb hh.lt) (fun hx => by have := hS _ hx; have := hh.lt; omega) hu).mono fun e w' q => LiveSDid.of hS hb hX q
/-- WHAT Restart leaves of a store that is down -/
def RoseDid (W w : World) (b : Nat) (X : Nat → Prop) (m n : Nat) (s : So) (st0 : St) (rcs : List Rc) (e : Ending) (w' : World) : Prop :=
  ∃ (j : Nat) (s' : So), e = .returned (.int .i64 0) ∧ LiveS W w' b s' X ∧ XK X w w' ∧ BK w w' ∧ Rose m n s st0 rcs j s'
theorem restart_S (h : LiveS W w b s X) (hh : HalfAt W) (hi : s.inv m n st0 rcs) (hd : s.log.down = true) :
    Calls Tryz.prog 72 #[.pointer (some ⟨b, 0, none⟩)] w (RoseDid W w b X m n s st0 rcs) := by
  obtain ⟨S, ⟨S1, S2, lb, db, mb, h⟩, hS, hb, hX⟩ := h
  obtain ⟨j, hrec, hr⟩ := hi.restart hd
  have hfew := hi.few
  have hsm := hi.small
  refine (restartSo h (hh.below hb hh.lt) (fun hx => by have := hS _ hx; have := hh.lt; omega) hd hi.ok0.ok hi.snap' hrec (fun r hr => (hi.rok r (List.mem_of_mem_take hr)).1) (by rw [List.length_take]; omega)).mono fun e w' q => ?_
  obtain ⟨q1, q2, q3, q4⟩ := LiveSDid.of hS hb hX q
  exact ⟨j, _, q1, q2, q3, q4, hr⟩
theorem down_S (h : LiveS W w b s X) : Calls Tryz.prog 13 #[.pointer (some ⟨b, 0, none⟩)] w fun e w' => e = .returned (.bool s.log.down) ∧ w = w' := by
  obtain ⟨S, ⟨S1, S2, lb, db, mb, h⟩, hS, hb, hX⟩ := h
  exact downS h
theorem base_S (h : LiveS W w b s X) (hu : s.log.down = false) : Calls Tryz.prog 16 #[.pointer (some ⟨b, 0, none⟩)] w fun e w' => e = .returned (.int .i64 (s.st.base : Int)) ∧ w = w' := by
  obtain ⟨S, ⟨S1, S2, lb, db, mb, h⟩, hS, hb, hX⟩ := h
  have := baseS h
  rw [hu] at this
  exact this
theorem promised_S (h : LiveS W w b s X) (hu : s.log.down = false) : Calls Tryz.prog 14 #[.pointer (some ⟨b, 0, none⟩)] w fun e w' => e = .returned (.int .i64 (s.st.promised : Int)) ∧ w = w' := by
  obtain ⟨S, ⟨S1, S2, lb, db, mb, h⟩, hS, hb, hX⟩ := h
  have := promisedS h
  rw [hu] at this
  exact this
theorem slots_S (h : LiveS W w b s X) (hu : s.log.down = false) : Calls Tryz.prog 15 #[.pointer (some ⟨b, 0, none⟩)] w fun e w' => e = .returned (.int .i64 (So.top s.st.slots : Int)) ∧ Below w.heap.size w w' := by
  obtain ⟨S, ⟨S1, S2, lb, db, mb, h⟩, hS, hb, hX⟩ := h
  have := slotsS h
  rw [hu] at this
  exact this
theorem get_S (h : LiveS W w b s X) (hu : s.log.down = false) (k : Nat) (hk : k ≤ 4611686018427387904) : Calls Tryz.prog 77 #[.pointer (some ⟨b, 0, none⟩), .int .i64 (k : Int)] w (GetDid w (getN k s.st.slots)) := by
  obtain ⟨S, ⟨S1, S2, lb, db, mb, h⟩, hS, hb, hX⟩ := h
  have := getS h k hk
  rw [hu] at this
  exact this
theorem log_S (h : LiveS W w b s X) : Calls Tryz.prog 21 #[.pointer (some ⟨b, 0, none⟩)] w (CopyDid w s.log) := by
  obtain ⟨S, ⟨S1, S2, lb, db, mb, h⟩, hS, hb, hX⟩ := h
  exact logS h
theorem new_S (hb : Below W.heap.size W w) (per : Int) (h1 : 1 ≤ per) (h2 : per ≤ 1024) : Calls Tryz.prog 7 #[.int .i64 per] w fun e w' => ∃ b, e = .returned (.tuple #[.pointer (some ⟨b, 0, none⟩), .int .i64 0]) ∧ LiveS W w' b (So.new per.toNat) (fun x => x < w.heap.size) ∧ Below w.heap.size w w' := by
  refine (newS w per).mono ?_
  rintro e w' h
  rw [if_pos ⟨h1, h2⟩] at h
  obtain ⟨p, rfl, ⟨b, rfl, hl⟩, hb'⟩ := h
  exact ⟨b, rfl, ⟨_, hl, fun x hx => Nat.le_trans hb.size hx.1, hb.trans (hb'.mono hb.size), fun x hx => ⟨fun hs => by have := hs.1; omega, Nat.lt_of_lt_of_le hx hb'.size⟩⟩, hb'⟩
end
end Go.Proofs.YtediidajdpdeiaaGreatDoor

/- Lists of what a store's slots have, in memory (layer 8). -/
namespace Go.Proofs.YtediidajdpdeiaaGreatDoor
open Go.RowKit CrcM
set_option maxRecDepth 100000

abbrev TH8 : TypeId := 125
def Yes : Nat → Prop := fun _ => True

/-- the cells of what slots have -/
structure HeldRw [Hole] (w : World) (xs : List Value) (H : Slots) : Prop where
  len : xs.length = H.length * 3
  each : ∀ i p, H[i]? = some p → ∃ B cb, xs[i * 3]? = some (.int .i64 (p.1 : Int)) ∧ xs[i * 3 + 1]? = some (.int .i64 (p.2.ballot : Int)) ∧ xs[i * 3 + 2]? = some (.slice B p.2.value.length cb) ∧ p.2.value.length ≤ cb ∧ cb ≤ maxLen ∧ Own Any w B p.2.value
section
variable [Hole] {w w' : World} {xs : List Value} {H : Slots}
theorem HeldRw.nil (w : World) : HeldRw w [] [] := ⟨rfl, fun i p h => by simp at h⟩
theorem HeldRw.bk (h : HeldRw w xs H) (k : BK w w') : HeldRw w' xs H :=
  ⟨h.len, fun i p hp => by
    obtain ⟨B, cb, h1, h2, h3, h4, h5, h6⟩ := h.each i p hp
    exact ⟨B, cb, h1, h2, h3, h4, h5, h6.bk k⟩⟩
theorem HeldRw.snoc (h : HeldRw w xs H) {k : Nat} {x : Hd} {B : Option Addr} {cb : Nat} (h4 : x.value.length ≤ cb) (h5 : cb ≤ maxLen) (h6 : Own Any w B x.value) :
    HeldRw w (xs ++ [.int .i64 (k : Int), .int .i64 (x.ballot : Int), .slice B x.value.length cb]) (H ++ [(k, x)]) := by
  have hl := h.len
  refine ⟨by simp only [List.length_append, List.length_cons, List.length_nil]; omega, fun i p hp => ?_⟩
  rcases Nat.lt_or_ge i H.length with hi | hi
  · rw [List.getElem?_append_left hi] at hp
    obtain ⟨B', cb', q1, q2, q3, q4⟩ := h.each i p hp
    exact ⟨B', cb', by rw [List.getElem?_append_left (by omega)]; exact q1, by rw [List.getElem?_append_left (by omega)]; exact q2, by rw [List.getElem?_append_left (by omega)]; exact q3, q4⟩
  · rw [List.getElem?_append_right hi] at hp
    have hi2 : i = H.length := by
      have := (List.getElem?_eq_some_iff.1 hp).1
      simp only [List.length_singleton] at this
      omega
    subst hi2
    rw [Nat.sub_self] at hp
    injection hp with hp
    subst hp
    refine ⟨B, cb, ?_, ?_, ?_, h4, h5, h6⟩
    · rw [List.getElem?_append_right (by omega), hl, Nat.sub_self]; rfl
    · rw [List.getElem?_append_right (by omega), hl, show H.length * 3 + 1 - H.length * 3 = 1 by omega]; rfl
    · rw [List.getElem?_append_right (by omega), hl, show H.length * 3 + 2 - H.length * 3 = 2 by omega]; rfl
end

/-- a list of what slots have, in X -/
def HeldS [Hole] (X : Nat → Prop) (w : World) (A : Option Addr) (c : Nat) (H : Slots) : Prop := H.length ≤ c ∧ c ≤ maxLen ∧ ∃ xs, HeldRw w xs H ∧ ((A = none ∧ H = []) ∨ ∃ g o cur, A = some ⟨g, o, none⟩ ∧ X g ∧ w.heap[g]? = some (.cells cur TH8 (0, 0)) ∧ ∀ j u, xs[j]? = some u → cur[o + j]? = some u)
section
variable [Hole] {X X' : Nat → Prop} {w w' : World} {A : Option Addr} {c : Nat} {H : Slots}
theorem HeldS.xk (h : HeldS X w A c H) (k : XK X w w') (kb : BK w w') : HeldS X w' A c H := by
  obtain ⟨h1, h2, xs, h3, h4⟩ := h
  refine ⟨h1, h2, xs, h3.bk kb, h4.imp_right ?_⟩
  rintro ⟨g, o, cur, e, hg, hc, hj⟩
  exact ⟨g, o, cur, e, hg, (k g hg).trans hc, hj⟩
theorem HeldS.below (h : HeldS X w A c H) (hb : Below w.heap.size w w') : HeldS X w' A c H := by
  obtain ⟨h1, h2, xs, h3, h4⟩ := h
  refine ⟨h1, h2, xs, h3.bk (BK.below hb), h4.imp_right ?_⟩
  rintro ⟨g, o, cur, e, hg, hc, hj⟩
  exact ⟨g, o, cur, e, hg, (hb.block g (Array.getElem?_eq_some_iff.1 hc).1).trans hc, hj⟩
theorem HeldS.mono (h : HeldS X w A c H) (hs : ∀ x, X x → X' x) : HeldS X' w A c H := by
  obtain ⟨h1, h2, xs, h3, h4⟩ := h
  refine ⟨h1, h2, xs, h3, h4.imp_right ?_⟩
  rintro ⟨g, o, cur, e, hg, hc, hj⟩
  exact ⟨g, o, cur, e, hs g hg, hc, hj⟩
theorem HeldS.len (h : HeldS X w A c H) : H.length ≤ 9223372036854775807 := by
  have h1 := h.1
  have h2 := h.2.1
  unfold maxLen at h2
  omega
/-- one of them -/
theorem HeldS.at_ (h : HeldS X w A c H) {i : Nat} {p : Nat × Hd} (hi : H[i]? = some p) : ∃ g o B cb, A = some ⟨g, o, none⟩ ∧ g < w.heap.size ∧ w.cell? ⟨g, o + i * 3, none⟩ = some (.int .i64 (p.1 : Int)) ∧ w.cell? ⟨g, o + i * 3 + 1, none⟩ = some (.int .i64 (p.2.ballot : Int)) ∧
    w.cell? ⟨g, o + i * 3 + 2, none⟩ = some (.slice B p.2.value.length cb) ∧ p.2.value.length ≤ cb ∧ cb ≤ maxLen ∧ Own Any w B p.2.value := by
  obtain ⟨h1, h2, xs, h3, h4⟩ := h
  obtain ⟨B, cb, q1, q2, q3, q4, q5, q6⟩ := h3.each i p hi
  rcases h4 with ⟨_, rfl⟩ | ⟨g, o, cur, rfl, hg, hc, hj⟩
  · simp at hi
  · have key : ∀ j u, xs[j]? = some u → w.cell? ⟨g, o + j, none⟩ = some u := fun j u hu => by
      simp only [World.cell?, hc]
      have := hj j u hu
      simpa using this
    exact ⟨g, o, B, cb, rfl, (Array.getElem?_eq_some_iff.1 hc).1, key _ _ q1, by have := key _ _ q2; rwa [← Nat.add_assoc] at this, by have := key _ _ q3; rwa [← Nat.add_assoc] at this, q4, q5, q6⟩
omit [Hole] in
/-- the string of a value -/
theorem HeldS.str {S : Nat → Prop} {B : Option Addr} {v : List UInt8} (h : Own S w B v) (cb : Nat) : (convert 30 9 (.slice B v.length cb)).run Tryz.prog w = .ok (.string ⟨v.toArray⟩) w := run_str (h.rd Non) cb
end
/-- a row of one's own is such a list -/
theorem HeldS.of_own [Hole] {base n : Nat} {w : World} {v : Value} {xs : List Value} {H : Slots} (h : w.ownsRow base TH8 3 v n xs) (hv : HeldRw w xs H) : ∃ A c, v = .slice A H.length c ∧ HeldS (fun x => base ≤ x) w A c H := by
  have hl : xs.length = n * 3 := h.1
  have hn : n = H.length := by have := hv.len; omega
  subst hn
  rcases h.2 with ⟨rfl, h0⟩ | ⟨g, cap, cur, rfl, hb, hg, hnc, hm, hs, ht⟩
  · have : H = [] := List.eq_nil_of_length_eq_zero h0
    subst this
    exact ⟨none, 0, rfl, Nat.le_refl _, Nat.zero_le _, xs, hv, .inl ⟨rfl, rfl⟩⟩
  · refine ⟨_, cap, rfl, hnc, hm, xs, hv, .inr ⟨g, 0, cur, rfl, hb, hg, fun j u hu => ?_⟩⟩
    have hlt := (List.getElem?_eq_some_iff.1 hu).1
    rw [← ht, List.getElem?_take_of_lt (by omega)] at hu
    simpa using hu

/-- what an append onto a row of one's own leaves, elements of three cells -/
theorem wpList_app3 {P : Program} {w : World} {ops : Array Oper} {rest : List Oper} {o : Oper} {a : Act} {Q : Exit → Act → World → Prop} (hgd : o.guard = none) (s x : Operand) (t : TypeId)
    (ho : o.op = .call { callee := .builtin .append, args := #[s, x], argTypes := #[t, t] })
    (e : TypeId) (i : TypeInfo) (z : Value) (bytes : Nat) (ht : P.underlying t = some (.slice e)) (hi : P.info? e = some i) (hz : i.zero = some z) (hsize : i.size = 3) (hby : i.bytes = bytes) (hzs : z.cells.size = 3)
    (base : Nat) (v : Value) (n : Nat) (xs : List Value) (hs : a.eval s = v) (hown : w.ownsRow base e 3 v n xs)
    (A : Option Addr) (m c : Nat) (news : List Value) (hx : a.eval x = .slice A m c) (hl : news.length = m * 3) (hr : ∀ j u, news[j]? = some u → ∃ ad, A = some ad ∧ w.cell? (ad.add j) = some u) (h1 : ∀ u ∈ news, u.oneCell' = true)
    (h63 : n + m ≤ maxLen) (hbytes : (n + m) * bytes ≤ 140737488355328) (hbase : base ≤ w.heap.size)
    (h : ∀ v' w', w'.ownsRow base e 3 v' (n + m) (xs ++ news) → w.grownBy w' v.ownBlock → (v'.ownBlock = v.ownBlock ∨ v'.ownBlock = some w.heap.size) → wpList P ops Q rest (a.put o.dst v') w') :
    wpList P ops Q (o :: rest) a w := by
  obtain ⟨v', w', hrun, h2, h3, h5⟩ := run_append_rd (P := P) (w := w) base t o.type e i z 3 bytes ht hi hz hsize hby hzs (by omega) v n xs hown A m c news hl hr h1 h63 hbytes hbase
  exact wpList_ran hgd (run_builtin2 .append s x t t Builtin.append_ ho hs hx (fun _ _ => rfl) hrun) (h v' w' h2 h3 h5)
end Go.Proofs.YtediidajdpdeiaaGreatDoor

/- The laws' own helper 'has' (layer 8): the walk. -/
namespace Go.Proofs.YtediidajdpdeiaaGreatDoor
open Go.RowKit CrcM
set_option maxRecDepth 100000

theorem info_h8 : (Tryz.prog.info? TH8).map (fun i => (i.zero, i.size, i.bytes)) = some (some (.agg #[.int .i64 0, .int .i64 0, .slice none 0 0]), 3, 40) := by kernel_rfl
theorem BK.grownI {w w' : World} {row : Option Nat} (hg : w.grownBy w' row) (hr : ∀ j, row = some j → ¬ IsB w j) : BK w w' := fun b hb => hg.block b hb.lt fun e => hr b e.symm hb
theorem three_new (w : World) (a b c : Value) (t : TypeId) : ∀ j x, ([a, b, c] : List Value)[j]? = some x → ∃ ad, (some ⟨w.heap.size, 0, none⟩ : Option Addr) = some ad ∧ (w.alloc (.cells #[a, b, c] t)).cell? (ad.add j) = some x := by
  intro j x hx
  have hB := Blk.new w t #[a, b, c]
  refine ⟨_, rfl, ?_⟩
  rw [add_mk, Nat.zero_add]
  match j, hx with
  | 0, hx => exact hB.cell 0 (by simpa using hx)
  | 1, hx => exact hB.cell 1 (by simpa using hx)
  | 2, hx => exact hB.cell 2 (by simpa using hx)
  | j + 3, hx => simp at hx

/-- WHAT has leaves -/
def HasDid (W w : World) (b : Nat) (s : So) (X : Nat → Prop) (e : Ending) (w' : World) : Prop := ∃ A c, e = .returned (.slice A s.st.slots.length c) ∧ HeldS (Up X w w') w' A c s.st.slots ∧ LiveS W w' b s (Up X w w') ∧ Below w.heap.size w w'

set_option maxHeartbeats 1000000 in
theorem has_S {W w : World} {b : Nat} {s : So} {X : Nat → Prop} {m : Nat} (h : LiveS W w b s X) (hl : s.st.lim m) (hm : m ≤ 5000) (hfew : s.st.slots.length ≤ 1048575) (hu : s.log.down = false) :
    Calls Tryz.prog 20 #[.pointer (some ⟨b, 0, none⟩)] w (HasDid W w b s X) := by
  obtain ⟨i3, hi3, hz3, hs3, hb3⟩ := info_parts info_h8
  have htop := (top_facts s.st.slots).1
  have htop2 := (top_facts s.st.slots).2 m (fun p hp => (hl.slots p hp).1)
  have hrise := hl.ok.rise
  have hval : ∀ p ∈ s.st.slots, p.2.ballot ≤ 1099511627776 := fun p hp => (hl.ok.all p hp).2.1
  have hS0 := fun (w' : World) (hL : LiveS W w' b s X) => slots_S hL hu
  obtain ⟨n, hn⟩ : ∃ n, n = So.top s.st.slots := ⟨_, rfl⟩
  rw [← hn] at htop htop2 hS0
  have HT := Lib.hid htop
  have HV := Lib.hid hval
  have n5 : n ≤ 5000 := by omega
  clear htop htop2 hn hl hval
  go_enter Tryz.func20, Tryz.ntmps20
  go_wp2
  go_loopw [3, 4] (fun v i wr => ∃ (k : Nat) (xs : List Value) (H : Slots), k ≤ n ∧ i = .int .i64 (k : Int) ∧ Hid (H = s.st.slots.filter (fun p => decide (p.1 < k))) ∧ wr.ownsRow w.heap.size TH8 3 v H.length xs ∧ HeldRw wr xs H ∧ H.length ≤ 1048575 ∧ Below w.heap.size w wr) (fun _ i _ => n - (intOf i).toNat)
  case atStart => exact ⟨0, [], [], Nat.zero_le _, rfl, Lib.hid (Rise.filter_none (fun p _ => Nat.zero_le _)).symm, ⟨rfl, .inl ⟨rfl, rfl⟩⟩, HeldRw.nil _, Nat.zero_le _, Below.refl _ _⟩
  case round =>
    obtain ⟨k, xs, H, hk, rfl, hH, hrow, hv, hHl, hb9⟩ := hrel
    have hL := h.mono' hb9
    have hS := hS0 _ hL
    clear hS0
    by_cases hlt : k < n
    · have hlt' : (k : Int) < (n : Int) := by omega
      have h5 : (k : Int) < 5000 := by omega
      have hstep := Rise.filter_succ hrise k
      cases hg : getN k s.st.slots with
      | none =>
        rw [hg] at hstep
        simp only [List.append_nil] at hstep
        have HS := Lib.hid hstep
        have HG := Lib.hid hg
        clear hstep hg
        go_wp2_with (first
          | (go_at_call 15; refine hS.mono ?_; rintro e w1 ⟨rfl, hb1⟩; have hG := get_S (hL.mono' hb1) hu k (by omega); rw [HG.out] at hG; unfold GetDid at hG; simp only [Option.getD_none, Option.isSome_none, List.length_nil] at hG; clear hS)
          | (go_at_call 77; refine hG.mono ?_; rintro e w2 ⟨A2, c2, rfl, ho2, hc2, hm2, hb2⟩; clear hG))
        go_roundw
        case rel => exact ⟨k + 1, xs, H, by omega, by go_num, Lib.hid (by rw [HS.out]; exact hH.out), ownsRow_below (ownsRow_below hrow (hb1.mono (Nat.le_refl _))) hb2, (hv.bk (BK.below hb1)).bk (BK.below hb2), hHl, (hb9.trans (hb1.mono hb9.size)).trans (hb2.mono (Nat.le_trans hb9.size hb1.size))⟩
        case measure => simp [intOf]; omega
      | some x =>
        rw [hg] at hstep
        simp only at hstep
        have hlen : H.length + 1 ≤ 1048575 := by
          have h1 := List.length_filter_le (fun p : Nat × Hd => decide (p.1 < k + 1)) s.st.slots
          rw [hstep, ← hH.out, List.length_append, List.length_singleton] at h1
          omega
        have hxb := HV.out _ (getN_some hg)
        obtain ⟨A0, c0, rfl, hc0, hm0⟩ := own_val hrow
        have HS := Lib.hid hstep
        have HG := Lib.hid hg
        have HX := Lib.hid hxb
        have HL := Lib.hid hlen
        clear hstep hg hlen hxb
        obtain ⟨bl, vl⟩ := x
        go_wp2_with (first
          | (go_at_call 15; refine hS.mono ?_; rintro e w1 ⟨rfl, hb1⟩; have hG := get_S (hL.mono' hb1) hu k (by omega); rw [HG.out] at hG; unfold GetDid at hG; simp only [Option.getD_some, Option.isSome_some] at hG; clear hS)
          | (go_at_call 77; refine hG.mono ?_; rintro e w2 ⟨A2, c2, rfl, ho2, hc2, hm2, hb2⟩; have hb12 : Below w.heap.size w w2 := (hb9.trans (hb1.mono hb9.size)).trans (hb2.mono (Nat.le_trans hb9.size hb1.size)); have hrow2 := ownsRow_below (ownsRow_below hrow hb1) hb2; have hv2 := (hv.bk (BK.below hb1)).bk (BK.below hb2); clear hG hb2 hb1)
          | (at_builtin
             refine wpList_app3 rfl (.tmp 26) (.tmp 31) 42 rfl TH8 i3 _ 40 Tryz.underlying42 hi3 hz3 hs3 hb3 rfl w.heap.size (.slice A0 H.length c0) H.length xs rfl (ownsRow_below hrow2 (below_new _ _)) (some ⟨w2.heap.size, 0, none⟩) 1 1 [.int .i64 (k : Int), .int .i64 (bl : Int), .slice A2 vl.length c2] rfl rfl (three_new w2 _ _ _ _) (by intro u hu; simp only [List.mem_cons, List.not_mem_nil, or_false] at hu; rcases hu with rfl | rfl | rfl <;> rfl) (by have := HL.out; unfold maxLen; omega) (by have := HL.out; omega) (Nat.le_trans hb12.size (below_new w2 _).size) ?_
             intro v5 w5 hrow5 hg5 ha5
             obtain ⟨A5, c5, rfl, hc5, hm5⟩ := own_val hrow5
             have hv5 := (((hv2.bk (BK.below (below_new w2 (.cells #[.int .i64 (k : Int), .int .i64 (bl : Int), .slice A2 vl.length c2] TH8)))).bk (BK.grownI hg5 (row_notB (ownsRow_below hrow2 (below_new _ _)) (by decide)))).snoc (k := k) (x := ⟨bl, vl⟩) hc2 hm2 ((((ho2.mono (S' := Yes) (fun _ _ => trivial)).bk (BK.below (below_new w2 (.cells #[.int .i64 (k : Int), .int .i64 (bl : Int), .slice A2 vl.length c2] TH8)))).bk (BK.grownI hg5 (row_notB (ownsRow_below hrow2 (below_new _ _)) (by decide))))))
             have hb5 : Below w.heap.size w w5 := (hb12.alloc hb12.size (.cells #[.int .i64 (k : Int), .int .i64 (bl : Int), .slice A2 vl.length c2] TH8)).grown hg5 (by have := hb12.size; simp; omega) (fun j hj => (hrow2.lt j hj).1)
             clear ha5 hg5))
        go_roundw
        case rel => exact ⟨k + 1, _, H ++ [(k, ⟨bl, vl⟩)], by omega, by go_num, Lib.hid (by rw [HS.out, ← hH.out]), by rw [List.length_append]; exact hrow5, hv5, by rw [List.length_append]; exact HL.out, hb5⟩
        case measure => simp [intOf]; omega
    · obtain rfl : k = n := by omega
      have hall : H = s.st.slots := by
        rw [hH.out, List.filter_eq_self]
        intro p hp
        exact decide_eq_true (HT.out p hp)
      subst hall
      obtain ⟨A9, c9, rfl, hh9⟩ := HeldS.of_own hrow hv
      clear hH hrow hv
      go_wp2_with (first
        | (go_at_call 15; refine hS.mono ?_; rintro e w1 ⟨rfl, hb1⟩; clear hS))
      go_ret
      have hbb := hb9.trans (hb1.mono hb9.size)
      have h9 := hh9.below hb1
      refine ⟨A9, c9, rfl, ?_, h.mono hbb, hbb⟩
      obtain ⟨q1, q2, ys, q3, q4⟩ := h9
      refine ⟨q1, q2, ys, q3, q4.imp_right ?_⟩
      rintro ⟨g, o, cur, e, hg, hc, hj⟩
      exact ⟨g, o, cur, e, .inr ⟨hg, (Array.getElem?_eq_some_iff.1 hc).1⟩, hc, hj⟩
end Go.Proofs.YtediidajdpdeiaaGreatDoor
