/- A store's keys, sorted (layer 8). -/
import Derived.Test.YtediidajdpdeiaaGreatDoorJ13
import Derived.Test.YtediidajdpdeiaaGreatDoorJ11

namespace Go.Proofs.YtediidajdpdeiaaGreatDoor
open Go.RowKit CrcM Go.Sort Go.Shelf
set_option maxRecDepth 100000

theorem sortedI_of_perm {l l' : List Int} (h : l.Perm l') (hs : l'.Pairwise (fun x y => x < y)) : l.mergeSort (fun x y => decide (x ≤ y)) = l' := by
  have h1 : (l.mergeSort (fun x y => decide (x ≤ y))).Pairwise (fun x y : Int => (decide (x ≤ y)) = true) := List.pairwise_mergeSort (fun a b c h1 h2 => by simp only [decide_eq_true_eq] at *; omega) (fun a b => by simp only [Bool.or_eq_true, decide_eq_true_eq]; omega) l
  have h2 : (l.mergeSort (fun x y => decide (x ≤ y))).Perm l' := (List.mergeSort_perm l _).trans h
  exact h2.eq_of_pairwise (le := fun x y : Int => decide (x ≤ y) = true) (fun a b _ _ h1 h2 => by simp only [decide_eq_true_eq] at *; omega) h1 (hs.imp (fun h => by simp only [decide_eq_true_eq]; omega))
theorem intKeys_mapD (E : List (Nat × Value)) : intKeys (mapD E) = E.map (fun p => (p.1 : Int)) := by
  unfold mapD
  show (E.map fun p => (litN p.1, DataW.held (H := Value) p.2)).map (fun p => Go.intOf p.1) = _
  rw [List.map_map]
  rfl
/-- the keys, in a row of their own -/
def KeysDid (w : World) (M : Slots) (e : Ending) (w' : World) : Prop :=
  ∃ A c, e = .returned (.slice A M.length c) ∧ (∀ (j : Nat) (p : Nat × Hd), M[j]? = some p → ∃ g o, A = some ⟨g, o, none⟩ ∧ w'.cell? ⟨g, o + j, none⟩ = some (.int .i64 (p.1 : Int))) ∧ Below w.heap.size w w'
theorem sortedS {w : World} {mb bx : Nat} {M : Slots} (h : SlotsAt w mb M) (hr : Rise M) (hbx : w.cell? ⟨bx, 0, none⟩ = some (.map (some mb))) (hl : M.length ≤ 1048576) :
    Calls Tryz.prog 58 #[.func (.func 112) #[] #[.pointer (some ⟨bx, 0, none⟩)]] w (KeysDid w M) := by
  obtain ⟨Z, h1, rfl, h3, h4⟩ := h
  have hz : (slotsOf Z).length = Z.length := by unfold slotsOf; rw [List.length_map]
  have hv : (valsOf Z).length = Z.length := by unfold valsOf; rw [List.length_map]
  refine (Tryz.sortedB mb Z.length bx _ _ w hbx h1 (by rw [mapD_size, hv]; unfold maxLen; omega) (by rw [mapD_size, hv]; omega)).mono ?_
  rintro e w' ⟨v, ss, rfl, hp, hrow, hn, hb⟩
  have hk : intKeys (mapD (valsOf Z)) = (slotsOf Z).map (fun p => (p.1 : Int)) := by
    rw [intKeys_mapD]
    unfold valsOf slotsOf
    rw [List.map_map, List.map_map]
    rfl
  rw [hk] at hp
  have hlen := hp.length_eq
  rw [List.length_map] at hlen
  have hs := sortedI_of_perm hp (by
    rw [List.pairwise_map]
    exact hr.imp (fun h => by omega))
  rw [hs] at hrow
  rcases hrow.2 with ⟨rfl, hz'⟩ | ⟨gb, cap, cur, rfl, hbase, hgb, r1, r2, r3, r4⟩
  · rw [hlen] at hz'
    refine ⟨none, 0, by rw [hz'], fun j p hj => ?_, hb⟩
    rw [List.eq_nil_of_length_eq_zero hz'] at hj
    simp at hj
  · refine ⟨some ⟨gb, 0, none⟩, cap, by rw [hlen], fun j p hj => ⟨gb, 0, rfl, ?_⟩, hb⟩
    have hjl := (List.getElem?_eq_some_iff.1 hj).1
    have h5 : cur.toList[j]? = some (.int .i64 (p.1 : Int)) := by
      have := congrArg (fun l => l[j]?) r4
      simp only [Nat.mul_one, List.getElem?_map, hj, Option.map_some] at this
      rw [List.getElem?_take, if_pos (by omega)] at this
      exact this
    have h6 : cur[j]? = some (.int .i64 (p.1 : Int)) := by rw [← Array.getElem?_toList]; exact h5
    rw [Nat.zero_add]
    simp [World.cell?, hgb, h6]
end Go.Proofs.YtediidajdpdeiaaGreatDoor

/- A store's Snapshot (layer 8): the walk. -/
namespace Go.Proofs.YtediidajdpdeiaaGreatDoor
open Go.RowKit CrcM
set_option maxRecDepth 100000

theorem flat_len : ∀ {M : Slots}, (∀ p ∈ M, p.1 ≤ 1099511627776 ∧ p.2.ballot ≤ 1099511627776 ∧ p.2.value.length ≤ 32768) → (M.map slotB).flatten.length ≤ M.length * 32798
  | [], _ => by simp
  | p :: t, h => by
    have ih := flat_len (M := t) (fun q hq => h q (List.mem_cons_of_mem _ hq))
    obtain ⟨h1, h2, h3⟩ := h p (List.mem_cons_self ..)
    have n1 := numB_10 (n := p.1) (by omega)
    have n2 := numB_10 (n := p.2.ballot) (by omega)
    have n3 := numB_10 (n := p.2.value.length) (by omega)
    rw [List.map_cons, List.flatten_cons, List.length_append, List.length_cons]
    have : (slotB p).length ≤ 32798 := by
      unfold slotB
      simp only [List.length_append]
      omega
    omega
section
variable {S S1 S2 : Nat → Prop} {w : World} {b lb db mb : Nat} {s : So}
set_option maxHeartbeats 4000000 in
theorem snapshotS (h : SoO S S1 S2 w b lb db mb s) (hh : HalfAt w) (hSh : ¬ S 0) :
    Calls Tryz.prog 11 #[.pointer (some ⟨b, 0, none⟩)] w (SoDid S w (.pointer (some ⟨b, 0, none⟩)) s.snapshot) := by
  obtain ⟨iu, hiu, hzu, hsu, hbu⟩ := info_parts info_u8
  have ha := askedS h none [] 0 (fun j n hj => by simp at hj) (by simp)
  cases hdn : s.log.down
  case true =>
    rw [show askC s [] = 10 from by unfold askC; rw [hdn]; rfl] at ha
    have HE := Lib.hid (show s.snapshot = (s, 10) from by unfold So.snapshot; rw [hdn]; rfl)
    clear hdn
    go_enter Tryz.func11, Tryz.ntmps11
    go_wp2_with (go_at_call 53; refine ha.mono ?_; rintro e w' ⟨rfl, rfl⟩)
    go_ret
    rw [HE.out]
    exact ⟨rfl, h.same, Fr.refl _ _⟩
  rw [show askC s [] = 0 from by unfold askC; rw [hdn]; rfl] at ha
  obtain ⟨hu, H, A0, c0, ps, hl⟩ := id h.log
  have hs := syncL hl hu
  obtain ⟨g0, g1, g2, g3, g4, g5, -, -, -⟩ := h.facts
  have hok := h.ok
  have hpr := hok.pr
  have hba := hok.ba
  have hfw := hok.few
  have HRI := Lib.hid hok.rise
  have HAL := Lib.hid hok.all
  have hper := h.per
  obtain ⟨l1, hl1⟩ : ∃ l, [] ++ numB s.st.promised = l := ⟨_, rfl⟩
  obtain ⟨l2, hl2⟩ : ∃ l, l1 ++ numB s.st.base = l := ⟨_, rfl⟩
  obtain ⟨l3, hl3⟩ : ∃ l, l2 ++ numB s.st.slots.length = l := ⟨_, rfl⟩
  have q1 : l1.length ≤ 10 := by have := numB_10 (n := s.st.promised) (by omega); rw [← hl1]; simpa using this
  have q2 : l2.length ≤ 20 := by have := numB_10 (n := s.st.base) (by omega); rw [← hl2, List.length_append]; omega
  have q3 : l3.length ≤ 30 := by have := numB_10 (n := s.st.slots.length) (by omega); rw [← hl3, List.length_append]; omega
  have hsb : snapB s.st = l3 ++ (s.st.slots.map slotB).flatten := by
    rw [← hl3, ← hl2, ← hl1]
    unfold snapB
    simp
  have he : s.snapshot = if 65536 < (snapB s.st).length then (⟨s.per, s.log.sync.1, s.snap, s.st⟩, 3) else (⟨s.per, Lg.new s.per, (s.snap.swap (frame (snapB s.st))).1, s.st⟩, 0) := by unfold So.snapshot; rw [hdn]; rfl
  have HSB := Lib.hid hsb
  have HE := Lib.hid he
  have H1 := Lib.hid hl1
  have H2 := Lib.hid hl2
  have H3 := Lib.hid hl3
  clear hdn hsb he hl1 hl2 hl3
  go_enter Tryz.func11, Tryz.ntmps11
  go_wp2_with (first
    | (go_at_call 53; refine ha.mono ?_; rintro e w' ⟨rfl, rfl⟩)
    | (go_at_call 57; refine hs.mono ?_; rintro e w2 ⟨rfl, hl2, hf2⟩; obtain ⟨h2, f2⟩ := h.turnLog hl2 hf2; obtain ⟨d0, d1, d2, d3, d4, d5, -, -, -⟩ := h2.facts; have hnum1 := Num_B w2 w2 (Below.refl _ _) none 0 [] (by intro j x hx; simp at hx) (by simp) s.st.promised (by omega); rw [H1.out] at hnum1)
    | (go_at_call 54; refine hnum1.mono ?_; rintro e w3 ⟨v3, rfl, ho3, hb3⟩; obtain ⟨A3, c3, rfl, hc3, hm3⟩ := own_val ho3; have hO3 := Own.of_row ho3 rfl; obtain ⟨x0, x1, x2, x3, x4, x5, -, -, -⟩ := (h2.below hb3).facts; have hnum2 := Num_B w2 w3 hb3 A3 c3 l1 ((hO3.mono (S' := Ever) (fun _ _ => trivial)).rd Non) (by omega) s.st.base (by omega); rw [H2.out] at hnum2; clear hnum1)
    | (go_at_call 54; refine hnum2.mono ?_; rintro e w4 ⟨v4, rfl, ho4, hb4⟩; obtain ⟨A4, c4, rfl, hc4, hm4⟩ := own_val ho4; have hO4 := Own.of_row ho4 rfl; obtain ⟨y0, y1, y2, y3, y4, y5, -, -, -⟩ := (h2.below hb4).facts; have hnum3 := Num_B w2 w4 hb4 A4 c4 l2 ((hO4.mono (S' := Ever) (fun _ _ => trivial)).rd Non) (by omega) s.st.slots.length (by omega); rw [H3.out] at hnum3; have hln := fun ty => (h2.below hb4).map.len ty; clear hnum2)
    | (go_at_call 54; refine hnum3.mono ?_; rintro e w5 ⟨v5, rfl, ho5, hb5⟩; obtain ⟨A5, c5, rfl, hc5, hm5⟩ := own_val ho5; obtain ⟨z0, z1, z2, z3, z4, z5, -, -, -⟩ := (h2.below hb5).facts; clear hnum3)
    | (go_at_call 59; refine (Tryz.keysB (some mb) w5).mono ?_; rintro e w6 ⟨rfl, rfl⟩; have hbK := hb5.alloc hb5.size (.cells #[.map (some mb)] TMp); have hsrt := sortedS (M := s.st.slots) (h2.below hbK).map HRI.out ((Blk.new w5 TMp #[.map (some mb)]).cell 0 rfl) (Nat.le_succ_of_le hfw))
    | (go_at_call 58; refine hsrt.mono ?_; rintro e w7 ⟨Ak, ck, rfl, hkey, hbS⟩))
  have hbl7 : Below w2.heap.size w2 w7 := hbK.trans (hbS.mono hbK.size)
  have hb57 : Below w5.heap.size w5 w7 := (below_new w5 (.cells #[.map (some mb)] TMp)).trans (hbS.mono (by simp))
  have ho7 := ownsRow_below ho5 hb57
  have hn7 : s.st.slots.length ≤ 1048575 := hfw
  clear d0 d1 d2 d3 d4 d5 x0 x1 x2 x3 x4 x5 y0 y1 y2 y3 y4 y5 z0 z1 z2 z3 z4 z5 g0 g1 g2 g3 g4 g5 hb3 hb4 hbK hbS hb57 ho3 ho4 ho5 hO3 hO4 hsrt hln hs ha hl hb5
  have HFL := Lib.hid (flat_len HAL.out)
  have hkl : ∀ k, k ≤ s.st.slots.length → (l3 ++ ((s.st.slots.take k).map slotB).flatten).length ≤ 30 + 1048575 * 32798 := by
    intro k hk
    have := flat_len (M := s.st.slots.take k) (fun q hq => HAL.out q (List.mem_of_mem_take hq))
    rw [List.length_take] at this
    rw [List.length_append]
    have h2 : min k s.st.slots.length * 32798 ≤ 1048575 * 32798 := Nat.mul_le_mul_right _ (by omega)
    omega
  go_loopw [4, 56] (fun v i wr => ∃ k : Nat, k ≤ s.st.slots.length ∧ i = .int .i64 (k : Int) ∧ wr.ownsRow w2.heap.size TB 1 v (l3 ++ ((s.st.slots.take k).map slotB).flatten).length ((l3 ++ ((s.st.slots.take k).map slotB).flatten).map byteV) ∧ Below w2.heap.size w2 wr ∧ Below w7.heap.size w7 wr) (fun _ i _ => s.st.slots.length - (intOf i).toNat)
  case atStart => exact ⟨0, Nat.zero_le _, rfl, by simpa using ho7, hbl7, Below.refl _ _⟩
  case round =>
    obtain ⟨k, hk, rfl, ho, hbw, hbk⟩ := hrel
    have hKL := Lib.hid (hkl k hk)
    clear ho7
    obtain ⟨acc, hacc⟩ : ∃ l, l3 ++ ((s.st.slots.take k).map slotB).flatten = l := ⟨_, rfl⟩
    rw [hacc] at ho hKL
    have hkl' := hKL.out
    have HA := Lib.hid hacc
    clear hacc hKL
    obtain ⟨A, c, rfl, hcA, hmA⟩ := own_val ho
    have hw2 := h2.below hbw
    obtain ⟨g0, g1, g2, g3, g4, g5, -, -, -⟩ := hw2.facts
    by_cases hlt : k < s.st.slots.length
    · obtain ⟨⟨key, ⟨bal, val⟩⟩, hp⟩ : ∃ p, s.st.slots[k]? = some p := ⟨_, List.getElem?_eq_getElem hlt⟩
      obtain ⟨b1, b2, b3⟩ := HAL.out _ (List.mem_of_getElem? hp)
      simp only at b1 b2 b3
      obtain ⟨gk, ok_, rfl, hck⟩ := hkey k _ hp
      simp only at hck
      replace hck := (hbk.cell (p := ⟨gk, ok_ + k, none⟩) (cell_lt hck)).trans hck
      have hget : getN key s.st.slots = some ⟨bal, val⟩ := HRI.out.get (List.mem_of_getElem? hp)
      obtain ⟨vl, hlook, hvl⟩ := (hw2.below (Below.refl _ wr).drew).map.has key (by omega) hget
      obtain ⟨Av, cv, rfl, hcv, hmv, hov⟩ := hvl
      simp only at hcv hov
      have hlt' : (k : Int) < (s.st.slots.length : Int) := by omega
      have HP := Lib.hid hp
      have HG := Lib.hid hget
      clear hp hget
      have hb1' := (Below.refl wr.heap.size wr).drew
      have hb2' := hb1'.alloc (Nat.le_refl _) (.cells #[.int .i64 (key : Int), .int .i64 (bal : Int), .int .i64 (val.length : Int)] TIn)
      go_wp2
      refine wp_region_T #[[], [], [], [], [], [], [4], [4, 6], [], [], [], [], [], [11], [11, 13], [11, 13], [4, 6, 11, 13], [4, 6, 11, 13], []] [4, 6, 11, 13] (fun w' => w'.cell? ⟨b, 5, none⟩ = some (.map (some mb)) ∧ (Instr.lookup TMp (.map (some mb)) (.int .i64 (key : Int)) false).run Tryz.prog w' = .ok (.agg #[.int .i64 (bal : Int), .slice Av val.length cv]) w') 19 rfl (by kernel_rfl) ?_
      (refine wpF (i := 0) rfl (by kernel_rfl) rfl (fun _ _ _ h => h) (fun _ => by go_simp; try rfl) ?_; (try simp only [Act.put, sA, sB, sC]))
      (refine wpF (i := 1) rfl (by kernel_rfl) rfl (fun _ _ _ h => h) (fun _ => by go_simp; try rfl) ?_; (try simp only [Act.put, sA, sB, sC]))
      (refine wpF (i := 2) rfl (by kernel_rfl) rfl (fun _ _ _ h => h) (fun _ => by go_simp; try rfl) ?_; (try simp only [Act.put, sA, sB, sC]))
      (refine wpF (i := 3) rfl (by kernel_rfl) rfl (fun _ _ _ h => h) (fun _ => by go_simp; try rfl) ?_; (try simp only [Act.put, sA, sB, sC]))
      (refine wpAnyT_read (i := 4) rfl (by kernel_rfl) rfl (fun _ _ _ h => h) (by kernel_rfl) (⟨g5, hlook⟩) (fun w hS_ => by obtain ⟨s_1, s_2⟩ := hS_; go_simp; try rfl) ?_; (try simp only [Act.put, sA, sB, sC]))
      (refine wpF (i := 5) rfl (by kernel_rfl) rfl (fun _ _ _ h => h) (fun _ => by go_simp; try rfl) ?_; (try simp only [Act.put, sA, sB, sC]))
      (refine wpAnyT_read (i := 6) rfl (by kernel_rfl) rfl (fun _ _ _ h => h) (by kernel_rfl) (⟨g5, hlook⟩) (fun w hS_ => by obtain ⟨s_1, s_2⟩ := hS_; go_simp; try rfl) ?_; (try simp only [Act.put, sA, sB, sC]))
      (refine wpF (i := 7) rfl (by kernel_rfl) rfl (fun _ _ _ h => h) (fun _ => by go_simp; try rfl) ?_; (try simp only [Act.put, sA, sB, sC]))
      (refine wpF (i := 8) rfl (by kernel_rfl) rfl (fun _ _ _ h => h) (fun _ => by go_simp; try rfl) ?_; (try simp only [Act.put, sA, sB, sC]))
      (refine wpF (i := 9) rfl (by kernel_rfl) rfl (fun _ _ _ h => h) (fun _ => by go_simp; try rfl) ?_; (try simp only [Act.put, sA, sB, sC]))
      (refine wpF (i := 10) rfl (by kernel_rfl) rfl (fun _ _ _ h => h) (fun _ => by go_simp; try rfl) ?_; (try simp only [Act.put, sA, sB, sC]))
      (refine wpAnyT_read (i := 11) rfl (by kernel_rfl) rfl (fun _ _ _ h => h) (by kernel_rfl) (⟨g5, hlook⟩) (fun w hS_ => by obtain ⟨s_1, s_2⟩ := hS_; go_simp; try rfl) ?_; (try simp only [Act.put, sA, sB, sC]))
      (refine wpF (i := 12) rfl (by kernel_rfl) rfl (fun _ _ _ h => h) (fun _ => by go_simp; try rfl) ?_; (try simp only [Act.put, sA, sB, sC]))
      (refine wpAnyT_read (i := 13) rfl (by kernel_rfl) rfl (fun _ _ _ h => h) (by kernel_rfl) (⟨g5, hlook⟩) (fun w hS_ => by obtain ⟨s_1, s_2⟩ := hS_; go_simp; try rfl) ?_; (try simp only [Act.put, sA, sB, sC]))
      (refine wpF (i := 14) rfl (by kernel_rfl) rfl (fun _ _ _ h => h) (fun _ => by go_simp; try rfl) ?_; (try simp only [Act.put, sA, sB, sC]))
      (refine wpF (i := 15) rfl (by kernel_rfl) rfl (fun _ _ _ h => h) (fun _ => by go_simp; try rfl) ?_; (try simp only [Act.put, sA, sB, sC]))
      (refine wpF (i := 18) rfl (by kernel_rfl) rfl (fun _ _ _ h => h) (fun _ => by go_simp; try rfl) ?_; (try simp only [Act.put, sA, sB, sC]))
      refine wpAnyT_sink (i := 16) rfl (by kernel_rfl) rfl (by kernel_rfl) ?_
      intro K_ hK_
      go_wp2
      (try (refine hK_ _ _ ?_; clear hK_ K_))
      (try simp only [Act.put, sA, sB, sC])
      (refine wpF (i := 17) rfl (by kernel_rfl) rfl (fun _ _ _ h => h) (fun _ => by go_simp; try rfl) ?_; (try simp only [Act.put, sA, sB, sC]))
      refine wpAnyT_done (by kernel_rfl) ?_ _
      go_wp2
      simp only [List.getElem_toArray, List.getElem_cons_zero, List.getElem_cons_succ]
      have hb8 : Below wr.heap.size wr (wr.alloc (.cells #[.int .i64 (key : Int), .int .i64 (bal : Int), .int .i64 (val.length : Int)] TIn)).drew := (below_new wr _).drew
      have ho8 := (ownsRow_below ho (below_new wr (.cells #[.int .i64 (key : Int), .int .i64 (bal : Int), .int .i64 (val.length : Int)] TIn))).drew
      have hB8 := (Blk.new wr TIn #[.int .i64 (key : Int), .int .i64 (bal : Int), .int .i64 (val.length : Int)]).drew
      have hbw8 := hbw.trans (hb8.mono hbw.size)
      have hbk8 := hbk.trans (hb8.mono hbk.size)
      clear hlook hov g0 g1 g2 g3 g4 g5 hck hb8 hw2 hb1' hb2' ho
      have hrl : wr.heap.size < (wr.alloc (.cells #[.int .i64 (key : Int), .int .i64 (bal : Int), .int .i64 (val.length : Int)] TIn)).drew.heap.size := hB8.lt
      generalize (wr.alloc (.cells #[.int .i64 (key : Int), .int .i64 (bal : Int), .int .i64 (val.length : Int)] TIn)).drew = w8 at *
      obtain ⟨ns, hns⟩ : ∃ ns : List Nat, [key, bal, val.length] = ns := ⟨_, rfl⟩
      have hnl : ns.length = 3 := by rw [← hns]; rfl
      have hcell : ∀ (j n : Nat), ns[j]? = some n → w8.cell? ⟨wr.heap.size, j, none⟩ = some (.int .i64 (n : Int)) ∧ n ≤ 1099511627776 := by
        intro j n hj
        rw [← hns] at hj
        match j, hj with
        | 0, hj => injection hj with hj; subst hj; exact ⟨hB8.cell 0 rfl, b1⟩
        | 1, hj => injection hj with hj; subst hj; exact ⟨hB8.cell 1 rfl, b2⟩
        | 2, hj => injection hj with hj; subst hj; exact ⟨hB8.cell 2 rfl, by omega⟩
        | j + 3, hj => simp at hj
      have HNS := Lib.hid hns
      clear hns hB8
      generalize wr.heap.size = g8 at hcell
      go_loopw [4, 78] (fun v i wx => ∃ m : Nat, m ≤ 3 ∧ i = .int .i64 (m : Int) ∧ wx.ownsRow (if m = 0 then w2.heap.size else w8.heap.size) TB 1 v (acc ++ ((ns.take m).map numB).flatten).length ((acc ++ ((ns.take m).map numB).flatten).map byteV) ∧ Below w2.heap.size w2 wx ∧ Below w7.heap.size w7 wx ∧ Below w8.heap.size w8 wx) (fun _ i _ => 3 - (intOf i).toNat)
      case atStart => exact ⟨0, Nat.zero_le _, rfl, by simpa using ho8, hbw8, hbk8, Below.refl _ _⟩
      case round =>
        obtain ⟨m, hm, rfl, ho9, hbw9, hbk9, hb89⟩ := hrel
        have hsz8 := hbk8.size
        have hsz8' := hbw8.size
        clear ho8
        obtain ⟨acc9, hacc⟩ : ∃ l, acc ++ ((ns.take m).map numB).flatten = l := ⟨_, rfl⟩
        rw [hacc] at ho9
        have hal : acc9.length ≤ acc.length + 30 := by
          rw [← hacc, List.length_append]
          have : ((ns.take m).map numB).flatten.length ≤ 30 := by
            have hle : ∀ l : List Nat, (∀ n ∈ l, n ≤ 1099511627776) → (l.map numB).flatten.length ≤ l.length * 10 := by
              intro l
              induction l with
              | nil => intro _; simp
              | cons x r ih =>
                intro hx
                have h1 := ih (fun n hn => hx n (List.mem_cons_of_mem _ hn))
                have h2 := numB_10 (n := x) (by have := hx x (List.mem_cons_self ..); omega)
                rw [List.map_cons, List.flatten_cons, List.length_append, List.length_cons]
                omega
            have := hle (ns.take m) (fun n hn => by
              obtain ⟨j, hj⟩ := List.mem_iff_getElem?.1 (List.mem_of_mem_take hn)
              exact (hcell j n hj).2)
            rw [List.length_take] at this
            omega
          omega
        have HA9 := Lib.hid hacc
        clear hacc
        obtain ⟨A9, c9, rfl, hc9, hm9⟩ := own_val ho9
        by_cases hlt3 : m < 3
        · obtain ⟨n, hn⟩ : ∃ n, ns[m]? = some n := ⟨_, List.getElem?_eq_getElem (show m < ns.length by omega)⟩
          obtain ⟨hcn, hnb⟩ := hcell m n hn
          replace hcn := (hb89.cell (p := ⟨g8, m, none⟩) (cell_lt hcn)).trans hcn
          have hnum := Num_B wr wr (Below.refl _ _) A9 c9 acc9 (((Own.of_row ho9 rfl).mono (S' := Ever) (fun _ _ => trivial)).rd Non) (by omega) n (by omega)
          have HNX := Lib.hid (show acc9 ++ numB n = acc ++ ((ns.take (m + 1)).map numB).flatten by rw [List.take_add_one, hn, ← HA9.out]; simp)
          have hlt3' : (m : Int) < 3 := by omega
          clear hn
          go_wp2_with (go_at_call 54; refine hnum.mono ?_; rintro e w10 ⟨v10, rfl, ho10, hb10⟩; obtain ⟨A10, c10, rfl, hc10, hm10⟩ := own_val ho10)
          go_roundw
          case rel => exact ⟨m + 1, by omega, by go_num, by have h10 := ownsRow_mono ho10 hb89.size; rw [if_neg (Nat.succ_ne_zero m)]; rw [← HNX.out]; rw [List.length_append] at h10 ⊢; exact h10, hbw9.trans (hb10.mono hbw9.size), hbk9.trans (hb10.mono hbk9.size), hb89.trans (hb10.mono hb89.size)⟩
          case measure => simp [intOf]; omega
        · obtain rfl : m = 3 := by omega
          rw [if_neg (by decide)] at ho9
          have hw9 := h2.below hbw9
          obtain ⟨-, -, -, -, -, g5, -, -, -⟩ := hw9.facts
          obtain ⟨vl, hlook9, hvl⟩ := hw9.map.has key (by omega) HG.out
          obtain ⟨Av', cv', rfl, hcv', hmv', hov'⟩ := hvl
          simp only at hcv' hov'
          have hfld := fun (w' : World) => show (Instr.field THd (.agg #[.int .i64 (bal : Int), .slice Av' val.length cv']) 1).run Tryz.prog w' = .ok (.slice Av' val.length cv') w' from by go_simp; try rfl
          have HX := Lib.hid (show l3 ++ ((s.st.slots.take (k + 1)).map slotB).flatten = acc9 ++ val by
            rw [List.take_add_one, HP.out, ← HA9.out, ← HA.out, ← HNS.out]
            simp [slotB])
          go_wp2_with (at_builtin; refine wpList_appB rfl (.tmp 89) (.tmp 96) 30 rfl iu Tryz.underlying30 hiu hzu hsu hbu w8.heap.size _ acc9.length acc9 rfl ho9 Non Av' val.length cv' val rfl rfl (hov'.rd Non) (by omega) hb89.size ?_; intro v11 w11 ho11 hg11 hat11)
          exact ⟨⟨k + 1, by omega, by go_num, by rw [HX.out]; rw [List.length_append]; exact ownsRow_mono ho11 hsz8', hbw9.grown hg11 hbw9.size (fun j hj => Nat.le_trans hsz8' (ho9.lt j hj).1), hbk9.grown hg11 hbk9.size (fun j hj => Nat.le_trans hsz8 (ho9.lt j hj).1)⟩, by simp [intOf]; omega⟩
    · obtain rfl : k = s.st.slots.length := by omega
      rw [List.take_of_length_le (Nat.le_refl _)] at HA
      have hO := (Own.of_row ho rfl).mono (S' := Ever) (fun _ _ => trivial)
      have hhr := (hh.fr f2 hSh).below hbw (hh.fr f2 hSh).lt
      have hfr := frame_B wr hhr A acc c acc.length (hO.rd Non) rfl (by unfold maxLen; omega)
      have HSN := Lib.hid (show snapB s.st = acc by rw [HSB.out]; exact HA.out)
      by_cases hlong : acc.length ≤ 65536
      · have HE2 := Lib.hid (show s.snapshot = (⟨s.per, Lg.new s.per, (s.snap.swap (frame acc)).1, s.st⟩, 0) by rw [HE.out, HSN.out, if_neg (by omega)])
        simp only [if_pos hlong] at hfr
        unfold Made at hfr
        have hper2 : 1 ≤ (s.per : Int) ∧ (s.per : Int) ≤ 1024 := by omega
        go_wp2_with (first
          | (go_at_call 60; refine hfr.mono ?_; rintro e w3 ⟨A3', c3', rfl, ho3', hc3', hm3', hb3'⟩; have hw3 := hw2.below hb3'; obtain ⟨-, -, e2, -⟩ := hw3.facts; obtain ⟨Ad, cd, hd3⟩ := hw3.snap; have hsw := swap_B hd3 A3' (frame acc) c3' (by rw [length_frame]; omega) ((ho3'.mono (S' := Ever) (fun _ _ => trivial)).rd S2))
          | (go_at_call 61; refine hsw.mono ?_; rintro e w4 ⟨rfl, hd4, hf4⟩; obtain ⟨h4, f4⟩ := hw3.turnSnap hd4 hf4; obtain ⟨p0, -⟩ := h4.facts; have hnw := newL w4 (s.per : Int); simp only [if_pos hper2, Int.toNat_natCast] at hnw)
          | (go_at_call 46; refine hnw.mono ?_; rintro e w5 ⟨_, rfl, ⟨lb', rfl, hl5⟩, hb5⟩; have h5 := h4.below hb5; obtain ⟨r0, r1, r2, r3, r4, r5, rz1, -, -⟩ := h5.facts; unfold ptr))
        go_ret
        rw [HE2.out]
        have hlt4 : ∀ x, Nw w4 w5 x → w4.heap.size ≤ x := fun x hx => hx.1
        have h5m := h5.mono (S' := Up (Up (Up S w w2) w3 w4) w4 w5) (fun x hx => .inl hx) (Up.lt h4.lt hb5.size)
        obtain ⟨h6, f6⟩ := h5m.setLog hl5 (fun x hx => .inr hx) (fun x hx => ⟨fun q => by have := h4.lt x (h4.h2 x q); have := hx.1; omega, fun e => by have := h4.lt b h4.hb; have := hx.1; omega, fun e => by have := h4.lt mb h4.hm; have := hx.1; omega⟩)
        have s1 := f2.size
        have s2 := hbw.size
        have s3 := hb3'.size
        have s4 := hf4.size
        have s5 := hb5.size
        have hfin : ∀ x, Up (Up (Up S w w2) w3 w4) w4 w5 x → Up S w (w5.setCell ⟨b, 1, none⟩ (.pointer (some ⟨lb', 0, none⟩))) x := by
          have hz : (w5.setCell ⟨b, 1, none⟩ (.pointer (some ⟨lb', 0, none⟩))).heap.size = w5.heap.size := by simp [World.setCell]
          rintro x (((hx | hx) | hx) | hx)
          · exact .inl hx
          · exact .inr ⟨hx.1, by have := hx.2; omega⟩
          · exact .inr ⟨by have := hx.1; omega, by have := hx.2; omega⟩
          · exact .inr ⟨by have := hx.1; omega, by have := hx.2; omega⟩
        refine ⟨rfl, (h6.mono hfin (fun x hx => ?_)).is, ?_⟩
        · have hz : (w5.setCell ⟨b, 1, none⟩ (.pointer (some ⟨lb', 0, none⟩))).heap.size = w5.heap.size := by simp [World.setCell]
          rcases hx with hx | hx
          · have := h.lt x hx; omega
          · exact hx.2
        · have k1 : Fr S w w3 := (f2.trans' (Fr.of_below (S := Non) hbw) (fun _ _ h => h.elim)).trans' (Fr.of_below (S := Non) hb3') (fun _ _ h => h.elim)
          have k2 := k1.trans' f4 (fun x hx h => by rcases h with h | h; exact h; have := h.1; omega)
          have k3 := k2.trans' (Fr.of_below (S := Non) hb5) (fun _ _ h => h.elim)
          exact k3.trans' f6 (fun x hx h => by
            rcases h with ((h | h) | h) | h
            · exact h
            · have := h.1; omega
            · have := h.1; omega
            · have := h.1; omega)
      · have HE2 := Lib.hid (show s.snapshot = (⟨s.per, s.log.sync.1, s.snap, s.st⟩, 3) by rw [HE.out, HSN.out, if_pos (by omega)])
        simp only [if_neg hlong] at hfr
        go_wp2_with (go_at_call 60; refine hfr.mono ?_; rintro e w3 ⟨rfl, rfl⟩)
        go_ret
        rw [HE2.out]
        have s1 := f2.size
        have s2 := hbw.size
        refine ⟨rfl, ?_, f2.trans' (Fr.of_below (S := Non) hbw) (fun _ _ h => h.elim)⟩
        exact (hw2.mono (S' := Up S w w3) (fun x hx => hx.imp_right (fun q => ⟨q.1, by have := q.2; omega⟩)) (fun x hx => by
          rcases hx with hx | hx
          · have := h.lt x hx; omega
          · exact hx.2)).is
end
end Go.Proofs.YtediidajdpdeiaaGreatDoor
