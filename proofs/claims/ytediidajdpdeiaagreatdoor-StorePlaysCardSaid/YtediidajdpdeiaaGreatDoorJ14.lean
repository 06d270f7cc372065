/- A store's Restart (layer 8): the walk. -/
import Derived.Test.YtediidajdpdeiaaGreatDoorJ13
import Derived.Test.YtediidajdpdeiaaGreatDoorJ11

namespace Go.Proofs.YtediidajdpdeiaaGreatDoor
open Go.RowKit Go.Shelf CrcM
attribute [local go_sem] Oper.semAt_some
set_option maxRecDepth 100000

theorem Fr.grew {S : Nat → Prop} {w1 W W' : World} {row : Option Nat} (f : Fr S w1 W) (hg : W.grownBy W' row) (hr : ∀ r, row = some r → w1.heap.size ≤ r ∧ ∃ o : Obj, W.heap[r]? = some o ∧ o.isCells = false) : Fr S w1 W' :=
  ⟨hg.os.trans f.os, hg.tape.trans f.tape, hg.output.trans f.output, Nat.le_trans f.size hg.size, fun x hx hn => (hg.block x (Nat.lt_of_lt_of_le hx f.size) (fun e => by have := (hr x e.symm).1; omega)).trans (f.out x hx hn), fun x hx => (BK.grown hg (fun r e => (hr r e).2) x (hx.eq (f.byt x hx))).trans (f.byt x hx)⟩
section
variable {S S1 S2 : Nat → Prop} {w : World} {b lb db mb : Nat} {s : So}
/-- what is known where k records are behind -/
structure RoundI (S : Nat → Prop) (w : World) (T T1 T2 : Nat → Prop) (b lb db mb : Nat) (s : So) (st : St) (rcs : List Rc) (w8 : World) (rx k : Nat) (W : World) : Prop where
  so : SoO T T1 T2 W b lb db mb ⟨s.per, s.log, s.snap, (rcs.take k).foldl Rc.play st⟩
  fr : Fr S w W
  fr8 : Fr (fun x => x = b ∨ x = mb) w8 W
  bx : Blk W w.heap.size 23 #[.pointer (some ⟨b, 0, none⟩)]
  rx : Blk W rx 50 #[.pointer (some ⟨lb, 0, none⟩)]
theorem RoundI.own_ {S : Nat → Prop} {w : World} {T T1 T2 : Nat → Prop} {b lb db mb : Nat} {s : So} {st : St} {rcs : List Rc} {w8 : World} {rx : Nat} (hT : ∀ x, T x → x < w8.heap.size) (hw : w.heap.size ≤ w8.heap.size) : OwnFrom w8.heap.size (RoundI S w T T1 T2 b lb db mb s st rcs w8 rx) := by
  intro k W W' row h hg hr
  have hr' : ∀ r, row = some r → ∃ o : Obj, W.heap[r]? = some o ∧ o.isCells = false := fun r e => (hr r e).2
  have ck := CK.grown hg hr'
  have hk : ∀ x, x < w8.heap.size → W'.heap[x]? = W.heap[x]? := fun x hx => hg.block x (Nat.lt_of_lt_of_le hx h.fr8.size) (fun e => by have := (hr x e.symm).1; omega)
  exact ⟨h.so.kp (fun x hx => hk x (hT x hx)) hg.size (BK.grown hg hr'), h.fr.grew hg (fun r e => ⟨Nat.le_trans hw (hr r e).1, (hr r e).2⟩), h.fr8.grew hg hr, h.bx.ck ck, h.rx.ck ck⟩

theorem RoundI.next {S : Nat → Prop} {w : World} {T T1 T2 : Nat → Prop} {b lb db mb : Nat} {s : So} {st : St} {rcs : List Rc} {w8 : World} {rx k : Nat} {W : World} (hI : RoundI S w T T1 T2 b lb db mb s st rcs w8 rx k W) {rc : Rc} (hrc : rcs[k]? = some rc)
    (hT : ∀ x, T x → S x ∨ w.heap.size + 1 ≤ x) (hT8 : ∀ x, T x → x < w8.heap.size) (_ : w.heap.size ≤ w8.heap.size) (hsx : ¬ T w.heap.size) (hrx : ¬ T rx) {T' : Nat → Prop} {W' : World}
    (so' : SoO T' T1 T2 W' b lb db mb ⟨s.per, s.log, s.snap, Rc.play ((rcs.take k).foldl Rc.play st) rc⟩) (f : Fr (fun x => x = b ∨ x = mb) W W') :
    KeepsFrom w8.heap.size W W' ∧ RoundI S w T T1 T2 b lb db mb s st rcs w8 rx (k + 1) W' := by
  have hb := hI.so.hb
  have hm := hI.so.hm
  have hb8 := hT8 _ hb
  have hm8 := hT8 _ hm
  refine ⟨⟨f.size, fun x o h8 hx _ => (f.out x (Array.getElem?_eq_some_iff.1 hx).1 (fun e => by omega)).trans hx⟩, ?_, ?_, hI.fr8.trans' f (fun _ _ h => h), hI.bx.fr f (fun e => e.elim (fun e => hsx (e ▸ hb)) (fun e => hsx (e ▸ hm))), hI.rx.fr f (fun e => e.elim (fun e => hrx (e ▸ hb)) (fun e => hrx (e ▸ hm)))⟩
  · rw [foldl_take_succ Rc.play st hrc]
    exact hI.so.shrink so' f.size
  · refine hI.fr.trans' f (fun x hx e => ?_)
    rcases e with rfl | rfl
    · exact (hT _ hb).elim id (fun q => by omega)
    · exact (hT _ hm).elim id (fun q => by omega)

set_option maxHeartbeats 4000000 in
theorem restartSo (h : SoO S S1 S2 w b lb db mb s) (hh : HalfAt w) (hSh : ¬ S 0) (hdn : s.log.down = true) {st : St} (hok : st.ok) (hsnap : (st = St.new ∧ ∃ r : Int, r ≠ 0 ∧ next s.snap.all ((0 : Nat) : Int) = .error r) ∨ (s.snap.all = frame (snapB st) ∧ (snapB st).length ≤ 65536))
    {rcs : List Rc} (hrecs : recsS s.log.restart.1.segs = rcs.map Rc.enc) (hrok : ∀ r ∈ rcs, r.ok) (hfew : st.slots.length + rcs.length < 1048575) :
    Calls Tryz.prog 72 #[.pointer (some ⟨b, 0, none⟩)] w (SoDid S w (.pointer (some ⟨b, 0, none⟩)) (⟨s.per, s.log.restart.1, s.snap.restart.1, rcs.foldl Rc.play st⟩, 0)) := by
  obtain ⟨hu, H, A, c, ps, hl⟩ := id h.log
  have hb1 := below_new w (.cells #[.pointer (some ⟨b, 0, none⟩)] 23)
  have h1 := h.below hb1
  have hlr := restartL (hl.below hb1) hu (hh.below hb1 hh.lt) (fun hx => hSh (h.h1 _ hx))
  have hlc : s.log.restart.2 = 0 := by unfold Lg.restart; rw [hdn]; rfl
  unfold LogDid at hlr
  rw [hlc] at hlr
  have B1 := Blk.new w 23 #[.pointer (some ⟨b, 0, none⟩)]
  have x1 := B1.cell 0 (v := .pointer (some ⟨b, 0, none⟩)) rfl
  obtain ⟨c0, c1, c2, c3, c4, c5, z1, z3, z4⟩ := h1.facts
  have hsS : ¬ S w.heap.size := fun hx => by have := h.lt _ hx; omega
  have hlt1 := B1.lt
  have hsz1 : (w.alloc (.cells #[.pointer (some ⟨b, 0, none⟩)] 23)).heap.size = w.heap.size + 1 := by simp
  obtain ⟨per', gs, hL⟩ : ∃ per' gs, s.log.restart.1 = ⟨per', gs, false⟩ := by unfold Lg.restart; rw [hdn]; exact ⟨_, _, rfl⟩
  have HL := Lib.hid hL
  clear hL
  have hsd : s.snap.restart.1.down = false := by unfold Dk.restart; split <;> simp_all
  have hsn : (st = St.new ∧ ∃ r : Int, r ≠ 0 ∧ next s.snap.restart.1.all ((0 : Nat) : Int) = .error r) ∨ (s.snap.restart.1.all = frame (snapB st) ∧ (snapB st).length ≤ 65536) := by
    rw [Dk.restart_all']
    exact hsnap
  refine (callsIn_wide (n := 10)).1 ?_
  refine callsIn_of_wp_marks Tryz.func72 rfl trivial ?_ rfl
  simp only [Tryz.ntmps72, List.size_toArray, List.length_cons, List.length_nil, Nat.reduceAdd, Nat.reduceSub, Array.replicate_succ, Array.replicate_zero, List.push_toArray, List.append_toArray, List.nil_append, List.cons_append]
  refine wpIn_wide.2 ?_
  go_wp2_with (first
    | (go_at_call 49; refine (noneS h1).mono ?_; rintro e w' ⟨rfl, rfl⟩)
    | (go_at_call 127; refine hlr.mono ?_; rintro e w2 ⟨rfl, hl2, hf2⟩; obtain ⟨h2, f2⟩ := h1.turnLog hl2 hf2; have B2 := B1.fr f2 hsS; have x2 := B2.cell 0 (v := .pointer (some ⟨b, 0, none⟩)) rfl; obtain ⟨d0, d1, d2, d3, d4, d5, -, -, -⟩ := h2.facts; obtain ⟨Ad, cd, hd2⟩ := h2.snap; have hS2 := h2.d2)
    | (go_at_call 128; refine (restart_B hd2).mono ?_; rintro e w3 ⟨rfl, hd3, hf3⟩; obtain ⟨h3, f3⟩ := h2.turnSnap hd3 hf3; have B3 := B2.fr hf3 (fun hx => hsS (h.h2 _ hx)); have x3 := B3.cell 0 (v := .pointer (some ⟨b, 0, none⟩)) rfl; obtain ⟨e0, e1, e2, e3, e4, e5, -, -, -⟩ := h3.facts; obtain ⟨Z, hown, hZ, hheld, hbd⟩ := h3.map)
    | (at_range; refine wpList_range_own _ rfl _ TMp rfl TIn THd intKey Tryz.underlying98 heldR mb Z.length _ rfl hown ?_; intro w4 hrg0 hg0 hs0))
  have hT : ∀ x, Up (Up S (w.alloc (.cells #[.pointer (some ⟨b, 0, none⟩)] 23)) w2) w2 w3 x → S x ∨ w.heap.size + 1 ≤ x := by
    rintro x ((hx | hx) | hx)
    · exact .inl hx
    · exact .inr (by have := hx.1; omega)
    · exact .inr (by have := hx.1; have := f2.size; omega)
  have hf3w : Fr S w w3 := ((Fr.of_below hb1 : Fr S w _).trans' f2 (fun _ _ h => h)).trans' f3 (fun x hx h => by
    rcases h with h | h
    · exact h
    · have := h.1; omega)
  generalize Up (Up S (w.alloc (.cells #[.pointer (some ⟨b, 0, none⟩)] 23)) w2) w2 w3 = T at *
  generalize Up S1 (w.alloc (.cells #[.pointer (some ⟨b, 0, none⟩)] 23)) w2 = T1 at *
  generalize Up S2 w2 w3 = T2 at *
  clear d0 d1 d2 d3 d4 d5 e0 e1 e2 e3 e4 c0 c1 c2 c3 c4 c5 z1 z3 z4 x1 x2 B1 B2 hd3 hl2 h2 hf2 hf3 f2 f3 hd2 hs0 hlr hl
  have hsz3 := hf3w.size
  have hf0 : Fr (fun x => x = mb) w3 w4 := Fr.of_below ⟨hg0.os, hg0.tape, hg0.output, hg0.size, fun x hx => hg0.block x hx (by simp)⟩
  have hTb : ¬ T w.heap.size := fun hx => (hT _ hx).elim hsS (by omega)
  have hbm : w.heap.size ≠ mb := fun e => hTb (e ▸ h3.hm)
  have hbb : w.heap.size ≠ b := fun e => hTb (e ▸ h3.hb)
  have HZ := Lib.hid hZ
  have HB := Lib.hid hbd
  have HH := Lib.hid hheld
  clear hZ hbd hheld hg0
  simp only [Act.put, List.setIfInBounds_toArray, List.set_cons_zero, List.set_cons_succ]
  go_wp2
  go_loopw [4] (fun _ wr => ∃ (left : Lit → Bool) (cnt : Nat), wr.ranges Tryz.prog TIn heldR mb w3.heap.size Z.length (mapD (valsOf (Z.filter (stays 4611686018427387905 left)))) left cnt ∧ (∀ kl, left kl = true → ∃ z ∈ Z, litN z.1 = kl) ∧ Fr (fun x => x = mb) w3 wr) (fun _ wr => wr.rangeLeft mb w3.heap.size)
  case atStart => exact ⟨_, _, by rw [stays_all has_all]; exact hrg0, fun kl hk => left_of hk, hf0⟩
  case round =>
    obtain ⟨left, cnt, hrg, hlk, hf⟩ := hrel
    have hmeas := hrg.left_eq
    clear hrg0 hown hf0
    go_wp2_with (first
      | (at_next; refine wpList_next_ranges _ rfl _ rfl TIn intKey heldR (Value.int .i64) id invInt (fun v y _ => ⟨v, rfl⟩) mb w3.heap.size Z.length _ left cnt rfl hrg ?_ ?_))
    · intro hc0 hl0
      have hempty : SlotsAt wr mb [] := by
        have ho := ownsMap_tight hrg.owns
        rw [show (valsOf (Z.filter (stays 4611686018427387905 left))).length = (Z.filter (stays 4611686018427387905 left)).length from by unfold valsOf; rw [List.length_map]] at ho
        refine ⟨_, ho, ?_, fun z hz => (HH.out z (List.mem_filter.1 hz).1).bk hf.byt, fun z hz => HB.out z (List.mem_filter.1 hz).1⟩
        rw [stays_end hl0]
        exact bigB HB.out
      have h5 := h3.turnMap' hempty hf ⟨h3.ok.pr, h3.ok.ba, Nat.zero_le _, List.Pairwise.nil, fun p hp => by cases hp⟩
      have f5 : Fr S w wr := hf3w.trans' hf (fun x hx e => (hT x (e ▸ h3.hm)).elim id (fun q => by omega))
      have B5 := B3.fr hf hbm
      have x5 := B5.cell 0 (v := .pointer (some ⟨b, 0, none⟩)) rfl
      obtain ⟨-, -, -, q3, q4, -, -, p3, p4⟩ := h5.facts
      clear hrg hmeas hc0 hl0 e5 x3 hf B3
      obtain ⟨h6, f6⟩ : SoO T T1 T2 (wr.setCell ⟨b, 3, none⟩ (.int .i64 0)) b lb db mb ⟨s.per, s.log.restart.1, s.snap.restart.1, ⟨0, s.st.base, []⟩⟩ ∧ Fr T wr (wr.setCell ⟨b, 3, none⟩ (.int .i64 0)) := h5.setPr 0 (Nat.zero_le _)
      obtain ⟨h7, f7⟩ : SoO T T1 T2 ((wr.setCell ⟨b, 3, none⟩ (.int .i64 0)).setCell ⟨b, 4, none⟩ (.int .i64 0)) b lb db mb ⟨s.per, s.log.restart.1, s.snap.restart.1, St.new⟩ ∧ Fr T (wr.setCell ⟨b, 3, none⟩ (.int .i64 0)) ((wr.setCell ⟨b, 3, none⟩ (.int .i64 0)).setCell ⟨b, 4, none⟩ (.int .i64 0)) := h6.setBa 0 (Nat.zero_le _)
      have B7 := (B5.fr f6 hTb).fr f7 hTb
      have f7w := (f5.trans' f6 (fun x hx h => (hT x h).elim id (fun q => by omega))).trans' f7 (fun x hx h => (hT x h).elim id (fun q => by omega))
      go_wp2
      refine (wpIn_wide (n := 10)).1 ?_
      refine wpIn_mono (wpIn_wide.2 ?_) NoPanic.of
      refine wp_region_T #[[], [], [0], [0], [0], [0, 1], [0, 1], [0, 1]] [0, 1] (fun w' => w'.cell? ⟨w.heap.size, 0, none⟩ = some (.pointer (some ⟨b, 0, none⟩)) ∧ True) 8 rfl (by kernel_rfl) ?_
      (refine wpAnyT_read (i := 0) rfl (by kernel_rfl) rfl (fun _ _ _ h => h) (by kernel_rfl) (⟨x5, trivial⟩) (fun w hS_ => by obtain ⟨s_1, s_2⟩ := hS_; go_simp; try rfl) ?_; (try simp only [Act.put, sA, sB, sC]))
      (refine wpAnyT_read (i := 1) rfl (by kernel_rfl) rfl (fun _ _ _ h => h) (by kernel_rfl) (⟨x5, trivial⟩) (fun w hS_ => by obtain ⟨s_1, s_2⟩ := hS_; go_simp; try rfl) ?_; (try simp only [Act.put, sA, sB, sC]))
      (refine wpF (i := 2) rfl (by kernel_rfl) rfl (fun _ _ _ h => h) (fun _ => by go_simp; try rfl) ?_; (try simp only [Act.put, sA, sB, sC]))
      (refine wpF (i := 3) rfl (by kernel_rfl) rfl (fun _ _ _ h => h) (fun _ => by go_simp; try rfl) ?_; (try simp only [Act.put, sA, sB, sC]))
      refine wpAnyT_one (i := 4) rfl (by kernel_rfl) rfl ?_
      intro K_ hK_
      go_wp2
      refine hK_ _ _ ?_ ?_
      · exact fun _ _ => ⟨(B5.fr f6 hTb).cell 0 rfl, trivial⟩
      clear hK_ K_
      (try simp only [Act.put, sA, sB, sC])
      (refine wpF (i := 5) rfl (by kernel_rfl) rfl (fun _ _ _ h => h) (fun _ => by go_simp; try rfl) ?_; (try simp only [Act.put, sA, sB, sC]))
      (refine wpF (i := 6) rfl (by kernel_rfl) rfl (fun _ _ _ h => h) (fun _ => by go_simp; try rfl) ?_; (try simp only [Act.put, sA, sB, sC]))
      refine wpAnyT_sink (i := 7) rfl (by kernel_rfl) rfl (by kernel_rfl) ?_
      intro K_ hK_
      go_wp2
      (try (refine hK_ _ _ ?_; clear hK_ K_))
      (try simp only [Act.put, sA, sB, sC])
      refine wpAnyT_done (by kernel_rfl) ?_ _
      simp only [NoPanic]
      have h8 := h7.fr (S' := Non) ((Fr.refl Non _).drew) (fun _ _ h => h.elim)
      have B8 := B7.drew
      have f8w := f7w.drew
      clear q3 q4 p3 p4 x5 B7 B5 h7 h6 h5 f7 f6 f5 f7w hempty
      generalize ((wr.setCell ⟨b, 3, none⟩ (.int .i64 0)).setCell ⟨b, 4, none⟩ (.int .i64 0)).drew = w5 at *
      have x8 := B8.cell 0 (v := .pointer (some ⟨b, 0, none⟩)) rfl
      have hld := loadS h8 (hh.fr f8w hSh) rfl hsd hok hsn
      go_wp2_with (first
        | (go_at_call 129; refine hld.mono ?_; rintro e w6 ⟨rfl, h9, f9⟩; have B9 := B8.fr f9 hTb; have x9 := B9.cell 0 (v := .pointer (some ⟨b, 0, none⟩)) rfl; obtain ⟨-, g1, -⟩ := h9.facts)
        | (go_at_call 130; refine (recs_B _ lb).mono ?_; rintro e w7 ⟨rfl, rfl⟩))
      have h10 := h9.below (below_new w6 (.cells #[.pointer (some ⟨lb, 0, none⟩)] 50))
      have B10 := B9.alloc (.cells #[.pointer (some ⟨lb, 0, none⟩)] 50)
      have R10 := Blk.new w6 50 #[.pointer (some ⟨lb, 0, none⟩)]
      have f10 : Fr S w (w6.alloc (.cells #[.pointer (some ⟨lb, 0, none⟩)] 50)) := (f8w.trans' f9 (fun x hx h => (hT x h).elim id (fun q => by omega))).trans' (Fr.of_below (S := Non) (below_new _ _)) (fun _ _ h => h.elim)
      have hsz6 : w.heap.size ≤ w6.heap.size := (f8w.trans' f9 (fun x hx h => (hT x h).elim id (fun q => by omega))).size
      clear x8 x9 g1 B8 B9 hld h8 f9 f8w
      generalize (w6.alloc (.cells #[.pointer (some ⟨lb, 0, none⟩)] 50)) = w8 at *
      obtain ⟨hu9, H9, A9, c9, ps9, hlo⟩ := id h10.log
      rw [show (⟨s.per, s.log.restart.1, s.snap.restart.1, st⟩ : So).log = ⟨per', gs, false⟩ from HL.out] at hlo
      have hgs : (numS gs).length = rcs.length ∧ ∀ (k num : Nat) (r : List UInt8), (numS gs)[k]? = some (num, r) → ∃ rc : Rc, rcs[k]? = some rc ∧ r = rc.enc := by
        have e : (numS gs).map Prod.snd = rcs.map Rc.enc := by
          rw [numS_recs, ← hrecs, HL.out]
        refine ⟨?_, fun k num r hk => ?_⟩
        · have := congrArg List.length e
          simpa using this
        · have h1 : ((numS gs).map Prod.snd)[k]? = some r := by rw [List.getElem?_map, hk]; rfl
          rw [e, List.getElem?_map] at h1
          cases hrc : rcs[k]? with
          | none => rw [hrc] at h1; cases h1
          | some rc =>
            rw [hrc] at h1
            injection h1 with h1
            exact ⟨rc, rfl, h1.symm⟩
      have hTr : ¬ T w6.heap.size := fun hx => by have := h9.lt _ hx; omega
      refine (wpIn_wide (n := 10)).1 ?_
      refine wp_rangeFunc_G (n := 8) (Gv := RecGv gs) (I := RoundI S w T T1 T2 b lb db mb ⟨s.per, s.log.restart.1, s.snap.restart.1, st⟩ st rcs w8 w6.heap.size) (S := fun k => k = (numS gs).length) rfl (enters_of Tryz.func159 (by kernel_rfl) rfl) (records_iterates hlo (S' := fun x => x = b ∨ x = mb) (fun x hx e => by exact e.elim (fun e => h10.d1.1 (e ▸ hx)) (fun e => h10.d1.2 (e ▸ hx))) w6.heap.size _ (fun k W hI => ⟨hI.fr8, hI.rx.cell 0 rfl⟩) w8)
        (fun k v W h => by obtain ⟨_, _, _, _, _, rfl, _⟩ := h; rfl) (fun v => RecGv.own_ gs v _) (fun _ _ _ => False) (RoundI.own_ h10.lt f10.size) (fun _ _ _ _ _ hf _ _ => hf.elim) ⟨by rw [List.take_zero]; exact h10, f10, Fr.refl _ _, B10, R10⟩
        (fun v => { tmps := #[.pointer (some ⟨b, 0, none⟩), .pointer (some ⟨w.heap.size, 0, none⟩), .int .i64 0, .int .i64 0, u4, undef, v.getD 1 undef, undef, undef, undef, .pointer (some ⟨b, 0, none⟩), .bool false, .pointer (some ⟨b, 0, none⟩), .pointer (some ⟨b, 0, none⟩), .pointer (some ⟨b, 1, none⟩), .pointer (some ⟨lb, 0, none⟩), .int .i64 0, .int .i64 0, .bool false, undef, .pointer (some ⟨b, 0, none⟩), .pointer (some ⟨b, 0, none⟩), .pointer (some ⟨b, 2, none⟩), .pointer (some ⟨db, 0, none⟩), .int .i64 s.snap.restart.2, .pointer (some ⟨b, 0, none⟩), .pointer (some ⟨b, 0, none⟩), .pointer (some ⟨b, 5, none⟩), .map (some mb), .pointer (some ⟨w3.heap.size, 0, none⟩), .tuple #[.bool false], .bool false, u32, u33, u34, u35, u36, u37, u38, .pointer (some ⟨b, 0, none⟩), .pointer (some ⟨b, 0, none⟩), .pointer (some ⟨b, 0, none⟩), .pointer (some ⟨b, 3, none⟩), .pointer (some ⟨b, 0, none⟩), .pointer (some ⟨b, 4, none⟩), .pointer (some ⟨b, 0, none⟩), .tuple #[], .pointer (some ⟨b, 0, none⟩), .pointer (some ⟨b, 0, none⟩), .pointer (some ⟨b, 1, none⟩), .pointer (some ⟨lb, 0, none⟩), .func (.func 159) #[] #[.pointer (some ⟨w6.heap.size, 0, none⟩)], v.getD 0 undef, v.getD 1 undef, undef, undef, undef, undef, undef, undef, undef, undef, undef, undef, undef, undef, undef, undef, undef, undef, undef, undef, undef, undef, undef, undef, undef, undef, undef, undef, undef, undef, undef, undef, undef, undef, undef, undef, undef, undef, undef, undef, undef, undef, undef], defers := [] }) ?assign ?body ?done (fun _ _ _ _ _ hf _ => hf.elim)
      case assign =>
        rintro l k v W K ⟨num, r, A, c, h1, rfl, h3, h4, h5⟩ hK
        gi_wp2
        exact hK
      case body =>
        rintro l k v W hI ⟨num, r, A, c, h1, rfl, h3, h4, h5⟩
        obtain ⟨rc, hrc, rfl⟩ := hgs.2 k num r h1
        have hro := hrok rc (List.mem_of_getElem? hrc)
        have hnx := fun (T' : Nat → Prop) (W' : World) => hI.next (T' := T') (W' := W') hrc hT h10.lt f10.size hTb hTr
        have hso := hI.so
        have hx := hI.bx.cell 0 (v := .pointer (some ⟨b, 0, none⟩)) rfl
        have HN := Lib.hid hnx
        clear hnx
        have hWT : ¬ T W.heap.size := fun hx => by have := hso.lt _ hx; omega
        have hbx := hI.bx
        have hWw : w.heap.size ≠ W.heap.size := fun e => by have := hbx.lt; omega
        have hTm := hso.hm
        have hTbb := hso.hb
        have hcok := (plays_ok (rcs.take k) st hok (fun r hr => hrok r (List.mem_of_mem_take hr)) (by rw [List.length_take]; omega))
        have hclen : ((rcs.take k).foldl Rc.play st).slots.length < 1048575 := by have := hcok.2; rw [List.length_take] at this; omega
        replace hcok := hcok.1
        clear hI h1
        generalize (rcs.take k).foldl Rc.play st = cur at *
        have hcp := hcok.pr
        cases rc with
        | prom n =>
          have hn' : n ≤ 1099511627776 := hro
          obtain ⟨rest, hre⟩ : ∃ l, numB n = l := ⟨_, rfl⟩
          have hrl : (Rc.prom n).enc.length = rest.length + 1 := by show (1 :: (numB n)).length = _; rw [hre]; rfl
          rw [show (Rc.prom n).enc = 1 :: rest from by show 1 :: (numB n) = _; rw [hre]] at h3
          rw [hrl] at h4 ⊢
          obtain ⟨ad, rfl, q0, qb, -⟩ := h3 0 1 rfl
          replace q0 : W.cell? ad = some (.int .u8 1) := q0
          have HR := Lib.hid hre
          have hrp : 1 ≤ rest.length := by rw [← hre]; exact numB_pos n
          clear hre hrl
          unfold maxLen at h5
          have k1 : (1 : Int) ≤ (rest.length : Int) + 1 := by omega
          have k2 : (rest.length : Int) + 1 ≤ (c : Int) := by omega
          have k3 : ¬ c = 1 := by omega
          have hO : Own Ever (W.alloc (.cells #[.slice (some ⟨ad.block, ad.off + 1, none⟩) rest.length (c - 1)] TEy)) (some ⟨ad.block, ad.off + 1, none⟩) rest := by
            have := h3.drop 1 c h4
            rw [if_neg k3] at this
            exact (this.mono (fun _ _ => trivial)).fr (S' := Non) (Fr.of_below (below_new _ _))
          have hE : EyeAt (W.alloc (.cells #[.slice (some ⟨ad.block, ad.off + 1, none⟩) rest.length (c - 1)] TEy)) W.heap.size rest := ⟨_, _, Blk.new _ _ _, hO, by omega, by unfold maxLen; omega⟩
          have hn1 := hE.num (n := n) (rest := []) (by rw [← HR.out, List.append_nil]) (by omega)
          have hbel := below_new W (.cells #[.slice (some ⟨ad.block, ad.off + 1, none⟩) rest.length (c - 1)] TEy)
          have h3' := hso.below hbel
          have B3' := hbx.below' hbel
          have hn' : n ≤ 1099511627776 := hro
          by_cases hmx : cur.promised < n
          · have hmx' : (cur.promised : Int) < (n : Int) := by omega
            have HM := Lib.hid (show max cur.promised n = n by omega)
            clear hmx
            gi_wp2_with (refine ⟨trivial, ?_⟩; gi_at_call 131; refine (CallsIn.inRound l (callsIn_wide.2 hn1)).mono ?_; rintro e w4 ⟨rfl, hE4, f4⟩; have h4' := h3'.eye f4 hWT; have fW : Fr (fun x => x = W.heap.size) W w4 := (Fr.of_below (S := fun x => x = W.heap.size) hbel).trans' f4 (fun _ _ h => h); have q4 := (cell_eq (a := ad) (fW.byt ad.block qb)).trans q0; have B4 := B3'.fr f4 hWw; have x4 := B4.cell 0 (v := .pointer (some ⟨b, 0, none⟩)) rfl; obtain ⟨-, -, -, p3, p4, p5, -, z3, -⟩ := h4'.facts; clear hn1; have hst := h4'.setPr n (by omega); have fb : Fr (fun x => x = b ∨ x = mb) w4 (w4.setCell ⟨b, 3, none⟩ (.int .i64 (n : Int))) := (Fr.refl (fun x => x = b ∨ x = mb) _).setCell (p := ⟨b, 3, none⟩) (.inl (.inl rfl)) (h4'.blk.notB (by decide)) _)
            refine wpIn_region_T #[[], [], [1], [1], [1], [], [1, 4], [0, 1, 4], [0, 1, 4], [0, 1, 4]] [0, 1, 4] (fun w' => w'.cell? ⟨w.heap.size, 0, none⟩ = some (.pointer (some ⟨b, 0, none⟩)) ∧ w'.cell? ⟨b, 3, none⟩ = some (.int .i64 (cur.promised : Int))) 10 rfl (by kernel_rfl) (by kernel_rfl) (by rintro ⟨_, _, h_⟩; exact h_.elim) ?_
            (refine wpAnyT_read (i := 0) rfl (by kernel_rfl) rfl (fun _ _ _ h => h) (by kernel_rfl) (⟨x4, p3⟩) (fun w hS_ => by obtain ⟨s_1, s_2⟩ := hS_; go_simp; try rfl) ?_; (try simp only [Act.put, sA, sB, sC]))
            (refine wpAnyT_read (i := 1) rfl (by kernel_rfl) rfl (fun _ _ _ h => h) (by kernel_rfl) (⟨x4, p3⟩) (fun w hS_ => by obtain ⟨s_1, s_2⟩ := hS_; go_simp; try rfl) ?_; (try simp only [Act.put, sA, sB, sC]))
            (refine wpF (i := 2) rfl (by kernel_rfl) rfl (fun _ _ _ h => h) (fun _ => by go_simp; try rfl) ?_; (try simp only [Act.put, sA, sB, sC]))
            (refine wpF (i := 3) rfl (by kernel_rfl) rfl (fun _ _ _ h => h) (fun _ => by go_simp; try rfl) ?_; (try simp only [Act.put, sA, sB, sC]))
            (refine wpAnyT_read (i := 4) rfl (by kernel_rfl) rfl (fun _ _ _ h => h) (by kernel_rfl) (⟨x4, p3⟩) (fun w hS_ => by obtain ⟨s_1, s_2⟩ := hS_; go_simp; try rfl) ?_; (try simp only [Act.put, sA, sB, sC]))
            (refine wpF (i := 5) rfl (by kernel_rfl) rfl (fun _ _ _ h => h) (fun _ => by go_simp; try rfl) ?_; (try simp only [Act.put, sA, sB, sC]))
            (refine wpF (i := 6) rfl (by kernel_rfl) rfl (fun _ _ _ h => h) (fun _ => by go_simp; try rfl) ?_; (try simp only [Act.put, sA, sB, sC]))
            (refine wpF (i := 7) rfl (by kernel_rfl) rfl (fun _ _ _ h => h) (fun _ => by go_simp; try rfl) ?_; (try simp only [Act.put, sA, sB, sC]))
            (refine wpF (i := 8) rfl (by kernel_rfl) rfl (fun _ _ _ h => h) (fun _ => by go_simp; try rfl) ?_; (try simp only [Act.put, sA, sB, sC]))
            refine wpAnyT_sink (i := 9) rfl (by kernel_rfl) rfl (by kernel_rfl) ?_
            intro K_ hK_
            go_wp2
            (try (refine hK_ _ _ ?_; clear hK_ K_))
            (try simp only [Act.put, sA, sB, sC])
            refine wpAnyT_done (by kernel_rfl) ?_ _
            gi_wp2
            exact HN.out _ _ (by rw [show Rc.play cur (.prom n) = ⟨n, cur.base, cur.slots⟩ from by show (⟨max cur.promised n, cur.base, cur.slots⟩ : St) = _; rw [HM.out]]; exact hst.1.fr (S' := Non) ((Fr.refl Non _).drew) (fun _ _ h => h.elim)) ((fW.mono (fun x hx e => absurd e (by omega))).trans' (fb.drew) (fun _ _ h => h))
          · have hmx' : ¬ (cur.promised : Int) < (n : Int) := by omega
            have HM := Lib.hid (show max cur.promised n = cur.promised by omega)
            clear hmx
            gi_wp2_with (refine ⟨trivial, ?_⟩; gi_at_call 131; refine (CallsIn.inRound l (callsIn_wide.2 hn1)).mono ?_; rintro e w4 ⟨rfl, hE4, f4⟩; have h4' := h3'.eye f4 hWT; have fW : Fr (fun x => x = W.heap.size) W w4 := (Fr.of_below (S := fun x => x = W.heap.size) hbel).trans' f4 (fun _ _ h => h); have q4 := (cell_eq (a := ad) (fW.byt ad.block qb)).trans q0; have B4 := B3'.fr f4 hWw; have x4 := B4.cell 0 (v := .pointer (some ⟨b, 0, none⟩)) rfl; obtain ⟨-, -, -, p3, p4, p5, -, z3, -⟩ := h4'.facts; clear hn1; have hst := h4'.setPr cur.promised (by omega); have fb : Fr (fun x => x = b ∨ x = mb) w4 (w4.setCell ⟨b, 3, none⟩ (.int .i64 (cur.promised : Int))) := (Fr.refl (fun x => x = b ∨ x = mb) _).setCell (p := ⟨b, 3, none⟩) (.inl (.inl rfl)) (h4'.blk.notB (by decide)) _)
            refine wpIn_region_T #[[], [], [1], [1], [1], [], [1, 4], [0, 1, 4], [0, 1, 4], [0, 1, 4]] [0, 1, 4] (fun w' => w'.cell? ⟨w.heap.size, 0, none⟩ = some (.pointer (some ⟨b, 0, none⟩)) ∧ w'.cell? ⟨b, 3, none⟩ = some (.int .i64 (cur.promised : Int))) 10 rfl (by kernel_rfl) (by kernel_rfl) (by rintro ⟨_, _, h_⟩; exact h_.elim) ?_
            (refine wpAnyT_read (i := 0) rfl (by kernel_rfl) rfl (fun _ _ _ h => h) (by kernel_rfl) (⟨x4, p3⟩) (fun w hS_ => by obtain ⟨s_1, s_2⟩ := hS_; go_simp; try rfl) ?_; (try simp only [Act.put, sA, sB, sC]))
            (refine wpAnyT_read (i := 1) rfl (by kernel_rfl) rfl (fun _ _ _ h => h) (by kernel_rfl) (⟨x4, p3⟩) (fun w hS_ => by obtain ⟨s_1, s_2⟩ := hS_; go_simp; try rfl) ?_; (try simp only [Act.put, sA, sB, sC]))
            (refine wpF (i := 2) rfl (by kernel_rfl) rfl (fun _ _ _ h => h) (fun _ => by go_simp; try rfl) ?_; (try simp only [Act.put, sA, sB, sC]))
            (refine wpF (i := 3) rfl (by kernel_rfl) rfl (fun _ _ _ h => h) (fun _ => by go_simp; try rfl) ?_; (try simp only [Act.put, sA, sB, sC]))
            (refine wpAnyT_read (i := 4) rfl (by kernel_rfl) rfl (fun _ _ _ h => h) (by kernel_rfl) (⟨x4, p3⟩) (fun w hS_ => by obtain ⟨s_1, s_2⟩ := hS_; go_simp; try rfl) ?_; (try simp only [Act.put, sA, sB, sC]))
            (refine wpF (i := 5) rfl (by kernel_rfl) rfl (fun _ _ _ h => h) (fun _ => by go_simp; try rfl) ?_; (try simp only [Act.put, sA, sB, sC]))
            (refine wpF (i := 6) rfl (by kernel_rfl) rfl (fun _ _ _ h => h) (fun _ => by go_simp; try rfl) ?_; (try simp only [Act.put, sA, sB, sC]))
            (refine wpF (i := 7) rfl (by kernel_rfl) rfl (fun _ _ _ h => h) (fun _ => by go_simp; try rfl) ?_; (try simp only [Act.put, sA, sB, sC]))
            (refine wpF (i := 8) rfl (by kernel_rfl) rfl (fun _ _ _ h => h) (fun _ => by go_simp; try rfl) ?_; (try simp only [Act.put, sA, sB, sC]))
            refine wpAnyT_sink (i := 9) rfl (by kernel_rfl) rfl (by kernel_rfl) ?_
            intro K_ hK_
            go_wp2
            (try (refine hK_ _ _ ?_; clear hK_ K_))
            (try simp only [Act.put, sA, sB, sC])
            refine wpAnyT_done (by kernel_rfl) ?_ _
            gi_wp2
            exact HN.out _ _ (by rw [show Rc.play cur (.prom n) = ⟨cur.promised, cur.base, cur.slots⟩ from by show (⟨max cur.promised n, cur.base, cur.slots⟩ : St) = _; rw [HM.out]]; exact hst.1.fr (S' := Non) ((Fr.refl Non _).drew) (fun _ _ h => h.elim)) ((fW.mono (fun x hx e => absurd e (by omega))).trans' (fb.drew) (fun _ _ h => h))
        | acc slot n v =>
          obtain ⟨hs', hn', hv'⟩ : slot ≤ 1099511627776 ∧ n ≤ 1099511627776 ∧ v.length ≤ 32768 := hro
          obtain ⟨rest, hre⟩ : ∃ l, numB slot ++ (numB n ++ v) = l := ⟨_, rfl⟩
          have hrl : (Rc.acc slot n v).enc.length = rest.length + 1 := by show (2 :: (numB slot ++ (numB n ++ v))).length = _; rw [hre]; rfl
          rw [show (Rc.acc slot n v).enc = 2 :: rest from by show 2 :: (numB slot ++ (numB n ++ v)) = _; rw [hre]] at h3
          rw [hrl] at h4 ⊢
          obtain ⟨ad, rfl, q0, qb, -⟩ := h3 0 2 rfl
          replace q0 : W.cell? ad = some (.int .u8 2) := q0
          have HR := Lib.hid hre
          have hrp : 1 ≤ rest.length := by rw [← hre]; have := numB_pos slot; rw [List.length_append]; omega
          clear hre hrl
          unfold maxLen at h5
          have k1 : (1 : Int) ≤ (rest.length : Int) + 1 := by omega
          have k2 : (rest.length : Int) + 1 ≤ (c : Int) := by omega
          have k3 : ¬ c = 1 := by omega
          have hO : Own Ever (W.alloc (.cells #[.slice (some ⟨ad.block, ad.off + 1, none⟩) rest.length (c - 1)] TEy)) (some ⟨ad.block, ad.off + 1, none⟩) rest := by
            have := h3.drop 1 c h4
            rw [if_neg k3] at this
            exact (this.mono (fun _ _ => trivial)).fr (S' := Non) (Fr.of_below (below_new _ _))
          have hE : EyeAt (W.alloc (.cells #[.slice (some ⟨ad.block, ad.off + 1, none⟩) rest.length (c - 1)] TEy)) W.heap.size rest := ⟨_, _, Blk.new _ _ _, hO, by omega, by unfold maxLen; omega⟩
          have hn1 := hE.num (n := slot) (rest := (numB n ++ v)) (by rw [← HR.out]) (by omega)
          have hbel := below_new W (.cells #[.slice (some ⟨ad.block, ad.off + 1, none⟩) rest.length (c - 1)] TEy)
          have h3' := hso.below hbel
          have B3' := hbx.below' hbel
          by_cases hmx : cur.promised < n
          · have hmx' : (cur.promised : Int) < (n : Int) := by omega
            have HM := Lib.hid (show max cur.promised n = n by omega)
            clear hmx
            gi_wp2_with (first
              | (refine ⟨trivial, ?_⟩; gi_at_call 131; refine (CallsIn.inRound l (callsIn_wide.2 hn1)).mono ?_; rintro e w4 ⟨rfl, hE4, f4⟩; have h4' := h3'.eye f4 hWT; have fW : Fr (fun x => x = W.heap.size) W w4 := (Fr.of_below (S := fun x => x = W.heap.size) hbel).trans' f4 (fun _ _ h => h); have q4 := (cell_eq (a := ad) (fW.byt ad.block qb)).trans q0; have B4 := B3'.fr f4 hWw; have x4 := B4.cell 0 (v := .pointer (some ⟨b, 0, none⟩)) rfl; obtain ⟨-, -, -, p3, p4, p5, -, z3, -⟩ := h4'.facts; clear hn1; have hn2 := hE4.num (n := n) (rest := v) rfl (by omega))
              | (refine ⟨trivial, ?_⟩; gi_at_call 131; refine (CallsIn.inRound l (callsIn_wide.2 hn2)).mono ?_; rintro e w6 ⟨rfl, hE6, f6⟩; have h6' := h4'.eye f6 hWT; have B6 := B4.fr f6 hWw; clear x4 p3 p4 p5 z3; have x6 := B6.cell 0 (v := .pointer (some ⟨b, 0, none⟩)) rfl; obtain ⟨-, -, -, p3, p4, p5, -, z3, -⟩ := h6'.facts; have hst := h6'.setPr n (by omega); have fb : Fr (fun x => x = b ∨ x = mb) w6 (w6.setCell ⟨b, 3, none⟩ (.int .i64 (n : Int))) := (Fr.refl (fun x => x = b ∨ x = mb) _).setCell (p := ⟨b, 3, none⟩) (.inl (.inl rfl)) (h6'.blk.notB (by decide)) _))
            refine wpIn_region_T #[[], [], [1], [1], [1], [], [1, 4], [0, 1, 4], [0, 1, 4], [0, 1, 4]] [0, 1, 4] (fun w' => w'.cell? ⟨w.heap.size, 0, none⟩ = some (.pointer (some ⟨b, 0, none⟩)) ∧ w'.cell? ⟨b, 3, none⟩ = some (.int .i64 (cur.promised : Int))) 10 rfl (by kernel_rfl) (by kernel_rfl) (by rintro ⟨_, _, h_⟩; exact h_.elim) ?_
            (refine wpAnyT_read (i := 0) rfl (by kernel_rfl) rfl (fun _ _ _ h => h) (by kernel_rfl) (⟨x6, p3⟩) (fun w hS_ => by obtain ⟨s_1, s_2⟩ := hS_; go_simp; try rfl) ?_; (try simp only [Act.put, sA, sB, sC]))
            (refine wpAnyT_read (i := 1) rfl (by kernel_rfl) rfl (fun _ _ _ h => h) (by kernel_rfl) (⟨x6, p3⟩) (fun w hS_ => by obtain ⟨s_1, s_2⟩ := hS_; go_simp; try rfl) ?_; (try simp only [Act.put, sA, sB, sC]))
            (refine wpF (i := 2) rfl (by kernel_rfl) rfl (fun _ _ _ h => h) (fun _ => by go_simp; try rfl) ?_; (try simp only [Act.put, sA, sB, sC]))
            (refine wpF (i := 3) rfl (by kernel_rfl) rfl (fun _ _ _ h => h) (fun _ => by go_simp; try rfl) ?_; (try simp only [Act.put, sA, sB, sC]))
            (refine wpAnyT_read (i := 4) rfl (by kernel_rfl) rfl (fun _ _ _ h => h) (by kernel_rfl) (⟨x6, p3⟩) (fun w hS_ => by obtain ⟨s_1, s_2⟩ := hS_; go_simp; try rfl) ?_; (try simp only [Act.put, sA, sB, sC]))
            (refine wpF (i := 5) rfl (by kernel_rfl) rfl (fun _ _ _ h => h) (fun _ => by go_simp; try rfl) ?_; (try simp only [Act.put, sA, sB, sC]))
            (refine wpF (i := 6) rfl (by kernel_rfl) rfl (fun _ _ _ h => h) (fun _ => by go_simp; try rfl) ?_; (try simp only [Act.put, sA, sB, sC]))
            (refine wpF (i := 7) rfl (by kernel_rfl) rfl (fun _ _ _ h => h) (fun _ => by go_simp; try rfl) ?_; (try simp only [Act.put, sA, sB, sC]))
            (refine wpF (i := 8) rfl (by kernel_rfl) rfl (fun _ _ _ h => h) (fun _ => by go_simp; try rfl) ?_; (try simp only [Act.put, sA, sB, sC]))
            refine wpAnyT_sink (i := 9) rfl (by kernel_rfl) rfl (by kernel_rfl) ?_
            intro K_ hK_
            go_wp2
            (try (refine hK_ _ _ ?_; clear hK_ K_))
            (try simp only [Act.put, sA, sB, sC])
            refine wpAnyT_done (by kernel_rfl) ?_ _
            gi_wp2
            have h7 := hst.1.fr (S' := Non) ((Fr.refl Non _).drew) (fun _ _ h => h.elim)
            have f7 : Fr (fun x => x = b ∨ x = mb) W (w6.setCell ⟨b, 3, none⟩ (.int .i64 (n : Int))).drew := ((fW.mono (fun x hx e => absurd e (by omega))).trans' f6 (fun x hx e => absurd e (by omega))).trans' (fb.drew) (fun _ _ h => h)
            have hWb : ¬ (W.heap.size = b ∨ W.heap.size = mb) := fun e => e.elim (fun e => hWT (e ▸ hTbb)) (fun e => hWT (e ▸ hTm))
            have hwb : ¬ (w.heap.size = b ∨ w.heap.size = mb) := fun e => e.elim hbb hbm
            have hE7 := hE6.fr fb.drew hWb
            have B7 := B6.fr fb.drew hwb
            clear x6 p3 p4 p5 z3 hst fb h6' hE6 hE4 h4' B6 B4 f4 f6 fW q4 q0 hn2 B3' h3' hE hO
            generalize (w6.setCell ⟨b, 3, none⟩ (.int .i64 (n : Int))).drew = w7 at *
            obtain ⟨A7, c7, E7, O7, hc7, hm7⟩ := hE7
            have x7 := B7.cell 0 (v := .pointer (some ⟨b, 0, none⟩)) rfl
            have y7 := E7.cell 0 (v := .slice A7 v.length c7) rfl
            obtain ⟨-, -, -, -, -, p5, -, -, -⟩ := h7.facts
            have hcl := cloneEye_B Non A7 v c7 w7.drew (O7.rd Non).drew (by omega)
            refine wpIn_region_T #[[], [0], [0], [0], [], [], [], [6], [6], [0, 3, 6]] [0, 3, 6] (fun w' => w'.cell? ⟨w.heap.size, 0, none⟩ = some (.pointer (some ⟨b, 0, none⟩)) ∧ w'.cell? ⟨b, 5, none⟩ = some (.map (some mb)) ∧ w'.cell? ⟨W.heap.size, 0, none⟩ = some (.slice A7 v.length c7)) 10 rfl (by kernel_rfl) (by kernel_rfl) (by rintro ⟨_, _, h_⟩; exact h_.elim) ?_
            (refine wpAnyT_read (i := 0) rfl (by kernel_rfl) rfl (fun _ _ _ h => h) (by kernel_rfl) (⟨x7, p5, y7⟩) (fun w hS_ => by obtain ⟨s_1, s_2, s_3⟩ := hS_; go_simp; try rfl) ?_; (try simp only [Act.put, sA, sB, sC]))
            (refine wpF (i := 1) rfl (by kernel_rfl) rfl (fun _ _ _ h => h) (fun _ => by go_simp; try rfl) ?_; (try simp only [Act.put, sA, sB, sC]))
            (refine wpF (i := 2) rfl (by kernel_rfl) rfl (fun _ _ _ h => h) (fun _ => by go_simp; try rfl) ?_; (try simp only [Act.put, sA, sB, sC]))
            (refine wpAnyT_read (i := 3) rfl (by kernel_rfl) rfl (fun _ _ _ h => h) (by kernel_rfl) (⟨x7, p5, y7⟩) (fun w hS_ => by obtain ⟨s_1, s_2, s_3⟩ := hS_; go_simp; try rfl) ?_; (try simp only [Act.put, sA, sB, sC]))
            (refine wpF (i := 4) rfl (by kernel_rfl) rfl (fun _ _ _ h => h) (fun _ => by go_simp; try rfl) ?_; (try simp only [Act.put, sA, sB, sC]))
            (refine wpF (i := 5) rfl (by kernel_rfl) rfl (fun _ _ _ h => h) (fun _ => by go_simp; try rfl) ?_; (try simp only [Act.put, sA, sB, sC]))
            (refine wpAnyT_read (i := 6) rfl (by kernel_rfl) rfl (fun _ _ _ h => h) (by kernel_rfl) (⟨x7, p5, y7⟩) (fun w hS_ => by obtain ⟨s_1, s_2, s_3⟩ := hS_; go_simp; try rfl) ?_; (try simp only [Act.put, sA, sB, sC]))
            refine wpAnyT_one (i := 7) rfl (by kernel_rfl) rfl ?_
            intro K_ hK_
            go_wp2_with ((go_at_call 132; refine hcl.mono ?_; rintro e w9 ⟨A9, c9, rfl, ho9, hc9, hm9, hb9⟩; have hb9' : Below w7.heap.size w7 w9 := ⟨hb9.os, hb9.tape, hb9.output, hb9.size, hb9.block⟩; have h9' := h7.below hb9'; replace x7 := (hb9'.cell (p := ⟨w.heap.size, 0, none⟩) (cell_lt x7)).trans x7; replace p5 := (hb9'.cell (p := ⟨b, 5, none⟩) (cell_lt p5)).trans p5; replace y7 := (hb9'.cell (p := ⟨W.heap.size, 0, none⟩) (cell_lt y7)).trans y7; clear hcl))
            refine hK_ _ _ ?_ ?_
            · exact fun _ _ => ⟨x7, p5, y7⟩
            clear hK_ K_
            (try simp only [Act.put, sA, sB, sC])
            (refine wpF (i := 8) rfl (by kernel_rfl) rfl (fun _ _ _ h => h) (fun _ => by go_simp; try rfl) ?_; (try simp only [Act.put, sA, sB, sC]))
            refine wpAnyT_sink (i := 9) rfl (by kernel_rfl) rfl (by kernel_rfl) ?_
            intro K_ hK_
            refine oper_mapPut (.tmp 73) (.tmp 74) (.tmp 78) rfl (M := cur.slots) rfl h9'.map (by omega) (k := slot) rfl (by omega) (hd := ⟨n, v⟩) rfl ⟨A9, c9, rfl, hc9, hm9, (Own.of_row' ho9).mono (fun _ _ => trivial)⟩ ?_; intro w10 hm10 f10'
            (try (refine hK_ _ _ ?_; clear hK_ K_))
            (try simp only [Act.put])
            refine wpAnyT_done (by kernel_rfl) ?_ _
            gi_wp2
            exact HN.out _ _ (by rw [show Rc.play cur (.acc slot n v) = ⟨n, cur.base, putN slot ⟨n, v⟩ cur.slots⟩ from by show (⟨max cur.promised n, cur.base, putN slot ⟨n, v⟩ cur.slots⟩ : St) = _; rw [HM.out]]; exact h9'.turnMap' hm10 f10' (hcok.put (p := n) (by omega) hs' hn' hv' hclen)) ((f7.trans' (Fr.of_below (S := Non) hb9') (fun _ _ h => h.elim)).trans' f10' (fun x _ e => .inr e))
          · have hmx' : ¬ (cur.promised : Int) < (n : Int) := by omega
            have HM := Lib.hid (show max cur.promised n = cur.promised by omega)
            clear hmx
            gi_wp2_with (first
              | (refine ⟨trivial, ?_⟩; gi_at_call 131; refine (CallsIn.inRound l (callsIn_wide.2 hn1)).mono ?_; rintro e w4 ⟨rfl, hE4, f4⟩; have h4' := h3'.eye f4 hWT; have fW : Fr (fun x => x = W.heap.size) W w4 := (Fr.of_below (S := fun x => x = W.heap.size) hbel).trans' f4 (fun _ _ h => h); have q4 := (cell_eq (a := ad) (fW.byt ad.block qb)).trans q0; have B4 := B3'.fr f4 hWw; have x4 := B4.cell 0 (v := .pointer (some ⟨b, 0, none⟩)) rfl; obtain ⟨-, -, -, p3, p4, p5, -, z3, -⟩ := h4'.facts; clear hn1; have hn2 := hE4.num (n := n) (rest := v) rfl (by omega))
              | (refine ⟨trivial, ?_⟩; gi_at_call 131; refine (CallsIn.inRound l (callsIn_wide.2 hn2)).mono ?_; rintro e w6 ⟨rfl, hE6, f6⟩; have h6' := h4'.eye f6 hWT; have B6 := B4.fr f6 hWw; clear x4 p3 p4 p5 z3; have x6 := B6.cell 0 (v := .pointer (some ⟨b, 0, none⟩)) rfl; obtain ⟨-, -, -, p3, p4, p5, -, z3, -⟩ := h6'.facts; have hst := h6'.setPr cur.promised (by omega); have fb : Fr (fun x => x = b ∨ x = mb) w6 (w6.setCell ⟨b, 3, none⟩ (.int .i64 (cur.promised : Int))) := (Fr.refl (fun x => x = b ∨ x = mb) _).setCell (p := ⟨b, 3, none⟩) (.inl (.inl rfl)) (h6'.blk.notB (by decide)) _))
            refine wpIn_region_T #[[], [], [1], [1], [1], [], [1, 4], [0, 1, 4], [0, 1, 4], [0, 1, 4]] [0, 1, 4] (fun w' => w'.cell? ⟨w.heap.size, 0, none⟩ = some (.pointer (some ⟨b, 0, none⟩)) ∧ w'.cell? ⟨b, 3, none⟩ = some (.int .i64 (cur.promised : Int))) 10 rfl (by kernel_rfl) (by kernel_rfl) (by rintro ⟨_, _, h_⟩; exact h_.elim) ?_
            (refine wpAnyT_read (i := 0) rfl (by kernel_rfl) rfl (fun _ _ _ h => h) (by kernel_rfl) (⟨x6, p3⟩) (fun w hS_ => by obtain ⟨s_1, s_2⟩ := hS_; go_simp; try rfl) ?_; (try simp only [Act.put, sA, sB, sC]))
            (refine wpAnyT_read (i := 1) rfl (by kernel_rfl) rfl (fun _ _ _ h => h) (by kernel_rfl) (⟨x6, p3⟩) (fun w hS_ => by obtain ⟨s_1, s_2⟩ := hS_; go_simp; try rfl) ?_; (try simp only [Act.put, sA, sB, sC]))
            (refine wpF (i := 2) rfl (by kernel_rfl) rfl (fun _ _ _ h => h) (fun _ => by go_simp; try rfl) ?_; (try simp only [Act.put, sA, sB, sC]))
            (refine wpF (i := 3) rfl (by kernel_rfl) rfl (fun _ _ _ h => h) (fun _ => by go_simp; try rfl) ?_; (try simp only [Act.put, sA, sB, sC]))
            (refine wpAnyT_read (i := 4) rfl (by kernel_rfl) rfl (fun _ _ _ h => h) (by kernel_rfl) (⟨x6, p3⟩) (fun w hS_ => by obtain ⟨s_1, s_2⟩ := hS_; go_simp; try rfl) ?_; (try simp only [Act.put, sA, sB, sC]))
            (refine wpF (i := 5) rfl (by kernel_rfl) rfl (fun _ _ _ h => h) (fun _ => by go_simp; try rfl) ?_; (try simp only [Act.put, sA, sB, sC]))
            (refine wpF (i := 6) rfl (by kernel_rfl) rfl (fun _ _ _ h => h) (fun _ => by go_simp; try rfl) ?_; (try simp only [Act.put, sA, sB, sC]))
            (refine wpF (i := 7) rfl (by kernel_rfl) rfl (fun _ _ _ h => h) (fun _ => by go_simp; try rfl) ?_; (try simp only [Act.put, sA, sB, sC]))
            (refine wpF (i := 8) rfl (by kernel_rfl) rfl (fun _ _ _ h => h) (fun _ => by go_simp; try rfl) ?_; (try simp only [Act.put, sA, sB, sC]))
            refine wpAnyT_sink (i := 9) rfl (by kernel_rfl) rfl (by kernel_rfl) ?_
            intro K_ hK_
            go_wp2
            (try (refine hK_ _ _ ?_; clear hK_ K_))
            (try simp only [Act.put, sA, sB, sC])
            refine wpAnyT_done (by kernel_rfl) ?_ _
            gi_wp2
            have h7 := hst.1.fr (S' := Non) ((Fr.refl Non _).drew) (fun _ _ h => h.elim)
            have f7 : Fr (fun x => x = b ∨ x = mb) W (w6.setCell ⟨b, 3, none⟩ (.int .i64 (cur.promised : Int))).drew := ((fW.mono (fun x hx e => absurd e (by omega))).trans' f6 (fun x hx e => absurd e (by omega))).trans' (fb.drew) (fun _ _ h => h)
            have hWb : ¬ (W.heap.size = b ∨ W.heap.size = mb) := fun e => e.elim (fun e => hWT (e ▸ hTbb)) (fun e => hWT (e ▸ hTm))
            have hwb : ¬ (w.heap.size = b ∨ w.heap.size = mb) := fun e => e.elim hbb hbm
            have hE7 := hE6.fr fb.drew hWb
            have B7 := B6.fr fb.drew hwb
            clear x6 p3 p4 p5 z3 hst fb h6' hE6 hE4 h4' B6 B4 f4 f6 fW q4 q0 hn2 B3' h3' hE hO
            generalize (w6.setCell ⟨b, 3, none⟩ (.int .i64 (cur.promised : Int))).drew = w7 at *
            obtain ⟨A7, c7, E7, O7, hc7, hm7⟩ := hE7
            have x7 := B7.cell 0 (v := .pointer (some ⟨b, 0, none⟩)) rfl
            have y7 := E7.cell 0 (v := .slice A7 v.length c7) rfl
            obtain ⟨-, -, -, -, -, p5, -, -, -⟩ := h7.facts
            have hcl := cloneEye_B Non A7 v c7 w7.drew (O7.rd Non).drew (by omega)
            refine wpIn_region_T #[[], [0], [0], [0], [], [], [], [6], [6], [0, 3, 6]] [0, 3, 6] (fun w' => w'.cell? ⟨w.heap.size, 0, none⟩ = some (.pointer (some ⟨b, 0, none⟩)) ∧ w'.cell? ⟨b, 5, none⟩ = some (.map (some mb)) ∧ w'.cell? ⟨W.heap.size, 0, none⟩ = some (.slice A7 v.length c7)) 10 rfl (by kernel_rfl) (by kernel_rfl) (by rintro ⟨_, _, h_⟩; exact h_.elim) ?_
            (refine wpAnyT_read (i := 0) rfl (by kernel_rfl) rfl (fun _ _ _ h => h) (by kernel_rfl) (⟨x7, p5, y7⟩) (fun w hS_ => by obtain ⟨s_1, s_2, s_3⟩ := hS_; go_simp; try rfl) ?_; (try simp only [Act.put, sA, sB, sC]))
            (refine wpF (i := 1) rfl (by kernel_rfl) rfl (fun _ _ _ h => h) (fun _ => by go_simp; try rfl) ?_; (try simp only [Act.put, sA, sB, sC]))
            (refine wpF (i := 2) rfl (by kernel_rfl) rfl (fun _ _ _ h => h) (fun _ => by go_simp; try rfl) ?_; (try simp only [Act.put, sA, sB, sC]))
            (refine wpAnyT_read (i := 3) rfl (by kernel_rfl) rfl (fun _ _ _ h => h) (by kernel_rfl) (⟨x7, p5, y7⟩) (fun w hS_ => by obtain ⟨s_1, s_2, s_3⟩ := hS_; go_simp; try rfl) ?_; (try simp only [Act.put, sA, sB, sC]))
            (refine wpF (i := 4) rfl (by kernel_rfl) rfl (fun _ _ _ h => h) (fun _ => by go_simp; try rfl) ?_; (try simp only [Act.put, sA, sB, sC]))
            (refine wpF (i := 5) rfl (by kernel_rfl) rfl (fun _ _ _ h => h) (fun _ => by go_simp; try rfl) ?_; (try simp only [Act.put, sA, sB, sC]))
            (refine wpAnyT_read (i := 6) rfl (by kernel_rfl) rfl (fun _ _ _ h => h) (by kernel_rfl) (⟨x7, p5, y7⟩) (fun w hS_ => by obtain ⟨s_1, s_2, s_3⟩ := hS_; go_simp; try rfl) ?_; (try simp only [Act.put, sA, sB, sC]))
            refine wpAnyT_one (i := 7) rfl (by kernel_rfl) rfl ?_
            intro K_ hK_
            go_wp2_with ((go_at_call 132; refine hcl.mono ?_; rintro e w9 ⟨A9, c9, rfl, ho9, hc9, hm9, hb9⟩; have hb9' : Below w7.heap.size w7 w9 := ⟨hb9.os, hb9.tape, hb9.output, hb9.size, hb9.block⟩; have h9' := h7.below hb9'; replace x7 := (hb9'.cell (p := ⟨w.heap.size, 0, none⟩) (cell_lt x7)).trans x7; replace p5 := (hb9'.cell (p := ⟨b, 5, none⟩) (cell_lt p5)).trans p5; replace y7 := (hb9'.cell (p := ⟨W.heap.size, 0, none⟩) (cell_lt y7)).trans y7; clear hcl))
            refine hK_ _ _ ?_ ?_
            · exact fun _ _ => ⟨x7, p5, y7⟩
            clear hK_ K_
            (try simp only [Act.put, sA, sB, sC])
            (refine wpF (i := 8) rfl (by kernel_rfl) rfl (fun _ _ _ h => h) (fun _ => by go_simp; try rfl) ?_; (try simp only [Act.put, sA, sB, sC]))
            refine wpAnyT_sink (i := 9) rfl (by kernel_rfl) rfl (by kernel_rfl) ?_
            intro K_ hK_
            refine oper_mapPut (.tmp 73) (.tmp 74) (.tmp 78) rfl (M := cur.slots) rfl h9'.map (by omega) (k := slot) rfl (by omega) (hd := ⟨n, v⟩) rfl ⟨A9, c9, rfl, hc9, hm9, (Own.of_row' ho9).mono (fun _ _ => trivial)⟩ ?_; intro w10 hm10 f10'
            (try (refine hK_ _ _ ?_; clear hK_ K_))
            (try simp only [Act.put])
            refine wpAnyT_done (by kernel_rfl) ?_ _
            gi_wp2
            exact HN.out _ _ (by rw [show Rc.play cur (.acc slot n v) = ⟨cur.promised, cur.base, putN slot ⟨n, v⟩ cur.slots⟩ from by show (⟨max cur.promised n, cur.base, putN slot ⟨n, v⟩ cur.slots⟩ : St) = _; rw [HM.out]]; exact h9'.turnMap' hm10 f10' (hcok.put (p := cur.promised) (by omega) hs' hn' hv' hclen)) ((f7.trans' (Fr.of_below (S := Non) hb9') (fun _ _ h => h.elim)).trans' f10' (fun x _ e => .inr e))
        | forget n =>
          have hn' : n ≤ 1099511627776 := hro
          obtain ⟨rest, hre⟩ : ∃ l, numB n = l := ⟨_, rfl⟩
          have hrl : (Rc.forget n).enc.length = rest.length + 1 := by show (3 :: (numB n)).length = _; rw [hre]; rfl
          rw [show (Rc.forget n).enc = 3 :: rest from by show 3 :: (numB n) = _; rw [hre]] at h3
          rw [hrl] at h4 ⊢
          obtain ⟨ad, rfl, q0, qb, -⟩ := h3 0 3 rfl
          replace q0 : W.cell? ad = some (.int .u8 3) := q0
          have HR := Lib.hid hre
          have hrp : 1 ≤ rest.length := by rw [← hre]; exact numB_pos n
          clear hre hrl
          unfold maxLen at h5
          have k1 : (1 : Int) ≤ (rest.length : Int) + 1 := by omega
          have k2 : (rest.length : Int) + 1 ≤ (c : Int) := by omega
          have k3 : ¬ c = 1 := by omega
          have hO : Own Ever (W.alloc (.cells #[.slice (some ⟨ad.block, ad.off + 1, none⟩) rest.length (c - 1)] TEy)) (some ⟨ad.block, ad.off + 1, none⟩) rest := by
            have := h3.drop 1 c h4
            rw [if_neg k3] at this
            exact (this.mono (fun _ _ => trivial)).fr (S' := Non) (Fr.of_below (below_new _ _))
          have hE : EyeAt (W.alloc (.cells #[.slice (some ⟨ad.block, ad.off + 1, none⟩) rest.length (c - 1)] TEy)) W.heap.size rest := ⟨_, _, Blk.new _ _ _, hO, by omega, by unfold maxLen; omega⟩
          have hn1 := hE.num (n := n) (rest := []) (by rw [← HR.out, List.append_nil]) (by omega)
          have hbel := below_new W (.cells #[.slice (some ⟨ad.block, ad.off + 1, none⟩) rest.length (c - 1)] TEy)
          have h3' := hso.below hbel
          have B3' := hbx.below' hbel
          gi_wp2_with (first
            | (refine ⟨trivial, ?_⟩; gi_at_call 131; refine (CallsIn.inRound l (callsIn_wide.2 hn1)).mono ?_; rintro e w4 ⟨rfl, hE4, f4⟩; have h4' := h3'.eye f4 hWT; have fW : Fr (fun x => x = W.heap.size) W w4 := (Fr.of_below (S := fun x => x = W.heap.size) hbel).trans' f4 (fun _ _ h => h); have q4 := (cell_eq (a := ad) (fW.byt ad.block qb)).trans q0; have B4 := B3'.fr f4 hWw; have x4 := B4.cell 0 (v := .pointer (some ⟨b, 0, none⟩)) rfl; obtain ⟨-, -, -, p3, p4, p5, -, z3, -⟩ := h4'.facts; clear hn1; have hri := riseS h4' n hn')
            | (refine ⟨trivial, ?_⟩; gi_at_call 123; refine (CallsIn.inRound l (callsIn_wide.2 hri)).mono ?_; rintro e w5 ⟨rfl, h5, f5⟩))
          exact HN.out _ _ h5 ((fW.mono (fun x hx e => absurd e (by omega))).trans' f5 (fun _ _ h => h))
      case done =>
        rintro D' k W hD hk hI hK
        gi_wp2
        go_wp2
        simp only [bodyPostM]
        refine ⟨by simp, .inl ⟨_, _, rfl, run_takeDeferred hK, ?_⟩⟩
        have hDw : w.heap.size ≤ D' := Nat.le_trans f10.size hD
        have ck : CK W (W.putObj D' (.deferred none)) := CK.putObj hK rfl
        have hkl : (rcs.take k) = rcs := List.take_of_length_le (by rw [hk, hgs.1]; exact Nat.le_refl _)
        have hso := hI.so
        rw [hkl] at hso
        have fpo := hI.fr.putObj (o := .deferred none) hDw
        have hso2 := hso.kp (w' := W.putObj D' (.deferred none)) (fun x hx => World.putObj_heap_other (by have := h10.lt x hx; omega)) ck.1 (fun x hx => by obtain ⟨cs, fz, hx⟩ := hx; exact ck.2 _ _ _ _ hx)
        refine ⟨_, results_tmp rfl _ _ _, rfl, ⟨b, rfl, T1, T2, lb, db, mb, hso2.mono (S' := Up S w (W.putObj D' (.deferred none))) (fun x hx => ?_) (Up.lt h.lt fpo.size)⟩, fpo⟩
        exact (hT x hx).imp_right (fun q => ⟨by omega, hso2.lt x hx⟩)
    · intro x c kl y ps w2 cnt' hkey hlx hR hat hrg' hlt hg hs hen
      obtain ⟨z, hz, rfl⟩ := hlk kl hlx
      obtain rfl := key_of hkey rfl
      have hzb := HB.out z hz
      have hf2 := hf.next hg (Nat.le_refl _)
      have hm' := hrg'.left_eq
      have B4 := B3.fr hf2 hbm
      have y4 := B4.cell 0 (v := .pointer (some ⟨b, 0, none⟩)) rfl
      have g5 := (h3.blk.fr hf2 h3.ne).cell 5 (v := .map (some mb)) rfl
      have hlk' : ∀ kl, (left kl && !kl.sameKey (litN z.1)) = true → ∃ z ∈ Z, litN z.1 = kl := fun kl hk => hlk kl (by simp only [Bool.and_eq_true] at hk; exact hk.1)
      clear hR hat hs hkey e5 x3
      go_wp2_with (first
        | (at_delete; refine wpList_delete_ranges _ rfl _ _ TMp TIn rfl THd intKey Tryz.underlying98 heldR mb w3.heap.size Z.length _ _ cnt' rfl hrg' (.int .i64 (z.1 : Int)) (litN z.1) rfl (keyOf_nat z.1 hzb) ?_; intro w5 cnt3 hrg3 hle3 hturn3))
      simp only [Act.put]
      go_roundw
      case rel =>
        rw [Maps.strike_twice, mapD_del, stays_del (by omega)] at hrg3
        exact ⟨_, cnt3, hrg3, hlk', hf2.trans' (Fr.turned hturn3) (fun _ _ h => h)⟩
      case measure => rw [hrg3.left_eq, hmeas]; omega
end
end Go.Proofs.YtediidajdpdeiaaGreatDoor

/- A store's Forget (layer 8): the walk. -/
namespace Go.Proofs.YtediidajdpdeiaaGreatDoor
open Go.RowKit CrcM
set_option maxRecDepth 100000

section
variable {S S1 S2 : Nat → Prop} {w w' : World} {b lb db mb : Nat} {s : So}
theorem forgetS (h : SoO S S1 S2 w b lb db mb s) (hh : HalfAt w) (hlen : s.log.len ≤ 4611686018427387904) (n : Int) :
    Calls Tryz.prog 68 #[.pointer (some ⟨b, 0, none⟩), .int .i64 n] w (SoDid S w (.pointer (some ⟨b, 0, none⟩)) (s.forget n)) := by
  have hb1 := below_new w (.cells #[.int .i64 n] TIn)
  have h1 := h.below hb1
  obtain ⟨c0, c1, c2, c3, c4, c5, z1, z3, z4⟩ := h1.facts
  have ha := askedS h1 (some ⟨w.heap.size, 0, none⟩) [n] 1 (fun j m hj => ⟨_, _, rfl, int_cells (xs := [n]) j m hj⟩) (by simp)
  rw [List.length_singleton, ask1] at ha
  have hpr := h.ok.pr
  cases hdn : s.log.down
  · rw [hdn] at ha
    by_cases hn : numOk n
    · have hn' := hn
      unfold numOk at hn'
      obtain ⟨k, rfl⟩ : ∃ k : Nat, n = k := ⟨n.toNat, by omega⟩
      simp only [Bool.false_eq_true, if_false, if_pos hn] at ha
      by_cases h2 : (k : Int) ≤ (s.st.base : Int)
      · have HE := Lib.hid (show s.forget k = (s, 0) from by unfold So.forget; rw [hdn, if_neg (by simp), if_neg (by simpa using hn), if_pos h2])
        clear hdn hn
        go_enter Tryz.func68, Tryz.ntmps68
        go_wp2_with (go_at_call 53; refine ha.mono ?_; rintro e w' ⟨rfl, rfl⟩)
        go_ret
        rw [HE.out]
        exact h.did hb1 0
      · have he : s.forget k = s.put (Rc.forget k).enc (s.st.rise k) := by
          unfold So.forget
          rw [hdn, if_neg (by simp), if_neg (by simpa using hn), if_neg h2, Int.toNat_natCast]
        have hb2 := below_new (w.alloc (.cells #[.int .i64 (k : Int)] TIn)) (.cells #[.int .u8 3] TB)
        have h2w := h1.below hb2
        have hO : Own Ever ((w.alloc (.cells #[.int .i64 (k : Int)] TIn)).alloc (.cells #[.int .u8 3] TB)) (some ⟨w.heap.size + 1, 0, none⟩) [3] := by
          have := Own.of_cells Ever (heap_alloc_new (w.alloc (.cells #[.int .i64 (k : Int)] TIn)) (.cells #[.int .u8 3] TB)) (l := [3]) trivial rfl
          simpa using this
        have hbw := hb1.trans (hb2.mono hb1.size)
        have hhw := hh.below hbw hh.lt
        obtain ⟨rec, hrec⟩ : ∃ r, [3] ++ numB k = r := ⟨_, rfl⟩
        have henc : (Rc.forget k).enc = rec := hrec
        have hrl : rec.length ≤ 11 := by have := numB_10 (n := k) (by omega); rw [← hrec, List.length_append]; simp; omega
        have hnum := Num_B ((w.alloc (.cells #[.int .i64 (k : Int)] TIn)).alloc (.cells #[.int .u8 3] TB)) ((w.alloc (.cells #[.int .i64 (k : Int)] TIn)).alloc (.cells #[.int .u8 3] TB)) (Below.refl _ _) (some ⟨w.heap.size + 1, 0, none⟩) 1 [3] (hO.rd Non) (by simp) k (by omega)
        rw [hrec] at hnum
        rw [henc] at he
        rw [List.length_singleton] at hnum
        have HL := Lib.hid hlen
        clear hdn hn hrec henc hlen
        by_cases hc : (s.log.append rec).2.2 = 0
        · have HE := Lib.hid (show s.forget k = (⟨s.per, (s.log.append rec).1, s.snap, s.st.rise k⟩, 0) from by rw [he]; unfold So.put; rw [if_pos hc])
          have HC := Lib.hid hc
          clear he hc
          go_enter Tryz.func68, Tryz.ntmps68
          go_wp2_with (first
            | (go_at_call 53; refine ha.mono ?_; rintro e w' ⟨rfl, rfl⟩)
            | (go_at_call 54; refine hnum.mono ?_; rintro e w3 ⟨v3, rfl, ho3, hb3⟩; obtain ⟨A3, c3, rfl, hc3, hm3⟩ := own_val ho3; have hO3 : Own Ever w3 A3 rec := (Own.of_row ho3 rfl).mono (fun _ _ => trivial); have h3w := h2w.below hb3; obtain ⟨d0, d1, d2, d3, d4, d5, -, -, -⟩ := h3w.facts; have hap := h3w.append (hhw.below hb3 hhw.lt) HL.out A3 rec c3 hO3 (by omega); rw [HC.out] at hap)
            | (go_at_call 55; refine hap.mono ?_; rintro e w4 ⟨rfl, h4, hf4⟩; have hri := riseS h4 k (by omega))
            | (go_at_call 123; refine hri.mono ?_; rintro e w5 ⟨rfl, h5, f5⟩; replace f5 := f5.mono (S' := Up S w3 w4) (fun x _ e => e.elim (fun e => e ▸ h4.hb) (fun e => e ▸ h4.hm))))
          go_ret
          rw [HE.out]
          exact SoDid.from (hbw.trans (hb3.mono hbw.size)) h.lt ⟨rfl, h5.is.up2 hf4.size f5.size (fun x hx => Nat.lt_of_lt_of_le (h.lt x hx) (hbw.trans (hb3.mono hbw.size)).size), Up.fr2 hf4 f5⟩
        · have HE := Lib.hid (show s.forget k = (⟨s.per, (s.log.append rec).1, s.snap, s.st⟩, (s.log.append rec).2.2) from by rw [he]; unfold So.put; rw [if_neg hc])
          have hc' : ((s.log.append rec).2.2 != 0) = true := by simpa using hc
          clear he hc
          go_enter Tryz.func68, Tryz.ntmps68
          go_wp2_with (first
            | (go_at_call 53; refine ha.mono ?_; rintro e w' ⟨rfl, rfl⟩)
            | (go_at_call 54; refine hnum.mono ?_; rintro e w3 ⟨v3, rfl, ho3, hb3⟩; obtain ⟨A3, c3, rfl, hc3, hm3⟩ := own_val ho3; have hO3 : Own Ever w3 A3 rec := (Own.of_row ho3 rfl).mono (fun _ _ => trivial); have h3w := h2w.below hb3; obtain ⟨d0, d1, d2, d3, d4, d5, -, -, -⟩ := h3w.facts; have hap := h3w.append (hhw.below hb3 hhw.lt) HL.out A3 rec c3 hO3 (by omega))
            | (go_at_call 55; refine hap.mono ?_; rintro e w4 ⟨rfl, h4, hf4⟩))
          go_ret
          rw [HE.out]
          exact SoDid.from (hbw.trans (hb3.mono hbw.size)) h.lt ⟨rfl, h4.is, hf4⟩
    · have HE := Lib.hid (show s.forget n = (s, 2) from by unfold So.forget; rw [hdn, if_neg (by simp), if_pos hn])
      simp only [Bool.false_eq_true, if_false, if_neg hn] at ha
      clear hdn hn
      go_enter Tryz.func68, Tryz.ntmps68
      go_wp2_with (go_at_call 53; refine ha.mono ?_; rintro e w' ⟨rfl, rfl⟩)
      go_ret
      rw [HE.out]
      exact h.did hb1 2
  · have HE := Lib.hid (show s.forget n = (s, 10) from by unfold So.forget; rw [hdn, if_pos rfl])
    rw [hdn] at ha
    simp only [if_true] at ha
    clear hdn
    go_enter Tryz.func68, Tryz.ntmps68
    go_wp2_with (go_at_call 53; refine ha.mono ?_; rintro e w' ⟨rfl, rfl⟩)
    go_ret
    rw [HE.out]
    exact h.did hb1 10
end
end Go.Proofs.YtediidajdpdeiaaGreatDoor
