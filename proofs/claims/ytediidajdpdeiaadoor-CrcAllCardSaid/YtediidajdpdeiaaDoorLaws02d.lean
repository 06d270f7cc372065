/- CrcAll: the law's walk. -/
import Derived.Test.YtediidajdpdeiaaDoorLaws02c
import Derived.Test.YtediidajdpdeiaaDoorApp
namespace Go.Proofs.YtediidajdpdeiaaDoor
open Go.RowKit CrcM
set_option maxRecDepth 100000

abbrev TI : TypeId := 3
theorem info_int : (Tryd.prog.info? TI).map (fun i => (i.zero, i.size, i.bytes)) = some (some (.int .i64 0), 1, 8) := by kernel_rfl

/-- where the first k frames begin -/
def starts (bs : List (List UInt8)) (k : Nat) : List Value := (List.range k).map fun j => Value.int .i64 ((frames (bs.take j)).length : Int)
theorem starts_succ (bs : List (List UInt8)) (k : Nat) : starts bs (k + 1) = starts bs k ++ [Value.int .i64 ((frames (bs.take k)).length : Int)] := by
  simp [starts, List.range_succ]
theorem RdB.below {W W' : World} {A : Option Addr} {l : List UInt8} (h : RdB W A l) (hb : Below W.heap.size W W') : RdB W' A l := fun i x hx => by
  obtain ⟨ad, e, hlt, hc⟩ := h i x hx
  exact ⟨ad, e, Nat.lt_of_lt_of_le hlt hb.size, (hb.cell (p := ad.add i) (by rw [add_block]; exact hlt)).trans hc⟩
theorem RdBs.below {W W' : World} {A : Option Addr} {ls : List (List UInt8)} (h : RdBs W A ls) (hb : Below W.heap.size W W') : RdBs W' A ls := fun j l hl => by
  obtain ⟨g, o, B, c, e, hg, hc, h1, h2, h3⟩ := h j l hl
  exact ⟨g, o, B, c, e, Nat.lt_of_lt_of_le hg hb.size, (hb.cell (p := ⟨g, o + j, none⟩) hg).trans hc, h1, h2, h3.below hb⟩

/-- what the law's loop has made behind k rounds -/
structure AllL (W : World) (A0 : Option Addr) (xs : List (List UInt8)) (c0 m0 k : Nat) (v va : Value) (w : World) : Prop where
  z0 : Blk w W.heap.size 45 #[.slice A0 xs.length c0]
  z1 : Blk w (W.heap.size + 1) TI #[.int .i64 (m0 : Int)]
  z2 : Blk w (W.heap.size + 2) 46 #[va]
  rowB : w.ownsRow (W.heap.size + 3) TB 1 v (frames ((bodies xs).take k)).length ((frames ((bodies xs).take k)).map byteV)
  rowI : w.ownsRow (W.heap.size + 3) TI 1 va k (starts (bodies xs) k)
  bel : Below W.heap.size W w
  sz : W.heap.size + 3 ≤ w.heap.size

theorem AllL.below {W : World} {A0 : Option Addr} {xs : List (List UInt8)} {c0 m0 k : Nat} {v va : Value} {w w' : World} (h : AllL W A0 xs c0 m0 k v va w) (hb : Below w.heap.size w w') : AllL W A0 xs c0 m0 k v va w' :=
  ⟨h.z0.below hb, h.z1.below hb, h.z2.below hb, ownsRow_below h.rowB hb, ownsRow_below h.rowI hb, h.bel.trans (hb.mono h.bel.size), Nat.le_trans h.sz hb.size⟩

theorem AllL.next {W : World} {A0 : Option Addr} {xs : List (List UInt8)} {c0 m0 k L m : Nat} {Av Aa : Option Addr} {cv ca : Nat} {bx : List UInt8} {v5 : Value} {w4 w5 : World}
    (HLL : (frames ((bodies xs).take k)).length = L) (HFR : frames ((bodies xs).take (k + 1)) = frames ((bodies xs).take k) ++ frame bx) (HST : starts (bodies xs) (k + 1) = starts (bodies xs) k ++ [Value.int .i64 (L : Int)]) (HM : (frame bx).length = m)
    (hB5 : w5.ownsRow (W.heap.size + 3) TB 1 v5 (L + m) ((frames ((bodies xs).take k) ++ frame bx).map byteV)) (hg5 : w4.grownBy w5 (Value.slice Av L cv).ownBlock)
    (zw0 : Blk w4 W.heap.size 45 #[.slice A0 xs.length c0]) (zw1 : Blk w4 (W.heap.size + 1) TI #[.int .i64 (m0 : Int)]) (zw2 : Blk w4 (W.heap.size + 2) 46 #[.slice Aa (k + 1) ca])
    (rB4 : w4.ownsRow (W.heap.size + 3) TB 1 (.slice Av L cv) L ((frames ((bodies xs).take k)).map byteV)) (rI4 : w4.ownsRow (W.heap.size + 3) TI 1 (.slice Aa (k + 1) ca) (k + 1) (starts (bodies xs) k ++ [Value.int .i64 (L : Int)]))
    (hB4 : Below W.heap.size W w4) (sz4 : W.heap.size + 3 ≤ w4.heap.size) : AllL W A0 xs c0 m0 (k + 1) v5 (.slice Aa (k + 1) ca) w5 := by
  have e1 : L + m = (frames ((bodies xs).take (k + 1))).length := by rw [HFR, List.length_append, HM, HLL]
  rw [e1, ← HFR] at hB5
  refine ⟨zw0.grown hg5 (row_ne rB4 (by omega)), zw1.grown hg5 (row_ne rB4 (by omega)), zw2.grown hg5 (row_ne rB4 (by omega)), hB5, ?_, hB4.grown hg5 hB4.size (fun j hj => by have := (rB4.lt j hj).1; omega), Nat.le_trans sz4 hg5.size⟩
  rw [HST]
  exact rI4.kept hg5 (ownsRow_apart rI4 rB4 (show TI ≠ TB by decide))

/-- where no frame stands any more, all that were laid lie behind -/
theorem end_ge (bs : List (List UInt8)) (hb : ∀ x ∈ bs, x.length ≤ 65536) (tl : List UInt8) {k' p : Nat} {r : Int} (hp : Pos (frames bs ++ tl) k' p) (he : next (frames bs ++ tl) p = .error r) : bs.length ≤ k' ∧ (frames bs).length ≤ p := by
  have h1 : bs.length ≤ k' := by
    rcases Nat.lt_or_ge k' bs.length with hlt | hge
    · exfalso
      obtain ⟨x, hx⟩ : ∃ x, bs[k']? = some x := ⟨_, List.getElem?_eq_getElem hlt⟩
      have h2 := next_frames bs hb tl k' x hx
      rw [← hp.det (pos_frames bs hb tl k' (by omega)), he] at h2
      cases h2
    · exact hge
  have h2 := pos_frames bs hb tl bs.length (Nat.le_refl _)
  rw [List.take_length] at h2
  exact ⟨h1, h2.mono hp h1⟩
/-- what the law learns of the rounds -/
theorem all_out {W1 W4 : World} {m0 : Nat} (hm0 : m0 < 12) (bs : List (List UInt8)) (hb : ∀ x ∈ bs, x.length ≤ 65536) (tl : List UInt8) (h : (∃ k, AllS (frames bs ++ tl) k ∧ AllJ W1 m0 k W4) ∨ ∃ k, AllJx W1 m0 k W4) :
    ∃ k' : Nat, Below W1.heap.size W1 W4 ∧ W4.cell? ⟨W1.heap.size, 0, none⟩ = some (.int .i64 (k' : Int)) ∧ W4.cell? ⟨W1.heap.size + 1, 0, none⟩ = some (.bool true) ∧
      ((bs.length ≤ k' ∧ (m0 = 0 ∨ k' < m0)) ∨ (0 < m0 ∧ k' = m0)) ∧ (tl = [] → m0 = 0 → k' = bs.length) := by
  rcases h with ⟨k, ⟨at_, r, hp, he⟩, h1, h2, h3, h4, h5, h6⟩ | ⟨k, h1, h2, h3, h4, h5⟩
  · have h7 := end_ge bs hb tl hp he
    refine ⟨k, h1, h2, h4, .inl ⟨h7.1, h6⟩, fun htl _ => ?_⟩
    subst htl
    have h8 := pos_frames bs hb [] bs.length (Nat.le_refl _)
    have h9 := next_end (frames bs ++ [])
    rw [List.take_length] at h8
    rw [List.append_nil] at h8 h9 hp he
    exact (hp.end_ he h8 h9).1
  · exact ⟨k, h1, h2, h3, .inr ⟨h4, h5⟩, fun _ h => by omega⟩

set_option maxHeartbeats 6000000 in
theorem allLaw_02 (W : World) (hh : HalfAt W) (A0 : Option Addr) (xs : List (List UInt8)) (c0 : Nat) (hlen : xs.length ≤ maxLen) (hxs : RdBs W A0 xs)
    (B : Option Addr) (tail : List UInt8) (d : Nat) (hs : Rd Non W B tail) (hn' : tail.length ≤ d) (hm' : d ≤ maxLen) (n : Int) (hi : i64 n) :
    Calls Tryd.prog 9 #[.slice A0 xs.length c0, .slice B tail.length d, .int .i64 n] W fun e w' => e = .returned (.bool true) ∧ Below W.heap.size W w' := by
  obtain ⟨iu, hu, hzu, hsu, hbu⟩ := info_parts info_u8
  obtain ⟨ii, hii, hzi, hsi, hbi⟩ := info_parts info_int
  unfold i64 at hi
  unfold maxLen at hlen
  have hb := rem_any n 12 (by omega)
  obtain ⟨m0, hk1, hk2, hk3⟩ := rem_up n 12 (by omega)
  generalize ht : n.tmod 12 = t at *
  obtain ⟨K, hK⟩ : ∃ K, (bodies xs).length = K := ⟨_, rfl⟩
  have hK2 : K = min 20 xs.length := by rw [← hK]; simp [bodies]
  have HK := Lib.hid hK
  have hle := bodies_le xs
  have HLE := Lib.hid hle
  have hfw := fun (w : World) (hb : Below W.heap.size W w) => few_B w B tail d tail.length (hs.below hb) rfl hn' hm'
  have htl : (tail.take 3000).length ≤ 3000 := by rw [List.length_take]; omega
  have htl0 : tail.length = 0 → tail.take 3000 = [] := fun h => by rw [List.eq_nil_of_length_eq_zero h]; rfl
  generalize tail.take 3000 = tl at *
  have HT0 := Lib.hid htl0
  have HX := Lib.hid hxs
  clear hK hle hs hn' hm' htl0 hxs
  have kf := fun (f : Fn) (a c : Array Value) (w : World) => run_eql_func_nil (P := Tryd.prog) Tryd.underlying48 f a c w
  go_enter Tryd.func9, Tryd.ntmps9
  go_wp2_with fail
  have hL0 : AllL W A0 xs c0 m0 0 (.slice none 0 0) (.slice none 0 0) (((W.alloc (.cells #[.slice A0 xs.length c0] 45)).alloc (.cells #[.int .i64 (m0 : Int)] TI)).alloc (.cells #[.slice none 0 0] 46)) := by
    have z0 : Blk (W.alloc (.cells #[.slice A0 xs.length c0] 45)) W.heap.size 45 #[.slice A0 xs.length c0] := Blk.new _ _ _
    have z1 : Blk ((W.alloc (.cells #[.slice A0 xs.length c0] 45)).alloc (.cells #[.int .i64 (m0 : Int)] TI)) (W.heap.size + 1) TI #[.int .i64 (m0 : Int)] := Blk.new' _ _ _ (by simp)
    exact ⟨(z0.alloc _).alloc _, z1.alloc _, Blk.new' _ _ _ (by simp), World.ownsRow_nil _ _ _ _, World.ownsRow_nil _ _ _ _, (((Below.refl _ _).alloc (Nat.le_refl _) _).alloc (by simp) _).alloc (by simp; omega) _, by simp⟩
  generalize ((W.alloc (.cells #[.slice A0 xs.length c0] 45)).alloc (.cells #[.int .i64 (m0 : Int)] TI)).alloc (.cells #[.slice none 0 0] 46) = W2 at *
  clear ht hk1 hk2 hb
  go_loopw [7, 9] (fun v i wr => ∃ (k : Nat) (va : Value), k ≤ K ∧ i = .int .i64 k ∧ AllL W A0 xs c0 m0 k v va wr) (fun _ i _ => 20 - (intOf i).toNat)
  case atStart => exact ⟨0, _, by omega, rfl, hL0⟩
  case round =>
    obtain ⟨k, va, hk, rfl, hL⟩ := hrel
    clear hL0
    obtain ⟨Av, cv, rfl, hcv, hmv⟩ := own_val hL.rowB
    obtain ⟨Aa, ca, rfl, hca, hma⟩ := own_val hL.rowI
    have y0 := hL.z0.cell 0 rfl
    have y1 := hL.z1.cell 0 rfl
    have y2 := hL.z2.cell 0 rfl
    have yf := hL.z2.frozen 0
    by_cases hkK : k < K
    · obtain ⟨x, hx1, hx2, hx3⟩ := bodies_get (xs := xs) (k := k) (by rw [HK.out]; exact hkK)
      obtain ⟨g, o, Bx, cx, rfl, hg, hgc, hxc, hxm, hxr⟩ := HX.out k x hx1
      have a2 := (hL.bel.cell (p := ⟨g, o + k, none⟩) hg).trans hgc
      have hfx := few_B wr Bx x cx x.length (hxr.rd.below hL.bel) rfl hxc hxm
      have hxl := HLE.out _ (List.mem_of_getElem? hx2)
      have hfrm := frames_take_succ _ _ _ hx2
      have hst := starts_succ (bodies xs) k
      have hlf := length_frames_le ((bodies xs).take k) (fun y hy => HLE.out y (List.mem_of_mem_take hy))
      rw [List.length_take] at hlf
      have hlf2 : (frames ((bodies xs).take k)).length ≤ 60240 := by omega
      generalize hLL : (frames ((bodies xs).take k)).length = L at *
      generalize x.take 3000 = bx at *
      have hF := fun (w : World) (hh : HalfAt w) (A : Option Addr) (c : Nat) (hr : Rd Non w A bx) => by
        have h := frame_B w hh A bx c bx.length hr rfl (by unfold maxLen; omega)
        simpa only [if_pos (show bx.length ≤ 65536 by omega)] using h
      have hfl := length_frame bx
      obtain ⟨m, hm⟩ : ∃ m, (frame bx).length = m := ⟨_, rfl⟩
      have HM := Lib.hid hm
      have hm2 : m ≤ 3012 := by omega
      have HFR := Lib.hid hfrm
      have HST := Lib.hid hst
      have HLL := Lib.hid hLL
      have kx1 : (k : Int) < (xs.length : Int) := by omega
      have kx2 : (k : Int) < 20 := by omega
      clear hx1 hx2 hgc hxr hfrm hst hlf hfl hm hLL
      go_wp2_with (first
        | (go_at_call 22; refine hfx.mono ?_; rintro e w1 ⟨A1, c1, rfl, ho1, hc1, hm1, hb1⟩; have r1 := own_rd ho1 rfl; have hL1 := hL.below hb1; clear hfx ho1)
        | (go_at_call 26; refine (hF w1 (hh.below hL1.bel hh.lt) A1 c1 r1).mono ?_; rintro e w2 ⟨A2, c2, rfl, ho2, hc2, hm2, hb2⟩; rw [HM.out] at hc2 ⊢; have r2 : Own (fun _ => True) w2 A2 (frame bx) := ho2.mono fun _ _ => trivial; have hL2 := hL1.below hb2; have u2 := hL2.z2.cell 0 rfl; have uf := hL2.z2.frozen 0; clear hF ho2 hL1 r1)
        | (at_builtin
           have rB := hL2.rowB
           rw [HLL.out] at rB
           refine wpList_app1 rfl (.tmp 44) (.tmp 47) 46 rfl TI ii (.int .i64 0) 8 Tryd.underlying46 hii hzi hsi hbi rfl (W.heap.size + 3) (.slice Aa k ca) k (starts (bodies xs) k) rfl (hL2.rowI.alloc _) (some ⟨w2.heap.size, 0, none⟩) 1 1 [.int .i64 (L : Int)] rfl rfl (one_new w2 _ _) (one_cell _ rfl) (by unfold maxLen; omega) (by omega) (Nat.le_trans hL2.sz (below_new w2 _).size) ?_
           intro va' w3 hI3 hg3 ha3
           obtain ⟨Aa', ca', rfl, hca', hma'⟩ := own_val hI3
           have rB3 := (rB.alloc (.cells #[.int .i64 (L : Int)] TI)).kept hg3 (ownsRow_apart (rB.alloc (.cells #[.int .i64 (L : Int)] TI)) (hL2.rowI.alloc (.cells #[.int .i64 (L : Int)] TI)) (show TB ≠ TI by decide))
           have zz0 := (hL2.z0.alloc (.cells #[.int .i64 (L : Int)] TI)).grown hg3 (row_ne hL2.rowI (by omega))
           have zz1 := (hL2.z1.alloc (.cells #[.int .i64 (L : Int)] TI)).grown hg3 (row_ne hL2.rowI (by omega))
           have zz2 := (hL2.z2.alloc (.cells #[.int .i64 (L : Int)] TI)).grown hg3 (row_ne hL2.rowI (by omega))
           have v0 : w3.cell? ⟨W.heap.size + 2, 0, none⟩ = some (.slice Aa k ca) := zz2.cell 0 rfl
           have vf := zz2.frozen 0
           have hB3 : Below W.heap.size W w3 := (hL2.bel.alloc hL2.bel.size (.cells #[.int .i64 (L : Int)] TI)).grown hg3 (by have := hL2.bel.size; simp; omega) (fun j hj => by have := (hL2.rowI.lt j hj).1; omega)
           have r3 := (r2.alloc (.cells #[.int .i64 (L : Int)] TI)).grownI hg3 (row_notB (hL2.rowI.alloc (.cells #[.int .i64 (L : Int)] TI)) (show TI ≠ TB by decide))
           have sz3 : W.heap.size + 3 ≤ w3.heap.size := by have := hg3.size; have := hL2.sz; simp at *; omega
           clear ha3 hg3 rB)
        | (at_builtin
           change wpList _ _ _ _ _ (w3.setCell ⟨W.heap.size + 2, 0, none⟩ (.slice Aa' (k + 1) ca'))
           have rB4 := ownsRow_setCell_below rB3 (a := ⟨W.heap.size + 2, 0, none⟩) (by show W.heap.size + 2 < _; omega) (.slice Aa' (k + 1) ca')
           have rI4 := ownsRow_setCell_below hI3 (a := ⟨W.heap.size + 2, 0, none⟩) (by show W.heap.size + 2 < _; omega) (.slice Aa' (k + 1) ca')
           have hn2 : ¬ IsB w3 (W.heap.size + 2) := zz2.notB (by decide)
           have r4 := r3.setCellI (p := ⟨W.heap.size + 2, 0, none⟩) hn2 (.slice Aa' (k + 1) ca')
           have zw2 : Blk (w3.setCell ⟨W.heap.size + 2, 0, none⟩ (.slice Aa' (k + 1) ca')) (W.heap.size + 2) 46 #[.slice Aa' (k + 1) ca'] := by simpa using zz2.set 0 (.slice Aa' (k + 1) ca')
           have zw0 := zz0.far (p := ⟨W.heap.size + 2, 0, none⟩) (by show W.heap.size ≠ W.heap.size + 2; omega) (.slice Aa' (k + 1) ca')
           have zw1 := zz1.far (p := ⟨W.heap.size + 2, 0, none⟩) (by show W.heap.size + 1 ≠ W.heap.size + 2; omega) (.slice Aa' (k + 1) ca')
           have hB4 := hB3.setCell (p := ⟨W.heap.size + 2, 0, none⟩) (by simp) (.slice Aa' (k + 1) ca')
           have sz4 : W.heap.size + 3 ≤ (w3.setCell ⟨W.heap.size + 2, 0, none⟩ (.slice Aa' (k + 1) ca')).heap.size := by simpa [World.setCell] using sz3
           clear rB3 hI3 r3 zz0 zz1 zz2 v0 vf hB3 sz3 hn2
           generalize w3.setCell ⟨W.heap.size + 2, 0, none⟩ (.slice Aa' (k + 1) ca') = w4 at *
           refine wpList_appB rfl (.tmp 49) (.tmp 50) 22 rfl iu Tryd.underlying22 hu hzu hsu hbu (W.heap.size + 3) (.slice Av L cv) L _ rfl rB4 Non A2 m c2 (frame bx) rfl HM.out (r4.rd Non) (by omega) sz4 ?_
           intro v5 w5 hB5 hg5 ha5
           have hNew := @AllL.next W (some ⟨g, o, none⟩) xs c0 m0 k L m Av Aa' cv ca' bx v5 w4 w5 HLL.out HFR.out HST.out HM.out hB5 hg5 zw0 zw1 zw2 rB4 rI4 hB4 sz4
           clear rB4 rI4 r4 zw0 zw1 zw2 hB4 sz4 hg5 ha5 hB5)
        | fail)
      go_roundw
      case rel => exact ⟨k + 1, _, by omega, by go_num, hNew⟩
      case measure => simp [intOf]; omega
    · have hkK' : k = K := by omega
      subst hkK'
      have hcond : ¬ ((k : Int) < (xs.length : Int) ∧ (k : Int) < 20) := by omega
      have hbs : (bodies xs).take k = bodies xs := List.take_of_length_le (by rw [HK.out]; exact Nat.le_refl _)
      rw [hbs] at hL hcv ⊢
      have hlf := length_frames_le (bodies xs) HLE.out
      rw [HK.out] at hlf
      have hk20 : k ≤ 20 := by omega
      have hposk := pos_frames (bodies xs) (fun x hx => Nat.le_trans (HLE.out x hx) (by omega)) tl k (by rw [HK.out]; exact Nat.le_refl _)
      rw [hbs] at hposk
      have hnx := fun (j : Nat) x hx => next_frames (bodies xs) (fun x hx => Nat.le_trans (HLE.out x hx) (by omega)) tl j x hx
      have hposj := fun (j : Nat) hj => pos_frames (bodies xs) (fun x hx => Nat.le_trans (HLE.out x hx) (by omega)) tl j hj
      obtain ⟨bb, hbb⟩ : ∃ bb, frames (bodies xs) ++ tl = bb := ⟨_, rfl⟩
      obtain ⟨E, hE⟩ : ∃ E, (frames (bodies xs)).length = E := ⟨_, rfl⟩
      rw [hE] at hcv ⊢
      have hEl : E ≤ 60240 := by omega
      obtain ⟨T, hT⟩ : ∃ T, tl.length = T := ⟨_, rfl⟩
      have hbl : bb.length = E + T := by rw [← hbb, List.length_append, hE, hT]
      have HP := Lib.hid hposk
      have HN := Lib.hid hnx
      have HPJ := Lib.hid hposj
      have HBB := Lib.hid hbb
      have HE := Lib.hid hE
      have HTL := Lib.hid hT
      have HBL := Lib.hid hbl
      have rB := hL.rowB
      rw [hbs, hE] at rB
      rw [hE] at hL
      have RB := Lib.hid rB
      rw [hT] at htl
      have hfw' := hfw wr hL.bel
      have hkx : ¬ (k : Int) < (xs.length : Int) ∨ ¬ (k : Int) < 20 := by omega
      have HKX := Lib.hid hkx
      clear hposk hnx hposj hbb hE hT hbl hbs rB hfw hK2 hkx hcond
      have cases6 : ((0 < m0 ∧ m0 < k) ∨ (0 < m0 ∧ ¬ m0 < k) ∨ ¬ 0 < m0) ∧ (0 < tail.length ∨ tail.length = 0) := by omega
      obtain ⟨casesM, casesT⟩ := cases6
      by_cases hx : (k : Int) < (xs.length : Int)
      all_goals obtain htz | htz := casesT
      all_goals obtain ⟨hm, hmk⟩ | ⟨hm, hmk⟩ | hm := casesM
      all_goals
        have hm' : (0 : Int) < (m0 : Int) ↔ 0 < m0 := by omega
        simp only [hm, iff_true, iff_false] at hm'
        try have hmk' : (m0 : Int) < (k : Int) ↔ m0 < k := by omega
        try simp only [hmk, iff_true, iff_false] at hmk'
        have HM := Lib.hid hm
        try have HMK := Lib.hid hmk
        clear hm
        try clear hmk
        try have HMK2 := Lib.hid hmk'
        try clear hmk'
        first
          | have htz' : (0 : Int) < (tail.length : Int) := by omega
          | (obtain rfl := List.eq_nil_of_length_eq_zero htz; clear htz; simp only [List.length_nil] at hfw' ⊢)
        have h20 : (k : Int) < (xs.length : Int) → ¬ (k : Int) < 20 := fun h => HKX.out.resolve_left (fun h' => h' h)
        have H20 := Lib.hid h20
        clear h20
        try have h20 := H20.out hx
        go_wp2_with (first
          | (go_at_call 22; refine hfw'.mono ?_; rintro e w1 ⟨A1, c1, rfl, ho1, hc1, hm1, hb1⟩; rw [HTL.out] at hc1 ho1 ⊢; have hL1 := hL.below hb1; have r1 : Own (fun _ => True) w1 A1 tl := (Own.of_row ho1 HTL.out.symm).mono fun _ _ => trivial; have rB1 := ownsRow_below RB.out hb1; clear hfw' ho1 hb1)
          | (at_builtin
             refine wpList_appB rfl (.tmp 54) (.tmp 56) 22 rfl iu Tryd.underlying22 hu hzu hsu hbu (W.heap.size + 3) (.slice Av E cv) E _ rfl rB1 Non A1 T c1 tl rfl HTL.out (r1.rd Non) (by omega) hL1.sz ?_
             intro v2 w2 hB2 hg2 ha2
             obtain ⟨A2, c2, rfl, hc2, hm2⟩ := own_val hB2
             rw [HBB.out] at hB2
             have e0 := hL1.z0.grown hg2 (row_ne rB1 (by omega))
             have e1 := hL1.z1.grown hg2 (row_ne rB1 (by omega))
             have e2 := hL1.z2.grown hg2 (row_ne rB1 (by omega))
             have eI := hL1.rowI.kept hg2 (ownsRow_apart hL1.rowI rB1 (show TI ≠ TB by decide))
             have hbel2 := hL1.bel.grown hg2 hL1.bel.size (fun j hj => by have := (rB1.lt j hj).1; omega)
             have sz2 := Nat.le_trans hL1.sz hg2.size
             have r2 := own_rd hB2 HBL.out.symm
             clear rB1 r1 hg2 ha2 hL1)
          | (go_at_call 32; refine (all_B _ _ _ _).mono ?_; rintro e w3 ⟨rfl, rfl⟩)
          | (go_at_call 81
             have z3 : Blk (w2.alloc (.cells #[.slice A2 (E + T) c2] 22)) w2.heap.size 22 #[.slice A2 (E + T) c2] := Blk.new _ _ _
             have l23 := below_new w2 (.cells #[.slice A2 (E + T) c2] 22)
             have hz : (w2.alloc (.cells #[.slice A2 (E + T) c2] 22)).heap.size = w2.heap.size + 1 := by simp
             have hSeen : AllSeen (w2.alloc (.cells #[.slice A2 (E + T) c2] 22)) W.heap.size xs m0 0 0 c0 (match Aa with | some a => a.block | none => 0) ca A0 Aa := by
               refine ⟨(e0.below l23).cell 0 rfl, (e1.below l23).cell 0 rfl, by rw [HK.out]; exact (e2.below l23).cell 0 rfl, by rw [hz]; omega, HX.out.below (hbel2.trans (l23.mono hbel2.size)), fun j hj => ?_⟩
               rw [HK.out] at hj
               obtain ⟨ga, cap, hv, hg1, hg2⟩ := eI.form (by omega)
               obtain ⟨rfl, rfl⟩ : Aa = some ⟨ga, 0, none⟩ ∧ ca = cap := by injection hv with h1 _ h2; exact ⟨h1, h2⟩
               refine ⟨rfl, by rw [hz]; show ga < _; omega, ?_⟩
               refine (l23.cell (p := ⟨ga, j, none⟩) hg2).trans ?_
               show w2.cell? ⟨ga, j, none⟩ = _
               rw [eI.cellAt j (by omega)]
               simp [starts, hj]
             generalize w2.alloc (.cells #[.slice A2 (E + T) c2] 22) = W1 at *
             have hlit := fun (k : Nat) (v : Array Value) (Wx : World) (hJ : AllJ W1 m0 k Wx) (hG : AllGv bb k v Wx) => lit_B W1 W.heap.size xs tl (by rw [HTL.out]; exact htl) m0 (by omega) 0 0 c0 _ ca A0 Aa (by unfold maxLen; exact hlen) hSeen k v Wx hJ (by rw [HBB.out]; exact hG)
             rw [hz] at hlit
             have q0 : Blk (W1.alloc (.cells #[.int .i64 0] TI)) W1.heap.size TI #[.int .i64 0] := Blk.new _ _ _
             have q1 : Blk ((W1.alloc (.cells #[.int .i64 0] TI)).alloc (.cells #[.bool true] 4)) (W1.heap.size + 1) 4 #[.bool true] := Blk.new' _ _ _ (by simp)
             have h0 : AllJ W1 m0 0 ((W1.alloc (.cells #[.int .i64 0] TI)).alloc (.cells #[.bool true] 4)) :=
               ⟨((Below.refl _ _).alloc (Nat.le_refl _) _).alloc (by simp) _, (q0.alloc _).cell 0 rfl, (q0.alloc _).frozen 0, q1.cell 0 rfl, q1.frozen 0, by omega⟩
             have r12 := r2.below l23
             have hbelW1 := hbel2.trans (l23.mono hbel2.size)
             have hI : ∀ (k : Nat) (Wx : World), AllJ W1 m0 k Wx → AllNeeds w2.heap.size A2 c2 bb Wx := fun k Wx hJ => ⟨hh.below (hbelW1.trans (hJ.1.mono hbelW1.size)) hh.lt, by rw [HBL.out]; exact (z3.below hJ.1).cell 0 rfl, r12.below hJ.1⟩
             have hall := all_calls w2.heap.size A2 c2 bb (by rw [HBL.out]; exact hc2) hm2 _ 33 _ (enters_of Tryd.func33 (by kernel_rfl) rfl) (AllJ W1 m0) (AllJx W1 m0) hI (fun k Wx Wy hJ hb => hJ.below hb) hlit h0
             refine hall.mono ?_
             rintro e W4 ⟨rfl, hcase⟩
             rw [← HBB.out] at hcase
             obtain ⟨k', l4, cn, cr, hA, hBt⟩ := all_out (by omega) (bodies xs) (fun x hx => Nat.le_trans (HLE.out x hx) (by omega)) tl hcase
             rw [hz] at cn cr
             rw [HK.out] at hA hBt
             have g0 := (e0.below l23).below l4
             have g1 := (e1.below l23).below l4
             have g2 := (e2.below l23).below l4
             have g1c : W4.cell? ⟨W.heap.size + 1, 0, none⟩ = some (.int .i64 (m0 : Int)) := g1.cell 0 rfl
             have g2c : W4.cell? ⟨W.heap.size + 2, 0, none⟩ = some (.slice Aa k ca) := g2.cell 0 rfl
             have r4 := r12.below l4
             have hB4 := hbelW1.trans (l4.mono hbelW1.size)
             have HA := Lib.hid hA
             have HBt := Lib.hid hBt
             try have hmk' := HMK2.out
             clear hlit hall hI q0 q1 h0 r12 hcase g0 g1 g2 z3 l23 hSeen e0 e1 e2 eI hbel2 sz2 r2 hB2 hA hBt)
          | (go_at_call 30
             refine (good_B W4 (hh.below hB4 hh.lt) A2 bb c2 (E + T) r4 HBL.out hc2 hm2).mono ?_
             rintro e W5 ⟨at_, rr, hg, rfl, hb5⟩
             have hge : E ≤ at_ := by
               obtain ⟨k2, hk2, r', he', _⟩ := hg
               rw [← HBB.out] at hk2 he'
               have := (end_ge (bodies xs) (fun x hx => Nat.le_trans (HLE.out x hx) (by omega)) tl hk2 he').2
               rw [HE.out] at this
               exact this
             have hge' : (E : Int) ≤ (at_ : Int) := by omega
             have hm := HM.out
             try have hmk := HMK.out
             have hA := HA.out
             have hBt := HBt.out
             first
               | have f1 : (m0 : Int) ≤ (k' : Int) := by omega
               | have f1 : (k : Int) ≤ (k' : Int) := by omega
             try have f2 : (k : Int) ≤ (k' : Int) := by omega
             try have f3 : ((k' : Int) == (k : Int)) = true := by have := hBt (HT0.out rfl) (by omega); simp; omega
             have p1 := (hb5.cell (p := ⟨w2.heap.size + 1, 0, none⟩) (cell_lt cn)).trans cn
             have p2 := (hb5.cell (p := ⟨w2.heap.size + 1 + 1, 0, none⟩) (cell_lt cr)).trans cr
             have p3 := (hb5.cell (p := ⟨W.heap.size + 1, 0, none⟩) (cell_lt g1c)).trans g1c
             have hB5 := hB4.trans (hb5.mono hB4.size)
             clear hm
             try clear hmk
             clear hA hBt HA HBt cn cr g1c g2c hg r4 hb5 hge)
          | (go_at_call 25; refine (works_02 W5 (hh.below hB5 hh.lt)).mono ?_; rintro e W6 ⟨rfl, hb6⟩)
          | fail)
        all_goals
          go_ret
          exact ⟨rfl, hB5.trans (hb6.mono hB5.size)⟩
end Go.Proofs.YtediidajdpdeiaaDoor
