/- A store and the document's store, where a row of bytes that is none of theirs turns (layer 8). -/
import Derived.Test.YtediidajdpdeiaaGreatDoorJ9
import Derived.Test.YtediidajdpdeiaaGreatDoorJ19
import Derived.Test.YtediidajdpdeiaaGreatDoorJ12
import Derived.Test.YtediidajdpdeiaaGreatDoorJ17

namespace Go.Proofs.YtediidajdpdeiaaGreatDoor
open Go.RowKit CrcM
set_option maxRecDepth 100000

section
variable {q : Nat} {w w' : World} {S S1 S2 X : Nat → Prop}
theorem Own.held {Y : Nat → Prop} {A : Option Addr} {l : List UInt8} (h : Own Y w A l) (hq : w.heap.size ≤ q) : Own (fun x => x ≠ q) w A l := fun j y hy => by
  obtain ⟨ad, e, hc, hb, hs⟩ := h j y hy
  exact ⟨ad, e, hc, hb, fun e' => by have := hb.lt; omega⟩
theorem SlotsAt.hold {b : Nat} {M : Slots} (h : SlotsAt w b M) (hb : Below w.heap.size w w') (hq : w.heap.size ≤ q) : @SlotsAt (holeAt q) w' b M := by
  have h' : @SlotsAt (holeAt q) w b M := by
    obtain ⟨Z, h1, h2, h3, h4⟩ := h
    refine ⟨Z, h1, h2, fun z hz => ?_, h4⟩
    obtain ⟨A, c, e, k1, k2, k3⟩ := h3 z hz
    exact ⟨A, c, e, k1, k2, k3.held hq⟩
  exact @SlotsAt.below (holeAt q) w w' b M h' hb
theorem Mut.slots {b : Nat} {M : Slots} (m : Mut q w w') (h : @SlotsAt (holeAt q) w b M) (hb : b ≠ q) : SlotsAt w' b M := by
  obtain ⟨Z, h1, h2, h3, h4⟩ := h
  refine ⟨Z, ownsMap_same h1 (m.out b hb), h2, fun z hz => ?_, h4⟩
  obtain ⟨A, c, e, k1, k2, k3⟩ := h3 z hz
  exact ⟨A, c, e, k1, k2, Own.mono (m.own k3 (fun hh => hh rfl)) (fun _ _ => trivial)⟩
theorem LogAt.hold {b : Nat} {L : Lg} (h : LogAt S w b L) (hb : Below w.heap.size w w') (hq : w.heap.size ≤ q) (hq' : q < w'.heap.size) : @LogAt (holeAt q) S w' b L := by
  obtain ⟨hu, H, A, c, ps, hl⟩ := h
  exact ⟨hu, H, A, c, ps, hl.hold hb hq hq'⟩
theorem Mut.logAt {b : Nat} {L : Lg} (m : Mut q w w') (h : @LogAt (holeAt q) S w b L) (hS : ¬ S q) : LogAt S w' b L := by
  obtain ⟨hu, H, A, c, ps, hl⟩ := h
  exact ⟨hu, H, A, c, ps, m.log hl hS⟩
theorem SoO.hold {b lb db mb : Nat} {s : So} (h : SoO S S1 S2 w b lb db mb s) (hb : Below w.heap.size w w') (hq : w.heap.size ≤ q) (hq' : q < w'.heap.size) : @SoO (holeAt q) S S1 S2 w' b lb db mb s := by
  have h' := h.below hb
  exact @SoO.mk (holeAt q) S S1 S2 w' b lb db mb s h'.blk (h.log.hold hb hq hq') h'.snap (h.map.hold hb hq) h.h1 h.h2 h.hb h.hm h.d12 h.d1 h.d2 h'.lt h.per h.ok
theorem Mut.so {b lb db mb : Nat} {s : So} (m : Mut q w w') (h : @SoO (holeAt q) S S1 S2 w b lb db mb s) (hS : ¬ S q) : SoO S S1 S2 w' b lb db mb s := by
  obtain ⟨e1, e2, ⟨A, c, hd⟩, e4, e5, e6, e7, e8, e9, e10, e11, e12, e13, e14⟩ := h
  exact ⟨m.blk e1 (Mut.ne hS e7), m.logAt e2 (fun hx => hS (e5 q hx)), ⟨A, c, m.disk hd (fun hx => hS (e6 q hx))⟩, m.slots e4 (Mut.ne hS e8), e5, e6, e7, e8, e9, e10, e11, fun x hx => by rw [m.size]; exact e12 x hx, e13, e14⟩
theorem HeldS.hold {A : Option Addr} {c : Nat} {H : Slots} (h : HeldS X w A c H) (hb : Below w.heap.size w w') (hq : w.heap.size ≤ q) : @HeldS (holeAt q) X w' A c H := by
  have h' : @HeldS (holeAt q) X w A c H := by
    obtain ⟨h1, h2, xs, h3, h4⟩ := h
    refine ⟨h1, h2, xs, @HeldRw.mk (holeAt q) w xs H h3.len (fun j p hp => ?_), h4⟩
    obtain ⟨B, cb, k1, k2, k3, k4, k5, k6⟩ := h3.each j p hp
    exact ⟨B, cb, k1, k2, k3, k4, k5, k6.held hq⟩
  exact @HeldS.below (holeAt q) X w w' A c H h' hb
theorem Mut.heldS {A : Option Addr} {c : Nat} {H : Slots} (m : Mut q w w') (h : @HeldS (holeAt q) X w A c H) (hX : ¬ X q) : HeldS X w' A c H := by
  obtain ⟨h1, h2, xs, ⟨hln, hea⟩, h4⟩ := h
  refine ⟨h1, h2, xs, ⟨hln, fun j p hp => ?_⟩, h4.imp_right ?_⟩
  · obtain ⟨B, cb, k1, k2, k3, k4, k5, k6⟩ := hea j p hp
    exact ⟨B, cb, k1, k2, k3, k4, k5, Own.mono (m.own k6 (fun hh => hh rfl)) (fun _ _ => trivial)⟩
  · rintro ⟨g, o, cur, e, hg, hc, hj⟩
    exact ⟨g, o, cur, e, hg, (m.out g (Mut.ne hX hg)).trans hc, hj⟩
theorem IsRef8.hold {T : Nat → Prop} {r per : Nat} {L : Lg} {st0 : St} (h : IsRef8 T w r per L st0) (hb : Below w.heap.size w w') (hq : w.heap.size ≤ q) : @IsRef8 (holeAt q) T w' r per L st0 := by
  obtain ⟨T1, T2, H, lr, A1, c1, ps, A2, c2, h⟩ := h
  have h' := h.below hb
  exact ⟨T1, T2, H, lr, A1, c1, ps, A2, c2, @RefO.mk (holeAt q) T T1 T2 H w' r lr A1 c1 ps A2 c2 per L st0 h'.blk h'.log (h.snap.hold hb hq) h.t1 h.t2 h.hr h.d1 h.d2 h.d12 h'.lt⟩
theorem Mut.isRef {T : Nat → Prop} {r per : Nat} {L : Lg} {st0 : St} (m : Mut q w w') (h : @IsRef8 (holeAt q) T w r per L st0) (hT : ¬ T q) : IsRef8 T w' r per L st0 := by
  obtain ⟨T1, T2, H, lr, A1, c1, ps, A2, c2, ⟨e1, e2, e3, e4, e5, e6, e7, e8, e9, e10⟩⟩ := h
  exact ⟨T1, T2, H, lr, A1, c1, ps, A2, c2, m.blk e1 (Mut.ne hT e6), m.rlog e2 (fun hx => hT (e4 q hx)), m.heldS e3 (fun hx => hT (e5 q hx)), e4, e5, e6, e7, e8, e9, fun x hx => by rw [m.size]; exact e10 x hx⟩
end
end Go.Proofs.YtediidajdpdeiaaGreatDoor

/- The document's store (layer 8): Promise, Forget, Accept; the walks. -/
namespace Go.Proofs.YtediidajdpdeiaaGreatDoor
open Go.RowKit CrcM
set_option maxRecDepth 100000

def NumX (w : World) (l : List UInt8) (e : Ending) (w' : World) : Prop := ∃ A c, e = .returned (.tuple #[.slice A l.length c, .int .i64 0]) ∧ Own Ever w' A l ∧ l.length ≤ c ∧ c ≤ maxLen ∧ Below w.heap.size w w'
theorem numX_B (w : World) (x : UInt8) (v : Value) (hv : v = byteV x) (k : Nat) (hk : k ≤ 1099511627776) :
    Calls Tryz.prog 118 #[.slice (some ⟨w.heap.size, 0, none⟩) 1 1, .int .i64 (k : Int)] (w.alloc (.cells #[v] TB)) (NumX w (x :: numB k)) := by
  subst hv
  have hb := below_new w (.cells #[byteV x] TB)
  have hO : Own Ever (w.alloc (.cells #[byteV x] TB)) (some ⟨w.heap.size, 0, none⟩) [x] := Own.of_cells Ever (heap_alloc_new _ _) (l := [x]) trivial rfl
  refine (refNum_B (w.alloc (.cells #[byteV x] TB)) (some ⟨w.heap.size, 0, none⟩) 1 [x] (hO.rd Non) (by simp) k (by omega)).mono ?_
  rintro e w' ⟨v', rfl, ho, hb2⟩
  obtain ⟨A, c, rfl, hc, hm⟩ := own_val ho
  exact ⟨A, c, rfl, (Own.of_row ho rfl).mono (fun _ _ => trivial), hc, hm, hb.trans (hb2.mono hb.size)⟩
theorem numY_B (w : World) (A : Option Addr) (c : Nat) (l : List UInt8) (hO : Own Ever w A l) (hl : l.length ≤ 70368744177664) (k : Nat) (hk : k ≤ 1099511627776) :
    Calls Tryz.prog 118 #[.slice A l.length c, .int .i64 (k : Int)] w fun e w' => ∃ A' c', e = .returned (.tuple #[.slice A' (l ++ numB k).length c', .int .i64 0]) ∧ w'.ownsRow w.heap.size TB 1 (.slice A' (l ++ numB k).length c') (l ++ numB k).length ((l ++ numB k).map byteV) ∧ (l ++ numB k).length ≤ c' ∧ c' ≤ maxLen ∧ Below w.heap.size w w' := by
  refine (refNum_B w A c l (hO.rd Non) hl k (by omega)).mono ?_
  rintro e w' ⟨v', rfl, ho, hb2⟩
  obtain ⟨A', c', rfl, hc, hm⟩ := own_val ho
  exact ⟨A', c', rfl, ho, hc, hm, hb2⟩

section
variable {T T1 T2 H : Nat → Prop} {w w' : World} {r lr : Nat} {A1 : Option Addr} {c1 : Nat} {ps : List Nat} {A2 : Option Addr} {c2 : Nat} {per : Nat} {s : So} {st0 : St} {rcs : List Rc} {m n : Nat}
set_option maxHeartbeats 2000000 in
theorem refPromise_B8 (h : RefO T T1 T2 H w r lr A1 c1 ps A2 c2 per s.log st0) (hi : s.inv m n st0 rcs) (q : Int) :
    Calls Tryz.prog 63 #[.pointer (some ⟨r, 0, none⟩), .int .i64 q] w (RefDid8 T w r per (s.promise q).1.log st0 (s.promise q).2) := by
  obtain ⟨b0, b1, b2, b3, b4, ld⟩ := h.facts
  cases hdn : s.log.down
  · rw [hdn] at ld
    have hnq := num_B8 w q
    by_cases hn : numOk q
    · have hn' := hn
      unfold numOk at hn'
      obtain ⟨k, rfl⟩ : ∃ k : Nat, q = k := ⟨q.toNat, by omega⟩
      rw [decide_eq_true hn] at hnq
      have hst := state_S8 h hi hdn
      by_cases h2 : (k : Int) < (s.st.promised : Int)
      · have HE := Lib.hid (show s.promise k = (s, 16) from by unfold So.promise; rw [hdn, if_neg (by simp), if_neg (by simpa using hn), if_pos h2])
        have gk : decide (k < s.st.promised) = true := decide_eq_true (by omega)
        clear hdn hn h2
        go_enter Tryz.func63, Tryz.ntmps63
        go_wp2_with (first
          | (go_at_call 117; refine hnq.mono ?_; rintro e w' ⟨rfl, rfl⟩)
          | (go_at_call 17; refine hst.mono ?_; rintro e w1 ⟨X, A, c, rfl, hH, hX, hb⟩))
        go_ret
        rw [HE.out]
        exact h.did hb 16
      by_cases h3 : (k : Int) = (s.st.promised : Int)
      · have HE := Lib.hid (show s.promise k = (s, 0) from by unfold So.promise; rw [hdn, if_neg (by simp), if_neg (by simpa using hn), if_neg h2, if_pos h3])
        obtain rfl : k = s.st.promised := by omega
        clear hdn hn h2 h3
        go_enter Tryz.func63, Tryz.ntmps63
        go_wp2_with (first
          | (go_at_call 117; refine hnq.mono ?_; rintro e w' ⟨rfl, rfl⟩)
          | (go_at_call 17; refine hst.mono ?_; rintro e w1 ⟨X, A, c, rfl, hH, hX, hb⟩))
        go_ret
        rw [HE.out]
        exact h.did hb 0
      · obtain ⟨rec, hre⟩ : ∃ l, (1 : UInt8) :: numB k = l := ⟨_, rfl⟩
        have hrl : rec.length ≤ 400 := by have := numB_10 (n := k) (by omega); rw [← hre, List.length_cons]; omega
        have HE := Lib.hid (show (s.promise k).1.log = (s.log.append rec).1 ∧ (s.promise k).2 = (s.log.append rec).2.2 from by
          unfold So.promise
          rw [hdn, if_neg (by simp), if_neg (by simpa using hn), if_neg h2, if_neg h3, Int.toNat_natCast, show (Rc.prom k).enc = rec from hre]
          unfold So.put
          split
          · rename_i hz; exact ⟨rfl, hz.symm⟩
          · exact ⟨rfl, rfl⟩)
        have gk : decide (k < s.st.promised) = false := decide_eq_false (by omega)
        have ge : ((k : Int) == (s.st.promised : Int)) = false := by rw [beq_eq_false_iff_ne]; exact h3
        have ge2 : decide (k = s.st.promised) = false := decide_eq_false (by omega)
        have ge3 : ¬ k = s.st.promised := by omega
        have hlt := h.lt
        have HRE := Lib.hid hre
        clear hdn hn h2 h3 hre
        go_enter Tryz.func63, Tryz.ntmps63
        go_wp2_with (first
          | (go_at_call 117; refine hnq.mono ?_; rintro e w' ⟨rfl, rfl⟩)
          | (go_at_call 17; refine hst.mono ?_; rintro e w1 ⟨X, A, c, rfl, hH, hX, hb⟩; have hnx := numX_B w1 1 (.int .u8 1) rfl k (by omega); rw [HRE.out] at hnx; clear hst)
          | (go_at_call 118; refine hnx.mono ?_; rintro e w2 ⟨A3, c3, rfl, hO3, hc3, hm3, hb3⟩; have h3 := (h.below hb).below hb3; obtain ⟨-, d1, -⟩ := h3.facts; have hap := h3.append hi A3 rec c3 hO3 hrl hc3 hm3; clear hnx)
          | (go_at_call 119; refine hap.mono ?_; rintro e w4 ⟨rfl, h4, f4⟩))
        go_ret
        have hb2 := hb.trans (hb3.mono hb.size)
        rw [HE.out.1, HE.out.2]
        exact RefDid8.from hb2 hlt ⟨rfl, h4, f4⟩
    · have HE := Lib.hid (show s.promise q = (s, 2) from by unfold So.promise; rw [hdn, if_neg (by simp), if_pos hn])
      rw [decide_eq_false hn] at hnq
      clear hdn hn
      go_enter Tryz.func63, Tryz.ntmps63
      go_wp2_with (go_at_call 117; refine hnq.mono ?_; rintro e w' ⟨rfl, rfl⟩)
      go_ret
      rw [HE.out]
      exact h.did (Below.refl _ _) 2
  · have HE := Lib.hid (show s.promise q = (s, 10) from by unfold So.promise; rw [hdn, if_pos rfl])
    rw [hdn] at ld
    clear hdn
    go_enter Tryz.func63, Tryz.ntmps63
    go_wp2
    go_ret
    rw [HE.out]
    exact h.did (Below.refl _ _) 10
set_option maxHeartbeats 2000000 in
theorem refForget_B8 (h : RefO T T1 T2 H w r lr A1 c1 ps A2 c2 per s.log st0) (hi : s.inv m n st0 rcs) (q : Int) :
    Calls Tryz.prog 69 #[.pointer (some ⟨r, 0, none⟩), .int .i64 q] w (RefDid8 T w r per (s.forget q).1.log st0 (s.forget q).2) := by
  obtain ⟨b0, b1, b2, b3, b4, ld⟩ := h.facts
  cases hdn : s.log.down
  · rw [hdn] at ld
    have hnq := num_B8 w q
    by_cases hn : numOk q
    · have hn' := hn
      unfold numOk at hn'
      obtain ⟨k, rfl⟩ : ∃ k : Nat, q = k := ⟨q.toNat, by omega⟩
      rw [decide_eq_true hn] at hnq
      have hst := base_S8 h hi hdn
      by_cases h2 : (k : Int) ≤ (s.st.base : Int)
      · have HE := Lib.hid (show s.forget k = (s, 0) from by unfold So.forget; rw [hdn, if_neg (by simp), if_neg (by simpa using hn), if_pos h2])
        have gk : decide (k ≤ s.st.base) = true := decide_eq_true (by omega)
        clear hdn hn h2
        go_enter Tryz.func69, Tryz.ntmps69
        go_wp2_with (first
          | (go_at_call 117; refine hnq.mono ?_; rintro e w' ⟨rfl, rfl⟩)
          | (go_at_call 18; refine hst.mono ?_; rintro e w1 ⟨rfl, hb⟩))
        go_ret
        rw [HE.out]
        exact h.did hb 0
      · obtain ⟨rec, hre⟩ : ∃ l, (3 : UInt8) :: numB k = l := ⟨_, rfl⟩
        have hrl : rec.length ≤ 400 := by have := numB_10 (n := k) (by omega); rw [← hre, List.length_cons]; omega
        have HE := Lib.hid (show (s.forget k).1.log = (s.log.append rec).1 ∧ (s.forget k).2 = (s.log.append rec).2.2 from by
          unfold So.forget
          rw [hdn, if_neg (by simp), if_neg (by simpa using hn), if_neg h2, Int.toNat_natCast, show (Rc.forget k).enc = rec from hre]
          unfold So.put
          split
          · rename_i hz; exact ⟨rfl, hz.symm⟩
          · exact ⟨rfl, rfl⟩)
        have gk : decide (k ≤ s.st.base) = false := decide_eq_false (by omega)
        have hlt := h.lt
        have HRE := Lib.hid hre
        clear hdn hn h2 hre
        go_enter Tryz.func69, Tryz.ntmps69
        go_wp2_with (first
          | (go_at_call 117; refine hnq.mono ?_; rintro e w' ⟨rfl, rfl⟩)
          | (go_at_call 18; refine hst.mono ?_; rintro e w1 ⟨rfl, hb⟩; have hnx := numX_B w1 3 (.int .u8 3) rfl k (by omega); rw [HRE.out] at hnx; clear hst)
          | (go_at_call 118; refine hnx.mono ?_; rintro e w2 ⟨A3, c3, rfl, hO3, hc3, hm3, hb3⟩; have h3 := (h.below hb).below hb3; obtain ⟨-, d1, -⟩ := h3.facts; have hap := h3.append hi A3 rec c3 hO3 hrl hc3 hm3; clear hnx)
          | (go_at_call 119; refine hap.mono ?_; rintro e w4 ⟨rfl, h4, f4⟩))
        go_ret
        have hb2 := hb.trans (hb3.mono hb.size)
        rw [HE.out.1, HE.out.2]
        exact RefDid8.from hb2 hlt ⟨rfl, h4, f4⟩
    · have HE := Lib.hid (show s.forget q = (s, 2) from by unfold So.forget; rw [hdn, if_neg (by simp), if_pos hn])
      rw [decide_eq_false hn] at hnq
      clear hdn hn
      go_enter Tryz.func69, Tryz.ntmps69
      go_wp2_with (go_at_call 117; refine hnq.mono ?_; rintro e w' ⟨rfl, rfl⟩)
      go_ret
      rw [HE.out]
      exact h.did (Below.refl _ _) 2
  · have HE := Lib.hid (show s.forget q = (s, 10) from by unfold So.forget; rw [hdn, if_pos rfl])
    rw [hdn] at ld
    clear hdn
    go_enter Tryz.func69, Tryz.ntmps69
    go_wp2
    go_ret
    rw [HE.out]
    exact h.did (Below.refl _ _) 10
end
end Go.Proofs.YtediidajdpdeiaaGreatDoor

/- The document's store (layer 8): Accept, the walk. -/
namespace Go.Proofs.YtediidajdpdeiaaGreatDoor
open Go.RowKit CrcM
set_option maxRecDepth 100000

/-- the default: anywhere -/
abbrev ever : Hole := ⟨fun _ => True⟩
section
variable {T T1 T2 H : Nat → Prop} {w w' : World} {r lr : Nat} {A1 : Option Addr} {c1 : Nat} {ps : List Nat} {A2 : Option Addr} {c2 : Nat} {per : Nat} {s : So} {st0 : St} {rcs : List Rc} {m n : Nat}
theorem HeldS.weak (i : Hole) {X : Nat → Prop} {A : Option Addr} {c : Nat} {H : Slots} (h : @HeldS i X w A c H) : @HeldS ever X w A c H := by
  obtain ⟨h1, h2, xs, h3, h4⟩ := h
  refine ⟨h1, h2, xs, @HeldRw.mk ever w xs H h3.len (fun j p hp => ?_), h4⟩
  obtain ⟨B, cb, q1, q2, q3, q4, q5, q6⟩ := h3.each j p hp
  exact ⟨B, cb, q1, q2, q3, q4, q5, Own.mono q6 (fun _ _ => True.intro)⟩
theorem RefO.weak (i : Hole) {L : Lg} (h : @RefO i T T1 T2 H w r lr A1 c1 ps A2 c2 per L st0) : @RefO ever T T1 T2 H w r lr A1 c1 ps A2 c2 per L st0 :=
  @RefO.mk ever T T1 T2 H w r lr A1 c1 ps A2 c2 per L st0 h.blk h.log (HeldS.weak i h.snap) h.t1 h.t2 h.hr h.d1 h.d2 h.d12 h.lt
theorem RefO.weakB (i : Hole) {L : Lg} (h : @RefO i T T1 T2 H w r lr A1 c1 ps A2 c2 per L st0) (hb : Below w.heap.size w w') : @RefO ever T T1 T2 H w' r lr A1 c1 ps A2 c2 per L st0 := RefO.weak i (h.below hb)
set_option maxHeartbeats 4000000 in
theorem refAccept_B8 [i : Hole] (h : RefO T T1 T2 H w r lr A1 c1 ps A2 c2 per s.log st0) (hi : s.inv m n st0 rcs) (slot q : Int) (B : Option Addr) (v : List UInt8) (cb : Nat) (hv : Own Ever w B v) (hvl : v.length ≤ 300) :
    Calls Tryz.prog 64 #[.pointer (some ⟨r, 0, none⟩), .int .i64 slot, .int .i64 q, .slice B v.length cb] w (RefDid8 T w r per (s.accept slot q v).1.log st0 (s.accept slot q v).2) := by
  obtain ⟨iu, hiu, hzu, hsu, hbu⟩ := info_parts info_u8
  obtain ⟨b0, b1, b2, b3, b4, ld⟩ := (RefO.weak i h).facts
  have hlt := h.lt
  cases hdn : s.log.down
  · rw [hdn] at ld
    have hns := num_B8 w slot
    have hnq := num_B8 w q
    by_cases hn1 : numOk slot
    · by_cases hn2 : numOk q
      · have hn1' := hn1
        have hn2' := hn2
        unfold numOk at hn1' hn2'
        obtain ⟨k, rfl⟩ : ∃ k : Nat, slot = k := ⟨slot.toNat, by omega⟩
        obtain ⟨j, rfl⟩ : ∃ k : Nat, q = k := ⟨q.toNat, by omega⟩
        rw [decide_eq_true hn1] at hns
        rw [decide_eq_true hn2] at hnq
        have hst := state_S8 (RefO.weak i h) hi hdn
        have hfew := (hi.st hdn).2
        have hsm := hi.small
        have he0 : s.accept k j v = if (j : Int) < s.st.promised ∨ (k : Int) < s.st.base then (s, 16) else if 32768 < v.length then (s, 3) else if getN k s.st.slots = none ∧ s.st.slots.length = 1024 then (s, 7)
            else s.put (Rc.acc k j v).enc ⟨j, s.st.base, putN k ⟨j, v⟩ s.st.slots⟩ := by
          unfold So.accept
          rw [hdn, if_neg (by simp), if_neg (by simpa using hn1), if_neg (by simpa using hn2), Int.toNat_natCast, Int.toNat_natCast]
        by_cases h2 : (j : Int) < (s.st.promised : Int)
        · have HE := Lib.hid (show s.accept k j v = (s, 16) from by rw [he0, if_pos (.inl h2)])
          have gk : decide (j < s.st.promised) = true := decide_eq_true (by omega)
          clear hdn hn1 hn2 h2 he0
          go_enter Tryz.func64, Tryz.ntmps64
          go_wp2_with (first
            | (go_at_call 117; refine hns.mono ?_; rintro e w' ⟨rfl, rfl⟩; clear hns)
            | (go_at_call 117; refine hnq.mono ?_; rintro e w' ⟨rfl, rfl⟩; clear hnq)
            | (go_at_call 17; refine hst.mono ?_; rintro e w1 ⟨X, A, c, rfl, hH, hX, hb⟩))
          go_ret
          rw [HE.out]
          exact h.did hb 16
        have gk : decide (j < s.st.promised) = false := decide_eq_false (by omega)
        have hba := fun (w1 : World) (hb : Below w.heap.size w w1) => base_S8 (RefO.weakB i h hb) hi hdn
        by_cases h3 : (k : Int) < (s.st.base : Int)
        · have HE := Lib.hid (show s.accept k j v = (s, 16) from by rw [he0, if_pos (.inr h3)])
          have gk2 : decide (k < s.st.base) = true := decide_eq_true (by omega)
          clear hdn hn1 hn2 h2 h3 he0
          go_enter Tryz.func64, Tryz.ntmps64
          go_wp2_with (first
            | (go_at_call 117; refine hns.mono ?_; rintro e w' ⟨rfl, rfl⟩; clear hns)
            | (go_at_call 117; refine hnq.mono ?_; rintro e w' ⟨rfl, rfl⟩; clear hnq)
            | (go_at_call 17; refine hst.mono ?_; rintro e w1 ⟨X, A, c, rfl, hH, hX, hb⟩; have hba1 := hba w1 hb; clear hba)
            | (go_at_call 18; refine hba1.mono ?_; rintro e w2 ⟨rfl, hb2⟩; clear hba1))
          go_ret
          rw [HE.out]
          exact h.did (hb.trans (hb2.mono hb.size)) 16
        · obtain ⟨rr1, hr1⟩ : ∃ l, (2 : UInt8) :: numB k = l := ⟨_, rfl⟩
          obtain ⟨rr2, hr2⟩ : ∃ l, rr1 ++ numB j = l := ⟨_, rfl⟩
          obtain ⟨rec, hre⟩ : ∃ l, rr2 ++ v = l := ⟨_, rfl⟩
          have henc : (Rc.acc k j v).enc = rec := by
            rw [← hre, ← hr2, ← hr1]
            show 2 :: (numB k ++ (numB j ++ v)) = _
            simp only [List.cons_append, List.append_assoc]
          have hl1 : rr1.length ≤ 11 := by have := numB_10 (n := k) (by omega); rw [← hr1, List.length_cons]; omega
          have hl2 : rr2.length ≤ 21 := by have := numB_10 (n := j) (by omega); rw [← hr2, List.length_append]; omega
          have hrl : rec.length = rr2.length + v.length := by rw [← hre, List.length_append]
          have HE := Lib.hid (show (s.accept k j v).1.log = (s.log.append rec).1 ∧ (s.accept k j v).2 = (s.log.append rec).2.2 from by
            rw [he0, if_neg (by omega), if_neg (by omega), if_neg (fun q => by have := q.2; omega), henc]
            unfold So.put
            split
            · rename_i hz; exact ⟨rfl, hz.symm⟩
            · exact ⟨rfl, rfl⟩)
          have gk2 : decide (k < s.st.base) = false := decide_eq_false (by omega)
          have gl : decide (32768 < v.length) = false := decide_eq_false (by omega)
          have gs : decide (1024 ≤ s.st.slots.length) = false := decide_eq_false (by omega)
          have HR1 := Lib.hid hr1
          have HR2 := Lib.hid hr2
          have HRE := Lib.hid hre
          have HRL := Lib.hid hrl
          clear hdn hn1 hn2 h2 h3 he0 hr1 hr2 hre henc hrl
          go_enter Tryz.func64, Tryz.ntmps64
          go_wp2_with (first
            | (go_at_call 117; refine hns.mono ?_; rintro e w' ⟨rfl, rfl⟩; clear hns)
            | (go_at_call 117; refine hnq.mono ?_; rintro e w' ⟨rfl, rfl⟩; clear hnq)
            | (go_at_call 17; refine hst.mono ?_; rintro e w1 ⟨X, A, c, rfl, hH, hX, hb⟩; have hba1 := hba w1 hb; clear hba)
            | (go_at_call 18; refine hba1.mono ?_; rintro e w2 ⟨rfl, hb2⟩; have hnx := numX_B w2 2 (.int .u8 2) rfl k (by omega); rw [HR1.out] at hnx; clear hba1)
            | (go_at_call 118; refine hnx.mono ?_; rintro e w3 ⟨A3, c3, rfl, hO3, hc3, hm3, hb3⟩; have hny := numY_B w3 A3 c3 rr1 hO3 (by omega) j (by omega); rw [HR2.out] at hny; clear hnx)
            | (go_at_call 118; refine hny.mono ?_; rintro e w5 ⟨A5, c5, rfl, ho5, hc5, hm5, hb5⟩; clear hny))
          have hbw3 := (hb.trans (hb2.mono hb.size)).trans (hb3.mono (Nat.le_trans hb.size hb2.size))
          have hbw5 := hbw3.trans (hb5.mono hbw3.size)
          have f1 := (hbw5.cell (p := ⟨r, 1, none⟩) (cell_lt b1)).trans b1
          have hv5 : Rd Non w5 B v := (hv.rd Non).fr (Fr.of_below hbw5)
          have hbs3 := hbw3.size
          refine wp_region_T #[[], [], [], [], [], [], [], [3], [3], [3], [3], [3], [3]] [3] (fun w' => w'.cell? ⟨r, 1, none⟩ = some (.pointer (some ⟨lr, 0, none⟩)) ∧ True) 13 rfl (by kernel_rfl) ?_
          (refine wpF (i := 0) rfl (by kernel_rfl) rfl (fun _ _ _ h => h) (fun _ => by go_simp; try rfl) ?_; (try simp only [Act.put, sA, sB, sC]))
          (refine wpF (i := 1) rfl (by kernel_rfl) rfl (fun _ _ _ h => h) (fun _ => by go_simp; try rfl) ?_; (try simp only [Act.put, sA, sB, sC]))
          (refine wpF (i := 2) rfl (by kernel_rfl) rfl (fun _ _ _ h => h) (fun _ => by go_simp; try rfl) ?_; (try simp only [Act.put, sA, sB, sC]))
          (refine wpAnyT_read (i := 3) rfl (by kernel_rfl) rfl (fun _ _ _ h => h) (by kernel_rfl) (⟨f1, trivial⟩) (fun w hS_ => by obtain ⟨s_1, s_2⟩ := hS_; go_simp; try rfl) ?_; (try simp only [Act.put, sA, sB, sC]))
          (refine wpF (i := 4) rfl (by kernel_rfl) rfl (fun _ _ _ h => h) (fun _ => by go_simp; try rfl) ?_; (try simp only [Act.put, sA, sB, sC]))
          (refine wpF (i := 5) rfl (by kernel_rfl) rfl (fun _ _ _ h => h) (fun _ => by go_simp; try rfl) ?_; (try simp only [Act.put, sA, sB, sC]))
          refine wpAnyT_one (i := 6) rfl (by kernel_rfl) rfl ?_
          intro K_ hK_
          refine oper_appB (.tmp 77) (.tmp 78) 30 rfl iu Tryz.underlying30 hiu hzu hsu hbu w3.heap.size (.slice A5 rr2.length c5) rr2.length rr2 rfl ho5.drew Non B v.length cb v rfl rfl hv5.drew (by omega) hb5.size ?_; intro v6 w6 ho6 hg6; obtain ⟨A6, c6, rfl, hc6, hm6⟩ := own_val ho6; have hb6 : Below w.heap.size w w6 := hbw5.drew.grown hg6 hbw5.size (fun j hj => by have := own_grown ho5 hj; omega)
          refine hK_ _ _ ?_ ?_
          · exact fun _ _ => ⟨(hb6.cell (p := ⟨r, 1, none⟩) (cell_lt b1)).trans b1, trivial⟩
          clear hK_ K_
          (try simp only [Act.put, sA, sB, sC])
          refine wpAnyT_sink (i := 7) rfl (by kernel_rfl) rfl (by kernel_rfl) ?_
          intro K_ hK_
          have hO6 : Own Ever w6 A6 rec := (Own.of_row (l := rec) (by rw [HRE.out] at ho6; exact ho6) HRL.out.symm).mono (fun _ _ => trivial); have hap := (h.below hb6).append hi A6 rec c6 hO6 (by rw [HRL.out]; omega) (by rw [HRL.out]; exact hc6) hm6; rw [HRL.out] at hap; go_wp2_with (go_at_call 119; refine hap.mono ?_; rintro e w7 ⟨rfl, h7, f7⟩)
          (try (refine hK_ _ _ ?_; clear hK_ K_))
          (try simp only [Act.put, sA, sB, sC])
          (refine wpF (i := 8) rfl (by kernel_rfl) rfl (fun _ _ _ h => h) (fun _ => by go_simp; try rfl) ?_; (try simp only [Act.put, sA, sB, sC]))
          (refine wpF (i := 9) rfl (by kernel_rfl) rfl (fun _ _ _ h => h) (fun _ => by go_simp; try rfl) ?_; (try simp only [Act.put, sA, sB, sC]))
          (refine wpF (i := 10) rfl (by kernel_rfl) rfl (fun _ _ _ h => h) (fun _ => by go_simp; try rfl) ?_; (try simp only [Act.put, sA, sB, sC]))
          (refine wpF (i := 11) rfl (by kernel_rfl) rfl (fun _ _ _ h => h) (fun _ => by go_simp; try rfl) ?_; (try simp only [Act.put, sA, sB, sC]))
          (refine wpF (i := 12) rfl (by kernel_rfl) rfl (fun _ _ _ h => h) (fun _ => by go_simp; try rfl) ?_; (try simp only [Act.put, sA, sB, sC]))
          refine wpAnyT_done (by kernel_rfl) ?_ _
          go_wp2
          go_ret
          rw [HE.out.1, HE.out.2]
          exact RefDid8.from hb6 hlt ⟨rfl, h7, f7⟩
      · have HE := Lib.hid (show s.accept slot q v = (s, 2) from by unfold So.accept; rw [hdn, if_neg (by simp), if_neg (by simpa using hn1), if_pos hn2])
        rw [decide_eq_true hn1] at hns
        rw [decide_eq_false hn2] at hnq
        clear hdn hn1 hn2
        go_enter Tryz.func64, Tryz.ntmps64
        go_wp2_with (first
          | (go_at_call 117; refine hns.mono ?_; rintro e w' ⟨rfl, rfl⟩; clear hns)
          | (go_at_call 117; refine hnq.mono ?_; rintro e w' ⟨rfl, rfl⟩; clear hnq))
        go_ret
        rw [HE.out]
        exact h.did (Below.refl _ _) 2
    · have HE := Lib.hid (show s.accept slot q v = (s, 2) from by unfold So.accept; rw [hdn, if_neg (by simp), if_pos hn1])
      rw [decide_eq_false hn1] at hns
      clear hdn hn1
      go_enter Tryz.func64, Tryz.ntmps64
      go_wp2_with (go_at_call 117; refine hns.mono ?_; rintro e w' ⟨rfl, rfl⟩)
      go_ret
      rw [HE.out]
      exact h.did (Below.refl _ _) 2
  · have HE := Lib.hid (show s.accept slot q v = (s, 10) from by unfold So.accept; rw [hdn, if_pos rfl])
    rw [hdn] at ld
    clear hdn
    go_enter Tryz.func64, Tryz.ntmps64
    go_wp2
    go_ret
    rw [HE.out]
    exact h.did (Below.refl _ _) 10
end
end Go.Proofs.YtediidajdpdeiaaGreatDoor

/- The document's store (layer 8): size, New, SameHeld; the walks. -/
namespace Go.Proofs.YtediidajdpdeiaaGreatDoor
open Go.RowKit CrcM
set_option maxRecDepth 100000

theorem size_B8 (w : World) (k : Nat) (hk : k ≤ 1099511627776) : Calls Tryz.prog 122 #[.int .i64 (k : Int)] w (Told w (.int .i64 ((numB k).length : Int))) := by
  have hn := numY_B w none 0 [] (Own.nil _ _ _) (by decide) k hk
  rw [List.nil_append, List.length_nil] at hn
  go_enter Tryz.func122, Tryz.ntmps122
  go_wp2_with (go_at_call 118; refine hn.mono ?_; rintro e w1 ⟨A, c, rfl, ho, hc, hm, hb⟩)
  go_ret
  exact ⟨rfl, hb⟩

/-- WHAT New leaves -/
def RnewDid8 (w : World) (per : Int) (e : Ending) (w' : World) : Prop := ∃ r, e = .returned (.tuple #[.pointer (some ⟨r, 0, none⟩), .int .i64 0]) ∧ IsRef8 (Nw w w') w' r per.toNat (Lg.new per.toNat) St.new ∧ Below w.heap.size w w'
theorem refNew_B8 (w : World) (per : Int) : Calls Tryz.prog 8 #[.int .i64 per] w fun e w' =>
    if 1 ≤ per ∧ per ≤ 1024 then RnewDid8 w per e w' else e = .returned (.tuple #[.pointer none, .int .i64 2]) ∧ w' = w := by
  have hN := refLogNew_B w per
  by_cases hp : 1 ≤ per ∧ per ≤ 1024
  · simp only [if_pos hp] at hN ⊢
    go_enter Tryz.func8, Tryz.ntmps8
    go_wp2_with (go_at_call 48; refine hN.mono ?_; rintro e w1 ⟨lr, A, c, ps, H, rfl, hl, hb⟩)
    go_ret2
    have hb2 := below_new w1 (.cells #[.int .i64 per, .pointer (some ⟨lr, 0, none⟩), .int .i64 0, .int .i64 0, .slice none 0 0] TRS)
    have hB := Blk.new w1 TRS #[.int .i64 per, .pointer (some ⟨lr, 0, none⟩), .int .i64 0, .int .i64 0, .slice none 0 0]
    obtain ⟨n, rfl⟩ : ∃ n : Nat, per = n := ⟨per.toNat, by omega⟩
    refine ⟨_, rfl, ⟨Nw w w1, Non, H, lr, A, c, ps, none, 0, hB, hl.below hb2, ⟨Nat.le_refl _, Nat.zero_le _, [], HeldRw.nil _, .inl ⟨rfl, rfl⟩⟩, fun x hx => ⟨hx.1, Nat.lt_of_lt_of_le hx.2 hb2.size⟩, fun x hx => hx.elim, ⟨hb.size, by simp⟩, fun hx => by have := hx.2; omega, fun hx => hx.elim, fun x _ hx => hx.elim, fun x hx => hx.2⟩, hb.trans (hb2.mono hb.size)⟩
  · simp only [if_neg hp] at hN ⊢
    go_enter Tryz.func8, Tryz.ntmps8
    go_wp2_with (go_at_call 48; refine hN.mono ?_; rintro e w1 ⟨rfl, rfl⟩)
    go_ret2
    exact ⟨rfl, rfl⟩

set_option maxHeartbeats 1000000 in
theorem same_B8 {Xa Xb : Nat → Prop} (w : World) (A : Option Addr) (ca : Nat) (B : Option Addr) (cb : Nat) (H : Slots) (ha : HeldS Xa w A ca H) (hb : HeldS Xb w B cb H) :
    Calls Tryz.prog 19 #[.slice A H.length ca, .slice B H.length cb] w fun e w' => e = .returned (.bool true) ∧ Below w.heap.size w w' := by
  go_enter Tryz.func19, Tryz.ntmps19
  go_wp2
  go_loopw [5] (fun i wr => ∃ k : Nat, k ≤ H.length ∧ i = .int .i64 (k : Int) ∧ Below w.heap.size w wr) (fun i _ => H.length - (intOf i).toNat)
  case atStart => exact ⟨0, Nat.zero_le _, rfl, Below.refl _ _⟩
  case round =>
    obtain ⟨k, hk, rfl, hb9⟩ := hrel
    by_cases hlt : k < H.length
    · obtain ⟨p, hp⟩ : ∃ p, H[k]? = some p := ⟨_, List.getElem?_eq_getElem hlt⟩
      obtain ⟨g1, o1, B1, d1', q1, -, x1, x2, x3, -, -, x4⟩ := (ha.below hb9).at_ hp
      obtain ⟨g2, o2, B2, d2', q2, -, y1', y2', y3, -, -, y4⟩ := (hb.below hb9).at_ hp
      subst q1
      subst q2
      have s1' : (convert 30 9 (.slice B1 p.2.value.length d1')).run Tryz.prog wr.drew = .ok (.string ⟨p.2.value.toArray⟩) wr.drew := HeldS.str (w := wr.drew) x4.drew d1'
      have s2' : (convert 30 9 (.slice B2 p.2.value.length d2')).run Tryz.prog wr.drew = .ok (.string ⟨p.2.value.toArray⟩) wr.drew := HeldS.str (w := wr.drew) y4.drew d2'
      have hlt' : (k : Int) < (H.length : Int) := by omega
      have KL := Lib.hid hlt
      have hHl := ha.len
      have hcap1 := ha.1
      have hcap2 := hb.1
      clear hp x4 y4 ha hb
      obtain ⟨sl, bl, vl⟩ := p
      simp only at x1 x2 x3 y1' y2' y3 s1' s2'
      go_wp2
      refine wp_region_T #[[], [], [], [], [], [], [], [], [], [], [4, 9], [4, 9], [4, 9], [4, 9], [4, 9], [4, 9], [4, 9], [4, 9], [4, 9], [4, 9], [4, 9], [4, 9], [4, 9, 16, 21], [4, 9, 16, 21], [4, 9, 16, 21], [4, 9, 16, 21], [4, 9, 16, 21], [4, 9, 16, 21], [4, 9, 16, 21], [4, 9, 16, 21], [4, 9, 16, 21, 29], [4, 9, 16, 21], [4, 9, 16, 21], [4, 9, 16, 21], [4, 9, 16, 21], [4, 9, 16, 21], [4, 9, 16, 21, 35], [4, 9, 16, 21, 29, 30, 35, 36], [4, 9, 16, 21, 29, 30, 35, 36]] [4, 9, 16, 21, 29, 30, 35, 36] (fun w' => w'.cell? ⟨g1, o1 + k * 3, none⟩ = some (.int .i64 (sl : Int)) ∧ w'.cell? ⟨g1, o1 + k * 3 + 1, none⟩ = some (.int .i64 (bl : Int)) ∧ w'.cell? ⟨g1, o1 + k * 3 + 2, none⟩ = some (.slice B1 vl.length d1') ∧ w'.cell? ⟨g2, o2 + k * 3, none⟩ = some (.int .i64 (sl : Int)) ∧ w'.cell? ⟨g2, o2 + k * 3 + 1, none⟩ = some (.int .i64 (bl : Int)) ∧ w'.cell? ⟨g2, o2 + k * 3 + 2, none⟩ = some (.slice B2 vl.length d2') ∧ (convert 30 9 (.slice B1 vl.length d1')).run Tryz.prog w' = .ok (.string ⟨vl.toArray⟩) w' ∧ (convert 30 9 (.slice B2 vl.length d2')).run Tryz.prog w' = .ok (.string ⟨vl.toArray⟩) w') 39 rfl (by kernel_rfl) ?_
      (refine wpF (i := 0) rfl (by kernel_rfl) rfl (fun _ _ _ h => h) (fun _ => by go_simp; try rfl) ?_; (try simp only [Act.put, sA, sB, sC]))
      (refine wpF (i := 1) rfl (by kernel_rfl) rfl (fun _ _ _ h => h) (fun _ => by go_simp; try rfl) ?_; (try simp only [Act.put, sA, sB, sC]))
      (refine wpF (i := 2) rfl (by kernel_rfl) rfl (fun _ _ _ h => h) (fun _ => by go_simp; try rfl) ?_; (try simp only [Act.put, sA, sB, sC]))
      (refine wpF (i := 3) rfl (by kernel_rfl) rfl (fun _ _ _ h => h) (fun _ => by go_simp; try rfl) ?_; (try simp only [Act.put, sA, sB, sC]))
      (refine wpAnyT_read (i := 4) rfl (by kernel_rfl) rfl (fun _ _ _ h => h) (by kernel_rfl) (⟨x1, x2, x3, y1', y2', y3, s1', s2'⟩) (fun w hS_ => by obtain ⟨s_1, s_2, s_3, s_4, s_5, s_6, s_7, s_8⟩ := hS_; go_simp; try rfl) ?_; (try simp only [Act.put, sA, sB, sC]))
      (refine wpF (i := 5) rfl (by kernel_rfl) rfl (fun _ _ _ h => h) (fun _ => by go_simp; try rfl) ?_; (try simp only [Act.put, sA, sB, sC]))
      (refine wpF (i := 6) rfl (by kernel_rfl) rfl (fun _ _ _ h => h) (fun _ => by go_simp; try rfl) ?_; (try simp only [Act.put, sA, sB, sC]))
      (refine wpF (i := 7) rfl (by kernel_rfl) rfl (fun _ _ _ h => h) (fun _ => by go_simp; try rfl) ?_; (try simp only [Act.put, sA, sB, sC]))
      (refine wpF (i := 8) rfl (by kernel_rfl) rfl (fun _ _ _ h => h) (fun _ => by go_simp; try rfl) ?_; (try simp only [Act.put, sA, sB, sC]))
      (refine wpAnyT_read (i := 9) rfl (by kernel_rfl) rfl (fun _ _ _ h => h) (by kernel_rfl) (⟨x1, x2, x3, y1', y2', y3, s1', s2'⟩) (fun w hS_ => by obtain ⟨s_1, s_2, s_3, s_4, s_5, s_6, s_7, s_8⟩ := hS_; go_simp; try rfl) ?_; (try simp only [Act.put, sA, sB, sC]))
      (refine wpF (i := 10) rfl (by kernel_rfl) rfl (fun _ _ _ h => h) (fun _ => by go_simp; try rfl) ?_; (try simp only [Act.put, sA, sB, sC]))
      (refine wpF (i := 11) rfl (by kernel_rfl) rfl (fun _ _ _ h => h) (fun _ => by go_simp; try rfl) ?_; (try simp only [Act.put, sA, sB, sC]))
      first
      | (refine wpAnyT_skip (i := 12) rfl (by kernel_rfl) (by first | rfl | (simp [Region.wanted, yielded]; done) | (simp [Region.wanted, yielded, undef, *]; done) | fail) (fun _ _ _ h => h) (fun h_ => absurd h_ (by decide)) ?_; (try simp only [Act.put, sA, sB, sC]))
      | (refine wpF (i := 12) rfl (by kernel_rfl) (by first | rfl | (simp [Region.wanted, yielded]; done) | (simp [Region.wanted, yielded, undef, *]; done) | fail) (fun _ _ _ h => h) (fun _ => by go_simp; try rfl) ?_; (try simp only [Act.put, sA, sB, sC]))
      first
      | (refine wpAnyT_skip (i := 13) rfl (by kernel_rfl) (by first | rfl | (simp [Region.wanted, yielded]; done) | (simp [Region.wanted, yielded, undef, *]; done) | fail) (fun _ _ _ h => h) (fun h_ => absurd h_ (by decide)) ?_; (try simp only [Act.put, sA, sB, sC]))
      | (refine wpF (i := 13) rfl (by kernel_rfl) (by first | rfl | (simp [Region.wanted, yielded]; done) | (simp [Region.wanted, yielded, undef, *]; done) | fail) (fun _ _ _ h => h) (fun _ => by go_simp; try rfl) ?_; (try simp only [Act.put, sA, sB, sC]))
      first
      | (refine wpAnyT_skip (i := 14) rfl (by kernel_rfl) (by first | rfl | (simp [Region.wanted, yielded]; done) | (simp [Region.wanted, yielded, undef, *]; done) | fail) (fun _ _ _ h => h) (fun h_ => absurd h_ (by decide)) ?_; (try simp only [Act.put, sA, sB, sC]))
      | (refine wpF (i := 14) rfl (by kernel_rfl) (by first | rfl | (simp [Region.wanted, yielded]; done) | (simp [Region.wanted, yielded, undef, *]; done) | fail) (fun _ _ _ h => h) (fun _ => by go_simp; try rfl) ?_; (try simp only [Act.put, sA, sB, sC]))
      first
      | (refine wpAnyT_skip (i := 15) rfl (by kernel_rfl) (by first | rfl | (simp [Region.wanted, yielded]; done) | (simp [Region.wanted, yielded, undef, *]; done) | fail) (fun _ _ _ h => h) (fun h_ => absurd h_ (by decide)) ?_; (try simp only [Act.put, sA, sB, sC]))
      | (refine wpF (i := 15) rfl (by kernel_rfl) (by first | rfl | (simp [Region.wanted, yielded]; done) | (simp [Region.wanted, yielded, undef, *]; done) | fail) (fun _ _ _ h => h) (fun _ => by go_simp; try rfl) ?_; (try simp only [Act.put, sA, sB, sC]))
      first
      | (refine wpAnyT_skip (i := 16) rfl (by kernel_rfl) (by first | rfl | (simp [Region.wanted, yielded]; done) | (simp [Region.wanted, yielded, undef, *]; done) | fail) (fun _ _ _ h => h) (fun _ => ⟨x1, x2, x3, y1', y2', y3, s1', s2'⟩) ?_; (try simp only [Act.put, sA, sB, sC]))
      | (refine wpAnyT_read (i := 16) rfl (by kernel_rfl) (by first | rfl | (simp [Region.wanted, yielded]; done) | (simp [Region.wanted, yielded, undef, *]; done) | fail) (fun _ _ _ h => h) (by kernel_rfl) (⟨x1, x2, x3, y1', y2', y3, s1', s2'⟩) (fun w hS_ => by obtain ⟨s_1, s_2, s_3, s_4, s_5, s_6, s_7, s_8⟩ := hS_; go_simp; try rfl) ?_; (try simp only [Act.put, sA, sB, sC]))
      first
      | (refine wpAnyT_skip (i := 17) rfl (by kernel_rfl) (by first | rfl | (simp [Region.wanted, yielded]; done) | (simp [Region.wanted, yielded, undef, *]; done) | fail) (fun _ _ _ h => h) (fun h_ => absurd h_ (by decide)) ?_; (try simp only [Act.put, sA, sB, sC]))
      | (refine wpF (i := 17) rfl (by kernel_rfl) (by first | rfl | (simp [Region.wanted, yielded]; done) | (simp [Region.wanted, yielded, undef, *]; done) | fail) (fun _ _ _ h => h) (fun _ => by go_simp; try rfl) ?_; (try simp only [Act.put, sA, sB, sC]))
      first
      | (refine wpAnyT_skip (i := 18) rfl (by kernel_rfl) (by first | rfl | (simp [Region.wanted, yielded]; done) | (simp [Region.wanted, yielded, undef, *]; done) | fail) (fun _ _ _ h => h) (fun h_ => absurd h_ (by decide)) ?_; (try simp only [Act.put, sA, sB, sC]))
      | (refine wpF (i := 18) rfl (by kernel_rfl) (by first | rfl | (simp [Region.wanted, yielded]; done) | (simp [Region.wanted, yielded, undef, *]; done) | fail) (fun _ _ _ h => h) (fun _ => by go_simp; try rfl) ?_; (try simp only [Act.put, sA, sB, sC]))
      first
      | (refine wpAnyT_skip (i := 19) rfl (by kernel_rfl) (by first | rfl | (simp [Region.wanted, yielded]; done) | (simp [Region.wanted, yielded, undef, *]; done) | fail) (fun _ _ _ h => h) (fun h_ => absurd h_ (by decide)) ?_; (try simp only [Act.put, sA, sB, sC]))
      | (refine wpF (i := 19) rfl (by kernel_rfl) (by first | rfl | (simp [Region.wanted, yielded]; done) | (simp [Region.wanted, yielded, undef, *]; done) | fail) (fun _ _ _ h => h) (fun _ => by go_simp; try rfl) ?_; (try simp only [Act.put, sA, sB, sC]))
      first
      | (refine wpAnyT_skip (i := 20) rfl (by kernel_rfl) (by first | rfl | (simp [Region.wanted, yielded]; done) | (simp [Region.wanted, yielded, undef, *]; done) | fail) (fun _ _ _ h => h) (fun h_ => absurd h_ (by decide)) ?_; (try simp only [Act.put, sA, sB, sC]))
      | (refine wpF (i := 20) rfl (by kernel_rfl) (by first | rfl | (simp [Region.wanted, yielded]; done) | (simp [Region.wanted, yielded, undef, *]; done) | fail) (fun _ _ _ h => h) (fun _ => by go_simp; try rfl) ?_; (try simp only [Act.put, sA, sB, sC]))
      first
      | (refine wpAnyT_skip (i := 21) rfl (by kernel_rfl) (by first | rfl | (simp [Region.wanted, yielded]; done) | (simp [Region.wanted, yielded, undef, *]; done) | fail) (fun _ _ _ h => h) (fun _ => ⟨x1, x2, x3, y1', y2', y3, s1', s2'⟩) ?_; (try simp only [Act.put, sA, sB, sC]))
      | (refine wpAnyT_read (i := 21) rfl (by kernel_rfl) (by first | rfl | (simp [Region.wanted, yielded]; done) | (simp [Region.wanted, yielded, undef, *]; done) | fail) (fun _ _ _ h => h) (by kernel_rfl) (⟨x1, x2, x3, y1', y2', y3, s1', s2'⟩) (fun w hS_ => by obtain ⟨s_1, s_2, s_3, s_4, s_5, s_6, s_7, s_8⟩ := hS_; go_simp; try rfl) ?_; (try simp only [Act.put, sA, sB, sC]))
      first
      | (refine wpAnyT_skip (i := 22) rfl (by kernel_rfl) (by first | rfl | (simp [Region.wanted, yielded]; done) | (simp [Region.wanted, yielded, undef, *]; done) | fail) (fun _ _ _ h => h) (fun h_ => absurd h_ (by decide)) ?_; (try simp only [Act.put, sA, sB, sC]))
      | (refine wpF (i := 22) rfl (by kernel_rfl) (by first | rfl | (simp [Region.wanted, yielded]; done) | (simp [Region.wanted, yielded, undef, *]; done) | fail) (fun _ _ _ h => h) (fun _ => by go_simp; try rfl) ?_; (try simp only [Act.put, sA, sB, sC]))
      (refine wpF (i := 23) rfl (by kernel_rfl) rfl (fun _ _ _ h => h) (fun _ => by go_simp; try rfl) ?_; (try simp only [Act.put, sA, sB, sC]))
      (refine wpF (i := 24) rfl (by kernel_rfl) rfl (fun _ _ _ h => h) (fun _ => by go_simp; try rfl) ?_; (try simp only [Act.put, sA, sB, sC]))
      first
      | (refine wpAnyT_skip (i := 25) rfl (by kernel_rfl) (by first | rfl | (simp [Region.wanted, yielded]; done) | (simp [Region.wanted, yielded, undef, *]; done) | fail) (fun _ _ _ h => h) (fun h_ => absurd h_ (by decide)) ?_; (try simp only [Act.put, sA, sB, sC]))
      | (refine wpF (i := 25) rfl (by kernel_rfl) (by first | rfl | (simp [Region.wanted, yielded]; done) | (simp [Region.wanted, yielded, undef, *]; done) | fail) (fun _ _ _ h => h) (fun _ => by go_simp; try rfl) ?_; (try simp only [Act.put, sA, sB, sC]))
      first
      | (refine wpAnyT_skip (i := 26) rfl (by kernel_rfl) (by first | rfl | (simp [Region.wanted, yielded]; done) | (simp [Region.wanted, yielded, undef, *]; done) | fail) (fun _ _ _ h => h) (fun h_ => absurd h_ (by decide)) ?_; (try simp only [Act.put, sA, sB, sC]))
      | (refine wpF (i := 26) rfl (by kernel_rfl) (by first | rfl | (simp [Region.wanted, yielded]; done) | (simp [Region.wanted, yielded, undef, *]; done) | fail) (fun _ _ _ h => h) (fun _ => by go_simp; try rfl) ?_; (try simp only [Act.put, sA, sB, sC]))
      first
      | (refine wpAnyT_skip (i := 27) rfl (by kernel_rfl) (by first | rfl | (simp [Region.wanted, yielded]; done) | (simp [Region.wanted, yielded, undef, *]; done) | fail) (fun _ _ _ h => h) (fun h_ => absurd h_ (by decide)) ?_; (try simp only [Act.put, sA, sB, sC]))
      | (refine wpF (i := 27) rfl (by kernel_rfl) (by first | rfl | (simp [Region.wanted, yielded]; done) | (simp [Region.wanted, yielded, undef, *]; done) | fail) (fun _ _ _ h => h) (fun _ => by go_simp; try rfl) ?_; (try simp only [Act.put, sA, sB, sC]))
      first
      | (refine wpAnyT_skip (i := 28) rfl (by kernel_rfl) (by first | rfl | (simp [Region.wanted, yielded]; done) | (simp [Region.wanted, yielded, undef, *]; done) | fail) (fun _ _ _ h => h) (fun h_ => absurd h_ (by decide)) ?_; (try simp only [Act.put, sA, sB, sC]))
      | (refine wpF (i := 28) rfl (by kernel_rfl) (by first | rfl | (simp [Region.wanted, yielded]; done) | (simp [Region.wanted, yielded, undef, *]; done) | fail) (fun _ _ _ h => h) (fun _ => by go_simp; try rfl) ?_; (try simp only [Act.put, sA, sB, sC]))
      first
      | (refine wpAnyT_skip (i := 29) rfl (by kernel_rfl) (by first | rfl | (simp [Region.wanted, yielded]; done) | (simp [Region.wanted, yielded, undef, *]; done) | fail) (fun _ _ _ h => h) (fun _ => ⟨x1, x2, x3, y1', y2', y3, s1', s2'⟩) ?_; (try simp only [Act.put, sA, sB, sC]))
      | (refine wpAnyT_read (i := 29) rfl (by kernel_rfl) (by first | rfl | (simp [Region.wanted, yielded]; done) | (simp [Region.wanted, yielded, undef, *]; done) | fail) (fun _ _ _ h => h) (by kernel_rfl) (⟨x1, x2, x3, y1', y2', y3, s1', s2'⟩) (fun w hS_ => by obtain ⟨s_1, s_2, s_3, s_4, s_5, s_6, s_7, s_8⟩ := hS_; go_simp; try rfl) ?_; (try simp only [Act.put, sA, sB, sC]))
      first
      | (refine wpAnyT_skip (i := 30) rfl (by kernel_rfl) (by first | rfl | (simp [Region.wanted, yielded]; done) | (simp [Region.wanted, yielded, undef, *]; done) | fail) (fun _ _ _ h => h) (fun _ => ⟨x1, x2, x3, y1', y2', y3, s1', s2'⟩) ?_; (try simp only [Act.put, sA, sB, sC]))
      | (refine wpAnyT_read (i := 30) rfl (by kernel_rfl) (by first | rfl | (simp [Region.wanted, yielded]; done) | (simp [Region.wanted, yielded, undef, *]; done) | fail) (fun _ _ _ h => h) (by kernel_rfl) (⟨x1, x2, x3, y1', y2', y3, s1', s2'⟩) (fun w hS_ => by obtain ⟨s_1, s_2, s_3, s_4, s_5, s_6, s_7, s_8⟩ := hS_; go_simp; try rfl) ?_; (try simp only [Act.put, sA, sB, sC]))
      first
      | (refine wpAnyT_skip (i := 31) rfl (by kernel_rfl) (by first | rfl | (simp [Region.wanted, yielded]; done) | (simp [Region.wanted, yielded, undef, *]; done) | fail) (fun _ _ _ h => h) (fun h_ => absurd h_ (by decide)) ?_; (try simp only [Act.put, sA, sB, sC]))
      | (refine wpF (i := 31) rfl (by kernel_rfl) (by first | rfl | (simp [Region.wanted, yielded]; done) | (simp [Region.wanted, yielded, undef, *]; done) | fail) (fun _ _ _ h => h) (fun _ => by go_simp; try rfl) ?_; (try simp only [Act.put, sA, sB, sC]))
      first
      | (refine wpAnyT_skip (i := 32) rfl (by kernel_rfl) (by first | rfl | (simp [Region.wanted, yielded]; done) | (simp [Region.wanted, yielded, undef, *]; done) | fail) (fun _ _ _ h => h) (fun h_ => absurd h_ (by decide)) ?_; (try simp only [Act.put, sA, sB, sC]))
      | (refine wpF (i := 32) rfl (by kernel_rfl) (by first | rfl | (simp [Region.wanted, yielded]; done) | (simp [Region.wanted, yielded, undef, *]; done) | fail) (fun _ _ _ h => h) (fun _ => by go_simp; try rfl) ?_; (try simp only [Act.put, sA, sB, sC]))
      first
      | (refine wpAnyT_skip (i := 33) rfl (by kernel_rfl) (by first | rfl | (simp [Region.wanted, yielded]; done) | (simp [Region.wanted, yielded, undef, *]; done) | fail) (fun _ _ _ h => h) (fun h_ => absurd h_ (by decide)) ?_; (try simp only [Act.put, sA, sB, sC]))
      | (refine wpF (i := 33) rfl (by kernel_rfl) (by first | rfl | (simp [Region.wanted, yielded]; done) | (simp [Region.wanted, yielded, undef, *]; done) | fail) (fun _ _ _ h => h) (fun _ => by go_simp; try rfl) ?_; (try simp only [Act.put, sA, sB, sC]))
      first
      | (refine wpAnyT_skip (i := 34) rfl (by kernel_rfl) (by first | rfl | (simp [Region.wanted, yielded]; done) | (simp [Region.wanted, yielded, undef, *]; done) | fail) (fun _ _ _ h => h) (fun h_ => absurd h_ (by decide)) ?_; (try simp only [Act.put, sA, sB, sC]))
      | (refine wpF (i := 34) rfl (by kernel_rfl) (by first | rfl | (simp [Region.wanted, yielded]; done) | (simp [Region.wanted, yielded, undef, *]; done) | fail) (fun _ _ _ h => h) (fun _ => by go_simp; try rfl) ?_; (try simp only [Act.put, sA, sB, sC]))
      first
      | (refine wpAnyT_skip (i := 35) rfl (by kernel_rfl) (by first | rfl | (simp [Region.wanted, yielded]; done) | (simp [Region.wanted, yielded, undef, *]; done) | fail) (fun _ _ _ h => h) (fun _ => ⟨x1, x2, x3, y1', y2', y3, s1', s2'⟩) ?_; (try simp only [Act.put, sA, sB, sC]))
      | (refine wpAnyT_read (i := 35) rfl (by kernel_rfl) (by first | rfl | (simp [Region.wanted, yielded]; done) | (simp [Region.wanted, yielded, undef, *]; done) | fail) (fun _ _ _ h => h) (by kernel_rfl) (⟨x1, x2, x3, y1', y2', y3, s1', s2'⟩) (fun w hS_ => by obtain ⟨s_1, s_2, s_3, s_4, s_5, s_6, s_7, s_8⟩ := hS_; go_simp; try rfl) ?_; (try simp only [Act.put, sA, sB, sC]))
      first
      | (refine wpAnyT_skip (i := 36) rfl (by kernel_rfl) (by first | rfl | (simp [Region.wanted, yielded]; done) | (simp [Region.wanted, yielded, undef, *]; done) | fail) (fun _ _ _ h => h) (fun _ => ⟨x1, x2, x3, y1', y2', y3, s1', s2'⟩) ?_; (try simp only [Act.put, sA, sB, sC]))
      | (refine wpAnyT_read (i := 36) rfl (by kernel_rfl) (by first | rfl | (simp [Region.wanted, yielded]; done) | (simp [Region.wanted, yielded, undef, *]; done) | fail) (fun _ _ _ h => h) (by kernel_rfl) (⟨x1, x2, x3, y1', y2', y3, s1', s2'⟩) (fun w hS_ => by obtain ⟨s_1, s_2, s_3, s_4, s_5, s_6, s_7, s_8⟩ := hS_; go_simp; try rfl) ?_; (try simp only [Act.put, sA, sB, sC]))
      first
      | (refine wpAnyT_skip (i := 37) rfl (by kernel_rfl) (by first | rfl | (simp [Region.wanted, yielded]; done) | (simp [Region.wanted, yielded, undef, *]; done) | fail) (fun _ _ _ h => h) (fun h_ => absurd h_ (by decide)) ?_; (try simp only [Act.put, sA, sB, sC]))
      | (refine wpF (i := 37) rfl (by kernel_rfl) (by first | rfl | (simp [Region.wanted, yielded]; done) | (simp [Region.wanted, yielded, undef, *]; done) | fail) (fun _ _ _ h => h) (fun _ => by go_simp; try rfl) ?_; (try simp only [Act.put, sA, sB, sC]))
      (refine wpF (i := 38) rfl (by kernel_rfl) rfl (fun _ _ _ h => h) (fun _ => by go_simp; try rfl) ?_; (try simp only [Act.put, sA, sB, sC]))
      refine wpAnyT_done (by kernel_rfl) ?_ _
      go_wp2
      go_roundw
      case rel => exact ⟨k + 1, by have := KL.out; omega, by go_num, hb9.drew⟩
      case measure => have := KL.out; simp [intOf]; omega
    · obtain rfl : k = H.length := by omega
      clear ha hb
      go_wp2
      go_ret
      exact ⟨rfl, hb9⟩
end Go.Proofs.YtediidajdpdeiaaGreatDoor

/- The document's store (layer 8): Snapshot, the walk. -/
namespace Go.Proofs.YtediidajdpdeiaaGreatDoor
open Go.RowKit CrcM
set_option maxRecDepth 100000

/-- how long the snapshot is, behind k slots -/
def longB (st : St) (k : Nat) : Nat := (numB st.promised).length + (numB st.base).length + (numB st.slots.length).length + ((st.slots.take k).map slotB).flatten.length
theorem longB_end (st : St) : longB st st.slots.length = (snapB st).length := by
  unfold longB snapB
  rw [List.take_length]
  simp only [List.length_append]
  omega
theorem longB_le (st : St) (k : Nat) : longB st k ≤ (snapB st).length := by
  rw [← longB_end]
  unfold longB
  rw [List.take_length]
  have e : (st.slots.map slotB).flatten.length = ((st.slots.take k).map slotB).flatten.length + ((st.slots.drop k).map slotB).flatten.length := by
    rw [← List.length_append, ← List.flatten_append, ← List.map_append, List.take_append_drop]
  omega
theorem longB_succ (st : St) {k : Nat} {p : Nat × Hd} (h : st.slots[k]? = some p) : longB st (k + 1) = longB st k + (numB p.1).length + (numB p.2.ballot).length + (numB p.2.value.length).length + p.2.value.length := by
  unfold longB
  rw [List.take_add_one, h, List.map_append, List.flatten_append, List.length_append]
  have : ((Option.toList (some p)).map slotB).flatten.length = (numB p.1).length + (numB p.2.ballot).length + (numB p.2.value.length).length + p.2.value.length := by
    simp only [Option.toList_some, List.map_cons, List.map_nil, List.flatten_cons, List.flatten_nil, List.append_nil]
    unfold slotB
    simp only [List.length_append]
    omega
  omega
theorem HeldS.bound {X : Nat → Prop} {w : World} {A : Option Addr} {c : Nat} {H : Slots} (h : HeldS X w A c H) : HeldS (fun x => X x ∧ x < w.heap.size) w A c H := by
  obtain ⟨h1, h2, xs, h3, h4⟩ := h
  refine ⟨h1, h2, xs, h3, h4.imp_right ?_⟩
  rintro ⟨g, o, cur, e, hg, hc, hj⟩
  exact ⟨g, o, cur, e, ⟨hg, (Array.getElem?_eq_some_iff.1 hc).1⟩, hc, hj⟩

section
variable {T T1 T2 H : Nat → Prop} {w w' : World} {r lr : Nat} {A1 : Option Addr} {c1 : Nat} {ps : List Nat} {A2 : Option Addr} {c2 : Nat} {per : Nat} {s : So} {st0 : St} {rcs : List Rc} {m n : Nat}
theorem RefO.mono {T' : Nat → Prop} {L : Lg} {st : St} {per : Nat} (h : RefO T T1 T2 H w r lr A1 c1 ps A2 c2 per L st) (hs : ∀ x, T x → T' x) (hl : ∀ x, T' x → x < w.heap.size) : RefO T' T1 T2 H w r lr A1 c1 ps A2 c2 per L st :=
  ⟨h.blk, h.log, h.snap, fun x hx => hs x (h.t1 x hx), fun x hx => hs x (h.t2 x hx), hs r h.hr, h.d1, h.d2, h.d12, hl⟩
/-- what a snapshot writes -/
theorem RefO.snapped {w5 w6 w7 : World} {X : Nat → Prop} {A : Option Addr} {c : Nat} {st : St} {lr' : Nat} {A' : Option Addr} {c' : Nat} {ps' : List Nat} {H' : Nat → Prop} {L L' : Lg}
    (h : RefO T T1 T2 H w5 r lr A1 c1 ps A2 c2 per L st0) (hX : HeldS X w5 A c st.slots) (hrX : ¬ X r)
    (e6 : w6 = ((w5.setCell ⟨r, 2, none⟩ (.int .i64 (st.promised : Int))).setCell ⟨r, 3, none⟩ (.int .i64 (st.base : Int))).setCell ⟨r, 4, none⟩ (.slice A st.slots.length c))
    (hl : RlogO (Nw w6 w7) H' w7 lr' A' c' ps' L'.ref) (hb7 : Below w6.heap.size w6 w7) :
    Fr (fun x => x = r) w5 (w7.setCell ⟨r, 1, none⟩ (.pointer (some ⟨lr', 0, none⟩))) ∧ RefO (fun x => T x ∨ X x ∧ x < w5.heap.size ∨ Nw w6 w7 x) (Nw w6 w7) (fun x => X x ∧ x < w5.heap.size) H' (w7.setCell ⟨r, 1, none⟩ (.pointer (some ⟨lr', 0, none⟩))) r lr' A' c' ps' A c per L' st := by
  have hnb : ¬ IsB w5 r := h.blk.notB (by decide)
  have f6 : Fr (fun x => x = r) w5 w6 := by
    rw [e6]
    exact (((Fr.refl (fun x => x = r) w5).setCell (p := ⟨r, 2, none⟩) (.inl rfl) hnb _).setCell (p := ⟨r, 3, none⟩) (.inl rfl) hnb _).setCell (p := ⟨r, 4, none⟩) (.inl rfl) hnb _
  have s6 : w6.heap.size = w5.heap.size := by rw [e6]; simp [World.setCell]
  have f7 : Fr (fun x => x = r) w5 w7 := f6.trans' (Fr.of_below (S := Non) hb7) (fun _ _ h => h.elim)
  have hB6 : Blk w6 r TRS #[.int .i64 (per : Int), .pointer (some ⟨lr, 0, none⟩), .int .i64 (st.promised : Int), .int .i64 (st.base : Int), .slice A st.slots.length c] := by
    rw [e6]
    simpa using ((h.blk.set 2 (.int .i64 (st.promised : Int))).set 3 (.int .i64 (st.base : Int))).set 4 (.slice A st.slots.length c)
  have hB7 := hB6.below' hb7
  have hB8 : Blk (w7.setCell ⟨r, 1, none⟩ (.pointer (some ⟨lr', 0, none⟩))) r TRS #[.int .i64 (per : Int), .pointer (some ⟨lr', 0, none⟩), .int .i64 (st.promised : Int), .int .i64 (st.base : Int), .slice A st.slots.length c] := by
    simpa using hB7.set 1 (.pointer (some ⟨lr', 0, none⟩))
  have f8 : Fr (fun x => x = r) w5 (w7.setCell ⟨r, 1, none⟩ (.pointer (some ⟨lr', 0, none⟩))) := f7.setCell (p := ⟨r, 1, none⟩) (.inl rfl) hnb _
  have f78 : Fr (fun x => x = r) w7 (w7.setCell ⟨r, 1, none⟩ (.pointer (some ⟨lr', 0, none⟩))) := (Fr.refl (fun x => x = r) w7).setCell (p := ⟨r, 1, none⟩) (.inl rfl) (hB7.notB (by decide)) _
  have hr5 : r < w5.heap.size := h.blk.lt
  have hNr : ¬ Nw w6 w7 r := fun q => by have := q.1; omega
  refine ⟨f8, hB8, hl.fr f78 (fun x hx e => (hNr (e ▸ hx)).elim), hX.bound.xk (fun x hx => f8.out x hx.2 (fun e => hrX (e ▸ hx.1))) f8.byt, fun x hx => .inr (.inr hx), fun x hx => .inr (.inl hx), .inl h.hr, hNr, fun hx => hrX hx.1, fun x hx hy => by have := hx.1; have := hy.2; omega, fun x hx => ?_⟩
  have s8 : (w7.setCell ⟨r, 1, none⟩ (.pointer (some ⟨lr', 0, none⟩))).heap.size = w7.heap.size := by simp [World.setCell]
  have := hb7.size
  rcases hx with hx | hx | hx
  · have := h.lt x hx; omega
  · have := hx.2; omega
  · have := hx.2; omega
set_option maxHeartbeats 2000000 in
theorem refSnapshot_B8 (h : RefO T T1 T2 H w r lr A1 c1 ps A2 c2 s.per s.log st0) (hi : s.inv m n st0 rcs) (hd : s.log.down = false) :
    Calls Tryz.prog 67 #[.pointer (some ⟨r, 0, none⟩)] w (RefDid8 T w r s.per (Lg.new s.per) s.st 0) := by
  obtain ⟨b0, b1, b2, b3, b4, ld⟩ := h.facts
  rw [hd] at ld
  obtain ⟨s1, e1, i1, d1, -, t1, l1⟩ := hi.sync hd
  have hSy := refLogSync_B h.log hi.log
  have hbig := snapB_len hi hd
  have hst := hi.st hd
  have hsm := hi.small
  have hper := hi.per
  have hok := hst.1.ok
  have hpr := hok.pr
  have hba := hok.ba
  have hlt0 := h.lt
  have hlen : s.st.slots.length ≤ 1099511627776 := by omega
  have hr0 := h.hr
  have q1 := numB_10 (n := s.st.promised) (by omega)
  have q2 := numB_10 (n := s.st.base) (by omega)
  have q3 := numB_10 (n := s.st.slots.length) (by omega)
  have wz1 : IntKind.i64.wrap (((numB s.st.promised).length : Int) + ((numB s.st.base).length : Int)) = ((numB s.st.promised).length : Int) + ((numB s.st.base).length : Int) := by rw [IntKind.wrap_i64]; omega
  have wz2 : IntKind.i64.wrap (((numB s.st.promised).length : Int) + ((numB s.st.base).length : Int) + ((numB s.st.slots.length).length : Int)) = ((numB s.st.promised).length : Int) + ((numB s.st.base).length : Int) + ((numB s.st.slots.length).length : Int) := by rw [IntKind.wrap_i64]; omega
  have L1 := Lib.hid l1
  have T1' := Lib.hid t1
  clear e1 l1 t1
  go_enter Tryz.func67, Tryz.ntmps67
  go_wp2_with (first
    | (go_at_call 66; refine hSy.mono ?_; rintro e w1 ⟨rfl, hl1, f1⟩; obtain ⟨hr1, g1⟩ := h.turn hl1 f1; rw [← L1.out] at hr1; obtain ⟨T1a, T2a, Ha, lra, A1a, c1a, psa, A2a, c2a, h1⟩ := hr1; have hall := all_S8 h1 i1 d1; rw [T1'.out] at hall; clear hSy hl1)
    | (go_at_call 76; refine hall.mono ?_; rintro e w2 ⟨X, A, c, rfl, hH, hX, hb2⟩; have hbr := Below.refl w2.heap.size w2; clear hall)
    | (go_at_call 122; refine (size_B8 _ _ (by first | exact hpr | exact hba | exact hlen)).mono ?_; rintro e w3 ⟨rfl, hb3⟩; have hbr := hbr.trans (hb3.mono hbr.size)))
  go_loopw [6, 7] (fun lv iv wr => ∃ k N : Nat, k ≤ s.st.slots.length ∧ iv = .int .i64 (k : Int) ∧ lv = .int .i64 (N : Int) ∧ Hid (N = longB s.st k) ∧ Below w3.heap.size w3 wr) (fun _ iv _ => s.st.slots.length - (intOf iv).toNat)
  case atStart => exact ⟨0, (numB s.st.promised).length + (numB s.st.base).length + (numB s.st.slots.length).length, Nat.zero_le _, rfl, by go_num, Lib.hid (by unfold longB; simp), Below.refl _ _⟩
  case round =>
    obtain ⟨k, N, hk, rfl, rfl, hN, hb9⟩ := hrel
    have hHl := hH.len
    have hcap := hH.1
    clear wz1 wz2
    have hN2 : N ≤ 65536 := by rw [hN.out]; exact Nat.le_trans (longB_le _ _) hbig
    by_cases hlt : k < s.st.slots.length
    · obtain ⟨p, hp⟩ : ∃ p, s.st.slots[k]? = some p := ⟨_, List.getElem?_eq_getElem hlt⟩
      obtain ⟨g, o, B, cb, q1', -, x1, x2, x3, -, -, -⟩ := ((hH.below hbr).below hb9).at_ hp
      subst q1'
      have hlt' : (k : Int) < (s.st.slots.length : Int) := by omega
      have KL := Lib.hid hlt
      have hS := longB_succ s.st hp
      rw [← hN.out] at hS
      have hS2 : N + (numB p.1).length + (numB p.2.ballot).length + (numB p.2.value.length).length + p.2.value.length ≤ 65536 := by rw [← hS]; exact Nat.le_trans (longB_le _ _) hbig
      have HS := Lib.hid hS
      obtain ⟨o1, o2, o3⟩ := hok.all p (List.mem_of_getElem? hp)
      have o4 : p.2.value.length ≤ 1099511627776 := by omega
      obtain ⟨sl, bl, vl⟩ := p
      simp only at x1 x2 x3 o1 o2 o3 o4 hS2
      have hbq := hb9.drew
      have v1 : IntKind.i64.wrap ((N : Int) + ((numB sl).length : Int)) = (N : Int) + ((numB sl).length : Int) := by rw [IntKind.wrap_i64]; omega
      have v2 : IntKind.i64.wrap ((N : Int) + ((numB sl).length : Int) + ((numB bl).length : Int)) = (N : Int) + ((numB sl).length : Int) + ((numB bl).length : Int) := by rw [IntKind.wrap_i64]; omega
      have v3 : IntKind.i64.wrap ((N : Int) + ((numB sl).length : Int) + ((numB bl).length : Int) + ((numB vl.length).length : Int)) = (N : Int) + ((numB sl).length : Int) + ((numB bl).length : Int) + ((numB vl.length).length : Int) := by rw [IntKind.wrap_i64]; omega
      have v4 : IntKind.i64.wrap ((N : Int) + ((numB sl).length : Int) + ((numB bl).length : Int) + ((numB vl.length).length : Int) + (vl.length : Int)) = (N : Int) + ((numB sl).length : Int) + ((numB bl).length : Int) + ((numB vl.length).length : Int) + (vl.length : Int) := by rw [IntKind.wrap_i64]; omega
      clear hp hS hH hlt hS2 hN
      go_wp2
      refine wp_region_T #[[], [], [], [], [], [], [5], [5], [], [], [], [], [], [5, 12], [5, 12], [], [], [], [], [], [19], [5, 12, 19], [5, 12, 19], [], [], [], [], [], [27], [5, 12, 19, 27], [5, 12, 19, 27]] [5, 12, 19, 27] (fun w' => w'.cell? ⟨g, o + k * 3, none⟩ = some (.int .i64 (sl : Int)) ∧ w'.cell? ⟨g, o + k * 3 + 1, none⟩ = some (.int .i64 (bl : Int)) ∧ w'.cell? ⟨g, o + k * 3 + 2, none⟩ = some (.slice B vl.length cb)) 31 rfl (by kernel_rfl) ?_
      (refine wpF (i := 0) rfl (by kernel_rfl) rfl (fun _ _ _ h => h) (fun _ => by go_simp; try rfl) ?_; (try simp only [Act.put, sA, sB, sC]))
      (refine wpF (i := 1) rfl (by kernel_rfl) rfl (fun _ _ _ h => h) (fun _ => by go_simp; try rfl) ?_; (try simp only [Act.put, sA, sB, sC]))
      (refine wpF (i := 2) rfl (by kernel_rfl) rfl (fun _ _ _ h => h) (fun _ => by go_simp; try rfl) ?_; (try simp only [Act.put, sA, sB, sC]))
      (refine wpF (i := 3) rfl (by kernel_rfl) rfl (fun _ _ _ h => h) (fun _ => by go_simp; try rfl) ?_; (try simp only [Act.put, sA, sB, sC]))
      (refine wpF (i := 4) rfl (by kernel_rfl) rfl (fun _ _ _ h => h) (fun _ => by go_simp; try rfl) ?_; (try simp only [Act.put, sA, sB, sC]))
      (refine wpAnyT_read (i := 5) rfl (by kernel_rfl) rfl (fun _ _ _ h => h) (by kernel_rfl) (⟨x1, x2, x3⟩) (fun w hS_ => by obtain ⟨s_1, s_2, s_3⟩ := hS_; go_simp; try rfl) ?_; (try simp only [Act.put, sA, sB, sC]))
      (refine wpF (i := 8) rfl (by kernel_rfl) rfl (fun _ _ _ h => h) (fun _ => by go_simp; try rfl) ?_; (try simp only [Act.put, sA, sB, sC]))
      (refine wpF (i := 9) rfl (by kernel_rfl) rfl (fun _ _ _ h => h) (fun _ => by go_simp; try rfl) ?_; (try simp only [Act.put, sA, sB, sC]))
      (refine wpF (i := 10) rfl (by kernel_rfl) rfl (fun _ _ _ h => h) (fun _ => by go_simp; try rfl) ?_; (try simp only [Act.put, sA, sB, sC]))
      (refine wpF (i := 11) rfl (by kernel_rfl) rfl (fun _ _ _ h => h) (fun _ => by go_simp; try rfl) ?_; (try simp only [Act.put, sA, sB, sC]))
      (refine wpAnyT_read (i := 12) rfl (by kernel_rfl) rfl (fun _ _ _ h => h) (by kernel_rfl) (⟨x1, x2, x3⟩) (fun w hS_ => by obtain ⟨s_1, s_2, s_3⟩ := hS_; go_simp; try rfl) ?_; (try simp only [Act.put, sA, sB, sC]))
      (refine wpF (i := 15) rfl (by kernel_rfl) rfl (fun _ _ _ h => h) (fun _ => by go_simp; try rfl) ?_; (try simp only [Act.put, sA, sB, sC]))
      (refine wpF (i := 16) rfl (by kernel_rfl) rfl (fun _ _ _ h => h) (fun _ => by go_simp; try rfl) ?_; (try simp only [Act.put, sA, sB, sC]))
      (refine wpF (i := 17) rfl (by kernel_rfl) rfl (fun _ _ _ h => h) (fun _ => by go_simp; try rfl) ?_; (try simp only [Act.put, sA, sB, sC]))
      (refine wpF (i := 18) rfl (by kernel_rfl) rfl (fun _ _ _ h => h) (fun _ => by go_simp; try rfl) ?_; (try simp only [Act.put, sA, sB, sC]))
      (refine wpAnyT_read (i := 19) rfl (by kernel_rfl) rfl (fun _ _ _ h => h) (by kernel_rfl) (⟨x1, x2, x3⟩) (fun w hS_ => by obtain ⟨s_1, s_2, s_3⟩ := hS_; go_simp; try rfl) ?_; (try simp only [Act.put, sA, sB, sC]))
      (refine wpF (i := 20) rfl (by kernel_rfl) rfl (fun _ _ _ h => h) (fun _ => by go_simp; try rfl) ?_; (try simp only [Act.put, sA, sB, sC]))
      (refine wpF (i := 23) rfl (by kernel_rfl) rfl (fun _ _ _ h => h) (fun _ => by go_simp; try rfl) ?_; (try simp only [Act.put, sA, sB, sC]))
      (refine wpF (i := 24) rfl (by kernel_rfl) rfl (fun _ _ _ h => h) (fun _ => by go_simp; try rfl) ?_; (try simp only [Act.put, sA, sB, sC]))
      (refine wpF (i := 25) rfl (by kernel_rfl) rfl (fun _ _ _ h => h) (fun _ => by go_simp; try rfl) ?_; (try simp only [Act.put, sA, sB, sC]))
      (refine wpF (i := 26) rfl (by kernel_rfl) rfl (fun _ _ _ h => h) (fun _ => by go_simp; try rfl) ?_; (try simp only [Act.put, sA, sB, sC]))
      (refine wpAnyT_read (i := 27) rfl (by kernel_rfl) rfl (fun _ _ _ h => h) (by kernel_rfl) (⟨x1, x2, x3⟩) (fun w hS_ => by obtain ⟨s_1, s_2, s_3⟩ := hS_; go_simp; try rfl) ?_; (try simp only [Act.put, sA, sB, sC]))
      (refine wpF (i := 28) rfl (by kernel_rfl) rfl (fun _ _ _ h => h) (fun _ => by go_simp; try rfl) ?_; (try simp only [Act.put, sA, sB, sC]))
      refine wpAnyT_one (i := 6) rfl (by kernel_rfl) rfl ?_
      intro K_ hK_
      go_wp2_with ((go_at_call 122; refine (size_B8 _ _ (by first | exact o1 | exact o2 | exact o4)).mono ?_; rintro e wA ⟨rfl, hbA⟩; have x1 := (hbA.cell (p := ⟨g, o + k * 3, none⟩) (cell_lt x1)).trans x1; have x2 := (hbA.cell (p := ⟨g, o + k * 3 + 1, none⟩) (cell_lt x2)).trans x2; have x3 := (hbA.cell (p := ⟨g, o + k * 3 + 2, none⟩) (cell_lt x3)).trans x3; have hbq := hbq.trans (hbA.mono hbq.size)))
      refine hK_ _ _ ?_ ?_
      · exact fun _ _ => ⟨x1, x2, x3⟩
      clear hK_ K_
      (try simp only [Act.put, sA, sB, sC])
      (refine wpF (i := 7) rfl (by kernel_rfl) rfl (fun _ _ _ h => h) (fun _ => by go_simp; try rfl) ?_; (try simp only [Act.put, sA, sB, sC]))
      refine wpAnyT_one (i := 13) rfl (by kernel_rfl) rfl ?_
      intro K_ hK_
      go_wp2_with ((go_at_call 122; refine (size_B8 _ _ (by first | exact o1 | exact o2 | exact o4)).mono ?_; rintro e wA ⟨rfl, hbA⟩; have x1 := (hbA.cell (p := ⟨g, o + k * 3, none⟩) (cell_lt x1)).trans x1; have x2 := (hbA.cell (p := ⟨g, o + k * 3 + 1, none⟩) (cell_lt x2)).trans x2; have x3 := (hbA.cell (p := ⟨g, o + k * 3 + 2, none⟩) (cell_lt x3)).trans x3; have hbq := hbq.trans (hbA.mono hbq.size)))
      refine hK_ _ _ ?_ ?_
      · exact fun _ _ => ⟨x1, x2, x3⟩
      clear hK_ K_
      (try simp only [Act.put, sA, sB, sC])
      (refine wpF (i := 14) rfl (by kernel_rfl) rfl (fun _ _ _ h => h) (fun _ => by go_simp; try rfl) ?_; (try simp only [Act.put, sA, sB, sC]))
      refine wpAnyT_one (i := 21) rfl (by kernel_rfl) rfl ?_
      intro K_ hK_
      go_wp2_with ((go_at_call 122; refine (size_B8 _ _ (by first | exact o1 | exact o2 | exact o4)).mono ?_; rintro e wA ⟨rfl, hbA⟩; have x1 := (hbA.cell (p := ⟨g, o + k * 3, none⟩) (cell_lt x1)).trans x1; have x2 := (hbA.cell (p := ⟨g, o + k * 3 + 1, none⟩) (cell_lt x2)).trans x2; have x3 := (hbA.cell (p := ⟨g, o + k * 3 + 2, none⟩) (cell_lt x3)).trans x3; have hbq := hbq.trans (hbA.mono hbq.size)))
      refine hK_ _ _ ?_ ?_
      · exact fun _ _ => ⟨x1, x2, x3⟩
      clear hK_ K_
      (try simp only [Act.put, sA, sB, sC])
      (refine wpF (i := 22) rfl (by kernel_rfl) rfl (fun _ _ _ h => h) (fun _ => by go_simp; try rfl) ?_; (try simp only [Act.put, sA, sB, sC]))
      (refine wpF (i := 29) rfl (by kernel_rfl) rfl (fun _ _ _ h => h) (fun _ => by go_simp; try rfl) ?_; (try simp only [Act.put, sA, sB, sC]))
      (refine wpF (i := 30) rfl (by kernel_rfl) rfl (fun _ _ _ h => h) (fun _ => by go_simp; try rfl) ?_; (try simp only [Act.put, sA, sB, sC]))
      refine wpAnyT_done (by kernel_rfl) ?_ _
      go_wp2
      go_roundw
      case rel => exact ⟨k + 1, N + (numB sl).length + (numB bl).length + (numB vl.length).length + vl.length, by have := KL.out; omega, by go_num, by go_num, Lib.hid HS.out.symm, hbq⟩
      case measure => have := KL.out; simp [intOf]; omega
    · obtain rfl : k = s.st.slots.length := by omega
      have gN : decide (65536 < N) = false := decide_eq_false (by omega)
      have gN2 : ¬ (65536 : Int) < (N : Int) := by omega
      have hBr := ((h1.blk.below' hb2).below' hbr).below' hb9
      obtain ⟨y0, y1, y2, y3, y4, -⟩ := ((((h1.below hb2).below hbr).below hb9)).facts
      have z1 := hBr.frozen 1
      have z2 := hBr.frozen 2
      have z3 := hBr.frozen 3
      have z4 := hBr.frozen 4
      have hnew := fun (w' : World) => refLogNew_B w' (s.per : Int)
      simp only [show (1 ≤ (s.per : Int) ∧ (s.per : Int) ≤ 1024) from by omega] at hnew
      clear hN2 hlt
      have hB6 := ((hBr.set 2 (.int .i64 (s.st.promised : Int))).set 3 (.int .i64 (s.st.base : Int))).set 4 (.slice A s.st.slots.length c)
      go_wp2_with (go_at_call 48; refine (hnew _).mono ?_; rintro e w7 ⟨lr', A', c', ps', H', rfl, hl7, hb7⟩; have hB7 := hB6.below' hb7; have uc1 := hB7.cell 1 (v := .pointer (some ⟨lra, 0, none⟩)) rfl; have uf1 := hB7.frozen 1)
      go_ret
      have hr5 := ((h1.below hb2).below hbr).below hb9
      have hXr : ¬ X r := fun hx => (hX r hx).elim h1.d2 (fun q => by have := h1.blk.lt; omega)
      rw [show ((s.per : Int)).toNat = s.per from Int.toNat_natCast _] at hl7
      obtain ⟨k1, k2⟩ := hr5.snapped ((hH.below hbr).below hb9) hXr rfl hl7 hb7
      have hb1r := (hb2.trans (hbr.mono hb2.size)).trans (hb9.mono (Nat.le_trans hb2.size hbr.size))
      have hs1 := g1.size
      have hs2 := hb1r.size
      have hs3 := k1.size
      have hs67 : wr.heap.size = (((wr.setCell ⟨r, 2, none⟩ (.int .i64 (s.st.promised : Int))).setCell ⟨r, 3, none⟩ (.int .i64 (s.st.base : Int))).setCell ⟨r, 4, none⟩ (.slice A s.st.slots.length c)).heap.size := by simp [World.setCell]
      refine ⟨rfl, ⟨_, _, _, _, _, _, _, _, _, k2.mono (fun x hx => ?_) (fun x hx => ?_)⟩, (g1.trans' (Fr.of_below (S := Non) hb1r) (fun _ _ h => h.elim)).trans' k1 (fun x _ e => e ▸ hr0)⟩
      · have hxl := k2.lt x hx
        rcases hx with hx | hx | hx
        · exact hx.imp_right fun q => ⟨q.1, hxl⟩
        · rcases hX x hx.1 with q | q
          · exact (h1.t2 x q).imp_right fun q => ⟨q.1, hxl⟩
          · exact .inr ⟨by omega, hxl⟩
        · exact .inr ⟨by have := hx.1; omega, hxl⟩
      · rcases hx with hx | hx
        · exact Nat.lt_of_lt_of_le (hlt0 x hx) (by omega)
        · exact hx.2
end
end Go.Proofs.YtediidajdpdeiaaGreatDoor
