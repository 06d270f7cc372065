/- A store, its copy, and the document's store (layer 8). -/
import Derived.Test.YtediidajdpdeiaaGreatDoorJ21
import Derived.Test.YtediidajdpdeiaaGreatDoorJ16
import Derived.Test.YtediidajdpdeiaaGreatDoorJ13
import Derived.Test.YtediidajdpdeiaaGreatDoorJ20

namespace Go.Proofs.YtediidajdpdeiaaGreatDoor
open Go.RowKit CrcM
set_option maxRecDepth 100000

/-- a store b (so), its copy k (s), and the document's store r, each for itself -/
def BothSC (W w : World) (b k r : Nat) (so s : So) (p : Nat) (L : Lg) (st0 : St) : Prop := ∃ T K, LiveS W w b so (fun x => T x ∨ K x) ∧ IsRef8 T w r p L st0 ∧ SoAt K w k s ∧ (∀ x, T x → W.heap.size ≤ x) ∧ (∀ x, K x → W.heap.size ≤ x) ∧ ∀ x, T x → ¬ K x
section
variable {W w w' : World} {b k r p : Nat} {so so' s : So} {L : Lg} {st0 : St}
theorem BothS.copy (h : BothS W w b r s p L st0) : Calls Tryz.prog 9 #[.pointer (some ⟨b, 0, none⟩)] w fun e w' => ∃ k, e = .returned (.pointer (some ⟨k, 0, none⟩)) ∧ BothSC W w' b k r s s p L st0 ∧ Below w.heap.size w w' := by
  obtain ⟨T, h1, h2, h3⟩ := h
  obtain ⟨S, ⟨S1, S2, lb, db, mb, hd⟩, hS, hbl, hX⟩ := id h1
  refine (copyS hd).mono ?_
  rintro e w' ⟨k, e1, k1, k2⟩
  have hlt := h2.lt
  refine ⟨k, e1, ⟨T, Nw w w', (h1.mono k2).sub (fun x hx => hx.imp_right id), h2.keep (fun x hx => k2.block x (hlt x hx)) k2.size (BK.below k2), k1, h3, fun x hx => Nat.le_trans hbl.size hx.1, fun x hx hx' => by have := hlt x hx; have := hx'.1; omega⟩, k2⟩
theorem BothSC.below (h : BothSC W w b k r so s p L st0) : Below W.heap.size W w := by
  obtain ⟨T, K, h1, -⟩ := h
  exact h1.below
theorem SoAt.lt {S : Nat → Prop} (h : SoAt S w b s) : ∀ x, S x → x < w.heap.size := by
  obtain ⟨S1, S2, lb, db, mb, h⟩ := h
  exact h.lt
theorem SoAt.kp {S : Nat → Prop} (h : SoAt S w b s) (hk : ∀ x, S x → w'.heap[x]? = w.heap[x]?) (hs : w.heap.size ≤ w'.heap.size) (kb : BK w w') : SoAt S w' b s := by
  obtain ⟨S1, S2, lb, db, mb, h⟩ := h
  exact ⟨S1, S2, lb, db, mb, h.kp hk hs kb⟩
theorem BothSC.mono (h : BothSC W w b k r so s p L st0) (f : Below w.heap.size w w') : BothSC W w' b k r so s p L st0 := by
  obtain ⟨T, K, h1, h2, h3, h4, h5, h6⟩ := h
  exact ⟨T, K, h1.mono' f, h2.keep (fun x hx => f.block x (h2.lt x hx)) f.size (BK.below f), h3.kp (fun x hx => f.block x (h3.lt x hx)) f.size (BK.below f), h4, h5, h6⟩
/-- the old one turns -/
theorem BothSC.store (h : BothSC W w b k r so s p L st0) {f : Nat} {args : Array Value} {n : Int} (hc : ∀ S S1 S2 lb db mb, SoO S S1 S2 w b lb db mb so → (∀ x, S x → W.heap.size ≤ x) → Calls Tryz.prog f args w (SoDid S w (.pointer (some ⟨b, 0, none⟩)) (so', n))) :
    Calls Tryz.prog f args w fun e w' => e = .returned (.int .i64 n) ∧ BothSC W w' b k r so' s p L st0 := by
  obtain ⟨T, K, ⟨S, ⟨S1, S2, lb, db, mb, hd⟩, hS, hb, hX⟩, h2, h3, h4, h5, h6⟩ := h
  refine (hc S S1 S2 lb db mb hd hS).mono ?_
  intro e w' q
  obtain ⟨e1, k1, k2, k3⟩ := LiveSDid.of hS hb hX q
  have hs := q.2.2.size
  exact ⟨e1, T, K, k1, h2.keep (fun x hx => k2 x (.inl hx)) hs k3, h3.kp (fun x hx => k2 x (.inr hx)) hs k3, h4, h5, h6⟩
/-- the copy is taken -/
theorem BothSC.swap (h : BothSC W w b k r so s p L st0) : BothS W w k r s p L st0 := by
  obtain ⟨T, K, h1, h2, h3, h4, h5, h6⟩ := h
  exact ⟨T, ⟨K, h3, h5, h1.below, fun x hx => ⟨h6 x hx, h2.lt x hx⟩⟩, h2, h4⟩
end
end Go.Proofs.YtediidajdpdeiaaGreatDoor

/- Both stores (layer 8): what was made behind the law's back stays, too. -/
namespace Go.Proofs.YtediidajdpdeiaaGreatDoor
open Go.RowKit CrcM
set_option maxRecDepth 100000

section
variable {W w0 w w' : World} {b r p : Nat} {s s' : So} {L L' : Lg} {st0 st1 : St}
/-- the store turns; what is newer than w0 stays -/
theorem BothS.storeK (h : BothS W w0 b r s p L st0) (hb : Below w0.heap.size w0 w) {f : Nat} {args : Array Value} {k : Int} (hc : ∀ T, LiveS W w b s T → Calls Tryz.prog f args w (LiveSDid W w b T (s', k))) :
    Calls Tryz.prog f args w fun e w' => e = .returned (.int .i64 k) ∧ BothS W w' b r s' p L st0 ∧ BK w w' ∧ w'.heap[r]? = w.heap[r]? ∧ ∀ x, w0.heap.size ≤ x → x < w.heap.size → w'.heap[x]? = w.heap[x]? := by
  obtain ⟨T, h1, h2, h3⟩ := h
  refine (hc _ (h1.mono hb)).mono ?_
  rintro e w' ⟨e1, k1, k2, k3⟩
  obtain ⟨S, hd, hS, hbl, hX⟩ := id k1
  have h2' := h2.keep (fun x hx => hb.block x (h2.lt x hx)) hb.size (BK.below hb)
  have hr : T r := by obtain ⟨T1, T2, H, lr, A1, c1, ps, A2, c2, h⟩ := h2'; exact h.hr
  refine ⟨e1, ⟨T, k1.sub (fun x hx => .inl hx), ?_, h3⟩, k3, k2 r (.inl hr), fun x hx hx' => k2 x (.inr ⟨hx, hx'⟩)⟩
  obtain ⟨T1, T2, H, lr, A1, c1, ps, A2, c2, h⟩ := h2'
  have hlt : ∀ x, T x → x < w'.heap.size := fun x hx => (hX x (.inl hx)).2
  exact ⟨T1, T2, H, lr, A1, c1, ps, A2, c2, h.blk.eq (k2 _ (.inl h.hr)), h.log.keep (fun x hx => k2 x (.inl (h.t1 x hx))) (fun x hx => hlt x (h.t1 x hx)), h.snap.xk (fun x hx => k2 x (.inl (h.t2 x hx))) k3, h.t1, h.t2, h.hr, h.d1, h.d2, h.d12, hlt⟩
theorem BothS.riseK {m n : Nat} {rcs : List Rc} (h : BothS W w0 b r s p L st0) (hb : Below w0.heap.size w0 w) {f : Nat} {args : Array Value} (hc : ∀ T, LiveS W w b s T → Calls Tryz.prog f args w (RoseDid W w b T m n s st1 rcs)) :
    Calls Tryz.prog f args w fun e w' => ∃ j s', e = .returned (.int .i64 0) ∧ BothS W w' b r s' p L st0 ∧ w'.heap[r]? = w.heap[r]? ∧ Rose m n s st1 rcs j s' := by
  obtain ⟨T, h1, h2, h3⟩ := h
  refine (hc _ (h1.mono hb)).mono ?_
  rintro e w' ⟨j, s', e1, k1, k2, k3, k4⟩
  obtain ⟨S, hd, hS, hbl, hX⟩ := id k1
  have h2' := h2.keep (fun x hx => hb.block x (h2.lt x hx)) hb.size (BK.below hb)
  have hr : T r := by obtain ⟨T1, T2, H, lr, A1, c1, ps, A2, c2, h⟩ := h2'; exact h.hr
  refine ⟨j, s', e1, ⟨T, k1.sub (fun x hx => .inl hx), ?_, h3⟩, k2 r (.inl hr), k4⟩
  obtain ⟨T1, T2, H, lr, A1, c1, ps, A2, c2, h⟩ := h2'
  have hlt : ∀ x, T x → x < w'.heap.size := fun x hx => (hX x (.inl hx)).2
  exact ⟨T1, T2, H, lr, A1, c1, ps, A2, c2, h.blk.eq (k2 _ (.inl h.hr)), h.log.keep (fun x hx => k2 x (.inl (h.t1 x hx))) (fun x hx => hlt x (h.t1 x hx)), h.snap.xk (fun x hx => k2 x (.inl (h.t2 x hx))) k3, h.t1, h.t2, h.hr, h.d1, h.d2, h.d12, hlt⟩
/-- the document's log, where its pointer is known -/
theorem BothS.logAt {lr : Nat} (h : BothS W w b r s p L st0) (hp : w.cell? ⟨r, 1, none⟩ = some (.pointer (some ⟨lr, 0, none⟩))) : LogIn W w b r s p L st0 lr := by
  obtain ⟨lr', h'⟩ := h.logIn
  have := h'.ptr
  rw [hp] at this
  injection this with this
  injection this with this
  injection this with this
  injection this with this
  exact this ▸ h'
/-- Accept of a row that was made behind the law's back, and may turn: what is newer stays -/
theorem BothS.holdAccept {q : Nat} (h : BothS W w0 b r s p L st0) (hb : Below w0.heap.size w0 w) (hq : w0.heap.size ≤ q) (hq' : q < w.heap.size) (hh : HalfAt W) (hlen : s.log.len ≤ 4611686018427387904) (hfew : s.st.slots.length < 1048575) (slot k : Int) (B : Option Addr) (v : List UInt8) (cb : Nat) (hv : Own Ever w B v) (hvl : v.length ≤ 70368744177664) :
    Calls Tryz.prog 10 #[.pointer (some ⟨b, 0, none⟩), .int .i64 slot, .int .i64 k, .slice B v.length cb] w fun e w' => e = .returned (.int .i64 (s.accept slot k v).2) ∧ BothSH q W w' b r (s.accept slot k v).1 p L st0 ∧ BK w w' ∧ ∀ x, w0.heap.size ≤ x → x < w.heap.size → w'.heap[x]? = w.heap[x]? := by
  obtain ⟨T, ⟨S, ⟨S1, S2, lb, db, mb, hd⟩, h3, hbl, hX⟩, hr2, hT3⟩ := h
  have h1 := hd.hold hb hq hq'
  have h2 := hr2.hold hb hq
  have h4 : ∀ x, T x → W.heap.size ≤ x ∧ x < w.heap.size := fun x hx => ⟨hT3 x hx, Nat.lt_of_lt_of_le (hr2.lt x hx) hb.size⟩
  have h5 : ∀ x, T x → ¬ S x := fun x hx => (hX x hx).1
  have h6 : ¬ S q := fun hx => by have := hd.lt q hx; omega
  have h7 : ¬ T q := fun hx => by have := hr2.lt q hx; omega
  have h8 : W.heap.size ≤ q := Nat.le_trans hbl.size hq
  have h10 : Below W.heap.size W w := hbl.trans (hb.mono hbl.size)
  refine (@acceptS (holeAt q) S S1 S2 w b lb db mb s h1 (hh.below h10 hh.lt) hlen hfew slot k B v cb (hv.rd S) hvl).mono ?_
  rintro e w' ⟨k1, ⟨b', e', S1', S2', lb', db', mb', k2⟩, k3⟩
  injection e' with e'
  injection e' with e'
  injection e' with e'
  subst e'
  have hs := k3.size
  have hSl := @SoO.lt (holeAt q) _ _ _ _ _ _ _ _ _ h1
  refine ⟨k1, ⟨_, T, S1', S2', lb', db', mb', k2, @IsRef8.keep w w' r p L st0 (holeAt q) T h2 (fun x hx => k3.out x (h4 x hx).2 (h5 x hx)) hs k3.byt, fun x hx => hx.elim (h3 x) (fun z => Nat.le_trans h10.size z.1), fun x hx => ⟨(h4 x hx).1, Nat.lt_of_lt_of_le (h4 x hx).2 hs⟩, fun x hx hx' => hx'.elim (h5 x hx) (fun z => by have := (h4 x hx).2; have := z.1; omega), fun hx => hx.elim h6 (fun z => by have := z.1; omega), h7, h8, Nat.lt_of_lt_of_le hq' hs, ?_⟩, k3.byt, fun x hx hx' => k3.out x hx' (fun hSx => by have := hd.lt x hSx; omega)⟩
  exact ⟨k3.os.trans h10.os, k3.tape.trans h10.tape, k3.output.trans h10.output, Nat.le_trans h10.size hs, fun j hj => (k3.out j (Nat.lt_of_lt_of_le hj h10.size) fun hx => by have := h3 j hx; omega).trans (h10.block j hj)⟩
theorem BothSH.mono {q : Nat} (h : BothSH q W w b r s p L st0) (f : Below w.heap.size w w') : BothSH q W w' b r s p L st0 := by
  obtain ⟨S, T, S1, S2, lb, db, mb, h1, h2, h3, h4, h5, h6, h7, h8, h9, h10⟩ := h
  exact ⟨S, T, S1, S2, lb, db, mb, @SoO.below (holeAt q) _ _ _ _ _ _ _ _ _ _ h1 f, @IsRef8.keep w w' r p L st0 (holeAt q) T h2 (fun x hx => f.block x (h4 x hx).2) f.size (BK.below f), h3, fun x hx => ⟨(h4 x hx).1, Nat.lt_of_lt_of_le (h4 x hx).2 f.size⟩, h5, h6, h7, h8, Nat.lt_of_lt_of_le h9 f.size, h10.trans (f.mono h10.size)⟩
end
end Go.Proofs.YtediidajdpdeiaaGreatDoor

/- The chapter's example (layer 8). -/
namespace Go.Proofs.YtediidajdpdeiaaGreatDoor
open Go.RowKit CrcM
set_option maxRecDepth 100000

def exLog : Lg := ((((((Lg.new 3).append (Rc.prom 3).enc).1.append (Rc.acc 0 3 [120]).enc).1.sync.1.append (Rc.acc 1 3 [121]).enc).1.crash 0 0).1.restart).1
theorem exLog_recs : (recsS exLog.segs).length = 2 := by decide +kernel
/-- what the example makes of a store -/
theorem works_plain : ∃ s1 s2 s3 s4 s5 rcs4, (So.new 3).inv 2 0 St.new [] ∧ (So.new 3).promise 3 = (s1, 0) ∧ s1.inv 2 1 St.new [.prom 3] ∧ s1.st.slots.length < 1048575 ∧ s1.accept ((0 : Nat) : Int) ((3 : Nat) : Int) [120] = (s2, 0) ∧ s2.sync = (s3, 0) ∧ s3.inv 2 2 St.new [.prom 3, .acc 0 3 [120]] ∧ s3.st.slots.length < 1048575 ∧
    s3.accept ((1 : Nat) : Int) ((3 : Nat) : Int) [121] = (s4, 0) ∧ rcs4 = [.prom 3, .acc 0 3 [120], .acc 1 3 [121]] ∧ s4.crash 0 0 = (s5, 0) ∧ s5.inv 2 3 St.new rcs4 ∧ s5.log.down = true ∧ s5.log.restart.1 = exLog := by
  have h0 := So.inv_new (per := 3) (by decide) (by decide) 2
  rcases h0.promise rfl (by decide) 3 with ⟨_, ⟨_, hh⟩ | ⟨_, _, hh⟩ | ⟨_, hh⟩⟩ | ⟨k, hk, _, _, s1, e1, p1⟩
  · exact absurd hh (by decide)
  · exact absurd hh (by decide)
  · exact absurd hh (by decide)
  obtain rfl : k = 3 := by omega
  have t1 : s1.st = ⟨3, 0, []⟩ := p1.st
  obtain ⟨s2, e2, p2⟩ := p1.inv.accept_ok p1.down (by decide) 0 3 [120] (by decide) (by decide) (by decide) (by decide) (by rw [t1]; decide) (by rw [t1]; decide)
  obtain ⟨s3, e3, i3, d3, y3, t3, l3⟩ := p2.inv.sync p2.down
  have t2 : s2.st = ⟨3, 0, [(0, ⟨3, [120]⟩)]⟩ := by rw [p2.st, t1]; rfl
  obtain ⟨s4, e4, p4⟩ := i3.accept_ok d3 (by decide) 1 3 [121] (by decide) (by decide) (by decide) (by decide) (by rw [t3, t2]; decide) (by rw [t3, t2]; decide)
  obtain ⟨s5, e5, i5, d5, y5, l5⟩ := p4.inv.crash p4.down 0 0 (by decide)
  refine ⟨s1, s2, s3, s4, s5, _, h0, e1, p1.inv, by rw [t1]; decide, e2, e3, i3, by rw [t3, t2]; decide, e4, rfl, e5, i5, d5, ?_⟩
  rw [l5, p4.log, l3, p2.log, p1.log]
  rfl
theorem works_state {s5 s6 : So} {rcs4 : List Rc} {j : Nat} (h : Rose 2 3 s5 St.new rcs4 j s6) (hr : rcs4 = [.prom 3, .acc 0 3 [120], .acc 1 3 [121]]) (hl : s5.log.restart.1 = exLog) : s6.st = ⟨3, 0, [(0, ⟨3, [120]⟩)]⟩ := by
  have h1 := h.inv.recs
  have h2 := congrArg List.length h1
  rw [h.log, hl, exLog_recs, List.length_map, List.length_take, hr] at h2
  have h3 := h.le
  rw [hr] at h3
  have : j = 2 := by simp only [List.length_cons, List.length_nil] at h2 h3; omega
  rw [h.inv.up h.down, hr, this]
  rfl
theorem works_08 (W w : World) (hb : Below W.heap.size W w) (hh : HalfAt W) : Calls Tryz.prog 24 #[] w fun e w' => e = .returned (.bool true) ∧ Below W.heap.size W w' := by
  have kc := fun (w : World) (C : Array Value) (n c : Nat) => Lib.run_convert_bytes_const (P := Tryz.prog) w 30 TB C n c Tryz.underlying30 Tryz.underlying5
  obtain ⟨s1, s2, s3, s4, s5, rcs4, h0, e1, i1, n1, e2, e3, i3, n3, e4, hrcs, e5, i5, d5, l5⟩ := works_plain
  have E1 := Lib.hid e1
  have E2 := Lib.hid e2
  have E3 := Lib.hid e3
  have E4 := Lib.hid e4
  have E5 := Lib.hid e5
  have L5 := Lib.hid l5
  have HR := Lib.hid hrcs
  clear e1 e2 e3 e4 e5 l5 hrcs
  go_enter Tryz.func24, Tryz.ntmps24
  go_wp2_with (first
    | (go_at_call 7; refine (new_S hb 3 (by decide) (by decide)).mono ?_; rintro e w1 ⟨b, rfl, hl1, hb1⟩; have hl1' := hl1.sub (X' := Non) (fun _ h => h.elim); have hP := promise_S hl1' hh h0 3; unfold LiveSDid at hP; rw [show (3 : Int).toNat = 3 from rfl, E1.out] at hP)
    | (go_at_call 62; refine hP.mono ?_; rintro e w2 ⟨rfl, hl2, -⟩; have hA := accept_S (hl2.mono' (below_new w2 (.cells #[.int .u8 120] TB (1, 2)))) hh i1 n1 0 3 (some ⟨w2.heap.size, 0, none⟩) [120] 1 (Arg.lit _ (heap_alloc_new _ _) (by rfl)) (by decide); unfold LiveSDid at hA; rw [show s1.accept 0 3 [120] = (s2, 0) from E2.out, List.length_singleton] at hA; clear hP)
    | (go_at_call 10; refine hA.mono ?_; rintro e w3 ⟨rfl, hl3, -⟩; have hY := sync_S hl3; unfold LiveSDid at hY; rw [E3.out] at hY; clear hA)
    | (go_at_call 65; refine hY.mono ?_; rintro e w4 ⟨rfl, hl4, -⟩; have hB := accept_S (hl4.mono' (below_new w4 (.cells #[.int .u8 121] TB (1, 2)))) hh i3 n3 1 3 (some ⟨w4.heap.size, 0, none⟩) [121] 1 (Arg.lit _ (heap_alloc_new _ _) (by rfl)) (by decide); unfold LiveSDid at hB; rw [show s3.accept 1 3 [121] = (s4, 0) from E4.out, List.length_singleton] at hB; clear hY)
    | (go_at_call 10; refine hB.mono ?_; rintro e w5 ⟨rfl, hl5, -⟩; have hC := crash_S hl5 0 0 (by unfold i64; decide) (by unfold i64; decide); unfold LiveSDid at hC; rw [E5.out] at hC; clear hB)
    | (go_at_call 70; refine hC.mono ?_; rintro e w6 ⟨rfl, hl6, -⟩; have hS := restart_S hl6 hh i5 d5; clear hC)
    | (go_at_call 72; refine hS.mono ?_; rintro e w7 ⟨j, s6, rfl, hl7, -, -, hro⟩; have hst := works_state hro HR.out L5.out; have hup := hro.down; have hG0 := get_S hl7 hup 0 (by decide); rw [hst, show getN 0 (⟨3, 0, [(0, ⟨3, [120]⟩)]⟩ : St).slots = some ⟨3, [120]⟩ from rfl] at hG0; unfold GetDid at hG0; simp only [Option.getD_some, Option.isSome_some, List.length_singleton] at hG0; clear hS)
    | (go_at_call 77; refine hG0.mono ?_; rintro e w8 ⟨A8, c8, rfl, ho8, hc8, hm8, hb8⟩; have hl8 := hl7.mono' hb8; have hG1 := get_S hl8 hup 1 (by decide); rw [hst, show getN 1 (⟨3, 0, [(0, ⟨3, [120]⟩)]⟩ : St).slots = none from rfl] at hG1; unfold GetDid at hG1; simp only [Option.getD_none, Option.isSome_none, List.length_nil] at hG1; clear hG0)
    | (go_at_call 77; refine hG1.mono ?_; rintro e w9 ⟨A9, c9, rfl, ho9, hc9, hm9, hb9⟩; have hl9 := hl8.mono' hb9; have hPr := promised_S hl9 hup; rw [hst] at hPr; have hSl := slots_S hl9 hup; rw [hst, show So.top (⟨3, 0, [(0, ⟨3, [120]⟩)]⟩ : St).slots = 1 from rfl] at hSl; have hs1 : (convert 30 9 (.slice A8 1 c8)).run Tryz.prog w9 = .ok (.string ⟨#[120]⟩) w9 := run_str (l := [120]) ((ho8.fr (S' := Non) (Fr.of_below hb9)).rd Non) c8; clear hG1)
    | (go_at_call 14; refine hPr.mono ?_; rintro e w10 ⟨rfl, rfl⟩)
    | (go_at_call 15; refine hSl.mono ?_; rintro e w11 ⟨rfl, hb11⟩))
  all_goals
    go_ret
    exact ⟨rfl, (hl9.mono' hb11).below⟩
end Go.Proofs.YtediidajdpdeiaaGreatDoor

/- The calls that the laws of the store play (layer 8): the walk. -/
namespace Go.Proofs.YtediidajdpdeiaaGreatDoor
open Go.RowKit CrcM
set_option maxRecDepth 100000

/-- a call -/
structure Act08 where
  kind : Int
  n : Int
  slot : Int
  flip : Int
  b : List UInt8

/-- calls that lie in memory, as the law was handed them -/
def ActsAt8 (W : World) (A : Option Addr) (acts : List Act08) : Prop := ∀ j a, acts[j]? = some a → ∃ g o B c, A = some ⟨g, o, none⟩ ∧ g < W.heap.size ∧
  W.cell? ⟨g, o + j * 5, none⟩ = some (.int .i64 a.kind) ∧ W.cell? ⟨g, o + j * 5 + 1, none⟩ = some (.int .i64 a.n) ∧ W.cell? ⟨g, o + j * 5 + 2, none⟩ = some (.int .i64 a.slot) ∧ W.cell? ⟨g, o + j * 5 + 3, none⟩ = some (.int .i64 a.flip) ∧
  W.cell? ⟨g, o + j * 5 + 4, none⟩ = some (.slice B a.b.length c) ∧ a.b.length ≤ c ∧ c ≤ maxLen ∧ RdB W B a.b ∧ i64 a.kind ∧ i64 a.n ∧ i64 a.slot ∧ i64 a.flip

theorem RdB.below8 {W W' : World} {A : Option Addr} {l : List UInt8} (h : RdB W A l) (hb : Below W.heap.size W W') : RdB W' A l := fun j x hx => by
  obtain ⟨ad, e, hlt, hc⟩ := h j x hx
  exact ⟨ad, e, Nat.lt_of_lt_of_le hlt hb.size, (hb.cell (p := ad.add j) (by rw [add_block]; exact hlt)).trans hc⟩
theorem ActsAt8.below {W W' : World} {A : Option Addr} {acts : List Act08} (h : ActsAt8 W A acts) (hb : Below W.heap.size W W') : ActsAt8 W' A acts := fun j a ha => by
  obtain ⟨g, o, B, c, e, hg, e0, e1, e2, e3, e4, h1, h2, h3, h4⟩ := h j a ha
  exact ⟨g, o, B, c, e, Nat.lt_of_lt_of_le hg hb.size, (hb.cell (p := ⟨g, o + j * 5, none⟩) hg).trans e0, (hb.cell (p := ⟨g, o + j * 5 + 1, none⟩) hg).trans e1, (hb.cell (p := ⟨g, o + j * 5 + 2, none⟩) hg).trans e2, (hb.cell (p := ⟨g, o + j * 5 + 3, none⟩) hg).trans e3, (hb.cell (p := ⟨g, o + j * 5 + 4, none⟩) hg).trans e4, h1, h2, h3.below8 hb, h4⟩

end Go.Proofs.YtediidajdpdeiaaGreatDoor

/- A log, its copy and the document's log side by side (layer 7), in memory. -/
namespace Go.Proofs.YtediidajdpdeiaaGreatDoor
open Go.RowKit CrcM
set_option maxRecDepth 100000

section
variable {w w' : World}
theorem Own.at {S : Nat → Prop} {A : Option Addr} {l : List UInt8} (h : Own S w A l) (hk : ∀ x, S x → w'.heap[x]? = w.heap[x]?) : Own S w' A l := fun j x hx => by
  obtain ⟨ad, e, hc, hb, hS⟩ := h j x hx
  exact ⟨ad, e, (cell_eq (by rw [add_block]; exact hk _ hS)).trans hc, hb.eq (hk _ hS), hS⟩
end

section
variable {W w0 w w' : World} {b r : Nat} {L : Lg} {R : Rg}
/-- as BothG, beside a copy k of a log L0 -/
def BothC (W w : World) (b k r : Nat) (L L0 : Lg) (R : Rg) : Prop := ∃ T H A c ps K, LiveG W w b L (fun x => T x ∨ K x) ∧ RlogO T H w r A c ps R ∧ LogAt K w k L0 ∧ (∀ x, T x → W.heap.size ≤ x) ∧ (∀ x, K x → W.heap.size ≤ x) ∧ ∀ x, T x → ¬ K x
theorem BothG.copy (h : BothG W w b r L R) : Calls Tryz.prog 50 #[.pointer (some ⟨b, 0, none⟩)] w fun e w' => ∃ k, e = .returned (.pointer (some ⟨k, 0, none⟩)) ∧ BothC W w' b k r L L R ∧ Below w.heap.size w w' := by
  obtain ⟨T, H, A, c, ps, h1, h2, h3⟩ := h
  obtain ⟨S, ⟨hu, H1, A1, c1, ps1, hl⟩, hS, hbl, hX⟩ := id h1
  refine (copyL hl hu).mono ?_
  rintro e w' ⟨k, rfl, h4, h5⟩
  exact ⟨k, rfl, ⟨T, H, A, c, ps, Nw w w', h1.mono h5, h2.below h5, h4, h3, fun x hx => Nat.le_trans hbl.size hx.1, fun x hx hk => by have := h2.lt x hx; have := hk.1; omega⟩, h5⟩
theorem BothC.below {k : Nat} {L0 : Lg} (h : BothC W w b k r L L0 R) : Below W.heap.size W w := by
  obtain ⟨T, H, A, c, ps, K, h1, -⟩ := h
  exact h1.below
theorem BothC.mono {k : Nat} {L0 : Lg} (h : BothC W w b k r L L0 R) (f : Below w.heap.size w w') : BothC W w' b k r L L0 R := by
  obtain ⟨T, H, A, c, ps, K, h1, h2, h3, h4, h5, h6⟩ := h
  exact ⟨T, H, A, c, ps, K, h1.mono' f, h2.below f, h3.below f, h4, h5, h6⟩
theorem BothC.seg {k : Nat} {L0 L' : Lg} (h : BothC W w b k r L L0 R) {f : Nat} {args : Array Value} {Q : Ending → Prop} (hc : ∀ T, LiveG W w b L T → Calls Tryz.prog f args w fun e w' => Q e ∧ LiveG W w' b L' T ∧ XK T w w' ∧ BK w w') :
    Calls Tryz.prog f args w fun e w' => Q e ∧ BothC W w' b k r L' L0 R := by
  obtain ⟨T, H, A, c, ps, K, h1, h2, h3, h4, h5, h6⟩ := h
  refine (hc _ h1).mono ?_
  rintro e w' ⟨g1, g2, g3, g4⟩
  have hsz : ∀ x, K x → x < w'.heap.size := fun x hx => g2.ltX x (.inr hx)
  refine ⟨g1, T, H, A, c, ps, K, g2, h2.keep (fun x hx => g3 x (.inl hx)) (fun x hx => g2.ltX x (.inl hx)), ?_, h4, h5, h6⟩
  obtain ⟨hu, H1, A1, c1, ps1, h⟩ := h3
  refine ⟨hu, H1, A1, c1, ps1, h.hS, h.hb, h.blk.eq (g3 _ (.inr (h.hS _ h.hb))), h.row.same (fun x hx => g3 x (.inr (h.hS x hx))), ?_, hsz, h.ok, fun _ _ => trivial⟩
  obtain ⟨F, k1, k2, k3, k4⟩ := h.segs
  refine ⟨F, fun i x hx => ⟨(k1 i x hx).1, (k1 i x hx).2.1, hsz x (k1 i x hx).1⟩, fun i j x n p q => (k2 i j x n p q).eq (g3 x (.inr (k1 i x p).1)), k3, fun i p g hp hg => ?_⟩
  have hk : ∀ x, F i x → w'.heap[x]? = w.heap[x]? := fun x hx => g3 x (.inr (k1 i x hx).1)
  obtain ⟨⟨Sd, Sh, db, A, c, rv, vals, m1, m2, m3, m4, m5, m6, m7, m8⟩, hlt⟩ := k4 i p g hp hg
  exact ⟨⟨Sd, Sh, db, A, c, rv, vals, m1, m2, fun x p q => (m3 x p q).eq (hk x (m1 x p)), m4, m5.eq (hk _ (m2 _ m4)), ⟨m6.blk.eq (hk _ (m1 _ m6.inS)), m6.own.at (fun x hx => hk x (m1 x hx)), m6.inS, fun x hx => hsz x (k1 i x (m1 x hx)).1, m6.cap, m6.ok⟩, m7.same (fun x hx => hk x (m2 x hx)), m8.bk g4⟩, fun x hx => hsz x (k1 i x hx).1⟩
/-- on with the copy -/
theorem BothC.swap {k : Nat} {L0 : Lg} (h : BothC W w b k r L L0 R) : BothG W w k r L0 R := by
  obtain ⟨T, H, A, c, ps, K, h1, h2, h3, h4, h5, h6⟩ := h
  exact ⟨T, H, A, c, ps, ⟨K, h3, h5, h1.below, fun x hx => ⟨h6 x hx, h1.ltX x (.inl hx)⟩⟩, h2, h4⟩
end
end Go.Proofs.YtediidajdpdeiaaGreatDoor

/- SeglogPlays: a call on both logs (layer 7); the walk. -/
namespace Go.Proofs.YtediidajdpdeiaaGreatDoor
open Go.RowKit CrcM
set_option maxRecDepth 100000

theorem xor255_all : ∀ (x : Fin 256), bits .xor .u8 (x.val : Int) 255 = ((UInt8.ofNat x.val ^^^ 255).toNat : Int) := by decide +kernel
theorem xor255 (x : UInt8) : Value.int .u8 (bits .xor .u8 (x.toNat : Int) 255) = byteV (x ^^^ 255) := by
  have := xor255_all ⟨x.toNat, x.toNat_lt⟩
  simp only [UInt8.ofNat_toNat] at this
  rw [this]; rfl
theorem own_bk {w w' : World} {base n : Nat} {v : Value} {xs : List Value} {sz : Nat} (h : w.ownsRow base TB sz v n xs) (k : BK w w') : w'.ownsRow base TB sz v n xs := by
  refine ⟨h.1, ?_⟩
  rcases h.2 with h2 | ⟨g, cap, cur, hv, hg0, hg, hr⟩
  · exact .inl h2
  · exact .inr ⟨g, cap, cur, hv, hg0, (k g ⟨cur, _, hg⟩).trans hg, hr⟩

/-- the block of a row of one's own, or any new one where there is none -/
theorem row_at {w w3 : World} {m c3 : Nat} {A3 : Option Addr} {xs : List Value} (ho : w3.ownsRow (w.heap.size + 1) TB 1 (.slice A3 m c3) m xs) (hl : w.heap.size + 1 ≤ w3.heap.size) : ∃ q, w.heap.size ≤ q ∧ q < w3.heap.size ∧ (m = 0 ∨ A3 = some ⟨q, 0, none⟩) := by
  rcases ho.2 with ⟨_, h0⟩ | ⟨g, cap, cur, hv, hg0, hg, hr⟩
  · exact ⟨w.heap.size, Nat.le_refl _, by omega, .inl h0⟩
  · injection hv with hv
    exact ⟨g, by omega, (Array.getElem?_eq_some_iff.1 hg).1, .inr hv⟩

end Go.Proofs.YtediidajdpdeiaaGreatDoor

/- What calls do to a store that has the law, the snapshot's state told (layer 8), in plain words. -/
namespace Go.Proofs.YtediidajdpdeiaaGreatDoor
open CrcM
section
variable {m n : Nat} {s : So} {st0 : St} {rcs : List Rc}
theorem So.Fine.calls8 (h : s.Fine m n st0 rcs) (hn : n < 150) :
    (∀ b, ∃ rs, (s.promise b).1.Fine m (n + 1) st0 rs) ∧ (∀ (slot b : Int) (v : List UInt8), v.length ≤ 300 → (numOk slot → slot < m) → ∃ rs, (s.accept slot b v).1.Fine m (n + 1) st0 rs) ∧ (∃ rs, s.sync.1.Fine m (n + 1) st0 rs) ∧ (∀ keep flip, ∃ rs, (s.crash keep flip).1.Fine m (n + 1) st0 rs) ∧ ∀ k, ∃ rs, (s.forget k).1.Fine m (n + 1) st0 rs := by
  have hs : ∃ rs, s.Fine m (n + 1) st0 rs := ⟨rcs, h.mono (Nat.le_refl _) (by omega) (by omega)⟩
  cases hd : s.log.down with
  | true =>
    refine ⟨fun b => ?_, fun slot b v _ _ => ?_, ?_, fun keep flip => ?_, fun k => ?_⟩
    · unfold So.promise; rw [hd, if_pos rfl]; exact hs
    · unfold So.accept; rw [hd, if_pos rfl]; exact hs
    · have e : s.log.sync = (s.log, 10) := by unfold Lg.sync; rw [hd]; rfl
      unfold So.sync; rw [e]; exact hs
    · have e : s.log.crash keep flip = (s.log, 10) := by unfold Lg.crash; rw [hd]; rfl
      unfold So.crash; rw [e]; exact hs
    · unfold So.forget; rw [hd, if_pos rfl]; exact hs
  | false =>
    have hnow := h.now hd
    refine ⟨fun b => ?_, fun slot b v hv hm => ?_, ?_, fun keep flip => ?_, fun k => ?_⟩
    · rcases h.inv.promise hd hn b with ⟨e, _⟩ | ⟨k, _, _, _, s', e, hp⟩
      · rw [e]; exact hs
      · rw [e]; exact ⟨_, h.put hd hp hnow⟩
    · by_cases hok : numOk slot
      · rcases h.inv.accept hd hn slot b v hv (hm hok) with ⟨e, _⟩ | ⟨k, j, _, _, _, _, hb, s', e, hp⟩
        · rw [e]; exact hs
        · rw [e]; exact ⟨_, h.put hd hp (hnow.acc hb _ _)⟩
      · unfold So.accept; rw [hd, if_neg (by simp), if_pos hok]; exact hs
    · obtain ⟨s', e, hi, hd', _⟩ := h.inv.sync hd
      rw [e]; exact ⟨_, (hi.fine h.based hd').mono (Nat.le_refl _) (by omega) (by omega)⟩
    · by_cases hk : 0 ≤ keep
      · obtain ⟨s', e, hi, _⟩ := h.inv.crash hd keep flip hk
        have e2 : (s.crash keep flip).1.st = s.st := by unfold So.crash; split <;> rfl
        rw [e] at e2 ⊢
        exact ⟨rcs, hi.mono (Nat.le_refl _) (by omega) (by omega), h.based, by rw [e2]; have := h.few; omega⟩
      · have e : s.log.crash keep flip = (s.log, 2) := by unfold Lg.crash; rw [hd, if_neg (by simp), if_pos (by omega)]
        unfold So.crash; rw [e]; exact hs
    · by_cases hk : numOk k
      · rcases h.inv.forget hd hn k hk with ⟨e, _⟩ | ⟨j, _, _, s', e, hp⟩
        · rw [e]; exact hs
        · rw [e]; exact ⟨_, h.put hd hp (St.based_forget _ _)⟩
      · unfold So.forget; rw [hd, if_neg (by simp), if_pos hk]; exact hs
theorem put_per (s : So) (rec : List UInt8) (st : St) : (s.put rec st).1.per = s.per := by unfold So.put; split <;> rfl
theorem promise_per (s : So) (b : Int) : (s.promise b).1.per = s.per := by unfold So.promise; (repeat' split) <;> first | rfl | exact put_per _ _ _
theorem accept_per (s : So) (k b : Int) (v : List UInt8) : (s.accept k b v).1.per = s.per := by unfold So.accept; (repeat' split) <;> first | rfl | exact put_per _ _ _
theorem forget_per (s : So) (b : Int) : (s.forget b).1.per = s.per := by unfold So.forget; (repeat' split) <;> first | rfl | exact put_per _ _ _
theorem crash_per (s : So) (a b : Int) : (s.crash a b).1.per = s.per := by unfold So.crash; split <;> rfl
/-- a snapshot, of a store that is up -/
theorem So.Fine.snap8 (h : s.Fine m n st0 rcs) (hd : s.log.down = false) : ∃ s', s.snapshot = (s', 0) ∧ s'.Fine m n s.st [] ∧ s'.log = Lg.new s.per ∧ s'.st = s.st := by
  obtain ⟨s', e, hi, hl, hst⟩ := h.inv.snapshot hd
  exact ⟨s', e, hi.fine (Based.nil (h.now hd)) (by rw [hl]; rfl), hl, hst⟩
end
end Go.Proofs.YtediidajdpdeiaaGreatDoor

/- A call on both stores (layer 8): what the law's helper does ahead of its switch. -/
namespace Go.Proofs.YtediidajdpdeiaaGreatDoor
open Go.RowKit CrcM
set_option maxRecDepth 100000

abbrev TA8 : TypeId := 32
theorem does_key8 {W w : World} {b r : Nat} {s : So} {st0 : St} (h : BothS W w b r s s.per s.log st0) (kd n sl fl : Int) (B : Option Addr) (bl cb : Nat) (l : List UInt8) (m : Nat) (v3 : Value) (w3 : World)
    (ho : w3.ownsRow (w.heap.size + 1) TB 1 v3 (0 + m) (([] ++ l).map byteV)) (hg : ((w.alloc (.cells #[.int .i64 kd, .int .i64 n, .int .i64 sl, .int .i64 fl, .slice B bl cb] TA8)).alloc (.cells #[] TB)).grownBy w3 (Value.slice (some ⟨w.heap.size + 1, 0, none⟩) 0 0).ownBlock) :
    ∃ A3 c3, v3 = .slice A3 m c3 ∧ w3.ownsRow (w.heap.size + 1) TB 1 (.slice A3 m c3) m (l.map byteV) ∧ m ≤ c3 ∧ c3 ≤ maxLen ∧ Below w.heap.size w w3 ∧ w.heap.size + 1 ≤ w3.heap.size ∧ BothS W w3 b r s s.per s.log st0 ∧
      w3.cell? ⟨w.heap.size, 0, none⟩ = some (.int .i64 kd) ∧ w3.cell? ⟨w.heap.size, 1, none⟩ = some (.int .i64 n) ∧ w3.cell? ⟨w.heap.size, 2, none⟩ = some (.int .i64 sl) ∧ w3.cell? ⟨w.heap.size, 3, none⟩ = some (.int .i64 fl) := by
  have hb1 := below_new w (.cells #[.int .i64 kd, .int .i64 n, .int .i64 sl, .int .i64 fl, .slice B bl cb] TA8)
  have B1 := Blk.new w TA8 #[.int .i64 kd, .int .i64 n, .int .i64 sl, .int .i64 fl, .slice B bl cb]
  have e1 : (w.alloc (.cells #[.int .i64 kd, .int .i64 n, .int .i64 sl, .int .i64 fl, .slice B bl cb] TA8)).heap.size = w.heap.size + 1 := by simp
  rw [Nat.zero_add, List.nil_append] at ho
  obtain ⟨A3, c3, rfl, hc3, hm3⟩ := own_val ho
  have hbb : Below (w.alloc (.cells #[.int .i64 kd, .int .i64 n, .int .i64 sl, .int .i64 fl, .slice B bl cb] TA8)).heap.size (w.alloc (.cells #[.int .i64 kd, .int .i64 n, .int .i64 sl, .int .i64 fl, .slice B bl cb] TA8)) w3 :=
    (below_new _ (.cells #[] TB)).grown hg (by simp) (fun j hj => by injection hj with hj; subst hj; rw [e1]; exact Nat.le_refl _)
  have B3 := B1.below' hbb
  have hbw := hb1.trans (hbb.mono hb1.size)
  have hsz := hbb.size
  rw [e1] at hsz
  exact ⟨A3, c3, rfl, ho, hc3, hm3, hbw, hsz, h.mono hbw, B3.cell 0 rfl, B3.cell 1 rfl, B3.cell 2 rfl, B3.cell 3 rfl⟩
theorem act8_row (w : World) (o : Obj) : ((w.alloc o).alloc (.cells #[] TB)).ownsRow (w.heap.size + 1) TB 1 (.slice (some ⟨w.heap.size + 1, 0, none⟩) 0 0) 0 (([] : List UInt8).map byteV) := by
  have := ownsB_none (w.alloc o)
  have e : (w.alloc o).heap.size = w.heap.size + 1 := by simp
  rw [e] at this
  exact this
theorem min300 (bb l : List UInt8) (m : Nat) (hl : l = bb.take 300) (hm : l.length = m) (w : World) : (Builtin.min_ #[3, 3] 3 #[.int .i64 (bb.length : Int), .int .i64 300]).run Tryz.prog w = .ok (.int .i64 (m : Int)) w := by
  rw [run_min_int2]
  have : (m : Int) = if (300 : Int) < (bb.length : Int) then 300 else (bb.length : Int) := by rw [← hm, hl, List.length_take]; split <;> omega
  rw [this]
theorem refSnapDown_B8 {T T1 T2 H : Nat → Prop} {w : World} {r lr : Nat} {A1 : Option Addr} {c1 : Nat} {ps : List Nat} {A2 : Option Addr} {c2 : Nat} {per : Nat} {L : Lg} {st0 : St} (h : RefO T T1 T2 H w r lr A1 c1 ps A2 c2 per L st0) (hd : L.down = true) :
    Calls Tryz.prog 67 #[.pointer (some ⟨r, 0, none⟩)] w (RefDid8 T w r per L st0 10) := by
  obtain ⟨b0, b1, b2, b3, b4, ld⟩ := h.facts
  rw [hd] at ld
  clear hd
  go_enter Tryz.func67, Tryz.ntmps67
  go_wp2
  go_ret
  exact h.did (Below.refl _ _) 10

/-- an append of bytes, as one operation of a drawn region -/
theorem wp_appB {w : World} {o : Oper} {a : Act} {K : Act → World → Prop} {Q : Exit → Act → World → Prop} (s x : Operand) (t : TypeId)
    (ho : o.op = .call { callee := .builtin .append, args := #[s, x], argTypes := #[t, t] }) {P : Program}
    (i : TypeInfo) (ht : P.underlying t = some (.slice TB)) (hi : P.info? TB = some i) (hz : i.zero = some (.int .u8 0)) (hsize : i.size = 1) (hby : i.bytes = 1)
    (base : Nat) (v : Value) (n : Nat) (xs : List UInt8) (hs : a.eval s = v) (hown : w.ownsRow base TB 1 v n (xs.map byteV))
    (S : Nat → Prop) (A : Option Addr) (m c : Nat) (l : List UInt8) (hx : a.eval x = .slice A m c) (hl : l.length = m) (hr : Rd S w A l)
    (hbytes : n + m ≤ 140737488355328) (hbase : base ≤ w.heap.size)
    (h : ∀ v' w', w'.ownsRow base TB 1 v' (n + m) ((xs ++ l).map byteV) → w.grownBy w' v.ownBlock → (v'.ownBlock = v.ownBlock ∨ v'.ownBlock = some w.heap.size) → K (a.put o.dst v') w') :
    o.wp P a w K Q := by
  obtain ⟨v', w', hrun, h2, h3, h5⟩ := run_append_rd (P := P) (w := w) base t o.type TB i (.int .u8 0) 1 1 ht hi hz hsize hby rfl (by omega) v n (xs.map byteV) hown A m c (l.map byteV) (by simp [hl])
    (fun j u hu => by
      rw [List.getElem?_map] at hu
      cases hj : l[j]? with
      | none => rw [hj] at hu; cases hu
      | some y =>
        rw [hj] at hu
        obtain ⟨ad, e, hc, _⟩ := hr j y hj
        injection hu with hu
        exact ⟨ad, e, by rw [← hu]; exact hc⟩) byteV_one (by simp only [maxLen]; omega) (by omega) hbase
  rw [← List.map_append] at h2
  unfold Oper.wp
  rw [run_builtin2 .append s x t t Builtin.append_ ho hs hx (fun _ _ => rfl) hrun, Oper.upon_value]
  exact h v' w' h2 h3 h5

/-- WHAT does leaves -/
def DoesDid8 (W : World) (b r n : Nat) (e : Ending) (w' : World) : Prop := e = .returned (.bool true) ∧ ∃ s st0 rcs, BothS W w' b r s s.per s.log st0 ∧ s.Fine 301 n st0 rcs
end Go.Proofs.YtediidajdpdeiaaGreatDoor
