/- A store's Copy (layer 8): the walk. -/
import Derived.Test.YtediidajdpdeiaaGreatDoorJ11
import Derived.Test.YtediidajdpdeiaaGreatDoorJ15
import Derived.Shelf.SlMaps.Clone
import Derived.Laws.Externs
import Derived.Test.YtediidajdpdeiaaGreatDoorJ20
import Derived.Test.YtediidajdpdeiaaGreatDoorJ17
import Derived.Test.YtediidajdpdeiaaGreatDoorJ18
import Derived.Test.YtediidajdpdeiaaGreatDoorJ21

namespace Go.Proofs.YtediidajdpdeiaaGreatDoor
open Go.RowKit CrcM
set_option maxRecDepth 100000

theorem mapsClone_B (w : World) (b : Nat) (es : Array MapEntry) (clock : Nat) (hb : w.heap[b]? = some (.map es clock)) :
    Calls Tryz.prog 52 #[.map (some b)] w fun e w' => e = .returned (.map (some w.heap.size)) ∧ w' = w.alloc (.map es clock) := by
  have hq := fun w => run_eql_map_nil_sl (P := Tryz.prog) w TMp TIn THd (some b) Tryz.underlying98
  go_enter Tryz.func52, Tryz.ntmps52
  go_wp2
  rw [run_callFunc_extern Tryz.func104 (by kernel_rfl) (by kernel_rfl) (by kernel_rfl) (e := Extern.MapsClone.clone) (by kernel_rfl), run_maps_clone_sl w TMp hb]
  simp only [Result.andThen]
  rw [Oper.upon_value]
  go_wp2
  rw [run_typeAssert_map_sl _ TMp 20 _ _ _ Tryz.underlying98]
  simp only [Result.andThen]
  rw [Oper.upon_value]
  go_wp2
  go_ret
  exact ⟨rfl, rfl⟩
theorem slotsClone {w : World} {b : Nat} {M : Slots} (h : SlotsAt w b M) :
    Calls Tryz.prog 52 #[.map (some b)] w fun e w' => e = .returned (.map (some w.heap.size)) ∧ SlotsAt w' w.heap.size M ∧ w'.heap.size = w.heap.size + 1 ∧ Below w.heap.size w w' := by
  obtain ⟨Z, ⟨es, clock, hb, F, hs, hD⟩, h2, h3, h4⟩ := h
  refine (mapsClone_B w b es clock hb).mono ?_
  rintro e w' ⟨rfl, rfl⟩
  have hB : Below w.heap.size w (w.alloc (.map es clock)) := (Below.refl _ w).alloc (Nat.le_refl _) _
  exact ⟨rfl, ⟨Z, ⟨es, clock, heap_alloc_new _ _, F, hs, hD⟩, h2, fun z hz => (h3 z hz).bk (BK.below hB), h4⟩, by simp, hB⟩
/-- a copy's blocks, each for itself -/
theorem So.copied {w w1 w2 w3 : World} {lb db : Nat} {Ad : Option Addr} {cd : Nat} {s : So} (hper : 1 ≤ s.per ∧ s.per ≤ 1024) (hok : s.st.ok) (hl1 : LogAt (Nw w w1) w1 lb s.log) (hb1 : Below w.heap.size w w1) (hd2 : DiskAt (Nw w1 w2) w2 db Ad cd s.snap) (hb2 : Below w1.heap.size w1 w2)
    (hm3 : SlotsAt w3 w2.heap.size s.st.slots) (hz3 : w3.heap.size = w2.heap.size + 1) (hb3 : Below w2.heap.size w2 w3) :
    SoAt (Nw w (w3.alloc (.cells #[.int .i64 (s.per : Int), .pointer (some ⟨lb, 0, none⟩), .pointer (some ⟨db, 0, none⟩), .int .i64 (s.st.promised : Int), .int .i64 (s.st.base : Int), .map (some w2.heap.size)] TSo))) (w3.alloc (.cells #[.int .i64 (s.per : Int), .pointer (some ⟨lb, 0, none⟩), .pointer (some ⟨db, 0, none⟩), .int .i64 (s.st.promised : Int), .int .i64 (s.st.base : Int), .map (some w2.heap.size)] TSo)) w3.heap.size s ∧
      Below w.heap.size w (w3.alloc (.cells #[.int .i64 (s.per : Int), .pointer (some ⟨lb, 0, none⟩), .pointer (some ⟨db, 0, none⟩), .int .i64 (s.st.promised : Int), .int .i64 (s.st.base : Int), .map (some w2.heap.size)] TSo)) := by
  have b4 := below_new w3 (.cells #[.int .i64 (s.per : Int), .pointer (some ⟨lb, 0, none⟩), .pointer (some ⟨db, 0, none⟩), .int .i64 (s.st.promised : Int), .int .i64 (s.st.base : Int), .map (some w2.heap.size)] TSo)
  have B := Blk.new w3 TSo #[.int .i64 (s.per : Int), .pointer (some ⟨lb, 0, none⟩), .pointer (some ⟨db, 0, none⟩), .int .i64 (s.st.promised : Int), .int .i64 (s.st.base : Int), .map (some w2.heap.size)]
  have e4 : (w3.alloc (.cells #[.int .i64 (s.per : Int), .pointer (some ⟨lb, 0, none⟩), .pointer (some ⟨db, 0, none⟩), .int .i64 (s.st.promised : Int), .int .i64 (s.st.base : Int), .map (some w2.heap.size)] TSo)).heap.size = w2.heap.size + 2 := by simp [hz3]
  have b24 := hb3.trans (b4.mono hb3.size)
  have b14 := hb2.trans (b24.mono hb2.size)
  have hw := hb1.size
  have hw2 := hb2.size
  generalize (w3.alloc (.cells #[.int .i64 (s.per : Int), .pointer (some ⟨lb, 0, none⟩), .pointer (some ⟨db, 0, none⟩), .int .i64 (s.st.promised : Int), .int .i64 (s.st.base : Int), .map (some w2.heap.size)] TSo)) = w4 at *
  have hm := hm3.below b4
  refine ⟨⟨Nw w w1, Nw w1 w2, lb, db, w2.heap.size, B, hl1.below b14, ⟨Ad, cd, hd2.below b24⟩, hm, fun x hx => ⟨hx.1, by have := hx.2; omega⟩, fun x hx => ⟨by have := hx.1; omega, by have := hx.2; omega⟩, ⟨by omega, by omega⟩, ⟨by omega, by omega⟩, fun x hx hy => by have := hx.2; have := hy.1; omega, ⟨fun hx => by have := hx.2; omega, fun hx => by have := hx.2; omega⟩, ⟨fun hx => by have := hx.2; omega, fun hx => by have := hx.2; omega⟩, fun x hx => hx.2, hper, hok⟩, hb1.trans (b14.mono hb1.size)⟩

section
variable {S S1 S2 : Nat → Prop} {w : World} {b lb db mb : Nat} {s : So}
/-- WHAT Copy leaves -/
def CopySDid (w : World) (s : So) (e : Ending) (w' : World) : Prop := ∃ b', e = .returned (.pointer (some ⟨b', 0, none⟩)) ∧ SoAt (Nw w w') w' b' s ∧ Below w.heap.size w w'
set_option maxHeartbeats 2000000 in
theorem copyS (h : SoO S S1 S2 w b lb db mb s) : Calls Tryz.prog 9 #[.pointer (some ⟨b, 0, none⟩)] w (CopySDid w s) := by
  have hper := h.per
  have hok := h.ok
  have h0 := h.below ((Below.refl _ w).drew)
  obtain ⟨c0, c1, c2, c3, c4, c5, z1, z3, z4⟩ := h0.facts
  obtain ⟨hu, H, A, c, ps, hl⟩ := id h0.log
  have hcl := copyL hl hu
  have hno := noneS h
  clear hl h z1 z3 z4
  go_enter Tryz.func9, Tryz.ntmps9
  go_wp2_with (go_at_call 49; refine hno.mono ?_; rintro e w' ⟨rfl, rfl⟩)
  refine wp_region_T #[[], [], [], [], [], [], [], [], [7], [], [], [], [], [7, 12], [], [], [], [], [], [], [], [], [], [], [], [], [7, 12, 25], [3, 7, 12, 17, 21, 25], [3, 7, 12, 17, 21, 25], [3, 7, 12, 17, 21, 25]] [3, 7, 12, 17, 21, 25] (fun w' => w'.cell? ⟨b, 0, none⟩ = some (.int .i64 (s.per : Int)) ∧ w'.cell? ⟨b, 1, none⟩ = some (.pointer (some ⟨lb, 0, none⟩)) ∧ w'.cell? ⟨b, 2, none⟩ = some (.pointer (some ⟨db, 0, none⟩)) ∧ w'.cell? ⟨b, 3, none⟩ = some (.int .i64 (s.st.promised : Int)) ∧ w'.cell? ⟨b, 4, none⟩ = some (.int .i64 (s.st.base : Int)) ∧ w'.cell? ⟨b, 5, none⟩ = some (.map (some mb))) 30 rfl (by kernel_rfl) ?_
  (refine wpF (i := 0) rfl (by kernel_rfl) rfl (fun _ _ _ h => h) (fun _ => by go_simp; try rfl) ?_; (try simp only [Act.put, sA, sB, sC]))
  (refine wpF (i := 1) rfl (by kernel_rfl) rfl (fun _ _ _ h => h) (fun _ => by go_simp; try rfl) ?_; (try simp only [Act.put, sA, sB, sC]))
  (refine wpF (i := 2) rfl (by kernel_rfl) rfl (fun _ _ _ h => h) (fun _ => by go_simp; try rfl) ?_; (try simp only [Act.put, sA, sB, sC]))
  (refine wpAnyT_read (i := 3) rfl (by kernel_rfl) rfl (fun _ _ _ h => h) (by kernel_rfl) (⟨c0, c1, c2, c3, c4, c5⟩) (fun w hS_ => by obtain ⟨s_1, s_2, s_3, s_4, s_5, s_6⟩ := hS_; go_simp; try rfl) ?_; (try simp only [Act.put, sA, sB, sC]))
  (refine wpF (i := 4) rfl (by kernel_rfl) rfl (fun _ _ _ h => h) (fun _ => by go_simp; try rfl) ?_; (try simp only [Act.put, sA, sB, sC]))
  (refine wpF (i := 5) rfl (by kernel_rfl) rfl (fun _ _ _ h => h) (fun _ => by go_simp; try rfl) ?_; (try simp only [Act.put, sA, sB, sC]))
  (refine wpF (i := 6) rfl (by kernel_rfl) rfl (fun _ _ _ h => h) (fun _ => by go_simp; try rfl) ?_; (try simp only [Act.put, sA, sB, sC]))
  (refine wpAnyT_read (i := 7) rfl (by kernel_rfl) rfl (fun _ _ _ h => h) (by kernel_rfl) (⟨c0, c1, c2, c3, c4, c5⟩) (fun w hS_ => by obtain ⟨s_1, s_2, s_3, s_4, s_5, s_6⟩ := hS_; go_simp; try rfl) ?_; (try simp only [Act.put, sA, sB, sC]))
  (refine wpF (i := 9) rfl (by kernel_rfl) rfl (fun _ _ _ h => h) (fun _ => by go_simp; try rfl) ?_; (try simp only [Act.put, sA, sB, sC]))
  (refine wpF (i := 10) rfl (by kernel_rfl) rfl (fun _ _ _ h => h) (fun _ => by go_simp; try rfl) ?_; (try simp only [Act.put, sA, sB, sC]))
  (refine wpF (i := 11) rfl (by kernel_rfl) rfl (fun _ _ _ h => h) (fun _ => by go_simp; try rfl) ?_; (try simp only [Act.put, sA, sB, sC]))
  (refine wpAnyT_read (i := 12) rfl (by kernel_rfl) rfl (fun _ _ _ h => h) (by kernel_rfl) (⟨c0, c1, c2, c3, c4, c5⟩) (fun w hS_ => by obtain ⟨s_1, s_2, s_3, s_4, s_5, s_6⟩ := hS_; go_simp; try rfl) ?_; (try simp only [Act.put, sA, sB, sC]))
  (refine wpF (i := 14) rfl (by kernel_rfl) rfl (fun _ _ _ h => h) (fun _ => by go_simp; try rfl) ?_; (try simp only [Act.put, sA, sB, sC]))
  (refine wpF (i := 15) rfl (by kernel_rfl) rfl (fun _ _ _ h => h) (fun _ => by go_simp; try rfl) ?_; (try simp only [Act.put, sA, sB, sC]))
  (refine wpF (i := 16) rfl (by kernel_rfl) rfl (fun _ _ _ h => h) (fun _ => by go_simp; try rfl) ?_; (try simp only [Act.put, sA, sB, sC]))
  (refine wpAnyT_read (i := 17) rfl (by kernel_rfl) rfl (fun _ _ _ h => h) (by kernel_rfl) (⟨c0, c1, c2, c3, c4, c5⟩) (fun w hS_ => by obtain ⟨s_1, s_2, s_3, s_4, s_5, s_6⟩ := hS_; go_simp; try rfl) ?_; (try simp only [Act.put, sA, sB, sC]))
  (refine wpF (i := 18) rfl (by kernel_rfl) rfl (fun _ _ _ h => h) (fun _ => by go_simp; try rfl) ?_; (try simp only [Act.put, sA, sB, sC]))
  (refine wpF (i := 19) rfl (by kernel_rfl) rfl (fun _ _ _ h => h) (fun _ => by go_simp; try rfl) ?_; (try simp only [Act.put, sA, sB, sC]))
  (refine wpF (i := 20) rfl (by kernel_rfl) rfl (fun _ _ _ h => h) (fun _ => by go_simp; try rfl) ?_; (try simp only [Act.put, sA, sB, sC]))
  (refine wpAnyT_read (i := 21) rfl (by kernel_rfl) rfl (fun _ _ _ h => h) (by kernel_rfl) (⟨c0, c1, c2, c3, c4, c5⟩) (fun w hS_ => by obtain ⟨s_1, s_2, s_3, s_4, s_5, s_6⟩ := hS_; go_simp; try rfl) ?_; (try simp only [Act.put, sA, sB, sC]))
  (refine wpF (i := 22) rfl (by kernel_rfl) rfl (fun _ _ _ h => h) (fun _ => by go_simp; try rfl) ?_; (try simp only [Act.put, sA, sB, sC]))
  (refine wpF (i := 23) rfl (by kernel_rfl) rfl (fun _ _ _ h => h) (fun _ => by go_simp; try rfl) ?_; (try simp only [Act.put, sA, sB, sC]))
  (refine wpF (i := 24) rfl (by kernel_rfl) rfl (fun _ _ _ h => h) (fun _ => by go_simp; try rfl) ?_; (try simp only [Act.put, sA, sB, sC]))
  (refine wpAnyT_read (i := 25) rfl (by kernel_rfl) rfl (fun _ _ _ h => h) (by kernel_rfl) (⟨c0, c1, c2, c3, c4, c5⟩) (fun w hS_ => by obtain ⟨s_1, s_2, s_3, s_4, s_5, s_6⟩ := hS_; go_simp; try rfl) ?_; (try simp only [Act.put, sA, sB, sC]))
  refine wpAnyT_one (i := 8) rfl (by kernel_rfl) rfl ?_
  intro K_ hK_
  go_wp2_with ((go_at_call 50; refine hcl.mono ?_; rintro e w1 ⟨lb', rfl, hl1, hb1⟩; have h1 := h0.below hb1; obtain ⟨A1, cc1, hd⟩ := h1.snap; have hcd := copy_B hd; obtain ⟨c0, c1, c2, c3, c4, c5, -, -, -⟩ := h1.facts))
  refine hK_ _ _ ?_ ?_
  · exact fun _ _ => ⟨c0, c1, c2, c3, c4, c5⟩
  clear hK_ K_
  (try simp only [Act.put, sA, sB, sC])
  refine wpAnyT_one (i := 13) rfl (by kernel_rfl) rfl ?_
  intro K_ hK_
  go_wp2_with ((go_at_call 51; refine hcd.mono ?_; rintro e w2 ⟨p, rfl, ⟨db', A', c', rfl, hd2⟩, hb2⟩; have h2 := h1.below hb2; have hcm := slotsClone h2.map; obtain ⟨c0, c1, c2, c3, c4, c5, -, -, -⟩ := h2.facts))
  refine hK_ _ _ ?_ ?_
  · exact fun _ _ => ⟨c0, c1, c2, c3, c4, c5⟩
  clear hK_ K_
  (try simp only [Act.put, sA, sB, sC])
  refine wpAnyT_one (i := 26) rfl (by kernel_rfl) rfl ?_
  intro K_ hK_
  go_wp2_with ((go_at_call 52; refine hcm.mono ?_; rintro e w3 ⟨rfl, hm3, hz3, hb3⟩; have h3 := h2.below hb3; obtain ⟨c0, c1, c2, c3, c4, c5, -, -, -⟩ := h3.facts))
  refine hK_ _ _ ?_ ?_
  · exact fun _ _ => ⟨c0, c1, c2, c3, c4, c5⟩
  clear hK_ K_
  (try simp only [Act.put, sA, sB, sC])
  (refine wpF (i := 27) rfl (by kernel_rfl) rfl (fun _ _ _ h => h) (fun _ => by go_simp; try rfl) ?_; (try simp only [Act.put, sA, sB, sC]))
  refine wpAnyT_sink (i := 28) rfl (by kernel_rfl) rfl (by kernel_rfl) ?_
  intro K_ hK_
  go_wp2
  (try (refine hK_ _ _ ?_; clear hK_ K_))
  (try simp only [Act.put, sA, sB, sC])
  (refine wpF (i := 29) rfl (by kernel_rfl) rfl (fun _ _ _ h => h) (fun _ => by go_simp; try rfl) ?_; (try simp only [Act.put, sA, sB, sC]))
  refine wpAnyT_done (by kernel_rfl) ?_ _
  go_wp2
  go_ret
  obtain ⟨k1, k2⟩ := So.copied hper hok hl1 hb1 hd2 hb2 hm3 hz3 hb3
  rw [hz3] at k1
  exact ⟨_, rfl, k1, ((Below.refl w.heap.size w).drew).trans k2⟩
end
end Go.Proofs.YtediidajdpdeiaaGreatDoor

/- A store and the document's store side by side (layer 8), in memory. -/
namespace Go.Proofs.YtediidajdpdeiaaGreatDoor
open Go.RowKit CrcM
set_option maxRecDepth 100000

/-- a store b and the document's store r (its log is L), each for itself, newer than the law's beginning -/
def BothS (W w : World) (b r : Nat) (s : So) (p : Nat) (L : Lg) (st0 : St) : Prop := ∃ T, LiveS W w b s T ∧ IsRef8 T w r p L st0 ∧ ∀ x, T x → W.heap.size ≤ x
section
variable {W w w' : World} {b r p : Nat} {s s' : So} {L L' : Lg} {st0 st1 : St}
theorem IsRef8.keep [Hole] {T : Nat → Prop} (h : IsRef8 T w r p L st0) (hk : ∀ x, T x → w'.heap[x]? = w.heap[x]?) (hs : w.heap.size ≤ w'.heap.size) (kb : BK w w') : IsRef8 T w' r p L st0 := by
  obtain ⟨T1, T2, H, lr, A1, c1, ps, A2, c2, h⟩ := h
  have hlt : ∀ x, T x → x < w'.heap.size := fun x hx => Nat.lt_of_lt_of_le (h.lt x hx) hs
  exact ⟨T1, T2, H, lr, A1, c1, ps, A2, c2, h.blk.eq (hk _ h.hr), h.log.keep (fun x hx => hk x (h.t1 x hx)) (fun x hx => hlt x (h.t1 x hx)), h.snap.xk (fun x hx => hk x (h.t2 x hx)) kb, h.t1, h.t2, h.hr, h.d1, h.d2, h.d12, hlt⟩
theorem IsRef8.lt [Hole] {T : Nat → Prop} (h : IsRef8 T w r p L st0) : ∀ x, T x → x < w.heap.size := by
  obtain ⟨T1, T2, H, lr, A1, c1, ps, A2, c2, h⟩ := h
  exact h.lt
theorem LiveS.fr {T : Nat → Prop} (h : LiveS W w b s T) (f : Fr T w w') (hT : ∀ x, T x → W.heap.size ≤ x) : LiveS W w' b s (Up T w w') := by
  obtain ⟨S, ⟨S1, S2, lb, db, mb, hd⟩, hS, hb, hX⟩ := h
  refine ⟨S, ⟨S1, S2, lb, db, mb, hd.fr f (fun x hx hy => ((hX x hy).1 hx).elim)⟩, hS, ⟨f.os.trans hb.os, f.tape.trans hb.tape, f.output.trans hb.output, Nat.le_trans hb.size f.size, fun k hk => (f.out k (Nat.lt_of_lt_of_le hk hb.size) fun hh => by have := hT k hh; omega).trans (hb.block k hk)⟩, fun x hx => ?_⟩
  rcases hx with hx | hx
  · exact ⟨(hX x hx).1, Nat.lt_of_lt_of_le (hX x hx).2 f.size⟩
  · exact ⟨fun hs => by have := hd.lt x hs; have := hx.1; omega, hx.2⟩
theorem BothS.below (h : BothS W w b r s p L st0) : Below W.heap.size W w := by
  obtain ⟨T, h1, -⟩ := h
  exact h1.below
theorem BothS.mono (h : BothS W w b r s p L st0) (f : Below w.heap.size w w') : BothS W w' b r s p L st0 := by
  obtain ⟨T, h1, h2, h3⟩ := h
  exact ⟨T, h1.mono' f, h2.keep (fun x hx => f.block x (h2.lt x hx)) f.size (BK.below f), h3⟩
/-- the store turns -/
theorem BothS.store (h : BothS W w b r s p L st0) {f : Nat} {args : Array Value} {k : Int} (hc : ∀ T, LiveS W w b s T → Calls Tryz.prog f args w (LiveSDid W w b T (s', k))) :
    Calls Tryz.prog f args w fun e w' => e = .returned (.int .i64 k) ∧ BothS W w' b r s' p L st0 ∧ BK w w' := by
  obtain ⟨T, h1, h2, h3⟩ := h
  refine (hc T h1).mono ?_
  rintro e w' ⟨e1, k1, k2, k3⟩
  obtain ⟨S, hd, hS, hb, hX⟩ := id k1
  refine ⟨e1, ⟨T, k1, ?_, h3⟩, k3⟩
  obtain ⟨T1, T2, H, lr, A1, c1, ps, A2, c2, h⟩ := h2
  have hlt : ∀ x, T x → x < w'.heap.size := fun x hx => (hX x hx).2
  exact ⟨T1, T2, H, lr, A1, c1, ps, A2, c2, h.blk.eq (k2 _ h.hr), h.log.keep (fun x hx => k2 x (h.t1 x hx)) (fun x hx => hlt x (h.t1 x hx)), h.snap.xk (fun x hx => k2 x (h.t2 x hx)) k3, h.t1, h.t2, h.hr, h.d1, h.d2, h.d12, hlt⟩
/-- the document's store turns -/
theorem BothS.refd (h : BothS W w b r s p L st0) {f : Nat} {args : Array Value} {k : Int} (hc : ∀ T, IsRef8 T w r p L st0 → Calls Tryz.prog f args w (RefDid8 T w r p L' st1 k)) :
    Calls Tryz.prog f args w fun e w' => e = .returned (.int .i64 k) ∧ BothS W w' b r s p L' st1 := by
  obtain ⟨T, h1, h2, h3⟩ := h
  have hbl := h1.below
  refine (hc T h2).mono ?_
  rintro e w' ⟨e1, k1, k2⟩
  exact ⟨e1, _, h1.fr k2 h3, k1, fun x hx => hx.elim (h3 x) (fun q => Nat.le_trans hbl.size q.1)⟩
/-- what tells of the document's store -/
theorem BothS.asks (h : BothS W w b r s p L st0) {f : Nat} {args : Array Value} {v : Value} (hc : ∀ T, IsRef8 T w r p L st0 → Calls Tryz.prog f args w (Told w v)) :
    Calls Tryz.prog f args w fun e w' => e = .returned v ∧ BothS W w' b r s p L st0 ∧ Below w.heap.size w w' := by
  have h' := h
  obtain ⟨T, h1, h2, h3⟩ := h
  exact (hc T h2).mono fun e w' ⟨e1, e2⟩ => ⟨e1, h'.mono e2, e2⟩
end
end Go.Proofs.YtediidajdpdeiaaGreatDoor

/- A store and the document's store side by side (layer 8), behind whose back a row of bytes turns: Accept. -/
namespace Go.Proofs.YtediidajdpdeiaaGreatDoor
open Go.RowKit CrcM
set_option maxRecDepth 100000

/-- as BothS, where no value and no record lies in the row q, which is newer than the law's beginning and none of both stores' -/
def BothSH (q : Nat) (W w : World) (b r : Nat) (s : So) (p : Nat) (L : Lg) (st0 : St) : Prop := ∃ S T S1 S2 lb db mb, @SoO (holeAt q) S S1 S2 w b lb db mb s ∧ @IsRef8 (holeAt q) T w r p L st0 ∧ (∀ x, S x → W.heap.size ≤ x) ∧ (∀ x, T x → W.heap.size ≤ x ∧ x < w.heap.size) ∧ (∀ x, T x → ¬ S x) ∧ ¬ S q ∧ ¬ T q ∧ W.heap.size ≤ q ∧ q < w.heap.size ∧ Below W.heap.size W w
section
variable {q : Nat} {W w w' : World} {b r p : Nat} {s s' : So} {L L' : Lg} {st0 st1 : St}
theorem BothS.hold (h : BothS W w b r s p L st0) (hb : Below w.heap.size w w') (hq : w.heap.size ≤ q) (hq' : q < w'.heap.size) : BothSH q W w' b r s p L st0 := by
  obtain ⟨T, ⟨S, ⟨S1, S2, lb, db, mb, hd⟩, hS, hbl, hX⟩, h2, h3⟩ := h
  exact ⟨S, T, S1, S2, lb, db, mb, hd.hold hb hq hq', h2.hold hb hq, hS, fun x hx => ⟨h3 x hx, Nat.lt_of_lt_of_le (h2.lt x hx) hb.size⟩, fun x hx => (hX x hx).1, fun hx => by have := hd.lt q hx; omega, fun hx => by have := h2.lt q hx; omega, Nat.le_trans hbl.size hq, hq', hbl.trans (hb.mono hbl.size)⟩
theorem BothSH.free (h : BothSH q W w b r s p L st0) (m : Mut q w w') : BothS W w' b r s p L st0 := by
  obtain ⟨S, T, S1, S2, lb, db, mb, h1, h2, h3, h4, h5, h6, h7, h8, h9, h10⟩ := h
  exact ⟨T, ⟨S, ⟨S1, S2, lb, db, mb, m.so h1 h6⟩, h3, ⟨m.os.trans h10.os, m.tape.trans h10.tape, m.output.trans h10.output, by rw [m.size]; exact h10.size, fun k hk => (m.out k (by omega)).trans (h10.block k hk)⟩, fun x hx => ⟨h5 x hx, by rw [m.size]; exact (h4 x hx).2⟩⟩, m.isRef h2 h7, fun x hx => (h4 x hx).1⟩
theorem BothSH.below (h : BothSH q W w b r s p L st0) : Below W.heap.size W w := by
  obtain ⟨S, T, S1, S2, lb, db, mb, h1, h2, h3, h4, h5, h6, h7, h8, h9, h10⟩ := h
  exact h10
theorem BothSH.accept (h : BothSH q W w b r s p L st0) (hh : HalfAt W) (hlen : s.log.len ≤ 4611686018427387904) (hfew : s.st.slots.length < 1048575) (slot k : Int) (B : Option Addr) (v : List UInt8) (cb : Nat) (hv : Own Ever w B v) (hvl : v.length ≤ 70368744177664) :
    Calls Tryz.prog 10 #[.pointer (some ⟨b, 0, none⟩), .int .i64 slot, .int .i64 k, .slice B v.length cb] w fun e w' => e = .returned (.int .i64 (s.accept slot k v).2) ∧ BothSH q W w' b r (s.accept slot k v).1 p L st0 ∧ BK w w' := by
  obtain ⟨S, T, S1, S2, lb, db, mb, h1, h2, h3, h4, h5, h6, h7, h8, h9, h10⟩ := h
  refine (@acceptS (holeAt q) S S1 S2 w b lb db mb s h1 (hh.below h10 hh.lt) hlen hfew slot k B v cb (hv.rd S) hvl).mono ?_
  rintro e w' ⟨k1, ⟨b', e', S1', S2', lb', db', mb', k2⟩, k3⟩
  injection e' with e'
  injection e' with e'
  injection e' with e'
  subst e'
  have hs := k3.size
  have hSl := @SoO.lt (holeAt q) _ _ _ _ _ _ _ _ _ h1
  refine ⟨k1, ⟨_, T, S1', S2', lb', db', mb', k2, @IsRef8.keep w w' r p L st0 (holeAt q) T h2 (fun x hx => k3.out x (h4 x hx).2 (h5 x hx)) hs k3.byt, fun x hx => hx.elim (h3 x) (fun z => Nat.le_trans h10.size z.1), fun x hx => ⟨(h4 x hx).1, Nat.lt_of_lt_of_le (h4 x hx).2 hs⟩, fun x hx hx' => hx'.elim (h5 x hx) (fun z => by have := (h4 x hx).2; have := z.1; omega), fun hx => hx.elim h6 (fun z => by have := z.1; omega), h7, h8, Nat.lt_of_lt_of_le h9 hs, ?_⟩, k3.byt⟩
  exact ⟨k3.os.trans h10.os, k3.tape.trans h10.tape, k3.output.trans h10.output, Nat.le_trans h10.size hs, fun j hj => (k3.out j (Nat.lt_of_lt_of_le hj h10.size) fun hx => by have := h3 j hx; omega).trans (h10.block j hj)⟩
theorem BothSH.refAccept {s0 : So} {m n : Nat} {rcs : List Rc} (h : BothSH q W w b r s p s0.log st0) (hi : s0.inv m n st0 rcs) (slot k : Int) (B : Option Addr) (v : List UInt8) (cb : Nat) (hv : Own Ever w B v) (hvl : v.length ≤ 300) :
    Calls Tryz.prog 64 #[.pointer (some ⟨r, 0, none⟩), .int .i64 slot, .int .i64 k, .slice B v.length cb] w fun e w' => e = .returned (.int .i64 (s0.accept slot k v).2) ∧ BothSH q W w' b r s p (s0.accept slot k v).1.log st0 ∧ BK w w' := by
  obtain ⟨S, T, S1, S2, lb, db, mb, h1, ⟨T1, T2, H, lr, A1, c1, ps, A2, c2, h2⟩, h3, h4, h5, h6, h7, h8, h9, h10⟩ := h
  refine (refAccept_B8 (i := holeAt q) h2 hi slot k B v cb hv hvl).mono ?_
  rintro e w' ⟨k1, k2, k3⟩
  have hs := k3.size
  have hSl := @SoO.lt (holeAt q) _ _ _ _ _ _ _ _ _ h1
  have hTl := @IsRef8.lt w' r p (s0.accept slot k v).1.log st0 (holeAt q) _ k2
  refine ⟨k1, ⟨S, _, S1, S2, lb, db, mb, @SoO.fr (holeAt q) S S1 S2 T w w' b lb db mb s h1 k3 (fun x hx hy => ((h5 x hy) hx).elim), k2, h3, fun x hx => ⟨hx.elim (fun z => (h4 x z).1) (fun z => Nat.le_trans h10.size z.1), hTl x hx⟩, fun x hx hx' => hx.elim (fun z => h5 x z hx') (fun z => by have := hSl x hx'; have := z.1; omega), h6, fun hx => hx.elim h7 (fun z => by have := z.1; omega), h8, Nat.lt_of_lt_of_le h9 hs, ?_⟩, k3.byt⟩
  exact ⟨k3.os.trans h10.os, k3.tape.trans h10.tape, k3.output.trans h10.output, Nat.le_trans h10.size hs, fun j hj => (k3.out j (Nat.lt_of_lt_of_le hj h10.size) fun hx => by have := (h4 j hx).1; omega).trans (h10.block j hj)⟩
end
end Go.Proofs.YtediidajdpdeiaaGreatDoor

/- A store and the document's store side by side (layer 8): the document's log itself; State, has, Copy. -/
namespace Go.Proofs.YtediidajdpdeiaaGreatDoor
open Go.RowKit CrcM
set_option maxRecDepth 100000

section
variable {W w w' : World} {b r p : Nat} {s s' : So} {L L' : Lg} {st0 st1 : St}
/-- the document's log, as a law sees it -/
structure LogIn (W w : World) (b r : Nat) (s : So) (p : Nat) (L : Lg) (st0 : St) (lr : Nat) : Prop where
  ptr : w.cell? ⟨r, 1, none⟩ = some (.pointer (some ⟨lr, 0, none⟩))
  down : w.cell? ⟨lr, 2, none⟩ = some (.bool L.down)
  turn : ∀ {f : Nat} {args : Array Value} {k : Int} {L' : Lg}, (∀ T1 H A c ps, RlogO T1 H w lr A c ps L.ref → Calls Tryz.prog f args w (RlogDid T1 w (.pointer (some ⟨lr, 0, none⟩)) (L'.ref, k))) → Calls Tryz.prog f args w fun e w' => e = .returned (.int .i64 k) ∧ BothS W w' b r s p L' st0
  asks : ∀ {f : Nat} {args : Array Value} {v : Value}, (∀ T1 H A c ps, RlogO T1 H w lr A c ps L.ref → Calls Tryz.prog f args w (Told w v)) → Calls Tryz.prog f args w fun e w' => e = .returned v ∧ BothS W w' b r s p L st0 ∧ Below w.heap.size w w'
theorem BothS.logIn (h : BothS W w b r s p L st0) : ∃ lr, LogIn W w b r s p L st0 lr := by
  have h' := h
  obtain ⟨T, h1, ⟨T1, T2, H, lr, A1, c1, ps, A2, c2, h2⟩, h3⟩ := h
  obtain ⟨-, q1, -, -, -, q5⟩ := h2.facts
  have hbl := h1.below
  refine ⟨lr, q1, q5, fun hc => ?_, fun hc => ?_⟩
  · refine (hc T1 H A1 c1 ps h2.log).mono ?_
    rintro e w' ⟨e1, k1, k2⟩
    obtain ⟨k3, k4⟩ := h2.turn k1 k2
    exact ⟨e1, _, h1.fr k4 h3, k3, fun x hx => hx.elim (h3 x) (fun q => Nat.le_trans hbl.size q.1)⟩
  · exact (hc T1 H A1 c1 ps h2.log).mono fun e w' ⟨e1, e2⟩ => ⟨e1, h'.mono e2, e2⟩
/-- State, of a store that is up -/
theorem BothS.state {m n : Nat} {rcs : List Rc} (h : BothS W w b r s p s.log st0) (hi : s.inv m n st0 rcs) (hd : s.log.down = false) :
    Calls Tryz.prog 17 #[.pointer (some ⟨r, 0, none⟩)] w fun e w' => ∃ X A c, e = .returned (.tuple #[.int .i64 (s.st.promised : Int), .slice A s.st.slots.length c]) ∧ HeldS X w' A c s.st.slots ∧ BothS W w' b r s p s.log st0 ∧ Below w.heap.size w w' := by
  have h' := h
  obtain ⟨T, h1, ⟨T1, T2, H, lr, A1, c1, ps, A2, c2, h2⟩, h3⟩ := h
  refine (state_S8 h2 hi hd).mono ?_
  rintro e w' ⟨X, A, c, e1, k1, -, k3⟩
  exact ⟨X, A, c, e1, k1, h'.mono k3, k3⟩
theorem BothS.base {m n : Nat} {rcs : List Rc} (h : BothS W w b r s p s.log st0) (hi : s.inv m n st0 rcs) (hd : s.log.down = false) :
    Calls Tryz.prog 18 #[.pointer (some ⟨r, 0, none⟩)] w fun e w' => e = .returned (.int .i64 (s.st.base : Int)) ∧ BothS W w' b r s p s.log st0 ∧ Below w.heap.size w w' :=
  h.asks fun _ ⟨_, _, _, _, _, _, _, _, _, h2⟩ => base_S8 h2 hi hd
/-- what the store's slots have -/
theorem BothS.has {m : Nat} (h : BothS W w b r s p L st0) (hl : s.st.lim m) (hm : m ≤ 5000) (hfew : s.st.slots.length ≤ 1048575) (hu : s.log.down = false) :
    Calls Tryz.prog 20 #[.pointer (some ⟨b, 0, none⟩)] w fun e w' => ∃ X A c, e = .returned (.slice A s.st.slots.length c) ∧ HeldS X w' A c s.st.slots ∧ BothS W w' b r s p L st0 ∧ Below w.heap.size w w' := by
  have h' := h
  obtain ⟨T, h1, h2, h3⟩ := h
  refine (has_S h1 hl hm hfew hu).mono ?_
  rintro e w' ⟨A, c, e1, k1, -, k3⟩
  exact ⟨_, A, c, e1, k1, h'.mono k3, k3⟩
end
end Go.Proofs.YtediidajdpdeiaaGreatDoor

/- A store, its copy, and the document's store (layer 8). -/
namespace Go.Proofs.YtediidajdpdeiaaGreatDoor
open Go.RowKit CrcM
set_option maxRecDepth 100000

/-- a store b (so), its copy k (s), and the document's store r, each for itself -/
def BothSC (W w : World) (b k r : Nat) (so s : So) (p : Nat) (L : Lg) (st0 : St) : Prop := ∃ T K, LiveS W w b so (fun x => T x ∨ K x) ∧ IsRef8 T w r p L st0 ∧ SoAt K w k s ∧ (∀ x, T x → W.heap.size ≤ x) ∧ (∀ x, K x → W.heap.size ≤ x) ∧ ∀ x, T x → ¬ K x
section
variable {W w w' : World} {b k r p : Nat} {so so' s : So} {L : Lg} {st0 : St}
theorem BothS.copy (h : BothS W w b r s p L st0) : Calls Tryz.prog 9 #[.pointer (some ⟨b, 0, none⟩)] w fun e w' => ∃ k, e = .returned (.pointer (some ⟨k, 0, none⟩)) ∧ BothSC W w' b k r s s p L st0 ∧ Below w.heap.size w w' := by
  obtain ⟨T, h1, h2, h3⟩ := h
  obtain ⟨S, ⟨S1, S2, lb, db, mb, hd⟩, hS, hbl, hX⟩ := id h1
  refine (copyS hd).mono ?_
  rintro e w' ⟨k, e1, k1, k2⟩
  have hlt := h2.lt
  refine ⟨k, e1, ⟨T, Nw w w', (h1.mono k2).sub (fun x hx => hx.imp_right id), h2.keep (fun x hx => k2.block x (hlt x hx)) k2.size (BK.below k2), k1, h3, fun x hx => Nat.le_trans hbl.size hx.1, fun x hx hx' => by have := hlt x hx; have := hx'.1; omega⟩, k2⟩
theorem BothSC.below (h : BothSC W w b k r so s p L st0) : Below W.heap.size W w := by
  obtain ⟨T, K, h1, -⟩ := h
  exact h1.below
theorem SoAt.lt {S : Nat → Prop} (h : SoAt S w b s) : ∀ x, S x → x < w.heap.size := by
  obtain ⟨S1, S2, lb, db, mb, h⟩ := h
  exact h.lt
theorem SoAt.kp {S : Nat → Prop} (h : SoAt S w b s) (hk : ∀ x, S x → w'.heap[x]? = w.heap[x]?) (hs : w.heap.size ≤ w'.heap.size) (kb : BK w w') : SoAt S w' b s := by
  obtain ⟨S1, S2, lb, db, mb, h⟩ := h
  exact ⟨S1, S2, lb, db, mb, h.kp hk hs kb⟩
theorem BothSC.mono (h : BothSC W w b k r so s p L st0) (f : Below w.heap.size w w') : BothSC W w' b k r so s p L st0 := by
  obtain ⟨T, K, h1, h2, h3, h4, h5, h6⟩ := h
  exact ⟨T, K, h1.mono' f, h2.keep (fun x hx => f.block x (h2.lt x hx)) f.size (BK.below f), h3.kp (fun x hx => f.block x (h3.lt x hx)) f.size (BK.below f), h4, h5, h6⟩
/-- the old one turns -/
theorem BothSC.store (h : BothSC W w b k r so s p L st0) {f : Nat} {args : Array Value} {n : Int} (hc : ∀ S S1 S2 lb db mb, SoO S S1 S2 w b lb db mb so → (∀ x, S x → W.heap.size ≤ x) → Calls Tryz.prog f args w (SoDid S w (.pointer (some ⟨b, 0, none⟩)) (so', n))) :
    Calls Tryz.prog f args w fun e w' => e = .returned (.int .i64 n) ∧ BothSC W w' b k r so' s p L st0 := by
  obtain ⟨T, K, ⟨S, ⟨S1, S2, lb, db, mb, hd⟩, hS, hb, hX⟩, h2, h3, h4, h5, h6⟩ := h
  refine (hc S S1 S2 lb db mb hd hS).mono ?_
  intro e w' q
  obtain ⟨e1, k1, k2, k3⟩ := LiveSDid.of hS hb hX q
  have hs := q.2.2.size
  exact ⟨e1, T, K, k1, h2.keep (fun x hx => k2 x (.inl hx)) hs k3, h3.kp (fun x hx => k2 x (.inr hx)) hs k3, h4, h5, h6⟩
/-- the copy is taken -/
theorem BothSC.swap (h : BothSC W w b k r so s p L st0) : BothS W w k r s p L st0 := by
  obtain ⟨T, K, h1, h2, h3, h4, h5, h6⟩ := h
  exact ⟨T, ⟨K, h3, h5, h1.below, fun x hx => ⟨h6 x hx, h2.lt x hx⟩⟩, h2, h4⟩
end
end Go.Proofs.YtediidajdpdeiaaGreatDoor

/- Both stores (layer 8): what was made behind the law's back stays, too. -/
namespace Go.Proofs.YtediidajdpdeiaaGreatDoor
open Go.RowKit CrcM
set_option maxRecDepth 100000

section
variable {W w0 w w' : World} {b r p : Nat} {s s' : So} {L L' : Lg} {st0 st1 : St}
/-- the store turns; what is newer than w0 stays -/
theorem BothS.storeK (h : BothS W w0 b r s p L st0) (hb : Below w0.heap.size w0 w) {f : Nat} {args : Array Value} {k : Int} (hc : ∀ T, LiveS W w b s T → Calls Tryz.prog f args w (LiveSDid W w b T (s', k))) :
    Calls Tryz.prog f args w fun e w' => e = .returned (.int .i64 k) ∧ BothS W w' b r s' p L st0 ∧ BK w w' ∧ w'.heap[r]? = w.heap[r]? ∧ ∀ x, w0.heap.size ≤ x → x < w.heap.size → w'.heap[x]? = w.heap[x]? := by
  obtain ⟨T, h1, h2, h3⟩ := h
  refine (hc _ (h1.mono hb)).mono ?_
  rintro e w' ⟨e1, k1, k2, k3⟩
  obtain ⟨S, hd, hS, hbl, hX⟩ := id k1
  have h2' := h2.keep (fun x hx => hb.block x (h2.lt x hx)) hb.size (BK.below hb)
  have hr : T r := by obtain ⟨T1, T2, H, lr, A1, c1, ps, A2, c2, h⟩ := h2'; exact h.hr
  refine ⟨e1, ⟨T, k1.sub (fun x hx => .inl hx), ?_, h3⟩, k3, k2 r (.inl hr), fun x hx hx' => k2 x (.inr ⟨hx, hx'⟩)⟩
  obtain ⟨T1, T2, H, lr, A1, c1, ps, A2, c2, h⟩ := h2'
  have hlt : ∀ x, T x → x < w'.heap.size := fun x hx => (hX x (.inl hx)).2
  exact ⟨T1, T2, H, lr, A1, c1, ps, A2, c2, h.blk.eq (k2 _ (.inl h.hr)), h.log.keep (fun x hx => k2 x (.inl (h.t1 x hx))) (fun x hx => hlt x (h.t1 x hx)), h.snap.xk (fun x hx => k2 x (.inl (h.t2 x hx))) k3, h.t1, h.t2, h.hr, h.d1, h.d2, h.d12, hlt⟩
theorem BothS.riseK {m n : Nat} {rcs : List Rc} (h : BothS W w0 b r s p L st0) (hb : Below w0.heap.size w0 w) {f : Nat} {args : Array Value} (hc : ∀ T, LiveS W w b s T → Calls Tryz.prog f args w (RoseDid W w b T m n s st1 rcs)) :
    Calls Tryz.prog f args w fun e w' => ∃ j s', e = .returned (.int .i64 0) ∧ BothS W w' b r s' p L st0 ∧ w'.heap[r]? = w.heap[r]? ∧ Rose m n s st1 rcs j s' := by
  obtain ⟨T, h1, h2, h3⟩ := h
  refine (hc _ (h1.mono hb)).mono ?_
  rintro e w' ⟨j, s', e1, k1, k2, k3, k4⟩
  obtain ⟨S, hd, hS, hbl, hX⟩ := id k1
  have h2' := h2.keep (fun x hx => hb.block x (h2.lt x hx)) hb.size (BK.below hb)
  have hr : T r := by obtain ⟨T1, T2, H, lr, A1, c1, ps, A2, c2, h⟩ := h2'; exact h.hr
  refine ⟨j, s', e1, ⟨T, k1.sub (fun x hx => .inl hx), ?_, h3⟩, k2 r (.inl hr), k4⟩
  obtain ⟨T1, T2, H, lr, A1, c1, ps, A2, c2, h⟩ := h2'
  have hlt : ∀ x, T x → x < w'.heap.size := fun x hx => (hX x (.inl hx)).2
  exact ⟨T1, T2, H, lr, A1, c1, ps, A2, c2, h.blk.eq (k2 _ (.inl h.hr)), h.log.keep (fun x hx => k2 x (.inl (h.t1 x hx))) (fun x hx => hlt x (h.t1 x hx)), h.snap.xk (fun x hx => k2 x (.inl (h.t2 x hx))) k3, h.t1, h.t2, h.hr, h.d1, h.d2, h.d12, hlt⟩
/-- the document's log, where its pointer is known -/
theorem BothS.logAt {lr : Nat} (h : BothS W w b r s p L st0) (hp : w.cell? ⟨r, 1, none⟩ = some (.pointer (some ⟨lr, 0, none⟩))) : LogIn W w b r s p L st0 lr := by
  obtain ⟨lr', h'⟩ := h.logIn
  have := h'.ptr
  rw [hp] at this
  injection this with this
  injection this with this
  injection this with this
  injection this with this
  exact this ▸ h'
/-- Accept of a row that was made behind the law's back, and may turn: what is newer stays -/
theorem BothS.holdAccept {q : Nat} (h : BothS W w0 b r s p L st0) (hb : Below w0.heap.size w0 w) (hq : w0.heap.size ≤ q) (hq' : q < w.heap.size) (hh : HalfAt W) (hlen : s.log.len ≤ 4611686018427387904) (hfew : s.st.slots.length < 1048575) (slot k : Int) (B : Option Addr) (v : List UInt8) (cb : Nat) (hv : Own Ever w B v) (hvl : v.length ≤ 70368744177664) :
    Calls Tryz.prog 10 #[.pointer (some ⟨b, 0, none⟩), .int .i64 slot, .int .i64 k, .slice B v.length cb] w fun e w' => e = .returned (.int .i64 (s.accept slot k v).2) ∧ BothSH q W w' b r (s.accept slot k v).1 p L st0 ∧ BK w w' ∧ ∀ x, w0.heap.size ≤ x → x < w.heap.size → w'.heap[x]? = w.heap[x]? := by
  obtain ⟨T, ⟨S, ⟨S1, S2, lb, db, mb, hd⟩, h3, hbl, hX⟩, hr2, hT3⟩ := h
  have h1 := hd.hold hb hq hq'
  have h2 := hr2.hold hb hq
  have h4 : ∀ x, T x → W.heap.size ≤ x ∧ x < w.heap.size := fun x hx => ⟨hT3 x hx, Nat.lt_of_lt_of_le (hr2.lt x hx) hb.size⟩
  have h5 : ∀ x, T x → ¬ S x := fun x hx => (hX x hx).1
  have h6 : ¬ S q := fun hx => by have := hd.lt q hx; omega
  have h7 : ¬ T q := fun hx => by have := hr2.lt q hx; omega
  have h8 : W.heap.size ≤ q := Nat.le_trans hbl.size hq
  have h10 : Below W.heap.size W w := hbl.trans (hb.mono hbl.size)
  refine (@acceptS (holeAt q) S S1 S2 w b lb db mb s h1 (hh.below h10 hh.lt) hlen hfew slot k B v cb (hv.rd S) hvl).mono ?_
  rintro e w' ⟨k1, ⟨b', e', S1', S2', lb', db', mb', k2⟩, k3⟩
  injection e' with e'
  injection e' with e'
  injection e' with e'
  subst e'
  have hs := k3.size
  have hSl := @SoO.lt (holeAt q) _ _ _ _ _ _ _ _ _ h1
  refine ⟨k1, ⟨_, T, S1', S2', lb', db', mb', k2, @IsRef8.keep w w' r p L st0 (holeAt q) T h2 (fun x hx => k3.out x (h4 x hx).2 (h5 x hx)) hs k3.byt, fun x hx => hx.elim (h3 x) (fun z => Nat.le_trans h10.size z.1), fun x hx => ⟨(h4 x hx).1, Nat.lt_of_lt_of_le (h4 x hx).2 hs⟩, fun x hx hx' => hx'.elim (h5 x hx) (fun z => by have := (h4 x hx).2; have := z.1; omega), fun hx => hx.elim h6 (fun z => by have := z.1; omega), h7, h8, Nat.lt_of_lt_of_le hq' hs, ?_⟩, k3.byt, fun x hx hx' => k3.out x hx' (fun hSx => by have := hd.lt x hSx; omega)⟩
  exact ⟨k3.os.trans h10.os, k3.tape.trans h10.tape, k3.output.trans h10.output, Nat.le_trans h10.size hs, fun j hj => (k3.out j (Nat.lt_of_lt_of_le hj h10.size) fun hx => by have := h3 j hx; omega).trans (h10.block j hj)⟩
theorem BothSH.mono {q : Nat} (h : BothSH q W w b r s p L st0) (f : Below w.heap.size w w') : BothSH q W w' b r s p L st0 := by
  obtain ⟨S, T, S1, S2, lb, db, mb, h1, h2, h3, h4, h5, h6, h7, h8, h9, h10⟩ := h
  exact ⟨S, T, S1, S2, lb, db, mb, @SoO.below (holeAt q) _ _ _ _ _ _ _ _ _ _ h1 f, @IsRef8.keep w w' r p L st0 (holeAt q) T h2 (fun x hx => f.block x (h4 x hx).2) f.size (BK.below f), h3, fun x hx => ⟨(h4 x hx).1, Nat.lt_of_lt_of_le (h4 x hx).2 f.size⟩, h5, h6, h7, h8, Nat.lt_of_lt_of_le h9 f.size, h10.trans (f.mono h10.size)⟩
end
end Go.Proofs.YtediidajdpdeiaaGreatDoor

/- A call on both stores (layer 8): what the law's helper does ahead of its switch. -/
namespace Go.Proofs.YtediidajdpdeiaaGreatDoor
open Go.RowKit CrcM
set_option maxRecDepth 100000

abbrev TA8 : TypeId := 32
theorem does_key8 {W w : World} {b r : Nat} {s : So} {st0 : St} (h : BothS W w b r s s.per s.log st0) (kd n sl fl : Int) (B : Option Addr) (bl cb : Nat) (l : List UInt8) (m : Nat) (v3 : Value) (w3 : World)
    (ho : w3.ownsRow (w.heap.size + 1) TB 1 v3 (0 + m) (([] ++ l).map byteV)) (hg : ((w.alloc (.cells #[.int .i64 kd, .int .i64 n, .int .i64 sl, .int .i64 fl, .slice B bl cb] TA8)).alloc (.cells #[] TB)).grownBy w3 (Value.slice (some ⟨w.heap.size + 1, 0, none⟩) 0 0).ownBlock) :
    ∃ A3 c3, v3 = .slice A3 m c3 ∧ w3.ownsRow (w.heap.size + 1) TB 1 (.slice A3 m c3) m (l.map byteV) ∧ m ≤ c3 ∧ c3 ≤ maxLen ∧ Below w.heap.size w w3 ∧ w.heap.size + 1 ≤ w3.heap.size ∧ BothS W w3 b r s s.per s.log st0 ∧
      w3.cell? ⟨w.heap.size, 0, none⟩ = some (.int .i64 kd) ∧ w3.cell? ⟨w.heap.size, 1, none⟩ = some (.int .i64 n) ∧ w3.cell? ⟨w.heap.size, 2, none⟩ = some (.int .i64 sl) ∧ w3.cell? ⟨w.heap.size, 3, none⟩ = some (.int .i64 fl) := by
  have hb1 := below_new w (.cells #[.int .i64 kd, .int .i64 n, .int .i64 sl, .int .i64 fl, .slice B bl cb] TA8)
  have B1 := Blk.new w TA8 #[.int .i64 kd, .int .i64 n, .int .i64 sl, .int .i64 fl, .slice B bl cb]
  have e1 : (w.alloc (.cells #[.int .i64 kd, .int .i64 n, .int .i64 sl, .int .i64 fl, .slice B bl cb] TA8)).heap.size = w.heap.size + 1 := by simp
  rw [Nat.zero_add, List.nil_append] at ho
  obtain ⟨A3, c3, rfl, hc3, hm3⟩ := own_val ho
  have hbb : Below (w.alloc (.cells #[.int .i64 kd, .int .i64 n, .int .i64 sl, .int .i64 fl, .slice B bl cb] TA8)).heap.size (w.alloc (.cells #[.int .i64 kd, .int .i64 n, .int .i64 sl, .int .i64 fl, .slice B bl cb] TA8)) w3 :=
    (below_new _ (.cells #[] TB)).grown hg (by simp) (fun j hj => by injection hj with hj; subst hj; rw [e1]; exact Nat.le_refl _)
  have B3 := B1.below' hbb
  have hbw := hb1.trans (hbb.mono hb1.size)
  have hsz := hbb.size
  rw [e1] at hsz
  exact ⟨A3, c3, rfl, ho, hc3, hm3, hbw, hsz, h.mono hbw, B3.cell 0 rfl, B3.cell 1 rfl, B3.cell 2 rfl, B3.cell 3 rfl⟩
theorem act8_row (w : World) (o : Obj) : ((w.alloc o).alloc (.cells #[] TB)).ownsRow (w.heap.size + 1) TB 1 (.slice (some ⟨w.heap.size + 1, 0, none⟩) 0 0) 0 (([] : List UInt8).map byteV) := by
  have := ownsB_none (w.alloc o)
  have e : (w.alloc o).heap.size = w.heap.size + 1 := by simp
  rw [e] at this
  exact this
theorem min300 (bb l : List UInt8) (m : Nat) (hl : l = bb.take 300) (hm : l.length = m) (w : World) : (Builtin.min_ #[3, 3] 3 #[.int .i64 (bb.length : Int), .int .i64 300]).run Tryz.prog w = .ok (.int .i64 (m : Int)) w := by
  rw [run_min_int2]
  have : (m : Int) = if (300 : Int) < (bb.length : Int) then 300 else (bb.length : Int) := by rw [← hm, hl, List.length_take]; split <;> omega
  rw [this]
theorem refSnapDown_B8 {T T1 T2 H : Nat → Prop} {w : World} {r lr : Nat} {A1 : Option Addr} {c1 : Nat} {ps : List Nat} {A2 : Option Addr} {c2 : Nat} {per : Nat} {L : Lg} {st0 : St} (h : RefO T T1 T2 H w r lr A1 c1 ps A2 c2 per L st0) (hd : L.down = true) :
    Calls Tryz.prog 67 #[.pointer (some ⟨r, 0, none⟩)] w (RefDid8 T w r per L st0 10) := by
  obtain ⟨b0, b1, b2, b3, b4, ld⟩ := h.facts
  rw [hd] at ld
  clear hd
  go_enter Tryz.func67, Tryz.ntmps67
  go_wp2
  go_ret
  exact h.did (Below.refl _ _) 10

/-- an append of bytes, as one operation of a drawn region -/
theorem wp_appB {w : World} {o : Oper} {a : Act} {K : Act → World → Prop} {Q : Exit → Act → World → Prop} (s x : Operand) (t : TypeId)
    (ho : o.op = .call { callee := .builtin .append, args := #[s, x], argTypes := #[t, t] }) {P : Program}
    (i : TypeInfo) (ht : P.underlying t = some (.slice TB)) (hi : P.info? TB = some i) (hz : i.zero = some (.int .u8 0)) (hsize : i.size = 1) (hby : i.bytes = 1)
    (base : Nat) (v : Value) (n : Nat) (xs : List UInt8) (hs : a.eval s = v) (hown : w.ownsRow base TB 1 v n (xs.map byteV))
    (S : Nat → Prop) (A : Option Addr) (m c : Nat) (l : List UInt8) (hx : a.eval x = .slice A m c) (hl : l.length = m) (hr : Rd S w A l)
    (hbytes : n + m ≤ 140737488355328) (hbase : base ≤ w.heap.size)
    (h : ∀ v' w', w'.ownsRow base TB 1 v' (n + m) ((xs ++ l).map byteV) → w.grownBy w' v.ownBlock → (v'.ownBlock = v.ownBlock ∨ v'.ownBlock = some w.heap.size) → K (a.put o.dst v') w') :
    o.wp P a w K Q := by
  obtain ⟨v', w', hrun, h2, h3, h5⟩ := run_append_rd (P := P) (w := w) base t o.type TB i (.int .u8 0) 1 1 ht hi hz hsize hby rfl (by omega) v n (xs.map byteV) hown A m c (l.map byteV) (by simp [hl])
    (fun j u hu => by
      rw [List.getElem?_map] at hu
      cases hj : l[j]? with
      | none => rw [hj] at hu; cases hu
      | some y =>
        rw [hj] at hu
        obtain ⟨ad, e, hc, _⟩ := hr j y hj
        injection hu with hu
        exact ⟨ad, e, by rw [← hu]; exact hc⟩) byteV_one (by simp only [maxLen]; omega) (by omega) hbase
  rw [← List.map_append] at h2
  unfold Oper.wp
  rw [run_builtin2 .append s x t t Builtin.append_ ho hs hx (fun _ _ => rfl) hrun, Oper.upon_value]
  exact h v' w' h2 h3 h5

/-- WHAT does leaves -/
def DoesDid8 (W : World) (b r n : Nat) (e : Ending) (w' : World) : Prop := e = .returned (.bool true) ∧ ∃ s st0 rcs, BothS W w' b r s s.per s.log st0 ∧ s.Fine 301 n st0 rcs
end Go.Proofs.YtediidajdpdeiaaGreatDoor
