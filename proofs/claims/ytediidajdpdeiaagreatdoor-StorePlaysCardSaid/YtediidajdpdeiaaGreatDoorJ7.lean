/- The log's scan (layer 7): the walk. -/
import Derived.Test.YtediidajdpdeiaaGreatDoorJ5
import Derived.Test.YtediidajdpdeiaaGreatDoorJ6

namespace Go.Proofs.YtediidajdpdeiaaGreatDoor
open Go.RowKit Go.Shelf CrcM
attribute [local go_sem] Oper.semAt_some
set_option maxRecDepth 100000

/-- cells are as they were -/
def CK (w w' : World) : Prop := w.heap.size ≤ w'.heap.size ∧ ∀ (g : Nat) (cs : Array Value) (t : TypeId) (fz : Nat × Nat), w.heap[g]? = some (Obj.cells cs t fz) → w'.heap[g]? = w.heap[g]?
section
variable {w w' : World} {b : Nat} {t : TypeId} {cs : Array Value} {S : Nat → Prop} {A : Option Addr} {l : List UInt8}
theorem CK.putObj {D : Nat} {o o' : Obj} (h : w.heap[D]? = some o) (hc : o.isCells = false) : CK w (w.putObj D o') := by
  refine ⟨by simp [World.putObj], fun g cs t fz hg => World.putObj_heap_other ?_⟩
  rintro rfl
  rw [h] at hg
  injection hg with hg
  rw [hg] at hc
  cases hc
theorem CK.grown {row : Option Nat} (hg : w.grownBy w' row) (hr : ∀ r, row = some r → ∃ o : Obj, w.heap[r]? = some o ∧ o.isCells = false) : CK w w' :=
  ⟨hg.size, fun _ _ _ _ h => grownBy_keeps_cells hg hr h rfl⟩
theorem Blk.ck (h : Blk w b t cs) (k : CK w w') : Blk w' b t cs := h.eq (k.2 _ _ _ _ h)
theorem Own.ck (h : Own S w A l) (k : CK w w') : Own S w' A l := fun j x hx => by
  obtain ⟨ad, e, hc, ⟨cs, fz, hb⟩, hs⟩ := h j x hx
  exact ⟨ad, e, (cell_eq (by rw [add_block]; exact k.2 _ _ _ _ hb)).trans hc, ⟨cs, fz, (k.2 _ _ _ _ hb).trans hb⟩, hs⟩
theorem Row.ck {e : TypeId} {v : Value} {vals : List Value} (h : Row S w e v vals) (k : CK w w') : Row S w' e v vals := by
  refine h.imp_right ?_
  rintro ⟨g, o, c, cur, h1, h2, h3, h4⟩
  exact ⟨g, o, c, cur, h1, h2, (k.2 _ _ _ _ h3).trans h3, h4⟩
theorem Recs.ck {vals : List Value} {recs : List (List UInt8)} (h : Recs w vals recs) (k : CK w w') : Recs w' vals recs :=
  ⟨h.1, fun i r hr => by
    obtain ⟨A, c, h1, h2, h3, h4⟩ := h.2 i r hr
    exact ⟨A, c, h1, h2, h3, h4.ck k⟩⟩
theorem DiskAt.ck {c : Nat} {D : Dk} (h : DiskAt S w b A c D) (k : CK w w') : DiskAt S w' b A c D := ⟨h.blk.ck k, h.own.ck k, h.inS, fun x hx => Nat.lt_of_lt_of_le (h.lt x hx) k.1, h.cap, h.ok⟩
theorem SegAt.ck {g : Sg} (h : SegAt S w b g) (k : CK w w') : SegAt S w' b g := by
  obtain ⟨⟨Sd, Sh, db, A, c, rv, vals, h1, h2, h3, h4, h5, h6, h7, h8⟩, hlt⟩ := h
  exact ⟨⟨Sd, Sh, db, A, c, rv, vals, h1, h2, fun x p q => by obtain ⟨cs, fz, hb⟩ := h3 x p q; exact ⟨cs, fz, (k.2 _ _ _ _ hb).trans hb⟩, h4, h5.ck k, h6.ck k, h7.ck k, h8.ck k⟩, fun x hx => Nat.lt_of_lt_of_le (hlt x hx) k.1⟩
theorem Fr.putObj {D : Nat} {o : Obj} {w0 : World} (h : Fr S w0 w) (hD : w0.heap.size ≤ D) : Fr S w0 (w.putObj D o) :=
  ⟨h.os, h.tape, h.output, by have := h.size; simpa [World.putObj] using this, fun b hb hn => (World.putObj_heap_other (by omega)).trans (h.out b hb hn), fun b hb => (World.putObj_heap_other (by have := hb.lt; omega)).trans (h.byt b hb)⟩
/-- a row's own block lies behind n -/
theorem Row.ownGt {e : TypeId} {v : Value} {vals : List Value} {n : Nat} (h : Row (fun x => n < x) w e v vals) {j : Nat} (hj : j ≤ n) : v.ownBlock ≠ some j := by
  rcases h with ⟨rfl, _⟩ | ⟨g, o, c, cur, rfl, hg, _⟩
  · simp [Value.ownBlock]
  · intro e'
    have e' : some g = some j := e'
    injection e' with e'
    omega
theorem Row.ownCells {e : TypeId} {v : Value} {vals : List Value} (h : Row S w e v vals) {j : Nat} {o : Obj} (ho : w.heap[j]? = some o) (hc : o.isCells = false) : v.ownBlock ≠ some j := by
  rcases h with ⟨rfl, _⟩ | ⟨g, _, c, cur, rfl, _, h3, _⟩
  · simp [Value.ownBlock]
  · intro e'
    have e' : some g = some j := e'
    injection e' with e'
    subst e'
    rw [h3] at ho
    injection ho with ho
    rw [← ho] at hc
    cases hc
end
theorem Blk.below' {w w' : World} {b : Nat} {t : TypeId} {cs : Array Value} (h : Blk w b t cs) (hb : Below w.heap.size w w') : Blk w' b t cs := h.eq (hb.block b h.lt)
theorem KeepsFrom.of_fr {B : Nat} {w w' : World} (hs : w.heap.size ≤ w'.heap.size) (h : ∀ (k : Nat) (o : Obj), w.heap[k]? = some o → o.isCells = false → w'.heap[k]? = w.heap[k]?) : KeepsFrom B w w' :=
  ⟨hs, fun k o _ hk ho => (h k o hk ho).trans hk⟩

theorem results_cell_cell {fn : Func} {p u : Tmp} {ty tz : TypeId} (h : fn.results = #[.cell p ty, .cell u tz]) (tmps : Array Value) (P : Program) (w : World) :
    (results fn tmps).run P w =
      ((asAddr (tmps.getD p undef)).run P w).andThen fun a w₁ => ((loadVar ty a).run P w₁).andThen fun v w₂ => ((asAddr (tmps.getD u undef)).run P w₂).andThen fun b w₃ => ((loadVar tz b).run P w₃).andThen fun x w₄ => .ok (.tuple #[v, x]) w₄ := by
  simp only [results, h]
  simp [Sem.run_bind, Result.andThen]

/-- what is known where k bodies are behind -/
structure ScanI (w : World) (m db : Nat) (A : Option Addr) (b : List UInt8) (c : Nat) (due : Int) (k : Nat) (W : World) : Prop where
  bel : Below w.heap.size w W
  hm : w.heap.size + 3 ≤ m
  own : Own Any W A b
  b0 : Blk W w.heap.size 3 #[.int .i64 due]
  b1 : Blk W (w.heap.size + 1) TPs #[ptr (m + 1)]
  b2 : Blk W (w.heap.size + 1 + 1) 4 #[.bool false]
  b6 : Blk W m TBs #[.slice A b.length c]
  bx : Blk W (m + 1 + 1 + 1) TBs #[.slice A b.length c]
  ex : ∃ (bs : List (List UInt8)) (at_ : Nat) (base : Int) (recs : List (List UInt8)) (rv : Value) (vals : List Value), bs.length = k ∧ Got b bs at_ ∧ Blk W (m + 1 + 1) 3 #[.int .i64 (at_ : Int)] ∧ Blk W (m + 1) TSg #[ptr db, .int .i64 base, rv, .int .i64 0] ∧
    Row (fun x => m + 3 < x) W TBs rv vals ∧ Recs W vals recs ∧ ScanSt due bs base recs

theorem ScanI.own_ (w : World) (m db : Nat) (A : Option Addr) (b : List UInt8) (c : Nat) (due : Int) : OwnFrom w.heap.size (ScanI w m db A b c due) := by
  intro k W W' row h hg hr
  have hr' : ∀ r, row = some r → ∃ o : Obj, W.heap[r]? = some o ∧ o.isCells = false := fun r e => (hr r e).2
  have ck := CK.grown hg hr'
  obtain ⟨bs, at_, base, recs, rv, vals, h1, h2, h3, h4, h5, h6, h7⟩ := h.ex
  exact ⟨h.bel.grown hg (by have := h.bel.size; omega) (fun j e => (hr j e).1), h.hm, h.own.ck ck, h.b0.ck ck, h.b1.ck ck, h.b2.ck ck, h.b6.ck ck, h.bx.ck ck, bs, at_, base, recs, rv, vals, h1, h2, h3.ck ck, h4.ck ck, h5.ck ck, h6.ck ck, h7⟩

/-- what is known where nothing is told -/
def ScanX (w : World) (D : Dk) (due : Int) (cd : Code) (_ : Nat) (W : World) : Prop := cd = Code.ret ∧ Below w.heap.size w W ∧ Blk W (w.heap.size + 1) TPs #[.pointer none] ∧ Blk W (w.heap.size + 1 + 1) 4 #[.bool false] ∧ scan D due = none
theorem ScanX.own_ (w : World) (D : Dk) (due : Int) (cd : Code) : OwnFrom w.heap.size (ScanX w D due cd) := by
  intro k W W' row h hg hr
  have hr' : ∀ r, row = some r → ∃ o : Obj, W.heap[r]? = some o ∧ o.isCells = false := fun r e => (hr r e).2
  have ck := CK.grown hg hr'
  obtain ⟨h1, h2, h3, h4, h5⟩ := h
  exact ⟨h1, h2.grown hg (by have := h2.size; omega) (fun j e => (hr j e).1), h3.ck ck, h4.ck ck, h5⟩

/-- WHAT scan leaves -/
def ScanDid (S : Nat → Prop) (w : World) (D : Dk) (due : Int) (e : Ending) (w' : World) : Prop := Fr S w w' ∧ match scan D due with
  | none => e = .returned (.tuple #[.pointer none, .bool false]) ∧ Fr Non w w'
  | some r => ∃ p, e = .returned (.tuple #[ptr p, .bool r.2]) ∧ SegAt (Up S w w') w' p r.1

theorem scan_ret {w W : World} {D : Nat} {v : Value} {x : Bool} {tmps : Array Value} {R : Ending → World → Prop} (h4 : tmps.getD 4 undef = .pointer (some ⟨w.heap.size + 1, 0, none⟩)) (h5 : tmps.getD 5 undef = .pointer (some ⟨w.heap.size + 1 + 1, 0, none⟩))
    (hK : W.heap[D]? = some (.deferred (some []))) (h1 : Blk W (w.heap.size + 1) TPs #[v]) (h2 : Blk W (w.heap.size + 1 + 1) 4 #[.bool x])
    (hR : CK W (W.putObj D (.deferred none)) → R (.returned (.tuple #[v, .bool x])) (W.putObj D (.deferred none))) :
    LeavesInM Fence.wide 10 Tryz.prog Tryz.f156 tmps R [] .returning (W.putObj D (.deferred none)) := by
  have ck : CK W (W.putObj D (.deferred none)) := CK.putObj hK rfl
  have c1 := (h1.ck ck).cell 0 (v := v) rfl
  have c2 := (h2.ck ck).cell 0 (v := .bool x) rfl
  refine ⟨_, ?_, hR ck⟩
  rw [results_cell_cell (p := 4) (u := 5) (ty := TPs) (tz := 4) rfl, h4, h5]
  go_simp

/-- what holds where nothing panics -/
def NoPanic (Q : Exit → Act → World → Prop) : Exit → Act → World → Prop
  | .panic _, _, _ => False
  | .normal, a, w => Q .normal a w
  | .exit i, a, w => Q (.exit i) a w
  | .goto i, a, w => Q (.goto i) a w
  | .ret, a, w => Q .ret a w
  | .outgrown, a, w => Q .outgrown a w
theorem NoPanic.of {Q : Exit → Act → World → Prop} : ∀ e a w, NoPanic Q e a w → Q e a w
  | .panic _, _, _, h => h.elim
  | .normal, _, _, h => h
  | .exit _, _, _, h => h
  | .goto _, _, _, h => h
  | .ret, _, _, h => h
  | .outgrown, _, _, h => h

theorem readNum_err {l : List UInt8} {r : Int} (h : readNum l = .error r) : r ≠ 0 := by
  have : ∀ (l : List UInt8) (i acc : Nat), readN l i acc = .error r → r ≠ 0 := by
    intro l
    induction l with
    | nil => intro i acc h; rw [readN] at h; injection h with h; omega
    | cons x t ih =>
      intro i acc h
      rw [readN] at h
      split at h
      · injection h with h; omega
      · split at h
        · injection h with h; omega
        · split at h
          · cases h
          · exact ih _ _ h
  exact this l 0 0 h

set_option maxHeartbeats 2000000 in
theorem scanL {S : Nat → Prop} {w : World} {db : Nat} {A0 : Option Addr} {c0 : Nat} {D : Dk} (hd0 : DiskAt S w db A0 c0 D) (hup : D.down = false) (hh : HalfAt w) (due : Int) :
    Calls Tryz.prog 156 #[.pointer (some ⟨db, 0, none⟩), .int .i64 due] w (ScanDid S w D due) := by
  have hrd : D.read = (D.all, 0) := by unfold Dk.read; rw [hup]; rfl
  obtain ⟨ib, hib, hzb, hsb, hbb⟩ := info_parts info_bs
  refine (callsIn_wide (n := 10)).1 ?_
  refine callsIn_of_wp_marks Tryz.func156 rfl trivial ?_ rfl
  simp only [Tryz.ntmps156, List.size_toArray, List.length_cons, List.length_nil, Nat.reduceAdd, Nat.reduceSub, Array.replicate_succ, Array.replicate_zero, List.push_toArray, List.append_toArray, List.nil_append, List.cons_append]
  have z0 : Blk (((w.alloc (.cells #[.int .i64 due] 3)).alloc (.cells #[.pointer none] TPs)).alloc (.cells #[.bool false] 4)) w.heap.size 3 #[.int .i64 due] := ((Blk.new _ _ _).alloc _).alloc _
  have z1 : Blk (((w.alloc (.cells #[.int .i64 due] 3)).alloc (.cells #[.pointer none] TPs)).alloc (.cells #[.bool false] 4)) (w.heap.size + 1) TPs #[.pointer none] := (Blk.new' _ _ _ (by simp)).alloc _
  have z2 : Blk (((w.alloc (.cells #[.int .i64 due] 3)).alloc (.cells #[.pointer none] TPs)).alloc (.cells #[.bool false] 4)) (w.heap.size + 1 + 1) 4 #[.bool false] := Blk.new' _ _ _ (by simp)
  have bel1 : Below w.heap.size w (((w.alloc (.cells #[.int .i64 due] 3)).alloc (.cells #[.pointer none] TPs)).alloc (.cells #[.bool false] 4)) := ((Below.refl _ w).alloc (Nat.le_refl _) _).alloc (by simp) _ |>.alloc (by simp; omega) _
  have hsz1 : (((w.alloc (.cells #[.int .i64 due] 3)).alloc (.cells #[.pointer none] TPs)).alloc (.cells #[.bool false] 4)).heap.size = w.heap.size + 3 := by simp
  gi_wp2_with (first
    | (refine ⟨trivial, ?_⟩; gi_at_call 157; refine (callsIn_wide.2 (read_B (hd0.below bel1))).mono ?_; unfold DiskRead; rw [hrd]; rintro e w2 ⟨A, c, rfl, ho2, hc2, hm2, hb2⟩; have y0 := z0.below' hb2; have y1 := z1.below' hb2; have y2 := z2.below' hb2; have bel2 := bel1.trans (hb2.mono bel1.size); have hs2 := hb2.size; rw [hsz1] at hs2; have j1 : ((w2.alloc (.cells #[.slice A D.all.length c] TBs)).alloc (.cells #[.pointer (some ⟨db, 0, none⟩), .int .i64 (-1), .slice none 0 0, .int .i64 0] TSg)).cell? ⟨w.heap.size + 1, 0, none⟩ = some (.pointer none) := ((y1.alloc _).alloc _).cell 0 rfl; have j1f : ((w2.alloc (.cells #[.slice A D.all.length c] TBs)).alloc (.cells #[.pointer (some ⟨db, 0, none⟩), .int .i64 (-1), .slice none 0 0, .int .i64 0] TSg)).frozen? ⟨w.heap.size + 1, 0, none⟩ = false := ((y1.alloc _).alloc _).frozen 0; have j6 : ((((w2.alloc (.cells #[.slice A D.all.length c] TBs)).alloc (.cells #[.pointer (some ⟨db, 0, none⟩), .int .i64 (-1), .slice none 0 0, .int .i64 0] TSg)).setCell ⟨w.heap.size + 1, 0, none⟩ (.pointer (some ⟨w2.heap.size + 1, 0, none⟩))).alloc (.cells #[.int .i64 0] 3)).cell? ⟨w2.heap.size, 0, none⟩ = some (.slice A D.all.length c) := ((((Blk.new w2 TBs #[.slice A D.all.length c]).alloc _).far (p := ⟨w.heap.size + 1, 0, none⟩) (by show _ ≠ _; simp; omega) _).alloc _).cell 0 rfl)
    | (refine ⟨trivial, ?_⟩; gi_at_call 178; refine (callsIn_wide.2 (all_B _ _ _ _)).mono ?_; rintro e w3 ⟨rfl, rfl⟩))
  have hI0 : ScanI w w2.heap.size db A D.all c due 0 (((((w2.alloc (.cells #[.slice A D.all.length c] TBs)).alloc (.cells #[.pointer (some ⟨db, 0, none⟩), .int .i64 (-1), .slice none 0 0, .int .i64 0] TSg)).setCell ⟨w.heap.size + 1, 0, none⟩ (.pointer (some ⟨w2.heap.size + 1, 0, none⟩))).alloc (.cells #[.int .i64 0] 3)).alloc (.cells #[.slice A D.all.length c] TBs)) := by
    have p1 : Blk ((w2.alloc (.cells #[.slice A D.all.length c] TBs)).alloc (.cells #[.pointer (some ⟨db, 0, none⟩), .int .i64 (-1), .slice none 0 0, .int .i64 0] TSg)) (w2.heap.size + 1) TSg #[.pointer (some ⟨db, 0, none⟩), .int .i64 (-1), .slice none 0 0, .int .i64 0] := Blk.new' _ _ _ (by simp)
    have hn1 : w2.heap.size ≠ w.heap.size + 1 := by omega
    refine ⟨?_, hs2, ?_, ?_, ?_, ?_, ?_, ?_, [], 0, -1, [], .slice none 0 0, [], rfl, .start, ?_, ?_, Row.nil _ _ _, Recs.nil _, rfl, rfl⟩
    · refine ((((bel2.alloc bel2.size _).alloc (by simp; omega) _).setCell (p := ⟨w.heap.size + 1, 0, none⟩) (by simp) _).alloc ?_ _).alloc ?_ _
      · simp [World.setCell]; omega
      · simp [World.setCell]; omega
    · have f1 : Fr (fun x => x = w.heap.size + 1) w2 (((((w2.alloc (.cells #[.slice A D.all.length c] TBs)).alloc (.cells #[.pointer (some ⟨db, 0, none⟩), .int .i64 (-1), .slice none 0 0, .int .i64 0] TSg)).setCell ⟨w.heap.size + 1, 0, none⟩ (.pointer (some ⟨w2.heap.size + 1, 0, none⟩))).alloc (.cells #[.int .i64 0] 3)).alloc (.cells #[.slice A D.all.length c] TBs)) := (((((Fr.refl (fun x => x = w.heap.size + 1) w2).alloc _).alloc _).setCell (p := ⟨w.heap.size + 1, 0, none⟩) (.inl rfl) (by
        have : Blk ((w2.alloc (.cells #[.slice A D.all.length c] TBs)).alloc (.cells #[.pointer (some ⟨db, 0, none⟩), .int .i64 (-1), .slice none 0 0, .int .i64 0] TSg)) (w.heap.size + 1) TPs #[.pointer none] := (y1.alloc _).alloc _
        exact fun hb => y1.notB (by decide) hb) _).alloc _).alloc _
      exact (ho2.mono (fun _ _ => trivial)).fr f1
    · exact (((((y0.alloc _).alloc _).far (p := ⟨w.heap.size + 1, 0, none⟩) (by show _ ≠ _; simp) _).alloc _).alloc _)
    · exact (((((y1.alloc _).alloc _).set 0 _).alloc _).alloc _)
    · exact (((((y2.alloc _).alloc _).far (p := ⟨w.heap.size + 1, 0, none⟩) (by show _ ≠ _; simp) _).alloc _).alloc _)
    · exact (((((Blk.new w2 TBs #[.slice A D.all.length c]).alloc _).far (p := ⟨w.heap.size + 1, 0, none⟩) (by show _ ≠ _; simp; omega) _).alloc _).alloc _)
    · exact Blk.new' _ _ _ (by simp [World.setCell])
    · exact (Blk.new' _ _ _ (by simp [World.setCell])).alloc _
    · exact ((p1.far (p := ⟨w.heap.size + 1, 0, none⟩) (by show _ ≠ _; simp; omega) _).alloc _).alloc _
  have hsz8 : (((((w2.alloc (.cells #[.slice A D.all.length c] TBs)).alloc (.cells #[.pointer (some ⟨db, 0, none⟩), .int .i64 (-1), .slice none 0 0, .int .i64 0] TSg)).setCell ⟨w.heap.size + 1, 0, none⟩ (.pointer (some ⟨w2.heap.size + 1, 0, none⟩))).alloc (.cells #[.int .i64 0] 3)).alloc (.cells #[.slice A D.all.length c] TBs)).heap.size = w2.heap.size + 4 := by simp [World.setCell]
  have hw3 : w.heap.size ≤ w2.heap.size + 4 := by omega
  rw [← hsz8] at hw3
  clear j1 j1f j6 z0 z1 z2 y0 y1 y2 hsz1 bel1 hsz8
  generalize (((((w2.alloc (.cells #[.slice A D.all.length c] TBs)).alloc (.cells #[.pointer (some ⟨db, 0, none⟩), .int .i64 (-1), .slice none 0 0, .int .i64 0] TSg)).setCell ⟨w.heap.size + 1, 0, none⟩ (.pointer (some ⟨w2.heap.size + 1, 0, none⟩))).alloc (.cells #[.int .i64 0] 3)).alloc (.cells #[.slice A D.all.length c] TBs)) = w3 at *
  have hneed : ∀ k W, ScanI w w2.heap.size db A D.all c due k W → AllNeeds (w2.heap.size + 1 + 1 + 1) A c D.all W := fun k W h => ⟨hh.below h.bel hh.lt, h.bx.cell 0 rfl, h.own.rd _⟩
  refine wp_rangeFunc_G (n := 8) (Gv := AllGvO D.all) (I := ScanI w w2.heap.size db A D.all c due) (S := AllS D.all) rfl (enters_of Tryz.func188 (by kernel_rfl) rfl) (all_iteratesO (w2.heap.size + 1 + 1 + 1) A c D.all hc2 hm2 _ hneed w3)
    (fun k v W h => by obtain ⟨_, _, _, _, _, _, _, rfl, _⟩ := h; rfl) (fun v => GvO_own D.all v _) (ScanX w D due) ?hI1 ?hI2 hI0
    (fun v => { tmps := #[.pointer (some ⟨db, 0, none⟩), .int .i64 due, undef, .pointer (some ⟨w.heap.size, 0, none⟩), .pointer (some ⟨w.heap.size + 1, 0, none⟩), .pointer (some ⟨w.heap.size + 1 + 1, 0, none⟩), .pointer (some ⟨w2.heap.size, 0, none⟩), .int .i64 0, .pointer (some ⟨w2.heap.size + 1 + 1, 0, none⟩), v.getD 0 undef, v.getD 1 undef, undef, undef, undef, .tuple #[.slice A D.all.length c, .int .i64 0], .pointer (some ⟨db, 0, none⟩), .tuple #[.slice A D.all.length c, .int .i64 0], .slice A D.all.length c, .int .i64 0, .pointer (some ⟨db, 0, none⟩), .agg #[.pointer (some ⟨db, 0, none⟩), .int .i64 (-1), .slice none 0 0, .int .i64 0], .pointer (some ⟨w2.heap.size + 1, 0, none⟩), .slice A D.all.length c, .func (.func 188) #[] #[.pointer (some ⟨w2.heap.size + 1 + 1 + 1, 0, none⟩)], v.getD 0 undef, v.getD 1 undef, undef, undef, undef, undef, undef, undef, undef, undef, undef, undef, undef, undef, undef, undef, undef, undef, undef, undef, undef, undef, undef, undef, undef, undef, undef, undef, undef, undef, undef, undef, undef, undef, undef, undef, undef, undef, undef, undef, undef, undef, undef, undef, undef, undef, undef, undef, undef, undef, undef, undef, undef, undef, undef, undef, undef, undef, undef, undef, undef, undef, undef, undef, undef, undef, undef, undef, undef], defers := [] }) ?assign ?body ?done ?stop
  case hI1 =>
    intro k W W' row hs hg hr
    exact ScanI.own_ w _ _ _ _ _ _ k W W' row hs hg (fun r e => ⟨Nat.le_trans hw3 (hr r e).1, (hr r e).2⟩)
  case hI2 =>
    intro cd k W W' row hs hg hr
    exact ScanX.own_ w D due cd k W W' row hs hg (fun r e => ⟨Nat.le_trans hw3 (hr r e).1, (hr r e).2⟩)
  case assign =>
    rintro l k v W K ⟨at_, body, en, A', c', h1, h2, rfl, h4⟩ hK
    gi_wp2
    exact hK
  case body =>
    rintro l k v W hI ⟨at_, body, en, A', c', h1, h2, rfl, h4, h5, h6⟩
    have hB := hI.bel
    have hmm := hI.hm
    have hOw := hI.own
    obtain ⟨bs, at1, base, recs, rv, vals, hlen, hgot, i8, ip, irow, irec, ist⟩ := hI.ex
    obtain ⟨i0, i1, i2, i6, ix⟩ : Blk W w.heap.size 3 #[.int .i64 due] ∧ Blk W (w.heap.size + 1) TPs #[ptr (w2.heap.size + 1)] ∧ Blk W (w.heap.size + 1 + 1) 4 #[.bool false] ∧ Blk W w2.heap.size TBs #[.slice A D.all.length c] ∧ Blk W (w2.heap.size + 1 + 1 + 1) TBs #[.slice A D.all.length c] := ⟨hI.b0, hI.b1, hI.b2, hI.b6, hI.bx⟩
    have hpos := hgot.pos
    rw [hlen] at hpos
    obtain rfl := h1.det hpos
    have hgot2 := hgot.step h2
    have hnx := next_B W (hh.below hB hh.lt) A D.all c D.all.length (hOw.rd _) rfl hc2 hm2 (at_ : Int)
    have g6 := i6.cell 0 rfl
    clear hI hpos
    have hno := next_ok h2
    simp only at hno
    have hGO := Lib.hid hno
    clear hno
    have key : ∀ W2, Below W.heap.size W W2 → ∃ W3, W2.setCell ⟨w2.heap.size + 1 + 1, 0, none⟩ (.int .i64 (en : Int)) = W3 ∧ Below w.heap.size w W3 ∧ W.heap.size ≤ W3.heap.size ∧ Fr (fun x => x = w2.heap.size + 1 + 1) W W3 ∧ KeepsFrom w3.heap.size W W3 ∧ Blk W3 w.heap.size 3 #[.int .i64 due] ∧ Blk W3 (w.heap.size + 1) TPs #[ptr (w2.heap.size + 1)] ∧ Blk W3 (w.heap.size + 1 + 1) 4 #[.bool false] ∧ Blk W3 w2.heap.size TBs #[.slice A D.all.length c] ∧ Blk W3 (w2.heap.size + 1 + 1 + 1) TBs #[.slice A D.all.length c] ∧ Blk W3 (w2.heap.size + 1 + 1) 3 #[.int .i64 (en : Int)] ∧
        Blk W3 (w2.heap.size + 1) TSg #[ptr db, .int .i64 base, rv, .int .i64 0] ∧ Row (fun x => w2.heap.size + 3 < x) W3 TBs rv vals ∧ Recs W3 vals recs := by
      intro W2 hb2
      have f0 : Fr (fun x => x = w2.heap.size + 1 + 1) W (W2.setCell ⟨w2.heap.size + 1 + 1, 0, none⟩ (.int .i64 (en : Int))) := Fr.setCell (S := fun x => x = w2.heap.size + 1 + 1) (Fr.of_below hb2) (p := ⟨w2.heap.size + 1 + 1, 0, none⟩) (.inl rfl) (i8.notB (by decide)) _
      refine ⟨_, rfl, ?_, f0.size, f0, (KeepsFrom.below hb2).trans ((KeepsOthers.setCell _ _ _).from _), i0.fr f0 (by omega), i1.fr f0 (by omega), i2.fr f0 (by omega), i6.fr f0 (by omega), ix.fr f0 (by omega), (i8.below' hb2).set 0 _, ip.fr f0 (by omega), irow.fr f0 (fun x hx e => by omega), irec.fr f0⟩
      · exact ((hB.trans (hb2.mono hB.size)).setCell (p := ⟨w2.heap.size + 1 + 1, 0, none⟩) (by show _ ≤ w2.heap.size + 1 + 1; omega) _)
    have hvrec := irec.1
    clear irow irec
    cases bs with
    | nil =>
      obtain ⟨hbase, hrecs⟩ := ist
      subst hbase hrecs
      obtain rfl : at_ = 0 := hgot.zero rfl
      have HN := Lib.hid h2
      have hbl : body.length ≤ maxLen := by have := hGO.out; unfold maxLen; omega
      obtain ⟨tl, htl⟩ := framesOf_first (b := D.all) h2
      have HT := Lib.hid htl
      clear h2 htl h1 hgot
      unfold maxLen at hbl
      cases hr : readNum body with
      | error r =>
        have HX := Lib.hid (scan_bad (D := D) (due := due) HT.out (fun n hn => by rw [hr] at hn; cases hn))
        have hr0 := readNum_err hr
        have hr1 : (r == 0) = false := by rw [beq_eq_false_iff_ne]; exact hr0
        have HR := Lib.hid hr
        clear hr
        gi_wp2_with (first
          | (refine ⟨trivial, ?_⟩; gi_at_call 158; refine (CallsIn.inRound l (callsIn_wide.2 hnx)).mono ?_; intro e W2 hd; unfold NextDid at hd; rw [HN.out] at hd; obtain ⟨A2, c2', rfl, ho2', hc2', hm2', hb2⟩ := hd; have k8 := (i8.below' hb2).cell 0 (v := .int .i64 (0 : Int)) rfl; have k8f := (i8.below' hb2).frozen 0; obtain ⟨_, rfl, q1, q2, q3, q4, v0, v1, v2, v6, vx, v8, vp, vrow, vrec⟩ := key W2 hb2; have e0 := v0.cell 0 (v := .int .i64 due) rfl; have e1 := v1.cell 0 (v := .pointer (some ⟨w2.heap.size + 1, 0, none⟩)) rfl; have e1f := v1.frozen 0; have e2 := v2.cell 0 (v := .bool false) rfl; have e2f := v2.frozen 0; have e4 := vp.cell 1 rfl; have e4f := vp.frozen 1)
          | (refine ⟨trivial, ?_⟩; gi_at_call 160; refine (CallsIn.inRound l (callsIn_wide.2 (ReadNum_B (W2.setCell ⟨w2.heap.size + 1 + 1, 0, none⟩ (.int .i64 (en : Int))) A' c' body ((h4.fr q3).rd _) (by omega)))).mono ?_; unfold ReadDid; rw [HR.out]; rintro e W4 ⟨rfl, rfl⟩))
        exact ⟨q4.trans (((KeepsOthers.setCell _ _ _).from _).trans ((KeepsOthers.setCell _ _ _).from _)), rfl, (q1.setCell (p := ⟨w.heap.size + 1, 0, none⟩) (by show _ ≤ w.heap.size + 1; omega) _).setCell (p := ⟨w.heap.size + 1 + 1, 0, none⟩) (by show _ ≤ w.heap.size + 1 + 1; omega) _, (v1.set 0 _).far (p := ⟨w.heap.size + 1 + 1, 0, none⟩) (by show w.heap.size + 1 ≠ w.heap.size + 1 + 1; omega) _, (v2.far (p := ⟨w.heap.size + 1, 0, none⟩) (by show w.heap.size + 1 + 1 ≠ w.heap.size + 1; omega) _).set 0 _, HX.out⟩
      | ok q =>
        obtain ⟨n, sz⟩ := q
        by_cases hsz : sz = body.length
        · subst hsz
          by_cases hdue : due < 0 ∨ (n : Int) = due
          · have hbb : (body.length : Int) = (body.length : Int) := rfl
            rcases Int.lt_or_le due 0 with hneg | hpos
            · have hneg' : ¬ 0 ≤ due := by omega
              have HR := Lib.hid hr
              clear hr
              gi_wp2_with (first
                | (refine ⟨trivial, ?_⟩; gi_at_call 158; refine (CallsIn.inRound l (callsIn_wide.2 hnx)).mono ?_; intro e W2 hd; unfold NextDid at hd; rw [HN.out] at hd; obtain ⟨A2, c2', rfl, ho2', hc2', hm2', hb2⟩ := hd; have k8 := (i8.below' hb2).cell 0 (v := .int .i64 (0 : Int)) rfl; have k8f := (i8.below' hb2).frozen 0; obtain ⟨_, rfl, q1, q2, q3, q4, v0, v1, v2, v6, vx, v8, vp, vrow, vrec⟩ := key W2 hb2; have e0 := v0.cell 0 (v := .int .i64 due) rfl; have e1 := v1.cell 0 (v := .pointer (some ⟨w2.heap.size + 1, 0, none⟩)) rfl; have e1f := v1.frozen 0; have e2 := v2.cell 0 (v := .bool false) rfl; have e2f := v2.frozen 0; have e4 := vp.cell 1 rfl; have e4f := vp.frozen 1)
                | (refine ⟨trivial, ?_⟩; gi_at_call 160; refine (CallsIn.inRound l (callsIn_wide.2 (ReadNum_B (W2.setCell ⟨w2.heap.size + 1 + 1, 0, none⟩ (.int .i64 (en : Int))) A' c' body ((h4.fr q3).rd _) (by omega)))).mono ?_; unfold ReadDid; rw [HR.out]; rintro e W4 ⟨rfl, rfl⟩))
              have f4 : Fr (fun x => x = w2.heap.size + 1) (W2.setCell ⟨w2.heap.size + 1 + 1, 0, none⟩ (.int .i64 (en : Int))) ((W2.setCell ⟨w2.heap.size + 1 + 1, 0, none⟩ (.int .i64 (en : Int))).setCell ⟨w2.heap.size + 1, 1, none⟩ (.int .i64 (n : Int))) := Fr.setCell (S := fun x => x = w2.heap.size + 1) (Fr.refl _ _) (p := ⟨w2.heap.size + 1, 1, none⟩) (.inl rfl) (vp.notB (by decide)) _
              refine ⟨q4.trans ((KeepsOthers.setCell _ _ _).from _), ⟨q1.setCell (p := ⟨w2.heap.size + 1, 1, none⟩) (by show _ ≤ w2.heap.size + 1; omega) _, hmm, (hOw.fr q3).fr f4, v0.fr f4 (by omega), v1.fr f4 (by omega), v2.fr f4 (by omega), v6.fr f4 (by omega), vx.fr f4 (by omega), [body], en, (n : Int), [], rv, vals, (by rw [← hlen]; rfl), hgot2, v8.fr f4 (by omega), vp.set 1 _, vrow.fr f4 (fun x hx e => by omega), vrec.fr f4, rfl, n, HR.out, rfl, hdue⟩⟩
            · have heq : ((n : Int) == due) = true := by rw [beq_iff_eq]; omega
              have HR := Lib.hid hr
              clear hr
              gi_wp2_with (first
                | (refine ⟨trivial, ?_⟩; gi_at_call 158; refine (CallsIn.inRound l (callsIn_wide.2 hnx)).mono ?_; intro e W2 hd; unfold NextDid at hd; rw [HN.out] at hd; obtain ⟨A2, c2', rfl, ho2', hc2', hm2', hb2⟩ := hd; have k8 := (i8.below' hb2).cell 0 (v := .int .i64 (0 : Int)) rfl; have k8f := (i8.below' hb2).frozen 0; obtain ⟨_, rfl, q1, q2, q3, q4, v0, v1, v2, v6, vx, v8, vp, vrow, vrec⟩ := key W2 hb2; have e0 := v0.cell 0 (v := .int .i64 due) rfl; have e1 := v1.cell 0 (v := .pointer (some ⟨w2.heap.size + 1, 0, none⟩)) rfl; have e1f := v1.frozen 0; have e2 := v2.cell 0 (v := .bool false) rfl; have e2f := v2.frozen 0; have e4 := vp.cell 1 rfl; have e4f := vp.frozen 1)
                | (refine ⟨trivial, ?_⟩; gi_at_call 160; refine (CallsIn.inRound l (callsIn_wide.2 (ReadNum_B (W2.setCell ⟨w2.heap.size + 1 + 1, 0, none⟩ (.int .i64 (en : Int))) A' c' body ((h4.fr q3).rd _) (by omega)))).mono ?_; unfold ReadDid; rw [HR.out]; rintro e W4 ⟨rfl, rfl⟩))
              have f4 : Fr (fun x => x = w2.heap.size + 1) (W2.setCell ⟨w2.heap.size + 1 + 1, 0, none⟩ (.int .i64 (en : Int))) ((W2.setCell ⟨w2.heap.size + 1 + 1, 0, none⟩ (.int .i64 (en : Int))).setCell ⟨w2.heap.size + 1, 1, none⟩ (.int .i64 (n : Int))) := Fr.setCell (S := fun x => x = w2.heap.size + 1) (Fr.refl _ _) (p := ⟨w2.heap.size + 1, 1, none⟩) (.inl rfl) (vp.notB (by decide)) _
              refine ⟨q4.trans ((KeepsOthers.setCell _ _ _).from _), ⟨q1.setCell (p := ⟨w2.heap.size + 1, 1, none⟩) (by show _ ≤ w2.heap.size + 1; omega) _, hmm, (hOw.fr q3).fr f4, v0.fr f4 (by omega), v1.fr f4 (by omega), v2.fr f4 (by omega), v6.fr f4 (by omega), vx.fr f4 (by omega), [body], en, (n : Int), [], rv, vals, (by rw [← hlen]; rfl), hgot2, v8.fr f4 (by omega), vp.set 1 _, vrow.fr f4 (fun x hx e => by omega), vrec.fr f4, rfl, n, HR.out, rfl, hdue⟩⟩
          · have HX := Lib.hid (scan_bad (D := D) (due := due) HT.out (fun n' hn => by rw [hr] at hn; injection hn with hn; injection hn with hn; subst hn; exact hdue))
            have hge : 0 ≤ due := by omega
            have heq : ((n : Int) == due) = false := by rw [beq_eq_false_iff_ne]; omega
            clear hdue
            have HR := Lib.hid hr
            clear hr
            gi_wp2_with (first
              | (refine ⟨trivial, ?_⟩; gi_at_call 158; refine (CallsIn.inRound l (callsIn_wide.2 hnx)).mono ?_; intro e W2 hd; unfold NextDid at hd; rw [HN.out] at hd; obtain ⟨A2, c2', rfl, ho2', hc2', hm2', hb2⟩ := hd; have k8 := (i8.below' hb2).cell 0 (v := .int .i64 (0 : Int)) rfl; have k8f := (i8.below' hb2).frozen 0; obtain ⟨_, rfl, q1, q2, q3, q4, v0, v1, v2, v6, vx, v8, vp, vrow, vrec⟩ := key W2 hb2; have e0 := v0.cell 0 (v := .int .i64 due) rfl; have e1 := v1.cell 0 (v := .pointer (some ⟨w2.heap.size + 1, 0, none⟩)) rfl; have e1f := v1.frozen 0; have e2 := v2.cell 0 (v := .bool false) rfl; have e2f := v2.frozen 0; have e4 := vp.cell 1 rfl; have e4f := vp.frozen 1)
              | (refine ⟨trivial, ?_⟩; gi_at_call 160; refine (CallsIn.inRound l (callsIn_wide.2 (ReadNum_B (W2.setCell ⟨w2.heap.size + 1 + 1, 0, none⟩ (.int .i64 (en : Int))) A' c' body ((h4.fr q3).rd _) (by omega)))).mono ?_; unfold ReadDid; rw [HR.out]; rintro e W4 ⟨rfl, rfl⟩))
            exact ⟨q4.trans (((KeepsOthers.setCell _ _ _).from _).trans ((KeepsOthers.setCell _ _ _).from _)), rfl, (q1.setCell (p := ⟨w.heap.size + 1, 0, none⟩) (by show _ ≤ w.heap.size + 1; omega) _).setCell (p := ⟨w.heap.size + 1 + 1, 0, none⟩) (by show _ ≤ w.heap.size + 1 + 1; omega) _, (v1.set 0 _).far (p := ⟨w.heap.size + 1 + 1, 0, none⟩) (by show w.heap.size + 1 ≠ w.heap.size + 1 + 1; omega) _, (v2.far (p := ⟨w.heap.size + 1, 0, none⟩) (by show w.heap.size + 1 + 1 ≠ w.heap.size + 1; omega) _).set 0 _, HX.out⟩
        · have HX := Lib.hid (scan_bad (D := D) (due := due) HT.out (fun n' hn => by rw [hr] at hn; injection hn with hn; injection hn with _ hn; exact (hsz hn).elim))
          have heq : ((sz : Int) == (body.length : Int)) = false := by rw [beq_eq_false_iff_ne]; omega
          clear hsz
          have HR := Lib.hid hr
          clear hr
          gi_wp2_with (first
            | (refine ⟨trivial, ?_⟩; gi_at_call 158; refine (CallsIn.inRound l (callsIn_wide.2 hnx)).mono ?_; intro e W2 hd; unfold NextDid at hd; rw [HN.out] at hd; obtain ⟨A2, c2', rfl, ho2', hc2', hm2', hb2⟩ := hd; have k8 := (i8.below' hb2).cell 0 (v := .int .i64 (0 : Int)) rfl; have k8f := (i8.below' hb2).frozen 0; obtain ⟨_, rfl, q1, q2, q3, q4, v0, v1, v2, v6, vx, v8, vp, vrow, vrec⟩ := key W2 hb2; have e0 := v0.cell 0 (v := .int .i64 due) rfl; have e1 := v1.cell 0 (v := .pointer (some ⟨w2.heap.size + 1, 0, none⟩)) rfl; have e1f := v1.frozen 0; have e2 := v2.cell 0 (v := .bool false) rfl; have e2f := v2.frozen 0; have e4 := vp.cell 1 rfl; have e4f := vp.frozen 1)
            | (refine ⟨trivial, ?_⟩; gi_at_call 160; refine (CallsIn.inRound l (callsIn_wide.2 (ReadNum_B (W2.setCell ⟨w2.heap.size + 1 + 1, 0, none⟩ (.int .i64 (en : Int))) A' c' body ((h4.fr q3).rd _) (by omega)))).mono ?_; unfold ReadDid; rw [HR.out]; rintro e W4 ⟨rfl, rfl⟩))
          all_goals first
            | (exact ⟨q4.trans (((KeepsOthers.setCell _ _ _).from _).trans ((KeepsOthers.setCell _ _ _).from _)), rfl, (q1.setCell (p := ⟨w.heap.size + 1, 0, none⟩) (by show _ ≤ w.heap.size + 1; omega) _).setCell (p := ⟨w.heap.size + 1 + 1, 0, none⟩) (by show _ ≤ w.heap.size + 1 + 1; omega) _, (v1.set 0 _).far (p := ⟨w.heap.size + 1 + 1, 0, none⟩) (by show w.heap.size + 1 ≠ w.heap.size + 1 + 1; omega) _, (v2.far (p := ⟨w.heap.size + 1, 0, none⟩) (by show w.heap.size + 1 + 1 ≠ w.heap.size + 1; omega) _).set 0 _, HX.out⟩)
            | (exfalso; rw [beq_eq_false_iff_ne] at heq; omega)
    | cons hd t =>
      obtain ⟨hrecs, n0, hn0, hbase, hdue⟩ := ist
      obtain ⟨hl1, hl2, -⟩ := hgot.le
      rw [List.length_cons] at hl1 hlen
      have hpos : (0 : Int) < (at_ : Int) := by omega
      have hDl := hd0.lt2
      have hvl : vals.length ≤ 349525 := by rw [hvrec, hrecs]; omega
      have HN := Lib.hid h2
      clear h2 h1 hgot hl1 hvrec
      gi_wp2_with (refine ⟨trivial, ?_⟩; gi_at_call 158; refine (CallsIn.inRound l (callsIn_wide.2 hnx)).mono ?_; intro e W2 hd'; unfold NextDid at hd'; rw [HN.out] at hd'; obtain ⟨A2, c2', rfl, ho2', hc2', hm2', hb2⟩ := hd'; have k8 := (i8.below' hb2).cell 0 (v := .int .i64 (at_ : Int)) rfl; have k8f := (i8.below' hb2).frozen 0; obtain ⟨_, rfl, q1, q2, q3, q4, v0, v1, v2, v6, vx, v8, vp, vrow, vrec⟩ := key W2 hb2)
      generalize W2.setCell ⟨w2.heap.size + 1 + 1, 0, none⟩ (.int .i64 (en : Int)) = W3 at *
      obtain ⟨R, cr, rfl, -⟩ := vrow.val
      have e1 := v1.cell 0 (v := .pointer (some ⟨w2.heap.size + 1, 0, none⟩)) rfl
      have e2 := vp.cell 2 (v := .slice R vals.length cr) rfl
      have hlt3 : w2.heap.size + 1 + 1 + 1 < W3.heap.size := vx.lt
      refine wpIn_region_T #[[], [], [1], [1], [1], [], [], [1, 4], [0, 1, 4], [0, 1, 4], [0, 1, 4]] [0, 1, 4] (fun w' => w'.cell? ⟨w.heap.size + 1, 0, none⟩ = some (.pointer (some ⟨w2.heap.size + 1, 0, none⟩)) ∧ w'.cell? ⟨w2.heap.size + 1, 2, none⟩ = some (.slice R vals.length cr)) 11 rfl (by kernel_rfl) (by kernel_rfl) (by rintro ⟨_, _, h_⟩; exact h_.elim) ?_
      (refine wpAnyT_read (i := 0) rfl (by kernel_rfl) rfl (fun _ _ _ h => h) (by kernel_rfl) (⟨e1, e2⟩) (fun w hS_ => by obtain ⟨s_1, s_2⟩ := hS_; go_simp; try rfl) ?_; (try simp only [Act.put, sA, sB, sC]))
      (refine wpAnyT_read (i := 1) rfl (by kernel_rfl) rfl (fun _ _ _ h => h) (by kernel_rfl) (⟨e1, e2⟩) (fun w hS_ => by obtain ⟨s_1, s_2⟩ := hS_; go_simp; try rfl) ?_; (try simp only [Act.put, sA, sB, sC]))
      (refine wpF (i := 2) rfl (by kernel_rfl) rfl (fun _ _ _ h => h) (fun _ => by go_simp; try rfl) ?_; (try simp only [Act.put, sA, sB, sC]))
      (refine wpF (i := 3) rfl (by kernel_rfl) rfl (fun _ _ _ h => h) (fun _ => by go_simp; try rfl) ?_; (try simp only [Act.put, sA, sB, sC]))
      (refine wpAnyT_read (i := 4) rfl (by kernel_rfl) rfl (fun _ _ _ h => h) (by kernel_rfl) (⟨e1, e2⟩) (fun w hS_ => by obtain ⟨s_1, s_2⟩ := hS_; go_simp; try rfl) ?_; (try simp only [Act.put, sA, sB, sC]))
      (refine wpF (i := 5) rfl (by kernel_rfl) rfl (fun _ _ _ h => h) (fun _ => by go_simp; try rfl) ?_; (try simp only [Act.put, sA, sB, sC]))
      refine wpAnyT_one (i := 6) rfl (by kernel_rfl) rfl ?_
      intro K_ hK_
      go_wp2
      refine hK_ _ _ ?_ ?_
      · exact fun _ _ => ⟨((below_new _ _).cell (p := ⟨w.heap.size + 1, 0, none⟩) (cell_lt e1)).trans e1, ((below_new _ _).cell (p := ⟨w2.heap.size + 1, 2, none⟩) (cell_lt e2)).trans e2⟩
      clear hK_ K_
      (try simp only [Act.put, sA, sB, sC])
      refine wpAnyT_one (i := 7) rfl (by kernel_rfl) rfl ?_
      intro K_ hK_
      refine oper_append_row (.tmp 39) (.tmp 41) 70 rfl TBs ib _ 24 Tryz.underlying70 hib hzb hsb hbb rfl (.slice R vals.length cr) vals rfl (Row.below (w := W3) vrow (below_new _ _).drew) ⟨W3.heap.size, 0, none⟩ (.slice A' body.length c') rfl (heap_new_cell _ _ _) rfl (by unfold maxLen; omega) (by omega) (by decide) ?_; intro v5 w5 hrow5 hf5 hoth5; obtain ⟨A5, c5, rfl, hc5, hm5⟩ := hrow5.val; rw [List.length_append, List.length_singleton] at hrow5 hc5 ⊢; have hk5 : ∀ j, j ≤ w2.heap.size + 3 → j < W3.heap.size → w5.heap[j]? = W3.heap[j]? := fun j hj hlt => (hoth5 j (Nat.lt_of_lt_of_le hlt (below_new W3 (.cells #[.slice A' body.length c'] TBs)).drew.size) ((Row.below (w := W3) vrow (below_new W3 (.cells #[.slice A' body.length c'] TBs)).drew).ownGt hj)).trans ((below_new W3 (.cells #[.slice A' body.length c'] TBs)).drew.block j hlt); have e15 := (v1.eq (hk5 _ (by omega) v1.lt)).cell 0 (v := .pointer (some ⟨w2.heap.size + 1, 0, none⟩)) rfl; have vp5 := vp.eq (hk5 _ (by omega) vp.lt); have e25 := vp5.cell 2 (v := .slice R vals.length cr) rfl; have e25f := vp5.frozen 2
      refine hK_ _ _ ?_ ?_
      · exact fun _ _ => ⟨e15, e25⟩
      clear hK_ K_
      (try simp only [Act.put, sA, sB, sC])
      (refine wpF (i := 8) rfl (by kernel_rfl) rfl (fun _ _ _ h => h) (fun _ => by go_simp; try rfl) ?_; (try simp only [Act.put, sA, sB, sC]))
      (refine wpF (i := 9) rfl (by kernel_rfl) rfl (fun _ _ _ h => h) (fun _ => by go_simp; try rfl) ?_; (try simp only [Act.put, sA, sB, sC]))
      refine wpAnyT_sink (i := 10) rfl (by kernel_rfl) rfl (by kernel_rfl) ?_
      intro K_ hK_
      go_wp2
      (try (refine hK_ _ _ ?_; clear hK_ K_))
      (try simp only [Act.put, sA, sB, sC])
      refine wpAnyT_done (by kernel_rfl) ?_ _
      gi_wp2
      have hbn := (below_new W3 (.cells #[.slice A' body.length c'] TBs)).drew
      have hb45 : Below w.heap.size (W3.alloc (.cells #[.slice A' body.length c'] TBs)).drew w5 := ⟨hf5.os, hf5.tape, hf5.output, hf5.size, fun b hb => hf5.out b (Nat.lt_of_lt_of_le hb (Nat.le_trans q1.size hbn.size)) (fun hx => by have hx : w2.heap.size + 3 < b := hx; omega)⟩
      have f6 : Fr (fun x => x = w2.heap.size + 1) w5 (w5.setCell ⟨w2.heap.size + 1, 2, none⟩ (.slice A5 (vals.length + 1) c5)) := Fr.setCell (S := fun x => x = w2.heap.size + 1) (Fr.refl _ _) (p := ⟨w2.heap.size + 1, 2, none⟩) (.inl rfl) (vp5.notB (by decide)) _
      have b6 : Below w.heap.size W3 w5 := (hbn.mono q1.size).trans hb45
      have hrow6 : Row (fun x => w2.heap.size + 3 < x) w5 TBs (.slice A5 (vals.length + 1) c5) (vals ++ [.slice A' body.length c']) := hrow5.mono fun x _ hx => hx.elim id (fun hx => by have := Nat.le_trans hbn.size hx.1; show w2.heap.size + 3 < x; omega)
      have g : ∀ {j : Nat} {ty : TypeId} {cs : Array Value}, Blk W3 j ty cs → j ≤ w2.heap.size + 3 → j ≠ w2.heap.size + 1 → Blk (w5.setCell ⟨w2.heap.size + 1, 2, none⟩ (.slice A5 (vals.length + 1) c5)) j ty cs := fun hb hj hne => (hb.eq (hk5 _ hj hb.lt)).fr f6 hne
      refine ⟨?_, ⟨(q1.trans b6).setCell (p := ⟨w2.heap.size + 1, 2, none⟩) (by show _ ≤ w2.heap.size + 1; omega) _, hmm, (((hOw.fr q3).fr (S' := Non) (Fr.of_below hbn)).fr hf5).fr f6, g v0 (by omega) (by omega), g v1 (by omega) (by omega), g v2 (by omega) (by omega), g v6 (by omega) (by omega), g vx (by omega) (by omega), (hd :: t) ++ [body], en, base, recs ++ [body], (.slice A5 (vals.length + 1) c5), _, by simp; omega, hgot2, g v8 (by omega) (by omega), vp5.set 2 _, hrow6.otherBlk vp5 (by decide) f6, (((vrec.fr (S' := Non) (Fr.of_below hbn)).fr hf5).snoc h5 h6 ((((h4.mono (fun _ _ => trivial)).fr q3).fr (S' := Non) (Fr.of_below hbn)).fr hf5)).fr f6, (by rw [hrecs]; rfl), n0, hn0, hbase, hdue⟩⟩
      exact ((q4.trans (((KeepsOthers.alloc W3 (.cells #[.slice A' body.length c'] TBs)).trans (KeepsOthers.drew _)).from _)).trans (KeepsFrom.of_fr hf5.size fun k o hk hc => hoth5 k (Array.getElem?_eq_some_iff.1 hk).1 ((Row.below (w := W3) vrow (below_new W3 (.cells #[.slice A' body.length c'] TBs)).drew).ownCells hk hc))).trans ((KeepsOthers.setCell _ _ _).from _)
  case done =>
    rintro D' k W hD ⟨at_, r, hp, hn'⟩ hI hK
    have hB := hI.bel
    have hmm := hI.hm
    obtain ⟨bs, at1, base, recs, rv, vals, hlen, hgot, i8, ip, irow, irec, ist⟩ := hI.ex
    obtain ⟨i0, i1, i2, i6, ix⟩ : Blk W w.heap.size 3 #[.int .i64 due] ∧ Blk W (w.heap.size + 1) TPs #[ptr (w2.heap.size + 1)] ∧ Blk W (w.heap.size + 1 + 1) 4 #[.bool false] ∧ Blk W w2.heap.size TBs #[.slice A D.all.length c] ∧ Blk W (w2.heap.size + 1 + 1 + 1) TBs #[.slice A D.all.length c] := ⟨hI.b0, hI.b1, hI.b2, hI.b6, hI.bx⟩
    have hpos := hgot.pos
    rw [hlen] at hpos
    obtain rfl := hp.det hpos
    have hfo := hgot.all hn'
    have hle := hgot.le
    have hS : ∀ x, S x → x < w.heap.size := hd0.lt
    have hDw : w.heap.size ≤ D' := Nat.le_trans hw3 hD
    clear hI hpos hp hn' hgot hI0 hneed
    have e1 := i1.cell 0 (v := .pointer (some ⟨w2.heap.size + 1, 0, none⟩)) rfl
    have e1f := i1.frozen 0
    have e2 := i2.cell 0 (v := .bool false) rfl
    have e2f := i2.frozen 0
    cases bs with
    | nil =>
      obtain ⟨hbase, hrecs⟩ := ist
      subst hbase hrecs
      have HX := Lib.hid (scan_none (D := D) (due := due) (by rw [hfo]))
      have e4 := ip.cell 1 (v := .int .i64 (-1)) rfl
      clear hfo hle hlen
      gi_wp2
      have hK2 := (((KeepsOthers.setCell W ⟨w.heap.size + 1, 0, none⟩ (.pointer none)).trans (KeepsOthers.setCell _ ⟨w.heap.size + 1 + 1, 0, none⟩ (.bool false)))).same D' _ hK rfl
      refine ⟨by simp, .inl ⟨_, _, rfl, run_takeDeferred hK2, ?_⟩⟩
      refine scan_ret (v := .pointer none) (x := false) rfl rfl hK2 ((i1.set 0 _).far (p := ⟨w.heap.size + 1 + 1, 0, none⟩) (by show w.heap.size + 1 ≠ w.heap.size + 1 + 1; omega) _) ((i2.far (p := ⟨w.heap.size + 1, 0, none⟩) (by show w.heap.size + 1 + 1 ≠ w.heap.size + 1; omega) _).set 0 _) (fun ck => ⟨?_, ?_⟩)
      · exact (((Fr.of_below hB).setCell (p := ⟨w.heap.size + 1, 0, none⟩) (.inr (by show _ ≤ w.heap.size + 1; omega)) (notB_new (by show _ ≤ w.heap.size + 1; omega)) _).setCell (p := ⟨w.heap.size + 1 + 1, 0, none⟩) (.inr (by show _ ≤ w.heap.size + 1 + 1; omega)) (notB_new (by show _ ≤ w.heap.size + 1 + 1; omega)) _).putObj hDw
      · rw [HX.out]
        exact ⟨rfl, (((Fr.of_below hB).setCell (p := ⟨w.heap.size + 1, 0, none⟩) (.inr (by show _ ≤ w.heap.size + 1; omega)) (notB_new (by show _ ≤ w.heap.size + 1; omega)) _).setCell (p := ⟨w.heap.size + 1 + 1, 0, none⟩) (.inr (by show _ ≤ w.heap.size + 1 + 1; omega)) (notB_new (by show _ ≤ w.heap.size + 1 + 1; omega)) _).putObj hDw⟩
    | cons hd t =>
      obtain ⟨hrecs, n0, hn0, hbase, hdue⟩ := ist
      subst hbase hrecs
      have HX := Lib.hid (scan_some (D := D) hfo hn0 hdue)
      obtain ⟨R, cr, rfl, -⟩ := irow.val
      have hvl : vals.length = recs.length := irec.1
      have hDl := hd0.lt2
      have e4 := ip.cell 1 (v := .int .i64 (n0 : Int)) rfl
      have hn0' : ¬ (n0 : Int) < 0 := by omega
      have e8 := i8.cell 0 (v := .int .i64 (at_ : Int)) rfl
      clear hfo hlen hdue hn0
      gi_wp2_with (refine ⟨trivial, ?_⟩; gi_at_call 179; refine (callsIn_wide.2 (cut_B (hd0.below hB) (at_ : Int))).mono ?_; rintro e W2 ⟨rfl, hd2, hf2⟩)
      have g2 : ∀ {j : Nat} {ty : TypeId} {cs : Array Value}, Blk W j ty cs → w.heap.size ≤ j → Blk W2 j ty cs := fun hb hj => hb.fr hf2 (fun hs => by have := hS _ hs; omega)
      have u1 := g2 i1 (by omega)
      have u2 := g2 i2 (by omega)
      have u6 := g2 i6 (by omega)
      have u8 := g2 i8 (by omega)
      have up := g2 ip (by omega)
      have hDW := (Array.getElem?_eq_some_iff.1 hK).1
      have hK2 : W2.heap[D']? = some (.deferred (some [])) := (hf2.out D' hDW (fun hs => by have := hS _ hs; omega)).trans hK
      have irow2 : Row (fun x => w2.heap.size + 3 < x ∧ x < W.heap.size) W2 TBs (.slice R vals.length cr) vals := (irow.mono (S' := fun x => w2.heap.size + 3 < x ∧ x < W.heap.size) (fun x hl hx => ⟨hx, hl⟩)).fr hf2 (fun x hx hs => by have := hS x hs; omega)
      have irec2 := irec.fr hf2
      have hpW := ip.lt
      have l1 := u1.cell 0 (v := .pointer (some ⟨w2.heap.size + 1, 0, none⟩)) rfl
      have l2 := up.cell 2 (v := .slice R vals.length cr) rfl
      have l3 := up.cell 3 (v := .int .i64 0) rfl
      have l3f := up.frozen 3
      clear e1 e1f e2 e2f e4 e8 i0 i1 i2 i6 ix i8 ip irow irec g2
      refine wpIn_mono (wpIn_wide.2 ?_) NoPanic.of
      refine wp_region_T #[[], [], [1], [1], [1], [1, 4], [0, 1, 4], [0, 1, 4], [0, 1, 4]] [0, 1, 4] (fun w' => w'.cell? ⟨w.heap.size + 1, 0, none⟩ = some (.pointer (some ⟨w2.heap.size + 1, 0, none⟩)) ∧ w'.cell? ⟨w2.heap.size + 1, 2, none⟩ = some (.slice R vals.length cr)) 9 rfl (by kernel_rfl) ?_
      (refine wpAnyT_read (i := 0) rfl (by kernel_rfl) rfl (fun _ _ _ h => h) (by kernel_rfl) (⟨l1, l2⟩) (fun w hS_ => by obtain ⟨s_1, s_2⟩ := hS_; go_simp; try rfl) ?_; (try simp only [Act.put, sA, sB, sC]))
      (refine wpAnyT_read (i := 1) rfl (by kernel_rfl) rfl (fun _ _ _ h => h) (by kernel_rfl) (⟨l1, l2⟩) (fun w hS_ => by obtain ⟨s_1, s_2⟩ := hS_; go_simp; try rfl) ?_; (try simp only [Act.put, sA, sB, sC]))
      (refine wpF (i := 2) rfl (by kernel_rfl) rfl (fun _ _ _ h => h) (fun _ => by go_simp; try rfl) ?_; (try simp only [Act.put, sA, sB, sC]))
      (refine wpF (i := 3) rfl (by kernel_rfl) rfl (fun _ _ _ h => h) (fun _ => by go_simp; try rfl) ?_; (try simp only [Act.put, sA, sB, sC]))
      (refine wpAnyT_read (i := 4) rfl (by kernel_rfl) rfl (fun _ _ _ h => h) (by kernel_rfl) (⟨l1, l2⟩) (fun w hS_ => by obtain ⟨s_1, s_2⟩ := hS_; go_simp; try rfl) ?_; (try simp only [Act.put, sA, sB, sC]))
      (refine wpF (i := 5) rfl (by kernel_rfl) rfl (fun _ _ _ h => h) (fun _ => by go_simp; try rfl) ?_; (try simp only [Act.put, sA, sB, sC]))
      (refine wpF (i := 6) rfl (by kernel_rfl) rfl (fun _ _ _ h => h) (fun _ => by go_simp; try rfl) ?_; (try simp only [Act.put, sA, sB, sC]))
      (refine wpF (i := 7) rfl (by kernel_rfl) rfl (fun _ _ _ h => h) (fun _ => by go_simp; try rfl) ?_; (try simp only [Act.put, sA, sB, sC]))
      refine wpAnyT_sink (i := 8) rfl (by kernel_rfl) rfl (by kernel_rfl) ?_
      intro K_ hK_
      go_wp2
      (try (refine hK_ _ _ ?_; clear hK_ K_))
      (try simp only [Act.put, sA, sB, sC])
      refine wpAnyT_done (by kernel_rfl) ?_ _
      simp only [NoPanic]
      gi_wp2
      have f3 : Fr (fun x => x = w2.heap.size + 1) W2 (W2.setCell ⟨w2.heap.size + 1, 3, none⟩ (.int .i64 (recs.length : Int))).drew := (Fr.setCell (S := fun x => x = w2.heap.size + 1) (Fr.refl _ _) (p := ⟨w2.heap.size + 1, 3, none⟩) (.inl rfl) (up.notB (by decide)) _).drew
      have v1 := u1.fr f3 (by omega)
      have v2 := u2.fr f3 (by omega)
      have v6 := u6.fr f3 (by omega)
      have v8 := u8.fr f3 (by omega)
      have vp : Blk (W2.setCell ⟨w2.heap.size + 1, 3, none⟩ (.int .i64 (recs.length : Int))).drew (w2.heap.size + 1) TSg #[ptr db, .int .i64 (n0 : Int), .slice R vals.length cr, .int .i64 (recs.length : Int)] := (up.set 3 _).drew
      have hK3 : (W2.setCell ⟨w2.heap.size + 1, 3, none⟩ (.int .i64 (recs.length : Int))).drew.heap[D']? = some (.deferred (some [])) := (KeepsOthers.setCell W2 ⟨w2.heap.size + 1, 3, none⟩ (.int .i64 (recs.length : Int))).same D' _ hK2 rfl
      have hd3 : IsDisk (Up S W W2) (W2.setCell ⟨w2.heap.size + 1, 3, none⟩ (.int .i64 (recs.length : Int))).drew (ptr db) (D.cut at_).1 := hd2.fr f3 (fun x hx e => by
        rcases hx with hx | hx
        · have := hS x hx; omega
        · have := hx.1; omega)
      have row3 := irow2.fr f3 (fun x hx e => by have := hx.1; omega)
      have rec3 := irec2.fr f3
      have hf3 : Fr S w (W2.setCell ⟨w2.heap.size + 1, 3, none⟩ (.int .i64 (recs.length : Int))).drew := ((Fr.of_below hB).trans' hf2 (fun x _ hx => hx)).trans' f3 (fun x hx e => by omega)
      have hs3 : W2.heap.size ≤ (W2.setCell ⟨w2.heap.size + 1, 3, none⟩ (.int .i64 (recs.length : Int))).drew.heap.size := f3.size
      generalize (W2.setCell ⟨w2.heap.size + 1, 3, none⟩ (.int .i64 (recs.length : Int))).drew = W3 at *
      have a1 := v1.cell 0 (v := .pointer (some ⟨w2.heap.size + 1, 0, none⟩)) rfl
      have a1f := v1.frozen 0
      have a2 := v2.cell 0 (v := .bool false) rfl
      have a2f := v2.frozen 0
      have a6 := v6.cell 0 (v := .slice A D.all.length c) rfl
      have a8 := v8.cell 0 (v := .int .i64 (at_ : Int)) rfl
      clear l1 l2 l3 l3f u1 u2 u6 u8 up irow2 irec2 hvl hle hd2
      by_cases hend : at_ = D.all.length
      all_goals
        have hEnd := Lib.hid hend
      · have heq : ((at_ : Int) == (D.all.length : Int)) = true := by rw [beq_iff_eq]; omega
        clear hend
        refine wpIn_mono (wpIn_wide.2 ?_) NoPanic.of
        refine wp_region_T #[[], [], [], [2], [1, 2], [0], [0, 1, 2]] [0, 1, 2] (fun w' => w'.cell? ⟨w.heap.size + 1, 0, none⟩ = some (.pointer (some ⟨w2.heap.size + 1, 0, none⟩)) ∧ w'.cell? ⟨w2.heap.size + 1 + 1, 0, none⟩ = some (.int .i64 (at_ : Int)) ∧ w'.cell? ⟨w2.heap.size, 0, none⟩ = some (.slice A D.all.length c)) 7 rfl (by kernel_rfl) ?_
        (refine wpAnyT_read (i := 0) rfl (by kernel_rfl) rfl (fun _ _ _ h => h) (by kernel_rfl) (⟨a1, a8, a6⟩) (fun w hS_ => by obtain ⟨s_1, s_2, s_3⟩ := hS_; go_simp; try rfl) ?_; (try simp only [Act.put, sA, sB, sC]))
        (refine wpAnyT_read (i := 1) rfl (by kernel_rfl) rfl (fun _ _ _ h => h) (by kernel_rfl) (⟨a1, a8, a6⟩) (fun w hS_ => by obtain ⟨s_1, s_2, s_3⟩ := hS_; go_simp; try rfl) ?_; (try simp only [Act.put, sA, sB, sC]))
        (refine wpAnyT_read (i := 2) rfl (by kernel_rfl) rfl (fun _ _ _ h => h) (by kernel_rfl) (⟨a1, a8, a6⟩) (fun w hS_ => by obtain ⟨s_1, s_2, s_3⟩ := hS_; go_simp; try rfl) ?_; (try simp only [Act.put, sA, sB, sC]))
        (refine wpF (i := 3) rfl (by kernel_rfl) rfl (fun _ _ _ h => h) (fun _ => by go_simp; try rfl) ?_; (try simp only [Act.put, sA, sB, sC]))
        (refine wpF (i := 4) rfl (by kernel_rfl) rfl (fun _ _ _ h => h) (fun _ => by go_simp; try rfl) ?_; (try simp only [Act.put, sA, sB, sC]))
        refine wpAnyT_one (i := 5) rfl (by kernel_rfl) rfl ?_
        intro K_ hK_
        go_wp2
        refine hK_ _ _ ?_ ?_
        · exact fun _ _ => ⟨(v1.set 0 (.pointer (some ⟨w2.heap.size + 1, 0, none⟩))).cell 0 rfl, (v8.far (p := ⟨w.heap.size + 1, 0, none⟩) (by show w2.heap.size + 1 + 1 ≠ w.heap.size + 1; omega) _).cell 0 rfl, (v6.far (p := ⟨w.heap.size + 1, 0, none⟩) (by show w2.heap.size ≠ w.heap.size + 1; omega) _).cell 0 rfl⟩
        clear hK_ K_
        (try simp only [Act.put, sA, sB, sC])
        refine wpAnyT_sink (i := 6) rfl (by kernel_rfl) rfl (by kernel_rfl) ?_
        intro K_ hK_
        go_wp2
        (try (refine hK_ _ _ ?_; clear hK_ K_))
        (try simp only [Act.put, sA, sB, sC])
        refine wpAnyT_done (by kernel_rfl) ?_ _
        simp only [NoPanic]
        gi_wp2
        simp only [bodyPostM]
        have f5 : Fr (fun x => x = w.heap.size + 1 ∨ x = w.heap.size + 1 + 1) W3 ((W3.setCell ⟨w.heap.size + 1, 0, none⟩ (.pointer (some ⟨w2.heap.size + 1, 0, none⟩))).setCell ⟨w.heap.size + 1 + 1, 0, none⟩ (.bool true)).drew := ((Fr.setCell (S := fun x => x = w.heap.size + 1 ∨ x = w.heap.size + 1 + 1) (Fr.refl _ _) (p := ⟨w.heap.size + 1, 0, none⟩) (.inl (.inl rfl)) (v1.notB (by decide)) _).setCell (p := ⟨w.heap.size + 1 + 1, 0, none⟩) (.inl (.inr rfl)) (v2.notB (by decide)) _).drew
        have hK5 : ((W3.setCell ⟨w.heap.size + 1, 0, none⟩ (.pointer (some ⟨w2.heap.size + 1, 0, none⟩))).setCell ⟨w.heap.size + 1 + 1, 0, none⟩ (.bool true)).drew.heap[D']? = some (.deferred (some [])) := ((KeepsOthers.setCell W3 ⟨w.heap.size + 1, 0, none⟩ (.pointer (some ⟨w2.heap.size + 1, 0, none⟩))).trans (KeepsOthers.setCell _ ⟨w.heap.size + 1 + 1, 0, none⟩ (.bool true))).same D' _ hK3 rfl
        refine ⟨by simp, .inl ⟨_, _, rfl, run_takeDeferred hK5, ?_⟩⟩
        refine scan_ret (v := .pointer (some ⟨w2.heap.size + 1, 0, none⟩)) (x := true) rfl rfl hK5 (((v1.set 0 _).far (p := ⟨w.heap.size + 1 + 1, 0, none⟩) (by show w.heap.size + 1 ≠ w.heap.size + 1 + 1; omega) _).drew) (((v2.far (p := ⟨w.heap.size + 1, 0, none⟩) (by show w.heap.size + 1 + 1 ≠ w.heap.size + 1; omega) _).set 0 _).drew) (fun ck => ⟨?_, ?_⟩)
        · exact (hf3.trans' f5 (fun x hx e => by omega)).putObj hDw
        · rw [HX.out]
          obtain ⟨db', A9, c9, e9, hd9⟩ := hd3
          injection e9 with e9
          injection e9 with e9
          injection e9 with e9
          subst e9
          refine ⟨w2.heap.size + 1, by simp only [hEnd.out]; simp; rfl, SegAt.ck ?_ ck⟩
          have hsz5 := f5.size
          refine ⟨⟨Up S W W2, fun x => x = w2.heap.size + 1 ∨ (w2.heap.size + 3 < x ∧ x < W.heap.size), db, A9, c9, _, vals, fun x hx => ?_, fun x hx => ?_, fun x hx hy => ?_, .inl rfl, vp.fr f5 (by omega), hd9.fr f5 (fun x hx e => ?_), (row3.fr f5 (fun x hx e => by have := hx.1; omega)).mono (fun x _ hx => .inr hx), rec3.fr f5⟩, fun x hx => ?_⟩
          · rcases hx with hx | hx
            · exact .inl hx
            · exact .inr ⟨Nat.le_trans hB.size hx.1, Nat.lt_of_lt_of_le hx.2 (Nat.le_trans hs3 (Nat.le_trans hsz5 ck.1))⟩
          · have hlt : x < W.heap.size := by omega
            exact .inr ⟨by omega, Nat.lt_of_lt_of_le (Nat.lt_of_lt_of_le hlt hf2.size) (Nat.le_trans hs3 (Nat.le_trans hsz5 ck.1))⟩
          · exfalso
            rcases hx with hx | hx
            · have := hS x hx; omega
            · have := hx.1; omega
          · rcases hx with hx | hx
            · have := hS x hx; omega
            · have := hx.1; omega
          · exact hx.elim (fun hx => Nat.lt_of_lt_of_le (hS x hx) (Nat.le_trans hf3.size hsz5)) (fun hx => by have h2 := hx.2; simpa [World.putObj] using h2)
      · have heq : ((at_ : Int) == (D.all.length : Int)) = false := by rw [beq_eq_false_iff_ne]; omega
        clear hend
        refine wpIn_mono (wpIn_wide.2 ?_) NoPanic.of
        refine wp_region_T #[[], [], [], [2], [1, 2], [0], [0, 1, 2]] [0, 1, 2] (fun w' => w'.cell? ⟨w.heap.size + 1, 0, none⟩ = some (.pointer (some ⟨w2.heap.size + 1, 0, none⟩)) ∧ w'.cell? ⟨w2.heap.size + 1 + 1, 0, none⟩ = some (.int .i64 (at_ : Int)) ∧ w'.cell? ⟨w2.heap.size, 0, none⟩ = some (.slice A D.all.length c)) 7 rfl (by kernel_rfl) ?_
        (refine wpAnyT_read (i := 0) rfl (by kernel_rfl) rfl (fun _ _ _ h => h) (by kernel_rfl) (⟨a1, a8, a6⟩) (fun w hS_ => by obtain ⟨s_1, s_2, s_3⟩ := hS_; go_simp; try rfl) ?_; (try simp only [Act.put, sA, sB, sC]))
        (refine wpAnyT_read (i := 1) rfl (by kernel_rfl) rfl (fun _ _ _ h => h) (by kernel_rfl) (⟨a1, a8, a6⟩) (fun w hS_ => by obtain ⟨s_1, s_2, s_3⟩ := hS_; go_simp; try rfl) ?_; (try simp only [Act.put, sA, sB, sC]))
        (refine wpAnyT_read (i := 2) rfl (by kernel_rfl) rfl (fun _ _ _ h => h) (by kernel_rfl) (⟨a1, a8, a6⟩) (fun w hS_ => by obtain ⟨s_1, s_2, s_3⟩ := hS_; go_simp; try rfl) ?_; (try simp only [Act.put, sA, sB, sC]))
        (refine wpF (i := 3) rfl (by kernel_rfl) rfl (fun _ _ _ h => h) (fun _ => by go_simp; try rfl) ?_; (try simp only [Act.put, sA, sB, sC]))
        (refine wpF (i := 4) rfl (by kernel_rfl) rfl (fun _ _ _ h => h) (fun _ => by go_simp; try rfl) ?_; (try simp only [Act.put, sA, sB, sC]))
        refine wpAnyT_one (i := 5) rfl (by kernel_rfl) rfl ?_
        intro K_ hK_
        go_wp2
        refine hK_ _ _ ?_ ?_
        · exact fun _ _ => ⟨(v1.set 0 (.pointer (some ⟨w2.heap.size + 1, 0, none⟩))).cell 0 rfl, (v8.far (p := ⟨w.heap.size + 1, 0, none⟩) (by show w2.heap.size + 1 + 1 ≠ w.heap.size + 1; omega) _).cell 0 rfl, (v6.far (p := ⟨w.heap.size + 1, 0, none⟩) (by show w2.heap.size ≠ w.heap.size + 1; omega) _).cell 0 rfl⟩
        clear hK_ K_
        (try simp only [Act.put, sA, sB, sC])
        refine wpAnyT_sink (i := 6) rfl (by kernel_rfl) rfl (by kernel_rfl) ?_
        intro K_ hK_
        go_wp2
        (try (refine hK_ _ _ ?_; clear hK_ K_))
        (try simp only [Act.put, sA, sB, sC])
        refine wpAnyT_done (by kernel_rfl) ?_ _
        simp only [NoPanic]
        gi_wp2
        simp only [bodyPostM]
        have f5 : Fr (fun x => x = w.heap.size + 1 ∨ x = w.heap.size + 1 + 1) W3 ((W3.setCell ⟨w.heap.size + 1, 0, none⟩ (.pointer (some ⟨w2.heap.size + 1, 0, none⟩))).setCell ⟨w.heap.size + 1 + 1, 0, none⟩ (.bool false)).drew := ((Fr.setCell (S := fun x => x = w.heap.size + 1 ∨ x = w.heap.size + 1 + 1) (Fr.refl _ _) (p := ⟨w.heap.size + 1, 0, none⟩) (.inl (.inl rfl)) (v1.notB (by decide)) _).setCell (p := ⟨w.heap.size + 1 + 1, 0, none⟩) (.inl (.inr rfl)) (v2.notB (by decide)) _).drew
        have hK5 : ((W3.setCell ⟨w.heap.size + 1, 0, none⟩ (.pointer (some ⟨w2.heap.size + 1, 0, none⟩))).setCell ⟨w.heap.size + 1 + 1, 0, none⟩ (.bool false)).drew.heap[D']? = some (.deferred (some [])) := ((KeepsOthers.setCell W3 ⟨w.heap.size + 1, 0, none⟩ (.pointer (some ⟨w2.heap.size + 1, 0, none⟩))).trans (KeepsOthers.setCell _ ⟨w.heap.size + 1 + 1, 0, none⟩ (.bool false))).same D' _ hK3 rfl
        refine ⟨by simp, .inl ⟨_, _, rfl, run_takeDeferred hK5, ?_⟩⟩
        refine scan_ret (v := .pointer (some ⟨w2.heap.size + 1, 0, none⟩)) (x := false) rfl rfl hK5 (((v1.set 0 _).far (p := ⟨w.heap.size + 1 + 1, 0, none⟩) (by show w.heap.size + 1 ≠ w.heap.size + 1 + 1; omega) _).drew) (((v2.far (p := ⟨w.heap.size + 1, 0, none⟩) (by show w.heap.size + 1 + 1 ≠ w.heap.size + 1; omega) _).set 0 _).drew) (fun ck => ⟨?_, ?_⟩)
        · exact (hf3.trans' f5 (fun x hx e => by omega)).putObj hDw
        · rw [HX.out]
          obtain ⟨db', A9, c9, e9, hd9⟩ := hd3
          injection e9 with e9
          injection e9 with e9
          injection e9 with e9
          subst e9
          refine ⟨w2.heap.size + 1, by simp only [hEnd.out]; simp; rfl, SegAt.ck ?_ ck⟩
          have hsz5 := f5.size
          refine ⟨⟨Up S W W2, fun x => x = w2.heap.size + 1 ∨ (w2.heap.size + 3 < x ∧ x < W.heap.size), db, A9, c9, _, vals, fun x hx => ?_, fun x hx => ?_, fun x hx hy => ?_, .inl rfl, vp.fr f5 (by omega), hd9.fr f5 (fun x hx e => ?_), (row3.fr f5 (fun x hx e => by have := hx.1; omega)).mono (fun x _ hx => .inr hx), rec3.fr f5⟩, fun x hx => ?_⟩
          · rcases hx with hx | hx
            · exact .inl hx
            · exact .inr ⟨Nat.le_trans hB.size hx.1, Nat.lt_of_lt_of_le hx.2 (Nat.le_trans hs3 (Nat.le_trans hsz5 ck.1))⟩
          · have hlt : x < W.heap.size := by omega
            exact .inr ⟨by omega, Nat.lt_of_lt_of_le (Nat.lt_of_lt_of_le hlt hf2.size) (Nat.le_trans hs3 (Nat.le_trans hsz5 ck.1))⟩
          · exfalso
            rcases hx with hx | hx
            · have := hS x hx; omega
            · have := hx.1; omega
          · rcases hx with hx | hx
            · have := hS x hx; omega
            · have := hx.1; omega
          · exact hx.elim (fun hx => Nat.lt_of_lt_of_le (hS x hx) (Nat.le_trans hf3.size hsz5)) (fun hx => by have h2 := hx.2; simpa [World.putObj] using h2)
  case stop =>
    rintro D' cd k W hD ⟨rfl, hB, b1, b2, hnone⟩ hK
    have HX := Lib.hid hnone
    clear hnone
    have hDw : w.heap.size ≤ D' := Nat.le_trans hw3 hD
    gi_wp2
    refine ⟨by simp, .inl ⟨_, _, rfl, run_takeDeferred hK, ?_⟩⟩
    refine scan_ret (v := .pointer none) (x := false) rfl rfl hK b1 b2 (fun ck => ⟨(Fr.of_below hB).putObj hDw, ?_⟩)
    rw [HX.out]
    exact ⟨rfl, (Fr.of_below hB).putObj hDw⟩
end Go.Proofs.YtediidajdpdeiaaGreatDoor
