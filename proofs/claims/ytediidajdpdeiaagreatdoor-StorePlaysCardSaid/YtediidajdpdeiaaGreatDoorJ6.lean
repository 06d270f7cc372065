/- The log's Append (layer 7): the walk. -/
import Derived.Test.YtediidajdpdeiaaGreatDoorJ5

namespace Go.Proofs.YtediidajdpdeiaaGreatDoor
open Go.RowKit CrcM
set_option maxRecDepth 100000
variable [Hole]

omit [Hole] in
theorem info_bs : (Tryz.prog.info? TBs).map (fun i => (i.zero, i.size, i.bytes)) = some (some (.slice none 0 0), 1, 24) := by kernel_rfl
omit [Hole] in
theorem info_ps : (Tryz.prog.info? TPs).map (fun i => (i.zero, i.size, i.bytes)) = some (some (.pointer none), 1, 8) := by kernel_rfl
omit [Hole] in
theorem heap_new_cell (w : World) (v : Value) (t : TypeId) : (w.alloc (.cells #[v] t)).cell? ⟨w.heap.size, 0, none⟩ = some v := (Blk.new w t #[v]).cell 0 rfl
omit [Hole] in
theorem getLast_at {α : Type} (l : List α) : l.getLast? = l[l.length - 1]? := List.getLast?_eq_getElem?
omit [Hole] in
theorem dropLast_set {α : Type} {l : List α} {x : α} (y : α) (h : l[l.length - 1]? = some x) : l.dropLast ++ [y] = l.set (l.length - 1) y := by
  have hlt := (List.getElem?_eq_some_iff.1 h).1
  rw [List.dropLast_eq_take]
  have : l.set (l.length - 1) y = l.take (l.length - 1) ++ [y] := by
    rw [List.set_eq_take_append_cons_drop, if_pos hlt, List.drop_of_length_le (by omega)]
  exact this.symm

omit [Hole] in
theorem Lg.append_eq {per : Nat} {gs : List Sg} {rec : List UInt8} (hr : rec.length ≤ 65536) (hf : ¬ ((⟨per, gs, false⟩ : Lg).full = true ∧ gs.length = 256)) {rm : List Sg} (hrm : (⟨per, gs, false⟩ : Lg).room = rm) {g : Sg} (hg : rm[rm.length - 1]? = some g) :
    Lg.append ⟨per, gs, false⟩ rec = if (g.d.append (frame rec)).2 = 0 then (⟨per, rm.set (rm.length - 1) ⟨(g.d.append (frame rec)).1, g.base, g.recs ++ [rec], g.safe⟩, false⟩, g.base + g.recs.length, 0)
      else (⟨per, rm, false⟩, 0, (g.d.append (frame rec)).2) := by
  unfold Lg.append
  simp only [Bool.false_eq_true, if_false]
  rw [if_neg (by omega), if_neg hf, hrm, getLast_at, hg]
  simp only
  rw [dropLast_set _ hg]

omit [Hole] in
theorem Dk.append_no {D : Dk} {l : List UInt8} (h : (D.append l).2 ≠ 0) : (D.append l).1 = D := by
  unfold Dk.append at *
  split at h
  · simp [*]
  · split at h
    · simp [*]
    · exact (h rfl).elim
omit [Hole] in
theorem set_same {α : Type} {l : List α} {k : Nat} {x : α} (h : l[k]? = some x) : l.set k x = l := by
  apply List.ext_getElem?
  intro i
  rw [List.getElem?_set]
  split
  · rename_i hi
    subst hi
    rw [if_pos (List.getElem?_eq_some_iff.1 h).1, h]
  · rfl

/-- what Append leaves -/
def AppDid (S : Nat → Prop) (w : World) (p : Value) (r : Lg × Nat × Int) (e : Ending) (w' : World) : Prop :=
  e = .returned (.tuple #[.int .i64 (r.2.1 : Int), .int .i64 r.2.2]) ∧ IsLog (Up S w w') w' p r.1 ∧ Fr S w w'

omit [Hole] in
theorem Sg.up_add {g : Sg} (h : g.up) (rec : List UInt8) : (⟨(g.d.append (frame rec)).1, g.base, g.recs ++ [rec], g.safe⟩ : Sg).up ∨ (g.d.append (frame rec)).2 ≠ 0 := by
  obtain ⟨d, base, recs, safe⟩ := g
  obtain ⟨h1, h2⟩ := h
  simp only at h1 h2
  unfold Dk.append
  rw [h1]
  simp only [Bool.false_eq_true, if_false]
  split
  · right
    show (7 : Int) ≠ 0
    omega
  · left
    refine ⟨rfl, ?_⟩
    simp only [List.length_append, List.length_singleton, length_frame]
    omega

omit [Hole] in
theorem headB_22 {base : Nat} (h : base ≤ 4611686018427387904) : (headB base).length ≤ 22 := by
  have h10 : (numB base).length ≤ 10 := numB_10 (by omega)
  unfold headB
  rw [length_frame]
  omega
omit [Hole] in
theorem Dk.new_head {base : Nat} (h : base ≤ 4611686018427387904) : (Dk.new.append (headB base)).1 = ⟨false, headB base, 0⟩ := by
  have hl := headB_22 h
  unfold Dk.append Dk.new
  simp only [Bool.false_eq_true, if_false, List.length_nil, Nat.zero_add, List.nil_append]
  rw [if_neg (by omega)]
omit [Hole] in
theorem Sg.new_is (base : Nat) (h : base ≤ 4611686018427387904) : Sg.new base = ⟨⟨false, headB base, 0⟩, base, [], 0⟩ := by
  unfold Sg.new
  rw [Dk.new_head h]

/-- a new segment, laid in blocks of its own -/
theorem SegAt.fresh {W w : World} {p db : Nat} {base : Nat} {Sd : Nat → Prop} {A : Option Addr} {c : Nat} {d : Dk} (hb : Blk w p TSg #[.pointer (some ⟨db, 0, none⟩), .int .i64 (base : Int), .slice none 0 0, .int .i64 0])
    (hd : DiskAt Sd w db A c d) (hS : ∀ x, Sd x → W.heap.size ≤ x) (hp : W.heap.size ≤ p) (hne : ¬ Sd p) : SegAt (Nw W w) w p ⟨d, base, [], 0⟩ :=
  ⟨⟨Sd, fun x => x = p, db, A, c, .slice none 0 0, [], fun x hx => ⟨hS x hx, hd.lt x hx⟩, fun x hx => by subst hx; exact ⟨hp, hb.lt⟩, fun x hx e => by subst e; exact (hne hx).elim, rfl, hb, hd, Row.nil _ _ _, Recs.nil _⟩, fun x hx => hx.2⟩

/-- what a log is where the record's frame has been put on the segment's disk -/
def AppMid (S : Nat → Prop) (w w3 : World) (b p : Nat) (rec : List UInt8) (per : Nat) (gs : List Sg) : Prop :=
  ∃ (S3 H3 : Nat → Prop) (A3 : Option Addr) (c3 : Nat) (ps3 : List Nat) (gs3 : List Sg) (d3 : Dk) (base : Nat) (recs : List (List UInt8)) (safe k : Nat), LogO S3 H3 w3 b A3 c3 ps3 ⟨per, gs3, false⟩ ∧ ps3[k]? = some p ∧ gs3[k]? = some ⟨d3, base, recs, safe⟩ ∧ (∀ x, S3 x → Up S w w3 x) ∧ Fr S w w3 ∧ recs.length < 349525 ∧ base ≤ 4611686018427387904 ∧
    Hid (Lg.append ⟨per, gs, false⟩ rec = (⟨per, gs3.set k ⟨d3, base, recs ++ [rec], safe⟩, false⟩, base + recs.length, 0)) ∧ ∀ g ∈ gs3.set k ⟨d3, base, recs ++ [rec], safe⟩, g.up

section
variable {S H : Nat → Prop} {w : World} {b : Nat} {A : Option Addr} {c : Nat} {ps : List Nat} {L : Lg}

theorem LogO.upL {w1 w2 : World} {H' : Nat → Prop} {L' : Lg} {A' : Option Addr} {c' : Nat} {ps' : List Nat} (h : LogO (Up S w1 w2) H' w2 b A' c' ps' L') (h1 : w.heap.size ≤ w1.heap.size) (h2 : w1.heap.size ≤ w2.heap.size) (hl : ∀ x, S x → x < w.heap.size) : LogO (Up S w w2) H' w2 b A' c' ps' L' :=
  h.mono (fun _ hx => hx.imp_right (fun k => ⟨Nat.le_trans h1 k.1, k.2⟩)) (Up.lt hl (Nat.le_trans h1 h2))

set_option maxHeartbeats 1000000 in
theorem appendL (h : LogO S H w b A c ps L) (hu : L.up) (hh : HalfAt w) (hlen : L.len ≤ 4611686018427387904) (B : Option Addr) (rec : List UInt8) (cb : Nat) (hr : Rd S w B rec) (hrl : rec.length ≤ 70368744177664) :
    Calls Tryz.prog 55 #[.pointer (some ⟨b, 0, none⟩), .slice B rec.length cb] w (AppDid S w (.pointer (some ⟨b, 0, none⟩)) (L.append rec)) := by
  obtain ⟨ib, hib, hzb, hsb, hbb⟩ := info_parts info_bs
  obtain ⟨ip, hip, hzp, hsp, hbp⟩ := info_parts info_ps
  obtain ⟨per, gs, dn⟩ := L
  have hF := frame_B w hh B rec cb rec.length (hr.mono (fun _ _ h => h.elim)) rfl (by unfold maxLen; omega)
  cases dn
  · by_cases hlong : rec.length ≤ 65536
    · simp only [if_pos hlong] at hF
      have hgl : ps.length = gs.length := h.segs.len
      by_cases hfull : (⟨per, gs, false⟩ : Lg).full = true
      · by_cases h256 : gs.length = 256
        · have heq : Lg.append ⟨per, gs, false⟩ rec = (⟨per, gs, false⟩, 0, 7) := by
            unfold Lg.append
            simp only [Bool.false_eq_true, if_false]
            rw [if_neg (by omega), if_pos ⟨hfull, h256⟩]
          obtain ⟨g, hg⟩ : ∃ g, gs[gs.length - 1]? = some g := ⟨_, List.getElem?_eq_getElem (show gs.length - 1 < gs.length by omega)⟩
          have hnp : g.recs.length = per := by
            have h1 := hfull
            unfold Lg.full at h1
            simp only at h1
            rw [getLast_at, hg] at h1
            simpa using h1
          obtain ⟨p, hp, -⟩ := h.segs.facts (k := gs.length - 1) (d := g.d) (base := g.base) (recs := g.recs) (safe := g.safe) hg
          have el : lastV ps = .pointer (some ⟨p, 0, none⟩) := by
            unfold lastV; rw [List.getLast?_eq_getElem?, hgl, hp]
          obtain ⟨d, base, recs, safe⟩ := g
          have k1 : ((recs.length : Int) == (per : Int)) = true := by rw [beq_iff_eq]; simp only at hnp; omega
          have k2 : ((ps.length : Int) == 256) = true := by rw [beq_iff_eq]; omega
          have HE := Lib.hid heq
          have HG := Lib.hid hgl
          have EL := Lib.hid el
          clear heq hgl hfull el h256 hnp
          go_enter Tryz.func55, Tryz.ntmps55
          go_wp2_with (first
            | (go_at_call 106; refine (askedL h).mono ?_; rintro e w' ⟨rfl, rfl⟩)
            | (go_at_call 60; refine hF.mono ?_; rintro e w1 ⟨A1, c1, rfl, ho1, hc1, hm1, hb1⟩; have hl1 := lastL (h.below hb1); rw [EL.out] at hl1; clear hF)
            | (go_at_call 78; refine hl1.mono ?_; rintro e w2 ⟨rfl, hb2⟩))
          have hb12 : Below w.heap.size w w2.drew := (hb1.trans (hb2.mono hb1.size)).drew
          have h2 : LogO S H w2.drew b A c ps ⟨per, gs, false⟩ := h.below hb12
          have h2' : LogO S H w2 b A c ps ⟨per, gs, false⟩ := h.below (hb1.trans (hb2.mono hb1.size))
          obtain ⟨c0, c1', -, -, -, -, -, -, -, -⟩ := h2'.facts
          obtain ⟨p', hp', db', R', cr', s0', s1', s2', s3', y2', y3'⟩ := h2'.segs.facts hg
          rw [hp] at hp'
          injection hp' with hp'
          subst hp'
          refine wp_region_T #[[], [], [], [], [], [], [], [6], [], [], [], [], [6, 11], [6, 11]] [6, 11] (fun w' => w'.cell? ⟨p, 2, none⟩ = some (.slice R' recs.length cr') ∧ w'.cell? ⟨b, 0, none⟩ = some (.int .i64 (per : Int))) 14 rfl (by kernel_rfl) ?_
          (refine wpF (i := 0) rfl (by kernel_rfl) rfl (fun _ _ _ h => h) (fun _ => by go_simp; try rfl) ?_; (try simp only [Act.put, sA, sB, sC]))
          (refine wpF (i := 1) rfl (by kernel_rfl) rfl (fun _ _ _ h => h) (fun _ => by go_simp; try rfl) ?_; (try simp only [Act.put, sA, sB, sC]))
          (refine wpF (i := 2) rfl (by kernel_rfl) rfl (fun _ _ _ h => h) (fun _ => by go_simp; try rfl) ?_; (try simp only [Act.put, sA, sB, sC]))
          first
          | (refine wpAnyT_skip (i := 3) rfl (by kernel_rfl) (by first | rfl | (simp [Region.wanted, yielded]; done) | (simp [Region.wanted, yielded, undef, *]; done) | fail) (fun _ _ _ h => h) (fun h_ => absurd h_ (by decide)) ?_; (try simp only [Act.put, sA, sB, sC]))
          | (refine wpF (i := 3) rfl (by kernel_rfl) (by first | rfl | (simp [Region.wanted, yielded]; done) | (simp [Region.wanted, yielded, undef, *]; done) | fail) (fun _ _ _ h => h) (fun _ => by go_simp; try rfl) ?_; (try simp only [Act.put, sA, sB, sC]))
          first
          | (refine wpAnyT_skip (i := 4) rfl (by kernel_rfl) (by first | rfl | (simp [Region.wanted, yielded]; done) | (simp [Region.wanted, yielded, undef, *]; done) | fail) (fun _ _ _ h => h) (fun h_ => absurd h_ (by decide)) ?_; (try simp only [Act.put, sA, sB, sC]))
          | (refine wpF (i := 4) rfl (by kernel_rfl) (by first | rfl | (simp [Region.wanted, yielded]; done) | (simp [Region.wanted, yielded, undef, *]; done) | fail) (fun _ _ _ h => h) (fun _ => by go_simp; try rfl) ?_; (try simp only [Act.put, sA, sB, sC]))
          first
          | (refine wpAnyT_skip (i := 5) rfl (by kernel_rfl) (by first | rfl | (simp [Region.wanted, yielded]; done) | (simp [Region.wanted, yielded, undef, *]; done) | fail) (fun _ _ _ h => h) (fun h_ => absurd h_ (by decide)) ?_; (try simp only [Act.put, sA, sB, sC]))
          | (refine wpF (i := 5) rfl (by kernel_rfl) (by first | rfl | (simp [Region.wanted, yielded]; done) | (simp [Region.wanted, yielded, undef, *]; done) | fail) (fun _ _ _ h => h) (fun _ => by go_simp; try rfl) ?_; (try simp only [Act.put, sA, sB, sC]))
          first
          | (refine wpAnyT_skip (i := 6) rfl (by kernel_rfl) (by first | rfl | (simp [Region.wanted, yielded]; done) | (simp [Region.wanted, yielded, undef, *]; done) | fail) (fun _ _ _ h => h) (fun _ => ⟨s2', c0⟩) ?_; (try simp only [Act.put, sA, sB, sC]))
          | (refine wpAnyT_read (i := 6) rfl (by kernel_rfl) (by first | rfl | (simp [Region.wanted, yielded]; done) | (simp [Region.wanted, yielded, undef, *]; done) | fail) (fun _ _ _ h => h) (by kernel_rfl) (⟨s2', c0⟩) (fun w hS_ => by obtain ⟨s_1, s_2⟩ := hS_; go_simp; try rfl) ?_; (try simp only [Act.put, sA, sB, sC]))
          first
          | (refine wpAnyT_skip (i := 7) rfl (by kernel_rfl) (by first | rfl | (simp [Region.wanted, yielded]; done) | (simp [Region.wanted, yielded, undef, *]; done) | fail) (fun _ _ _ h => h) (fun h_ => absurd h_ (by decide)) ?_; (try simp only [Act.put, sA, sB, sC]))
          | (refine wpF (i := 7) rfl (by kernel_rfl) (by first | rfl | (simp [Region.wanted, yielded]; done) | (simp [Region.wanted, yielded, undef, *]; done) | fail) (fun _ _ _ h => h) (fun _ => by go_simp; try rfl) ?_; (try simp only [Act.put, sA, sB, sC]))
          first
          | (refine wpAnyT_skip (i := 8) rfl (by kernel_rfl) (by first | rfl | (simp [Region.wanted, yielded]; done) | (simp [Region.wanted, yielded, undef, *]; done) | fail) (fun _ _ _ h => h) (fun h_ => absurd h_ (by decide)) ?_; (try simp only [Act.put, sA, sB, sC]))
          | (refine wpF (i := 8) rfl (by kernel_rfl) (by first | rfl | (simp [Region.wanted, yielded]; done) | (simp [Region.wanted, yielded, undef, *]; done) | fail) (fun _ _ _ h => h) (fun _ => by go_simp; try rfl) ?_; (try simp only [Act.put, sA, sB, sC]))
          first
          | (refine wpAnyT_skip (i := 9) rfl (by kernel_rfl) (by first | rfl | (simp [Region.wanted, yielded]; done) | (simp [Region.wanted, yielded, undef, *]; done) | fail) (fun _ _ _ h => h) (fun h_ => absurd h_ (by decide)) ?_; (try simp only [Act.put, sA, sB, sC]))
          | (refine wpF (i := 9) rfl (by kernel_rfl) (by first | rfl | (simp [Region.wanted, yielded]; done) | (simp [Region.wanted, yielded, undef, *]; done) | fail) (fun _ _ _ h => h) (fun _ => by go_simp; try rfl) ?_; (try simp only [Act.put, sA, sB, sC]))
          first
          | (refine wpAnyT_skip (i := 10) rfl (by kernel_rfl) (by first | rfl | (simp [Region.wanted, yielded]; done) | (simp [Region.wanted, yielded, undef, *]; done) | fail) (fun _ _ _ h => h) (fun h_ => absurd h_ (by decide)) ?_; (try simp only [Act.put, sA, sB, sC]))
          | (refine wpF (i := 10) rfl (by kernel_rfl) (by first | rfl | (simp [Region.wanted, yielded]; done) | (simp [Region.wanted, yielded, undef, *]; done) | fail) (fun _ _ _ h => h) (fun _ => by go_simp; try rfl) ?_; (try simp only [Act.put, sA, sB, sC]))
          first
          | (refine wpAnyT_skip (i := 11) rfl (by kernel_rfl) (by first | rfl | (simp [Region.wanted, yielded]; done) | (simp [Region.wanted, yielded, undef, *]; done) | fail) (fun _ _ _ h => h) (fun _ => ⟨s2', c0⟩) ?_; (try simp only [Act.put, sA, sB, sC]))
          | (refine wpAnyT_read (i := 11) rfl (by kernel_rfl) (by first | rfl | (simp [Region.wanted, yielded]; done) | (simp [Region.wanted, yielded, undef, *]; done) | fail) (fun _ _ _ h => h) (by kernel_rfl) (⟨s2', c0⟩) (fun w hS_ => by obtain ⟨s_1, s_2⟩ := hS_; go_simp; try rfl) ?_; (try simp only [Act.put, sA, sB, sC]))
          first
          | (refine wpAnyT_skip (i := 12) rfl (by kernel_rfl) (by first | rfl | (simp [Region.wanted, yielded]; done) | (simp [Region.wanted, yielded, undef, *]; done) | fail) (fun _ _ _ h => h) (fun h_ => absurd h_ (by decide)) ?_; (try simp only [Act.put, sA, sB, sC]))
          | (refine wpF (i := 12) rfl (by kernel_rfl) (by first | rfl | (simp [Region.wanted, yielded]; done) | (simp [Region.wanted, yielded, undef, *]; done) | fail) (fun _ _ _ h => h) (fun _ => by go_simp; try rfl) ?_; (try simp only [Act.put, sA, sB, sC]))
          (refine wpF (i := 13) rfl (by kernel_rfl) rfl (fun _ _ _ h => h) (fun _ => by go_simp; try rfl) ?_; (try simp only [Act.put, sA, sB, sC]))
          refine wpAnyT_done (by kernel_rfl) ?_ _
          have c1d : w2.drew.cell? ⟨b, 1, none⟩ = some (.slice A ps.length c) := c1'
          go_wp2
          go_ret2
          unfold AppDid
          rw [HE.out]
          exact ⟨rfl, (h2.mono (fun _ => .inl) (Up.lt h.lt hb12.size)).isLog hu, Fr.of_below hb12⟩
        · have hnew := Sg.new_is _ hlen
          have hrm : (⟨per, gs, false⟩ : Lg).room = gs ++ [Sg.new (Lg.len ⟨per, gs, false⟩)] := by unfold Lg.room; rw [if_pos hfull]
          rw [hnew] at hrm
          generalize hln : Lg.len ⟨per, gs, false⟩ = len at *
          have hg : (gs ++ [(⟨⟨false, headB len, 0⟩, len, [], 0⟩ : Sg)])[(gs ++ [(⟨⟨false, headB len, 0⟩, len, [], 0⟩ : Sg)]).length - 1]? = some ⟨⟨false, headB len, 0⟩, len, [], 0⟩ := by simp
          have heq := Lg.append_eq hlong (fun h => h256 h.2) hrm hg
          have HE := Lib.hid heq
          clear heq hnew hrm
          rcases Nat.eq_zero_or_pos ps.length with hps0 | hps0
          · have el : lastV ps = .pointer none := by
              obtain rfl := List.eq_nil_of_length_eq_zero hps0
              rfl
            have k2 : ((ps.length : Int) == 256) = false := by rw [beq_eq_false_iff_ne]; omega
            have hn256 : gs.length < 256 := by have := h.ok.2.2.1; simp only at this; omega
            have hpl : ps.length ≤ 256 := by omega
            have HG := Lib.hid hgl
            have EL := Lib.hid el
            clear hgl el h256 hps0 hfull
            go_enter Tryz.func55, Tryz.ntmps55
            go_wp2_with (first
              | (go_at_call 106; refine (askedL h).mono ?_; rintro e w' ⟨rfl, rfl⟩)
              | (go_at_call 60; refine hF.mono ?_; rintro e w1 ⟨A1, c1, rfl, ho1, hc1, hm1, hb1⟩; have hl1 := lastL (h.below hb1); rw [EL.out] at hl1; clear hF)
              | (go_at_call 78; refine hl1.mono ?_; rintro e w2 ⟨rfl, hb2⟩))
            have h2' : LogO S H w2 b A c ps ⟨per, gs, false⟩ := h.below (hb1.trans (hb2.mono hb1.size))
            obtain ⟨c0, c1', -, -, -, -, -, -, -, -⟩ := h2'.facts
            refine wp_region_T #[[], [], [], [], [], [], [], [6], [], [], [], [], [6, 11], [6, 11]] [6, 11] (fun _ => True) 14 rfl (by kernel_rfl) ?_
            (refine wpF (i := 0) rfl (by kernel_rfl) rfl (fun _ _ _ h => h) (fun _ => by go_simp; try rfl) ?_; (try simp only [Act.put, sA, sB, sC]))
            (refine wpF (i := 1) rfl (by kernel_rfl) rfl (fun _ _ _ h => h) (fun _ => by go_simp; try rfl) ?_; (try simp only [Act.put, sA, sB, sC]))
            (refine wpF (i := 2) rfl (by kernel_rfl) rfl (fun _ _ _ h => h) (fun _ => by go_simp; try rfl) ?_; (try simp only [Act.put, sA, sB, sC]))
            first
            | (refine wpAnyT_skip (i := 3) rfl (by kernel_rfl) (by first | rfl | (simp [Region.wanted, yielded]; done) | (simp [Region.wanted, yielded, undef, *]; done) | fail) (fun _ _ _ h => h) (fun h_ => absurd h_ (by decide)) ?_; (try simp only [Act.put, sA, sB, sC]))
            | (refine wpF (i := 3) rfl (by kernel_rfl) (by first | rfl | (simp [Region.wanted, yielded]; done) | (simp [Region.wanted, yielded, undef, *]; done) | fail) (fun _ _ _ h => h) (fun _ => by go_simp; try rfl) ?_; (try simp only [Act.put, sA, sB, sC]))
            first
            | (refine wpAnyT_skip (i := 4) rfl (by kernel_rfl) (by first | rfl | (simp [Region.wanted, yielded]; done) | (simp [Region.wanted, yielded, undef, *]; done) | fail) (fun _ _ _ h => h) (fun h_ => absurd h_ (by decide)) ?_; (try simp only [Act.put, sA, sB, sC]))
            | (refine wpF (i := 4) rfl (by kernel_rfl) (by first | rfl | (simp [Region.wanted, yielded]; done) | (simp [Region.wanted, yielded, undef, *]; done) | fail) (fun _ _ _ h => h) (fun _ => by go_simp; try rfl) ?_; (try simp only [Act.put, sA, sB, sC]))
            first
            | (refine wpAnyT_skip (i := 5) rfl (by kernel_rfl) (by first | rfl | (simp [Region.wanted, yielded]; done) | (simp [Region.wanted, yielded, undef, *]; done) | fail) (fun _ _ _ h => h) (fun h_ => absurd h_ (by decide)) ?_; (try simp only [Act.put, sA, sB, sC]))
            | (refine wpF (i := 5) rfl (by kernel_rfl) (by first | rfl | (simp [Region.wanted, yielded]; done) | (simp [Region.wanted, yielded, undef, *]; done) | fail) (fun _ _ _ h => h) (fun _ => by go_simp; try rfl) ?_; (try simp only [Act.put, sA, sB, sC]))
            first
            | (refine wpAnyT_skip (i := 6) rfl (by kernel_rfl) (by first | rfl | (simp [Region.wanted, yielded]; done) | (simp [Region.wanted, yielded, undef, *]; done) | fail) (fun _ _ _ h => h) (fun _ => trivial) ?_; (try simp only [Act.put, sA, sB, sC]))
            | (refine wpAnyT_read (i := 6) rfl (by kernel_rfl) (by first | rfl | (simp [Region.wanted, yielded]; done) | (simp [Region.wanted, yielded, undef, *]; done) | fail) (fun _ _ _ h => h) (by kernel_rfl) (trivial) (fun w hS_ => by obtain ⟨s_1, s_2⟩ := hS_; go_simp; try rfl) ?_; (try simp only [Act.put, sA, sB, sC]))
            first
            | (refine wpAnyT_skip (i := 7) rfl (by kernel_rfl) (by first | rfl | (simp [Region.wanted, yielded]; done) | (simp [Region.wanted, yielded, undef, *]; done) | fail) (fun _ _ _ h => h) (fun h_ => absurd h_ (by decide)) ?_; (try simp only [Act.put, sA, sB, sC]))
            | (refine wpF (i := 7) rfl (by kernel_rfl) (by first | rfl | (simp [Region.wanted, yielded]; done) | (simp [Region.wanted, yielded, undef, *]; done) | fail) (fun _ _ _ h => h) (fun _ => by go_simp; try rfl) ?_; (try simp only [Act.put, sA, sB, sC]))
            first
            | (refine wpAnyT_skip (i := 8) rfl (by kernel_rfl) (by first | rfl | (simp [Region.wanted, yielded]; done) | (simp [Region.wanted, yielded, undef, *]; done) | fail) (fun _ _ _ h => h) (fun h_ => absurd h_ (by decide)) ?_; (try simp only [Act.put, sA, sB, sC]))
            | (refine wpF (i := 8) rfl (by kernel_rfl) (by first | rfl | (simp [Region.wanted, yielded]; done) | (simp [Region.wanted, yielded, undef, *]; done) | fail) (fun _ _ _ h => h) (fun _ => by go_simp; try rfl) ?_; (try simp only [Act.put, sA, sB, sC]))
            first
            | (refine wpAnyT_skip (i := 9) rfl (by kernel_rfl) (by first | rfl | (simp [Region.wanted, yielded]; done) | (simp [Region.wanted, yielded, undef, *]; done) | fail) (fun _ _ _ h => h) (fun h_ => absurd h_ (by decide)) ?_; (try simp only [Act.put, sA, sB, sC]))
            | (refine wpF (i := 9) rfl (by kernel_rfl) (by first | rfl | (simp [Region.wanted, yielded]; done) | (simp [Region.wanted, yielded, undef, *]; done) | fail) (fun _ _ _ h => h) (fun _ => by go_simp; try rfl) ?_; (try simp only [Act.put, sA, sB, sC]))
            first
            | (refine wpAnyT_skip (i := 10) rfl (by kernel_rfl) (by first | rfl | (simp [Region.wanted, yielded]; done) | (simp [Region.wanted, yielded, undef, *]; done) | fail) (fun _ _ _ h => h) (fun h_ => absurd h_ (by decide)) ?_; (try simp only [Act.put, sA, sB, sC]))
            | (refine wpF (i := 10) rfl (by kernel_rfl) (by first | rfl | (simp [Region.wanted, yielded]; done) | (simp [Region.wanted, yielded, undef, *]; done) | fail) (fun _ _ _ h => h) (fun _ => by go_simp; try rfl) ?_; (try simp only [Act.put, sA, sB, sC]))
            first
            | (refine wpAnyT_skip (i := 11) rfl (by kernel_rfl) (by first | rfl | (simp [Region.wanted, yielded]; done) | (simp [Region.wanted, yielded, undef, *]; done) | fail) (fun _ _ _ h => h) (fun _ => trivial) ?_; (try simp only [Act.put, sA, sB, sC]))
            | (refine wpAnyT_read (i := 11) rfl (by kernel_rfl) (by first | rfl | (simp [Region.wanted, yielded]; done) | (simp [Region.wanted, yielded, undef, *]; done) | fail) (fun _ _ _ h => h) (by kernel_rfl) (trivial) (fun w hS_ => by obtain ⟨s_1, s_2⟩ := hS_; go_simp; try rfl) ?_; (try simp only [Act.put, sA, sB, sC]))
            first
            | (refine wpAnyT_skip (i := 12) rfl (by kernel_rfl) (by first | rfl | (simp [Region.wanted, yielded]; done) | (simp [Region.wanted, yielded, undef, *]; done) | fail) (fun _ _ _ h => h) (fun h_ => absurd h_ (by decide)) ?_; (try simp only [Act.put, sA, sB, sC]))
            | (refine wpF (i := 12) rfl (by kernel_rfl) (by first | rfl | (simp [Region.wanted, yielded]; done) | (simp [Region.wanted, yielded, undef, *]; done) | fail) (fun _ _ _ h => h) (fun _ => by go_simp; try rfl) ?_; (try simp only [Act.put, sA, sB, sC]))
            (refine wpF (i := 13) rfl (by kernel_rfl) rfl (fun _ _ _ h => h) (fun _ => by go_simp; try rfl) ?_; (try simp only [Act.put, sA, sB, sC]))
            refine wpAnyT_done (by kernel_rfl) ?_ _
            have hb12 : Below w.heap.size w w2.drew := (hb1.trans (hb2.mono hb1.size)).drew
            have hrf1 : Own Ever w2.drew A1 (frame rec) := (Own.mono ho1 (fun _ _ => trivial)).fr (S' := Non) (Fr.of_below hb2.drew)
            have h2 : LogO S H w2.drew b A c ps ⟨per, gs, false⟩ := h.below hb12
            have c1d : w2.drew.cell? ⟨b, 1, none⟩ = some (.slice A ps.length c) := c1'
            clear c0 c1'
            generalize w2.drew = w3 at *
            have hlL := lenL h2
            go_wp2_with (first
              | (go_at_call 47; refine (new_B _).mono ?_; rintro e w4 ⟨_, rfl, ⟨db, Ad, cd, rfl, hd4⟩, hb4⟩; have hlL := lenL (h2.below hb4); rw [hln] at hlL)
              | (go_at_call 22; refine hlL.mono ?_; rintro e w5 ⟨rfl, hb5⟩))
            have hseg := Blk.new w5 TSg #[.pointer (some ⟨db, 0, none⟩), .int .i64 (len : Int), .slice none 0 0, .int .i64 0]
            have hb6 := below_new w5 (.cells #[.pointer (some ⟨db, 0, none⟩), .int .i64 (len : Int), .slice none 0 0, .int .i64 0] TSg)
            have hd6 := (hd4.below hb5).below hb6
            have hb36 := hb4.trans ((hb5.trans (hb6.mono hb5.size)).mono hb4.size)
            have hh6 : HalfAt (w5.alloc (.cells #[.pointer (some ⟨db, 0, none⟩), .int .i64 (len : Int), .slice none 0 0, .int .i64 0] TSg)) := hh.below (hb12.trans (hb36.mono hb12.size)) hh.lt
            have hp53 : w3.heap.size ≤ w5.heap.size := Nat.le_trans hb4.size hb5.size
            have hp4 : w4.heap.size ≤ w5.heap.size := hb5.size
            have hp6 : w5.heap.size < (w5.alloc (.cells #[.pointer (some ⟨db, 0, none⟩), .int .i64 (len : Int), .slice none 0 0, .int .i64 0] TSg)).heap.size := hseg.lt
            change Code.wp _ _ _ _ (w5.alloc (.cells #[.pointer (some ⟨db, 0, none⟩), .int .i64 (len : Int), .slice none 0 0, .int .i64 0] TSg))
            generalize w5.alloc (.cells #[.pointer (some ⟨db, 0, none⟩), .int .i64 (len : Int), .slice none 0 0, .int .i64 0] TSg) = w6 at *
            generalize w5.heap.size = p at *
            have s0 := hseg.cell 0 (v := .pointer (some ⟨db, 0, none⟩)) rfl
            have s1 := hseg.cell 1 (v := .int .i64 (len : Int)) rfl
            refine wp_region_T #[[], [], [], [], [], [], [], [], [7], [3, 7]] [3, 7] (fun w' => w'.cell? ⟨p, 0, none⟩ = some (.pointer (some ⟨db, 0, none⟩)) ∧ w'.cell? ⟨p, 1, none⟩ = some (.int .i64 (len : Int))) 10 rfl (by kernel_rfl) ?_
            (refine wpF (i := 0) rfl (by kernel_rfl) rfl (fun _ _ _ h => h) (fun _ => by go_simp; try rfl) ?_; (try simp only [Act.put, sA, sB, sC]))
            (refine wpF (i := 1) rfl (by kernel_rfl) rfl (fun _ _ _ h => h) (fun _ => by go_simp; try rfl) ?_; (try simp only [Act.put, sA, sB, sC]))
            (refine wpF (i := 2) rfl (by kernel_rfl) rfl (fun _ _ _ h => h) (fun _ => by go_simp; try rfl) ?_; (try simp only [Act.put, sA, sB, sC]))
            (refine wpAnyT_read (i := 3) rfl (by kernel_rfl) rfl (fun _ _ _ h => h) (by kernel_rfl) (⟨s0, s1⟩) (fun w hS_ => by obtain ⟨s_1, s_2⟩ := hS_; go_simp; try rfl) ?_; (try simp only [Act.put, sA, sB, sC]))
            (refine wpF (i := 4) rfl (by kernel_rfl) rfl (fun _ _ _ h => h) (fun _ => by go_simp; try rfl) ?_; (try simp only [Act.put, sA, sB, sC]))
            (refine wpF (i := 5) rfl (by kernel_rfl) rfl (fun _ _ _ h => h) (fun _ => by go_simp; try rfl) ?_; (try simp only [Act.put, sA, sB, sC]))
            (refine wpF (i := 6) rfl (by kernel_rfl) rfl (fun _ _ _ h => h) (fun _ => by go_simp; try rfl) ?_; (try simp only [Act.put, sA, sB, sC]))
            (refine wpAnyT_read (i := 7) rfl (by kernel_rfl) rfl (fun _ _ _ h => h) (by kernel_rfl) (⟨s0, s1⟩) (fun w hS_ => by obtain ⟨s_1, s_2⟩ := hS_; go_simp; try rfl) ?_; (try simp only [Act.put, sA, sB, sC]))
            refine wpAnyT_one (i := 8) rfl (by kernel_rfl) rfl ?_
            intro K_ hK_
            go_wp2_with ((go_at_call 108; refine (head_B _ (show HalfAt w6.drew from hh6) len hlen).mono ?_; rintro e w7 ⟨A7, c7, rfl, ho7, hc7, hm7, hb7⟩))
            refine hK_ _ _ ?_ ?_
            · exact fun _ _ => ⟨(hb7.cell (p := ⟨p, 0, none⟩) (cell_lt s0)).trans s0, (hb7.cell (p := ⟨p, 1, none⟩) (cell_lt s1)).trans s1⟩
            clear hK_ K_
            (try simp only [Act.put, sA, sB, sC])
            refine wpAnyT_sink (i := 9) rfl (by kernel_rfl) rfl (by kernel_rfl) ?_
            intro K_ hK_
            go_wp2_with ((go_at_call 107; refine (append_B ((hd6.drew).below hb7) A7 (headB len) c7 (Nat.le_trans (headB_22 hlen) (by decide)) (ho7.rd _)).mono ?_; rintro e w8 ⟨rfl, hd8, hf8⟩))
            (try (refine hK_ _ _ ?_; clear hK_ K_))
            (try simp only [Act.put, sA, sB, sC])
            refine wpAnyT_done (by kernel_rfl) ?_ _
            have hb37 : Below w3.heap.size w3 w7 := hb36.drew.trans (hb7.mono hb36.size)
            have hb38 : Below w3.heap.size w3 w8 := ((Fr.of_below (S := Nw w3 w4) hb37).trans' hf8 (fun x _ h => h)).below (fun x h => h.1)
            have hp7 : p < w7.heap.size := Nat.lt_of_lt_of_le hp6 hb7.size
            have hs8 : SegAt (Nw w3 w8) w8 p ⟨⟨false, headB len, 0⟩, len, [], 0⟩ := by
              obtain ⟨db', Ad', cd', e8, hd8⟩ := hd8
              injection e8 with e8
              injection e8 with e8
              injection e8 with e8
              subst e8
              rw [Dk.new_head hlen] at hd8
              exact SegAt.fresh ((hseg.eq (hb7.block p hp6)).fr hf8 (fun hx => Nat.lt_irrefl _ (Nat.lt_of_lt_of_le hx.2 hp4))) hd8 (fun x hx => hx.elim (fun hx => hx.1) (fun hx => Nat.le_trans hb37.size hx.1)) hp53 (fun hx => hx.elim (fun hx => by have := hx.2; omega) (fun hx => by have := hx.1; omega))
            have hgk : Sg.ok ⟨⟨false, headB len, 0⟩, len, [], 0⟩ := ⟨hlen, by simp, by simp, by simp⟩
            have h8 := h2.below hb38
            obtain ⟨c08, c18, -, z18, -, -, -, -, -, -⟩ := h8.facts
            have hH8 : ∀ x, H x → x < w3.heap.size := fun x hx => h2.lt x (h2.hS x hx)
            have hfl : (frame rec).length ≤ 65548 := by rw [length_frame]; omega
            have hdk : Dk.append ⟨false, headB len, 0⟩ (frame rec) = (⟨false, headB len ++ frame rec, 0⟩, 0) := by
              have := headB_22 hlen
              unfold Dk.append
              simp only [Bool.false_eq_true, if_false]
              rw [if_neg (by omega)]
            have hp9 : (ps ++ [p])[gs.length]? = some p := by rw [← HG.out]; simp
            have hg9 : (gs ++ [(⟨⟨false, headB len, 0⟩, len, [], 0⟩ : Sg)])[gs.length]? = some ⟨⟨false, headB len, 0⟩, len, [], 0⟩ := by simp
            have hup5 : (⟨⟨false, headB len ++ frame rec, 0⟩, len, [rec], 0⟩ : Sg).up := by
              refine ⟨rfl, ?_⟩
              simp only [List.length_append, List.length_singleton, length_frame]
              omega
            go_wp2_with (first
              | (at_builtin; refine wpList_append_row rfl (.tmp 65) (.tmp 67) 130 rfl TPs ip _ 8 Tryz.underlying130 hip hzp hsp hbp rfl (.slice A ps.length c) (ps.map ptr) rfl ((h8.row).below (below_new _ _)) ⟨w8.heap.size, 0, none⟩ (ptr p) rfl (heap_new_cell _ _ _) rfl (by rw [List.length_map]; unfold maxLen; omega) (by rw [List.length_map]; omega) (by decide) ?_; intro v10 w10 hrow10 hf10 hoth10; obtain ⟨A10, c10, rfl, hc10, hm10⟩ := hrow10.val; rw [List.length_append, List.length_map, List.length_singleton] at hrow10 hc10 ⊢; have hbk10 := (hoth10 b (Nat.lt_of_lt_of_le h8.blk.lt (below_new w8 _).size) (((h8.row).below (below_new w8 (.cells #[ptr p] TPs))).ownNe (h8.blk.eq ((below_new w8 (.cells #[ptr p] TPs)).block b h8.blk.lt)) (by decide))).trans ((below_new w8 (.cells #[ptr p] TPs)).block b h8.blk.lt); have z10 := (frozen_eq (a := ⟨b, 1, none⟩) hbk10).trans z18; have c110 := (cell_eq (a := ⟨b, 1, none⟩) hbk10).trans c18; have hgr := h2.grow hn256 hb38 hs8 hgk (below_new w8 (.cells #[ptr p] TPs)) hf10 hoth10 hrow10; obtain ⟨hW9, F9⟩ := hgr; obtain ⟨Sd9, db9, R9, cR9, s09, hd9, hSd9, hup9⟩ := hW9.disk hp9 hg9)
              | (go_at_call 107; refine (append_B hd9 A1 (frame rec) c1 (by omega) ((((hrf1.fr (S' := Non) (Fr.of_below hb38)).fr (S' := Non) (Fr.of_below (below_new w8 (.cells #[ptr p] TPs)))).fr hf10).fr (S' := fun x => x = b) ((Fr.refl (fun x => x = b) _).setCell (p := ⟨b, 1, none⟩) (.inl (show b = b from rfl)) ((h8.blk.eq hbk10).notB (by decide)) _) |>.rd _)).mono ?_; rintro e w12 ⟨rfl, hd12, hf12⟩; have ho12 := hup9 w12 _ hf12 hd12))
            rw [hdk] at ho12
            have hsz11 : (w10.setCell ⟨b, 1, none⟩ (.slice A10 (ps.length + 1) c10)).heap.size = w10.heap.size := by simp [World.setCell]
            have q1 := hb12.size
            have q2 := F9.size
            have q3 := hf12.size
            rw [hsz11] at q2 q3
            have hmid : AppMid S w w12 b p rec per gs := by
              refine ⟨_, _, _, _, _, _, ⟨false, headB len ++ frame rec, 0⟩, len, [], 0, gs.length, ho12, hp9, List.getElem?_set_self (List.getElem?_eq_some_iff.1 hg9).1, fun x hx => ?_, ((Fr.of_below hb12).trans' F9 (fun x _ hx => hx)).trans' hf12 (fun x hb hx => (hSd9 x hx).elim id (fun k => by have := k.1; omega)), (show 0 < 349525 by omega), hlen, ?_, fun g hg' => ?_⟩
              · rcases hx with (hx | hx) | hx
                · exact .inl hx
                · exact .inr ⟨Nat.le_trans q1 hx.1, Nat.lt_of_lt_of_le hx.2 q3⟩
                · have := hx.1
                  rw [hsz11] at this
                  exact .inr ⟨Nat.le_trans q1 (Nat.le_trans q2 this), hx.2⟩
              · have e8 := HE.out
                rw [hdk, if_pos rfl, show (gs ++ [(⟨⟨false, headB len, 0⟩, len, [], 0⟩ : Sg)]).length - 1 = gs.length by simp] at e8
                rw [List.set_set]
                exact Lib.hid e8
              · rw [List.set_set] at hg'
                rcases List.mem_or_eq_of_mem_set hg' with hm | rfl
                · rcases List.mem_append.1 hm with hm | hm
                  · exact hu rfl g hm
                  · rw [List.mem_singleton] at hm; rw [hm]; exact ⟨rfl, by simp⟩
                · exact hup5
            clear ho12 hd12 hf12 hup9 hd9 hSd9 hg9 hp9 HE hup5 hdk hW9 F9 s09 hrow10 hf10 hoth10 hbk10 z10 c110 c08 c18 z18 h8 hs8 hgk hd8 hf8 hb37 hb38 hb36 hd6 hseg hb6 hh6 s0 s1 ho7 hb7 hb5 hb4 hd4 hlL c1d hrf1 k2 hfl hp6 hp7 hp53 hp4 hH8 q2 q3 hsz11
            obtain ⟨S3, H3, A3, c3, ps3, gs3, d3, base, recs, safe, k, ho3, hp3, hg3, hS3, f3, hn9, n1, HE, hu3⟩ := hmid
            have HU := Lib.hid hu3
            clear hu3
            obtain ⟨Sh, R3, cr3, vals, s2, hrow, hvl, hSh, hne3, z2, hput⟩ := ho3.recAt hp3 hg3
            have hb3 : w.heap.size ≤ w12.heap.size := f3.size
            have hl3 : ∀ x, Up S w w12 x → x < w12.heap.size := Up.lt h.lt hb3
            refine wp_region_T #[[], [], [], [], [], [], [], [], [4], [4], [4], [4]] [4] (fun w' => w'.cell? ⟨p, 2, none⟩ = some (.slice R3 recs.length cr3) ∧ True) 12 rfl (by kernel_rfl) ?_
            (refine wpF (i := 0) rfl (by kernel_rfl) rfl (fun _ _ _ h => h) (fun _ => by go_simp; try rfl) ?_; (try simp only [Act.put, sA, sB, sC]))
            (refine wpF (i := 1) rfl (by kernel_rfl) rfl (fun _ _ _ h => h) (fun _ => by go_simp; try rfl) ?_; (try simp only [Act.put, sA, sB, sC]))
            (refine wpF (i := 2) rfl (by kernel_rfl) rfl (fun _ _ _ h => h) (fun _ => by go_simp; try rfl) ?_; (try simp only [Act.put, sA, sB, sC]))
            (refine wpF (i := 3) rfl (by kernel_rfl) rfl (fun _ _ _ h => h) (fun _ => by go_simp; try rfl) ?_; (try simp only [Act.put, sA, sB, sC]))
            (refine wpAnyT_read (i := 4) rfl (by kernel_rfl) rfl (fun _ _ _ h => h) (by kernel_rfl) (⟨s2, trivial⟩) (fun w hS_ => by obtain ⟨s_1, s_2⟩ := hS_; go_simp; try rfl) ?_; (try simp only [Act.put, sA, sB, sC]))
            (refine wpF (i := 5) rfl (by kernel_rfl) rfl (fun _ _ _ h => h) (fun _ => by go_simp; try rfl) ?_; (try simp only [Act.put, sA, sB, sC]))
            refine wpAnyT_one (i := 6) rfl (by kernel_rfl) rfl ?_
            intro K_ hK_
            go_wp2_with ((go_at_call 56; refine (clone_B S B rec cb _ (hr.fr f3).drew hrl).mono ?_; rintro e w4 ⟨A4, c4, rfl, hor4, hc4, hm4, hb4⟩; have e2 := (hb4.cell (p := ⟨p, 2, none⟩) (cell_lt s2)).trans s2))
            refine hK_ _ _ ?_ ?_
            · exact fun _ _ => ⟨e2, trivial⟩
            clear hK_ K_
            (try simp only [Act.put, sA, sB, sC])
            refine wpAnyT_one (i := 7) rfl (by kernel_rfl) rfl ?_
            intro K_ hK_
            go_wp2
            refine hK_ _ _ ?_ ?_
            · exact fun _ _ => ⟨((below_new _ _).cell (p := ⟨p, 2, none⟩) (cell_lt e2)).trans e2, trivial⟩
            clear hK_ K_
            (try simp only [Act.put, sA, sB, sC])
            refine wpAnyT_sink (i := 8) rfl (by kernel_rfl) rfl (by kernel_rfl) ?_
            intro K_ hK_
            refine oper_append_row (.tmp 84) (.tmp 87) 70 rfl TBs ib _ 24 Tryz.underlying70 hib hzb hsb hbb rfl (.slice R3 recs.length cr3) vals rfl ((Row.below (w := w12.drew) hrow hb4).below (below_new _ _)) ⟨w4.heap.size, 0, none⟩ (.slice A4 rec.length c4) rfl (heap_new_cell _ _ _) rfl (by rw [hvl]; unfold maxLen; omega) (by rw [hvl]; omega) (by decide) ?_; intro v5 w5 hrow5 hf5 hoth5; obtain ⟨A5, c5, rfl, hc5, hm5⟩ := hrow5.val; rw [List.length_append, hvl, List.length_singleton] at hrow5 hc5 ⊢; have hp6 := (hb4.trans ((below_new w4 (.cells #[.slice A4 rec.length c4] TBs)).mono hb4.size)); have hp5 := (hoth5 p (by have := hp6.size; exact Nat.lt_of_lt_of_le (cell_lt s2) this) hne3).trans (hp6.block p (cell_lt s2)); have g2 := (cell_eq (a := ⟨p, 2, none⟩) hp5).trans s2; have y2 := (frozen_eq (a := ⟨p, 2, none⟩) hp5).trans z2
            (try (refine hK_ _ _ ?_; clear hK_ K_))
            (try simp only [Act.put, sA, sB, sC])
            (refine wpF (i := 9) rfl (by kernel_rfl) rfl (fun _ _ _ h => h) (fun _ => by go_simp; try rfl) ?_; (try simp only [Act.put, sA, sB, sC]))
            (refine wpF (i := 10) rfl (by kernel_rfl) rfl (fun _ _ _ h => h) (fun _ => by go_simp; try rfl) ?_; (try simp only [Act.put, sA, sB, sC]))
            refine wpAnyT_sink (i := 11) rfl (by kernel_rfl) rfl (by kernel_rfl) ?_
            intro K_ hK_
            go_wp2
            (try (refine hK_ _ _ ?_; clear hK_ K_))
            (try simp only [Act.put, sA, sB, sC])
            refine wpAnyT_done (by kernel_rfl) ?_ _
            have hp6' := (hb4.trans ((below_new w4 (.cells #[.slice A4 rec.length c4] TBs)).mono hb4.size))
            have hp6 : Below w12.heap.size w12 (w4.alloc (.cells #[.slice A4 rec.length c4] TBs)) := ⟨hp6'.os, hp6'.tape, hp6'.output, hp6'.size, hp6'.block⟩
            have hp6s : w12.heap.size ≤ (w4.alloc (.cells #[.slice A4 rec.length c4] TBs)).heap.size := hp6.size
            obtain ⟨ho5, f5⟩ := hput w5 A5 c5 rec A4 c4 (hrow5.mono fun x _ hx => hx.imp_right fun k => ⟨Nat.le_trans hp6s k.1, k.2⟩) ((Fr.of_below (S := Sh) (w := w12) hp6).trans' hf5 (fun x _ hx => hx)) (fun x hx hn => (hoth5 x (Nat.lt_of_lt_of_le hx hp6s) hn).trans (hp6.block x hx)) hc4 hm4 ((((Own.of_row' hor4).mono (S' := fun x => w12.heap.size ≤ x) (fun _ h => h)).fr (Fr.of_below (S := Non) (below_new w4 _))).fr hf5) hn9 hlong
            have hg5 : (gs3.set k ⟨d3, base, recs ++ [rec], safe⟩)[k]? = some (⟨d3, base, recs ++ [rec], safe⟩ : Sg) := List.getElem?_set_self (List.getElem?_eq_some_iff.1 hg3).1
            obtain ⟨p', hp', db5, R5, cr5, s05, s15, s25, s35, y25, y35⟩ := ho5.segs.facts hg5
            rw [hp3] at hp'
            injection hp' with hp'
            subst hp'
            rw [List.length_append, List.length_singleton] at s25
            clear s2 g2 y2 e2 z2
            have hsz6 : (w5.setCell ⟨p, 2, none⟩ (.slice A5 (recs.length + 1) c5)).heap.size = w5.heap.size := by simp [World.setCell]
            have hsz5 : w12.heap.size ≤ w5.heap.size := Nat.le_trans hp6s hf5.size
            generalize w5.setCell ⟨p, 2, none⟩ (.slice A5 (recs.length + 1) c5) = w6 at *
            have k5 : IntKind.i64.wrap ((base : Int) + ((recs.length : Int) + 1)) = (base : Int) + ((recs.length : Int) + 1) := by rw [IntKind.wrap_i64]; omega
            have k6 : IntKind.i64.wrap ((base : Int) + ((recs.length : Int) + 1) - 1) = (base : Int) + ((recs.length : Int) + 1) - 1 := by rw [IntKind.wrap_i64]; omega
            clear s05 s35 y25 y35
            go_wp2
            refine wp_region_T #[[], [], [], [], [], [], [], [], [7], [3, 7], [3, 7], [3, 7], [3, 7]] [3, 7] (fun w' => w'.cell? ⟨p, 1, none⟩ = some (.int .i64 (base : Int)) ∧ w'.cell? ⟨p, 2, none⟩ = some (.slice R5 (recs.length + 1) cr5)) 13 rfl (by kernel_rfl) ?_
            (refine wpF (i := 0) rfl (by kernel_rfl) rfl (fun _ _ _ h => h) (fun _ => by go_simp; try rfl) ?_; (try simp only [Act.put, sA, sB, sC]))
            (refine wpF (i := 1) rfl (by kernel_rfl) rfl (fun _ _ _ h => h) (fun _ => by go_simp; try rfl) ?_; (try simp only [Act.put, sA, sB, sC]))
            (refine wpF (i := 2) rfl (by kernel_rfl) rfl (fun _ _ _ h => h) (fun _ => by go_simp; try rfl) ?_; (try simp only [Act.put, sA, sB, sC]))
            (refine wpAnyT_read (i := 3) rfl (by kernel_rfl) rfl (fun _ _ _ h => h) (by kernel_rfl) (⟨s15, s25⟩) (fun w hS_ => by obtain ⟨s_1, s_2⟩ := hS_; go_simp; try rfl) ?_; (try simp only [Act.put, sA, sB, sC]))
            (refine wpF (i := 4) rfl (by kernel_rfl) rfl (fun _ _ _ h => h) (fun _ => by go_simp; try rfl) ?_; (try simp only [Act.put, sA, sB, sC]))
            (refine wpF (i := 5) rfl (by kernel_rfl) rfl (fun _ _ _ h => h) (fun _ => by go_simp; try rfl) ?_; (try simp only [Act.put, sA, sB, sC]))
            (refine wpF (i := 6) rfl (by kernel_rfl) rfl (fun _ _ _ h => h) (fun _ => by go_simp; try rfl) ?_; (try simp only [Act.put, sA, sB, sC]))
            (refine wpAnyT_read (i := 7) rfl (by kernel_rfl) rfl (fun _ _ _ h => h) (by kernel_rfl) (⟨s15, s25⟩) (fun w hS_ => by obtain ⟨s_1, s_2⟩ := hS_; go_simp; try rfl) ?_; (try simp only [Act.put, sA, sB, sC]))
            (refine wpF (i := 8) rfl (by kernel_rfl) rfl (fun _ _ _ h => h) (fun _ => by go_simp; try rfl) ?_; (try simp only [Act.put, sA, sB, sC]))
            (refine wpF (i := 9) rfl (by kernel_rfl) rfl (fun _ _ _ h => h) (fun _ => by go_simp; try rfl) ?_; (try simp only [Act.put, sA, sB, sC]))
            (refine wpF (i := 10) rfl (by kernel_rfl) rfl (fun _ _ _ h => h) (fun _ => by go_simp; try rfl) ?_; (try simp only [Act.put, sA, sB, sC]))
            (refine wpF (i := 11) rfl (by kernel_rfl) rfl (fun _ _ _ h => h) (fun _ => by go_simp; try rfl) ?_; (try simp only [Act.put, sA, sB, sC]))
            (refine wpF (i := 12) rfl (by kernel_rfl) rfl (fun _ _ _ h => h) (fun _ => by go_simp; try rfl) ?_; (try simp only [Act.put, sA, sB, sC]))
            refine wpAnyT_done (by kernel_rfl) ?_ _
            go_wp2
            go_ret2
            unfold AppDid
            rw [HE.out]
            have ho6 : LogO (Up S w w6.drew) H3 w6.drew b A3 c3 ps3 _ := (ho5.below ((Below.refl _ w6).drew)).mono (fun x hx => by
              rcases hx with hx | hx
              · rcases hS3 x hx with hx | hx
                · exact .inl hx
                · exact .inr ⟨hx.1, show x < w6.heap.size by rw [hsz6]; exact Nat.lt_of_lt_of_le hx.2 hsz5⟩
              · exact .inr ⟨Nat.le_trans hb3 hx.1, show x < w6.heap.size by rw [hsz6]; exact hx.2⟩) (Up.lt h.lt (show w.heap.size ≤ w6.heap.size by rw [hsz6]; exact Nat.le_trans hb3 hsz5))
            refine ⟨?_, ho6.isLog (fun _ => HU.out), ?_⟩
            · have e1 : (base : Int) + ((recs.length : Int) + 1) - 1 = ((base + recs.length : Nat) : Int) := by omega
              rw [← e1]; rfl
            · exact (f3.trans' f5 (fun x hb hx => (hS3 x hx).elim id (fun k => by have := k.1; omega))).drew
          · obtain ⟨g, hgl0⟩ : ∃ g, gs[gs.length - 1]? = some g := ⟨_, List.getElem?_eq_getElem (show gs.length - 1 < gs.length by omega)⟩
            have hnp : g.recs.length = per := by
              have h1 := hfull
              unfold Lg.full at h1
              simp only at h1
              rw [getLast_at, hgl0] at h1
              simpa using h1
            obtain ⟨p0, hp0, -⟩ := h.segs.facts (k := gs.length - 1) (d := g.d) (base := g.base) (recs := g.recs) (safe := g.safe) hgl0
            have el : lastV ps = .pointer (some ⟨p0, 0, none⟩) := by
              unfold lastV; rw [List.getLast?_eq_getElem?, hgl, hp0]
            obtain ⟨d0, base0, recs0, safe0⟩ := g
            have k1 : ((recs0.length : Int) == (per : Int)) = true := by rw [beq_iff_eq]; simp only at hnp; omega
            have k2 : ((ps.length : Int) == 256) = false := by rw [beq_eq_false_iff_ne]; omega
            have hn256 : gs.length < 256 := by have := h.ok.2.2.1; simp only at this; omega
            have hpl : ps.length ≤ 256 := by omega
            have HG := Lib.hid hgl
            have EL := Lib.hid el
            clear hgl el h256 hps0 hfull hnp
            go_enter Tryz.func55, Tryz.ntmps55
            go_wp2_with (first
              | (go_at_call 106; refine (askedL h).mono ?_; rintro e w' ⟨rfl, rfl⟩)
              | (go_at_call 60; refine hF.mono ?_; rintro e w1 ⟨A1, c1, rfl, ho1, hc1, hm1, hb1⟩; have hl1 := lastL (h.below hb1); rw [EL.out] at hl1; clear hF)
              | (go_at_call 78; refine hl1.mono ?_; rintro e w2 ⟨rfl, hb2⟩))
            have h2' : LogO S H w2 b A c ps ⟨per, gs, false⟩ := h.below (hb1.trans (hb2.mono hb1.size))
            obtain ⟨c0, c1', -, -, -, -, -, -, -, -⟩ := h2'.facts
            obtain ⟨p', hp', db', R', cr', s0', s1', s2', s3', y2', y3'⟩ := h2'.segs.facts hgl0
            rw [hp0] at hp'
            injection hp' with hp'
            subst hp'
            refine wp_region_T #[[], [], [], [], [], [], [], [6], [], [], [], [], [6, 11], [6, 11]] [6, 11] (fun w' => w'.cell? ⟨p0, 2, none⟩ = some (.slice R' recs0.length cr') ∧ w'.cell? ⟨b, 0, none⟩ = some (.int .i64 (per : Int))) 14 rfl (by kernel_rfl) ?_
            (refine wpF (i := 0) rfl (by kernel_rfl) rfl (fun _ _ _ h => h) (fun _ => by go_simp; try rfl) ?_; (try simp only [Act.put, sA, sB, sC]))
            (refine wpF (i := 1) rfl (by kernel_rfl) rfl (fun _ _ _ h => h) (fun _ => by go_simp; try rfl) ?_; (try simp only [Act.put, sA, sB, sC]))
            (refine wpF (i := 2) rfl (by kernel_rfl) rfl (fun _ _ _ h => h) (fun _ => by go_simp; try rfl) ?_; (try simp only [Act.put, sA, sB, sC]))
            first
            | (refine wpAnyT_skip (i := 3) rfl (by kernel_rfl) (by first | rfl | (simp [Region.wanted, yielded]; done) | (simp [Region.wanted, yielded, undef, *]; done) | fail) (fun _ _ _ h => h) (fun h_ => absurd h_ (by decide)) ?_; (try simp only [Act.put, sA, sB, sC]))
            | (refine wpF (i := 3) rfl (by kernel_rfl) (by first | rfl | (simp [Region.wanted, yielded]; done) | (simp [Region.wanted, yielded, undef, *]; done) | fail) (fun _ _ _ h => h) (fun _ => by go_simp; try rfl) ?_; (try simp only [Act.put, sA, sB, sC]))
            first
            | (refine wpAnyT_skip (i := 4) rfl (by kernel_rfl) (by first | rfl | (simp [Region.wanted, yielded]; done) | (simp [Region.wanted, yielded, undef, *]; done) | fail) (fun _ _ _ h => h) (fun h_ => absurd h_ (by decide)) ?_; (try simp only [Act.put, sA, sB, sC]))
            | (refine wpF (i := 4) rfl (by kernel_rfl) (by first | rfl | (simp [Region.wanted, yielded]; done) | (simp [Region.wanted, yielded, undef, *]; done) | fail) (fun _ _ _ h => h) (fun _ => by go_simp; try rfl) ?_; (try simp only [Act.put, sA, sB, sC]))
            first
            | (refine wpAnyT_skip (i := 5) rfl (by kernel_rfl) (by first | rfl | (simp [Region.wanted, yielded]; done) | (simp [Region.wanted, yielded, undef, *]; done) | fail) (fun _ _ _ h => h) (fun h_ => absurd h_ (by decide)) ?_; (try simp only [Act.put, sA, sB, sC]))
            | (refine wpF (i := 5) rfl (by kernel_rfl) (by first | rfl | (simp [Region.wanted, yielded]; done) | (simp [Region.wanted, yielded, undef, *]; done) | fail) (fun _ _ _ h => h) (fun _ => by go_simp; try rfl) ?_; (try simp only [Act.put, sA, sB, sC]))
            first
            | (refine wpAnyT_skip (i := 6) rfl (by kernel_rfl) (by first | rfl | (simp [Region.wanted, yielded]; done) | (simp [Region.wanted, yielded, undef, *]; done) | fail) (fun _ _ _ h => h) (fun _ => ⟨s2', c0⟩) ?_; (try simp only [Act.put, sA, sB, sC]))
            | (refine wpAnyT_read (i := 6) rfl (by kernel_rfl) (by first | rfl | (simp [Region.wanted, yielded]; done) | (simp [Region.wanted, yielded, undef, *]; done) | fail) (fun _ _ _ h => h) (by kernel_rfl) (⟨s2', c0⟩) (fun w hS_ => by obtain ⟨s_1, s_2⟩ := hS_; go_simp; try rfl) ?_; (try simp only [Act.put, sA, sB, sC]))
            first
            | (refine wpAnyT_skip (i := 7) rfl (by kernel_rfl) (by first | rfl | (simp [Region.wanted, yielded]; done) | (simp [Region.wanted, yielded, undef, *]; done) | fail) (fun _ _ _ h => h) (fun h_ => absurd h_ (by decide)) ?_; (try simp only [Act.put, sA, sB, sC]))
            | (refine wpF (i := 7) rfl (by kernel_rfl) (by first | rfl | (simp [Region.wanted, yielded]; done) | (simp [Region.wanted, yielded, undef, *]; done) | fail) (fun _ _ _ h => h) (fun _ => by go_simp; try rfl) ?_; (try simp only [Act.put, sA, sB, sC]))
            first
            | (refine wpAnyT_skip (i := 8) rfl (by kernel_rfl) (by first | rfl | (simp [Region.wanted, yielded]; done) | (simp [Region.wanted, yielded, undef, *]; done) | fail) (fun _ _ _ h => h) (fun h_ => absurd h_ (by decide)) ?_; (try simp only [Act.put, sA, sB, sC]))
            | (refine wpF (i := 8) rfl (by kernel_rfl) (by first | rfl | (simp [Region.wanted, yielded]; done) | (simp [Region.wanted, yielded, undef, *]; done) | fail) (fun _ _ _ h => h) (fun _ => by go_simp; try rfl) ?_; (try simp only [Act.put, sA, sB, sC]))
            first
            | (refine wpAnyT_skip (i := 9) rfl (by kernel_rfl) (by first | rfl | (simp [Region.wanted, yielded]; done) | (simp [Region.wanted, yielded, undef, *]; done) | fail) (fun _ _ _ h => h) (fun h_ => absurd h_ (by decide)) ?_; (try simp only [Act.put, sA, sB, sC]))
            | (refine wpF (i := 9) rfl (by kernel_rfl) (by first | rfl | (simp [Region.wanted, yielded]; done) | (simp [Region.wanted, yielded, undef, *]; done) | fail) (fun _ _ _ h => h) (fun _ => by go_simp; try rfl) ?_; (try simp only [Act.put, sA, sB, sC]))
            first
            | (refine wpAnyT_skip (i := 10) rfl (by kernel_rfl) (by first | rfl | (simp [Region.wanted, yielded]; done) | (simp [Region.wanted, yielded, undef, *]; done) | fail) (fun _ _ _ h => h) (fun h_ => absurd h_ (by decide)) ?_; (try simp only [Act.put, sA, sB, sC]))
            | (refine wpF (i := 10) rfl (by kernel_rfl) (by first | rfl | (simp [Region.wanted, yielded]; done) | (simp [Region.wanted, yielded, undef, *]; done) | fail) (fun _ _ _ h => h) (fun _ => by go_simp; try rfl) ?_; (try simp only [Act.put, sA, sB, sC]))
            first
            | (refine wpAnyT_skip (i := 11) rfl (by kernel_rfl) (by first | rfl | (simp [Region.wanted, yielded]; done) | (simp [Region.wanted, yielded, undef, *]; done) | fail) (fun _ _ _ h => h) (fun _ => ⟨s2', c0⟩) ?_; (try simp only [Act.put, sA, sB, sC]))
            | (refine wpAnyT_read (i := 11) rfl (by kernel_rfl) (by first | rfl | (simp [Region.wanted, yielded]; done) | (simp [Region.wanted, yielded, undef, *]; done) | fail) (fun _ _ _ h => h) (by kernel_rfl) (⟨s2', c0⟩) (fun w hS_ => by obtain ⟨s_1, s_2⟩ := hS_; go_simp; try rfl) ?_; (try simp only [Act.put, sA, sB, sC]))
            first
            | (refine wpAnyT_skip (i := 12) rfl (by kernel_rfl) (by first | rfl | (simp [Region.wanted, yielded]; done) | (simp [Region.wanted, yielded, undef, *]; done) | fail) (fun _ _ _ h => h) (fun h_ => absurd h_ (by decide)) ?_; (try simp only [Act.put, sA, sB, sC]))
            | (refine wpF (i := 12) rfl (by kernel_rfl) (by first | rfl | (simp [Region.wanted, yielded]; done) | (simp [Region.wanted, yielded, undef, *]; done) | fail) (fun _ _ _ h => h) (fun _ => by go_simp; try rfl) ?_; (try simp only [Act.put, sA, sB, sC]))
            (refine wpF (i := 13) rfl (by kernel_rfl) rfl (fun _ _ _ h => h) (fun _ => by go_simp; try rfl) ?_; (try simp only [Act.put, sA, sB, sC]))
            refine wpAnyT_done (by kernel_rfl) ?_ _
            clear s0' s1' s2' s3' y2' y3'
            have hb12 : Below w.heap.size w w2.drew := (hb1.trans (hb2.mono hb1.size)).drew
            have hrf1 : Own Ever w2.drew A1 (frame rec) := (Own.mono ho1 (fun _ _ => trivial)).fr (S' := Non) (Fr.of_below hb2.drew)
            have h2 : LogO S H w2.drew b A c ps ⟨per, gs, false⟩ := h.below hb12
            have c1d : w2.drew.cell? ⟨b, 1, none⟩ = some (.slice A ps.length c) := c1'
            clear c0 c1'
            generalize w2.drew = w3 at *
            have hlL := lenL h2
            go_wp2_with (first
              | (go_at_call 47; refine (new_B _).mono ?_; rintro e w4 ⟨_, rfl, ⟨db, Ad, cd, rfl, hd4⟩, hb4⟩; have hlL := lenL (h2.below hb4); rw [hln] at hlL)
              | (go_at_call 22; refine hlL.mono ?_; rintro e w5 ⟨rfl, hb5⟩))
            have hseg := Blk.new w5 TSg #[.pointer (some ⟨db, 0, none⟩), .int .i64 (len : Int), .slice none 0 0, .int .i64 0]
            have hb6 := below_new w5 (.cells #[.pointer (some ⟨db, 0, none⟩), .int .i64 (len : Int), .slice none 0 0, .int .i64 0] TSg)
            have hd6 := (hd4.below hb5).below hb6
            have hb36 := hb4.trans ((hb5.trans (hb6.mono hb5.size)).mono hb4.size)
            have hh6 : HalfAt (w5.alloc (.cells #[.pointer (some ⟨db, 0, none⟩), .int .i64 (len : Int), .slice none 0 0, .int .i64 0] TSg)) := hh.below (hb12.trans (hb36.mono hb12.size)) hh.lt
            have hp53 : w3.heap.size ≤ w5.heap.size := Nat.le_trans hb4.size hb5.size
            have hp4 : w4.heap.size ≤ w5.heap.size := hb5.size
            have hp6 : w5.heap.size < (w5.alloc (.cells #[.pointer (some ⟨db, 0, none⟩), .int .i64 (len : Int), .slice none 0 0, .int .i64 0] TSg)).heap.size := hseg.lt
            change Code.wp _ _ _ _ (w5.alloc (.cells #[.pointer (some ⟨db, 0, none⟩), .int .i64 (len : Int), .slice none 0 0, .int .i64 0] TSg))
            generalize w5.alloc (.cells #[.pointer (some ⟨db, 0, none⟩), .int .i64 (len : Int), .slice none 0 0, .int .i64 0] TSg) = w6 at *
            generalize w5.heap.size = p at *
            have s0 := hseg.cell 0 (v := .pointer (some ⟨db, 0, none⟩)) rfl
            have s1 := hseg.cell 1 (v := .int .i64 (len : Int)) rfl
            refine wp_region_T #[[], [], [], [], [], [], [], [], [7], [3, 7]] [3, 7] (fun w' => w'.cell? ⟨p, 0, none⟩ = some (.pointer (some ⟨db, 0, none⟩)) ∧ w'.cell? ⟨p, 1, none⟩ = some (.int .i64 (len : Int))) 10 rfl (by kernel_rfl) ?_
            (refine wpF (i := 0) rfl (by kernel_rfl) rfl (fun _ _ _ h => h) (fun _ => by go_simp; try rfl) ?_; (try simp only [Act.put, sA, sB, sC]))
            (refine wpF (i := 1) rfl (by kernel_rfl) rfl (fun _ _ _ h => h) (fun _ => by go_simp; try rfl) ?_; (try simp only [Act.put, sA, sB, sC]))
            (refine wpF (i := 2) rfl (by kernel_rfl) rfl (fun _ _ _ h => h) (fun _ => by go_simp; try rfl) ?_; (try simp only [Act.put, sA, sB, sC]))
            (refine wpAnyT_read (i := 3) rfl (by kernel_rfl) rfl (fun _ _ _ h => h) (by kernel_rfl) (⟨s0, s1⟩) (fun w hS_ => by obtain ⟨s_1, s_2⟩ := hS_; go_simp; try rfl) ?_; (try simp only [Act.put, sA, sB, sC]))
            (refine wpF (i := 4) rfl (by kernel_rfl) rfl (fun _ _ _ h => h) (fun _ => by go_simp; try rfl) ?_; (try simp only [Act.put, sA, sB, sC]))
            (refine wpF (i := 5) rfl (by kernel_rfl) rfl (fun _ _ _ h => h) (fun _ => by go_simp; try rfl) ?_; (try simp only [Act.put, sA, sB, sC]))
            (refine wpF (i := 6) rfl (by kernel_rfl) rfl (fun _ _ _ h => h) (fun _ => by go_simp; try rfl) ?_; (try simp only [Act.put, sA, sB, sC]))
            (refine wpAnyT_read (i := 7) rfl (by kernel_rfl) rfl (fun _ _ _ h => h) (by kernel_rfl) (⟨s0, s1⟩) (fun w hS_ => by obtain ⟨s_1, s_2⟩ := hS_; go_simp; try rfl) ?_; (try simp only [Act.put, sA, sB, sC]))
            refine wpAnyT_one (i := 8) rfl (by kernel_rfl) rfl ?_
            intro K_ hK_
            go_wp2_with ((go_at_call 108; refine (head_B _ (show HalfAt w6.drew from hh6) len hlen).mono ?_; rintro e w7 ⟨A7, c7, rfl, ho7, hc7, hm7, hb7⟩))
            refine hK_ _ _ ?_ ?_
            · exact fun _ _ => ⟨(hb7.cell (p := ⟨p, 0, none⟩) (cell_lt s0)).trans s0, (hb7.cell (p := ⟨p, 1, none⟩) (cell_lt s1)).trans s1⟩
            clear hK_ K_
            (try simp only [Act.put, sA, sB, sC])
            refine wpAnyT_sink (i := 9) rfl (by kernel_rfl) rfl (by kernel_rfl) ?_
            intro K_ hK_
            go_wp2_with ((go_at_call 107; refine (append_B ((hd6.drew).below hb7) A7 (headB len) c7 (Nat.le_trans (headB_22 hlen) (by decide)) (ho7.rd _)).mono ?_; rintro e w8 ⟨rfl, hd8, hf8⟩))
            (try (refine hK_ _ _ ?_; clear hK_ K_))
            (try simp only [Act.put, sA, sB, sC])
            refine wpAnyT_done (by kernel_rfl) ?_ _
            have hb37 : Below w3.heap.size w3 w7 := hb36.drew.trans (hb7.mono hb36.size)
            have hb38 : Below w3.heap.size w3 w8 := ((Fr.of_below (S := Nw w3 w4) hb37).trans' hf8 (fun x _ h => h)).below (fun x h => h.1)
            have hp7 : p < w7.heap.size := Nat.lt_of_lt_of_le hp6 hb7.size
            have hs8 : SegAt (Nw w3 w8) w8 p ⟨⟨false, headB len, 0⟩, len, [], 0⟩ := by
              obtain ⟨db', Ad', cd', e8, hd8⟩ := hd8
              injection e8 with e8
              injection e8 with e8
              injection e8 with e8
              subst e8
              rw [Dk.new_head hlen] at hd8
              exact SegAt.fresh ((hseg.eq (hb7.block p hp6)).fr hf8 (fun hx => Nat.lt_irrefl _ (Nat.lt_of_lt_of_le hx.2 hp4))) hd8 (fun x hx => hx.elim (fun hx => hx.1) (fun hx => Nat.le_trans hb37.size hx.1)) hp53 (fun hx => hx.elim (fun hx => by have := hx.2; omega) (fun hx => by have := hx.1; omega))
            have hgk : Sg.ok ⟨⟨false, headB len, 0⟩, len, [], 0⟩ := ⟨hlen, by simp, by simp, by simp⟩
            have h8 := h2.below hb38
            obtain ⟨c08, c18, -, z18, -, -, -, -, -, -⟩ := h8.facts
            have hH8 : ∀ x, H x → x < w3.heap.size := fun x hx => h2.lt x (h2.hS x hx)
            have hfl : (frame rec).length ≤ 65548 := by rw [length_frame]; omega
            have hdk : Dk.append ⟨false, headB len, 0⟩ (frame rec) = (⟨false, headB len ++ frame rec, 0⟩, 0) := by
              have := headB_22 hlen
              unfold Dk.append
              simp only [Bool.false_eq_true, if_false]
              rw [if_neg (by omega)]
            have hp9 : (ps ++ [p])[gs.length]? = some p := by rw [← HG.out]; simp
            have hg9 : (gs ++ [(⟨⟨false, headB len, 0⟩, len, [], 0⟩ : Sg)])[gs.length]? = some ⟨⟨false, headB len, 0⟩, len, [], 0⟩ := by simp
            have hup5 : (⟨⟨false, headB len ++ frame rec, 0⟩, len, [rec], 0⟩ : Sg).up := by
              refine ⟨rfl, ?_⟩
              simp only [List.length_append, List.length_singleton, length_frame]
              omega
            go_wp2_with (first
              | (at_builtin; refine wpList_append_row rfl (.tmp 65) (.tmp 67) 130 rfl TPs ip _ 8 Tryz.underlying130 hip hzp hsp hbp rfl (.slice A ps.length c) (ps.map ptr) rfl ((h8.row).below (below_new _ _)) ⟨w8.heap.size, 0, none⟩ (ptr p) rfl (heap_new_cell _ _ _) rfl (by rw [List.length_map]; unfold maxLen; omega) (by rw [List.length_map]; omega) (by decide) ?_; intro v10 w10 hrow10 hf10 hoth10; obtain ⟨A10, c10, rfl, hc10, hm10⟩ := hrow10.val; rw [List.length_append, List.length_map, List.length_singleton] at hrow10 hc10 ⊢; have hbk10 := (hoth10 b (Nat.lt_of_lt_of_le h8.blk.lt (below_new w8 _).size) (((h8.row).below (below_new w8 (.cells #[ptr p] TPs))).ownNe (h8.blk.eq ((below_new w8 (.cells #[ptr p] TPs)).block b h8.blk.lt)) (by decide))).trans ((below_new w8 (.cells #[ptr p] TPs)).block b h8.blk.lt); have z10 := (frozen_eq (a := ⟨b, 1, none⟩) hbk10).trans z18; have c110 := (cell_eq (a := ⟨b, 1, none⟩) hbk10).trans c18; have hgr := h2.grow hn256 hb38 hs8 hgk (below_new w8 (.cells #[ptr p] TPs)) hf10 hoth10 hrow10; obtain ⟨hW9, F9⟩ := hgr; obtain ⟨Sd9, db9, R9, cR9, s09, hd9, hSd9, hup9⟩ := hW9.disk hp9 hg9)
              | (go_at_call 107; refine (append_B hd9 A1 (frame rec) c1 (by omega) ((((hrf1.fr (S' := Non) (Fr.of_below hb38)).fr (S' := Non) (Fr.of_below (below_new w8 (.cells #[ptr p] TPs)))).fr hf10).fr (S' := fun x => x = b) ((Fr.refl (fun x => x = b) _).setCell (p := ⟨b, 1, none⟩) (.inl (show b = b from rfl)) ((h8.blk.eq hbk10).notB (by decide)) _) |>.rd _)).mono ?_; rintro e w12 ⟨rfl, hd12, hf12⟩; have ho12 := hup9 w12 _ hf12 hd12))
            rw [hdk] at ho12
            have hsz11 : (w10.setCell ⟨b, 1, none⟩ (.slice A10 (ps.length + 1) c10)).heap.size = w10.heap.size := by simp [World.setCell]
            have q1 := hb12.size
            have q2 := F9.size
            have q3 := hf12.size
            rw [hsz11] at q2 q3
            have hmid : AppMid S w w12 b p rec per gs := by
              refine ⟨_, _, _, _, _, _, ⟨false, headB len ++ frame rec, 0⟩, len, [], 0, gs.length, ho12, hp9, List.getElem?_set_self (List.getElem?_eq_some_iff.1 hg9).1, fun x hx => ?_, ((Fr.of_below hb12).trans' F9 (fun x _ hx => hx)).trans' hf12 (fun x hb hx => (hSd9 x hx).elim id (fun k => by have := k.1; omega)), (show 0 < 349525 by omega), hlen, ?_, fun g hg' => ?_⟩
              · rcases hx with (hx | hx) | hx
                · exact .inl hx
                · exact .inr ⟨Nat.le_trans q1 hx.1, Nat.lt_of_lt_of_le hx.2 q3⟩
                · have := hx.1
                  rw [hsz11] at this
                  exact .inr ⟨Nat.le_trans q1 (Nat.le_trans q2 this), hx.2⟩
              · have e8 := HE.out
                rw [hdk, if_pos rfl, show (gs ++ [(⟨⟨false, headB len, 0⟩, len, [], 0⟩ : Sg)]).length - 1 = gs.length by simp] at e8
                rw [List.set_set]
                exact Lib.hid e8
              · rw [List.set_set] at hg'
                rcases List.mem_or_eq_of_mem_set hg' with hm | rfl
                · rcases List.mem_append.1 hm with hm | hm
                  · exact hu rfl g hm
                  · rw [List.mem_singleton] at hm; rw [hm]; exact ⟨rfl, by simp⟩
                · exact hup5
            clear ho12 hd12 hf12 hup9 hd9 hSd9 hg9 hp9 HE hup5 hdk hW9 F9 s09 hrow10 hf10 hoth10 hbk10 z10 c110 c08 c18 z18 h8 hs8 hgk hd8 hf8 hb37 hb38 hb36 hd6 hseg hb6 hh6 s0 s1 ho7 hb7 hb5 hb4 hd4 hlL c1d hrf1 k2 hfl hp6 hp7 hp53 hp4 hH8 q2 q3 hsz11
            obtain ⟨S3, H3, A3, c3, ps3, gs3, d3, base, recs, safe, k, ho3, hp3, hg3, hS3, f3, hn9, n1, HE, hu3⟩ := hmid
            have HU := Lib.hid hu3
            clear hu3
            obtain ⟨Sh, R3, cr3, vals, s2, hrow, hvl, hSh, hne3, z2, hput⟩ := ho3.recAt hp3 hg3
            have hb3 : w.heap.size ≤ w12.heap.size := f3.size
            have hl3 : ∀ x, Up S w w12 x → x < w12.heap.size := Up.lt h.lt hb3
            refine wp_region_T #[[], [], [], [], [], [], [], [], [4], [4], [4], [4]] [4] (fun w' => w'.cell? ⟨p, 2, none⟩ = some (.slice R3 recs.length cr3) ∧ True) 12 rfl (by kernel_rfl) ?_
            (refine wpF (i := 0) rfl (by kernel_rfl) rfl (fun _ _ _ h => h) (fun _ => by go_simp; try rfl) ?_; (try simp only [Act.put, sA, sB, sC]))
            (refine wpF (i := 1) rfl (by kernel_rfl) rfl (fun _ _ _ h => h) (fun _ => by go_simp; try rfl) ?_; (try simp only [Act.put, sA, sB, sC]))
            (refine wpF (i := 2) rfl (by kernel_rfl) rfl (fun _ _ _ h => h) (fun _ => by go_simp; try rfl) ?_; (try simp only [Act.put, sA, sB, sC]))
            (refine wpF (i := 3) rfl (by kernel_rfl) rfl (fun _ _ _ h => h) (fun _ => by go_simp; try rfl) ?_; (try simp only [Act.put, sA, sB, sC]))
            (refine wpAnyT_read (i := 4) rfl (by kernel_rfl) rfl (fun _ _ _ h => h) (by kernel_rfl) (⟨s2, trivial⟩) (fun w hS_ => by obtain ⟨s_1, s_2⟩ := hS_; go_simp; try rfl) ?_; (try simp only [Act.put, sA, sB, sC]))
            (refine wpF (i := 5) rfl (by kernel_rfl) rfl (fun _ _ _ h => h) (fun _ => by go_simp; try rfl) ?_; (try simp only [Act.put, sA, sB, sC]))
            refine wpAnyT_one (i := 6) rfl (by kernel_rfl) rfl ?_
            intro K_ hK_
            go_wp2_with ((go_at_call 56; refine (clone_B S B rec cb _ (hr.fr f3).drew hrl).mono ?_; rintro e w4 ⟨A4, c4, rfl, hor4, hc4, hm4, hb4⟩; have e2 := (hb4.cell (p := ⟨p, 2, none⟩) (cell_lt s2)).trans s2))
            refine hK_ _ _ ?_ ?_
            · exact fun _ _ => ⟨e2, trivial⟩
            clear hK_ K_
            (try simp only [Act.put, sA, sB, sC])
            refine wpAnyT_one (i := 7) rfl (by kernel_rfl) rfl ?_
            intro K_ hK_
            go_wp2
            refine hK_ _ _ ?_ ?_
            · exact fun _ _ => ⟨((below_new _ _).cell (p := ⟨p, 2, none⟩) (cell_lt e2)).trans e2, trivial⟩
            clear hK_ K_
            (try simp only [Act.put, sA, sB, sC])
            refine wpAnyT_sink (i := 8) rfl (by kernel_rfl) rfl (by kernel_rfl) ?_
            intro K_ hK_
            refine oper_append_row (.tmp 84) (.tmp 87) 70 rfl TBs ib _ 24 Tryz.underlying70 hib hzb hsb hbb rfl (.slice R3 recs.length cr3) vals rfl ((Row.below (w := w12.drew) hrow hb4).below (below_new _ _)) ⟨w4.heap.size, 0, none⟩ (.slice A4 rec.length c4) rfl (heap_new_cell _ _ _) rfl (by rw [hvl]; unfold maxLen; omega) (by rw [hvl]; omega) (by decide) ?_; intro v5 w5 hrow5 hf5 hoth5; obtain ⟨A5, c5, rfl, hc5, hm5⟩ := hrow5.val; rw [List.length_append, hvl, List.length_singleton] at hrow5 hc5 ⊢; have hp6 := (hb4.trans ((below_new w4 (.cells #[.slice A4 rec.length c4] TBs)).mono hb4.size)); have hp5 := (hoth5 p (by have := hp6.size; exact Nat.lt_of_lt_of_le (cell_lt s2) this) hne3).trans (hp6.block p (cell_lt s2)); have g2 := (cell_eq (a := ⟨p, 2, none⟩) hp5).trans s2; have y2 := (frozen_eq (a := ⟨p, 2, none⟩) hp5).trans z2
            (try (refine hK_ _ _ ?_; clear hK_ K_))
            (try simp only [Act.put, sA, sB, sC])
            (refine wpF (i := 9) rfl (by kernel_rfl) rfl (fun _ _ _ h => h) (fun _ => by go_simp; try rfl) ?_; (try simp only [Act.put, sA, sB, sC]))
            (refine wpF (i := 10) rfl (by kernel_rfl) rfl (fun _ _ _ h => h) (fun _ => by go_simp; try rfl) ?_; (try simp only [Act.put, sA, sB, sC]))
            refine wpAnyT_sink (i := 11) rfl (by kernel_rfl) rfl (by kernel_rfl) ?_
            intro K_ hK_
            go_wp2
            (try (refine hK_ _ _ ?_; clear hK_ K_))
            (try simp only [Act.put, sA, sB, sC])
            refine wpAnyT_done (by kernel_rfl) ?_ _
            have hp6' := (hb4.trans ((below_new w4 (.cells #[.slice A4 rec.length c4] TBs)).mono hb4.size))
            have hp6 : Below w12.heap.size w12 (w4.alloc (.cells #[.slice A4 rec.length c4] TBs)) := ⟨hp6'.os, hp6'.tape, hp6'.output, hp6'.size, hp6'.block⟩
            have hp6s : w12.heap.size ≤ (w4.alloc (.cells #[.slice A4 rec.length c4] TBs)).heap.size := hp6.size
            obtain ⟨ho5, f5⟩ := hput w5 A5 c5 rec A4 c4 (hrow5.mono fun x _ hx => hx.imp_right fun k => ⟨Nat.le_trans hp6s k.1, k.2⟩) ((Fr.of_below (S := Sh) (w := w12) hp6).trans' hf5 (fun x _ hx => hx)) (fun x hx hn => (hoth5 x (Nat.lt_of_lt_of_le hx hp6s) hn).trans (hp6.block x hx)) hc4 hm4 ((((Own.of_row' hor4).mono (S' := fun x => w12.heap.size ≤ x) (fun _ h => h)).fr (Fr.of_below (S := Non) (below_new w4 _))).fr hf5) hn9 hlong
            have hg5 : (gs3.set k ⟨d3, base, recs ++ [rec], safe⟩)[k]? = some (⟨d3, base, recs ++ [rec], safe⟩ : Sg) := List.getElem?_set_self (List.getElem?_eq_some_iff.1 hg3).1
            obtain ⟨p', hp', db5, R5, cr5, s05, s15, s25, s35, y25, y35⟩ := ho5.segs.facts hg5
            rw [hp3] at hp'
            injection hp' with hp'
            subst hp'
            rw [List.length_append, List.length_singleton] at s25
            clear s2 g2 y2 e2 z2
            have hsz6 : (w5.setCell ⟨p, 2, none⟩ (.slice A5 (recs.length + 1) c5)).heap.size = w5.heap.size := by simp [World.setCell]
            have hsz5 : w12.heap.size ≤ w5.heap.size := Nat.le_trans hp6s hf5.size
            generalize w5.setCell ⟨p, 2, none⟩ (.slice A5 (recs.length + 1) c5) = w6 at *
            have k5 : IntKind.i64.wrap ((base : Int) + ((recs.length : Int) + 1)) = (base : Int) + ((recs.length : Int) + 1) := by rw [IntKind.wrap_i64]; omega
            have k6 : IntKind.i64.wrap ((base : Int) + ((recs.length : Int) + 1) - 1) = (base : Int) + ((recs.length : Int) + 1) - 1 := by rw [IntKind.wrap_i64]; omega
            clear s05 s35 y25 y35
            go_wp2
            refine wp_region_T #[[], [], [], [], [], [], [], [], [7], [3, 7], [3, 7], [3, 7], [3, 7]] [3, 7] (fun w' => w'.cell? ⟨p, 1, none⟩ = some (.int .i64 (base : Int)) ∧ w'.cell? ⟨p, 2, none⟩ = some (.slice R5 (recs.length + 1) cr5)) 13 rfl (by kernel_rfl) ?_
            (refine wpF (i := 0) rfl (by kernel_rfl) rfl (fun _ _ _ h => h) (fun _ => by go_simp; try rfl) ?_; (try simp only [Act.put, sA, sB, sC]))
            (refine wpF (i := 1) rfl (by kernel_rfl) rfl (fun _ _ _ h => h) (fun _ => by go_simp; try rfl) ?_; (try simp only [Act.put, sA, sB, sC]))
            (refine wpF (i := 2) rfl (by kernel_rfl) rfl (fun _ _ _ h => h) (fun _ => by go_simp; try rfl) ?_; (try simp only [Act.put, sA, sB, sC]))
            (refine wpAnyT_read (i := 3) rfl (by kernel_rfl) rfl (fun _ _ _ h => h) (by kernel_rfl) (⟨s15, s25⟩) (fun w hS_ => by obtain ⟨s_1, s_2⟩ := hS_; go_simp; try rfl) ?_; (try simp only [Act.put, sA, sB, sC]))
            (refine wpF (i := 4) rfl (by kernel_rfl) rfl (fun _ _ _ h => h) (fun _ => by go_simp; try rfl) ?_; (try simp only [Act.put, sA, sB, sC]))
            (refine wpF (i := 5) rfl (by kernel_rfl) rfl (fun _ _ _ h => h) (fun _ => by go_simp; try rfl) ?_; (try simp only [Act.put, sA, sB, sC]))
            (refine wpF (i := 6) rfl (by kernel_rfl) rfl (fun _ _ _ h => h) (fun _ => by go_simp; try rfl) ?_; (try simp only [Act.put, sA, sB, sC]))
            (refine wpAnyT_read (i := 7) rfl (by kernel_rfl) rfl (fun _ _ _ h => h) (by kernel_rfl) (⟨s15, s25⟩) (fun w hS_ => by obtain ⟨s_1, s_2⟩ := hS_; go_simp; try rfl) ?_; (try simp only [Act.put, sA, sB, sC]))
            (refine wpF (i := 8) rfl (by kernel_rfl) rfl (fun _ _ _ h => h) (fun _ => by go_simp; try rfl) ?_; (try simp only [Act.put, sA, sB, sC]))
            (refine wpF (i := 9) rfl (by kernel_rfl) rfl (fun _ _ _ h => h) (fun _ => by go_simp; try rfl) ?_; (try simp only [Act.put, sA, sB, sC]))
            (refine wpF (i := 10) rfl (by kernel_rfl) rfl (fun _ _ _ h => h) (fun _ => by go_simp; try rfl) ?_; (try simp only [Act.put, sA, sB, sC]))
            (refine wpF (i := 11) rfl (by kernel_rfl) rfl (fun _ _ _ h => h) (fun _ => by go_simp; try rfl) ?_; (try simp only [Act.put, sA, sB, sC]))
            (refine wpF (i := 12) rfl (by kernel_rfl) rfl (fun _ _ _ h => h) (fun _ => by go_simp; try rfl) ?_; (try simp only [Act.put, sA, sB, sC]))
            refine wpAnyT_done (by kernel_rfl) ?_ _
            go_wp2
            go_ret2
            unfold AppDid
            rw [HE.out]
            have ho6 : LogO (Up S w w6.drew) H3 w6.drew b A3 c3 ps3 _ := (ho5.below ((Below.refl _ w6).drew)).mono (fun x hx => by
              rcases hx with hx | hx
              · rcases hS3 x hx with hx | hx
                · exact .inl hx
                · exact .inr ⟨hx.1, show x < w6.heap.size by rw [hsz6]; exact Nat.lt_of_lt_of_le hx.2 hsz5⟩
              · exact .inr ⟨Nat.le_trans hb3 hx.1, show x < w6.heap.size by rw [hsz6]; exact hx.2⟩) (Up.lt h.lt (show w.heap.size ≤ w6.heap.size by rw [hsz6]; exact Nat.le_trans hb3 hsz5))
            refine ⟨?_, ho6.isLog (fun _ => HU.out), ?_⟩
            · have e1 : (base : Int) + ((recs.length : Int) + 1) - 1 = ((base + recs.length : Nat) : Int) := by omega
              rw [← e1]; rfl
            · exact (f3.trans' f5 (fun x hb hx => (hS3 x hx).elim id (fun k => by have := k.1; omega))).drew
      · have hrm : (⟨per, gs, false⟩ : Lg).room = gs := by unfold Lg.room; rw [if_neg hfull]
        obtain ⟨g, hg⟩ : ∃ g, gs[gs.length - 1]? = some g := by
          have h1 : gs.getLast? ≠ none := by
            intro e
            exact hfull (by unfold Lg.full; simp only; rw [e])
          obtain ⟨g, hg⟩ := Option.ne_none_iff_exists'.1 h1
          exact ⟨g, by rw [← getLast_at]; exact hg⟩
        have hnp : g.recs.length ≠ per := by
          intro e
          exact hfull (by unfold Lg.full; simp only; rw [getLast_at, hg]; simpa using e)
        have heq := Lg.append_eq hlong (fun h => hfull h.1) hrm hg
        obtain ⟨p, hp, -⟩ := h.segs.facts (k := gs.length - 1) (d := g.d) (base := g.base) (recs := g.recs) (safe := g.safe) hg
        have hl := lastL h
        have el : lastV ps = .pointer (some ⟨p, 0, none⟩) := by
          unfold lastV; rw [List.getLast?_eq_getElem?, hgl, hp]
        rw [el] at hl
        have hgu := hu rfl g (List.mem_of_getElem? hg)
        have hadd := Sg.up_add hgu rec
        have hok := h.ok.2.2.2 g (List.mem_of_getElem? hg)
        obtain ⟨d, base, recs, safe⟩ := g
        have n1 := hok.1
        have n2 := hok.2.1
        simp only at n1 n2 hnp
        have HE := Lib.hid heq
        have HG := Lib.hid hgl
        have HL := Lib.hid hrm
        have EL := Lib.hid el
        clear heq hgl hrm hfull hok el
        have k1 : ((recs.length : Int) == (per : Int)) = false := by rw [beq_eq_false_iff_ne]; omega
        go_enter Tryz.func55, Tryz.ntmps55
        go_wp2_with (first
          | (go_at_call 106; refine (askedL h).mono ?_; rintro e w' ⟨rfl, rfl⟩)
          | (go_at_call 60; refine hF.mono ?_; rintro e w1 ⟨A1, c1, rfl, ho1, hc1, hm1, hb1⟩; have hl1 := lastL (h.below hb1); rw [EL.out] at hl1; clear hF hl)
          | (go_at_call 78; refine hl1.mono ?_; rintro e w2 ⟨rfl, hb2⟩))
        have hb12 : Below w.heap.size w w2.drew := (hb1.trans (hb2.mono hb1.size)).drew
        have h2 : LogO S H w2.drew b A c ps ⟨per, gs, false⟩ := h.below hb12
        have h2' : LogO S H w2 b A c ps ⟨per, gs, false⟩ := h.below (hb1.trans (hb2.mono hb1.size))
        obtain ⟨c0, -, -, -, -, -, -, -, -, -⟩ := h2'.facts
        obtain ⟨p', hp', db', R', cr', s0', s1', s2', s3', y2', y3'⟩ := h2'.segs.facts hg
        rw [hp] at hp'
        injection hp' with hp'
        subst hp'
        refine wp_region_T #[[], [], [], [], [], [], [], [6], [], [], [], [], [6, 11], [6, 11]] [6, 11] (fun w' => w'.cell? ⟨p, 2, none⟩ = some (.slice R' recs.length cr') ∧ w'.cell? ⟨b, 0, none⟩ = some (.int .i64 (per : Int))) 14 rfl (by kernel_rfl) ?_
        (refine wpF (i := 0) rfl (by kernel_rfl) rfl (fun _ _ _ h => h) (fun _ => by go_simp; try rfl) ?_; (try simp only [Act.put, sA, sB, sC]))
        (refine wpF (i := 1) rfl (by kernel_rfl) rfl (fun _ _ _ h => h) (fun _ => by go_simp; try rfl) ?_; (try simp only [Act.put, sA, sB, sC]))
        (refine wpF (i := 2) rfl (by kernel_rfl) rfl (fun _ _ _ h => h) (fun _ => by go_simp; try rfl) ?_; (try simp only [Act.put, sA, sB, sC]))
        first
        | (refine wpAnyT_skip (i := 3) rfl (by kernel_rfl) (by first | rfl | (simp [Region.wanted, yielded]; done) | (simp [Region.wanted, yielded, undef, *]; done) | fail) (fun _ _ _ h => h) (fun h_ => absurd h_ (by decide)) ?_; (try simp only [Act.put, sA, sB, sC]))
        | (refine wpF (i := 3) rfl (by kernel_rfl) (by first | rfl | (simp [Region.wanted, yielded]; done) | (simp [Region.wanted, yielded, undef, *]; done) | fail) (fun _ _ _ h => h) (fun _ => by go_simp; try rfl) ?_; (try simp only [Act.put, sA, sB, sC]))
        first
        | (refine wpAnyT_skip (i := 4) rfl (by kernel_rfl) (by first | rfl | (simp [Region.wanted, yielded]; done) | (simp [Region.wanted, yielded, undef, *]; done) | fail) (fun _ _ _ h => h) (fun h_ => absurd h_ (by decide)) ?_; (try simp only [Act.put, sA, sB, sC]))
        | (refine wpF (i := 4) rfl (by kernel_rfl) (by first | rfl | (simp [Region.wanted, yielded]; done) | (simp [Region.wanted, yielded, undef, *]; done) | fail) (fun _ _ _ h => h) (fun _ => by go_simp; try rfl) ?_; (try simp only [Act.put, sA, sB, sC]))
        first
        | (refine wpAnyT_skip (i := 5) rfl (by kernel_rfl) (by first | rfl | (simp [Region.wanted, yielded]; done) | (simp [Region.wanted, yielded, undef, *]; done) | fail) (fun _ _ _ h => h) (fun h_ => absurd h_ (by decide)) ?_; (try simp only [Act.put, sA, sB, sC]))
        | (refine wpF (i := 5) rfl (by kernel_rfl) (by first | rfl | (simp [Region.wanted, yielded]; done) | (simp [Region.wanted, yielded, undef, *]; done) | fail) (fun _ _ _ h => h) (fun _ => by go_simp; try rfl) ?_; (try simp only [Act.put, sA, sB, sC]))
        first
        | (refine wpAnyT_skip (i := 6) rfl (by kernel_rfl) (by first | rfl | (simp [Region.wanted, yielded]; done) | (simp [Region.wanted, yielded, undef, *]; done) | fail) (fun _ _ _ h => h) (fun _ => ⟨s2', c0⟩) ?_; (try simp only [Act.put, sA, sB, sC]))
        | (refine wpAnyT_read (i := 6) rfl (by kernel_rfl) (by first | rfl | (simp [Region.wanted, yielded]; done) | (simp [Region.wanted, yielded, undef, *]; done) | fail) (fun _ _ _ h => h) (by kernel_rfl) (⟨s2', c0⟩) (fun w hS_ => by obtain ⟨s_1, s_2⟩ := hS_; go_simp; try rfl) ?_; (try simp only [Act.put, sA, sB, sC]))
        first
        | (refine wpAnyT_skip (i := 7) rfl (by kernel_rfl) (by first | rfl | (simp [Region.wanted, yielded]; done) | (simp [Region.wanted, yielded, undef, *]; done) | fail) (fun _ _ _ h => h) (fun h_ => absurd h_ (by decide)) ?_; (try simp only [Act.put, sA, sB, sC]))
        | (refine wpF (i := 7) rfl (by kernel_rfl) (by first | rfl | (simp [Region.wanted, yielded]; done) | (simp [Region.wanted, yielded, undef, *]; done) | fail) (fun _ _ _ h => h) (fun _ => by go_simp; try rfl) ?_; (try simp only [Act.put, sA, sB, sC]))
        first
        | (refine wpAnyT_skip (i := 8) rfl (by kernel_rfl) (by first | rfl | (simp [Region.wanted, yielded]; done) | (simp [Region.wanted, yielded, undef, *]; done) | fail) (fun _ _ _ h => h) (fun h_ => absurd h_ (by decide)) ?_; (try simp only [Act.put, sA, sB, sC]))
        | (refine wpF (i := 8) rfl (by kernel_rfl) (by first | rfl | (simp [Region.wanted, yielded]; done) | (simp [Region.wanted, yielded, undef, *]; done) | fail) (fun _ _ _ h => h) (fun _ => by go_simp; try rfl) ?_; (try simp only [Act.put, sA, sB, sC]))
        first
        | (refine wpAnyT_skip (i := 9) rfl (by kernel_rfl) (by first | rfl | (simp [Region.wanted, yielded]; done) | (simp [Region.wanted, yielded, undef, *]; done) | fail) (fun _ _ _ h => h) (fun h_ => absurd h_ (by decide)) ?_; (try simp only [Act.put, sA, sB, sC]))
        | (refine wpF (i := 9) rfl (by kernel_rfl) (by first | rfl | (simp [Region.wanted, yielded]; done) | (simp [Region.wanted, yielded, undef, *]; done) | fail) (fun _ _ _ h => h) (fun _ => by go_simp; try rfl) ?_; (try simp only [Act.put, sA, sB, sC]))
        first
        | (refine wpAnyT_skip (i := 10) rfl (by kernel_rfl) (by first | rfl | (simp [Region.wanted, yielded]; done) | (simp [Region.wanted, yielded, undef, *]; done) | fail) (fun _ _ _ h => h) (fun h_ => absurd h_ (by decide)) ?_; (try simp only [Act.put, sA, sB, sC]))
        | (refine wpF (i := 10) rfl (by kernel_rfl) (by first | rfl | (simp [Region.wanted, yielded]; done) | (simp [Region.wanted, yielded, undef, *]; done) | fail) (fun _ _ _ h => h) (fun _ => by go_simp; try rfl) ?_; (try simp only [Act.put, sA, sB, sC]))
        first
        | (refine wpAnyT_skip (i := 11) rfl (by kernel_rfl) (by first | rfl | (simp [Region.wanted, yielded]; done) | (simp [Region.wanted, yielded, undef, *]; done) | fail) (fun _ _ _ h => h) (fun _ => ⟨s2', c0⟩) ?_; (try simp only [Act.put, sA, sB, sC]))
        | (refine wpAnyT_read (i := 11) rfl (by kernel_rfl) (by first | rfl | (simp [Region.wanted, yielded]; done) | (simp [Region.wanted, yielded, undef, *]; done) | fail) (fun _ _ _ h => h) (by kernel_rfl) (⟨s2', c0⟩) (fun w hS_ => by obtain ⟨s_1, s_2⟩ := hS_; go_simp; try rfl) ?_; (try simp only [Act.put, sA, sB, sC]))
        first
        | (refine wpAnyT_skip (i := 12) rfl (by kernel_rfl) (by first | rfl | (simp [Region.wanted, yielded]; done) | (simp [Region.wanted, yielded, undef, *]; done) | fail) (fun _ _ _ h => h) (fun h_ => absurd h_ (by decide)) ?_; (try simp only [Act.put, sA, sB, sC]))
        | (refine wpF (i := 12) rfl (by kernel_rfl) (by first | rfl | (simp [Region.wanted, yielded]; done) | (simp [Region.wanted, yielded, undef, *]; done) | fail) (fun _ _ _ h => h) (fun _ => by go_simp; try rfl) ?_; (try simp only [Act.put, sA, sB, sC]))
        (refine wpF (i := 13) rfl (by kernel_rfl) rfl (fun _ _ _ h => h) (fun _ => by go_simp; try rfl) ?_; (try simp only [Act.put, sA, sB, sC]))
        refine wpAnyT_done (by kernel_rfl) ?_ _
        clear c0 s0' s1' s2' s3' y2' y3' h2'
        obtain ⟨Sd, db, R, cR, s0, hd, hSd, hup⟩ := h2.disk hp hg
        have hfl : (frame rec).length ≤ 70368744177664 := by rw [length_frame]; omega
        have hrf : Own Ever w2.drew A1 (frame rec) := (Own.mono ho1 (fun _ _ => trivial)).fr (S' := Non) (Fr.of_below hb2.drew)
        have hA := append_B hd A1 (frame rec) c1 hfl (hrf.rd Sd)
        have hfit : (d.append (frame rec)).2 = 0 → recs.length < 349525 := by
          intro hz
          have h2 := hgu.2
          have h1 := hgu.1
          simp only at h1 h2
          unfold Dk.append at hz
          rw [h1] at hz
          simp only [Bool.false_eq_true, if_false] at hz
          split at hz
          · exact absurd hz (by show (7 : Int) ≠ 0; omega)
          · rw [length_frame] at *; omega
        generalize hrr : d.append (frame rec) = rr at *
        by_cases hz0 : rr.2 = 0
        · rw [if_pos hz0] at HE
          have hz0' : (rr.2 == 0) = true := by rw [beq_iff_eq]; exact hz0
          have hn9 := hfit hz0
          have hup5 := hadd.resolve_right (fun hne => hne hz0)
          clear hadd hfit
          go_wp2_with (go_at_call 107; refine hA.mono ?_; rintro e w3 ⟨rfl, hd3, hf3⟩; have ho3 := hup w3 _ hf3 hd3)
          have hmid : AppMid S w w3 b p rec per gs := by
            refine ⟨_, _, _, _, _, _, rr.1, base, recs, safe, gs.length - 1, ho3, hp, List.getElem?_set_self (List.getElem?_eq_some_iff.1 hg).1, fun x hx => hx.imp_right (fun k => ⟨Nat.le_trans hb12.size k.1, k.2⟩), (Fr.of_below hb12).trans' hf3 (fun x _ hx => hSd x hx), hn9, n1, ?_, fun g hg' => ?_⟩
            · rw [List.set_set]; exact HE
            · rw [List.set_set] at hg'
              rcases List.mem_or_eq_of_mem_set hg' with hm | rfl
              · exact hu rfl g hm
              · exact hup5
          clear ho3 hd3 hf3 hup hd hSd hA hg HE hup5 hn9 n1 n2 hp
          obtain ⟨S3, H3, A3, c3, ps3, gs3, d3, base, recs, safe, k, ho3, hp3, hg3, hS3, f3, hn9, n1, HE, hu3⟩ := hmid
          have HU := Lib.hid hu3
          clear hu3
          obtain ⟨Sh, R3, cr3, vals, s2, hrow, hvl, hSh, hne3, z2, hput⟩ := ho3.recAt hp3 hg3
          have hb3 : w.heap.size ≤ w3.heap.size := f3.size
          have hl3 : ∀ x, Up S w w3 x → x < w3.heap.size := Up.lt h.lt hb3
          refine wp_region_T #[[], [], [], [], [], [], [], [], [4], [4], [4], [4]] [4] (fun w' => w'.cell? ⟨p, 2, none⟩ = some (.slice R3 recs.length cr3) ∧ True) 12 rfl (by kernel_rfl) ?_
          (refine wpF (i := 0) rfl (by kernel_rfl) rfl (fun _ _ _ h => h) (fun _ => by go_simp; try rfl) ?_; (try simp only [Act.put, sA, sB, sC]))
          (refine wpF (i := 1) rfl (by kernel_rfl) rfl (fun _ _ _ h => h) (fun _ => by go_simp; try rfl) ?_; (try simp only [Act.put, sA, sB, sC]))
          (refine wpF (i := 2) rfl (by kernel_rfl) rfl (fun _ _ _ h => h) (fun _ => by go_simp; try rfl) ?_; (try simp only [Act.put, sA, sB, sC]))
          (refine wpF (i := 3) rfl (by kernel_rfl) rfl (fun _ _ _ h => h) (fun _ => by go_simp; try rfl) ?_; (try simp only [Act.put, sA, sB, sC]))
          (refine wpAnyT_read (i := 4) rfl (by kernel_rfl) rfl (fun _ _ _ h => h) (by kernel_rfl) (⟨s2, trivial⟩) (fun w hS_ => by obtain ⟨s_1, s_2⟩ := hS_; go_simp; try rfl) ?_; (try simp only [Act.put, sA, sB, sC]))
          (refine wpF (i := 5) rfl (by kernel_rfl) rfl (fun _ _ _ h => h) (fun _ => by go_simp; try rfl) ?_; (try simp only [Act.put, sA, sB, sC]))
          refine wpAnyT_one (i := 6) rfl (by kernel_rfl) rfl ?_
          intro K_ hK_
          go_wp2_with ((go_at_call 56; refine (clone_B S B rec cb _ (hr.fr f3).drew hrl).mono ?_; rintro e w4 ⟨A4, c4, rfl, hor4, hc4, hm4, hb4⟩; have e2 := (hb4.cell (p := ⟨p, 2, none⟩) (cell_lt s2)).trans s2))
          refine hK_ _ _ ?_ ?_
          · exact fun _ _ => ⟨e2, trivial⟩
          clear hK_ K_
          (try simp only [Act.put, sA, sB, sC])
          refine wpAnyT_one (i := 7) rfl (by kernel_rfl) rfl ?_
          intro K_ hK_
          go_wp2
          refine hK_ _ _ ?_ ?_
          · exact fun _ _ => ⟨((below_new _ _).cell (p := ⟨p, 2, none⟩) (cell_lt e2)).trans e2, trivial⟩
          clear hK_ K_
          (try simp only [Act.put, sA, sB, sC])
          refine wpAnyT_sink (i := 8) rfl (by kernel_rfl) rfl (by kernel_rfl) ?_
          intro K_ hK_
          refine oper_append_row (.tmp 84) (.tmp 87) 70 rfl TBs ib _ 24 Tryz.underlying70 hib hzb hsb hbb rfl (.slice R3 recs.length cr3) vals rfl ((Row.below (w := w3.drew) hrow hb4).below (below_new _ _)) ⟨w4.heap.size, 0, none⟩ (.slice A4 rec.length c4) rfl (heap_new_cell _ _ _) rfl (by rw [hvl]; unfold maxLen; omega) (by rw [hvl]; omega) (by decide) ?_; intro v5 w5 hrow5 hf5 hoth5; obtain ⟨A5, c5, rfl, hc5, hm5⟩ := hrow5.val; rw [List.length_append, hvl, List.length_singleton] at hrow5 hc5 ⊢; have hp6 := (hb4.trans ((below_new w4 (.cells #[.slice A4 rec.length c4] TBs)).mono hb4.size)); have hp5 := (hoth5 p (by have := hp6.size; exact Nat.lt_of_lt_of_le (cell_lt s2) this) hne3).trans (hp6.block p (cell_lt s2)); have g2 := (cell_eq (a := ⟨p, 2, none⟩) hp5).trans s2; have y2 := (frozen_eq (a := ⟨p, 2, none⟩) hp5).trans z2
          (try (refine hK_ _ _ ?_; clear hK_ K_))
          (try simp only [Act.put, sA, sB, sC])
          (refine wpF (i := 9) rfl (by kernel_rfl) rfl (fun _ _ _ h => h) (fun _ => by go_simp; try rfl) ?_; (try simp only [Act.put, sA, sB, sC]))
          (refine wpF (i := 10) rfl (by kernel_rfl) rfl (fun _ _ _ h => h) (fun _ => by go_simp; try rfl) ?_; (try simp only [Act.put, sA, sB, sC]))
          refine wpAnyT_sink (i := 11) rfl (by kernel_rfl) rfl (by kernel_rfl) ?_
          intro K_ hK_
          go_wp2
          (try (refine hK_ _ _ ?_; clear hK_ K_))
          (try simp only [Act.put, sA, sB, sC])
          refine wpAnyT_done (by kernel_rfl) ?_ _
          have hp6' := (hb4.trans ((below_new w4 (.cells #[.slice A4 rec.length c4] TBs)).mono hb4.size))
          have hp6 : Below w3.heap.size w3 (w4.alloc (.cells #[.slice A4 rec.length c4] TBs)) := ⟨hp6'.os, hp6'.tape, hp6'.output, hp6'.size, hp6'.block⟩
          have hp6s : w3.heap.size ≤ (w4.alloc (.cells #[.slice A4 rec.length c4] TBs)).heap.size := hp6.size
          obtain ⟨ho5, f5⟩ := hput w5 A5 c5 rec A4 c4 (hrow5.mono fun x _ hx => hx.imp_right fun k => ⟨Nat.le_trans hp6s k.1, k.2⟩) ((Fr.of_below (S := Sh) (w := w3) hp6).trans' hf5 (fun x _ hx => hx)) (fun x hx hn => (hoth5 x (Nat.lt_of_lt_of_le hx hp6s) hn).trans (hp6.block x hx)) hc4 hm4 ((((Own.of_row' hor4).mono (S' := fun x => w3.heap.size ≤ x) (fun _ h => h)).fr (Fr.of_below (S := Non) (below_new w4 _))).fr hf5) hn9 hlong
          have hg5 : (gs3.set k ⟨d3, base, recs ++ [rec], safe⟩)[k]? = some (⟨d3, base, recs ++ [rec], safe⟩ : Sg) := List.getElem?_set_self (List.getElem?_eq_some_iff.1 hg3).1
          obtain ⟨p', hp', db5, R5, cr5, s05, s15, s25, s35, y25, y35⟩ := ho5.segs.facts hg5
          rw [hp3] at hp'
          injection hp' with hp'
          subst hp'
          rw [List.length_append, List.length_singleton] at s25
          clear s2 g2 y2 e2 z2
          have hsz6 : (w5.setCell ⟨p, 2, none⟩ (.slice A5 (recs.length + 1) c5)).heap.size = w5.heap.size := by simp [World.setCell]
          have hsz5 : w3.heap.size ≤ w5.heap.size := Nat.le_trans hp6s hf5.size
          generalize w5.setCell ⟨p, 2, none⟩ (.slice A5 (recs.length + 1) c5) = w6 at *
          have k5 : IntKind.i64.wrap ((base : Int) + ((recs.length : Int) + 1)) = (base : Int) + ((recs.length : Int) + 1) := by rw [IntKind.wrap_i64]; omega
          have k6 : IntKind.i64.wrap ((base : Int) + ((recs.length : Int) + 1) - 1) = (base : Int) + ((recs.length : Int) + 1) - 1 := by rw [IntKind.wrap_i64]; omega
          clear s05 s35 y25 y35
          go_wp2
          refine wp_region_T #[[], [], [], [], [], [], [], [], [7], [3, 7], [3, 7], [3, 7], [3, 7]] [3, 7] (fun w' => w'.cell? ⟨p, 1, none⟩ = some (.int .i64 (base : Int)) ∧ w'.cell? ⟨p, 2, none⟩ = some (.slice R5 (recs.length + 1) cr5)) 13 rfl (by kernel_rfl) ?_
          (refine wpF (i := 0) rfl (by kernel_rfl) rfl (fun _ _ _ h => h) (fun _ => by go_simp; try rfl) ?_; (try simp only [Act.put, sA, sB, sC]))
          (refine wpF (i := 1) rfl (by kernel_rfl) rfl (fun _ _ _ h => h) (fun _ => by go_simp; try rfl) ?_; (try simp only [Act.put, sA, sB, sC]))
          (refine wpF (i := 2) rfl (by kernel_rfl) rfl (fun _ _ _ h => h) (fun _ => by go_simp; try rfl) ?_; (try simp only [Act.put, sA, sB, sC]))
          (refine wpAnyT_read (i := 3) rfl (by kernel_rfl) rfl (fun _ _ _ h => h) (by kernel_rfl) (⟨s15, s25⟩) (fun w hS_ => by obtain ⟨s_1, s_2⟩ := hS_; go_simp; try rfl) ?_; (try simp only [Act.put, sA, sB, sC]))
          (refine wpF (i := 4) rfl (by kernel_rfl) rfl (fun _ _ _ h => h) (fun _ => by go_simp; try rfl) ?_; (try simp only [Act.put, sA, sB, sC]))
          (refine wpF (i := 5) rfl (by kernel_rfl) rfl (fun _ _ _ h => h) (fun _ => by go_simp; try rfl) ?_; (try simp only [Act.put, sA, sB, sC]))
          (refine wpF (i := 6) rfl (by kernel_rfl) rfl (fun _ _ _ h => h) (fun _ => by go_simp; try rfl) ?_; (try simp only [Act.put, sA, sB, sC]))
          (refine wpAnyT_read (i := 7) rfl (by kernel_rfl) rfl (fun _ _ _ h => h) (by kernel_rfl) (⟨s15, s25⟩) (fun w hS_ => by obtain ⟨s_1, s_2⟩ := hS_; go_simp; try rfl) ?_; (try simp only [Act.put, sA, sB, sC]))
          (refine wpF (i := 8) rfl (by kernel_rfl) rfl (fun _ _ _ h => h) (fun _ => by go_simp; try rfl) ?_; (try simp only [Act.put, sA, sB, sC]))
          (refine wpF (i := 9) rfl (by kernel_rfl) rfl (fun _ _ _ h => h) (fun _ => by go_simp; try rfl) ?_; (try simp only [Act.put, sA, sB, sC]))
          (refine wpF (i := 10) rfl (by kernel_rfl) rfl (fun _ _ _ h => h) (fun _ => by go_simp; try rfl) ?_; (try simp only [Act.put, sA, sB, sC]))
          (refine wpF (i := 11) rfl (by kernel_rfl) rfl (fun _ _ _ h => h) (fun _ => by go_simp; try rfl) ?_; (try simp only [Act.put, sA, sB, sC]))
          (refine wpF (i := 12) rfl (by kernel_rfl) rfl (fun _ _ _ h => h) (fun _ => by go_simp; try rfl) ?_; (try simp only [Act.put, sA, sB, sC]))
          refine wpAnyT_done (by kernel_rfl) ?_ _
          go_wp2
          go_ret2
          unfold AppDid
          rw [HE.out]
          have ho6 : LogO (Up S w w6.drew) H3 w6.drew b A3 c3 ps3 _ := (ho5.below ((Below.refl _ w6).drew)).mono (fun x hx => by
            rcases hx with hx | hx
            · rcases hS3 x hx with hx | hx
              · exact .inl hx
              · exact .inr ⟨hx.1, show x < w6.heap.size by rw [hsz6]; exact Nat.lt_of_lt_of_le hx.2 hsz5⟩
            · exact .inr ⟨Nat.le_trans hb3 hx.1, show x < w6.heap.size by rw [hsz6]; exact hx.2⟩) (Up.lt h.lt (show w.heap.size ≤ w6.heap.size by rw [hsz6]; exact Nat.le_trans hb3 hsz5))
          refine ⟨?_, ho6.isLog (fun _ => HU.out), ?_⟩
          · have e1 : (base : Int) + ((recs.length : Int) + 1) - 1 = ((base + recs.length : Nat) : Int) := by omega
            rw [← e1]; rfl
          · exact (f3.trans' f5 (fun x hb hx => (hS3 x hx).elim id (fun k => by have := k.1; omega))).drew
        · have hz0' : (rr.2 == 0) = false := by rw [beq_eq_false_iff_ne]; exact hz0
          have hsame : rr.1 = d := by rw [← hrr]; exact Dk.append_no (by rw [hrr]; exact hz0)
          rw [if_neg hz0] at HE
          have HS := Lib.hid hsame
          clear hsame hz0 hadd hrr
          go_wp2_with (go_at_call 107; refine hA.mono ?_; rintro e w3 ⟨rfl, hd3, hf3⟩; have ho3 := hup w3 _ hf3 hd3)
          go_ret2
          unfold AppDid
          rw [HE.out]
          rw [HS.out, set_same hg] at ho3
          exact ⟨rfl, (ho3.upL hb12.size hf3.size h.lt).isLog hu, (Fr.of_below hb12).trans' hf3 (fun x _ hx => hSd x hx)⟩
    · simp only [if_neg hlong] at hF
      have e : Lg.append ⟨per, gs, false⟩ rec = (⟨per, gs, false⟩, 0, 3) := by unfold Lg.append; simp only [Bool.false_eq_true, if_false]; rw [if_pos (by omega)]
      have E := Lib.hid e
      clear e
      go_enter Tryz.func55, Tryz.ntmps55
      go_wp2_with (first
        | (go_at_call 106; refine (askedL h).mono ?_; rintro e w' ⟨rfl, rfl⟩)
        | (go_at_call 60; refine hF.mono ?_; rintro e w1 ⟨rfl, rfl⟩; clear hF))
      go_ret2
      unfold AppDid
      rw [E.out]
      exact ⟨rfl, h.same hu, Fr.refl _ _⟩
  · have e : Lg.append ⟨per, gs, true⟩ rec = (⟨per, gs, true⟩, 0, 10) := by unfold Lg.append; simp
    have E := Lib.hid e
    clear e hF
    go_enter Tryz.func55, Tryz.ntmps55
    go_wp2_with (go_at_call 106; refine (askedL h).mono ?_; rintro e w' ⟨rfl, rfl⟩)
    go_ret2
    unfold AppDid
    rw [E.out]
    exact ⟨rfl, h.same hu, Fr.refl _ _⟩
end
end Go.Proofs.YtediidajdpdeiaaGreatDoor
