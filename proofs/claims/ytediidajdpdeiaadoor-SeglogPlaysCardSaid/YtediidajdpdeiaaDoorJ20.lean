/- The chapter's example (layer 7): the walk. -/
import Derived.Test.YtediidajdpdeiaaDoorJ19
import Derived.Lib.ConvBytes
import Derived.Test.YtediidajdpdeiaaDoorJ9
import Derived.Test.YtediidajdpdeiaaDoorJ16
import Derived.Test.YtediidajdpdeiaaDoorJ17

namespace Go.Proofs.YtediidajdpdeiaaDoor
open Go.RowKit CrcM
set_option maxRecDepth 100000

theorem bytesWorld_below (w : World) (e : TypeId) (s : ByteArray) : Below w.heap.size w (Lib.bytesWorld w e s) :=
  ⟨rfl, rfl, rfl, by rw [Lib.bytesWorld_size]; omega, fun j hj => Lib.bytesWorld_at_old w e s j hj⟩
theorem bytesWorld_arg (W w : World) (l : List UInt8) : Arg W (Lib.bytesWorld w TB ⟨l.toArray⟩) (some ⟨w.heap.size, 0, none⟩) l :=
  (Own.of_cells (S := fun _ => True) (Lib.bytesWorld_at_new w TB ⟨l.toArray⟩) trivial (by
    unfold Lib.bytesCells
    rw [Array.toList_append]
    simp [byteV])).arg

theorem works_07 (W w : World) (hb : Below W.heap.size W w) (hh : HalfAt W) : Calls Tryd.prog 41 #[] w fun e w' => e = .returned (.bool true) ∧ Below W.heap.size W w' := by
  have kc := fun (w : World) (C : Array Value) (n c : Nat) => Lib.run_convert_bytes_const (P := Tryd.prog) w 22 TB C n c Tryd.underlying22 Tryd.underlying5
  have ks := fun (w : World) (s : ByteArray) => Lib.run_convert_string_bytes (P := Tryd.prog) w 9 22 TB s Tryd.underlying9 Tryd.underlying22 Tryd.underlying5
  go_enter Tryd.func41, Tryd.ntmps41
  go_wp2_with (go_at_call 34; refine (new_G hb 2 (by decide) (by decide)).mono ?_; rintro e w1 ⟨b, rfl, h1, hb1⟩)
  have hlit := Blk.new w1 9 #[.string ⟨#[120]⟩, .string ⟨#[121]⟩, .string ⟨#[122]⟩]
  have h2 := h1.mono (below_new w1 (.cells #[.string ⟨#[120]⟩, .string ⟨#[121]⟩, .string ⟨#[122]⟩] 9))
  have h2' := h2.sub (X' := fun x => x = w1.heap.size) (fun x e => .inr ⟨by omega, by simp [e]⟩)
  have hcell : ∀ k, k < 3 → ∀ w' : World, w'.heap[w1.heap.size]? = some (Obj.cells #[.string ⟨#[120]⟩, .string ⟨#[121]⟩, .string ⟨#[122]⟩] 9 (0, 0)) → w'.cell? ⟨w1.heap.size, k, none⟩ = some (.string ⟨(exB k).toArray⟩) := fun k hk w' hw => by
    have hB : Blk w' w1.heap.size 9 #[.string ⟨#[120]⟩, .string ⟨#[121]⟩, .string ⟨#[122]⟩] := hw
    refine hB.cell k ?_
    match k, hk with
    | 0, _ => rfl
    | 1, _ => rfl
    | 2, _ => rfl
  go_loopw [17] (fun i wr => ∃ k : Nat, k ≤ 3 ∧ i = .int .i64 (k : Int) ∧ LiveG W wr b (exL k) (fun x => x = w1.heap.size) ∧ wr.heap[w1.heap.size]? = some (Obj.cells #[.string ⟨#[120]⟩, .string ⟨#[121]⟩, .string ⟨#[122]⟩] 9 (0, 0))) (fun i _ => 3 - (intOf i).toNat)
  case atStart => exact ⟨0, by omega, rfl, h2', hlit⟩
  case round =>
    obtain ⟨k, hk, rfl, hL, hcs⟩ := hrel
    by_cases hlt : k < 3
    · have a1 := hcell k hlt wr hcs
      have hl := ex_len ⟨k, by omega⟩
      have hlt' : (k : Int) < 3 := by omega
      have hbl : (exB k).length ≤ 70368744177664 := by unfold exB; simp
      clear hcell
      go_wp2_with (go_at_call 35; refine (append_G (hL.mono' (bytesWorld_below wr TB ⟨(exB k).toArray⟩)) hh hl _ (exB k) _ (bytesWorld_arg W wr (exB k)) hbl).mono ?_; rintro e w2 ⟨rfl, h2, hx, -⟩)
      go_roundw
      case rel => exact ⟨k + 1, by omega, by go_num, h2, ((hx _ rfl).trans (Lib.bytesWorld_at_old _ _ _ _ (hL.ltX _ rfl))).trans hcs⟩
      case measure => simp [intOf]; omega
    · obtain rfl : k = 3 := by omega
      obtain ⟨v1, v2, v3, v4, v5, v6, v7⟩ := ex_vals
      have hL0 := hL.sub (X' := Non) (fun _ h => h.elim)
      clear hcell hL hcs hlit h1 h2 h2'
      go_wp2_with (first
        | (go_at_call 46; refine (sync_G hL0).mono ?_; rintro e w3 ⟨rfl, h3, -⟩)
        | (go_at_call 35; refine (append_G (L := exL3) (h3.mono' ((below_new w3 (.cells #[.int .u8 119] TB (1, 2))))) hh v1 _ [119] _ (Arg.lit _ (heap_alloc_new _ _) (by rfl)) (by decide)).mono ?_; rintro e w4 ⟨rfl, h4, -⟩; have hL4 := len_G (L := exL4) h4; rw [v2] at hL4)
        | (go_at_call 37; refine hL4.mono ?_; rintro e w5 ⟨rfl, h5, -⟩; have hS5 := safe_G h5; rw [v3] at hS5; clear hL4)
        | (go_at_call 38; refine hS5.mono ?_; rintro e w6 ⟨rfl, h6, -⟩; have hC6 := crash_G h6 0 0 (by decide) (by decide) (by decide) (by decide); unfold LiveGDid at hC6; rw [v4] at hC6)
        | (go_at_call 43; refine hC6.mono ?_; rintro e w7 ⟨rfl, h7, -⟩; have hR7 := restart_G (L := exL5) h7 hh; unfold LiveGDid at hR7; rw [v5] at hR7)
        | (go_at_call 44; refine hR7.mono ?_; rintro e w8 ⟨rfl, h8, -⟩; have hL8 := len_G (L := exL6) h8; rw [v6] at hL8)
        | (go_at_call 37; refine hL8.mono ?_; rintro e w9 ⟨rfl, h9, -⟩; have hs9 := segments_G h9; unfold SegsLen at hs9; rw [v7] at hs9)
        | (go_at_call 36; refine hs9.mono ?_; rintro e w10 ⟨A10, c10, rfl, h10, -⟩))
      go_ret
      exact ⟨rfl, h10.below⟩
end Go.Proofs.YtediidajdpdeiaaDoor

/- Lists of records that a law holds (layer 7): what stays of them, and parts of them. -/
namespace Go.Proofs.YtediidajdpdeiaaDoor
open Go.RowKit CrcM
set_option maxRecDepth 100000

/-- a list of records in X -/
def Held (X : Nat → Prop) (w : World) (A : Option Addr) (c : Nat) (recs : List (List UInt8)) : Prop := ∃ vals, Row X w TBs (.slice A recs.length c) vals ∧ Recs w vals recs

section
variable {X X' : Nat → Prop} {w w' : World} {A : Option Addr} {c : Nat} {recs : List (List UInt8)}
theorem Own.bk {S : Nat → Prop} {A : Option Addr} {l : List UInt8} (h : Own S w A l) (k : BK w w') : Own S w' A l := fun j x hx => by
  obtain ⟨ad, e, hc, hb, hs⟩ := h j x hx
  exact ⟨ad, e, (cell_eq (by rw [add_block]; exact k _ hb)).trans hc, hb.eq (k _ hb), hs⟩
theorem Recs.bk {vals : List Value} (h : Recs w vals recs) (k : BK w w') : Recs w' vals recs :=
  ⟨h.1, fun i r hr => by
    obtain ⟨A, c, h1, h2, h3, h4⟩ := h.2 i r hr
    exact ⟨A, c, h1, h2, h3, h4.bk k⟩⟩
theorem Held.xk (h : Held X w A c recs) (k : XK X w w') (kb : BK w w') : Held X w' A c recs := by
  obtain ⟨vals, h1, h2⟩ := h
  exact ⟨vals, h1.same k, h2.bk kb⟩
theorem Held.below (h : Held X w A c recs) (hb : Below w.heap.size w w') : Held X w' A c recs := by
  obtain ⟨vals, h1, h2⟩ := h
  exact ⟨vals, Row.below h1 hb, h2.fr (Fr.of_below (S := Non) hb)⟩
theorem Held.mono (h : Held X w A c recs) (hs : ∀ x, X x → X' x) : Held X' w A c recs := by
  obtain ⟨vals, h1, h2⟩ := h
  exact ⟨vals, h1.mono (fun x _ hx => hs x hx), h2⟩
theorem Held.cap (h : Held X w A c recs) : recs.length ≤ c ∧ c ≤ maxLen := by
  obtain ⟨vals, h1, h2⟩ := h
  obtain ⟨A', c', e, h3, h4⟩ := h1.val
  injection e with e1 e2 e3
  subst e3
  exact ⟨by omega, h4⟩
theorem Held.take (h : Held X w A c recs) (n : Nat) (hn : n ≤ recs.length) : ∃ vals, Row X w TBs (.slice A n c) vals ∧ Recs w vals (recs.take n) := by
  obtain ⟨vals, h1, h2⟩ := h
  have hr : Recs w (vals.take n) (recs.take n) := by
    refine ⟨by rw [List.length_take, List.length_take, h2.1], fun i r hr => ?_⟩
    rw [List.getElem?_take] at hr
    split at hr
    · rename_i hi
      obtain ⟨A, c, h3, h4⟩ := h2.2 i r hr
      exact ⟨A, c, by rw [List.getElem?_take_of_lt hi]; exact h3, h4⟩
    · cases hr
  refine ⟨vals.take n, ?_, hr⟩
  have hvl := h2.1
  rcases h1 with ⟨e, h3⟩ | ⟨g, o, c', cur, e, h3, h4, h5, h6, h7, h8⟩
  · injection e with e1 e2 e3
    subst e1 e3
    obtain rfl : n = 0 := by omega
    exact .inl ⟨rfl, rfl⟩
  · injection e with e1 e2 e3
    subst e1 e3
    refine .inr ⟨g, o, c, cur, by rw [List.length_take]; congr 1; omega, h3, h4, by rw [List.length_take]; omega, h6, h7, ?_⟩
    rw [List.length_take, Nat.min_eq_left (by omega), ← h8, List.take_take, Nat.min_eq_left (by omega)]
theorem Held.drop (h : Held X w A c recs) (n : Nat) (hn : n < recs.length) : ∃ g o, A = some ⟨g, o, none⟩ ∧ Held X w (some ⟨g, o + n, none⟩) (c - n) (recs.drop n) := by
  obtain ⟨vals, h1, h2⟩ := h
  have hvl := h2.1
  obtain ⟨g, o, c', e, h3, h4⟩ := h1.drop (n := n) (by omega)
  injection e with e1 e2 e3
  subst e1 e3
  refine ⟨g, o, rfl, vals.drop n, ?_, ?_⟩
  · rw [List.length_drop, ← hvl]
    exact h4
  · refine ⟨by rw [List.length_drop, List.length_drop, hvl], fun i r hr => ?_⟩
    rw [List.getElem?_drop] at hr
    obtain ⟨A, c, h5, h6⟩ := h2.2 _ r hr
    exact ⟨A, c, by rw [List.getElem?_drop]; exact h5, h6⟩
theorem alike_H {Xa Xb : Nat → Prop} {B : Option Addr} {cb : Nat} {ys : List (List UInt8)} (ha : Held Xa w A c recs) (hb : Held Xb w B cb ys) :
    Calls Tryd.prog 45 #[.slice A recs.length c, .slice B ys.length cb] w fun e w' => e = .returned (.bool (decide (recs = ys))) ∧ Below w.heap.size w w' := by
  obtain ⟨va, h1, h2⟩ := ha
  obtain ⟨vb, h3, h4⟩ := hb
  exact alike_B w A recs c va B ys cb vb h1 h2 h3 h4
theorem alike_take {Xa Xb : Nat → Prop} {B : Option Addr} {cb : Nat} {ys : List (List UInt8)} (ha : Held Xa w A c recs) (hb : Held Xb w B cb ys) (n : Nat) (hn : n ≤ ys.length) :
    Calls Tryd.prog 45 #[.slice A recs.length c, .slice B n cb] w fun e w' => e = .returned (.bool (decide (recs = ys.take n))) ∧ Below w.heap.size w w' := by
  obtain ⟨va, h1, h2⟩ := ha
  obtain ⟨vb, h3, h4⟩ := hb.take n hn
  have hl : (ys.take n).length = n := by rw [List.length_take]; omega
  have := alike_B w A recs c va B (ys.take n) cb vb h1 h2 (by rw [hl]; exact h3) h4
  rw [hl] at this
  exact this
theorem alike_take2 {Xa Xb : Nat → Prop} {B : Option Addr} {cb : Nat} {ys : List (List UInt8)} (ha : Held Xa w A c recs) (hb : Held Xb w B cb ys) (n : Nat) (hn : n ≤ recs.length) :
    Calls Tryd.prog 45 #[.slice A n c, .slice B ys.length cb] w fun e w' => e = .returned (.bool (decide (recs.take n = ys))) ∧ Below w.heap.size w w' := by
  obtain ⟨va, h1, h2⟩ := ha.take n hn
  obtain ⟨vb, h3, h4⟩ := hb
  have hl : (recs.take n).length = n := by rw [List.length_take]; omega
  have := alike_B w A (recs.take n) c va B ys cb vb (by rw [hl]; exact h1) h2 h3 h4
  rw [hl] at this
  exact this
theorem alike_nil (w : World) (A B : Option Addr) (ca cb : Nat) : Calls Tryd.prog 45 #[.slice A 0 ca, .slice B 0 cb] w fun e w' => e = .returned (.bool true) ∧ Below w.heap.size w w' := by
  go_enter Tryd.func45, Tryd.ntmps45
  go_wp2
  go_loopw [13] (fun i wr => i = .int .i64 0 ∧ Below w.heap.size w wr) (fun _ _ => 0)
  case atStart => exact ⟨rfl, Below.refl _ _⟩
  case round =>
    obtain ⟨rfl, hb9⟩ := hrel
    go_wp2
    go_ret
    exact ⟨rfl, hb9⟩
end

/-- WHAT all leaves, for a law -/
theorem all_H {W w : World} {b : Nat} {L : Lg} {X : Nat → Prop} (h : LiveG W w b L X) {m : Nat} (hinv : L.inv m) (hm : m ≤ 1048576) :
    Calls Tryd.prog 40 #[.pointer (some ⟨b, 0, none⟩)] w fun e w' => ∃ A c, e = .returned (.tuple #[.slice A L.recs.length c, .bool true]) ∧ Held (Up X w w') w' A c L.recs ∧ LiveG W w' b L (Up X w w') ∧ Below w.heap.size w w' := by
  refine (all_G h hinv hm).mono ?_
  rintro e w' ⟨A, c, vals, rfl, h1, h2, h3, h4⟩
  exact ⟨A, c, rfl, ⟨vals, h1.mono (fun x hl hx => .inr ⟨hx, hl⟩), h2⟩, h3, h4⟩
end Go.Proofs.YtediidajdpdeiaaDoor

/- The log's Copy (layer 7): the walk. -/
namespace Go.Proofs.YtediidajdpdeiaaDoor
open Go.RowKit CrcM
set_option maxRecDepth 100000

theorem ownsBs_none (w : World) : (w.alloc (.cells #[] TBs)).ownsRow w.heap.size TBs 1 (.slice (some ⟨w.heap.size, 0, none⟩) 0 0) 0 [] :=
  World.ownsRow_made w #[] 0 (Nat.le_refl _) (by simp [maxLen]) (by simp)

/-- WHAT a clone of a row of records leaves -/
def ClonedR (w : World) (vals : List Value) (e : Ending) (w' : World) : Prop := ∃ R c, e = .returned (.slice R vals.length c) ∧ Row (Nw w w') w' TBs (.slice R vals.length c) vals ∧ Below w.heap.size w w'
theorem cloneRow_B {S : Nat → Prop} {w : World} {R : Option Addr} {n c : Nat} {vals : List Value} (hn : n = vals.length) (hr : Row S w TBs (.slice R n c) vals) (h1 : ∀ u ∈ vals, u.oneCell' = true) (hl : n ≤ 349525) :
    Calls Tryd.prog 95 #[.slice R n c] w (ClonedR w vals) := by
  obtain ⟨ib, hib, hzb, hsb, hbb⟩ := info_parts info_bs
  subst hn
  rcases R with _ | ad
  · have hv : vals = [] ∧ c = 0 := by
      rcases hr with ⟨h, rfl⟩ | ⟨g, o, c', cur, h, -⟩
      · injection h with _ _ h
        exact ⟨rfl, h⟩
      · injection h with h
        cases h
    obtain ⟨rfl, rfl⟩ := hv
    have hnil := fun (w : World) => Lib.run_eql_slice_nil w (P := Tryd.prog) 45 TBs none 0 0 0 0 Tryd.underlying45
    go_enter Tryd.func95, Tryd.ntmps95
    go_wp2
    go_ret
    exact ⟨none, 0, rfl, Row.nil _ _ _, Below.refl _ _⟩
  · have hnil := fun (w : World) => Lib.run_eql_slice_nil w (P := Tryd.prog) 45 TBs (some ad) vals.length c 0 0 Tryd.underlying45
    have hb0 := below_new w (.cells #[] TBs)
    have hr0 := hr.below hb0
    go_enter Tryd.func95, Tryd.ntmps95
    go_wp2_with (at_builtin; refine wpList_append_rd rfl (.tmp 5) (.tmp 6) 45 rfl TBs ib _ 24 Tryd.underlying45 hib hzb hsb hbb rfl w.heap.size _ 0 [] rfl (ownsBs_none w) _ (some ad) vals.length c vals rfl rfl hr0 h1 (by unfold maxLen; omega) (by omega) hb0.size ?_; intro v1 w1 ho1 hg1; rw [Nat.zero_add, List.nil_append] at ho1; obtain ⟨A1, c1, rfl, hc1, hm1⟩ := own_val ho1)
    go_ret
    have hb1 : Below w.heap.size w w1 := hb0.grown hg1 hb0.size (fun j hj => by injection hj with hj; subst hj; exact Nat.le_refl _)
    exact ⟨A1, c1, rfl, (Row.of_own ho1 (S := fun x => w.heap.size ≤ x) (fun g hg => own_grown ho1 hg)).mono (fun x hx hs => ⟨hs, hx⟩), hb1⟩

section
variable {S H : Nat → Prop} {w : World} {b : Nat} {A : Option Addr} {c : Nat} {ps : List Nat} {L : Lg}
/-- WHAT Copy leaves -/
def CopyDid (w : World) (L : Lg) (e : Ending) (w' : World) : Prop := ∃ b', e = .returned (.pointer (some ⟨b', 0, none⟩)) ∧ LogAt (Nw w w') w' b' L ∧ Below w.heap.size w w'
theorem copyL (h : LogO S H w b A c ps L) (hu : L.up) : Calls Tryd.prog 49 #[.pointer (some ⟨b, 0, none⟩)] w (CopyDid w L) := by
  obtain ⟨ip, hip, hzp, hsp, hbp⟩ := info_parts info_ps
  obtain ⟨per, gs, dn⟩ := L
  have hok := h.ok
  obtain ⟨c0, c1, c2, z1, z2, q0, q1, q2, q3, q4⟩ := h.facts
  have HQ := Lib.hid q1
  have HU := Lib.hid hu
  have HOK := Lib.hid hok
  clear q1 hu hok
  go_enter Tryd.func49, Tryd.ntmps49
  go_wp2_with (go_at_call 87; refine (noneL h).mono ?_; rintro e w' ⟨rfl, rfl⟩)
  refine wp_region_T #[[], [], [], [], [], [], [], [], [3, 7], [3, 7], [3, 7]] [3, 7] (fun w' => w'.cell? ⟨b, 0, none⟩ = some (.int .i64 (per : Int)) ∧ w'.cell? ⟨b, 2, none⟩ = some (.bool dn)) 11 rfl (by kernel_rfl) ?_
  (refine wpAnyT_free (i := 0) rfl (by kernel_rfl) rfl (fun _ _ _ h => h) (by kernel_rfl) (fun _ => by go_simp; try rfl) ?_; (try simp only [Act.put, List.setIfInBounds_toArray, List.set_cons_zero, List.set_cons_succ]))
  (refine wpAnyT_free (i := 1) rfl (by kernel_rfl) rfl (fun _ _ _ h => h) (by kernel_rfl) (fun _ => by go_simp; try rfl) ?_; (try simp only [Act.put, List.setIfInBounds_toArray, List.set_cons_zero, List.set_cons_succ]))
  (refine wpAnyT_free (i := 2) rfl (by kernel_rfl) rfl (fun _ _ _ h => h) (by kernel_rfl) (fun _ => by go_simp; try rfl) ?_; (try simp only [Act.put, List.setIfInBounds_toArray, List.set_cons_zero, List.set_cons_succ]))
  (refine wpAnyT_read (i := 3) rfl (by kernel_rfl) rfl (fun _ _ _ h => h) (by kernel_rfl) (⟨c0, c2⟩) (fun w hS_ => by obtain ⟨s_1, s_2⟩ := hS_; go_simp; try rfl) ?_; (try simp only [Act.put, List.setIfInBounds_toArray, List.set_cons_zero, List.set_cons_succ]))
  (refine wpAnyT_free (i := 4) rfl (by kernel_rfl) rfl (fun _ _ _ h => h) (by kernel_rfl) (fun _ => by go_simp; try rfl) ?_; (try simp only [Act.put, List.setIfInBounds_toArray, List.set_cons_zero, List.set_cons_succ]))
  (refine wpAnyT_free (i := 5) rfl (by kernel_rfl) rfl (fun _ _ _ h => h) (by kernel_rfl) (fun _ => by go_simp; try rfl) ?_; (try simp only [Act.put, List.setIfInBounds_toArray, List.set_cons_zero, List.set_cons_succ]))
  (refine wpAnyT_free (i := 6) rfl (by kernel_rfl) rfl (fun _ _ _ h => h) (by kernel_rfl) (fun _ => by go_simp; try rfl) ?_; (try simp only [Act.put, List.setIfInBounds_toArray, List.set_cons_zero, List.set_cons_succ]))
  (refine wpAnyT_read (i := 7) rfl (by kernel_rfl) rfl (fun _ _ _ h => h) (by kernel_rfl) (⟨c0, c2⟩) (fun w hS_ => by obtain ⟨s_1, s_2⟩ := hS_; go_simp; try rfl) ?_; (try simp only [Act.put, List.setIfInBounds_toArray, List.set_cons_zero, List.set_cons_succ]))
  (refine wpAnyT_free (i := 8) rfl (by kernel_rfl) rfl (fun _ _ _ h => h) (by kernel_rfl) (fun _ => by go_simp; try rfl) ?_; (try simp only [Act.put, List.setIfInBounds_toArray, List.set_cons_zero, List.set_cons_succ]))
  refine wpAnyT_sink (i := 9) rfl (by kernel_rfl) rfl (by kernel_rfl) ?_
  intro K_ hK_
  go_wp2
  (try (refine hK_ _ _ ?_; clear hK_ K_))
  (try simp only [Act.put, List.setIfInBounds_toArray, List.set_cons_zero, List.set_cons_succ])
  (refine wpAnyT_free (i := 10) rfl (by kernel_rfl) rfl (fun _ _ _ h => h) (by kernel_rfl) (fun _ => by go_simp; try rfl) ?_; (try simp only [Act.put, List.setIfInBounds_toArray, List.set_cons_zero, List.set_cons_succ]))
  refine wpAnyT_done (by kernel_rfl) ?_ _
  have hb0 : Below w.heap.size w (w.alloc (.cells #[.int .i64 (per : Int), .slice none 0 0, .bool dn] TLg)).drew := (((Below.refl w.heap.size w)).alloc (Nat.le_refl _) _).drew
  have hL0 : LogO (Nw w (w.alloc (.cells #[.int .i64 (per : Int), .slice none 0 0, .bool dn] TLg)).drew) (Nw w (w.alloc (.cells #[.int .i64 (per : Int), .slice none 0 0, .bool dn] TLg)).drew) (w.alloc (.cells #[.int .i64 (per : Int), .slice none 0 0, .bool dn] TLg)).drew w.heap.size none 0 [] ⟨per, gs.take 0, dn⟩ :=
    ⟨fun _ h => h, ⟨Nat.le_refl _, by simp⟩, (Blk.new _ _ _).drew, Row.nil _ _ _, Segs.nil _ _ _, fun x hx => hx.2, ⟨HOK.out.1, HOK.out.2.1, by simp, fun g hg => by simp at hg⟩, fun _ _ => trivial⟩
  generalize (w.alloc (.cells #[.int .i64 (per : Int), .slice none 0 0, .bool dn] TLg)).drew = w1 at *
  have c1' := (h.below hb0).facts.2.1
  clear c0 c1 c2 z1 z2 q0
  go_wp2
  clear c1'
  go_loopw [24] (fun i wr => ∃ (k : Nat) (Hk : Nat → Prop) (A' : Option Addr) (c' : Nat) (qs : List Nat), k ≤ ps.length ∧ i = .int .i64 (k : Int) ∧ qs.length = k ∧ LogO (Nw w wr) Hk wr w.heap.size A' c' qs ⟨per, gs.take k, dn⟩ ∧ Below w.heap.size w wr) (fun i _ => ps.length - (intOf i).toNat)
  case atStart => exact ⟨0, _, none, 0, [], Nat.zero_le _, rfl, rfl, hL0, hb0⟩
  case round =>
    obtain ⟨k, Hk, A', c', qs, hk, rfl, hql, hl, hb⟩ := hrel
    have HQL := Lib.hid hql
    clear hql
    by_cases hlt : k < ps.length
    · obtain ⟨g, hg⟩ : ∃ g, gs[k]? = some g := ⟨_, List.getElem?_eq_getElem (show k < gs.length by have := HQ.out; omega)⟩
      obtain ⟨p, hp⟩ : ∃ p, ps[k]? = some p := ⟨_, List.getElem?_eq_getElem hlt⟩
      have h2 := h.below hb
      obtain ⟨Fi, hF, hs, -⟩ := h2.segs.at hp hg
      obtain ⟨⟨Sd, Sh, db, Rd, cR, rv, vals, k1, k2, k3, k4, k5, k6, k7, k8⟩, hslt⟩ := hs
      obtain ⟨R, cr, rfl, hcr, hmr⟩ := k7.val
      obtain ⟨ga, oa, rfl, ca⟩ := h2.ptrAt2 hp
      have hvl := k8.1
      have htk : gs.take (k + 1) = gs.take k ++ [g] := by rw [List.take_add_one, hg]; rfl
      have HT := Lib.hid htk
      have HG := Lib.hid hg
      have s0 := k5.cell 0 (v := .pointer (some ⟨db, 0, none⟩)) rfl
      have s1 := k5.cell 1 (v := .int .i64 (g.base : Int)) rfl
      have s2 := k5.cell 2 (v := .slice R vals.length cr) rfl
      have s3 := k5.cell 3 (v := .int .i64 (g.safe : Int)) rfl
      have hlt' : (k : Int) < (ps.length : Int) := by omega
      have HV := Lib.hid hvl
      clear htk hg hp hvl
      have hbn := below_new wr (.cells #[.pointer (some ⟨db, 0, none⟩), .int .i64 (g.base : Int), .slice R vals.length cr, .int .i64 (g.safe : Int)] TSg)
      have B2 := Blk.new wr TSg #[.pointer (some ⟨db, 0, none⟩), .int .i64 (g.base : Int), .slice R vals.length cr, .int .i64 (g.safe : Int)]
      have hN2 : wr.heap.size < (wr.alloc (.cells #[.pointer (some ⟨db, 0, none⟩), .int .i64 (g.base : Int), .slice R vals.length cr, .int .i64 (g.safe : Int)] TSg)).heap.size := B2.lt
      have t0 := (hbn.cell (p := ⟨p, 0, none⟩) (cell_lt s0)).trans s0
      have t2 := (hbn.cell (p := ⟨p, 2, none⟩) (cell_lt s2)).trans s2
      have hd2 := (k6.below hbn).drew
      have hr2 := k7.below hbn
      have hc2 := k8.fr (S' := Non) (Fr.of_below hbn)
      have hl2 := hl.below hbn
      have hfew : vals.length ≤ 349525 := by rw [HV.out]; exact (HOK.out.2.2.2 g (List.mem_of_getElem? HG.out)).2.1
      go_wp2
      change Code.wp _ _ _ _ (wr.alloc (.cells #[.pointer (some ⟨db, 0, none⟩), .int .i64 (g.base : Int), .slice R vals.length cr, .int .i64 (g.safe : Int)] TSg))
      generalize wr.alloc (.cells #[.pointer (some ⟨db, 0, none⟩), .int .i64 (g.base : Int), .slice R vals.length cr, .int .i64 (g.safe : Int)] TSg) = w2 at *
      refine wp_region_T #[[], [], [], [], [3], [], [], [], [], [3, 8], [3, 8], [3, 8], [3, 8], [3, 8]] [3, 8] (fun w' => w'.cell? ⟨p, 0, none⟩ = some (.pointer (some ⟨db, 0, none⟩)) ∧ w'.cell? ⟨p, 2, none⟩ = some (.slice R vals.length cr)) 14 rfl (by kernel_rfl) ?_
      (refine wpAnyT_free (i := 0) rfl (by kernel_rfl) rfl (fun _ _ _ h => h) (by kernel_rfl) (fun _ => by go_simp; try rfl) ?_; (try simp only [Act.put, List.setIfInBounds_toArray, List.set_cons_zero, List.set_cons_succ]))
      (refine wpAnyT_free (i := 1) rfl (by kernel_rfl) rfl (fun _ _ _ h => h) (by kernel_rfl) (fun _ => by go_simp; try rfl) ?_; (try simp only [Act.put, List.setIfInBounds_toArray, List.set_cons_zero, List.set_cons_succ]))
      (refine wpAnyT_free (i := 2) rfl (by kernel_rfl) rfl (fun _ _ _ h => h) (by kernel_rfl) (fun _ => by go_simp; try rfl) ?_; (try simp only [Act.put, List.setIfInBounds_toArray, List.set_cons_zero, List.set_cons_succ]))
      (refine wpAnyT_read (i := 3) rfl (by kernel_rfl) rfl (fun _ _ _ h => h) (by kernel_rfl) (⟨t0, t2⟩) (fun w hS_ => by obtain ⟨s_1, s_2⟩ := hS_; go_simp; try rfl) ?_; (try simp only [Act.put, List.setIfInBounds_toArray, List.set_cons_zero, List.set_cons_succ]))
      (refine wpAnyT_free (i := 5) rfl (by kernel_rfl) rfl (fun _ _ _ h => h) (by kernel_rfl) (fun _ => by go_simp; try rfl) ?_; (try simp only [Act.put, List.setIfInBounds_toArray, List.set_cons_zero, List.set_cons_succ]))
      (refine wpAnyT_free (i := 6) rfl (by kernel_rfl) rfl (fun _ _ _ h => h) (by kernel_rfl) (fun _ => by go_simp; try rfl) ?_; (try simp only [Act.put, List.setIfInBounds_toArray, List.set_cons_zero, List.set_cons_succ]))
      (refine wpAnyT_free (i := 7) rfl (by kernel_rfl) rfl (fun _ _ _ h => h) (by kernel_rfl) (fun _ => by go_simp; try rfl) ?_; (try simp only [Act.put, List.setIfInBounds_toArray, List.set_cons_zero, List.set_cons_succ]))
      (refine wpAnyT_read (i := 8) rfl (by kernel_rfl) rfl (fun _ _ _ h => h) (by kernel_rfl) (⟨t0, t2⟩) (fun w hS_ => by obtain ⟨s_1, s_2⟩ := hS_; go_simp; try rfl) ?_; (try simp only [Act.put, List.setIfInBounds_toArray, List.set_cons_zero, List.set_cons_succ]))
      refine wpAnyT_one (i := 4) rfl (by kernel_rfl) rfl ?_
      intro K_ hK_
      go_wp2_with ((go_at_call 88; refine (copy_B hd2).mono ?_; rintro e w3 ⟨p3, rfl, ⟨d3, A3, c3, rfl, hd3⟩, hb3⟩; have hcl := cloneRow_B rfl ((hr2.drew).below hb3) hc2.one hfew))
      refine hK_ _ _ ?_ ?_
      · exact fun _ _ => ⟨(hb3.cell (p := ⟨p, 0, none⟩) (cell_lt t0)).trans t0, (hb3.cell (p := ⟨p, 2, none⟩) (cell_lt t2)).trans t2⟩
      clear hK_ K_
      (try simp only [Act.put, List.setIfInBounds_toArray, List.set_cons_zero, List.set_cons_succ])
      refine wpAnyT_sink (i := 9) rfl (by kernel_rfl) rfl (by kernel_rfl) ?_
      intro K_ hK_
      go_wp2_with ((go_at_call 95; refine hcl.mono ?_; rintro e w4 ⟨R4, c4, rfl, hrow4, hb4⟩; have B4 := (B2.drew.below' hb3).below' hb4; have y0 := B4.cell 0 (v := .pointer (some ⟨db, 0, none⟩)) rfl; have yf0 := B4.frozen 0; have B5 := B4.set 0 (.pointer (some ⟨d3, 0, none⟩)); have y2 := B5.cell 2 (v := .slice R vals.length cr) (by simp); have yf2 := B5.frozen 2))
      (try (refine hK_ _ _ ?_; clear hK_ K_))
      (try simp only [Act.put, List.setIfInBounds_toArray, List.set_cons_zero, List.set_cons_succ])
      (refine wpAnyT_free (i := 10) rfl (by kernel_rfl) rfl (fun _ _ _ h => h) (by kernel_rfl) (fun _ => by go_simp; try rfl) ?_; (try simp only [Act.put, List.setIfInBounds_toArray, List.set_cons_zero, List.set_cons_succ]))
      refine wpAnyT_sink (i := 11) rfl (by kernel_rfl) rfl (by kernel_rfl) ?_
      intro K_ hK_
      go_wp2
      (try (refine hK_ _ _ ?_; clear hK_ K_))
      (try simp only [Act.put, List.setIfInBounds_toArray, List.set_cons_zero, List.set_cons_succ])
      (refine wpAnyT_free (i := 12) rfl (by kernel_rfl) rfl (fun _ _ _ h => h) (by kernel_rfl) (fun _ => by go_simp; try rfl) ?_; (try simp only [Act.put, List.setIfInBounds_toArray, List.set_cons_zero, List.set_cons_succ]))
      refine wpAnyT_sink (i := 13) rfl (by kernel_rfl) rfl (by kernel_rfl) ?_
      intro K_ hK_
      go_wp2
      (try (refine hK_ _ _ ?_; clear hK_ K_))
      (try simp only [Act.put, List.setIfInBounds_toArray, List.set_cons_zero, List.set_cons_succ])
      refine wpAnyT_done (by kernel_rfl) ?_ _
      have hb24' := hb3.trans (hb4.mono hb3.size)
      have hb24 : Below w2.heap.size w2 w4 := ⟨hb24'.os, hb24'.tape, hb24'.output, hb24'.size, hb24'.block⟩
      have hN3 : w2.heap.size ≤ w3.heap.size := hb3.size
      have hN4 : w3.heap.size ≤ w4.heap.size := hb4.size
      have hnb : ¬ IsB w4 wr.heap.size := B4.notB (by decide)
      have B6 : Blk ((w4.setCell ⟨wr.heap.size, 0, none⟩ (.pointer (some ⟨d3, 0, none⟩))).setCell ⟨wr.heap.size, 2, none⟩ (.slice R4 vals.length c4)) wr.heap.size TSg #[ptr d3, .int .i64 (g.base : Int), .slice R4 vals.length c4, .int .i64 (g.safe : Int)] := by simpa [ptr] using B5.set 2 (.slice R4 vals.length c4)
      have f45 : Fr (fun x => x = wr.heap.size) w4 ((w4.setCell ⟨wr.heap.size, 0, none⟩ (.pointer (some ⟨d3, 0, none⟩))).setCell ⟨wr.heap.size, 2, none⟩ (.slice R4 vals.length c4)) := ((Fr.refl (fun x => x = wr.heap.size) w4).setCell (p := ⟨wr.heap.size, 0, none⟩) (.inl rfl) hnb _).setCell (p := ⟨wr.heap.size, 2, none⟩) (.inl rfl) hnb _
      have hb25 : Below wr.heap.size wr ((w4.setCell ⟨wr.heap.size, 0, none⟩ (.pointer (some ⟨d3, 0, none⟩))).setCell ⟨wr.heap.size, 2, none⟩ (.slice R4 vals.length c4)) := ((hbn.trans (hb24.mono hbn.size)).setCell (p := ⟨wr.heap.size, 0, none⟩) (Nat.le_refl _) _).setCell (p := ⟨wr.heap.size, 2, none⟩) (Nat.le_refl _) _
      have hs5 : ((w4.setCell ⟨wr.heap.size, 0, none⟩ (.pointer (some ⟨d3, 0, none⟩))).setCell ⟨wr.heap.size, 2, none⟩ (.slice R4 vals.length c4)).heap.size = w4.heap.size := by simp [World.setCell]
      generalize (w4.setCell ⟨wr.heap.size, 0, none⟩ (.pointer (some ⟨d3, 0, none⟩))).setCell ⟨wr.heap.size, 2, none⟩ (.slice R4 vals.length c4) = w5 at *
      have hseg : SegAt (Nw wr w5) w5 wr.heap.size g :=
        ⟨⟨Nw w2.drew w3, fun x => x = wr.heap.size ∨ Nw w3 w4 x, d3, A3, c3, .slice R4 vals.length c4, vals,
          fun x hx => ⟨by have h1 : w2.heap.size ≤ x := hx.1; omega, by have := hx.2; omega⟩,
          fun x hx => hx.elim (fun e => ⟨by omega, by omega⟩) (fun q => ⟨by have := q.1; omega, by have := q.2; omega⟩),
          fun x hx hy => (show False from hy.elim (fun e => by have h1 : w2.heap.size ≤ x := hx.1; omega) (fun q => by have := q.1; have := hx.2; omega)).elim,
          .inl rfl, B6, (hd3.below hb4).fr f45 (fun x hx e => (show False from by have h1 : w2.heap.size ≤ x := hx.1; omega).elim), (hrow4.otherBlk B4 (by decide) f45).mono (fun x _ hx => .inr hx), ((hc2.fr (S' := Non) (Fr.of_below hb24)).fr f45)⟩, fun x hx => hx.2⟩
      have hl5 := hl.below hb25
      have hb6 := below_new w5 (.cells #[ptr wr.heap.size] TPs)
      have v1 := hl5.blk.cell 1 (v := .slice A' qs.length c') rfl
      have hrow6 := hl5.row.below hb6
      have BL6 := hl5.blk.below' hb6
      have hne6 := hrow6.ownNe BL6 (by decide)
      have HM4 : (qs.map ptr).length + 1 ≤ maxLen := by rw [List.length_map, HQL.out]; unfold maxLen; omega
      have HM5 : ((qs.map ptr).length + 1) * 8 ≤ 140737488355328 := by rw [List.length_map, HQL.out]; omega
      have hgl : (gs.take k).length < 256 := by rw [List.length_take]; omega
      clear B6 f45 hs5 hd3 hrow4 B4 B5 y0 yf0 y2 yf2 hcl hl2 t0 t2 hd2 hr2 hc2 B2 hnb
      go_wp2_with (at_builtin; refine wpList_append_row rfl (.tmp 47) (.tmp 48) 73 rfl TPs ip _ 8 Tryd.underlying73 hip hzp hsp hbp rfl (.slice A' qs.length c') (qs.map ptr) rfl hrow6 ⟨w5.heap.size, 0, none⟩ (ptr wr.heap.size) rfl (heap_new_cell _ _ _) rfl HM4 HM5 (by decide) ?_; intro v7 w7 hrow7 hf7 hoth7; obtain ⟨A7, c7, rfl, hc7, hm7⟩ := hrow7.val; rw [List.length_append, List.length_map, List.length_singleton] at hrow7 hc7 ⊢; have BL7 : Blk w7 w.heap.size TLg _ := BL6.eq (hoth7 _ BL6.lt hne6); have x7 := BL7.cell 1 (v := .slice A' qs.length c') rfl; have xf7 := BL7.frozen 1)
      obtain ⟨hl8, hf8⟩ := hl.grow hgl hb25 hseg (HOK.out.2.2.2 g (List.mem_of_getElem? HG.out)) hb6 hf7 hoth7 hrow7
      go_roundw
      case rel =>
        have hsz : (w7.setCell ⟨w.heap.size, 1, none⟩ (.slice A7 (qs.length + 1) c7)).heap.size = w7.heap.size := by simp [World.setCell]
        have hsb := hb.size
        refine ⟨k + 1, Up Hk (w5.alloc (.cells #[ptr wr.heap.size] TPs)) w7, A7, c7, qs ++ [wr.heap.size], by omega, by go_num, by rw [List.length_append, HQL.out]; rfl, ?_, ?_⟩
        · rw [HT.out]
          exact hl8.mono (fun x hx => ⟨hx.elim (fun q => q.1) (fun q => Nat.le_trans hsb q.1), by rw [hsz]; exact hx.elim (fun q => Nat.lt_of_lt_of_le q.2 (by have := hf8.size; omega)) (fun q => q.2)⟩) (fun x hx => hx.2)
        · exact ⟨hf8.os.trans hb.os, hf8.tape.trans hb.tape, hf8.output.trans hb.output, Nat.le_trans hsb hf8.size, fun x hx => (hf8.out x (Nat.lt_of_lt_of_le hx hsb) (fun q => by have := q.1; omega)).trans (hb.block x hx)⟩
      case measure => simp [intOf]; omega
    · obtain rfl : k = ps.length := by omega
      rw [List.take_of_length_le (by rw [HQ.out]; omega)] at hl
      go_wp2
      go_ret
      exact ⟨_, rfl, ⟨HU.out, _, _, _, _, hl⟩, hb⟩
end
end Go.Proofs.YtediidajdpdeiaaDoor

/- A log, its copy and the document's log side by side (layer 7), in memory. -/
namespace Go.Proofs.YtediidajdpdeiaaDoor
open Go.RowKit CrcM
set_option maxRecDepth 100000

section
variable {w w' : World}
theorem Own.at {S : Nat → Prop} {A : Option Addr} {l : List UInt8} (h : Own S w A l) (hk : ∀ x, S x → w'.heap[x]? = w.heap[x]?) : Own S w' A l := fun j x hx => by
  obtain ⟨ad, e, hc, hb, hS⟩ := h j x hx
  exact ⟨ad, e, (cell_eq (by rw [add_block]; exact hk _ hS)).trans hc, hb.eq (hk _ hS), hS⟩
end

section
variable {W w0 w w' : World} {b r : Nat} {L : Lg} {R : Rg}
/-- the log turns, and what is newer than it stays -/
theorem BothG.segK (h : BothG W w0 b r L R) (hb : Below w0.heap.size w0 w) {f : Nat} {args : Array Value} {q : Lg × Int} (hc : ∀ T, LiveG W w b L T → Calls Tryd.prog f args w (LiveGDid W w b T q)) :
    Calls Tryd.prog f args w fun e w' => e = .returned (.int .i64 q.2) ∧ BothG W w' b r q.1 R ∧ ∀ x, w0.heap.size ≤ x → x < w.heap.size → w'.heap[x]? = w.heap[x]? := by
  obtain ⟨T, H, A, c, ps, h1, h2, h3⟩ := h
  refine (hc _ (h1.mono hb)).mono ?_
  rintro e w' ⟨h4, h5, h6, h7⟩
  exact ⟨h4, ⟨T, H, A, c, ps, h5.sub (fun _ hx => .inl hx), (h2.below hb).keep (fun x hx => h6 x (.inl hx)) (fun x hx => h5.ltX x (.inl hx)), h3⟩, fun x hx hx' => h6 x (.inr ⟨hx, hx'⟩)⟩

/-- as BothG, beside a copy k of a log L0 -/
def BothC (W w : World) (b k r : Nat) (L L0 : Lg) (R : Rg) : Prop := ∃ T H A c ps K, LiveG W w b L (fun x => T x ∨ K x) ∧ RlogO T H w r A c ps R ∧ LogAt K w k L0 ∧ (∀ x, T x → W.heap.size ≤ x) ∧ (∀ x, K x → W.heap.size ≤ x) ∧ ∀ x, T x → ¬ K x
theorem BothG.copy (h : BothG W w b r L R) : Calls Tryd.prog 49 #[.pointer (some ⟨b, 0, none⟩)] w fun e w' => ∃ k, e = .returned (.pointer (some ⟨k, 0, none⟩)) ∧ BothC W w' b k r L L R ∧ Below w.heap.size w w' := by
  obtain ⟨T, H, A, c, ps, h1, h2, h3⟩ := h
  obtain ⟨S, ⟨hu, H1, A1, c1, ps1, hl⟩, hS, hbl, hX⟩ := id h1
  refine (copyL hl hu).mono ?_
  rintro e w' ⟨k, rfl, h4, h5⟩
  exact ⟨k, rfl, ⟨T, H, A, c, ps, Nw w w', h1.mono h5, h2.below h5, h4, h3, fun x hx => Nat.le_trans hbl.size hx.1, fun x hx hk => by have := h2.lt x hx; have := hk.1; omega⟩, h5⟩
theorem BothC.below {k : Nat} {L0 : Lg} (h : BothC W w b k r L L0 R) : Below W.heap.size W w := by
  obtain ⟨T, H, A, c, ps, K, h1, -⟩ := h
  exact h1.below
theorem BothC.mono {k : Nat} {L0 : Lg} (h : BothC W w b k r L L0 R) (f : Below w.heap.size w w') : BothC W w' b k r L L0 R := by
  obtain ⟨T, H, A, c, ps, K, h1, h2, h3, h4, h5, h6⟩ := h
  exact ⟨T, H, A, c, ps, K, h1.mono' f, h2.below f, h3.below f, h4, h5, h6⟩
theorem BothC.seg {k : Nat} {L0 L' : Lg} (h : BothC W w b k r L L0 R) {f : Nat} {args : Array Value} {Q : Ending → Prop} (hc : ∀ T, LiveG W w b L T → Calls Tryd.prog f args w fun e w' => Q e ∧ LiveG W w' b L' T ∧ XK T w w' ∧ BK w w') :
    Calls Tryd.prog f args w fun e w' => Q e ∧ BothC W w' b k r L' L0 R := by
  obtain ⟨T, H, A, c, ps, K, h1, h2, h3, h4, h5, h6⟩ := h
  refine (hc _ h1).mono ?_
  rintro e w' ⟨g1, g2, g3, g4⟩
  have hsz : ∀ x, K x → x < w'.heap.size := fun x hx => g2.ltX x (.inr hx)
  refine ⟨g1, T, H, A, c, ps, K, g2, h2.keep (fun x hx => g3 x (.inl hx)) (fun x hx => g2.ltX x (.inl hx)), ?_, h4, h5, h6⟩
  obtain ⟨hu, H1, A1, c1, ps1, h⟩ := h3
  refine ⟨hu, H1, A1, c1, ps1, h.hS, h.hb, h.blk.eq (g3 _ (.inr (h.hS _ h.hb))), h.row.same (fun x hx => g3 x (.inr (h.hS x hx))), ?_, hsz, h.ok, fun _ _ => trivial⟩
  obtain ⟨F, k1, k2, k3, k4⟩ := h.segs
  refine ⟨F, fun i x hx => ⟨(k1 i x hx).1, (k1 i x hx).2.1, hsz x (k1 i x hx).1⟩, fun i j x n p q => (k2 i j x n p q).eq (g3 x (.inr (k1 i x p).1)), k3, fun i p g hp hg => ?_⟩
  have hk : ∀ x, F i x → w'.heap[x]? = w.heap[x]? := fun x hx => g3 x (.inr (k1 i x hx).1)
  obtain ⟨⟨Sd, Sh, db, A, c, rv, vals, m1, m2, m3, m4, m5, m6, m7, m8⟩, hlt⟩ := k4 i p g hp hg
  exact ⟨⟨Sd, Sh, db, A, c, rv, vals, m1, m2, fun x p q => (m3 x p q).eq (hk x (m1 x p)), m4, m5.eq (hk _ (m2 _ m4)), ⟨m6.blk.eq (hk _ (m1 _ m6.inS)), m6.own.at (fun x hx => hk x (m1 x hx)), m6.inS, fun x hx => hsz x (k1 i x (m1 x hx)).1, m6.cap, m6.ok⟩, m7.same (fun x hx => hk x (m2 x hx)), m8.bk g4⟩, fun x hx => hsz x (k1 i x hx).1⟩
/-- on with the copy -/
theorem BothC.swap {k : Nat} {L0 : Lg} (h : BothC W w b k r L L0 R) : BothG W w k r L0 R := by
  obtain ⟨T, H, A, c, ps, K, h1, h2, h3, h4, h5, h6⟩ := h
  exact ⟨T, H, A, c, ps, ⟨K, h3, h5, h1.below, fun x hx => ⟨h6 x hx, h1.ltX x (.inl hx)⟩⟩, h2, h4⟩
end
end Go.Proofs.YtediidajdpdeiaaDoor

/- The document's log (layer 7): what Restart leaves, in memory and in plain words. -/
namespace Go.Proofs.YtediidajdpdeiaaDoor
open Go.RowKit CrcM
set_option maxRecDepth 100000

/-- a disk as the program reads it, and as the document parses it -/
theorem scan_parse (D : Dk) (due : Int) : (((parseM D.all).1 < 0 ∨ (0 ≤ due ∧ (parseM D.all).1 ≠ due)) ∧ scan D due = none) ∨
    ∃ n : Nat, (parseM D.all).1 = n ∧ (due < 0 ∨ (n : Int) = due) ∧ (parseM D.all).2.2 ≤ D.all.length ∧ scan D due = some (⟨(D.cut (parseM D.all).2.2).1, n, (parseM D.all).2.1, (parseM D.all).2.1.length⟩, decide ((parseM D.all).2.2 = D.all.length)) := by
  obtain ⟨r, hg, he⟩ := framesOf_is D.all
  have hle := hg.le
  have hf := hg.all he
  generalize (framesOf D.all).1 = bs at *
  generalize (framesOf D.all).2 = en at *
  have hbad : ∀ x : Int × List (List UInt8) × Nat, parseM D.all = x → x.1 = -1 → scan D due = none → (((parseM D.all).1 < 0 ∨ (0 ≤ due ∧ (parseM D.all).1 ≠ due)) ∧ scan D due = none) := fun x h1 h2 h3 => ⟨.inl (by rw [h1, h2]; decide), h3⟩
  cases bs with
  | nil => exact .inl (hbad (-1, [], 0) (by unfold parseM; rw [hf]) rfl (scan_none (by rw [hf])))
  | cons hd t =>
    cases hr : readNum hd with
    | error e => exact .inl (hbad (-1, [], 0) (by unfold parseM; simp only [hf, hr]) rfl (scan_bad (by rw [hf]) (fun n h => by rw [hr] at h; cases h)))
    | ok q =>
      obtain ⟨n, s⟩ := q
      by_cases hs : s = hd.length
      · subst hs
        have hp : parseM D.all = ((n : Int), t, en) := by unfold parseM; simp only [hf, hr, if_true]
        rw [hp]
        by_cases hd2 : due < 0 ∨ (n : Int) = due
        · exact .inr ⟨n, rfl, hd2, hle.2.1, scan_some hf hr hd2⟩
        · refine .inl ⟨.inr ⟨by omega, ?_⟩, scan_bad (by rw [hf]) (fun n' h => ?_)⟩
          · show (n : Int) ≠ due
            omega
          · rw [hr] at h
            injection h with h
            injection h with h
            subst h
            exact hd2
      · exact .inl (hbad (-1, [], 0) (by unfold parseM; simp only [hf, hr, hs, if_false]) rfl (scan_bad (by rw [hf]) (fun n' h => by rw [hr] at h; injection h with h; injection h with _ h; exact (hs h).elim)))

/-- a log of the document's that is being laid anew, where k disks have been read -/
structure RestR (S H : Nat → Prop) (w : World) (b : Nat) (A : Option Addr) (c : Nat) (ps : List Nat) (per k : Nat) (v : Value) (ds : List Rk) (Hk : Nat → Prop) (wr : World) : Prop where
  fr : Fr S w wr
  hH : ∀ x, H x → Hk x
  hk : ∀ x, Hk x → H x ∨ w.heap.size ≤ x
  lt : ∀ x, Hk x → x < wr.heap.size
  blk : Blk wr b TRl #[.int .i64 (per : Int), .slice A ps.length c, .bool false]
  row : Row H wr TPr (.slice A ps.length c) (ps.map ptr)
  out : Row (fun x => Hk x ∧ w.heap.size ≤ x) wr TPr v ((ps.take k).map ptr)
  disks : Refs (Up S w wr) Hk wr ps ds
  small : ∀ R ∈ ds, R.kept.length + R.rest.length ≤ 4194304

section
variable {S H : Nat → Prop} {w : World} {b : Nat} {A : Option Addr} {c : Nat} {ps : List Nat} {per k : Nat} {v : Value} {ds : List Rk} {Hk : Nat → Prop} {wr : World}

theorem RestR.facts (h : RestR S H w b A c ps per k v ds Hk wr) {p : Nat} (hp : ps[k]? = some p) : ∃ g o, A = some ⟨g, o, none⟩ ∧ wr.cell? ⟨g, o + k, none⟩ = some (.pointer (some ⟨p, 0, none⟩)) := by
  obtain ⟨g, o, c', h1, h2, h3, h4, _⟩ := h.row.cell (k := k) (u := ptr p) (by rw [List.getElem?_map, hp]; rfl)
  injection h1 with h1
  exact ⟨g, o, h1, h4⟩
theorem RestR.at_ {g o : Nat} (h : RestR S H w b (some ⟨g, o, none⟩) c ps per k v ds Hk wr) {j p : Nat} (hp : ps[j]? = some p) :
    wr.cell? ⟨b, 1, none⟩ = some (.slice (some ⟨g, o, none⟩) ps.length c) ∧ wr.cell? ⟨g, o + j, none⟩ = some (.pointer (some ⟨p, 0, none⟩)) ∧ wr.cell? ⟨b, 0, none⟩ = some (.int .i64 (per : Int)) ∧ wr.frozen? ⟨b, 1, none⟩ = false := by
  obtain ⟨g', o', c', h1, h2, h3, h4, _⟩ := h.row.cell (k := j) (u := ptr p) (by rw [List.getElem?_map, hp]; rfl)
  injection h1 with h1
  injection h1 with h1
  injection h1 with h1 h5
  subst h1; subst h5
  exact ⟨h.blk.cell 1 rfl, h4, h.blk.cell 0 rfl, h.blk.frozen 1⟩
theorem RestR.below (h : RestR S H w b A c ps per k v ds Hk wr) {w' : World} (hb : Below wr.heap.size wr w') : RestR S H w b A c ps per k v ds Hk w' :=
  ⟨h.fr.trans' (Fr.of_below (S := Non) hb) (fun _ _ h => h.elim), h.hH, h.hk, fun x hx => Nat.lt_of_lt_of_le (h.lt x hx) hb.size, h.blk.eq (hb.block b h.blk.lt), h.row.below hb, h.out.below hb,
    (h.disks.fr (S' := Non) (Fr.of_below hb) (fun _ _ _ h => h.elim)).mono (fun _ _ hx => hx.imp_right (fun q => ⟨q.1, Nat.lt_of_lt_of_le q.2 hb.size⟩)) (fun _ _ _ h => h), h.small⟩
/-- one disk, and what becomes of all when it turns -/
theorem RestR.disk (h : RestR S H w b A c ps per k v ds Hk wr) (hbH : H b) {j p : Nat} {R : Rk} (hp : ps[j]? = some p) (hR : ds[j]? = some R) :
    ∃ (Sd : Nat → Prop) (A1 : Option Addr) (c1 : Nat) (A2 : Option Addr) (c2 : Nat), RefAt Sd wr p A1 c1 A2 c2 R ∧
      ∀ w' R', Fr Sd wr w' → IsRef (Up Sd wr w') w' (.pointer (some ⟨p, 0, none⟩)) R' → R'.kept.length + R'.rest.length ≤ 4194304 → RestR S H w b A c ps per k v (ds.set j R') Hk w' := by
  obtain ⟨Fi, hF, ⟨A1, c1, A2, c2, hs⟩, hup⟩ := h.disks.at hp hR
  refine ⟨Fi, A1, c1, A2, c2, hs, fun w' R' f hd hsm => ?_⟩
  obtain ⟨p', A1', c1', A2', c2', e, hd⟩ := hd
  injection e with e
  injection e with e
  injection e with e
  subst e
  have hps : ps.set j p = ps := by
    apply List.ext_getElem?
    intro i
    rw [List.getElem?_set]
    split
    · rename_i hi
      subst hi
      rw [if_pos (List.getElem?_eq_some_iff.1 hp).1, hp]
    · rfl
  have hS := hup w' p R' f h.lt ⟨A1', c1', A2', c2', hd⟩
  rw [hps] at hS
  have hsz := h.fr.size
  refine ⟨h.fr.trans' f (fun x hx hd => (hF x hd).1.elim id (fun q => by have := q.1; omega)), h.hH, h.hk, fun x hx => Nat.lt_of_lt_of_le (h.lt x hx) f.size, h.blk.fr f (fun hx => (hF b hx).2.1 (h.hH b hbH)), h.row.fr f (fun x hx hd => ((hF x hd).2.1 (h.hH x hx)).elim), h.out.fr f (fun x hx hd => ((hF x hd).2.1 hx.1).elim), hS.mono (fun x _ hx => ?_) (fun _ _ _ h => h), ?_⟩
  · rcases hx with (hx | hx) | hx
    · exact .inl hx
    · exact .inr ⟨hx.1, Nat.lt_of_lt_of_le hx.2 f.size⟩
    · exact .inr ⟨Nat.le_trans hsz hx.1, hx.2⟩
  · intro R2 hR2
    rcases List.mem_or_eq_of_mem_set hR2 with hm | rfl
    · exact h.small R2 hm
    · exact hsm
/-- the out list's pointer is put behind -/
theorem RestR.more (h : RestR S H w b A c ps per k v ds Hk wr) (hSl : ∀ x, S x → x < w.heap.size) (hHl : ∀ x, H x → x < w.heap.size) (hbH : H b) {p : Nat} (hp : ps[k]? = some p) {w5 : World} {v' : Value} (f5 : Fr (fun x => Hk x ∧ w.heap.size ≤ x) wr w5) (hrow : Row (Up (fun x => Hk x ∧ w.heap.size ≤ x) wr w5) w5 TPr v' ((ps.take k).map ptr ++ [ptr p])) :
    RestR S H w b A c ps per (k + 1) v' ds (Up Hk wr w5) w5 := by
  have hsz : w.heap.size ≤ wr.heap.size := h.fr.size
  have htk : (ps.take (k + 1)).map ptr = (ps.take k).map ptr ++ [ptr p] := by rw [List.take_add_one, hp]; simp
  refine ⟨h.fr.trans' f5 (fun x hx hd => (by have := hd.2; omega)), fun x hx => .inl (h.hH x hx), fun x hx => ?_, fun x hx => ?_, ?_, ?_, ?_, ?_, h.small⟩
  · rcases hx with hx | hx
    · exact h.hk x hx
    · exact .inr (Nat.le_trans hsz hx.1)
  · rcases hx with hx | hx
    · exact Nat.lt_of_lt_of_le (h.lt x hx) f5.size
    · exact hx.2
  · exact h.blk.fr f5 (fun hx => by have := hHl b hbH; have := hx.2; omega)
  · exact h.row.fr f5 (fun x hx hd => by have := hHl x hx; have := hd.2; omega)
  · rw [htk]
    exact hrow.mono fun x _ hx => by
      rcases hx with hx | hx
      · exact ⟨.inl hx.1, hx.2⟩
      · exact ⟨.inr hx, Nat.le_trans hsz hx.1⟩
  · have h5 := h.disks.fr f5 (fun x hx hn hd => (hn hd.1).elim)
    refine (h5.mono (S' := Up S w w5) (H' := Up Hk wr w5) (fun x _ hx => hx.imp_right (fun q => ⟨q.1, Nat.lt_of_lt_of_le q.2 f5.size⟩)) (fun x _ hx hh => hh.elim id (fun q => ?_)))
    rcases hx with hx | hx
    · have := hSl x hx; have := q.1; omega
    · have := hx.2; have := q.1; omega
/-- the log at the end -/
theorem RestR.finish {A' : Option Addr} {c' : Nat} (h : RestR S H w b A c ps per k (.slice A' k c') ds Hk wr) (hS : ∀ x, H x → S x) (hbH : H b) (hSl : ∀ x, S x → x < w.heap.size) (hper : 1 ≤ per ∧ per ≤ 1024) (hfew : ps.length ≤ 256) (hk : k ≤ ps.length) :
    IsRlog (Up S w (wr.setCell ⟨b, 1, none⟩ (.slice A' k c'))) (wr.setCell ⟨b, 1, none⟩ (.slice A' k c')) (.pointer (some ⟨b, 0, none⟩)) ⟨per, ds.take k, false⟩ ∧ Fr S w (wr.setCell ⟨b, 1, none⟩ (.slice A' k c')) := by
  have hb2 := h.blk
  have hnb : ¬ IsB wr b := hb2.notB (by decide)
  have f1 : Fr (fun x => x = b) wr (wr.setCell ⟨b, 1, none⟩ (.slice A' k c')) := Fr.setCell (S := fun x => x = b) (Fr.refl _ _) (p := ⟨b, 1, none⟩) (.inl rfl) hnb _
  have hsz : (wr.setCell ⟨b, 1, none⟩ (.slice A' k c')).heap.size = wr.heap.size := by simp [World.setCell]
  have fw := h.fr.size
  have hlt : ∀ x, Up S w (wr.setCell ⟨b, 1, none⟩ (.slice A' k c')) x → x < wr.heap.size := fun x hx => hx.elim (fun hx => Nat.lt_of_lt_of_le (hSl x hx) fw) (fun q => by have := q.2; omega)
  have hkl : (ps.take k).length = k := by rw [List.length_take]; omega
  have hdl := h.disks.len
  refine ⟨⟨Hk, b, A', c', ps.take k, rfl, fun x hx => ?_, h.hH b hbH, ?_, ?_, ?_, fun x hx => by rw [hsz]; exact hlt x hx, hper, ?_, fun R hR => h.small R (List.mem_of_mem_take hR)⟩, h.fr.trans' f1 (fun x _ e => e ▸ hS b hbH)⟩
  · rcases h.hk x hx with hx' | hx'
    · exact .inl (hS x hx')
    · exact .inr ⟨hx', by rw [hsz]; exact h.lt x hx⟩
  · rw [hkl]
    simpa using hb2.set 1 (.slice A' k c')
  · rw [hkl]
    exact (h.out.otherBlk hb2 (by decide) f1).mono (fun x _ hx => hx.1)
  · exact ((h.disks.take k).fr f1 (fun x _ hn e => (hn (e ▸ h.hH b hbH)).elim)).mono (fun x _ hx => hx.imp_right (fun q => ⟨q.1, by rw [hsz]; exact q.2⟩)) (fun _ _ _ h => h)
  · simp only [List.length_take]; omega
end
end Go.Proofs.YtediidajdpdeiaaDoor
