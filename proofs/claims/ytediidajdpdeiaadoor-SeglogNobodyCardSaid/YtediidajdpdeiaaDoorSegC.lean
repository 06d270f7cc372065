/- The log's Segments (layer 7): the walk. -/
import Derived.Test.YtediidajdpdeiaaDoorSegW2
import Derived.Test.YtediidajdpdeiaaDoorScan
namespace Go.Proofs.YtediidajdpdeiaaDoor
open Go.RowKit CrcM
set_option maxRecDepth 100000

abbrev TPd : TypeId := 87
theorem info_pd : (Tryd.prog.info? TPd).map (fun i => (i.zero, i.size, i.bytes)) = some (some (.pointer none), 1, 8) := by kernel_rfl

/-- copies of the segments' disks, each for itself, none in Ro -/
def DisksAt (B : Nat) (Ro : Nat → Prop) (w : World) (vals : List Value) (gs : List Sg) : Prop := vals.length = gs.length ∧ ∀ (k : Nat) (g : Sg), gs[k]? = some g → ∃ (Sd : Nat → Prop) (db : Nat) (A : Option Addr) (c : Nat), vals[k]? = some (.pointer (some ⟨db, 0, none⟩)) ∧ DiskAt Sd w db A c g.d ∧ ∀ x, Sd x → B ≤ x ∧ ¬ Ro x
theorem DisksAt.fr {B : Nat} {Ro S' : Nat → Prop} {w w' : World} {vals : List Value} {gs : List Sg} (h : DisksAt B Ro w vals gs) (f : Fr S' w w') (hd : ∀ x, S' x → B ≤ x → Ro x) : DisksAt B Ro w' vals gs :=
  ⟨h.1, fun k g hg => by
    obtain ⟨Sd, db, A, c, h1, h2, h3⟩ := h.2 k g hg
    exact ⟨Sd, db, A, c, h1, h2.fr f (fun x hx hy => ((h3 x hx).2 (hd x hy (h3 x hx).1)).elim), h3⟩⟩

section
variable {S H : Nat → Prop} {w : World} {b : Nat} {A : Option Addr} {c : Nat} {ps : List Nat} {L : Lg}
/-- WHAT Segments leaves -/
def SegsDid (w : World) (L : Lg) (e : Ending) (w' : World) : Prop :=
  ∃ v vals Ro, e = .returned v ∧ Row Ro w' TPd v vals ∧ DisksAt w.heap.size Ro w' vals L.segs ∧ Below w.heap.size w w'
theorem segmentsL (h : LogO S H w b A c ps L) : Calls Tryd.prog 36 #[.pointer (some ⟨b, 0, none⟩)] w (SegsDid w L) := by
  obtain ⟨id_, hid, hzd, hsd, hbd⟩ := info_parts info_pd
  obtain ⟨per, gs, dn⟩ := L
  obtain ⟨c0, c1, c2, z1, z2, q0, q1, q2, q3, q4⟩ := h.facts
  have HQ := Lib.hid q1
  clear q1
  go_enter Tryd.func36, Tryd.ntmps36
  go_wp2_with (go_at_call 87; refine (noneL h).mono ?_; rintro e w' ⟨rfl, rfl⟩)
  clear c0 c1 c2 z1 z2 q0
  go_loopw [3, 13] (fun v i wr => ∃ (k : Nat) (vals : List Value) (Ro : Nat → Prop), k ≤ ps.length ∧ i = .int .i64 (k : Int) ∧ Row Ro wr TPd v vals ∧ (∀ x, Ro x → w.heap.size ≤ x ∧ x < wr.heap.size) ∧ DisksAt w.heap.size Ro wr vals (gs.take k) ∧ Below w.heap.size w wr) (fun _ i _ => ps.length - (intOf i).toNat)
  case atStart => exact ⟨0, [], fun _ => False, Nat.zero_le _, rfl, Row.nil _ _ _, fun _ h => h.elim, ⟨rfl, fun k g hg => (by simp at hg)⟩, Below.refl _ _⟩
  case round =>
    obtain ⟨k, vals, Ro, hk, rfl, hrow, hRo, hds, hb⟩ := hrel
    obtain ⟨R, cr, rfl, hcr, hmr⟩ := hrow.val
    by_cases hlt : k < ps.length
    · obtain ⟨g, hg⟩ : ∃ g, gs[k]? = some g := ⟨_, List.getElem?_eq_getElem (show k < gs.length by have := HQ.out; omega)⟩
      obtain ⟨p, hp⟩ : ∃ p, ps[k]? = some p := ⟨_, List.getElem?_eq_getElem hlt⟩
      have h2 := h.below hb
      obtain ⟨Sd, db, Rd, cR, s0, hd, hSd, -⟩ := h2.disk (d := g.d) (base := g.base) (recs := g.recs) (safe := g.safe) hp hg
      obtain ⟨ad, rfl, ca⟩ := h2.ptrAt hp
      have hvl : vals.length = k := by rw [hds.1, List.length_take]; have := HQ.out; omega
      have HV := Lib.hid hvl
      have htk : gs.take (k + 1) = gs.take k ++ [g] := by rw [List.take_add_one, hg]; rfl
      have HT := Lib.hid htk
      have hlt' : (k : Int) < (ps.length : Int) := by omega
      have HM4 : vals.length + 1 ≤ maxLen := by unfold maxLen; omega
      have HM5 : (vals.length + 1) * 8 ≤ 140737488355328 := by omega
      clear hvl htk hg hp
      go_wp2_with (first
        | (go_at_call 88; refine (copy_B hd).mono ?_; rintro e w2 ⟨p2, rfl, ⟨db2, A2, c2, rfl, hd2⟩, hb2⟩)
        | (at_builtin; refine wpList_append_row rfl (.tmp 17) (.tmp 23) 55 rfl TPd id_ _ 8 Tryd.underlying55 hid hzd hsd hbd rfl (.slice R vals.length cr) vals rfl ((hrow.below hb2).below (below_new _ _)) ⟨w2.heap.size, 0, none⟩ (.pointer (some ⟨db2, 0, none⟩)) rfl (heap_new_cell _ _ _) rfl HM4 HM5 (by decide) ?_; intro v5 w5 hrow5 hf5 hoth5; obtain ⟨A5, c5, rfl, hc5, hm5⟩ := hrow5.val; rw [List.length_append, List.length_singleton] at hrow5 hc5 ⊢))
      have hbn := below_new w2 (.cells #[.pointer (some ⟨db2, 0, none⟩)] TPd)
      have hw2 : w.heap.size ≤ w2.heap.size := Nat.le_trans hb.size hb2.size
      have hb24 : Below w2.heap.size w2 (w2.alloc (.cells #[.pointer (some ⟨db2, 0, none⟩)] TPd)) := hbn
      have hb5 : Below w.heap.size w w5 := ((hb.trans (hb2.mono hb.size)).trans (hbn.mono hw2)).trans ⟨hf5.os, hf5.tape, hf5.output, hf5.size, fun x hx => hf5.out x (Nat.lt_of_lt_of_le hx (Nat.le_trans hw2 hbn.size)) (fun hr => by have := (hRo x hr).1; omega)⟩
      have hd5 : DisksAt w.heap.size (Up Ro (w2.alloc (.cells #[.pointer (some ⟨db2, 0, none⟩)] TPd)) w5) w5 (vals ++ [.pointer (some ⟨db2, 0, none⟩)]) (gs.take (k + 1)) := by
        refine ⟨by rw [HT.out, List.length_append, List.length_append, hds.1]; rfl, fun j g' hg' => ?_⟩
        rw [HT.out] at hg'
        by_cases hj : j < (gs.take k).length
        · rw [List.getElem?_append_left hj] at hg'
          obtain ⟨Sd', db', A', c', h1, hd', h3⟩ := hds.2 j g' hg'
          refine ⟨Sd', db', A', c', by rw [List.getElem?_append_left (by rw [hds.1]; exact hj)]; exact h1, ((hd'.below hb2).below hbn).fr hf5 (fun x hx hr => ((h3 x hx).2 hr).elim), fun x hx => ⟨(h3 x hx).1, fun hr => hr.elim (h3 x hx).2 (fun q => ?_)⟩⟩
          have := hd'.lt x hx
          have := Nat.le_trans hb2.size (Nat.le_trans hbn.size q.1)
          omega
        · have hjl := (List.getElem?_eq_some_iff.1 hg').1
          rw [List.length_append, List.length_singleton] at hjl
          have hjk : j = vals.length := by rw [hds.1]; omega
          rw [List.getElem?_append_right (by omega), show j - (gs.take k).length = 0 by omega] at hg'
          injection hg' with hg'
          subst hg'
          refine ⟨Nw wr w2, db2, A2, c2, by rw [hjk, List.getElem?_append_right (Nat.le_refl _), Nat.sub_self]; rfl, (hd2.below hbn).fr hf5 (fun x hx hr => by have := (hRo x hr).2; have := hx.1; omega), fun x hx => ⟨Nat.le_trans hb.size hx.1, fun hr => hr.elim (fun hr => by have := (hRo x hr).2; have := hx.1; omega) (fun q => ?_)⟩⟩
          have := Nat.le_trans hbn.size q.1
          have := hx.2
          omega
      go_roundw
      case rel => exact ⟨k + 1, _, _, by omega, by go_num, hrow5, fun x hx => hx.elim (fun hx => ⟨(hRo x hx).1, Nat.lt_of_lt_of_le (hRo x hx).2 (Nat.le_trans hb2.size (Nat.le_trans hbn.size hf5.size))⟩) (fun q => ⟨Nat.le_trans hw2 (Nat.le_trans hbn.size q.1), q.2⟩), hd5, hb5⟩
      case measure => simp [intOf]; omega
    · obtain rfl : k = ps.length := by omega
      rw [List.take_of_length_le (by rw [HQ.out]; omega)] at hds
      have hP : SegsDid w ⟨per, gs, dn⟩ (.returned (.slice R vals.length cr)) wr := ⟨_, vals, Ro, rfl, hrow, hds, hb⟩
      clear hds
      go_wp2
      go_ret
      exact hP
end
end Go.Proofs.YtediidajdpdeiaaDoor
