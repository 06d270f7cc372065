/- The log's functions that turn it: New, Sync, Crash, Drop (layer 7): the walks. -/
import Derived.Test.YtediidajdpdeiaaGreatDoorJ3
import Derived.Test.YtediidajdpdeiaaGreatDoorJ2
import Derived.Test.YtediidajdpdeiaaGreatDoorJ0

namespace Go.Proofs.YtediidajdpdeiaaGreatDoor
open Go.RowKit CrcM
set_option maxRecDepth 100000

theorem part_at {α : Type} {gs : List α} {k : Nat} {g : α} (f : α → α) (hg : gs[k]? = some g) : ((gs.take k).map f ++ gs.drop k)[k]? = some g := by
  have hlt := (List.getElem?_eq_some_iff.1 hg).1
  rw [List.getElem?_append_right (by rw [List.length_map, List.length_take]; omega), List.length_map, List.length_take, Nat.min_eq_left (by omega), Nat.sub_self, List.getElem?_drop]
  exact hg
theorem part_set {α : Type} {gs : List α} {k : Nat} {g : α} (f : α → α) (hg : gs[k]? = some g) : ((gs.take k).map f ++ gs.drop k).set k (f g) = (gs.take (k + 1)).map f ++ gs.drop (k + 1) := by
  have hlt := (List.getElem?_eq_some_iff.1 hg).1
  have hl : ((gs.take k).map f).length = k := by rw [List.length_map, List.length_take]; omega
  rw [List.set_append_right _ _ (by omega), hl, Nat.sub_self, drop_of hg, List.take_add_one, hg]
  simp

theorem Lg.up_sync {L : Lg} (h : L.up) : L.sync.1.up := by
  obtain ⟨per, gs, dn⟩ := L
  cases dn
  · intro _ g hg
    have hg : g ∈ gs.map Sg.sync := by simpa [Lg.sync] using hg
    obtain ⟨g', hg', rfl⟩ := List.mem_map.1 hg
    have := h rfl g' hg'
    unfold Sg.sync Sg.up Dk.sync at *
    rw [this.1]
    simp only [Bool.false_eq_true, if_false]
    exact ⟨trivial, this.2⟩
  · exact h
theorem Lg.up_crash {L : Lg} (h : L.up) (k f : Int) : (L.crash k f).1.up := by
  unfold Lg.crash
  split
  · exact h
  · split
    · exact h
    · intro hd; cases hd

section
variable [Hole] {S H : Nat → Prop} {w : World} {b : Nat} {A : Option Addr} {c : Nat} {ps : List Nat} {L : Lg}

theorem LogO.same (h : LogO S H w b A c ps L) (hu : L.up) : IsLog (Up S w w) w (.pointer (some ⟨b, 0, none⟩)) L :=
  ⟨b, rfl, hu, H, A, c, ps, h.mono (fun _ => .inl) (fun x hx => hx.elim (h.lt x) (fun h => h.2))⟩
theorem LogO.isLog {S' H' : Nat → Prop} {w' : World} {A' : Option Addr} {c' : Nat} {ps' : List Nat} {L' : Lg} (h : LogO S' H' w' b A' c' ps' L') (hu : L'.up) : IsLog S' w' (.pointer (some ⟨b, 0, none⟩)) L' :=
  ⟨b, rfl, hu, H', A', c', ps', h⟩
theorem LogO.up2 {w1 w2 : World} {H' : Nat → Prop} {L' : Lg} {A' : Option Addr} {c' : Nat} {ps' : List Nat} (h : LogO (Up (Up S w w1) w1 w2) H' w2 b A' c' ps' L') (h1 : w.heap.size ≤ w1.heap.size) (h2 : w1.heap.size ≤ w2.heap.size) (hl : ∀ x, S x → x < w.heap.size) : LogO (Up S w w2) H' w2 b A' c' ps' L' :=
  h.mono (fun x hx => by
    rcases hx with (hx | hx) | hx
    · exact .inl hx
    · exact .inr ⟨hx.1, Nat.lt_of_lt_of_le hx.2 h2⟩
    · exact .inr ⟨Nat.le_trans h1 hx.1, hx.2⟩) (Up.lt hl (Nat.le_trans h1 h2))

/-- the log's own struct is written anew -/
theorem LogO.put {per : Nat} {gs : List Sg} {dn : Bool} (h : LogO S H w b A c ps ⟨per, gs, dn⟩) {A' : Option Addr} {c' : Nat} {ps' : List Nat} {gs' : List Sg} (hr : Row H w TPs (.slice A' ps'.length c') (ps'.map ptr)) (hs : Segs S H w ps' gs') (hok : Lg.ok ⟨per, gs', dn⟩) :
    LogO S H (w.setCell ⟨b, 1, none⟩ (.slice A' ps'.length c')) b A' c' ps' ⟨per, gs', dn⟩ ∧ Fr S w (w.setCell ⟨b, 1, none⟩ (.slice A' ps'.length c')) := by
  have hnb : ¬ IsB w b := h.blk.notB (by decide)
  have f1 : Fr (fun x => x = b) w (w.setCell ⟨b, 1, none⟩ (.slice A' ps'.length c')) := (Fr.refl (fun x => x = b) _).setCell (p := ⟨b, 1, none⟩) (.inl (show b = b from rfl)) hnb _
  refine ⟨⟨h.hS, h.hb, by simpa using h.blk.set 1 (.slice A' ps'.length c'), hr.otherBlk h.blk (by decide) f1, hs.fr f1 (fun x _ hx e => (hx (e ▸ h.hb)).elim), by simpa [World.setCell] using h.lt, hok, by simpa [World.setCell] using h.hole⟩, f1.mono fun x _ e => h.hS x (e ▸ h.hb)⟩
theorem LogO.setDown {per : Nat} {gs : List Sg} {dn : Bool} (h : LogO S H w b A c ps ⟨per, gs, dn⟩) (dn' : Bool) :
    LogO S H (w.setCell ⟨b, 2, none⟩ (.bool dn')) b A c ps ⟨per, gs, dn'⟩ ∧ Fr S w (w.setCell ⟨b, 2, none⟩ (.bool dn')) := by
  have hnb : ¬ IsB w b := h.blk.notB (by decide)
  have f1 : Fr (fun x => x = b) w (w.setCell ⟨b, 2, none⟩ (.bool dn')) := (Fr.refl (fun x => x = b) _).setCell (p := ⟨b, 2, none⟩) (.inl (show b = b from rfl)) hnb _
  exact ⟨⟨h.hS, h.hb, by simpa using h.blk.set 2 (.bool dn'), h.row.otherBlk h.blk (by decide) f1, h.segs.fr f1 (fun x _ hx e => (hx (e ▸ h.hb)).elim), by simpa [World.setCell] using h.lt, h.ok, by simpa [World.setCell] using h.hole⟩, f1.mono fun x _ e => h.hS x (e ▸ h.hb)⟩

end
section
variable {S H : Nat → Prop} {w : World} {b : Nat} {A : Option Addr} {c : Nat} {ps : List Nat} {L : Lg}
theorem syncL (h : LogO S H w b A c ps L) (hu : L.up) : Calls Tryz.prog 57 #[.pointer (some ⟨b, 0, none⟩)] w (LogDid S w (.pointer (some ⟨b, 0, none⟩)) L.sync) := by
  have hu' := Lg.up_sync hu
  obtain ⟨per, gs, dn⟩ := L
  cases dn
  · have e : Lg.sync ⟨per, gs, false⟩ = (⟨per, gs.map Sg.sync, false⟩, 0) := by unfold Lg.sync; simp
    rw [e] at hu'
    have E := Lib.hid e
    clear e
    obtain ⟨c0, c1, c2, z1, z2, q0, q1, q2, q3, q4⟩ := h.facts
    have HQ := Lib.hid q1
    clear q1
    go_enter Tryz.func57, Tryz.ntmps57
    go_wp2_with (go_at_call 106; refine (askedL h).mono ?_; rintro e w' ⟨rfl, rfl⟩)
    clear c0 c1 c2
    go_loopw [16] (fun i wr => ∃ k : Nat, k ≤ ps.length ∧ i = .int .i64 (k : Int) ∧ LogO (Up S w wr) H wr b A c ps ⟨per, (gs.take k).map Sg.sync ++ gs.drop k, false⟩ ∧ Fr S w wr) (fun i _ => ps.length - (intOf i).toNat)
    case atStart => exact ⟨0, by omega, rfl, h.mono (fun _ => .inl) (fun x hx => hx.elim (h.lt x) (fun h => h.2)), Fr.refl _ _⟩
    case round =>
      obtain ⟨k, hk, rfl, ho, hf⟩ := hrel
      by_cases hlt : k < ps.length
      · obtain ⟨g, hg⟩ : ∃ g, gs[k]? = some g := ⟨_, List.getElem?_eq_getElem (show k < gs.length by have := HQ.out; omega)⟩
        have hpg := part_at Sg.sync hg
        have hps := part_set Sg.sync hg
        obtain ⟨d, base, recs, safe⟩ := g
        obtain ⟨p, hp⟩ : ∃ p, ps[k]? = some p := ⟨_, List.getElem?_eq_getElem hlt⟩
        obtain ⟨ad, rfl, ca⟩ := ho.ptrAt hp
        obtain ⟨Sd, db, R, cR, s0, hd, hSd, hup⟩ := ho.disk hp hpg
        have HP := Lib.hid hps
        clear hps
        have hlt' : (k : Int) < (ps.length : Int) := by omega
        go_wp2_with (go_at_call 109; refine (sync_B hd).mono ?_; rintro e w1 ⟨rfl, hd1, hf1⟩
                     have ho1 := hup w1 _ hf1 hd1
                     have hpg1 : ((List.map Sg.sync (List.take k gs) ++ List.drop k gs).set k ⟨d.sync.1, base, recs, safe⟩)[k]? = some ⟨d.sync.1, base, recs, safe⟩ := List.getElem?_set_self (List.getElem?_eq_some_iff.1 hpg).1
                     obtain ⟨p', hp', db', R', cR', s0', s1', s2', s3', y2', y3'⟩ := ho1.segs.facts hpg1
                     rw [hp] at hp'
                     injection hp' with hp'
                     subst hp'
                     obtain ⟨ho2, hf2⟩ := ho1.setSafe hp hpg1 recs.length (Nat.le_refl _)
                     rw [List.set_set] at ho2)
        have hsz : (w1.setCell ⟨p, 3, none⟩ (.int .i64 (recs.length : Int))).heap.size = w1.heap.size := by simp [World.setCell]
        go_roundw
        case rel =>
          have ho3 : LogO (Up (Up S w wr) wr (w1.setCell ⟨p, 3, none⟩ (.int .i64 (recs.length : Int)))) H _ b _ c ps _ := ho2.mono (fun x hx => hx.imp_right (fun h => ⟨h.1, by rw [hsz]; exact h.2⟩)) (fun x hx => ho2.lt x (hx.imp_right (fun h => ⟨h.1, by rw [hsz] at h; exact h.2⟩)))
          refine ⟨k + 1, by omega, by go_num, ?_, ?_⟩
          · rw [← HP.out]
            exact ho3.up2 hf.size (by rw [hsz]; exact hf1.size) h.lt
          · exact (hf.trans' hf1 (fun x hb hx => (hSd x hx).elim id (fun h => by omega))).trans' hf2 (fun x hb hx => by
              rcases hx with (hx | hx) | hx
              · exact hx
              · omega
              · have := hf.size; omega)
        case measure => simp [intOf]; omega
      · obtain rfl : k = ps.length := by omega
        go_wp2
        go_ret
        rw [E.out]
        have e1 : gs.take ps.length = gs := List.take_of_length_le (by rw [HQ.out]; exact Nat.le_refl _)
        have e2 : gs.drop ps.length = [] := List.drop_of_length_le (by rw [HQ.out]; exact Nat.le_refl _)
        rw [e1, e2, List.append_nil] at ho
        exact ⟨rfl, ho.isLog hu', hf⟩
  · have e : Lg.sync ⟨per, gs, true⟩ = (⟨per, gs, true⟩, 10) := by unfold Lg.sync; simp
    have E := Lib.hid e
    clear e hu'
    go_enter Tryz.func57, Tryz.ntmps57
    go_wp2_with (go_at_call 106; refine (askedL h).mono ?_; rintro e w' ⟨rfl, rfl⟩)
    go_ret
    rw [E.out]
    exact ⟨rfl, h.same hu, Fr.refl _ _⟩

theorem crashL (h : LogO S H w b A c ps L) (hu : L.up) (keep flip : Int) (hk63 : keep ≤ 9223372036854775807) (hf63 : flip ≤ 9223372036854775807) (hk0 : -9223372036854775808 ≤ keep) (hf0 : -9223372036854775808 ≤ flip) :
    Calls Tryz.prog 124 #[.pointer (some ⟨b, 0, none⟩), .int .i64 keep, .int .i64 flip] w (LogDid S w (.pointer (some ⟨b, 0, none⟩)) (L.crash keep flip)) := by
  have hu' := Lg.up_crash hu keep flip
  obtain ⟨per, gs, dn⟩ := L
  cases dn
  · obtain ⟨c0, c1, c2, z1, z2, q0, q1, q2, q3, q4⟩ := h.facts
    have HQ := Lib.hid q1
    clear q1
    by_cases hneg : keep < 0
    · have e : Lg.crash ⟨per, gs, false⟩ keep flip = (⟨per, gs, false⟩, 2) := by unfold Lg.crash; simp [hneg]
      have E := Lib.hid e
      clear e hu'
      go_enter Tryz.func124, Tryz.ntmps124
      go_wp2_with (go_at_call 106; refine (askedL h).mono ?_; rintro e w' ⟨rfl, rfl⟩)
      go_ret
      rw [E.out]
      exact ⟨rfl, h.same hu, Fr.refl _ _⟩
    · have e : Lg.crash ⟨per, gs, false⟩ keep flip = (⟨per, gs.map (Sg.crash keep flip), true⟩, 0) := by unfold Lg.crash; simp [hneg]
      rw [e] at hu'
      have E := Lib.hid e
      clear e
      go_enter Tryz.func124, Tryz.ntmps124
      go_wp2_with (go_at_call 106; refine (askedL h).mono ?_; rintro e w' ⟨rfl, rfl⟩)
      clear c0 c1 c2
      go_loopw [22] (fun i wr => ∃ k : Nat, k ≤ ps.length ∧ i = .int .i64 (k : Int) ∧ LogO (Up S w wr) H wr b A c ps ⟨per, (gs.take k).map (Sg.crash keep flip) ++ gs.drop k, false⟩ ∧ Fr S w wr) (fun i _ => ps.length - (intOf i).toNat)
      case atStart => exact ⟨0, by omega, rfl, h.mono (fun _ => .inl) (fun x hx => hx.elim (h.lt x) (fun h => h.2)), Fr.refl _ _⟩
      case round =>
        obtain ⟨k, hk, rfl, ho, hf⟩ := hrel
        by_cases hlt : k < ps.length
        · obtain ⟨g, hg⟩ : ∃ g, gs[k]? = some g := ⟨_, List.getElem?_eq_getElem (show k < gs.length by have := HQ.out; omega)⟩
          have hpg := part_at (Sg.crash keep flip) hg
          have hps := part_set (Sg.crash keep flip) hg
          obtain ⟨d, base, recs, safe⟩ := g
          obtain ⟨p, hp⟩ : ∃ p, ps[k]? = some p := ⟨_, List.getElem?_eq_getElem hlt⟩
          obtain ⟨ad, rfl, ca⟩ := ho.ptrAt hp
          obtain ⟨Sd, db, R, cR, s0, hd, hSd, hup⟩ := ho.disk hp hpg
          have HP := Lib.hid hps
          clear hps
          have hlt' : (k : Int) < (ps.length : Int) := by omega
          go_wp2_with (go_at_call 125; refine (crash_B hd keep flip hk63 hf63 hk0 hf0).mono ?_; rintro e w1 ⟨rfl, hd1, hf1⟩
                       have ho1 := hup w1 _ hf1 hd1)
          go_roundw
          case rel =>
            refine ⟨k + 1, by omega, by go_num, ?_, hf.trans' hf1 (fun x hb hx => (hSd x hx).elim id (fun h => by omega))⟩
            rw [← HP.out]
            exact ho1.up2 hf.size hf1.size h.lt
          case measure => simp [intOf]; omega
        · obtain rfl : k = ps.length := by omega
          obtain ⟨ho2, hf2⟩ := ho.setDown true
          obtain ⟨c0, c1, c2, z1, z2, -, -, -, -, -⟩ := ho.facts
          go_wp2
          go_ret
          rw [E.out]
          have e1 : gs.take ps.length = gs := List.take_of_length_le (by rw [HQ.out]; exact Nat.le_refl _)
          have e2 : gs.drop ps.length = [] := List.drop_of_length_le (by rw [HQ.out]; exact Nat.le_refl _)
          rw [e1, e2, List.append_nil] at ho2
          have hsz : (wr.setCell ⟨b, 2, none⟩ (.bool true)).heap.size = wr.heap.size := by simp [World.setCell]
          have ho3 : LogO (Up S w (wr.setCell ⟨b, 2, none⟩ (.bool true))) H _ b A c ps _ := ho2.mono (fun x hx => hx.imp_right (fun h => ⟨h.1, by rw [hsz]; exact h.2⟩)) (fun x hx => ho2.lt x (hx.imp_right (fun h => ⟨h.1, by rw [hsz] at h; exact h.2⟩)))
          exact ⟨rfl, ho3.isLog hu', hf.trans' hf2 (fun x hb hx => hx.elim id (fun h => by omega))⟩
  · have e : Lg.crash ⟨per, gs, true⟩ keep flip = (⟨per, gs, true⟩, 10) := by unfold Lg.crash; simp
    have E := Lib.hid e
    clear e hu'
    go_enter Tryz.func124, Tryz.ntmps124
    go_wp2_with (go_at_call 106; refine (askedL h).mono ?_; rintro e w' ⟨rfl, rfl⟩)
    go_ret
    rw [E.out]
    exact ⟨rfl, h.same hu, Fr.refl _ _⟩

theorem newL (w : World) (per : Int) : Calls Tryz.prog 46 #[.int .i64 per] w fun e w' =>
    if 1 ≤ per ∧ per ≤ 1024 then ∃ p, e = .returned (.tuple #[p, .int .i64 0]) ∧ IsLog (Nw w w') w' p (Lg.new per.toNat) ∧ Below w.heap.size w w' else e = .returned (.tuple #[.pointer none, .int .i64 2]) ∧ w' = w := by
  by_cases h : 1 ≤ per ∧ per ≤ 1024
  · simp only [if_pos h]
    obtain ⟨n, rfl⟩ : ∃ n : Nat, per = n := ⟨per.toNat, by omega⟩
    have h1 : ¬ (n : Int) < 1 := by omega
    have h2 : ¬ (1024 : Int) < (n : Int) := by omega
    go_enter Tryz.func46, Tryz.ntmps46
    go_wp2
    go_ret2
    refine ⟨_, rfl, ⟨w.heap.size, rfl, fun _ g hg => by simp [Lg.new] at hg, Nw w (w.alloc (.cells #[.int .i64 (n : Int), .slice none 0 0, .bool false] TLg)), none, 0, [], fun _ h => h, ⟨Nat.le_refl _, by simp⟩, Blk.new _ _ _, Row.nil _ _ _, Segs.nil _ _ _, fun x hx => hx.2, ?_, fun _ _ => trivial⟩, (Below.refl _ _).alloc (Nat.le_refl _) _⟩
    refine ⟨?_, ?_, by simp [Lg.new], fun g hg => by simp [Lg.new] at hg⟩
    · show 1 ≤ ((n : Int)).toNat
      omega
    · show ((n : Int)).toNat ≤ 1024
      omega
  · simp only [if_neg h]
    by_cases h1 : per < 1
    · go_enter Tryz.func46, Tryz.ntmps46
      go_wp2
      go_ret2
      exact ⟨rfl, rfl⟩
    · have h2 : (1024 : Int) < per := by omega
      go_enter Tryz.func46, Tryz.ntmps46
      go_wp2
      go_ret2
      exact ⟨rfl, rfl⟩

end
end Go.Proofs.YtediidajdpdeiaaGreatDoor

/- The document's disk: plain functions, and the walks. -/
namespace Go.Proofs.YtediidajdpdeiaaGreatDoor
open Go.RowKit
set_option maxRecDepth 100000

/-- the document's disk: what is kept, what is not, is it down -/
structure Rk where
  kept : List UInt8
  rest : List UInt8
  down : Bool

namespace Rk
def new : Rk := ⟨[], [], false⟩
def append (R : Rk) (b : List UInt8) : Rk × Int := if R.down then (R, 10) else if 4194304 < R.kept.length + R.rest.length + b.length then (R, 7) else (⟨R.kept, R.rest ++ b, false⟩, 0)
def sync (R : Rk) : Rk × Int := if R.down then (R, 10) else (⟨R.kept ++ R.rest, [], false⟩, 0)
def cut (R : Rk) (n : Int) : Rk × Int := if R.down then (R, 10) else if n < 0 ∨ ((R.kept ++ R.rest).length : Int) < n then (R, 2) else (⟨(R.kept ++ R.rest).take n.toNat, [], false⟩, 0)
def swap (R : Rk) (b : List UInt8) : Rk × Int := if R.down then (R, 10) else if 4194304 < b.length then (R, 7) else (⟨b, [], false⟩, 0)
def crash (R : Rk) (keep flip : Int) : Rk × Int := if R.down then (R, 10) else if keep < 0 then (R, 2) else (⟨R.kept, torn R.rest keep flip, true⟩, 0)
def restart (R : Rk) : Rk × Int := if R.down then (⟨R.kept ++ R.rest, [], false⟩, 0) else (R, 9)
def read (R : Rk) : List UInt8 × Int := if R.down then ([], 10) else (R.kept ++ R.rest, 0)
def ok (R : Rk) : Prop := R.kept.length + R.rest.length ≤ 70368744177664
end Rk

/-- block b is a disk of the document's -/
structure RefAt (S : Nat → Prop) (w : World) (b : Nat) (A1 : Option Addr) (c1 : Nat) (A2 : Option Addr) (c2 : Nat) (R : Rk) : Prop where
  blk : Blk w b 187 #[.slice A1 R.kept.length c1, .slice A2 R.rest.length c2, .bool R.down]
  own1 : Own S w A1 R.kept
  own2 : Own S w A2 R.rest
  inS : S b
  lt : ∀ x, S x → x < w.heap.size
  cap1 : R.kept.length ≤ c1
  cap2 : R.rest.length ≤ c2
  ok : R.ok

def IsRef (S : Nat → Prop) (w : World) (p : Value) (R : Rk) : Prop := ∃ b A1 c1 A2 c2, p = .pointer (some ⟨b, 0, none⟩) ∧ RefAt S w b A1 c1 A2 c2 R

section
variable {S S' : Nat → Prop} {w w' : World} {b : Nat} {A1 A2 : Option Addr} {c1 c2 : Nat} {R : Rk} {p : Value}
theorem RefAt.fr (h : RefAt S w b A1 c1 A2 c2 R) (f : Fr S' w w') (hd : ∀ x, S x → S' x → IsB w x) : RefAt S w' b A1 c1 A2 c2 R :=
  ⟨h.blk.fr f fun hs => h.blk.notB (by decide) (hd _ h.inS hs), h.own1.fr f, h.own2.fr f, h.inS, fun x hx => Nat.lt_of_lt_of_le (h.lt x hx) f.size, h.cap1, h.cap2, h.ok⟩
theorem IsRef.fr (h : IsRef S w p R) (f : Fr S' w w') (hd : ∀ x, S x → S' x → IsB w x) : IsRef S w' p R := by
  obtain ⟨b, A1, c1, A2, c2, rfl, h⟩ := h
  exact ⟨b, A1, c1, A2, c2, rfl, h.fr f hd⟩
theorem RefAt.below (h : RefAt S w b A1 c1 A2 c2 R) (hb : Below w.heap.size w w') : RefAt S w' b A1 c1 A2 c2 R := h.fr (S' := Non) (Fr.of_below hb) (fun _ _ h => h.elim)
theorem RefAt.drew (h : RefAt S w b A1 c1 A2 c2 R) : RefAt S w.drew b A1 c1 A2 c2 R := ⟨h.blk, h.own1, h.own2, h.inS, h.lt, h.cap1, h.cap2, h.ok⟩
theorem RefAt.notB (h : RefAt S w b A1 c1 A2 c2 R) : ¬ IsB w b := h.blk.notB (by decide)
theorem RefAt.same (h : RefAt S w b A1 c1 A2 c2 R) : IsRef (Up S w w) w (.pointer (some ⟨b, 0, none⟩)) R :=
  ⟨b, A1, c1, A2, c2, rfl, h.blk, h.own1.mono fun _ => .inl, h.own2.mono fun _ => .inl, .inl h.inS, fun x hx => hx.elim (h.lt x) (fun h => h.2), h.cap1, h.cap2, h.ok⟩
theorem RefAt.up {w0 : World} (h : RefAt S w b A1 c1 A2 c2 R) : IsRef (Up S w0 w) w (.pointer (some ⟨b, 0, none⟩)) R :=
  ⟨b, A1, c1, A2, c2, rfl, h.blk, h.own1.mono fun _ => .inl, h.own2.mono fun _ => .inl, .inl h.inS, fun x hx => hx.elim (h.lt x) (fun h => h.2), h.cap1, h.cap2, h.ok⟩
theorem RefAt.turned (h : RefAt S w b A1 c1 A2 c2 R) (f : Fr S w w') {A1' A2' : Option Addr} {c1' c2' : Nat} {R' : Rk}
    (hb : Blk w' b 187 #[.slice A1' R'.kept.length c1', .slice A2' R'.rest.length c2', .bool R'.down]) (ho1 : Own (Up S w w') w' A1' R'.kept) (ho2 : Own (Up S w w') w' A2' R'.rest)
    (hc1 : R'.kept.length ≤ c1') (hc2 : R'.rest.length ≤ c2') (hok : R'.ok) : IsRef (Up S w w') w' (.pointer (some ⟨b, 0, none⟩)) R' :=
  ⟨b, A1', c1', A2', c2', rfl, hb, ho1, ho2, .inl h.inS, fun x hx => hx.elim (fun hx => Nat.lt_of_lt_of_le (h.lt x hx) f.size) (fun h => h.2), hc1, hc2, hok⟩
theorem RefAt.facts {kept rest : List UInt8} {dn : Bool} (h : RefAt S w b A1 c1 A2 c2 ⟨kept, rest, dn⟩) :
    w.cell? ⟨b, 0, none⟩ = some (.slice A1 kept.length c1) ∧ w.cell? ⟨b, 1, none⟩ = some (.slice A2 rest.length c2) ∧ w.cell? ⟨b, 2, none⟩ = some (.bool dn) ∧
    w.frozen? ⟨b, 0, none⟩ = false ∧ w.frozen? ⟨b, 1, none⟩ = false ∧ w.frozen? ⟨b, 2, none⟩ = false ∧ b < w.heap.size ∧ kept.length ≤ c1 ∧ rest.length ≤ c2 ∧ kept.length + rest.length ≤ 70368744177664 :=
  ⟨h.blk.cell 0 rfl, h.blk.cell 1 rfl, h.blk.cell 2 rfl, h.blk.frozen 0, h.blk.frozen 1, h.blk.frozen 2, h.blk.lt, h.cap1, h.cap2, h.ok⟩
end

def RefDid (S : Nat → Prop) (w : World) (p : Value) (r : Rk × Int) (e : Ending) (w' : World) : Prop := e = .returned (.int .i64 r.2) ∧ IsRef (Up S w w') w' p r.1 ∧ Fr S w w'

theorem join_B (w : World) (A B : Option Addr) (a b : List UInt8) (c d : Nat) (ha : Rd Non w A a) (hb : Rd Non w B b) (hl : a.length + b.length ≤ 140737488355328) :
    Calls Tryz.prog 155 #[.slice A a.length c, .slice B b.length d] w (Cloned w (a ++ b)) := by
  obtain ⟨i, hi, hz, hs, hby⟩ := info_parts info_u8
  obtain ⟨m, hm⟩ : ∃ m, a.length = m := ⟨_, rfl⟩
  obtain ⟨n, hn⟩ : ∃ n, b.length = n := ⟨_, rfl⟩
  have HM := Lib.hid hm
  have HN := Lib.hid hn
  rw [hm, hn] at hl ⊢
  clear hm hn
  go_enter Tryz.func155, Tryz.ntmps155
  go_wp2_with (first
    | (at_builtin
       refine wpList_appB rfl (.tmp 5) (.tmp 6) 30 rfl i Tryz.underlying30 hi hz hs hby w.heap.size (.slice (some ⟨w.heap.size, 0, none⟩) 0 0) 0 [] rfl (ownsB_none w) Non A m c a rfl HM.out (ha.fr ((Fr.refl _ _).alloc _)) (by omega) (by simp) ?_
       intro v1 w1 ho1 hg1 ha1
       rw [Nat.zero_add, List.nil_append] at ho1
       obtain ⟨A1, c1, rfl, hc1, hm1⟩ := own_val ho1
       have hb1 : Below w.heap.size w w1 := ((Below.refl _ _).alloc (Nat.le_refl _) _).grown hg1 (by simp) (fun j hj => by injection hj with hj; subst hj; exact Nat.le_refl _)
       clear hg1 ha1)
    | (at_builtin
       refine wpList_appB rfl (.tmp 7) (.tmp 8) 30 rfl i Tryz.underlying30 hi hz hs hby w.heap.size (.slice A1 m c1) m a rfl ho1 Non B n d b rfl HN.out (hb.fr (Fr.of_below hb1)) (by omega) hb1.size ?_
       intro v2 w2 ho2 hg2 ha2
       obtain ⟨A2, c2, rfl, hc2, hm2⟩ := own_val ho2
       have hb2 : Below w.heap.size w w2 := hb1.grown hg2 hb1.size (fun j hj => (ho1.lt j hj).1)
       clear hg2 ha2))
  go_ret
  have e : m + n = (a ++ b).length := by rw [List.length_append, HM.out, HN.out]
  rw [e] at ho2 hc2 ⊢
  exact ⟨A2, c2, rfl, ho2, hc2, hm2, hb2⟩

section
variable {S : Nat → Prop} {w : World} {b : Nat} {A1 A2 : Option Addr} {c1 c2 : Nat} {R : Rk}

theorem refAppend_B (h : RefAt S w b A1 c1 A2 c2 R) (B : Option Addr) (l : List UInt8) (cb : Nat) (hl : l.length ≤ 35184372088832) (hr : Rd S w B l) :
    Calls Tryz.prog 154 #[.pointer (some ⟨b, 0, none⟩), .slice B l.length cb] w (RefDid S w (.pointer (some ⟨b, 0, none⟩)) (R.append l)) := by
  obtain ⟨kept, rest, dn⟩ := R
  obtain ⟨d0, d1, d2, z0, z1, z2, hb, hc1, hc2, hok⟩ := h.facts
  cases dn
  · by_cases hf : 4194304 < kept.length + rest.length + l.length
    · have e : (Rk.append ⟨kept, rest, false⟩ l) = (⟨kept, rest, false⟩, 7) := by simp [Rk.append, hf]
      have H := Lib.hid e
      have q1 : IntKind.i64.wrap ((kept.length : Int) + (rest.length : Int)) = (kept.length : Int) + (rest.length : Int) := by rw [IntKind.wrap_i64]; omega
      have q2 : IntKind.i64.wrap ((kept.length : Int) + (rest.length : Int) + (l.length : Int)) = (kept.length : Int) + (rest.length : Int) + (l.length : Int) := by rw [IntKind.wrap_i64]; omega
      have q3 : (4194304 : Int) < (kept.length : Int) + (rest.length : Int) + (l.length : Int) := by omega
      clear e
      go_enter Tryz.func154, Tryz.ntmps154
      go_wp2
      refine wp_region_T #[[], [], [], [], [3], [], [], [], [], [8], [3, 8], [], [], [3, 8], [3, 8]] [3, 8] (fun w' => w'.cell? ⟨b, 0, none⟩ = some (.slice A1 kept.length c1) ∧ w'.cell? ⟨b, 1, none⟩ = some (.slice A2 rest.length c2)) 15 rfl (by kernel_rfl) ?_
      (refine wpF (i := 0) rfl (by kernel_rfl) rfl (fun _ _ _ h => h) (fun _ => by go_simp; try rfl) ?_; (try simp only [Act.put, sA, sB, sC]))
      (refine wpF (i := 1) rfl (by kernel_rfl) rfl (fun _ _ _ h => h) (fun _ => by go_simp; try rfl) ?_; (try simp only [Act.put, sA, sB, sC]))
      (refine wpF (i := 2) rfl (by kernel_rfl) rfl (fun _ _ _ h => h) (fun _ => by go_simp; try rfl) ?_; (try simp only [Act.put, sA, sB, sC]))
      (refine wpAnyT_read (i := 3) rfl (by kernel_rfl) rfl (fun _ _ _ h => h) (by kernel_rfl) (⟨d0, d1⟩) (fun w hS_ => by obtain ⟨s_1, s_2⟩ := hS_; go_simp; try rfl) ?_; (try simp only [Act.put, sA, sB, sC]))
      (refine wpF (i := 4) rfl (by kernel_rfl) rfl (fun _ _ _ h => h) (fun _ => by go_simp; try rfl) ?_; (try simp only [Act.put, sA, sB, sC]))
      (refine wpF (i := 5) rfl (by kernel_rfl) rfl (fun _ _ _ h => h) (fun _ => by go_simp; try rfl) ?_; (try simp only [Act.put, sA, sB, sC]))
      (refine wpF (i := 6) rfl (by kernel_rfl) rfl (fun _ _ _ h => h) (fun _ => by go_simp; try rfl) ?_; (try simp only [Act.put, sA, sB, sC]))
      (refine wpF (i := 7) rfl (by kernel_rfl) rfl (fun _ _ _ h => h) (fun _ => by go_simp; try rfl) ?_; (try simp only [Act.put, sA, sB, sC]))
      (refine wpAnyT_read (i := 8) rfl (by kernel_rfl) rfl (fun _ _ _ h => h) (by kernel_rfl) (⟨d0, d1⟩) (fun w hS_ => by obtain ⟨s_1, s_2⟩ := hS_; go_simp; try rfl) ?_; (try simp only [Act.put, sA, sB, sC]))
      (refine wpF (i := 9) rfl (by kernel_rfl) rfl (fun _ _ _ h => h) (fun _ => by go_simp; try rfl) ?_; (try simp only [Act.put, sA, sB, sC]))
      (refine wpF (i := 10) rfl (by kernel_rfl) rfl (fun _ _ _ h => h) (fun _ => by go_simp; try rfl) ?_; (try simp only [Act.put, sA, sB, sC]))
      (refine wpF (i := 11) rfl (by kernel_rfl) rfl (fun _ _ _ h => h) (fun _ => by go_simp; try rfl) ?_; (try simp only [Act.put, sA, sB, sC]))
      (refine wpF (i := 12) rfl (by kernel_rfl) rfl (fun _ _ _ h => h) (fun _ => by go_simp; try rfl) ?_; (try simp only [Act.put, sA, sB, sC]))
      (refine wpF (i := 13) rfl (by kernel_rfl) rfl (fun _ _ _ h => h) (fun _ => by go_simp; try rfl) ?_; (try simp only [Act.put, sA, sB, sC]))
      (refine wpF (i := 14) rfl (by kernel_rfl) rfl (fun _ _ _ h => h) (fun _ => by go_simp; try rfl) ?_; (try simp only [Act.put, sA, sB, sC]))
      refine wpAnyT_done (by kernel_rfl) ?_ _
      go_wp2
      go_ret
      rw [H.out]
      exact ⟨rfl, (h.drew).same, (Fr.refl _ _).drew⟩
    · have e : (Rk.append ⟨kept, rest, false⟩ l) = (⟨kept, rest ++ l, false⟩, 0) := by simp [Rk.append, hf]
      have H := Lib.hid e
      have q1 : IntKind.i64.wrap ((kept.length : Int) + (rest.length : Int)) = (kept.length : Int) + (rest.length : Int) := by rw [IntKind.wrap_i64]; omega
      have q2 : IntKind.i64.wrap ((kept.length : Int) + (rest.length : Int) + (l.length : Int)) = (kept.length : Int) + (rest.length : Int) + (l.length : Int) := by rw [IntKind.wrap_i64]; omega
      have q3 : ¬ (4194304 : Int) < (kept.length : Int) + (rest.length : Int) + (l.length : Int) := by omega
      clear e
      go_enter Tryz.func154, Tryz.ntmps154
      go_wp2
      refine wp_region_T #[[], [], [], [], [3], [], [], [], [], [8], [3, 8], [], [], [3, 8], [3, 8]] [3, 8] (fun w' => w'.cell? ⟨b, 0, none⟩ = some (.slice A1 kept.length c1) ∧ w'.cell? ⟨b, 1, none⟩ = some (.slice A2 rest.length c2)) 15 rfl (by kernel_rfl) ?_
      (refine wpF (i := 0) rfl (by kernel_rfl) rfl (fun _ _ _ h => h) (fun _ => by go_simp; try rfl) ?_; (try simp only [Act.put, sA, sB, sC]))
      (refine wpF (i := 1) rfl (by kernel_rfl) rfl (fun _ _ _ h => h) (fun _ => by go_simp; try rfl) ?_; (try simp only [Act.put, sA, sB, sC]))
      (refine wpF (i := 2) rfl (by kernel_rfl) rfl (fun _ _ _ h => h) (fun _ => by go_simp; try rfl) ?_; (try simp only [Act.put, sA, sB, sC]))
      (refine wpAnyT_read (i := 3) rfl (by kernel_rfl) rfl (fun _ _ _ h => h) (by kernel_rfl) (⟨d0, d1⟩) (fun w hS_ => by obtain ⟨s_1, s_2⟩ := hS_; go_simp; try rfl) ?_; (try simp only [Act.put, sA, sB, sC]))
      (refine wpF (i := 4) rfl (by kernel_rfl) rfl (fun _ _ _ h => h) (fun _ => by go_simp; try rfl) ?_; (try simp only [Act.put, sA, sB, sC]))
      (refine wpF (i := 5) rfl (by kernel_rfl) rfl (fun _ _ _ h => h) (fun _ => by go_simp; try rfl) ?_; (try simp only [Act.put, sA, sB, sC]))
      (refine wpF (i := 6) rfl (by kernel_rfl) rfl (fun _ _ _ h => h) (fun _ => by go_simp; try rfl) ?_; (try simp only [Act.put, sA, sB, sC]))
      (refine wpF (i := 7) rfl (by kernel_rfl) rfl (fun _ _ _ h => h) (fun _ => by go_simp; try rfl) ?_; (try simp only [Act.put, sA, sB, sC]))
      (refine wpAnyT_read (i := 8) rfl (by kernel_rfl) rfl (fun _ _ _ h => h) (by kernel_rfl) (⟨d0, d1⟩) (fun w hS_ => by obtain ⟨s_1, s_2⟩ := hS_; go_simp; try rfl) ?_; (try simp only [Act.put, sA, sB, sC]))
      (refine wpF (i := 9) rfl (by kernel_rfl) rfl (fun _ _ _ h => h) (fun _ => by go_simp; try rfl) ?_; (try simp only [Act.put, sA, sB, sC]))
      (refine wpF (i := 10) rfl (by kernel_rfl) rfl (fun _ _ _ h => h) (fun _ => by go_simp; try rfl) ?_; (try simp only [Act.put, sA, sB, sC]))
      (refine wpF (i := 11) rfl (by kernel_rfl) rfl (fun _ _ _ h => h) (fun _ => by go_simp; try rfl) ?_; (try simp only [Act.put, sA, sB, sC]))
      (refine wpF (i := 12) rfl (by kernel_rfl) rfl (fun _ _ _ h => h) (fun _ => by go_simp; try rfl) ?_; (try simp only [Act.put, sA, sB, sC]))
      (refine wpF (i := 13) rfl (by kernel_rfl) rfl (fun _ _ _ h => h) (fun _ => by go_simp; try rfl) ?_; (try simp only [Act.put, sA, sB, sC]))
      (refine wpF (i := 14) rfl (by kernel_rfl) rfl (fun _ _ _ h => h) (fun _ => by go_simp; try rfl) ?_; (try simp only [Act.put, sA, sB, sC]))
      refine wpAnyT_done (by kernel_rfl) ?_ _
      clear q1 q2
      have hj := join_B w.drew A2 B rest l c2 cb ((h.own2.rd Non).drew) ((hr.mono (fun _ _ h => h.elim)).drew) (by omega)
      have hJl : (rest ++ l).length ≤ rest.length + l.length := by rw [List.length_append]; omega
      generalize rest ++ l = J at *
      go_wp2_with (go_at_call 155; refine hj.mono ?_; rintro e w1 ⟨A3, c3, rfl, ho3, hc3, hm3, hb3⟩; have h1 := h.drew.below hb3; obtain ⟨d0', d1', d2', z0', z1', z2', hb', -⟩ := h1.facts)
      go_ret
      rw [H.out]
      have F1 : Fr S w (w1.setCell ⟨b, 1, none⟩ (.slice A3 J.length c3)) := ((Fr.refl S w).drew.trans (S' := Non) (Fr.of_below hb3) (fun _ h => h.elim)).setCell (p := ⟨b, 1, none⟩) (.inl h.inS) h.notB _
      have F2 : Fr S w1 (w1.setCell ⟨b, 1, none⟩ (.slice A3 J.length c3)) := (Fr.refl S w1).setCell (p := ⟨b, 1, none⟩) (.inl h.inS) h1.notB _
      refine ⟨rfl, h.turned F1 (A1' := A1) (c1' := c1) (A2' := A3) (c2' := c3) (R' := ⟨kept, J, false⟩) (by simpa using h1.blk.set 1 (.slice A3 J.length c3)) ((h1.own1.fr F2).mono fun _ => .inl) (((Own.of_row' ho3).fr F2).up fun x hx => .inr hx) hc1 hc3 ?_, F1⟩
      show kept.length + J.length ≤ _
      omega
  · have e : (Rk.append ⟨kept, rest, true⟩ l) = (⟨kept, rest, true⟩, 10) := by simp [Rk.append]
    have H := Lib.hid e
    clear e
    go_enter Tryz.func154, Tryz.ntmps154
    go_wp2
    go_ret
    rw [H.out]
    exact ⟨rfl, h.same, Fr.refl _ _⟩

theorem refSync_B (h : RefAt S w b A1 c1 A2 c2 R) :
    Calls Tryz.prog 121 #[.pointer (some ⟨b, 0, none⟩)] w (RefDid S w (.pointer (some ⟨b, 0, none⟩)) R.sync) := by
  obtain ⟨kept, rest, dn⟩ := R
  obtain ⟨d0, d1, d2, z0, z1, z2, hb, hc1, hc2, hok⟩ := h.facts
  cases dn
  · have e : (Rk.sync ⟨kept, rest, false⟩) = (⟨kept ++ rest, [], false⟩, 0) := by simp [Rk.sync]
    have H := Lib.hid e
    clear e
    have hj := join_B w.drew A1 A2 kept rest c1 c2 ((h.own1.rd Non).drew) ((h.own2.rd Non).drew) (by omega)
    have hJl : (kept ++ rest).length ≤ kept.length + rest.length := by rw [List.length_append]; omega
    generalize kept ++ rest = J at *
    go_enter Tryz.func121, Tryz.ntmps121
    go_wp2
    refine wp_region_T #[[], [], [], [], [], [], [], [], [], [4, 8], [4, 8], [4, 8], [4, 8]] [4, 8] (fun w' => w'.cell? ⟨b, 0, none⟩ = some (.slice A1 kept.length c1) ∧ w'.cell? ⟨b, 1, none⟩ = some (.slice A2 rest.length c2)) 13 rfl (by kernel_rfl) ?_
    (refine wpF (i := 0) rfl (by kernel_rfl) rfl (fun _ _ _ h => h) (fun _ => by go_simp; try rfl) ?_; (try simp only [Act.put, sA, sB, sC]))
    (refine wpF (i := 1) rfl (by kernel_rfl) rfl (fun _ _ _ h => h) (fun _ => by go_simp; try rfl) ?_; (try simp only [Act.put, sA, sB, sC]))
    (refine wpF (i := 2) rfl (by kernel_rfl) rfl (fun _ _ _ h => h) (fun _ => by go_simp; try rfl) ?_; (try simp only [Act.put, sA, sB, sC]))
    (refine wpF (i := 3) rfl (by kernel_rfl) rfl (fun _ _ _ h => h) (fun _ => by go_simp; try rfl) ?_; (try simp only [Act.put, sA, sB, sC]))
    (refine wpAnyT_read (i := 4) rfl (by kernel_rfl) rfl (fun _ _ _ h => h) (by kernel_rfl) (⟨d0, d1⟩) (fun w hS_ => by obtain ⟨s_1, s_2⟩ := hS_; go_simp; try rfl) ?_; (try simp only [Act.put, sA, sB, sC]))
    (refine wpF (i := 5) rfl (by kernel_rfl) rfl (fun _ _ _ h => h) (fun _ => by go_simp; try rfl) ?_; (try simp only [Act.put, sA, sB, sC]))
    (refine wpF (i := 6) rfl (by kernel_rfl) rfl (fun _ _ _ h => h) (fun _ => by go_simp; try rfl) ?_; (try simp only [Act.put, sA, sB, sC]))
    (refine wpF (i := 7) rfl (by kernel_rfl) rfl (fun _ _ _ h => h) (fun _ => by go_simp; try rfl) ?_; (try simp only [Act.put, sA, sB, sC]))
    (refine wpAnyT_read (i := 8) rfl (by kernel_rfl) rfl (fun _ _ _ h => h) (by kernel_rfl) (⟨d0, d1⟩) (fun w hS_ => by obtain ⟨s_1, s_2⟩ := hS_; go_simp; try rfl) ?_; (try simp only [Act.put, sA, sB, sC]))
    refine wpAnyT_sink (i := 9) rfl (by kernel_rfl) rfl (by kernel_rfl) ?_
    intro K_ hK_
    go_wp2_with ((go_at_call 155; refine hj.mono ?_; rintro e w1 ⟨A3, c3, rfl, ho3, hc3, hm3, hb3⟩; have h1 := h.drew.below hb3; obtain ⟨d0', d1', d2', z0', z1', z2', hb', -⟩ := h1.facts))
    (try (refine hK_ _ _ ?_; clear hK_ K_))
    (try simp only [Act.put, sA, sB, sC])
    (refine wpF (i := 10) rfl (by kernel_rfl) rfl (fun _ _ _ h => h) (fun _ => by go_simp; try rfl) ?_; (try simp only [Act.put, sA, sB, sC]))
    (refine wpF (i := 11) rfl (by kernel_rfl) rfl (fun _ _ _ h => h) (fun _ => by go_simp; try rfl) ?_; (try simp only [Act.put, sA, sB, sC]))
    refine wpAnyT_sink (i := 12) rfl (by kernel_rfl) rfl (by kernel_rfl) ?_
    intro K_ hK_
    go_wp2
    (try (refine hK_ _ _ ?_; clear hK_ K_))
    (try simp only [Act.put, sA, sB, sC])
    refine wpAnyT_done (by kernel_rfl) ?_ _
    have h2 := h1.blk.set 0 (.slice A3 J.length c3)
    have z1'' := h2.frozen 1
    go_wp2
    go_ret
    rw [H.out]
    have F1 : Fr S w ((w1.setCell ⟨b, 0, none⟩ (.slice A3 J.length c3)).setCell ⟨b, 1, none⟩ (.slice none 0 0)) := (((Fr.refl S w).drew.trans (S' := Non) (Fr.of_below hb3) (fun _ h => h.elim)).setCell (p := ⟨b, 0, none⟩) (.inl h.inS) h.notB _).setCell (p := ⟨b, 1, none⟩) (.inl h.inS) h.notB _
    have F2 : Fr S w1 ((w1.setCell ⟨b, 0, none⟩ (.slice A3 J.length c3)).setCell ⟨b, 1, none⟩ (.slice none 0 0)) := ((Fr.refl S w1).setCell (p := ⟨b, 0, none⟩) (.inl h.inS) h1.notB _).setCell (p := ⟨b, 1, none⟩) (.inl h.inS) h1.notB _
    refine ⟨rfl, h.turned F1 (A1' := A3) (c1' := c3) (A2' := none) (c2' := 0) (R' := ⟨J, [], false⟩) (by simpa using h2.set 1 (.slice none 0 0)) (((Own.of_row' ho3).fr F2).up fun x hx => .inr hx) (Own.nil _ _ _) hc3 (Nat.le_refl _) ?_, F1⟩
    show J.length + 0 ≤ _
    omega
  · have e : (Rk.sync ⟨kept, rest, true⟩) = (⟨kept, rest, true⟩, 10) := by simp [Rk.sync]
    have H := Lib.hid e
    clear e
    go_enter Tryz.func121, Tryz.ntmps121
    go_wp2
    go_ret
    rw [H.out]
    exact ⟨rfl, h.same, Fr.refl _ _⟩

theorem refRestart_B (h : RefAt S w b A1 c1 A2 c2 R) :
    Calls Tryz.prog 133 #[.pointer (some ⟨b, 0, none⟩)] w (RefDid S w (.pointer (some ⟨b, 0, none⟩)) R.restart) := by
  obtain ⟨kept, rest, dn⟩ := R
  obtain ⟨d0, d1, d2, z0, z1, z2, hb, hc1, hc2, hok⟩ := h.facts
  cases dn
  · have e : (Rk.restart ⟨kept, rest, false⟩) = (⟨kept, rest, false⟩, 9) := by simp [Rk.restart]
    have H := Lib.hid e
    clear e
    go_enter Tryz.func133, Tryz.ntmps133
    go_wp2
    go_ret
    rw [H.out]
    exact ⟨rfl, h.same, Fr.refl _ _⟩
  · have e : (Rk.restart ⟨kept, rest, true⟩) = (⟨kept ++ rest, [], false⟩, 0) := by simp [Rk.restart]
    have H := Lib.hid e
    clear e
    have F0 : Fr S w (w.setCell ⟨b, 2, none⟩ (.bool false)) := (Fr.refl S w).setCell (p := ⟨b, 2, none⟩) (.inl h.inS) h.notB _
    have h0 : RefAt S (w.setCell ⟨b, 2, none⟩ (.bool false)) b A1 c1 A2 c2 ⟨kept, rest, false⟩ :=
      ⟨by simpa using h.blk.set 2 (.bool false), h.own1.fr F0, h.own2.fr F0, h.inS, by simpa [World.setCell] using h.lt, hc1, hc2, hok⟩
    have hj := join_B (w.setCell ⟨b, 2, none⟩ (.bool false)).drew A1 A2 kept rest c1 c2 ((h0.own1.rd Non).drew) ((h0.own2.rd Non).drew) (by omega)
    have hJl : (kept ++ rest).length ≤ kept.length + rest.length := by rw [List.length_append]; omega
    generalize kept ++ rest = J at *
    go_enter Tryz.func133, Tryz.ntmps133
    go_wp2
    generalize w.setCell ⟨b, 2, none⟩ (.bool false) = w0 at *
    clear d0 d1 d2 z0 z1 z2
    obtain ⟨d0, d1, d2, z0, z1, z2, -⟩ := h0.facts
    refine wp_region_T #[[], [], [], [], [], [], [], [], [], [4, 8], [4, 8], [4, 8], [4, 8]] [4, 8] (fun w' => w'.cell? ⟨b, 0, none⟩ = some (.slice A1 kept.length c1) ∧ w'.cell? ⟨b, 1, none⟩ = some (.slice A2 rest.length c2)) 13 rfl (by kernel_rfl) ?_
    (refine wpF (i := 0) rfl (by kernel_rfl) rfl (fun _ _ _ h => h) (fun _ => by go_simp; try rfl) ?_; (try simp only [Act.put, sA, sB, sC]))
    (refine wpF (i := 1) rfl (by kernel_rfl) rfl (fun _ _ _ h => h) (fun _ => by go_simp; try rfl) ?_; (try simp only [Act.put, sA, sB, sC]))
    (refine wpF (i := 2) rfl (by kernel_rfl) rfl (fun _ _ _ h => h) (fun _ => by go_simp; try rfl) ?_; (try simp only [Act.put, sA, sB, sC]))
    (refine wpF (i := 3) rfl (by kernel_rfl) rfl (fun _ _ _ h => h) (fun _ => by go_simp; try rfl) ?_; (try simp only [Act.put, sA, sB, sC]))
    (refine wpAnyT_read (i := 4) rfl (by kernel_rfl) rfl (fun _ _ _ h => h) (by kernel_rfl) (⟨d0, d1⟩) (fun w hS_ => by obtain ⟨s_1, s_2⟩ := hS_; go_simp; try rfl) ?_; (try simp only [Act.put, sA, sB, sC]))
    (refine wpF (i := 5) rfl (by kernel_rfl) rfl (fun _ _ _ h => h) (fun _ => by go_simp; try rfl) ?_; (try simp only [Act.put, sA, sB, sC]))
    (refine wpF (i := 6) rfl (by kernel_rfl) rfl (fun _ _ _ h => h) (fun _ => by go_simp; try rfl) ?_; (try simp only [Act.put, sA, sB, sC]))
    (refine wpF (i := 7) rfl (by kernel_rfl) rfl (fun _ _ _ h => h) (fun _ => by go_simp; try rfl) ?_; (try simp only [Act.put, sA, sB, sC]))
    (refine wpAnyT_read (i := 8) rfl (by kernel_rfl) rfl (fun _ _ _ h => h) (by kernel_rfl) (⟨d0, d1⟩) (fun w hS_ => by obtain ⟨s_1, s_2⟩ := hS_; go_simp; try rfl) ?_; (try simp only [Act.put, sA, sB, sC]))
    refine wpAnyT_sink (i := 9) rfl (by kernel_rfl) rfl (by kernel_rfl) ?_
    intro K_ hK_
    go_wp2_with ((go_at_call 155; refine hj.mono ?_; rintro e w1 ⟨A3, c3, rfl, ho3, hc3, hm3, hb3⟩; have h1 := h0.drew.below hb3; obtain ⟨d0', d1', d2', z0', z1', z2', hb', -⟩ := h1.facts))
    (try (refine hK_ _ _ ?_; clear hK_ K_))
    (try simp only [Act.put, sA, sB, sC])
    (refine wpF (i := 10) rfl (by kernel_rfl) rfl (fun _ _ _ h => h) (fun _ => by go_simp; try rfl) ?_; (try simp only [Act.put, sA, sB, sC]))
    (refine wpF (i := 11) rfl (by kernel_rfl) rfl (fun _ _ _ h => h) (fun _ => by go_simp; try rfl) ?_; (try simp only [Act.put, sA, sB, sC]))
    refine wpAnyT_sink (i := 12) rfl (by kernel_rfl) rfl (by kernel_rfl) ?_
    intro K_ hK_
    go_wp2
    (try (refine hK_ _ _ ?_; clear hK_ K_))
    (try simp only [Act.put, sA, sB, sC])
    refine wpAnyT_done (by kernel_rfl) ?_ _
    have h2 := h1.blk.set 0 (.slice A3 J.length c3)
    have z1'' := h2.frozen 1
    go_wp2
    go_ret
    rw [H.out]
    have F1 : Fr S w ((w1.setCell ⟨b, 0, none⟩ (.slice A3 J.length c3)).setCell ⟨b, 1, none⟩ (.slice none 0 0)) := ((F0.drew.trans (S' := Non) (Fr.of_below hb3) (fun _ h => h.elim)).setCell (p := ⟨b, 0, none⟩) (.inl h.inS) h.notB _).setCell (p := ⟨b, 1, none⟩) (.inl h.inS) h.notB _
    have F2 : Fr S w1 ((w1.setCell ⟨b, 0, none⟩ (.slice A3 J.length c3)).setCell ⟨b, 1, none⟩ (.slice none 0 0)) := ((Fr.refl S w1).setCell (p := ⟨b, 0, none⟩) (.inl h.inS) h1.notB _).setCell (p := ⟨b, 1, none⟩) (.inl h.inS) h1.notB _
    refine ⟨rfl, h.turned F1 (A1' := A3) (c1' := c3) (A2' := none) (c2' := 0) (R' := ⟨J, [], false⟩) (by simpa using h2.set 1 (.slice none 0 0)) (((Own.of_row' ho3).fr F2).up fun x hx => .inr (Nat.le_trans F0.size hx)) (Own.nil _ _ _) hc3 (Nat.le_refl _) ?_, F1⟩
    show J.length + 0 ≤ _
    omega

theorem refCut_B (h : RefAt S w b A1 c1 A2 c2 R) (n : Int) :
    Calls Tryz.prog 134 #[.pointer (some ⟨b, 0, none⟩), .int .i64 n] w (RefDid S w (.pointer (some ⟨b, 0, none⟩)) (R.cut n)) := by
  obtain ⟨kept, rest, dn⟩ := R
  obtain ⟨d0, d1, d2, z0, z1, z2, hb, hc1, hc2, hok⟩ := h.facts
  cases dn
  · have hj := join_B w.drew A1 A2 kept rest c1 c2 ((h.own1.rd Non).drew) ((h.own2.rd Non).drew) (by omega)
    have hJl : (kept ++ rest).length ≤ kept.length + rest.length := by rw [List.length_append]; omega
    by_cases hn : n < 0 ∨ ((kept ++ rest).length : Int) < n
    · have e : (Rk.cut ⟨kept, rest, false⟩ n) = (⟨kept, rest, false⟩, 2) := by
        unfold Rk.cut; rw [if_neg (by simp), if_pos hn]
      have H := Lib.hid e
      clear e
      generalize kept ++ rest = J at *
      by_cases hn0 : n < 0
      all_goals
        have hn1 : ¬ n < 0 → (J.length : Int) < n := fun h => hn.resolve_left h
        have HN := Lib.hid hn1
        clear hn hn1
        go_enter Tryz.func134, Tryz.ntmps134
        go_wp2
        refine wp_region_T #[[], [], [], [], [], [], [], [], [3, 7], [3, 7]] [3, 7] (fun w' => w'.cell? ⟨b, 0, none⟩ = some (.slice A1 kept.length c1) ∧ w'.cell? ⟨b, 1, none⟩ = some (.slice A2 rest.length c2)) 10 rfl (by kernel_rfl) ?_
        (refine wpF (i := 0) rfl (by kernel_rfl) rfl (fun _ _ _ h => h) (fun _ => by go_simp; try rfl) ?_; (try simp only [Act.put, sA, sB, sC]))
        (refine wpF (i := 1) rfl (by kernel_rfl) rfl (fun _ _ _ h => h) (fun _ => by go_simp; try rfl) ?_; (try simp only [Act.put, sA, sB, sC]))
        (refine wpF (i := 2) rfl (by kernel_rfl) rfl (fun _ _ _ h => h) (fun _ => by go_simp; try rfl) ?_; (try simp only [Act.put, sA, sB, sC]))
        (refine wpAnyT_read (i := 3) rfl (by kernel_rfl) rfl (fun _ _ _ h => h) (by kernel_rfl) (⟨d0, d1⟩) (fun w hS_ => by obtain ⟨s_1, s_2⟩ := hS_; go_simp; try rfl) ?_; (try simp only [Act.put, sA, sB, sC]))
        (refine wpF (i := 4) rfl (by kernel_rfl) rfl (fun _ _ _ h => h) (fun _ => by go_simp; try rfl) ?_; (try simp only [Act.put, sA, sB, sC]))
        (refine wpF (i := 5) rfl (by kernel_rfl) rfl (fun _ _ _ h => h) (fun _ => by go_simp; try rfl) ?_; (try simp only [Act.put, sA, sB, sC]))
        (refine wpF (i := 6) rfl (by kernel_rfl) rfl (fun _ _ _ h => h) (fun _ => by go_simp; try rfl) ?_; (try simp only [Act.put, sA, sB, sC]))
        (refine wpAnyT_read (i := 7) rfl (by kernel_rfl) rfl (fun _ _ _ h => h) (by kernel_rfl) (⟨d0, d1⟩) (fun w hS_ => by obtain ⟨s_1, s_2⟩ := hS_; go_simp; try rfl) ?_; (try simp only [Act.put, sA, sB, sC]))
        refine wpAnyT_sink (i := 8) rfl (by kernel_rfl) rfl (by kernel_rfl) ?_
        intro K_ hK_
        go_wp2_with ((go_at_call 155; refine hj.mono ?_; rintro e w1 ⟨A3, c3, rfl, ho3, hc3, hm3, hb3⟩; have h1 := h.drew.below hb3))
        (try (refine hK_ _ _ ?_; clear hK_ K_))
        (try simp only [Act.put, sA, sB, sC])
        (refine wpF (i := 9) rfl (by kernel_rfl) rfl (fun _ _ _ h => h) (fun _ => by go_simp; try rfl) ?_; (try simp only [Act.put, sA, sB, sC]))
        refine wpAnyT_done (by kernel_rfl) ?_ _
        try have hn2 := HN.out hn0
        go_wp2
        go_ret
        rw [H.out]
        exact ⟨rfl, h1.up, (Fr.refl S w).drew.trans (S' := Non) (Fr.of_below hb3) (fun _ h => h.elim)⟩
    · obtain ⟨m, rfl⟩ : ∃ m : Nat, n = m := ⟨n.toNat, by omega⟩
      have e : (Rk.cut ⟨kept, rest, false⟩ m) = (⟨(kept ++ rest).take m, [], false⟩, 0) := by
        unfold Rk.cut; rw [if_neg (by simp), if_neg hn]; rfl
      have H := Lib.hid e
      clear e
      generalize kept ++ rest = J at *
      have hm0 : (m : Int) ≤ (J.length : Int) := by omega
      have em : (J.take m).length = m := by rw [List.length_take]; omega
      have EM := Lib.hid em
      clear hn em
      go_enter Tryz.func134, Tryz.ntmps134
      go_wp2
      refine wp_region_T #[[], [], [], [], [], [], [], [], [3, 7], [3, 7]] [3, 7] (fun w' => w'.cell? ⟨b, 0, none⟩ = some (.slice A1 kept.length c1) ∧ w'.cell? ⟨b, 1, none⟩ = some (.slice A2 rest.length c2)) 10 rfl (by kernel_rfl) ?_
      (refine wpF (i := 0) rfl (by kernel_rfl) rfl (fun _ _ _ h => h) (fun _ => by go_simp; try rfl) ?_; (try simp only [Act.put, sA, sB, sC]))
      (refine wpF (i := 1) rfl (by kernel_rfl) rfl (fun _ _ _ h => h) (fun _ => by go_simp; try rfl) ?_; (try simp only [Act.put, sA, sB, sC]))
      (refine wpF (i := 2) rfl (by kernel_rfl) rfl (fun _ _ _ h => h) (fun _ => by go_simp; try rfl) ?_; (try simp only [Act.put, sA, sB, sC]))
      (refine wpAnyT_read (i := 3) rfl (by kernel_rfl) rfl (fun _ _ _ h => h) (by kernel_rfl) (⟨d0, d1⟩) (fun w hS_ => by obtain ⟨s_1, s_2⟩ := hS_; go_simp; try rfl) ?_; (try simp only [Act.put, sA, sB, sC]))
      (refine wpF (i := 4) rfl (by kernel_rfl) rfl (fun _ _ _ h => h) (fun _ => by go_simp; try rfl) ?_; (try simp only [Act.put, sA, sB, sC]))
      (refine wpF (i := 5) rfl (by kernel_rfl) rfl (fun _ _ _ h => h) (fun _ => by go_simp; try rfl) ?_; (try simp only [Act.put, sA, sB, sC]))
      (refine wpF (i := 6) rfl (by kernel_rfl) rfl (fun _ _ _ h => h) (fun _ => by go_simp; try rfl) ?_; (try simp only [Act.put, sA, sB, sC]))
      (refine wpAnyT_read (i := 7) rfl (by kernel_rfl) rfl (fun _ _ _ h => h) (by kernel_rfl) (⟨d0, d1⟩) (fun w hS_ => by obtain ⟨s_1, s_2⟩ := hS_; go_simp; try rfl) ?_; (try simp only [Act.put, sA, sB, sC]))
      refine wpAnyT_sink (i := 8) rfl (by kernel_rfl) rfl (by kernel_rfl) ?_
      intro K_ hK_
      go_wp2_with ((go_at_call 155; refine hj.mono ?_; rintro e w1 ⟨A3, c3, rfl, ho3, hc3, hm3, hb3⟩; have h1 := h.drew.below hb3; obtain ⟨d0', d1', d2', z0', z1', z2', hb', -⟩ := h1.facts))
      (try (refine hK_ _ _ ?_; clear hK_ K_))
      (try simp only [Act.put, sA, sB, sC])
      (refine wpF (i := 9) rfl (by kernel_rfl) rfl (fun _ _ _ h => h) (fun _ => by go_simp; try rfl) ?_; (try simp only [Act.put, sA, sB, sC]))
      refine wpAnyT_done (by kernel_rfl) ?_ _
      have h2 := h1.blk.set 0 (.slice A3 m c3)
      have z1'' := h2.frozen 1
      have hm1 : (m : Int) ≤ (c3 : Int) := by omega
      have hm2 : (0 : Int) ≤ (m : Int) := by omega
      go_wp2
      go_ret
      rw [H.out]
      have F1 : Fr S w ((w1.setCell ⟨b, 0, none⟩ (.slice A3 m c3)).setCell ⟨b, 1, none⟩ (.slice none 0 0)) := (((Fr.refl S w).drew.trans (S' := Non) (Fr.of_below hb3) (fun _ h => h.elim)).setCell (p := ⟨b, 0, none⟩) (.inl h.inS) h.notB _).setCell (p := ⟨b, 1, none⟩) (.inl h.inS) h.notB _
      have F2 : Fr S w1 ((w1.setCell ⟨b, 0, none⟩ (.slice A3 m c3)).setCell ⟨b, 1, none⟩ (.slice none 0 0)) := ((Fr.refl S w1).setCell (p := ⟨b, 0, none⟩) (.inl h.inS) h1.notB _).setCell (p := ⟨b, 1, none⟩) (.inl h.inS) h1.notB _
      refine ⟨rfl, h.turned F1 (A1' := A3) (c1' := c3) (A2' := none) (c2' := 0) (R' := ⟨J.take m, [], false⟩) (by rw [EM.out]; simpa using h2.set 1 (.slice none 0 0)) ((((Own.of_row' ho3).take m).fr F2).up fun x hx => .inr hx) (Own.nil _ _ _) (by rw [EM.out]; omega) (Nat.le_refl _) ?_, F1⟩
      show (J.take m).length + 0 ≤ _
      rw [EM.out]; omega
  · have e : (Rk.cut ⟨kept, rest, true⟩ n) = (⟨kept, rest, true⟩, 10) := by simp [Rk.cut]
    have H := Lib.hid e
    clear e
    go_enter Tryz.func134, Tryz.ntmps134
    go_wp2
    go_ret
    rw [H.out]
    exact ⟨rfl, h.same, Fr.refl _ _⟩

/-- what stands behind the first q bits of the document's loop -/
def upto (l : List UInt8) (flip : Int) (q : Nat) : List UInt8 := if 0 ≤ flip ∧ flip < q then turn l flip.toNat else l
theorem length_upto (l : List UInt8) (flip : Int) (q : Nat) : (upto l flip q).length = l.length := by
  unfold upto; split
  · exact length_turn _ _
  · rfl
theorem upto_end (l : List UInt8) (flip : Int) : upto l flip (8 * l.length) = if 0 ≤ flip then turn l flip.toNat else l := by
  unfold upto
  by_cases h : 0 ≤ flip
  · rw [if_pos h]
    by_cases h2 : flip < (8 * l.length : Nat)
    · rw [if_pos ⟨h, h2⟩]
    · rw [if_neg (fun h => h2 h.2)]
      unfold turn
      rw [List.modify_eq_self (by omega)]
  · rw [if_neg h, if_neg (fun hh => h hh.1)]
theorem upto_no (l : List UInt8) (flip : Int) (q : Nat) (h : flip ≠ q) : upto l flip (q + 1) = upto l flip q := by
  unfold upto
  by_cases h2 : 0 ≤ flip ∧ flip < q
  · rw [if_pos h2, if_pos ⟨h2.1, by omega⟩]
  · rw [if_neg h2, if_neg (by omega)]
theorem upto_yes (l : List UInt8) (p q : Nat) (x : UInt8) (hq : q < 8) (hx : l[p]? = some x) : upto l ((8 * p + q : Nat) : Int) (8 * p + q) = l ∧ upto l ((8 * p + q : Nat) : Int) (8 * p + q + 1) = l.set p (turnByte x q) := by
  refine ⟨by unfold upto; rw [if_neg (by omega)], ?_⟩
  unfold upto turn
  rw [if_pos (by omega), Int.toNat_natCast, show (8 * p + q) / 8 = p by omega, show (8 * p + q) % 8 = q by omega]
  apply List.ext_getElem?
  intro i
  rw [List.getElem?_modify, List.getElem?_set]
  by_cases h : p = i
  · subst h
    have := (List.getElem?_eq_some_iff.1 hx).1
    rw [hx, if_pos rfl, if_pos this]
    simp
  · simp [h]
theorem ownsRow_take {w : World} {base n n' c : Nat} {A : Option Addr} {l : List UInt8} (h : w.ownsRow base TB 1 (.slice A n c) n (l.map byteV)) (hn : n' ≤ n) : w.ownsRow base TB 1 (.slice A n' c) n' ((l.take n').map byteV) := by
  have hl : (l.map byteV).length = n := by simpa using h.1
  rw [List.length_map] at hl
  refine ⟨by rw [List.length_map, List.length_take]; omega, ?_⟩
  rcases h.2 with ⟨hv, h0⟩ | ⟨g, cap, cur, hv, hb, hg, hnc, hm, hs, ht⟩
  · obtain rfl : n' = 0 := by omega
    injection hv with h1 h2 h3
    subst h1 h3
    exact .inl ⟨rfl, rfl⟩
  · injection hv with h1 h2 h3
    subst h1 h3
    refine .inr ⟨g, c, cur, rfl, hb, hg, by omega, hm, hs, ?_⟩
    rw [Nat.mul_one] at ht ⊢
    have := congrArg (List.take n') ht
    rw [List.take_take, Nat.min_eq_left hn] at this
    rw [this, List.map_take]
theorem rbits_all : ∀ (x : Fin 256) (k : Fin 8), bits .xor .u8 (x.val : Int) (2 ^ min k.val 8 % 256) = ((UInt8.ofNat x.val ^^^ UInt8.ofNat (2 ^ k.val)).toNat : Int) := by decide +kernel
theorem rbits (x : UInt8) (k : Nat) (hk : k < 8) : Value.int .u8 (bits .xor .u8 (x.toNat : Int) (2 ^ min k 8 % 256)) = byteV (turnByte x k) := by
  have := rbits_all ⟨x.toNat, x.toNat_lt⟩ ⟨k, hk⟩
  simp only [UInt8.ofNat_toNat] at this
  rw [this]; rfl
end
end Go.Proofs.YtediidajdpdeiaaGreatDoor

/- The document's Crash: the walk. -/
namespace Go.Proofs.YtediidajdpdeiaaGreatDoor
open Go.RowKit
set_option maxRecDepth 100000

set_option maxHeartbeats 1000000 in
theorem refCrash_B {S : Nat → Prop} {w : World} {b : Nat} {A1 A2 : Option Addr} {c1 c2 : Nat} {R : Rk} (h : RefAt S w b A1 c1 A2 c2 R) (keep flip : Int) (hk63 : keep ≤ 9223372036854775807) (hf63 : flip ≤ 9223372036854775807) (hk0 : -9223372036854775808 ≤ keep) (hf0 : -9223372036854775808 ≤ flip) (hsz : R.rest.length ≤ 4194304) :
    Calls Tryz.prog 126 #[.pointer (some ⟨b, 0, none⟩), .int .i64 keep, .int .i64 flip] w (RefDid S w (.pointer (some ⟨b, 0, none⟩)) (R.crash keep flip)) := by
  obtain ⟨kept, rest, dn⟩ := R
  obtain ⟨d0, d1, d2, z0, z1, z2, hb, hc1, hc2, hok⟩ := h.facts
  simp only at hsz
  cases dn
  · by_cases hn : keep < 0
    · have e : (Rk.crash ⟨kept, rest, false⟩ keep flip) = (⟨kept, rest, false⟩, 2) := by simp [Rk.crash, hn]
      have H := Lib.hid e
      clear e
      go_enter Tryz.func126, Tryz.ntmps126
      go_wp2
      go_ret
      rw [H.out]
      exact ⟨rfl, h.same, Fr.refl _ _⟩
    · obtain ⟨kn, rfl⟩ : ∃ m : Nat, keep = m := ⟨keep.toNat, by omega⟩
      have e : (Rk.crash ⟨kept, rest, false⟩ kn flip) = (⟨kept, torn rest kn flip, true⟩, 0) := by simp [Rk.crash]
      have H := Lib.hid e
      clear e
      have F0 : Fr S w (w.setCell ⟨b, 2, none⟩ (.bool true)) := (Fr.refl S w).setCell (p := ⟨b, 2, none⟩) (.inl h.inS) h.notB _
      have h0 : RefAt S (w.setCell ⟨b, 2, none⟩ (.bool true)) b A1 c1 A2 c2 ⟨kept, rest, true⟩ :=
        ⟨by simpa using h.blk.set 2 (.bool true), h.own1.fr F0, h.own2.fr F0, h.inS, by simpa [World.setCell] using h.lt, hc1, hc2, hok⟩
      have hj := join_B (w.setCell ⟨b, 2, none⟩ (.bool true)) A2 none rest [] c2 0 (h0.own2.rd Non) (Rd.nil _ _ _) (by simp; omega)
      simp only [List.length_nil, List.append_nil] at hj
      obtain ⟨l, hl⟩ : ∃ l, rest.take kn = l := ⟨_, rfl⟩
      obtain ⟨n, hn1⟩ : ∃ n, l.length = n := ⟨_, rfl⟩
      have hn2 : n = min kn rest.length := by rw [← hn1, ← hl, List.length_take]
      have htorn : torn rest kn flip = upto l flip (8 * n) := by
        rw [← hn1, upto_end, torn, Int.toNat_natCast, hl]
      have HL := Lib.hid hl
      have HN := Lib.hid hn1
      have HT := Lib.hid htorn
      clear hl hn1 htorn hn
      go_enter Tryz.func126, Tryz.ntmps126
      by_cases hkl : kn < rest.length
      · have k1 : (0 : Int) ≤ (kn : Int) := by omega
        have hN : n = kn := by omega
        clear hn2
        subst hN
        go_wp2_with (go_at_call 155; refine hj.mono ?_; rintro e w1 ⟨A3, c3, rfl, ho3, hc3, hm3, hb3⟩; have k2 : (n : Int) ≤ (c3 : Int) := by omega)
        generalize hw0 : w.setCell ⟨b, 2, none⟩ (.bool true) = w0 at *
        have ho := ownsRow_take ho3 (n' := n) (by omega)
        have hlt : rest.take n = l := HL.out
        rw [hlt] at ho
        clear ho3 hlt d0 d1 d2 z0 z1 z2 hj
        have hcn : n ≤ c3 := by omega
        have hn4 : n ≤ 4194304 := by omega
        go_loopw [8] (fun i wr => ∃ p : Nat, p ≤ n ∧ i = .int .i64 p ∧ wr.ownsRow w0.heap.size TB 1 (.slice A3 n c3) n ((upto l flip (8 * p)).map byteV) ∧ Below w0.heap.size w0 wr) (fun i _ => n - (intOf i).toNat)
        case atStart =>
          refine ⟨0, by omega, rfl, ?_, hb3⟩
          have : upto l flip (8 * 0) = l := by unfold upto; rw [if_neg (by omega)]
          rw [this]; exact ho
        case round =>
          obtain ⟨p, hp, rfl, hop, hbp⟩ := hrel
          clear ho hb3
          by_cases hpn : p < n
          · have hpn' : (p : Int) < ((n : Nat) : Int) := by omega
            go_wp2
            go_loopw [9] (fun i wr => ∃ q : Nat, q ≤ 8 ∧ i = .int .i64 q ∧ wr.ownsRow w0.heap.size TB 1 (.slice A3 n c3) n ((upto l flip (8 * p + q)).map byteV) ∧ Below w0.heap.size w0 wr) (fun i _ => 8 - (intOf i).toNat)
            case atStart => exact ⟨0, by omega, rfl, hop, hbp⟩
            case round =>
              obtain ⟨q, hq, rfl, hoq, hbq⟩ := hrel
              clear hop hbp
              by_cases hq8 : q < 8
              · by_cases hfl : flip = (8 * p + q : Nat)
                · subst hfl
                  obtain ⟨x, hx⟩ : ∃ x, l[p]? = some x := ⟨_, List.getElem?_eq_getElem (by rw [HN.out]; exact hpn)⟩
                  obtain ⟨u1, u2⟩ := upto_yes l p q x hq8 hx
                  have U2 := Lib.hid u2
                  rw [u1] at hoq
                  obtain ⟨g, cap, hv, hg1, hg2⟩ := hoq.form (by omega)
                  obtain ⟨rfl, rfl⟩ : A3 = some ⟨g, 0, none⟩ ∧ c3 = cap := by injection hv with h1 _ h2; exact ⟨h1, h2⟩
                  have hxc : wr.cell? ⟨g, p, none⟩ = some (.int .u8 (x.toNat : Int)) := by
                    rw [hoq.cellAt _ (by omega), List.getElem?_map, hx]; rfl
                  have hxf := hoq.frozenAt p
                  have hst := (hoq.stored p (byteV (turnByte x q))).1
                  rw [← List.map_set] at hst
                  have eb := rbits x q hq8
                  rw [Nat.min_eq_left (by omega)] at eb
                  have hB := (hbq.setCell (p := ⟨g, p, none⟩) hg1 (byteV (turnByte x q)))
                  have hp0 : (0 : Int) ≤ (p : Int) := by omega
                  have hq0 : (0 : Int) ≤ (q : Int) := by omega
                  have hq1 : (q : Int) < 8 := by omega
                  have e8 : (((8 * p + q : Nat) : Int) == 8 * (p : Int) + (q : Int)) = true := by simp
                  have e9 : ((8 * p + q : Nat) : Int) = 8 * (p : Int) + (q : Int) := by omega
                  clear hv u1 u2 hx
                  go_wp2
                  clear e8 e9
                  refine wp_region_T #[[], [], [], [], [], [], [], [], [5], [5], [5]] [5] (fun w' => w'.cell? ⟨g, p, none⟩ = some (.int .u8 (x.toNat : Int)) ∧ True) 11 rfl (by kernel_rfl) ?_
                  (refine wpF (i := 0) rfl (by kernel_rfl) rfl (fun _ _ _ h => h) (fun _ => by go_simp; try rfl) ?_; (try simp only [Act.put, sA, sB, sC]))
                  (refine wpF (i := 1) rfl (by kernel_rfl) rfl (fun _ _ _ h => h) (fun _ => by go_simp; try rfl) ?_; (try simp only [Act.put, sA, sB, sC]))
                  (refine wpF (i := 2) rfl (by kernel_rfl) rfl (fun _ _ _ h => h) (fun _ => by go_simp; try rfl) ?_; (try simp only [Act.put, sA, sB, sC]))
                  (refine wpF (i := 3) rfl (by kernel_rfl) rfl (fun _ _ _ h => h) (fun _ => by go_simp; try rfl) ?_; (try simp only [Act.put, sA, sB, sC]))
                  (refine wpF (i := 4) rfl (by kernel_rfl) rfl (fun _ _ _ h => h) (fun _ => by go_simp; try rfl) ?_; (try simp only [Act.put, sA, sB, sC]))
                  (refine wpAnyT_read (i := 5) rfl (by kernel_rfl) rfl (fun _ _ _ h => h) (by kernel_rfl) (⟨hxc, trivial⟩) (fun w hS_ => by obtain ⟨s_1, s_2⟩ := hS_; go_simp; try rfl) ?_; (try simp only [Act.put, sA, sB, sC]))
                  (refine wpF (i := 6) rfl (by kernel_rfl) rfl (fun _ _ _ h => h) (fun _ => by go_simp; try rfl) ?_; (try simp only [Act.put, sA, sB, sC]))
                  (refine wpF (i := 7) rfl (by kernel_rfl) rfl (fun _ _ _ h => h) (fun _ => by go_simp; try rfl) ?_; (try simp only [Act.put, sA, sB, sC]))
                  (refine wpF (i := 8) rfl (by kernel_rfl) rfl (fun _ _ _ h => h) (fun _ => by go_simp; try rfl) ?_; (try simp only [Act.put, sA, sB, sC]))
                  (refine wpF (i := 9) rfl (by kernel_rfl) rfl (fun _ _ _ h => h) (fun _ => by go_simp; try rfl) ?_; (try simp only [Act.put, sA, sB, sC]))
                  refine wpAnyT_sink (i := 10) rfl (by kernel_rfl) rfl (by kernel_rfl) ?_
                  intro K_ hK_
                  go_wp2
                  (try (refine hK_ _ _ ?_; clear hK_ K_))
                  (try simp only [Act.put, sA, sB, sC])
                  refine wpAnyT_done (by kernel_rfl) ?_ _
                  rw [eb]
                  go_wp2
                  go_roundw
                  case rel => exact ⟨q + 1, by omega, by go_num, by rw [← Nat.add_assoc, U2.out]; exact hst, hB.drew⟩
                  case measure => simp [intOf]; omega
                · have e9 : ¬ flip = 8 * (p : Int) + (q : Int) := by omega
                  have U2 := Lib.hid (upto_no l flip (8 * p + q) hfl)
                  have hq1 : (q : Int) < 8 := by omega
                  go_wp2
                  go_roundw
                  case rel => exact ⟨q + 1, by omega, by go_num, by rw [← Nat.add_assoc, U2.out]; exact hoq, hbq⟩
                  case measure => simp [intOf]; omega
              · obtain rfl : q = 8 := by omega
                go_wp2
                go_roundw
                case rel => exact ⟨p + 1, by omega, by go_num, by rw [Nat.mul_add]; exact hoq, hbq⟩
                case measure => simp [intOf]; omega
          · obtain rfl : p = n := by omega
            have h2 := h0.below hbp
            obtain ⟨d0', d1', d2', z0', z1', z2', hb', -⟩ := h2.facts
            go_wp2
            go_ret
            rw [H.out, HT.out]
            have lu : (upto l flip (8 * p)).length = p := by rw [length_upto, HN.out]
            have F1 : Fr S w (wr.setCell ⟨b, 1, none⟩ (.slice A3 p c3)) := (F0.trans (S' := Non) (Fr.of_below hbp) (fun _ h => h.elim)).setCell (p := ⟨b, 1, none⟩) (.inl h.inS) h.notB _
            have F2 : Fr S wr (wr.setCell ⟨b, 1, none⟩ (.slice A3 p c3)) := (Fr.refl S wr).setCell (p := ⟨b, 1, none⟩) (.inl h.inS) h2.notB _
            refine ⟨rfl, h.turned F1 (A1' := A1) (c1' := c1) (A2' := A3) (c2' := c3) (R' := ⟨kept, upto l flip (8 * p), true⟩) (by rw [lu]; simpa using h2.blk.set 1 (.slice A3 p c3)) ((h2.own1.fr F2).mono fun _ => .inl) (((Own.of_row hop lu.symm).fr F2).up fun x hx => .inr (Nat.le_trans F0.size hx)) hc1 (by rw [lu]; omega) ?_, F1⟩
            show kept.length + (upto l flip (8 * p)).length ≤ _
            rw [lu]; omega
      · have k1 : (0 : Int) ≤ (kn : Int) := by omega
        have hN : n = rest.length := by omega
        clear hn2
        subst hN
        have k3 : ¬ (kn : Int) < (rest.length : Int) := by omega
        go_wp2_with (go_at_call 155; refine hj.mono ?_; rintro e w1 ⟨A3, c3, rfl, ho3, hc3, hm3, hb3⟩)
        generalize hw0 : w.setCell ⟨b, 2, none⟩ (.bool true) = w0 at *
        have ho := ownsRow_take ho3 (n' := rest.length) (by omega)
        have hlt : rest.take rest.length = l := by rw [← HL.out, List.take_of_length_le (Nat.le_refl _), List.take_of_length_le (by omega)]
        rw [hlt] at ho
        clear ho3 hlt d0 d1 d2 z0 z1 z2 hj
        have hcn : rest.length ≤ c3 := by omega
        have hn4 : rest.length ≤ 4194304 := by omega
        go_loopw [8] (fun i wr => ∃ p : Nat, p ≤ rest.length ∧ i = .int .i64 p ∧ wr.ownsRow w0.heap.size TB 1 (.slice A3 rest.length c3) rest.length ((upto l flip (8 * p)).map byteV) ∧ Below w0.heap.size w0 wr) (fun i _ => rest.length - (intOf i).toNat)
        case atStart =>
          refine ⟨0, by omega, rfl, ?_, hb3⟩
          have : upto l flip (8 * 0) = l := by unfold upto; rw [if_neg (by omega)]
          rw [this]; exact ho
        case round =>
          obtain ⟨p, hp, rfl, hop, hbp⟩ := hrel
          clear ho hb3
          by_cases hpn : p < rest.length
          · have hpn' : (p : Int) < ((rest.length : Nat) : Int) := by omega
            go_wp2
            go_loopw [9] (fun i wr => ∃ q : Nat, q ≤ 8 ∧ i = .int .i64 q ∧ wr.ownsRow w0.heap.size TB 1 (.slice A3 rest.length c3) rest.length ((upto l flip (8 * p + q)).map byteV) ∧ Below w0.heap.size w0 wr) (fun i _ => 8 - (intOf i).toNat)
            case atStart => exact ⟨0, by omega, rfl, hop, hbp⟩
            case round =>
              obtain ⟨q, hq, rfl, hoq, hbq⟩ := hrel
              clear hop hbp
              by_cases hq8 : q < 8
              · by_cases hfl : flip = (8 * p + q : Nat)
                · subst hfl
                  obtain ⟨x, hx⟩ : ∃ x, l[p]? = some x := ⟨_, List.getElem?_eq_getElem (by rw [HN.out]; exact hpn)⟩
                  obtain ⟨u1, u2⟩ := upto_yes l p q x hq8 hx
                  have U2 := Lib.hid u2
                  rw [u1] at hoq
                  obtain ⟨g, cap, hv, hg1, hg2⟩ := hoq.form (by omega)
                  obtain ⟨rfl, rfl⟩ : A3 = some ⟨g, 0, none⟩ ∧ c3 = cap := by injection hv with h1 _ h2; exact ⟨h1, h2⟩
                  have hxc : wr.cell? ⟨g, p, none⟩ = some (.int .u8 (x.toNat : Int)) := by
                    rw [hoq.cellAt _ (by omega), List.getElem?_map, hx]; rfl
                  have hxf := hoq.frozenAt p
                  have hst := (hoq.stored p (byteV (turnByte x q))).1
                  rw [← List.map_set] at hst
                  have eb := rbits x q hq8
                  rw [Nat.min_eq_left (by omega)] at eb
                  have hB := (hbq.setCell (p := ⟨g, p, none⟩) hg1 (byteV (turnByte x q)))
                  have hp0 : (0 : Int) ≤ (p : Int) := by omega
                  have hq0 : (0 : Int) ≤ (q : Int) := by omega
                  have hq1 : (q : Int) < 8 := by omega
                  have e8 : (((8 * p + q : Nat) : Int) == 8 * (p : Int) + (q : Int)) = true := by simp
                  have e9 : ((8 * p + q : Nat) : Int) = 8 * (p : Int) + (q : Int) := by omega
                  clear hv u1 u2 hx
                  go_wp2
                  clear e8 e9
                  refine wp_region_T #[[], [], [], [], [], [], [], [], [5], [5], [5]] [5] (fun w' => w'.cell? ⟨g, p, none⟩ = some (.int .u8 (x.toNat : Int)) ∧ True) 11 rfl (by kernel_rfl) ?_
                  (refine wpF (i := 0) rfl (by kernel_rfl) rfl (fun _ _ _ h => h) (fun _ => by go_simp; try rfl) ?_; (try simp only [Act.put, sA, sB, sC]))
                  (refine wpF (i := 1) rfl (by kernel_rfl) rfl (fun _ _ _ h => h) (fun _ => by go_simp; try rfl) ?_; (try simp only [Act.put, sA, sB, sC]))
                  (refine wpF (i := 2) rfl (by kernel_rfl) rfl (fun _ _ _ h => h) (fun _ => by go_simp; try rfl) ?_; (try simp only [Act.put, sA, sB, sC]))
                  (refine wpF (i := 3) rfl (by kernel_rfl) rfl (fun _ _ _ h => h) (fun _ => by go_simp; try rfl) ?_; (try simp only [Act.put, sA, sB, sC]))
                  (refine wpF (i := 4) rfl (by kernel_rfl) rfl (fun _ _ _ h => h) (fun _ => by go_simp; try rfl) ?_; (try simp only [Act.put, sA, sB, sC]))
                  (refine wpAnyT_read (i := 5) rfl (by kernel_rfl) rfl (fun _ _ _ h => h) (by kernel_rfl) (⟨hxc, trivial⟩) (fun w hS_ => by obtain ⟨s_1, s_2⟩ := hS_; go_simp; try rfl) ?_; (try simp only [Act.put, sA, sB, sC]))
                  (refine wpF (i := 6) rfl (by kernel_rfl) rfl (fun _ _ _ h => h) (fun _ => by go_simp; try rfl) ?_; (try simp only [Act.put, sA, sB, sC]))
                  (refine wpF (i := 7) rfl (by kernel_rfl) rfl (fun _ _ _ h => h) (fun _ => by go_simp; try rfl) ?_; (try simp only [Act.put, sA, sB, sC]))
                  (refine wpF (i := 8) rfl (by kernel_rfl) rfl (fun _ _ _ h => h) (fun _ => by go_simp; try rfl) ?_; (try simp only [Act.put, sA, sB, sC]))
                  (refine wpF (i := 9) rfl (by kernel_rfl) rfl (fun _ _ _ h => h) (fun _ => by go_simp; try rfl) ?_; (try simp only [Act.put, sA, sB, sC]))
                  refine wpAnyT_sink (i := 10) rfl (by kernel_rfl) rfl (by kernel_rfl) ?_
                  intro K_ hK_
                  go_wp2
                  (try (refine hK_ _ _ ?_; clear hK_ K_))
                  (try simp only [Act.put, sA, sB, sC])
                  refine wpAnyT_done (by kernel_rfl) ?_ _
                  rw [eb]
                  go_wp2
                  go_roundw
                  case rel => exact ⟨q + 1, by omega, by go_num, by rw [← Nat.add_assoc, U2.out]; exact hst, hB.drew⟩
                  case measure => simp [intOf]; omega
                · have e9 : ¬ flip = 8 * (p : Int) + (q : Int) := by omega
                  have U2 := Lib.hid (upto_no l flip (8 * p + q) hfl)
                  have hq1 : (q : Int) < 8 := by omega
                  go_wp2
                  go_roundw
                  case rel => exact ⟨q + 1, by omega, by go_num, by rw [← Nat.add_assoc, U2.out]; exact hoq, hbq⟩
                  case measure => simp [intOf]; omega
              · obtain rfl : q = 8 := by omega
                go_wp2
                go_roundw
                case rel => exact ⟨p + 1, by omega, by go_num, by rw [Nat.mul_add]; exact hoq, hbq⟩
                case measure => simp [intOf]; omega
          · obtain rfl : p = rest.length := by omega
            have h2 := h0.below hbp
            obtain ⟨d0', d1', d2', z0', z1', z2', hb', -⟩ := h2.facts
            go_wp2
            go_ret
            rw [H.out, HT.out]
            have lu : (upto l flip (8 * rest.length)).length = rest.length := by rw [length_upto, HN.out]
            have F1 : Fr S w (wr.setCell ⟨b, 1, none⟩ (.slice A3 rest.length c3)) := (F0.trans (S' := Non) (Fr.of_below hbp) (fun _ h => h.elim)).setCell (p := ⟨b, 1, none⟩) (.inl h.inS) h.notB _
            have F2 : Fr S wr (wr.setCell ⟨b, 1, none⟩ (.slice A3 rest.length c3)) := (Fr.refl S wr).setCell (p := ⟨b, 1, none⟩) (.inl h.inS) h2.notB _
            refine ⟨rfl, h.turned F1 (A1' := A1) (c1' := c1) (A2' := A3) (c2' := c3) (R' := ⟨kept, upto l flip (8 * rest.length), true⟩) (by rw [lu]; simpa using h2.blk.set 1 (.slice A3 rest.length c3)) ((h2.own1.fr F2).mono fun _ => .inl) (((Own.of_row hop lu.symm).fr F2).up fun x hx => .inr (Nat.le_trans F0.size hx)) hc1 (by rw [lu]; omega) ?_, F1⟩
            show kept.length + (upto l flip (8 * rest.length)).length ≤ _
            rw [lu]; omega
  · have e : (Rk.crash ⟨kept, rest, true⟩ keep flip) = (⟨kept, rest, true⟩, 10) := by simp [Rk.crash]
    have H := Lib.hid e
    clear e
    go_enter Tryz.func126, Tryz.ntmps126
    go_wp2
    go_ret
    rw [H.out]
    exact ⟨rfl, h.same, Fr.refl _ _⟩
end Go.Proofs.YtediidajdpdeiaaGreatDoor
