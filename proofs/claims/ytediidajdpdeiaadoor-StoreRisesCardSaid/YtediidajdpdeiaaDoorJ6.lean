/- The log's functions that turn it: New, Sync, Crash, Drop (layer 7): the walks. -/
import Derived.Test.YtediidajdpdeiaaDoorJ5

namespace Go.Proofs.YtediidajdpdeiaaDoor
open Go.RowKit CrcM
set_option maxRecDepth 100000

theorem part_at {α : Type} {gs : List α} {k : Nat} {g : α} (f : α → α) (hg : gs[k]? = some g) : ((gs.take k).map f ++ gs.drop k)[k]? = some g := by
  have hlt := (List.getElem?_eq_some_iff.1 hg).1
  rw [List.getElem?_append_right (by rw [List.length_map, List.length_take]; omega), List.length_map, List.length_take, Nat.min_eq_left (by omega), Nat.sub_self, List.getElem?_drop]
  exact hg
theorem part_set {α : Type} {gs : List α} {k : Nat} {g : α} (f : α → α) (hg : gs[k]? = some g) : ((gs.take k).map f ++ gs.drop k).set k (f g) = (gs.take (k + 1)).map f ++ gs.drop (k + 1) := by
  have hlt := (List.getElem?_eq_some_iff.1 hg).1
  have hl : ((gs.take k).map f).length = k := by rw [List.length_map, List.length_take]; omega
  rw [List.set_append_right _ _ (by omega), hl, Nat.sub_self, drop_of hg, List.take_add_one, hg]
  simp

theorem Lg.up_sync {L : Lg} (h : L.up) : L.sync.1.up := by
  obtain ⟨per, gs, dn⟩ := L
  cases dn
  · intro _ g hg
    have hg : g ∈ gs.map Sg.sync := by simpa [Lg.sync] using hg
    obtain ⟨g', hg', rfl⟩ := List.mem_map.1 hg
    have := h rfl g' hg'
    unfold Sg.sync Sg.up Dk.sync at *
    rw [this.1]
    simp only [Bool.false_eq_true, if_false]
    exact ⟨trivial, this.2⟩
  · exact h
theorem Lg.up_crash {L : Lg} (h : L.up) (k f : Int) : (L.crash k f).1.up := by
  unfold Lg.crash
  split
  · exact h
  · split
    · exact h
    · intro hd; cases hd

section
variable [Hole] {S H : Nat → Prop} {w : World} {b : Nat} {A : Option Addr} {c : Nat} {ps : List Nat} {L : Lg}

theorem LogO.same (h : LogO S H w b A c ps L) (hu : L.up) : IsLog (Up S w w) w (.pointer (some ⟨b, 0, none⟩)) L :=
  ⟨b, rfl, hu, H, A, c, ps, h.mono (fun _ => .inl) (fun x hx => hx.elim (h.lt x) (fun h => h.2))⟩
theorem LogO.isLog {S' H' : Nat → Prop} {w' : World} {A' : Option Addr} {c' : Nat} {ps' : List Nat} {L' : Lg} (h : LogO S' H' w' b A' c' ps' L') (hu : L'.up) : IsLog S' w' (.pointer (some ⟨b, 0, none⟩)) L' :=
  ⟨b, rfl, hu, H', A', c', ps', h⟩
theorem LogO.up2 {w1 w2 : World} {H' : Nat → Prop} {L' : Lg} {A' : Option Addr} {c' : Nat} {ps' : List Nat} (h : LogO (Up (Up S w w1) w1 w2) H' w2 b A' c' ps' L') (h1 : w.heap.size ≤ w1.heap.size) (h2 : w1.heap.size ≤ w2.heap.size) (hl : ∀ x, S x → x < w.heap.size) : LogO (Up S w w2) H' w2 b A' c' ps' L' :=
  h.mono (fun x hx => by
    rcases hx with (hx | hx) | hx
    · exact .inl hx
    · exact .inr ⟨hx.1, Nat.lt_of_lt_of_le hx.2 h2⟩
    · exact .inr ⟨Nat.le_trans h1 hx.1, hx.2⟩) (Up.lt hl (Nat.le_trans h1 h2))

/-- the log's own struct is written anew -/
theorem LogO.put {per : Nat} {gs : List Sg} {dn : Bool} (h : LogO S H w b A c ps ⟨per, gs, dn⟩) {A' : Option Addr} {c' : Nat} {ps' : List Nat} {gs' : List Sg} (hr : Row H w TPs (.slice A' ps'.length c') (ps'.map ptr)) (hs : Segs S H w ps' gs') (hok : Lg.ok ⟨per, gs', dn⟩) :
    LogO S H (w.setCell ⟨b, 1, none⟩ (.slice A' ps'.length c')) b A' c' ps' ⟨per, gs', dn⟩ ∧ Fr S w (w.setCell ⟨b, 1, none⟩ (.slice A' ps'.length c')) := by
  have hnb : ¬ IsB w b := h.blk.notB (by decide)
  have f1 : Fr (fun x => x = b) w (w.setCell ⟨b, 1, none⟩ (.slice A' ps'.length c')) := (Fr.refl (fun x => x = b) _).setCell (p := ⟨b, 1, none⟩) (.inl (show b = b from rfl)) hnb _
  refine ⟨⟨h.hS, h.hb, by simpa using h.blk.set 1 (.slice A' ps'.length c'), hr.otherBlk h.blk (by decide) f1, hs.fr f1 (fun x _ hx e => (hx (e ▸ h.hb)).elim), by simpa [World.setCell] using h.lt, hok, by simpa [World.setCell] using h.hole⟩, f1.mono fun x _ e => h.hS x (e ▸ h.hb)⟩
theorem LogO.setDown {per : Nat} {gs : List Sg} {dn : Bool} (h : LogO S H w b A c ps ⟨per, gs, dn⟩) (dn' : Bool) :
    LogO S H (w.setCell ⟨b, 2, none⟩ (.bool dn')) b A c ps ⟨per, gs, dn'⟩ ∧ Fr S w (w.setCell ⟨b, 2, none⟩ (.bool dn')) := by
  have hnb : ¬ IsB w b := h.blk.notB (by decide)
  have f1 : Fr (fun x => x = b) w (w.setCell ⟨b, 2, none⟩ (.bool dn')) := (Fr.refl (fun x => x = b) _).setCell (p := ⟨b, 2, none⟩) (.inl (show b = b from rfl)) hnb _
  exact ⟨⟨h.hS, h.hb, by simpa using h.blk.set 2 (.bool dn'), h.row.otherBlk h.blk (by decide) f1, h.segs.fr f1 (fun x _ hx e => (hx (e ▸ h.hb)).elim), by simpa [World.setCell] using h.lt, h.ok, by simpa [World.setCell] using h.hole⟩, f1.mono fun x _ e => h.hS x (e ▸ h.hb)⟩

end
section
variable {S H : Nat → Prop} {w : World} {b : Nat} {A : Option Addr} {c : Nat} {ps : List Nat} {L : Lg}
theorem syncL (h : LogO S H w b A c ps L) (hu : L.up) : Calls Tryd.prog 46 #[.pointer (some ⟨b, 0, none⟩)] w (LogDid S w (.pointer (some ⟨b, 0, none⟩)) L.sync) := by
  have hu' := Lg.up_sync hu
  obtain ⟨per, gs, dn⟩ := L
  cases dn
  · have e : Lg.sync ⟨per, gs, false⟩ = (⟨per, gs.map Sg.sync, false⟩, 0) := by unfold Lg.sync; simp
    rw [e] at hu'
    have E := Lib.hid e
    clear e
    obtain ⟨c0, c1, c2, z1, z2, q0, q1, q2, q3, q4⟩ := h.facts
    have HQ := Lib.hid q1
    clear q1
    go_enter Tryd.func46, Tryd.ntmps46
    go_wp2_with (go_at_call 82; refine (askedL h).mono ?_; rintro e w' ⟨rfl, rfl⟩)
    clear c0 c1 c2
    go_loopw [16] (fun i wr => ∃ k : Nat, k ≤ ps.length ∧ i = .int .i64 (k : Int) ∧ LogO (Up S w wr) H wr b A c ps ⟨per, (gs.take k).map Sg.sync ++ gs.drop k, false⟩ ∧ Fr S w wr) (fun i _ => ps.length - (intOf i).toNat)
    case atStart => exact ⟨0, by omega, rfl, h.mono (fun _ => .inl) (fun x hx => hx.elim (h.lt x) (fun h => h.2)), Fr.refl _ _⟩
    case round =>
      obtain ⟨k, hk, rfl, ho, hf⟩ := hrel
      by_cases hlt : k < ps.length
      · obtain ⟨g, hg⟩ : ∃ g, gs[k]? = some g := ⟨_, List.getElem?_eq_getElem (show k < gs.length by have := HQ.out; omega)⟩
        have hpg := part_at Sg.sync hg
        have hps := part_set Sg.sync hg
        obtain ⟨d, base, recs, safe⟩ := g
        obtain ⟨p, hp⟩ : ∃ p, ps[k]? = some p := ⟨_, List.getElem?_eq_getElem hlt⟩
        obtain ⟨ad, rfl, ca⟩ := ho.ptrAt hp
        obtain ⟨Sd, db, R, cR, s0, hd, hSd, hup⟩ := ho.disk hp hpg
        have HP := Lib.hid hps
        clear hps
        have hlt' : (k : Int) < (ps.length : Int) := by omega
        go_wp2_with (go_at_call 94; refine (sync_B hd).mono ?_; rintro e w1 ⟨rfl, hd1, hf1⟩
                     have ho1 := hup w1 _ hf1 hd1
                     have hpg1 : ((List.map Sg.sync (List.take k gs) ++ List.drop k gs).set k ⟨d.sync.1, base, recs, safe⟩)[k]? = some ⟨d.sync.1, base, recs, safe⟩ := List.getElem?_set_self (List.getElem?_eq_some_iff.1 hpg).1
                     obtain ⟨p', hp', db', R', cR', s0', s1', s2', s3', y2', y3'⟩ := ho1.segs.facts hpg1
                     rw [hp] at hp'
                     injection hp' with hp'
                     subst hp'
                     obtain ⟨ho2, hf2⟩ := ho1.setSafe hp hpg1 recs.length (Nat.le_refl _)
                     rw [List.set_set] at ho2)
        have hsz : (w1.setCell ⟨p, 3, none⟩ (.int .i64 (recs.length : Int))).heap.size = w1.heap.size := by simp [World.setCell]
        go_roundw
        case rel =>
          have ho3 : LogO (Up (Up S w wr) wr (w1.setCell ⟨p, 3, none⟩ (.int .i64 (recs.length : Int)))) H _ b _ c ps _ := ho2.mono (fun x hx => hx.imp_right (fun h => ⟨h.1, by rw [hsz]; exact h.2⟩)) (fun x hx => ho2.lt x (hx.imp_right (fun h => ⟨h.1, by rw [hsz] at h; exact h.2⟩)))
          refine ⟨k + 1, by omega, by go_num, ?_, ?_⟩
          · rw [← HP.out]
            exact ho3.up2 hf.size (by rw [hsz]; exact hf1.size) h.lt
          · exact (hf.trans' hf1 (fun x hb hx => (hSd x hx).elim id (fun h => by omega))).trans' hf2 (fun x hb hx => by
              rcases hx with (hx | hx) | hx
              · exact hx
              · omega
              · have := hf.size; omega)
        case measure => simp [intOf]; omega
      · obtain rfl : k = ps.length := by omega
        go_wp2
        go_ret
        rw [E.out]
        have e1 : gs.take ps.length = gs := List.take_of_length_le (by rw [HQ.out]; exact Nat.le_refl _)
        have e2 : gs.drop ps.length = [] := List.drop_of_length_le (by rw [HQ.out]; exact Nat.le_refl _)
        rw [e1, e2, List.append_nil] at ho
        exact ⟨rfl, ho.isLog hu', hf⟩
  · have e : Lg.sync ⟨per, gs, true⟩ = (⟨per, gs, true⟩, 10) := by unfold Lg.sync; simp
    have E := Lib.hid e
    clear e hu'
    go_enter Tryd.func46, Tryd.ntmps46
    go_wp2_with (go_at_call 82; refine (askedL h).mono ?_; rintro e w' ⟨rfl, rfl⟩)
    go_ret
    rw [E.out]
    exact ⟨rfl, h.same hu, Fr.refl _ _⟩

theorem crashL (h : LogO S H w b A c ps L) (hu : L.up) (keep flip : Int) (hk63 : keep ≤ 9223372036854775807) (hf63 : flip ≤ 9223372036854775807) (hk0 : -9223372036854775808 ≤ keep) (hf0 : -9223372036854775808 ≤ flip) :
    Calls Tryd.prog 43 #[.pointer (some ⟨b, 0, none⟩), .int .i64 keep, .int .i64 flip] w (LogDid S w (.pointer (some ⟨b, 0, none⟩)) (L.crash keep flip)) := by
  have hu' := Lg.up_crash hu keep flip
  obtain ⟨per, gs, dn⟩ := L
  cases dn
  · obtain ⟨c0, c1, c2, z1, z2, q0, q1, q2, q3, q4⟩ := h.facts
    have HQ := Lib.hid q1
    clear q1
    by_cases hneg : keep < 0
    · have e : Lg.crash ⟨per, gs, false⟩ keep flip = (⟨per, gs, false⟩, 2) := by unfold Lg.crash; simp [hneg]
      have E := Lib.hid e
      clear e hu'
      go_enter Tryd.func43, Tryd.ntmps43
      go_wp2_with (go_at_call 82; refine (askedL h).mono ?_; rintro e w' ⟨rfl, rfl⟩)
      go_ret
      rw [E.out]
      exact ⟨rfl, h.same hu, Fr.refl _ _⟩
    · have e : Lg.crash ⟨per, gs, false⟩ keep flip = (⟨per, gs.map (Sg.crash keep flip), true⟩, 0) := by unfold Lg.crash; simp [hneg]
      rw [e] at hu'
      have E := Lib.hid e
      clear e
      go_enter Tryd.func43, Tryd.ntmps43
      go_wp2_with (go_at_call 82; refine (askedL h).mono ?_; rintro e w' ⟨rfl, rfl⟩)
      clear c0 c1 c2
      go_loopw [22] (fun i wr => ∃ k : Nat, k ≤ ps.length ∧ i = .int .i64 (k : Int) ∧ LogO (Up S w wr) H wr b A c ps ⟨per, (gs.take k).map (Sg.crash keep flip) ++ gs.drop k, false⟩ ∧ Fr S w wr) (fun i _ => ps.length - (intOf i).toNat)
      case atStart => exact ⟨0, by omega, rfl, h.mono (fun _ => .inl) (fun x hx => hx.elim (h.lt x) (fun h => h.2)), Fr.refl _ _⟩
      case round =>
        obtain ⟨k, hk, rfl, ho, hf⟩ := hrel
        by_cases hlt : k < ps.length
        · obtain ⟨g, hg⟩ : ∃ g, gs[k]? = some g := ⟨_, List.getElem?_eq_getElem (show k < gs.length by have := HQ.out; omega)⟩
          have hpg := part_at (Sg.crash keep flip) hg
          have hps := part_set (Sg.crash keep flip) hg
          obtain ⟨d, base, recs, safe⟩ := g
          obtain ⟨p, hp⟩ : ∃ p, ps[k]? = some p := ⟨_, List.getElem?_eq_getElem hlt⟩
          obtain ⟨ad, rfl, ca⟩ := ho.ptrAt hp
          obtain ⟨Sd, db, R, cR, s0, hd, hSd, hup⟩ := ho.disk hp hpg
          have HP := Lib.hid hps
          clear hps
          have hlt' : (k : Int) < (ps.length : Int) := by omega
          go_wp2_with (go_at_call 91; refine (crash_B hd keep flip hk63 hf63 hk0 hf0).mono ?_; rintro e w1 ⟨rfl, hd1, hf1⟩
                       have ho1 := hup w1 _ hf1 hd1)
          go_roundw
          case rel =>
            refine ⟨k + 1, by omega, by go_num, ?_, hf.trans' hf1 (fun x hb hx => (hSd x hx).elim id (fun h => by omega))⟩
            rw [← HP.out]
            exact ho1.up2 hf.size hf1.size h.lt
          case measure => simp [intOf]; omega
        · obtain rfl : k = ps.length := by omega
          obtain ⟨ho2, hf2⟩ := ho.setDown true
          obtain ⟨c0, c1, c2, z1, z2, -, -, -, -, -⟩ := ho.facts
          go_wp2
          go_ret
          rw [E.out]
          have e1 : gs.take ps.length = gs := List.take_of_length_le (by rw [HQ.out]; exact Nat.le_refl _)
          have e2 : gs.drop ps.length = [] := List.drop_of_length_le (by rw [HQ.out]; exact Nat.le_refl _)
          rw [e1, e2, List.append_nil] at ho2
          have hsz : (wr.setCell ⟨b, 2, none⟩ (.bool true)).heap.size = wr.heap.size := by simp [World.setCell]
          have ho3 : LogO (Up S w (wr.setCell ⟨b, 2, none⟩ (.bool true))) H _ b A c ps _ := ho2.mono (fun x hx => hx.imp_right (fun h => ⟨h.1, by rw [hsz]; exact h.2⟩)) (fun x hx => ho2.lt x (hx.imp_right (fun h => ⟨h.1, by rw [hsz] at h; exact h.2⟩)))
          exact ⟨rfl, ho3.isLog hu', hf.trans' hf2 (fun x hb hx => hx.elim id (fun h => by omega))⟩
  · have e : Lg.crash ⟨per, gs, true⟩ keep flip = (⟨per, gs, true⟩, 10) := by unfold Lg.crash; simp
    have E := Lib.hid e
    clear e hu'
    go_enter Tryd.func43, Tryd.ntmps43
    go_wp2_with (go_at_call 82; refine (askedL h).mono ?_; rintro e w' ⟨rfl, rfl⟩)
    go_ret
    rw [E.out]
    exact ⟨rfl, h.same hu, Fr.refl _ _⟩

theorem newL (w : World) (per : Int) : Calls Tryd.prog 34 #[.int .i64 per] w fun e w' =>
    if 1 ≤ per ∧ per ≤ 1024 then ∃ p, e = .returned (.tuple #[p, .int .i64 0]) ∧ IsLog (Nw w w') w' p (Lg.new per.toNat) ∧ Below w.heap.size w w' else e = .returned (.tuple #[.pointer none, .int .i64 2]) ∧ w' = w := by
  by_cases h : 1 ≤ per ∧ per ≤ 1024
  · simp only [if_pos h]
    obtain ⟨n, rfl⟩ : ∃ n : Nat, per = n := ⟨per.toNat, by omega⟩
    have h1 : ¬ (n : Int) < 1 := by omega
    have h2 : ¬ (1024 : Int) < (n : Int) := by omega
    go_enter Tryd.func34, Tryd.ntmps34
    go_wp2
    go_ret2
    refine ⟨_, rfl, ⟨w.heap.size, rfl, fun _ g hg => by simp [Lg.new] at hg, Nw w (w.alloc (.cells #[.int .i64 (n : Int), .slice none 0 0, .bool false] TLg)), none, 0, [], fun _ h => h, ⟨Nat.le_refl _, by simp⟩, Blk.new _ _ _, Row.nil _ _ _, Segs.nil _ _ _, fun x hx => hx.2, ?_, fun _ _ => trivial⟩, (Below.refl _ _).alloc (Nat.le_refl _) _⟩
    refine ⟨?_, ?_, by simp [Lg.new], fun g hg => by simp [Lg.new] at hg⟩
    · show 1 ≤ ((n : Int)).toNat
      omega
    · show ((n : Int)).toNat ≤ 1024
      omega
  · simp only [if_neg h]
    by_cases h1 : per < 1
    · go_enter Tryd.func34, Tryd.ntmps34
      go_wp2
      go_ret2
      exact ⟨rfl, rfl⟩
    · have h2 : (1024 : Int) < per := by omega
      go_enter Tryd.func34, Tryd.ntmps34
      go_wp2
      go_ret2
      exact ⟨rfl, rfl⟩

/-- how many segments a log in memory has -/
def segsIn (w : World) (b : Nat) : Nat := match w.cell? ⟨b, 1, none⟩ with
  | some (.slice _ n _) => n
  | _ => 0
theorem dropS_mem : ∀ (gs : List Sg) (n : Int) (g : Sg), g ∈ dropS gs n → g ∈ gs
  | [], _, _, h => h
  | [a], _, _, h => h
  | a :: b :: t, n, g, h => by
    unfold dropS at h
    split at h
    · exact List.mem_cons_of_mem _ (dropS_mem (b :: t) n g h)
    · exact h
theorem Lg.up_drop {L : Lg} (h : L.up) (n : Int) : (L.drop n).1.up := by
  obtain ⟨per, gs, dn⟩ := L
  cases dn
  · unfold Lg.drop
    simp only [Bool.false_eq_true, if_false]
    split
    · exact h
    · exact fun _ g hg => h rfl g (dropS_mem gs n g hg)
  · exact h

theorem dropL (h : LogO S H w b A c ps L) (hu : L.up) (n : Int) :
    Calls Tryd.prog 47 #[.pointer (some ⟨b, 0, none⟩), .int .i64 n] w (LogDid S w (.pointer (some ⟨b, 0, none⟩)) (L.drop n)) := by
  have hu' := Lg.up_drop hu n
  have hsf := safeL h
  obtain ⟨per, gs, dn⟩ := L
  cases dn
  · generalize hsv : Lg.safe ⟨per, gs, false⟩ = sf at *
    by_cases hns : (sf : Int) < n
    · have e : Lg.drop ⟨per, gs, false⟩ n = (⟨per, gs, false⟩, 2) := by unfold Lg.drop; rw [hsv]; simp [hns]
      have E := Lib.hid e
      clear e hu' hsv
      go_enter Tryd.func47, Tryd.ntmps47
      go_wp2_with (first
        | (go_at_call 82; refine (askedL h).mono ?_; rintro e w' ⟨rfl, rfl⟩)
        | (go_at_call 38; refine hsf.mono ?_; rintro e w1 ⟨rfl, hb1⟩))
      go_ret
      rw [E.out]
      have h1 := h.below hb1
      exact ⟨rfl, (h1.mono (S' := Up S w w1) (fun _ => .inl) (Up.lt h.lt hb1.size)).isLog hu, Fr.of_below hb1⟩
    · have e : Lg.drop ⟨per, gs, false⟩ n = (⟨per, dropS gs n, false⟩, 0) := by unfold Lg.drop; rw [hsv]; simp [hns]
      rw [e] at hu'
      have E := Lib.hid e
      clear e hsv
      go_enter Tryd.func47, Tryd.ntmps47
      go_wp2_with (first
        | (go_at_call 82; refine (askedL h).mono ?_; rintro e w' ⟨rfl, rfl⟩)
        | (go_at_call 38; refine hsf.mono ?_; rintro e w1 ⟨rfl, hb1⟩))
      have h1 : LogO (Up S w w1) H w1 b A c ps ⟨per, gs, false⟩ := (h.below hb1).mono (fun _ => .inl) (Up.lt h.lt hb1.size)
      go_loopw [15] (fun _ wr => ∃ (A' : Option Addr) (c' : Nat) (ps' : List Nat) (gs' : List Sg), LogO (Up S w wr) H wr b A' c' ps' ⟨per, gs', false⟩ ∧ dropS gs n = dropS gs' n ∧ Fr S w wr) (fun _ wr => segsIn wr b)
      case atStart => exact ⟨A, c, ps, gs, h1, rfl, Fr.of_below hb1⟩
      case round =>
        obtain ⟨A', c', ps', gs', ho, hds, hf⟩ := hrel
        obtain ⟨c0, c1, c2, z1, z2, q0, q1, q2, q3, q4⟩ := ho.facts
        have HI := Lib.hid (show segsIn wr b = ps'.length by unfold segsIn; rw [c1])
        have HD := Lib.hid hds
        have HQ := Lib.hid q1
        clear hds q1
        by_cases hl : ps'.length ≤ 1
        · have hl' : ¬ (1 : Int) < (ps'.length : Int) := by omega
          go_wp2
          go_ret
          rw [E.out]
          have e1 : dropS gs n = gs' := by
            rw [HD.out]
            have := HQ.out
            match gs', this with
            | [], _ => rfl
            | [g], _ => rfl
            | _ :: _ :: _, h => simp at h; omega
          rw [e1] at hu' ⊢
          exact ⟨rfl, ho.isLog hu', hf⟩
        · have hl' : (1 : Int) < (ps'.length : Int) := by omega
          obtain ⟨g0, g, t, rfl⟩ : ∃ g0 g t, gs' = g0 :: g :: t := by
            have := HQ.out
            match gs', this with
            | [], h => rw [List.length_nil] at h; omega
            | [g], h => rw [List.length_singleton] at h; omega
            | g0 :: g :: t, _ => exact ⟨g0, g, t, rfl⟩
          obtain ⟨d, base, recs, safe⟩ := g
          have hg : (g0 :: ⟨d, base, recs, safe⟩ :: t)[1]? = some (⟨d, base, recs, safe⟩ : Sg) := rfl
          obtain ⟨p, hp, db, R, cr, s0, s1, s2, s3, y2, y3⟩ := ho.segs.facts hg
          obtain ⟨ga, oa, hA', ca⟩ := ho.ptrAt2 hp
          have ca2 : wr.cell? ((⟨ga, oa, none⟩ : Addr).add 1) = some (.pointer (some ⟨p, 0, none⟩)) := ca
          have HA := Lib.hid hA'
          subst hA'
          clear hg
          by_cases hbn : (base : Int) ≤ n
          · have k1 : (1 : Int) ≤ (ps'.length : Int) := by omega
            have k2 : (1 : Int) ≤ (c' : Int) := by omega
            have k3 : ¬ c' = 1 := by omega
            go_wp2
            go_roundw
            case rel =>
              obtain ⟨p0, ps2, rfl⟩ : ∃ p0 ps2, ps' = p0 :: ps2 := by
                match ps', hl with
                | [], h => simp at h
                | p0 :: ps2, _ => exact ⟨p0, ps2, rfl⟩
              rw [List.length_cons, Nat.add_sub_cancel]
              have hrow : Row H wr TPs (.slice (some ⟨ga, oa + 1, none⟩) ps2.length (c' - 1)) (ps2.map ptr) := by
                obtain ⟨g1, o1, c1', e, hc1, hr⟩ := ho.row.drop (n := 1) (by rw [List.length_map]; omega)
                simp only [Value.slice.injEq, Option.some.injEq, Addr.mk.injEq, and_true] at e
                obtain ⟨⟨rfl, rfl⟩, -, rfl⟩ := e
                simpa using hr
              have hok := ho.ok
              obtain ⟨ho2, hf2⟩ := ho.put hrow ho.segs.tail ⟨hok.1, hok.2.1, by have := hok.2.2.1; simp at this ⊢; omega, fun g hg => hok.2.2.2 g (List.mem_cons_of_mem _ hg)⟩
              have hsz : (wr.setCell ⟨b, 1, none⟩ (.slice (some ⟨ga, oa + 1, none⟩) ps2.length (c' - 1))).heap.size = wr.heap.size := by simp [World.setCell]
              refine ⟨_, _, ps2, _, ho2.mono (fun x hx => hx.imp_right (fun h => ⟨h.1, by rw [hsz]; exact h.2⟩)) (fun x hx => ho2.lt x (hx.imp_right (fun h => ⟨h.1, by rw [hsz] at h; exact h.2⟩))), ?_, hf.trans' hf2 (fun x hb hx => hx.elim id (fun h => by omega))⟩
              rw [HD.out, dropS, if_pos hbn]
            case measure =>
              have e2 : segsIn (wr.setCell ⟨b, 1, none⟩ (.slice (some ⟨ga, oa + 1, none⟩) (ps'.length - 1) (c' - 1))) b = ps'.length - 1 := by
                unfold segsIn
                have := (ho.blk.set 1 (.slice (some ⟨ga, oa + 1, none⟩) (ps'.length - 1) (c' - 1))).cell 1 (v := .slice (some ⟨ga, oa + 1, none⟩) (ps'.length - 1) (c' - 1)) (by simp)
                rw [this]
              rw [e2, HI.out]
              omega
          · go_wp2
            go_ret
            rw [E.out]
            have e1 : dropS gs n = g0 :: ⟨d, base, recs, safe⟩ :: t := by rw [HD.out, dropS, if_neg (show ¬ (base : Int) ≤ n by omega)]
            rw [e1] at hu' ⊢
            exact ⟨rfl, ho.isLog hu', hf⟩
  · have e : Lg.drop ⟨per, gs, true⟩ n = (⟨per, gs, true⟩, 10) := by unfold Lg.drop; simp
    have E := Lib.hid e
    clear e hu' hsf
    go_enter Tryd.func47, Tryd.ntmps47
    go_wp2_with (go_at_call 82; refine (askedL h).mono ?_; rintro e w' ⟨rfl, rfl⟩)
    go_ret
    rw [E.out]
    exact ⟨rfl, h.same hu, Fr.refl _ _⟩
end
end Go.Proofs.YtediidajdpdeiaaDoor

/- The log's head, Append (layer 7): the walks. -/
namespace Go.Proofs.YtediidajdpdeiaaDoor
open Go.RowKit CrcM
set_option maxRecDepth 100000

theorem head_B (w : World) (hh : HalfAt w) (base : Nat) (hn : base ≤ 4611686018427387904) :
    Calls Tryd.prog 86 #[.int .i64 (base : Int)] w (BytesNew w (headB base)) := by
  have h10 : (numB base).length ≤ 10 := numB_10 (by omega)
  have hN := Num_B w w (Below.refl _ _) none 0 [] (Rd.nil _ _ _) (by simp) base hn
  rw [List.nil_append, List.length_nil] at hN
  go_enter Tryd.func86, Tryd.ntmps86
  go_wp2_with (go_at_call 107; refine hN.mono ?_; rintro e w1 ⟨v1, rfl, ho1, hb1⟩; obtain ⟨A1, c1, rfl, hc1, hm1⟩ := own_val ho1)
  have hF := frame_B w1 (hh.below hb1 hh.lt) A1 (numB base) c1 (numB base).length (own_rd ho1 rfl) rfl (by unfold maxLen; omega)
  simp only [if_pos (show (numB base).length ≤ 65536 by omega)] at hF
  refine hF.mono ?_
  rintro e w2 ⟨A2, c2, rfl, ho2, hc2, hm2, hb2⟩
  go_wp2
  go_ret
  refine ⟨A2, c2, rfl, ?_, hc2, hm2, hb1.trans (hb2.mono hb1.size)⟩
  exact ho2.mono (fun x hx => Nat.le_trans hb1.size hx)
end Go.Proofs.YtediidajdpdeiaaDoor
