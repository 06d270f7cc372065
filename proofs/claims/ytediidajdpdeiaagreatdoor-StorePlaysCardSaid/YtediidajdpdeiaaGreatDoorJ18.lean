/- The document's log (layer 7): Sync, Crash; the walks. -/
import Derived.Test.YtediidajdpdeiaaGreatDoorJ12
import Derived.Test.YtediidajdpdeiaaGreatDoorJ4

namespace Go.Proofs.YtediidajdpdeiaaGreatDoor
open Go.RowKit CrcM
set_option maxRecDepth 100000

/-- p is a log of the document's -/
def IsRlog (S : Nat → Prop) (w : World) (p : Value) (L : Rg) : Prop := ∃ H b A c ps, p = .pointer (some ⟨b, 0, none⟩) ∧ RlogO S H w b A c ps L
/-- WHAT A CALL ON THE DOCUMENT'S LOG LEAVES -/
def RlogDid (S : Nat → Prop) (w : World) (p : Value) (r : Rg × Int) (e : Ending) (w' : World) : Prop := e = .returned (.int .i64 r.2) ∧ IsRlog (Up S w w') w' p r.1 ∧ Fr S w w'

theorem Sg.inv.dok {per n : Nat} {g : Sg} (h : g.inv per n) (hs : g.d.all.length ≤ 4194304) : g.d.ok := by
  refine ⟨?_, by omega⟩
  rcases h.inv0.kept with ⟨h1, h2⟩ | ⟨h1, -⟩
  · rw [h1]; exact h2.length_le
  · omega
theorem ref_total (D : Dk) : D.ref.kept.length + D.ref.rest.length = D.all.length := by
  rw [← ref_all, Rk.all, List.length_append]

section
variable {S H : Nat → Prop} {w : World} {b : Nat} {A : Option Addr} {c : Nat} {ps : List Nat}
theorem RlogO.same {R : Rg} (h : RlogO S H w b A c ps R) : IsRlog (Up S w w) w (.pointer (some ⟨b, 0, none⟩)) R :=
  ⟨H, b, A, c, ps, rfl, h.mono (fun _ => .inl) (fun x hx => hx.elim (h.lt x) (fun h => h.2))⟩
theorem RlogO.up2 {w1 w2 : World} {H' : Nat → Prop} {L' : Rg} {A' : Option Addr} {c' : Nat} {ps' : List Nat} (h : RlogO (Up (Up S w w1) w1 w2) H' w2 b A' c' ps' L') (h1 : w.heap.size ≤ w1.heap.size) (h2 : w1.heap.size ≤ w2.heap.size) (hl : ∀ x, S x → x < w.heap.size) : RlogO (Up S w w2) H' w2 b A' c' ps' L' :=
  h.mono (fun x hx => by
    rcases hx with (hx | hx) | hx
    · exact .inl hx
    · exact .inr ⟨hx.1, Nat.lt_of_lt_of_le hx.2 h2⟩
    · exact .inr ⟨Nat.le_trans h1 hx.1, hx.2⟩) (Up.lt hl (Nat.le_trans h1 h2))
theorem RlogO.setDown {per : Nat} {ds : List Rk} {dn : Bool} (h : RlogO S H w b A c ps ⟨per, ds, dn⟩) (dn' : Bool) :
    RlogO S H (w.setCell ⟨b, 2, none⟩ (.bool dn')) b A c ps ⟨per, ds, dn'⟩ ∧ Fr S w (w.setCell ⟨b, 2, none⟩ (.bool dn')) := by
  have hnb : ¬ IsB w b := h.blk.notB (by decide)
  have f1 : Fr (fun x => x = b) w (w.setCell ⟨b, 2, none⟩ (.bool dn')) := (Fr.refl (fun x => x = b) _).setCell (p := ⟨b, 2, none⟩) (.inl (show b = b from rfl)) hnb _
  exact ⟨⟨h.hS, h.hb, by simpa using h.blk.set 2 (.bool dn'), h.row.otherBlk h.blk (by decide) f1, h.disks.fr f1 (fun x _ hx e => (hx (e ▸ h.hb)).elim), by simpa [World.setCell] using h.lt, h.per, h.few, h.small⟩, f1.mono fun x _ e => h.hS x (e ▸ h.hb)⟩

theorem refLogSync_B {L : Lg} {n : Nat} (h : RlogO S H w b A c ps L.ref) (hinv : L.inv n) : Calls Tryz.prog 66 #[.pointer (some ⟨b, 0, none⟩)] w (RlogDid S w (.pointer (some ⟨b, 0, none⟩)) (L.sync.1.ref, L.sync.2)) := by
  have hsg := hinv.segs
  obtain ⟨per, gs, dn⟩ := L
  cases dn
  · have e : Lg.sync ⟨per, gs, false⟩ = (⟨per, gs.map Sg.sync, false⟩, 0) := by unfold Lg.sync; simp
    have E := Lib.hid e
    clear e
    obtain ⟨c0, c1, c2, z1, z2, q1, q2, q3, q4⟩ := h.facts
    have HQ := Lib.hid (show ps.length = gs.length by rw [q1]; simp)
    clear q1
    simp only at hsg
    go_enter Tryz.func66, Tryz.ntmps66
    go_wp2
    clear c0 c1 c2
    go_loopw [3] (fun i wr => ∃ k : Nat, k ≤ ps.length ∧ i = .int .i64 (k : Int) ∧ RlogO (Up S w wr) H wr b A c ps ⟨per, ((gs.take k).map Sg.sync ++ gs.drop k).map (fun g => g.d.ref), false⟩ ∧ Fr S w wr) (fun i _ => ps.length - (intOf i).toNat)
    case atStart => exact ⟨0, by omega, rfl, h.mono (fun _ => .inl) (fun x hx => hx.elim (h.lt x) (fun h => h.2)), Fr.refl _ _⟩
    case round =>
      obtain ⟨k, hk, rfl, ho, hf⟩ := hrel
      obtain ⟨c0, c1, c2, z1', z2', q1', -, -, -⟩ := ho.facts
      clear q1'
      by_cases hlt : k < ps.length
      · obtain ⟨g, hg⟩ : ∃ g, gs[k]? = some g := ⟨_, List.getElem?_eq_getElem (show k < gs.length by have := HQ.out; omega)⟩
        have hpg := part_at Sg.sync hg
        have hps := part_set Sg.sync hg
        obtain ⟨p, hp⟩ : ∃ p, ps[k]? = some p := ⟨_, List.getElem?_eq_getElem hlt⟩
        obtain ⟨ga, oa, rfl, ca⟩ := ho.ptrAt hp
        obtain ⟨Sd, A1, c1', A2, c2', hd, hSd, hup⟩ := ho.disk hp (R := g.d.ref) (by rw [List.getElem?_map, hpg]; rfl)
        have hsm := ho.small g.d.ref (List.mem_map.2 ⟨g, List.mem_of_getElem? hpg, rfl⟩)
        have HP := Lib.hid hps
        have hlt' : (k : Int) < (ps.length : Int) := by omega
        have k8 : IntKind.i64.wrap ((k : Int) + 1) = ((k + 1 : Nat) : Int) := by rw [IntKind.wrap_i64]; omega
        clear hps hpg hg hp
        go_wp2_with (go_at_call 121; refine (refSync_B hd).mono ?_; rintro e w1 ⟨rfl, hd1, hf1⟩
                     rw [← ref_sync.1] at hd1
                     have ho1 := hup w1 _ hf1 hd1 (by rw [ref_total] at hsm ⊢; unfold Dk.sync; split <;> exact hsm))
        go_roundw
        case rel =>
          refine ⟨k + 1, by omega, rfl, ?_, hf.trans' hf1 (fun x hb hx => (hSd x hx).elim id (fun h => by omega))⟩
          rw [← HP.out, List.map_set]
          exact ho1.up2 hf.size hf1.size h.lt
        case measure => simp [intOf]; omega
      · obtain rfl : k = ps.length := by omega
        go_wp2
        go_ret
        rw [E.out]
        have e1 : gs.take ps.length = gs := List.take_of_length_le (by rw [HQ.out]; exact Nat.le_refl _)
        have e2 : gs.drop ps.length = [] := List.drop_of_length_le (by rw [HQ.out]; exact Nat.le_refl _)
        rw [e1, e2, List.append_nil] at ho
        exact ⟨rfl, ⟨_, _, _, _, _, rfl, ho⟩, hf⟩
  · have e : Lg.sync ⟨per, gs, true⟩ = (⟨per, gs, true⟩, 10) := by unfold Lg.sync; simp
    have E := Lib.hid e
    clear e
    obtain ⟨c0, c1, c2, z1, z2, q1, q2, q3, q4⟩ := h.facts
    clear q1
    go_enter Tryz.func66, Tryz.ntmps66
    go_wp2
    go_ret
    rw [E.out]
    exact ⟨rfl, h.same, Fr.refl _ _⟩

theorem refLogCrash_B {L : Lg} {n : Nat} (h : RlogO S H w b A c ps L.ref) (hinv : L.inv n) (keep flip : Int) (hk63 : keep ≤ 9223372036854775807) (hf63 : flip ≤ 9223372036854775807) (hk0 : -9223372036854775808 ≤ keep) (hf0 : -9223372036854775808 ≤ flip) :
    Calls Tryz.prog 71 #[.pointer (some ⟨b, 0, none⟩), .int .i64 keep, .int .i64 flip] w (RlogDid S w (.pointer (some ⟨b, 0, none⟩)) ((L.crash keep flip).1.ref, (L.crash keep flip).2)) := by
  have hsg := hinv.segs
  obtain ⟨per, gs, dn⟩ := L
  obtain ⟨c0, c1, c2, z1, z2, q1, q2, q3, q4⟩ := h.facts
  cases dn
  · by_cases hneg : keep < 0
    · have e : Lg.crash ⟨per, gs, false⟩ keep flip = (⟨per, gs, false⟩, 2) := by unfold Lg.crash; simp [hneg]
      have E := Lib.hid e
      clear e q1
      go_enter Tryz.func71, Tryz.ntmps71
      go_wp2
      go_ret
      rw [E.out]
      exact ⟨rfl, h.same, Fr.refl _ _⟩
    · have e : Lg.crash ⟨per, gs, false⟩ keep flip = (⟨per, gs.map (Sg.crash keep flip), true⟩, 0) := by unfold Lg.crash; simp [hneg]
      have E := Lib.hid e
      clear e
      have HQ := Lib.hid (show ps.length = gs.length by rw [q1]; simp)
      clear q1
      simp only at hsg
      have hsm0 := h.small
      go_enter Tryz.func71, Tryz.ntmps71
      go_wp2
      clear c0 c1 c2
      go_loopw [7] (fun i wr => ∃ k : Nat, k ≤ ps.length ∧ i = .int .i64 (k : Int) ∧ RlogO (Up S w wr) H wr b A c ps ⟨per, ((gs.take k).map (Sg.crash keep flip) ++ gs.drop k).map (fun g => g.d.ref), false⟩ ∧ Fr S w wr) (fun i _ => ps.length - (intOf i).toNat)
      case atStart => exact ⟨0, by omega, rfl, h.mono (fun _ => .inl) (fun x hx => hx.elim (h.lt x) (fun h => h.2)), Fr.refl _ _⟩
      case round =>
        obtain ⟨k, hk, rfl, ho, hf⟩ := hrel
        obtain ⟨c0, c1, c2, z1', z2', q1', -, -, -⟩ := ho.facts
        clear q1'
        by_cases hlt : k < ps.length
        · obtain ⟨g, hg⟩ : ∃ g, gs[k]? = some g := ⟨_, List.getElem?_eq_getElem (show k < gs.length by have := HQ.out; omega)⟩
          have hpg := part_at (Sg.crash keep flip) hg
          have hps := part_set (Sg.crash keep flip) hg
          obtain ⟨p, hp⟩ : ∃ p, ps[k]? = some p := ⟨_, List.getElem?_eq_getElem hlt⟩
          obtain ⟨ga, oa, rfl, ca⟩ := ho.ptrAt hp
          obtain ⟨Sd, A1, c1', A2, c2', hd, hSd, hup⟩ := ho.disk hp (R := g.d.ref) (by rw [List.getElem?_map, hpg]; rfl)
          have hsm := ho.small g.d.ref (List.mem_map.2 ⟨g, List.mem_of_getElem? hpg, rfl⟩)
          rw [ref_total] at hsm
          have hok := (hsg g (List.mem_of_getElem? hg)).dok hsm
          have HP := Lib.hid hps
          have hlt' : (k : Int) < (ps.length : Int) := by omega
          have k8 : IntKind.i64.wrap ((k : Int) + 1) = ((k + 1 : Nat) : Int) := by rw [IntKind.wrap_i64]; omega
          have hcr := refCrash_B hd keep flip hk63 hf63 hk0 hf0 (by have := ref_total g.d; omega)
          have hcl : (g.d.crash keep flip).1.all.length ≤ 4194304 := by
            have := (near_torn g.d.all g.d.kept keep flip hok.1).1.1
            unfold Dk.crash
            split
            · exact hsm
            · split
              · exact hsm
              · simp only
                omega
          clear hps hpg hg hp
          go_wp2_with (go_at_call 126; refine (hcr).mono ?_; rintro e w1 ⟨rfl, hd1, hf1⟩
                       rw [← (ref_crash hok keep flip).1] at hd1
                       have ho1 := hup w1 _ hf1 hd1 (by rw [ref_total]; exact hcl))
          go_roundw
          case rel =>
            refine ⟨k + 1, by omega, rfl, ?_, hf.trans' hf1 (fun x hb hx => (hSd x hx).elim id (fun h => by omega))⟩
            rw [← HP.out, List.map_set]
            exact ho1.up2 hf.size hf1.size h.lt
          case measure => simp [intOf]; omega
        · obtain rfl : k = ps.length := by omega
          obtain ⟨ho2, hf2⟩ := ho.setDown true
          go_wp2
          go_ret
          rw [E.out]
          have e1 : gs.take ps.length = gs := List.take_of_length_le (by rw [HQ.out]; exact Nat.le_refl _)
          have e2 : gs.drop ps.length = [] := List.drop_of_length_le (by rw [HQ.out]; exact Nat.le_refl _)
          rw [e1, e2, List.append_nil] at ho2
          have hsz : (wr.setCell ⟨b, 2, none⟩ (.bool true)).heap.size = wr.heap.size := by simp [World.setCell]
          refine ⟨rfl, ⟨_, _, _, _, _, rfl, ho2.mono (fun x hx => hx.imp_right (fun h => ⟨h.1, by rw [hsz]; exact h.2⟩)) (fun x hx => ho2.lt x (hx.imp_right (fun h => ⟨h.1, by rw [hsz] at h; exact h.2⟩)))⟩, hf.trans' hf2 (fun x hb hx => hx.elim id (fun h => by omega))⟩
  · have e : Lg.crash ⟨per, gs, true⟩ keep flip = (⟨per, gs, true⟩, 10) := by unfold Lg.crash; simp
    have E := Lib.hid e
    clear e q1
    go_enter Tryz.func71, Tryz.ntmps71
    go_wp2
    go_ret
    rw [E.out]
    exact ⟨rfl, h.same, Fr.refl _ _⟩
end
end Go.Proofs.YtediidajdpdeiaaGreatDoor

/- The document's log (layer 7): Drop; the walk. -/
namespace Go.Proofs.YtediidajdpdeiaaGreatDoor
open Go.RowKit CrcM
set_option maxRecDepth 100000

section
variable {S H : Nat → Prop} {w : World} {b : Nat} {A : Option Addr} {c : Nat} {ps : List Nat}
/-- the log's own struct is written anew -/
theorem RlogO.put {per : Nat} {ds : List Rk} {dn : Bool} (h : RlogO S H w b A c ps ⟨per, ds, dn⟩) {A' : Option Addr} {c' : Nat} {ps' : List Nat} {ds' : List Rk} (hr : Row H w TPr (.slice A' ps'.length c') (ps'.map ptr)) (hs : Refs S H w ps' ds') (hfew : ds'.length ≤ 256) (hsm : ∀ R ∈ ds', R.kept.length + R.rest.length ≤ 4194304) :
    RlogO S H (w.setCell ⟨b, 1, none⟩ (.slice A' ps'.length c')) b A' c' ps' ⟨per, ds', dn⟩ ∧ Fr S w (w.setCell ⟨b, 1, none⟩ (.slice A' ps'.length c')) := by
  have hnb : ¬ IsB w b := h.blk.notB (by decide)
  have f1 : Fr (fun x => x = b) w (w.setCell ⟨b, 1, none⟩ (.slice A' ps'.length c')) := (Fr.refl (fun x => x = b) _).setCell (p := ⟨b, 1, none⟩) (.inl (show b = b from rfl)) hnb _
  refine ⟨⟨h.hS, h.hb, by simpa using h.blk.set 1 (.slice A' ps'.length c'), hr.otherBlk h.blk (by decide) f1, hs.fr f1 (fun x _ hx e => (hx (e ▸ h.hb)).elim), by simpa [World.setCell] using h.lt, h.per, hfew, hsm⟩, f1.mono fun x _ e => h.hS x (e ▸ h.hb)⟩

end
end Go.Proofs.YtediidajdpdeiaaGreatDoor

/- The document's log (layer 7): what Restart leaves, in memory and in plain words. -/
namespace Go.Proofs.YtediidajdpdeiaaGreatDoor
open Go.RowKit CrcM
set_option maxRecDepth 100000

/-- a disk as the program reads it, and as the document parses it -/
theorem scan_parse (D : Dk) (due : Int) : (((parseM D.all).1 < 0 ∨ (0 ≤ due ∧ (parseM D.all).1 ≠ due)) ∧ scan D due = none) ∨
    ∃ n : Nat, (parseM D.all).1 = n ∧ (due < 0 ∨ (n : Int) = due) ∧ (parseM D.all).2.2 ≤ D.all.length ∧ scan D due = some (⟨(D.cut (parseM D.all).2.2).1, n, (parseM D.all).2.1, (parseM D.all).2.1.length⟩, decide ((parseM D.all).2.2 = D.all.length)) := by
  obtain ⟨r, hg, he⟩ := framesOf_is D.all
  have hle := hg.le
  have hf := hg.all he
  generalize (framesOf D.all).1 = bs at *
  generalize (framesOf D.all).2 = en at *
  have hbad : ∀ x : Int × List (List UInt8) × Nat, parseM D.all = x → x.1 = -1 → scan D due = none → (((parseM D.all).1 < 0 ∨ (0 ≤ due ∧ (parseM D.all).1 ≠ due)) ∧ scan D due = none) := fun x h1 h2 h3 => ⟨.inl (by rw [h1, h2]; decide), h3⟩
  cases bs with
  | nil => exact .inl (hbad (-1, [], 0) (by unfold parseM; rw [hf]) rfl (scan_none (by rw [hf])))
  | cons hd t =>
    cases hr : readNum hd with
    | error e => exact .inl (hbad (-1, [], 0) (by unfold parseM; simp only [hf, hr]) rfl (scan_bad (by rw [hf]) (fun n h => by rw [hr] at h; cases h)))
    | ok q =>
      obtain ⟨n, s⟩ := q
      by_cases hs : s = hd.length
      · subst hs
        have hp : parseM D.all = ((n : Int), t, en) := by unfold parseM; simp only [hf, hr, if_true]
        rw [hp]
        by_cases hd2 : due < 0 ∨ (n : Int) = due
        · exact .inr ⟨n, rfl, hd2, hle.2.1, scan_some hf hr hd2⟩
        · refine .inl ⟨.inr ⟨by omega, ?_⟩, scan_bad (by rw [hf]) (fun n' h => ?_)⟩
          · show (n : Int) ≠ due
            omega
          · rw [hr] at h
            injection h with h
            injection h with h
            subst h
            exact hd2
      · exact .inl (hbad (-1, [], 0) (by unfold parseM; simp only [hf, hr, hs, if_false]) rfl (scan_bad (by rw [hf]) (fun n' h => by rw [hr] at h; injection h with h; injection h with _ h; exact (hs h).elim)))

/-- a log of the document's that is being laid anew, where k disks have been read -/
structure RestR (S H : Nat → Prop) (w : World) (b : Nat) (A : Option Addr) (c : Nat) (ps : List Nat) (per k : Nat) (v : Value) (ds : List Rk) (Hk : Nat → Prop) (wr : World) : Prop where
  fr : Fr S w wr
  hH : ∀ x, H x → Hk x
  hk : ∀ x, Hk x → H x ∨ w.heap.size ≤ x
  lt : ∀ x, Hk x → x < wr.heap.size
  blk : Blk wr b TRl #[.int .i64 (per : Int), .slice A ps.length c, .bool false]
  row : Row H wr TPr (.slice A ps.length c) (ps.map ptr)
  out : Row (fun x => Hk x ∧ w.heap.size ≤ x) wr TPr v ((ps.take k).map ptr)
  disks : Refs (Up S w wr) Hk wr ps ds
  small : ∀ R ∈ ds, R.kept.length + R.rest.length ≤ 4194304

section
variable {S H : Nat → Prop} {w : World} {b : Nat} {A : Option Addr} {c : Nat} {ps : List Nat} {per k : Nat} {v : Value} {ds : List Rk} {Hk : Nat → Prop} {wr : World}

theorem RestR.facts (h : RestR S H w b A c ps per k v ds Hk wr) {p : Nat} (hp : ps[k]? = some p) : ∃ g o, A = some ⟨g, o, none⟩ ∧ wr.cell? ⟨g, o + k, none⟩ = some (.pointer (some ⟨p, 0, none⟩)) := by
  obtain ⟨g, o, c', h1, h2, h3, h4, _⟩ := h.row.cell (k := k) (u := ptr p) (by rw [List.getElem?_map, hp]; rfl)
  injection h1 with h1
  exact ⟨g, o, h1, h4⟩
theorem RestR.at_ {g o : Nat} (h : RestR S H w b (some ⟨g, o, none⟩) c ps per k v ds Hk wr) {j p : Nat} (hp : ps[j]? = some p) :
    wr.cell? ⟨b, 1, none⟩ = some (.slice (some ⟨g, o, none⟩) ps.length c) ∧ wr.cell? ⟨g, o + j, none⟩ = some (.pointer (some ⟨p, 0, none⟩)) ∧ wr.cell? ⟨b, 0, none⟩ = some (.int .i64 (per : Int)) ∧ wr.frozen? ⟨b, 1, none⟩ = false := by
  obtain ⟨g', o', c', h1, h2, h3, h4, _⟩ := h.row.cell (k := j) (u := ptr p) (by rw [List.getElem?_map, hp]; rfl)
  injection h1 with h1
  injection h1 with h1
  injection h1 with h1 h5
  subst h1; subst h5
  exact ⟨h.blk.cell 1 rfl, h4, h.blk.cell 0 rfl, h.blk.frozen 1⟩
theorem RestR.below (h : RestR S H w b A c ps per k v ds Hk wr) {w' : World} (hb : Below wr.heap.size wr w') : RestR S H w b A c ps per k v ds Hk w' :=
  ⟨h.fr.trans' (Fr.of_below (S := Non) hb) (fun _ _ h => h.elim), h.hH, h.hk, fun x hx => Nat.lt_of_lt_of_le (h.lt x hx) hb.size, h.blk.eq (hb.block b h.blk.lt), h.row.below hb, h.out.below hb,
    (h.disks.fr (S' := Non) (Fr.of_below hb) (fun _ _ _ h => h.elim)).mono (fun _ _ hx => hx.imp_right (fun q => ⟨q.1, Nat.lt_of_lt_of_le q.2 hb.size⟩)) (fun _ _ _ h => h), h.small⟩
/-- one disk, and what becomes of all when it turns -/
theorem RestR.disk (h : RestR S H w b A c ps per k v ds Hk wr) (hbH : H b) {j p : Nat} {R : Rk} (hp : ps[j]? = some p) (hR : ds[j]? = some R) :
    ∃ (Sd : Nat → Prop) (A1 : Option Addr) (c1 : Nat) (A2 : Option Addr) (c2 : Nat), RefAt Sd wr p A1 c1 A2 c2 R ∧
      ∀ w' R', Fr Sd wr w' → IsRef (Up Sd wr w') w' (.pointer (some ⟨p, 0, none⟩)) R' → R'.kept.length + R'.rest.length ≤ 4194304 → RestR S H w b A c ps per k v (ds.set j R') Hk w' := by
  obtain ⟨Fi, hF, ⟨A1, c1, A2, c2, hs⟩, hup⟩ := h.disks.at hp hR
  refine ⟨Fi, A1, c1, A2, c2, hs, fun w' R' f hd hsm => ?_⟩
  obtain ⟨p', A1', c1', A2', c2', e, hd⟩ := hd
  injection e with e
  injection e with e
  injection e with e
  subst e
  have hps : ps.set j p = ps := by
    apply List.ext_getElem?
    intro i
    rw [List.getElem?_set]
    split
    · rename_i hi
      subst hi
      rw [if_pos (List.getElem?_eq_some_iff.1 hp).1, hp]
    · rfl
  have hS := hup w' p R' f h.lt ⟨A1', c1', A2', c2', hd⟩
  rw [hps] at hS
  have hsz := h.fr.size
  refine ⟨h.fr.trans' f (fun x hx hd => (hF x hd).1.elim id (fun q => by have := q.1; omega)), h.hH, h.hk, fun x hx => Nat.lt_of_lt_of_le (h.lt x hx) f.size, h.blk.fr f (fun hx => (hF b hx).2.1 (h.hH b hbH)), h.row.fr f (fun x hx hd => ((hF x hd).2.1 (h.hH x hx)).elim), h.out.fr f (fun x hx hd => ((hF x hd).2.1 hx.1).elim), hS.mono (fun x _ hx => ?_) (fun _ _ _ h => h), ?_⟩
  · rcases hx with (hx | hx) | hx
    · exact .inl hx
    · exact .inr ⟨hx.1, Nat.lt_of_lt_of_le hx.2 f.size⟩
    · exact .inr ⟨Nat.le_trans hsz hx.1, hx.2⟩
  · intro R2 hR2
    rcases List.mem_or_eq_of_mem_set hR2 with hm | rfl
    · exact h.small R2 hm
    · exact hsm
/-- the out list's pointer is put behind -/
theorem RestR.more (h : RestR S H w b A c ps per k v ds Hk wr) (hSl : ∀ x, S x → x < w.heap.size) (hHl : ∀ x, H x → x < w.heap.size) (hbH : H b) {p : Nat} (hp : ps[k]? = some p) {w5 : World} {v' : Value} (f5 : Fr (fun x => Hk x ∧ w.heap.size ≤ x) wr w5) (hrow : Row (Up (fun x => Hk x ∧ w.heap.size ≤ x) wr w5) w5 TPr v' ((ps.take k).map ptr ++ [ptr p])) :
    RestR S H w b A c ps per (k + 1) v' ds (Up Hk wr w5) w5 := by
  have hsz : w.heap.size ≤ wr.heap.size := h.fr.size
  have htk : (ps.take (k + 1)).map ptr = (ps.take k).map ptr ++ [ptr p] := by rw [List.take_add_one, hp]; simp
  refine ⟨h.fr.trans' f5 (fun x hx hd => (by have := hd.2; omega)), fun x hx => .inl (h.hH x hx), fun x hx => ?_, fun x hx => ?_, ?_, ?_, ?_, ?_, h.small⟩
  · rcases hx with hx | hx
    · exact h.hk x hx
    · exact .inr (Nat.le_trans hsz hx.1)
  · rcases hx with hx | hx
    · exact Nat.lt_of_lt_of_le (h.lt x hx) f5.size
    · exact hx.2
  · exact h.blk.fr f5 (fun hx => by have := hHl b hbH; have := hx.2; omega)
  · exact h.row.fr f5 (fun x hx hd => by have := hHl x hx; have := hd.2; omega)
  · rw [htk]
    exact hrow.mono fun x _ hx => by
      rcases hx with hx | hx
      · exact ⟨.inl hx.1, hx.2⟩
      · exact ⟨.inr hx, Nat.le_trans hsz hx.1⟩
  · have h5 := h.disks.fr f5 (fun x hx hn hd => (hn hd.1).elim)
    refine (h5.mono (S' := Up S w w5) (H' := Up Hk wr w5) (fun x _ hx => hx.imp_right (fun q => ⟨q.1, Nat.lt_of_lt_of_le q.2 f5.size⟩)) (fun x _ hx hh => hh.elim id (fun q => ?_)))
    rcases hx with hx | hx
    · have := hSl x hx; have := q.1; omega
    · have := hx.2; have := q.1; omega
/-- the log at the end -/
theorem RestR.finish {A' : Option Addr} {c' : Nat} (h : RestR S H w b A c ps per k (.slice A' k c') ds Hk wr) (hS : ∀ x, H x → S x) (hbH : H b) (hSl : ∀ x, S x → x < w.heap.size) (hper : 1 ≤ per ∧ per ≤ 1024) (hfew : ps.length ≤ 256) (hk : k ≤ ps.length) :
    IsRlog (Up S w (wr.setCell ⟨b, 1, none⟩ (.slice A' k c'))) (wr.setCell ⟨b, 1, none⟩ (.slice A' k c')) (.pointer (some ⟨b, 0, none⟩)) ⟨per, ds.take k, false⟩ ∧ Fr S w (wr.setCell ⟨b, 1, none⟩ (.slice A' k c')) := by
  have hb2 := h.blk
  have hnb : ¬ IsB wr b := hb2.notB (by decide)
  have f1 : Fr (fun x => x = b) wr (wr.setCell ⟨b, 1, none⟩ (.slice A' k c')) := Fr.setCell (S := fun x => x = b) (Fr.refl _ _) (p := ⟨b, 1, none⟩) (.inl rfl) hnb _
  have hsz : (wr.setCell ⟨b, 1, none⟩ (.slice A' k c')).heap.size = wr.heap.size := by simp [World.setCell]
  have fw := h.fr.size
  have hlt : ∀ x, Up S w (wr.setCell ⟨b, 1, none⟩ (.slice A' k c')) x → x < wr.heap.size := fun x hx => hx.elim (fun hx => Nat.lt_of_lt_of_le (hSl x hx) fw) (fun q => by have := q.2; omega)
  have hkl : (ps.take k).length = k := by rw [List.length_take]; omega
  have hdl := h.disks.len
  refine ⟨⟨Hk, b, A', c', ps.take k, rfl, fun x hx => ?_, h.hH b hbH, ?_, ?_, ?_, fun x hx => by rw [hsz]; exact hlt x hx, hper, ?_, fun R hR => h.small R (List.mem_of_mem_take hR)⟩, h.fr.trans' f1 (fun x _ e => e ▸ hS b hbH)⟩
  · rcases h.hk x hx with hx' | hx'
    · exact .inl (hS x hx')
    · exact .inr ⟨hx', by rw [hsz]; exact h.lt x hx⟩
  · rw [hkl]
    simpa using hb2.set 1 (.slice A' k c')
  · rw [hkl]
    exact (h.out.otherBlk hb2 (by decide) f1).mono (fun x _ hx => hx.1)
  · exact ((h.disks.take k).fr f1 (fun x _ hn e => (hn (e ▸ h.hH b hbH)).elim)).mono (fun x _ hx => hx.imp_right (fun q => ⟨q.1, by rw [hsz]; exact q.2⟩)) (fun _ _ _ h => h)
  · simp only [List.length_take]; omega
end
end Go.Proofs.YtediidajdpdeiaaGreatDoor
