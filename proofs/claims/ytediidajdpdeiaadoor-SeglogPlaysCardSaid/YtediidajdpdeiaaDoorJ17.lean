/- The document's log (layer 7): Sync, Crash; the walks. -/
import Derived.Test.YtediidajdpdeiaaDoorJ16
import Derived.Test.YtediidajdpdeiaaDoorJ5

namespace Go.Proofs.YtediidajdpdeiaaDoor
open Go.RowKit CrcM
set_option maxRecDepth 100000

/-- p is a log of the document's -/
def IsRlog (S : Nat → Prop) (w : World) (p : Value) (L : Rg) : Prop := ∃ H b A c ps, p = .pointer (some ⟨b, 0, none⟩) ∧ RlogO S H w b A c ps L
/-- WHAT A CALL ON THE DOCUMENT'S LOG LEAVES -/
def RlogDid (S : Nat → Prop) (w : World) (p : Value) (r : Rg × Int) (e : Ending) (w' : World) : Prop := e = .returned (.int .i64 r.2) ∧ IsRlog (Up S w w') w' p r.1 ∧ Fr S w w'

theorem Sg.inv.dok {per n : Nat} {g : Sg} (h : g.inv per n) (hs : g.d.all.length ≤ 4194304) : g.d.ok := by
  refine ⟨?_, by omega⟩
  rcases h.inv0.kept with ⟨h1, h2⟩ | ⟨h1, -⟩
  · rw [h1]; exact h2.length_le
  · omega
theorem ref_total (D : Dk) : D.ref.kept.length + D.ref.rest.length = D.all.length := by
  rw [← ref_all, Rk.all, List.length_append]

section
variable {S H : Nat → Prop} {w : World} {b : Nat} {A : Option Addr} {c : Nat} {ps : List Nat}
theorem RlogO.same {R : Rg} (h : RlogO S H w b A c ps R) : IsRlog (Up S w w) w (.pointer (some ⟨b, 0, none⟩)) R :=
  ⟨H, b, A, c, ps, rfl, h.mono (fun _ => .inl) (fun x hx => hx.elim (h.lt x) (fun h => h.2))⟩
theorem RlogO.up2 {w1 w2 : World} {H' : Nat → Prop} {L' : Rg} {A' : Option Addr} {c' : Nat} {ps' : List Nat} (h : RlogO (Up (Up S w w1) w1 w2) H' w2 b A' c' ps' L') (h1 : w.heap.size ≤ w1.heap.size) (h2 : w1.heap.size ≤ w2.heap.size) (hl : ∀ x, S x → x < w.heap.size) : RlogO (Up S w w2) H' w2 b A' c' ps' L' :=
  h.mono (fun x hx => by
    rcases hx with (hx | hx) | hx
    · exact .inl hx
    · exact .inr ⟨hx.1, Nat.lt_of_lt_of_le hx.2 h2⟩
    · exact .inr ⟨Nat.le_trans h1 hx.1, hx.2⟩) (Up.lt hl (Nat.le_trans h1 h2))
theorem RlogO.setDown {per : Nat} {ds : List Rk} {dn : Bool} (h : RlogO S H w b A c ps ⟨per, ds, dn⟩) (dn' : Bool) :
    RlogO S H (w.setCell ⟨b, 2, none⟩ (.bool dn')) b A c ps ⟨per, ds, dn'⟩ ∧ Fr S w (w.setCell ⟨b, 2, none⟩ (.bool dn')) := by
  have hnb : ¬ IsB w b := h.blk.notB (by decide)
  have f1 : Fr (fun x => x = b) w (w.setCell ⟨b, 2, none⟩ (.bool dn')) := (Fr.refl (fun x => x = b) _).setCell (p := ⟨b, 2, none⟩) (.inl (show b = b from rfl)) hnb _
  exact ⟨⟨h.hS, h.hb, by simpa using h.blk.set 2 (.bool dn'), h.row.otherBlk h.blk (by decide) f1, h.disks.fr f1 (fun x _ hx e => (hx (e ▸ h.hb)).elim), by simpa [World.setCell] using h.lt, h.per, h.few, h.small⟩, f1.mono fun x _ e => h.hS x (e ▸ h.hb)⟩

theorem refLogSync_B {L : Lg} {n : Nat} (h : RlogO S H w b A c ps L.ref) (hinv : L.inv n) : Calls Tryd.prog 97 #[.pointer (some ⟨b, 0, none⟩)] w (RlogDid S w (.pointer (some ⟨b, 0, none⟩)) (L.sync.1.ref, L.sync.2)) := by
  have hsg := hinv.segs
  obtain ⟨per, gs, dn⟩ := L
  cases dn
  · have e : Lg.sync ⟨per, gs, false⟩ = (⟨per, gs.map Sg.sync, false⟩, 0) := by unfold Lg.sync; simp
    have E := Lib.hid e
    clear e
    obtain ⟨c0, c1, c2, z1, z2, q1, q2, q3, q4⟩ := h.facts
    have HQ := Lib.hid (show ps.length = gs.length by rw [q1]; simp)
    clear q1
    simp only at hsg
    go_enter Tryd.func97, Tryd.ntmps97
    go_wp2
    clear c0 c1 c2
    go_loopw [3] (fun i wr => ∃ k : Nat, k ≤ ps.length ∧ i = .int .i64 (k : Int) ∧ RlogO (Up S w wr) H wr b A c ps ⟨per, ((gs.take k).map Sg.sync ++ gs.drop k).map (fun g => g.d.ref), false⟩ ∧ Fr S w wr) (fun i _ => ps.length - (intOf i).toNat)
    case atStart => exact ⟨0, by omega, rfl, h.mono (fun _ => .inl) (fun x hx => hx.elim (h.lt x) (fun h => h.2)), Fr.refl _ _⟩
    case round =>
      obtain ⟨k, hk, rfl, ho, hf⟩ := hrel
      obtain ⟨c0, c1, c2, z1', z2', q1', -, -, -⟩ := ho.facts
      clear q1'
      by_cases hlt : k < ps.length
      · obtain ⟨g, hg⟩ : ∃ g, gs[k]? = some g := ⟨_, List.getElem?_eq_getElem (show k < gs.length by have := HQ.out; omega)⟩
        have hpg := part_at Sg.sync hg
        have hps := part_set Sg.sync hg
        obtain ⟨p, hp⟩ : ∃ p, ps[k]? = some p := ⟨_, List.getElem?_eq_getElem hlt⟩
        obtain ⟨ga, oa, rfl, ca⟩ := ho.ptrAt hp
        obtain ⟨Sd, A1, c1', A2, c2', hd, hSd, hup⟩ := ho.disk hp (R := g.d.ref) (by rw [List.getElem?_map, hpg]; rfl)
        have hsm := ho.small g.d.ref (List.mem_map.2 ⟨g, List.mem_of_getElem? hpg, rfl⟩)
        have HP := Lib.hid hps
        have hlt' : (k : Int) < (ps.length : Int) := by omega
        have k8 : IntKind.i64.wrap ((k : Int) + 1) = ((k + 1 : Nat) : Int) := by rw [IntKind.wrap_i64]; omega
        clear hps hpg hg hp
        go_wp2_with (go_at_call 124; refine (refSync_B hd).mono ?_; rintro e w1 ⟨rfl, hd1, hf1⟩
                     rw [← ref_sync.1] at hd1
                     have ho1 := hup w1 _ hf1 hd1 (by rw [ref_total] at hsm ⊢; unfold Dk.sync; split <;> exact hsm))
        go_roundw
        case rel =>
          refine ⟨k + 1, by omega, rfl, ?_, hf.trans' hf1 (fun x hb hx => (hSd x hx).elim id (fun h => by omega))⟩
          rw [← HP.out, List.map_set]
          exact ho1.up2 hf.size hf1.size h.lt
        case measure => simp [intOf]; omega
      · obtain rfl : k = ps.length := by omega
        go_wp2
        go_ret
        rw [E.out]
        have e1 : gs.take ps.length = gs := List.take_of_length_le (by rw [HQ.out]; exact Nat.le_refl _)
        have e2 : gs.drop ps.length = [] := List.drop_of_length_le (by rw [HQ.out]; exact Nat.le_refl _)
        rw [e1, e2, List.append_nil] at ho
        exact ⟨rfl, ⟨_, _, _, _, _, rfl, ho⟩, hf⟩
  · have e : Lg.sync ⟨per, gs, true⟩ = (⟨per, gs, true⟩, 10) := by unfold Lg.sync; simp
    have E := Lib.hid e
    clear e
    obtain ⟨c0, c1, c2, z1, z2, q1, q2, q3, q4⟩ := h.facts
    clear q1
    go_enter Tryd.func97, Tryd.ntmps97
    go_wp2
    go_ret
    rw [E.out]
    exact ⟨rfl, h.same, Fr.refl _ _⟩

theorem refLogCrash_B {L : Lg} {n : Nat} (h : RlogO S H w b A c ps L.ref) (hinv : L.inv n) (keep flip : Int) (hk63 : keep ≤ 9223372036854775807) (hf63 : flip ≤ 9223372036854775807) (hk0 : -9223372036854775808 ≤ keep) (hf0 : -9223372036854775808 ≤ flip) :
    Calls Tryd.prog 99 #[.pointer (some ⟨b, 0, none⟩), .int .i64 keep, .int .i64 flip] w (RlogDid S w (.pointer (some ⟨b, 0, none⟩)) ((L.crash keep flip).1.ref, (L.crash keep flip).2)) := by
  have hsg := hinv.segs
  obtain ⟨per, gs, dn⟩ := L
  obtain ⟨c0, c1, c2, z1, z2, q1, q2, q3, q4⟩ := h.facts
  cases dn
  · by_cases hneg : keep < 0
    · have e : Lg.crash ⟨per, gs, false⟩ keep flip = (⟨per, gs, false⟩, 2) := by unfold Lg.crash; simp [hneg]
      have E := Lib.hid e
      clear e q1
      go_enter Tryd.func99, Tryd.ntmps99
      go_wp2
      go_ret
      rw [E.out]
      exact ⟨rfl, h.same, Fr.refl _ _⟩
    · have e : Lg.crash ⟨per, gs, false⟩ keep flip = (⟨per, gs.map (Sg.crash keep flip), true⟩, 0) := by unfold Lg.crash; simp [hneg]
      have E := Lib.hid e
      clear e
      have HQ := Lib.hid (show ps.length = gs.length by rw [q1]; simp)
      clear q1
      simp only at hsg
      have hsm0 := h.small
      go_enter Tryd.func99, Tryd.ntmps99
      go_wp2
      clear c0 c1 c2
      go_loopw [7] (fun i wr => ∃ k : Nat, k ≤ ps.length ∧ i = .int .i64 (k : Int) ∧ RlogO (Up S w wr) H wr b A c ps ⟨per, ((gs.take k).map (Sg.crash keep flip) ++ gs.drop k).map (fun g => g.d.ref), false⟩ ∧ Fr S w wr) (fun i _ => ps.length - (intOf i).toNat)
      case atStart => exact ⟨0, by omega, rfl, h.mono (fun _ => .inl) (fun x hx => hx.elim (h.lt x) (fun h => h.2)), Fr.refl _ _⟩
      case round =>
        obtain ⟨k, hk, rfl, ho, hf⟩ := hrel
        obtain ⟨c0, c1, c2, z1', z2', q1', -, -, -⟩ := ho.facts
        clear q1'
        by_cases hlt : k < ps.length
        · obtain ⟨g, hg⟩ : ∃ g, gs[k]? = some g := ⟨_, List.getElem?_eq_getElem (show k < gs.length by have := HQ.out; omega)⟩
          have hpg := part_at (Sg.crash keep flip) hg
          have hps := part_set (Sg.crash keep flip) hg
          obtain ⟨p, hp⟩ : ∃ p, ps[k]? = some p := ⟨_, List.getElem?_eq_getElem hlt⟩
          obtain ⟨ga, oa, rfl, ca⟩ := ho.ptrAt hp
          obtain ⟨Sd, A1, c1', A2, c2', hd, hSd, hup⟩ := ho.disk hp (R := g.d.ref) (by rw [List.getElem?_map, hpg]; rfl)
          have hsm := ho.small g.d.ref (List.mem_map.2 ⟨g, List.mem_of_getElem? hpg, rfl⟩)
          rw [ref_total] at hsm
          have hok := (hsg g (List.mem_of_getElem? hg)).dok hsm
          have HP := Lib.hid hps
          have hlt' : (k : Int) < (ps.length : Int) := by omega
          have k8 : IntKind.i64.wrap ((k : Int) + 1) = ((k + 1 : Nat) : Int) := by rw [IntKind.wrap_i64]; omega
          have hcr := refCrash_B hd keep flip hk63 hf63 hk0 hf0 (by have := ref_total g.d; omega)
          have hcl : (g.d.crash keep flip).1.all.length ≤ 4194304 := by
            have := (near_torn g.d.all g.d.kept keep flip hok.1).1.1
            unfold Dk.crash
            split
            · exact hsm
            · split
              · exact hsm
              · simp only
                omega
          clear hps hpg hg hp
          go_wp2_with (go_at_call 125; refine (hcr).mono ?_; rintro e w1 ⟨rfl, hd1, hf1⟩
                       rw [← (ref_crash hok keep flip).1] at hd1
                       have ho1 := hup w1 _ hf1 hd1 (by rw [ref_total]; exact hcl))
          go_roundw
          case rel =>
            refine ⟨k + 1, by omega, rfl, ?_, hf.trans' hf1 (fun x hb hx => (hSd x hx).elim id (fun h => by omega))⟩
            rw [← HP.out, List.map_set]
            exact ho1.up2 hf.size hf1.size h.lt
          case measure => simp [intOf]; omega
        · obtain rfl : k = ps.length := by omega
          obtain ⟨ho2, hf2⟩ := ho.setDown true
          go_wp2
          go_ret
          rw [E.out]
          have e1 : gs.take ps.length = gs := List.take_of_length_le (by rw [HQ.out]; exact Nat.le_refl _)
          have e2 : gs.drop ps.length = [] := List.drop_of_length_le (by rw [HQ.out]; exact Nat.le_refl _)
          rw [e1, e2, List.append_nil] at ho2
          have hsz : (wr.setCell ⟨b, 2, none⟩ (.bool true)).heap.size = wr.heap.size := by simp [World.setCell]
          refine ⟨rfl, ⟨_, _, _, _, _, rfl, ho2.mono (fun x hx => hx.imp_right (fun h => ⟨h.1, by rw [hsz]; exact h.2⟩)) (fun x hx => ho2.lt x (hx.imp_right (fun h => ⟨h.1, by rw [hsz] at h; exact h.2⟩)))⟩, hf.trans' hf2 (fun x hb hx => hx.elim id (fun h => by omega))⟩
  · have e : Lg.crash ⟨per, gs, true⟩ keep flip = (⟨per, gs, true⟩, 10) := by unfold Lg.crash; simp
    have E := Lib.hid e
    clear e q1
    go_enter Tryd.func99, Tryd.ntmps99
    go_wp2
    go_ret
    rw [E.out]
    exact ⟨rfl, h.same, Fr.refl _ _⟩
end
end Go.Proofs.YtediidajdpdeiaaDoor

/- The document's log (layer 7): Drop; the walk. -/
namespace Go.Proofs.YtediidajdpdeiaaDoor
open Go.RowKit CrcM
set_option maxRecDepth 100000

section
variable {S H : Nat → Prop} {w : World} {b : Nat} {A : Option Addr} {c : Nat} {ps : List Nat}
/-- the log's own struct is written anew -/
theorem RlogO.put {per : Nat} {ds : List Rk} {dn : Bool} (h : RlogO S H w b A c ps ⟨per, ds, dn⟩) {A' : Option Addr} {c' : Nat} {ps' : List Nat} {ds' : List Rk} (hr : Row H w TPr (.slice A' ps'.length c') (ps'.map ptr)) (hs : Refs S H w ps' ds') (hfew : ds'.length ≤ 256) (hsm : ∀ R ∈ ds', R.kept.length + R.rest.length ≤ 4194304) :
    RlogO S H (w.setCell ⟨b, 1, none⟩ (.slice A' ps'.length c')) b A' c' ps' ⟨per, ds', dn⟩ ∧ Fr S w (w.setCell ⟨b, 1, none⟩ (.slice A' ps'.length c')) := by
  have hnb : ¬ IsB w b := h.blk.notB (by decide)
  have f1 : Fr (fun x => x = b) w (w.setCell ⟨b, 1, none⟩ (.slice A' ps'.length c')) := (Fr.refl (fun x => x = b) _).setCell (p := ⟨b, 1, none⟩) (.inl (show b = b from rfl)) hnb _
  refine ⟨⟨h.hS, h.hb, by simpa using h.blk.set 1 (.slice A' ps'.length c'), hr.otherBlk h.blk (by decide) f1, hs.fr f1 (fun x _ hx e => (hx (e ▸ h.hb)).elim), by simpa [World.setCell] using h.lt, h.per, hfew, hsm⟩, f1.mono fun x _ e => h.hS x (e ▸ h.hb)⟩

theorem refLogDrop_B {L : Lg} {m : Nat} (h : RlogO S H w b A c ps L.ref) (hinv : L.inv m) (hm : m ≤ 1048576) (n : Int) :
    Calls Tryd.prog 98 #[.pointer (some ⟨b, 0, none⟩), .int .i64 n] w (RlogDid S w (.pointer (some ⟨b, 0, none⟩)) ((L.drop n).1.ref, (L.drop n).2)) := by
  have hsf := refSafe_B h hinv hm
  have hsg := hinv.segs
  have hdn := hinv.down
  obtain ⟨per, gs, dn⟩ := L
  obtain ⟨c0, c1, c2, z1, z2, q1, q2, q3, q4⟩ := h.facts
  clear q1
  cases dn
  · generalize hsv : Lg.safe ⟨per, gs, false⟩ = sf at *
    by_cases hns : (sf : Int) < n
    · have e : Lg.drop ⟨per, gs, false⟩ n = (⟨per, gs, false⟩, 2) := by unfold Lg.drop; rw [hsv]; simp [hns]
      have E := Lib.hid e
      clear e hsv
      go_enter Tryd.func98, Tryd.ntmps98
      go_wp2_with (go_at_call 55; refine hsf.mono ?_; rintro e w1 ⟨rfl, hb1⟩)
      go_ret
      rw [E.out]
      have h1 := h.below hb1
      exact ⟨rfl, ⟨_, _, _, _, _, rfl, h1.mono (S' := Up S w w1) (fun _ => .inl) (Up.lt h.lt hb1.size)⟩, Fr.of_below hb1⟩
    · have e : Lg.drop ⟨per, gs, false⟩ n = (⟨per, dropS gs n, false⟩, 0) := by unfold Lg.drop; rw [hsv]; simp [hns]
      have E := Lib.hid e
      clear e hsv
      simp only at hsg hdn
      have hall : ∀ g ∈ gs, g.inv per m ∧ g.d.down = false := fun g hg => ⟨hsg g hg, hdn g hg⟩
      clear hsg hdn
      go_enter Tryd.func98, Tryd.ntmps98
      go_wp2_with (go_at_call 55; refine hsf.mono ?_; rintro e w1 ⟨rfl, hb1⟩)
      have h1 : RlogO (Up S w w1) H w1 b A c ps ⟨per, gs.map (fun g => g.d.ref), false⟩ := (h.below hb1).mono (fun _ => .inl) (Up.lt h.lt hb1.size)
      go_loopw [5] (fun _ wr => ∃ (A' : Option Addr) (c' : Nat) (ps' : List Nat) (gs' : List Sg), RlogO (Up S w wr) H wr b A' c' ps' ⟨per, gs'.map (fun g => g.d.ref), false⟩ ∧ dropS gs n = dropS gs' n ∧ Fr S w wr ∧ (∀ g ∈ gs', g.inv per m ∧ g.d.down = false)) (fun _ wr => segsIn wr b)
      case atStart => exact ⟨A, c, ps, gs, h1, rfl, Fr.of_below hb1, hall⟩
      case round =>
        obtain ⟨A', c', ps', gs', ho, hds, hf, hal'⟩ := hrel
        obtain ⟨c0', c1', c2', z1', z2', q1, q2', q3', q4'⟩ := ho.facts
        have HI := Lib.hid (show segsIn wr b = ps'.length by unfold segsIn; rw [c1'])
        have HD := Lib.hid hds
        have HQ := Lib.hid (show ps'.length = gs'.length by rw [q1]; simp)
        clear hds q1
        by_cases hl : ps'.length ≤ 1
        · have hl' : ¬ (1 : Int) < (ps'.length : Int) := by omega
          go_wp2
          go_ret
          rw [E.out]
          have e1 : dropS gs n = gs' := by
            rw [HD.out]
            have := HQ.out
            match gs', this with
            | [], _ => rfl
            | [g], _ => rfl
            | _ :: _ :: _, h => simp at h; omega
          rw [e1]
          exact ⟨rfl, ⟨_, _, _, _, _, rfl, ho⟩, hf⟩
        · have hl' : (1 : Int) < (ps'.length : Int) := by omega
          obtain ⟨g0, g, t, rfl⟩ : ∃ g0 g t, gs' = g0 :: g :: t := by
            have := HQ.out
            match gs', this with
            | [], h => rw [List.length_nil] at h; omega
            | [g], h => rw [List.length_singleton] at h; omega
            | g0 :: g :: t, _ => exact ⟨g0, g, t, rfl⟩
          obtain ⟨hgi, hgd⟩ := hal' g (by simp)
          obtain ⟨p, hp⟩ : ∃ p, ps'[1]? = some p := ⟨_, List.getElem?_eq_getElem (by omega)⟩
          obtain ⟨ga, oa, hA', ca⟩ := ho.ptrAt hp
          obtain ⟨Sd, A1, c1'', A2, c2'', href, hSd, -⟩ := ho.disk hp (R := g.d.ref) rfl
          have hsm := ho.small g.d.ref (by simp)
          have hfw := ho.few
          have hsmA := ho.small
          have hac := refAll_B href hsm
          have hl5 : g.d.ref.all.length ≤ 4194304 := by rw [Rk.all, List.length_append]; exact hsm
          have HA := Lib.hid hA'
          subst hA'
          clear href hp
          by_cases hbn : (g.base : Int) ≤ n
          · have k1 : (1 : Int) ≤ (ps'.length : Int) := by omega
            have k2 : (1 : Int) ≤ (c' : Int) := by omega
            have k3 : ¬ c' = 1 := by omega
            go_wp2_with (first
              | (go_at_call 102; refine hac.mono ?_; rintro e w2 ⟨A3, c3, rfl, ho3, hc3, hm3, hb3⟩; have hpa := parse_up hgi (by omega) hgd hc3 hl5 ((Own.of_row' ho3).rd _); clear hac)
              | (go_at_call 101; refine hpa.mono ?_; rintro e w3 ⟨R3, cr3, vals3, rfl, -, -, hb4⟩; clear hpa; have hb5 := hb3.trans (hb4.mono hb3.size); have ho5 := ho.below hb5; obtain ⟨k0', k1', k2', k3', k4', -, -, -, -⟩ := ho5.facts))
            go_roundw
            case rel =>
              obtain ⟨p0, ps2, rfl⟩ : ∃ p0 ps2, ps' = p0 :: ps2 := by
                match ps', hl with
                | [], h => simp at h
                | p0 :: ps2, _ => exact ⟨p0, ps2, rfl⟩
              rw [List.length_cons, Nat.add_sub_cancel]
              have hrow : Row H w3 TPr (.slice (some ⟨ga, oa + 1, none⟩) ps2.length (c' - 1)) (ps2.map ptr) := by
                obtain ⟨g1, o1, c1', e, hc1, hr⟩ := ho5.row.drop (n := 1) (by rw [List.length_map]; omega)
                simp only [Value.slice.injEq, Option.some.injEq, Addr.mk.injEq, and_true] at e
                obtain ⟨⟨rfl, rfl⟩, -, rfl⟩ := e
                simpa using hr
              obtain ⟨ho2, hf2⟩ := ho5.put hrow ho5.disks.tail (by simp at hfw ⊢; omega) (fun R hR => hsmA R (List.mem_cons_of_mem _ hR))
              have hsz : (w3.setCell ⟨b, 1, none⟩ (.slice (some ⟨ga, oa + 1, none⟩) ps2.length (c' - 1))).heap.size = w3.heap.size := by simp [World.setCell]
              have hs3 := hb5.size
              refine ⟨_, _, ps2, _, ho2.mono (fun x hx => hx.imp_right (fun h => ⟨h.1, by rw [hsz]; omega⟩)) (fun x hx => hx.elim (fun hx => ho2.lt x (.inl hx)) (fun h => h.2)), ?_, (hf.trans' (S' := Non) (Fr.of_below hb5) (fun _ _ h => h.elim)).trans' hf2 (fun x hb hx => hx.elim id (fun h => by omega)), fun x hx => hal' x (List.mem_cons_of_mem _ hx)⟩
              rw [HD.out, dropS, if_pos hbn]
            case measure =>
              have e2 : segsIn (w3.setCell ⟨b, 1, none⟩ (.slice (some ⟨ga, oa + 1, none⟩) (ps'.length - 1) (c' - 1))) b = ps'.length - 1 := by
                unfold segsIn
                have := (ho5.blk.set 1 (.slice (some ⟨ga, oa + 1, none⟩) (ps'.length - 1) (c' - 1))).cell 1 (v := .slice (some ⟨ga, oa + 1, none⟩) (ps'.length - 1) (c' - 1)) (by simp)
                rw [this]
              rw [e2, HI.out]
              omega
          · go_wp2_with (first
              | (go_at_call 102; refine hac.mono ?_; rintro e w2 ⟨A3, c3, rfl, ho3, hc3, hm3, hb3⟩; have hpa := parse_up hgi (by omega) hgd hc3 hl5 ((Own.of_row' ho3).rd _); clear hac)
              | (go_at_call 101; refine hpa.mono ?_; rintro e w3 ⟨R3, cr3, vals3, rfl, -, -, hb4⟩; clear hpa; have hb5 := hb3.trans (hb4.mono hb3.size); have ho5 := ho.below hb5))
            go_ret
            rw [E.out]
            have e1 : dropS gs n = g0 :: g :: t := by rw [HD.out, dropS, if_neg (show ¬ (g.base : Int) ≤ n by omega)]
            rw [e1]
            have hs3 := hb5.size
            have hs0 := hf.size
            exact ⟨rfl, ⟨_, _, _, _, _, rfl, ho5.mono (fun x hx => hx.imp_right (fun h => ⟨h.1, by omega⟩)) (fun x hx => hx.elim (fun hx => ho5.lt x (.inl hx)) (fun h => h.2))⟩, hf.trans' (S' := Non) (Fr.of_below hb5) (fun _ _ h => h.elim)⟩
  · have e : Lg.drop ⟨per, gs, true⟩ n = (⟨per, gs, true⟩, 10) := by unfold Lg.drop; simp
    have E := Lib.hid e
    clear e hsf
    go_enter Tryd.func98, Tryd.ntmps98
    go_wp2
    go_ret
    rw [E.out]
    exact ⟨rfl, h.same, Fr.refl _ _⟩
end
end Go.Proofs.YtediidajdpdeiaaDoor
