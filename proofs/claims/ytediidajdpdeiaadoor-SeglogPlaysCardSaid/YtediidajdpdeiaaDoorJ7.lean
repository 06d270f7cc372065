/- The document's Crash: the walk. -/
import Derived.Test.YtediidajdpdeiaaDoorJ6
import Derived.Test.YtediidajdpdeiaaDoorJ4
import Derived.Test.YtediidajdpdeiaaDoorJ0
import Derived.RangeFuncNested
import Derived.RangeFuncBound
import Derived.RangeFuncCalls
import Derived.RangeFuncLeaves
import Derived.OrdersIn
import Derived.OwnWalkIn
import Derived.Test.YtediidajdpdeiaaDoorJ1
import Derived.Shelf.Abstract
import Derived.Shelf.RegionOpen
import Derived.WalkKit
import Derived.TacticsInMore
import Derived.LoopNIn
import Derived.LoopIn
import Derived.Laws.ResultCell

namespace Go.Proofs.YtediidajdpdeiaaDoor
open Go.RowKit
set_option maxRecDepth 100000

set_option maxHeartbeats 1000000 in
theorem refCrash_B {S : Nat → Prop} {w : World} {b : Nat} {A1 A2 : Option Addr} {c1 c2 : Nat} {R : Rk} (h : RefAt S w b A1 c1 A2 c2 R) (keep flip : Int) (hk63 : keep ≤ 9223372036854775807) (hf63 : flip ≤ 9223372036854775807) (hk0 : -9223372036854775808 ≤ keep) (hf0 : -9223372036854775808 ≤ flip) (hsz : R.rest.length ≤ 4194304) :
    Calls Tryd.prog 125 #[.pointer (some ⟨b, 0, none⟩), .int .i64 keep, .int .i64 flip] w (RefDid S w (.pointer (some ⟨b, 0, none⟩)) (R.crash keep flip)) := by
  obtain ⟨kept, rest, dn⟩ := R
  obtain ⟨d0, d1, d2, z0, z1, z2, hb, hc1, hc2, hok⟩ := h.facts
  simp only at hsz
  cases dn
  · by_cases hn : keep < 0
    · have e : (Rk.crash ⟨kept, rest, false⟩ keep flip) = (⟨kept, rest, false⟩, 2) := by simp [Rk.crash, hn]
      have H := Lib.hid e
      clear e
      go_enter Tryd.func125, Tryd.ntmps125
      go_wp2
      go_ret
      rw [H.out]
      exact ⟨rfl, h.same, Fr.refl _ _⟩
    · obtain ⟨kn, rfl⟩ : ∃ m : Nat, keep = m := ⟨keep.toNat, by omega⟩
      have e : (Rk.crash ⟨kept, rest, false⟩ kn flip) = (⟨kept, torn rest kn flip, true⟩, 0) := by simp [Rk.crash]
      have H := Lib.hid e
      clear e
      have F0 : Fr S w (w.setCell ⟨b, 2, none⟩ (.bool true)) := (Fr.refl S w).setCell (p := ⟨b, 2, none⟩) (.inl h.inS) h.notB _
      have h0 : RefAt S (w.setCell ⟨b, 2, none⟩ (.bool true)) b A1 c1 A2 c2 ⟨kept, rest, true⟩ :=
        ⟨by simpa using h.blk.set 2 (.bool true), h.own1.fr F0, h.own2.fr F0, h.inS, by simpa [World.setCell] using h.lt, hc1, hc2, hok⟩
      have hj := join_B (w.setCell ⟨b, 2, none⟩ (.bool true)) A2 none rest [] c2 0 (h0.own2.rd Non) (Rd.nil _ _ _) (by simp; omega)
      simp only [List.length_nil, List.append_nil] at hj
      obtain ⟨l, hl⟩ : ∃ l, rest.take kn = l := ⟨_, rfl⟩
      obtain ⟨n, hn1⟩ : ∃ n, l.length = n := ⟨_, rfl⟩
      have hn2 : n = min kn rest.length := by rw [← hn1, ← hl, List.length_take]
      have htorn : torn rest kn flip = upto l flip (8 * n) := by
        rw [← hn1, upto_end, torn, Int.toNat_natCast, hl]
      have HL := Lib.hid hl
      have HN := Lib.hid hn1
      have HT := Lib.hid htorn
      clear hl hn1 htorn hn
      go_enter Tryd.func125, Tryd.ntmps125
      by_cases hkl : kn < rest.length
      · have k1 : (0 : Int) ≤ (kn : Int) := by omega
        have hN : n = kn := by omega
        clear hn2
        subst hN
        go_wp2_with (go_at_call 134; refine hj.mono ?_; rintro e w1 ⟨A3, c3, rfl, ho3, hc3, hm3, hb3⟩; have k2 : (n : Int) ≤ (c3 : Int) := by omega)
        generalize hw0 : w.setCell ⟨b, 2, none⟩ (.bool true) = w0 at *
        have ho := ownsRow_take ho3 (n' := n) (by omega)
        have hlt : rest.take n = l := HL.out
        rw [hlt] at ho
        clear ho3 hlt d0 d1 d2 z0 z1 z2 hj
        have hcn : n ≤ c3 := by omega
        have hn4 : n ≤ 4194304 := by omega
        go_loopw [8] (fun i wr => ∃ p : Nat, p ≤ n ∧ i = .int .i64 p ∧ wr.ownsRow w0.heap.size TB 1 (.slice A3 n c3) n ((upto l flip (8 * p)).map byteV) ∧ Below w0.heap.size w0 wr) (fun i _ => n - (intOf i).toNat)
        case atStart =>
          refine ⟨0, by omega, rfl, ?_, hb3⟩
          have : upto l flip (8 * 0) = l := by unfold upto; rw [if_neg (by omega)]
          rw [this]; exact ho
        case round =>
          obtain ⟨p, hp, rfl, hop, hbp⟩ := hrel
          clear ho hb3
          by_cases hpn : p < n
          · have hpn' : (p : Int) < ((n : Nat) : Int) := by omega
            go_wp2
            go_loopw [9] (fun i wr => ∃ q : Nat, q ≤ 8 ∧ i = .int .i64 q ∧ wr.ownsRow w0.heap.size TB 1 (.slice A3 n c3) n ((upto l flip (8 * p + q)).map byteV) ∧ Below w0.heap.size w0 wr) (fun i _ => 8 - (intOf i).toNat)
            case atStart => exact ⟨0, by omega, rfl, hop, hbp⟩
            case round =>
              obtain ⟨q, hq, rfl, hoq, hbq⟩ := hrel
              clear hop hbp
              by_cases hq8 : q < 8
              · by_cases hfl : flip = (8 * p + q : Nat)
                · subst hfl
                  obtain ⟨x, hx⟩ : ∃ x, l[p]? = some x := ⟨_, List.getElem?_eq_getElem (by rw [HN.out]; exact hpn)⟩
                  obtain ⟨u1, u2⟩ := upto_yes l p q x hq8 hx
                  have U2 := Lib.hid u2
                  rw [u1] at hoq
                  obtain ⟨g, cap, hv, hg1, hg2⟩ := hoq.form (by omega)
                  obtain ⟨rfl, rfl⟩ : A3 = some ⟨g, 0, none⟩ ∧ c3 = cap := by injection hv with h1 _ h2; exact ⟨h1, h2⟩
                  have hxc : wr.cell? ⟨g, p, none⟩ = some (.int .u8 (x.toNat : Int)) := by
                    rw [hoq.cellAt _ (by omega), List.getElem?_map, hx]; rfl
                  have hxf := hoq.frozenAt p
                  have hst := (hoq.stored p (byteV (turnByte x q))).1
                  rw [← List.map_set] at hst
                  have eb := rbits x q hq8
                  rw [Nat.min_eq_left (by omega)] at eb
                  have hB := (hbq.setCell (p := ⟨g, p, none⟩) hg1 (byteV (turnByte x q)))
                  have hp0 : (0 : Int) ≤ (p : Int) := by omega
                  have hq0 : (0 : Int) ≤ (q : Int) := by omega
                  have hq1 : (q : Int) < 8 := by omega
                  have e8 : (((8 * p + q : Nat) : Int) == 8 * (p : Int) + (q : Int)) = true := by simp
                  have e9 : ((8 * p + q : Nat) : Int) = 8 * (p : Int) + (q : Int) := by omega
                  clear hv u1 u2 hx
                  go_wp2
                  clear e8 e9
                  refine wp_region_T #[[], [], [], [], [], [], [], [], [5], [5], [5]] [5] (fun w' => w'.cell? ⟨g, p, none⟩ = some (.int .u8 (x.toNat : Int)) ∧ True) 11 rfl (by kernel_rfl) ?_
                  (refine wpAnyT_free (i := 0) rfl (by kernel_rfl) rfl (fun _ _ _ h => h) (by kernel_rfl) (fun _ => by go_simp; try rfl) ?_; (try simp only [Act.put, List.setIfInBounds_toArray, List.set_cons_zero, List.set_cons_succ]))
                  (refine wpAnyT_free (i := 1) rfl (by kernel_rfl) rfl (fun _ _ _ h => h) (by kernel_rfl) (fun _ => by go_simp; try rfl) ?_; (try simp only [Act.put, List.setIfInBounds_toArray, List.set_cons_zero, List.set_cons_succ]))
                  (refine wpAnyT_free (i := 2) rfl (by kernel_rfl) rfl (fun _ _ _ h => h) (by kernel_rfl) (fun _ => by go_simp; try rfl) ?_; (try simp only [Act.put, List.setIfInBounds_toArray, List.set_cons_zero, List.set_cons_succ]))
                  (refine wpAnyT_free (i := 3) rfl (by kernel_rfl) rfl (fun _ _ _ h => h) (by kernel_rfl) (fun _ => by go_simp; try rfl) ?_; (try simp only [Act.put, List.setIfInBounds_toArray, List.set_cons_zero, List.set_cons_succ]))
                  (refine wpAnyT_free (i := 4) rfl (by kernel_rfl) rfl (fun _ _ _ h => h) (by kernel_rfl) (fun _ => by go_simp; try rfl) ?_; (try simp only [Act.put, List.setIfInBounds_toArray, List.set_cons_zero, List.set_cons_succ]))
                  (refine wpAnyT_read (i := 5) rfl (by kernel_rfl) rfl (fun _ _ _ h => h) (by kernel_rfl) (⟨hxc, trivial⟩) (fun w hS_ => by obtain ⟨s_1, s_2⟩ := hS_; go_simp; try rfl) ?_; (try simp only [Act.put, List.setIfInBounds_toArray, List.set_cons_zero, List.set_cons_succ]))
                  (refine wpAnyT_free (i := 6) rfl (by kernel_rfl) rfl (fun _ _ _ h => h) (by kernel_rfl) (fun _ => by go_simp; try rfl) ?_; (try simp only [Act.put, List.setIfInBounds_toArray, List.set_cons_zero, List.set_cons_succ]))
                  (refine wpAnyT_free (i := 7) rfl (by kernel_rfl) rfl (fun _ _ _ h => h) (by kernel_rfl) (fun _ => by go_simp; try rfl) ?_; (try simp only [Act.put, List.setIfInBounds_toArray, List.set_cons_zero, List.set_cons_succ]))
                  (refine wpAnyT_free (i := 8) rfl (by kernel_rfl) rfl (fun _ _ _ h => h) (by kernel_rfl) (fun _ => by go_simp; try rfl) ?_; (try simp only [Act.put, List.setIfInBounds_toArray, List.set_cons_zero, List.set_cons_succ]))
                  (refine wpAnyT_free (i := 9) rfl (by kernel_rfl) rfl (fun _ _ _ h => h) (by kernel_rfl) (fun _ => by go_simp; try rfl) ?_; (try simp only [Act.put, List.setIfInBounds_toArray, List.set_cons_zero, List.set_cons_succ]))
                  refine wpAnyT_sink (i := 10) rfl (by kernel_rfl) rfl (by kernel_rfl) ?_
                  intro K_ hK_
                  go_wp2
                  (try (refine hK_ _ _ ?_; clear hK_ K_))
                  (try simp only [Act.put, List.setIfInBounds_toArray, List.set_cons_zero, List.set_cons_succ])
                  refine wpAnyT_done (by kernel_rfl) ?_ _
                  rw [eb]
                  go_wp2
                  go_roundw
                  case rel => exact ⟨q + 1, by omega, by go_num, by rw [← Nat.add_assoc, U2.out]; exact hst, hB.drew⟩
                  case measure => simp [intOf]; omega
                · have e9 : ¬ flip = 8 * (p : Int) + (q : Int) := by omega
                  have U2 := Lib.hid (upto_no l flip (8 * p + q) hfl)
                  have hq1 : (q : Int) < 8 := by omega
                  go_wp2
                  go_roundw
                  case rel => exact ⟨q + 1, by omega, by go_num, by rw [← Nat.add_assoc, U2.out]; exact hoq, hbq⟩
                  case measure => simp [intOf]; omega
              · obtain rfl : q = 8 := by omega
                go_wp2
                go_roundw
                case rel => exact ⟨p + 1, by omega, by go_num, by rw [Nat.mul_add]; exact hoq, hbq⟩
                case measure => simp [intOf]; omega
          · obtain rfl : p = n := by omega
            have h2 := h0.below hbp
            obtain ⟨d0', d1', d2', z0', z1', z2', hb', -⟩ := h2.facts
            go_wp2
            go_ret
            rw [H.out, HT.out]
            have lu : (upto l flip (8 * p)).length = p := by rw [length_upto, HN.out]
            have F1 : Fr S w (wr.setCell ⟨b, 1, none⟩ (.slice A3 p c3)) := (F0.trans (S' := Non) (Fr.of_below hbp) (fun _ h => h.elim)).setCell (p := ⟨b, 1, none⟩) (.inl h.inS) h.notB _
            have F2 : Fr S wr (wr.setCell ⟨b, 1, none⟩ (.slice A3 p c3)) := (Fr.refl S wr).setCell (p := ⟨b, 1, none⟩) (.inl h.inS) h2.notB _
            refine ⟨rfl, h.turned F1 (A1' := A1) (c1' := c1) (A2' := A3) (c2' := c3) (R' := ⟨kept, upto l flip (8 * p), true⟩) (by rw [lu]; simpa using h2.blk.set 1 (.slice A3 p c3)) ((h2.own1.fr F2).mono fun _ => .inl) (((Own.of_row hop lu.symm).fr F2).up fun x hx => .inr (Nat.le_trans F0.size hx)) hc1 (by rw [lu]; omega) ?_, F1⟩
            show kept.length + (upto l flip (8 * p)).length ≤ _
            rw [lu]; omega
      · have k1 : (0 : Int) ≤ (kn : Int) := by omega
        have hN : n = rest.length := by omega
        clear hn2
        subst hN
        have k3 : ¬ (kn : Int) < (rest.length : Int) := by omega
        go_wp2_with (go_at_call 134; refine hj.mono ?_; rintro e w1 ⟨A3, c3, rfl, ho3, hc3, hm3, hb3⟩)
        generalize hw0 : w.setCell ⟨b, 2, none⟩ (.bool true) = w0 at *
        have ho := ownsRow_take ho3 (n' := rest.length) (by omega)
        have hlt : rest.take rest.length = l := by rw [← HL.out, List.take_of_length_le (Nat.le_refl _), List.take_of_length_le (by omega)]
        rw [hlt] at ho
        clear ho3 hlt d0 d1 d2 z0 z1 z2 hj
        have hcn : rest.length ≤ c3 := by omega
        have hn4 : rest.length ≤ 4194304 := by omega
        go_loopw [8] (fun i wr => ∃ p : Nat, p ≤ rest.length ∧ i = .int .i64 p ∧ wr.ownsRow w0.heap.size TB 1 (.slice A3 rest.length c3) rest.length ((upto l flip (8 * p)).map byteV) ∧ Below w0.heap.size w0 wr) (fun i _ => rest.length - (intOf i).toNat)
        case atStart =>
          refine ⟨0, by omega, rfl, ?_, hb3⟩
          have : upto l flip (8 * 0) = l := by unfold upto; rw [if_neg (by omega)]
          rw [this]; exact ho
        case round =>
          obtain ⟨p, hp, rfl, hop, hbp⟩ := hrel
          clear ho hb3
          by_cases hpn : p < rest.length
          · have hpn' : (p : Int) < ((rest.length : Nat) : Int) := by omega
            go_wp2
            go_loopw [9] (fun i wr => ∃ q : Nat, q ≤ 8 ∧ i = .int .i64 q ∧ wr.ownsRow w0.heap.size TB 1 (.slice A3 rest.length c3) rest.length ((upto l flip (8 * p + q)).map byteV) ∧ Below w0.heap.size w0 wr) (fun i _ => 8 - (intOf i).toNat)
            case atStart => exact ⟨0, by omega, rfl, hop, hbp⟩
            case round =>
              obtain ⟨q, hq, rfl, hoq, hbq⟩ := hrel
              clear hop hbp
              by_cases hq8 : q < 8
              · by_cases hfl : flip = (8 * p + q : Nat)
                · subst hfl
                  obtain ⟨x, hx⟩ : ∃ x, l[p]? = some x := ⟨_, List.getElem?_eq_getElem (by rw [HN.out]; exact hpn)⟩
                  obtain ⟨u1, u2⟩ := upto_yes l p q x hq8 hx
                  have U2 := Lib.hid u2
                  rw [u1] at hoq
                  obtain ⟨g, cap, hv, hg1, hg2⟩ := hoq.form (by omega)
                  obtain ⟨rfl, rfl⟩ : A3 = some ⟨g, 0, none⟩ ∧ c3 = cap := by injection hv with h1 _ h2; exact ⟨h1, h2⟩
                  have hxc : wr.cell? ⟨g, p, none⟩ = some (.int .u8 (x.toNat : Int)) := by
                    rw [hoq.cellAt _ (by omega), List.getElem?_map, hx]; rfl
                  have hxf := hoq.frozenAt p
                  have hst := (hoq.stored p (byteV (turnByte x q))).1
                  rw [← List.map_set] at hst
                  have eb := rbits x q hq8
                  rw [Nat.min_eq_left (by omega)] at eb
                  have hB := (hbq.setCell (p := ⟨g, p, none⟩) hg1 (byteV (turnByte x q)))
                  have hp0 : (0 : Int) ≤ (p : Int) := by omega
                  have hq0 : (0 : Int) ≤ (q : Int) := by omega
                  have hq1 : (q : Int) < 8 := by omega
                  have e8 : (((8 * p + q : Nat) : Int) == 8 * (p : Int) + (q : Int)) = true := by simp
                  have e9 : ((8 * p + q : Nat) : Int) = 8 * (p : Int) + (q : Int) := by omega
                  clear hv u1 u2 hx
                  go_wp2
                  clear e8 e9
                  refine wp_region_T #[[], [], [], [], [], [], [], [], [5], [5], [5]] [5] (fun w' => w'.cell? ⟨g, p, none⟩ = some (.int .u8 (x.toNat : Int)) ∧ True) 11 rfl (by kernel_rfl) ?_
                  (refine wpAnyT_free (i := 0) rfl (by kernel_rfl) rfl (fun _ _ _ h => h) (by kernel_rfl) (fun _ => by go_simp; try rfl) ?_; (try simp only [Act.put, List.setIfInBounds_toArray, List.set_cons_zero, List.set_cons_succ]))
                  (refine wpAnyT_free (i := 1) rfl (by kernel_rfl) rfl (fun _ _ _ h => h) (by kernel_rfl) (fun _ => by go_simp; try rfl) ?_; (try simp only [Act.put, List.setIfInBounds_toArray, List.set_cons_zero, List.set_cons_succ]))
                  (refine wpAnyT_free (i := 2) rfl (by kernel_rfl) rfl (fun _ _ _ h => h) (by kernel_rfl) (fun _ => by go_simp; try rfl) ?_; (try simp only [Act.put, List.setIfInBounds_toArray, List.set_cons_zero, List.set_cons_succ]))
                  (refine wpAnyT_free (i := 3) rfl (by kernel_rfl) rfl (fun _ _ _ h => h) (by kernel_rfl) (fun _ => by go_simp; try rfl) ?_; (try simp only [Act.put, List.setIfInBounds_toArray, List.set_cons_zero, List.set_cons_succ]))
                  (refine wpAnyT_free (i := 4) rfl (by kernel_rfl) rfl (fun _ _ _ h => h) (by kernel_rfl) (fun _ => by go_simp; try rfl) ?_; (try simp only [Act.put, List.setIfInBounds_toArray, List.set_cons_zero, List.set_cons_succ]))
                  (refine wpAnyT_read (i := 5) rfl (by kernel_rfl) rfl (fun _ _ _ h => h) (by kernel_rfl) (⟨hxc, trivial⟩) (fun w hS_ => by obtain ⟨s_1, s_2⟩ := hS_; go_simp; try rfl) ?_; (try simp only [Act.put, List.setIfInBounds_toArray, List.set_cons_zero, List.set_cons_succ]))
                  (refine wpAnyT_free (i := 6) rfl (by kernel_rfl) rfl (fun _ _ _ h => h) (by kernel_rfl) (fun _ => by go_simp; try rfl) ?_; (try simp only [Act.put, List.setIfInBounds_toArray, List.set_cons_zero, List.set_cons_succ]))
                  (refine wpAnyT_free (i := 7) rfl (by kernel_rfl) rfl (fun _ _ _ h => h) (by kernel_rfl) (fun _ => by go_simp; try rfl) ?_; (try simp only [Act.put, List.setIfInBounds_toArray, List.set_cons_zero, List.set_cons_succ]))
                  (refine wpAnyT_free (i := 8) rfl (by kernel_rfl) rfl (fun _ _ _ h => h) (by kernel_rfl) (fun _ => by go_simp; try rfl) ?_; (try simp only [Act.put, List.setIfInBounds_toArray, List.set_cons_zero, List.set_cons_succ]))
                  (refine wpAnyT_free (i := 9) rfl (by kernel_rfl) rfl (fun _ _ _ h => h) (by kernel_rfl) (fun _ => by go_simp; try rfl) ?_; (try simp only [Act.put, List.setIfInBounds_toArray, List.set_cons_zero, List.set_cons_succ]))
                  refine wpAnyT_sink (i := 10) rfl (by kernel_rfl) rfl (by kernel_rfl) ?_
                  intro K_ hK_
                  go_wp2
                  (try (refine hK_ _ _ ?_; clear hK_ K_))
                  (try simp only [Act.put, List.setIfInBounds_toArray, List.set_cons_zero, List.set_cons_succ])
                  refine wpAnyT_done (by kernel_rfl) ?_ _
                  rw [eb]
                  go_wp2
                  go_roundw
                  case rel => exact ⟨q + 1, by omega, by go_num, by rw [← Nat.add_assoc, U2.out]; exact hst, hB.drew⟩
                  case measure => simp [intOf]; omega
                · have e9 : ¬ flip = 8 * (p : Int) + (q : Int) := by omega
                  have U2 := Lib.hid (upto_no l flip (8 * p + q) hfl)
                  have hq1 : (q : Int) < 8 := by omega
                  go_wp2
                  go_roundw
                  case rel => exact ⟨q + 1, by omega, by go_num, by rw [← Nat.add_assoc, U2.out]; exact hoq, hbq⟩
                  case measure => simp [intOf]; omega
              · obtain rfl : q = 8 := by omega
                go_wp2
                go_roundw
                case rel => exact ⟨p + 1, by omega, by go_num, by rw [Nat.mul_add]; exact hoq, hbq⟩
                case measure => simp [intOf]; omega
          · obtain rfl : p = rest.length := by omega
            have h2 := h0.below hbp
            obtain ⟨d0', d1', d2', z0', z1', z2', hb', -⟩ := h2.facts
            go_wp2
            go_ret
            rw [H.out, HT.out]
            have lu : (upto l flip (8 * rest.length)).length = rest.length := by rw [length_upto, HN.out]
            have F1 : Fr S w (wr.setCell ⟨b, 1, none⟩ (.slice A3 rest.length c3)) := (F0.trans (S' := Non) (Fr.of_below hbp) (fun _ h => h.elim)).setCell (p := ⟨b, 1, none⟩) (.inl h.inS) h.notB _
            have F2 : Fr S wr (wr.setCell ⟨b, 1, none⟩ (.slice A3 rest.length c3)) := (Fr.refl S wr).setCell (p := ⟨b, 1, none⟩) (.inl h.inS) h2.notB _
            refine ⟨rfl, h.turned F1 (A1' := A1) (c1' := c1) (A2' := A3) (c2' := c3) (R' := ⟨kept, upto l flip (8 * rest.length), true⟩) (by rw [lu]; simpa using h2.blk.set 1 (.slice A3 rest.length c3)) ((h2.own1.fr F2).mono fun _ => .inl) (((Own.of_row hop lu.symm).fr F2).up fun x hx => .inr (Nat.le_trans F0.size hx)) hc1 (by rw [lu]; omega) ?_, F1⟩
            show kept.length + (upto l flip (8 * rest.length)).length ≤ _
            rw [lu]; omega
  · have e : (Rk.crash ⟨kept, rest, true⟩ keep flip) = (⟨kept, rest, true⟩, 10) := by simp [Rk.crash]
    have H := Lib.hid e
    clear e
    go_enter Tryd.func125, Tryd.ntmps125
    go_wp2
    go_ret
    rw [H.out]
    exact ⟨rfl, h.same, Fr.refl _ _⟩
end Go.Proofs.YtediidajdpdeiaaDoor

/- The document's log in memory (layer 7): its disks, each for itself. -/
namespace Go.Proofs.YtediidajdpdeiaaDoor
open Go.RowKit CrcM
set_option maxRecDepth 100000

/-- block b is a disk of the document's -/
def RefB (S : Nat → Prop) (w : World) (b : Nat) (R : Rk) : Prop := ∃ A1 c1 A2 c2, RefAt S w b A1 c1 A2 c2 R
theorem RefB.fr {S S' : Nat → Prop} {w w' : World} {b : Nat} {R : Rk} (h : RefB S w b R) (f : Fr S' w w') (hd : ∀ x, S x → S' x → IsB w x) : RefB S w' b R := by
  obtain ⟨A1, c1, A2, c2, h⟩ := h
  exact ⟨A1, c1, A2, c2, h.fr f hd⟩
theorem RefB.lt {S : Nat → Prop} {w : World} {b : Nat} {R : Rk} (h : RefB S w b R) : ∀ x, S x → x < w.heap.size := by
  obtain ⟨A1, c1, A2, c2, h⟩ := h
  exact h.lt
theorem RefB.mono {S S' : Nat → Prop} {w : World} {b : Nat} {R : Rk} (h : RefB S w b R) (hs : ∀ x, S x → S' x) (hl : ∀ x, S' x → x < w.heap.size) : RefB S' w b R := by
  obtain ⟨A1, c1, A2, c2, h⟩ := h
  exact ⟨A1, c1, A2, c2, h.blk, h.own1.mono hs, h.own2.mono hs, hs _ h.inS, hl, h.cap1, h.cap2, h.ok⟩

/-- blocks ps are the document's disks, each for itself, none in H -/
def Refs (S H : Nat → Prop) (w : World) (ps : List Nat) (gs : List Rk) : Prop :=
  ∃ F : Nat → Nat → Prop, (∀ i x, F i x → S x ∧ ¬ H x ∧ x < w.heap.size) ∧ (∀ i j x, i ≠ j → F i x → F j x → IsB w x) ∧ ps.length = gs.length ∧ ∀ i p g, ps[i]? = some p → gs[i]? = some g → RefB (F i) w p g

section
variable {w w' : World} {S S' H H' : Nat → Prop} {ps : List Nat} {gs : List Rk}
theorem Refs.nil (S H : Nat → Prop) (w : World) : Refs S H w [] [] := ⟨fun _ _ => False, fun _ _ h => h.elim, fun _ _ _ _ h => h.elim, rfl, fun i p g h => by simp at h⟩
theorem Refs.len (h : Refs S H w ps gs) : ps.length = gs.length := h.choose_spec.2.2.1
theorem Refs.fr (h : Refs S H w ps gs) (f : Fr S' w w') (hd : ∀ x, S x → ¬ H x → S' x → IsB w x) : Refs S H w' ps gs := by
  obtain ⟨F, h1, h2, h3, h4⟩ := h
  exact ⟨F, fun i x hx => ⟨(h1 i x hx).1, (h1 i x hx).2.1, Nat.lt_of_lt_of_le (h1 i x hx).2.2 f.size⟩, fun i j x n p q => (h2 i j x n p q).fr f, h3, fun i p g hp hg => (h4 i p g hp hg).fr f fun x p q => hd x (h1 i x p).1 (h1 i x p).2.1 q⟩
theorem Refs.mono (h : Refs S H w ps gs) (hs : ∀ x, x < w.heap.size → S x → S' x) (hh : ∀ x, x < w.heap.size → S x → H' x → H x) : Refs S' H' w ps gs := by
  obtain ⟨F, h1, h2, h3, h4⟩ := h
  exact ⟨F, fun i x hx => ⟨hs x (h1 i x hx).2.2 (h1 i x hx).1, fun k => (h1 i x hx).2.1 (hh x (h1 i x hx).2.2 (h1 i x hx).1 k), (h1 i x hx).2.2⟩, h2, h3, h4⟩
/-- one segment alone, and what becomes of all when it turns -/
theorem Refs.at (h : Refs S H w ps gs) {i p : Nat} {g : Rk} (hp : ps[i]? = some p) (hg : gs[i]? = some g) :
    ∃ Fi : Nat → Prop, (∀ x, Fi x → S x ∧ ¬ H x ∧ x < w.heap.size) ∧ RefB Fi w p g ∧
      ∀ w' p' g', Fr Fi w w' → (∀ x, H x → x < w.heap.size) → RefB (Up Fi w w') w' p' g' → Refs (Up S w w') H w' (ps.set i p') (gs.set i g') := by
  obtain ⟨F, h1, h2, h3, h4⟩ := h
  refine ⟨F i, h1 i, h4 i p g hp hg, fun w' p' g' f hH hs => ?_⟩
  refine ⟨fun j x => (j = i → Up (F i) w w' x) ∧ (j ≠ i → F j x), ?_, ?_, by rw [List.length_set, List.length_set]; exact h3, ?_⟩
  · intro j x hx
    by_cases hj : j = i
    · rcases hx.1 hj with hx | hx
      · exact ⟨.inl (h1 i x hx).1, (h1 i x hx).2.1, Nat.lt_of_lt_of_le (h1 i x hx).2.2 f.size⟩
      · exact ⟨.inr hx, fun k => by have := hH x k; omega, hx.2⟩
    · have hx := hx.2 hj
      exact ⟨.inl (h1 j x hx).1, (h1 j x hx).2.1, Nat.lt_of_lt_of_le (h1 j x hx).2.2 f.size⟩
  · intro j k x hn hj hk
    by_cases h5 : j = i
    · have h6 : k ≠ i := by omega
      have hk := hk.2 h6
      rcases hj.1 h5 with hj | hj
      · exact (h2 i k x (by omega) hj hk).fr f
      · have := (h1 k x hk).2.2; omega
    · have hj := hj.2 h5
      by_cases h6 : k = i
      · rcases hk.1 h6 with hk | hk
        · exact (h2 j i x h5 hj hk).fr f
        · have := (h1 j x hj).2.2; omega
      · exact (h2 j k x hn hj (hk.2 h6)).fr f
  · intro j q g2 hq hg2
    by_cases hji : j = i
    · rcases set_at hq with ⟨_, rfl⟩ | ⟨h, _⟩
      · rcases set_at hg2 with ⟨_, rfl⟩ | ⟨h, _⟩
        · exact hs.mono (fun x hx => ⟨fun _ => hx, fun h => (h hji).elim⟩) (fun x hx => hs.lt x (hx.1 hji))
        · exact (h hji).elim
      · exact (h hji).elim
    · rcases set_at hq with ⟨h, _⟩ | ⟨_, hq⟩
      · exact (hji h).elim
      · rcases set_at hg2 with ⟨h, _⟩ | ⟨_, hg2⟩
        · exact (hji h).elim
        · have := (h4 j q g2 hq hg2).fr f fun x p q => h2 j i x hji p q
          exact this.mono (fun x hx => ⟨fun h => (hji h).elim, fun _ => hx⟩) (fun x hx => this.lt x (hx.2 hji))
/-- one more, of its own -/
theorem Refs.snoc (h : Refs S H w ps gs) (f : Fr S' w w') (hd : ∀ x, S x → ¬ H x → S' x → IsB w x) (hH : ∀ x, H x → x < w.heap.size) {p : Nat} {g : Rk} (hs : RefB (Nw w w') w' p g) : Refs (Up S w w') H w' (ps ++ [p]) (gs ++ [g]) := by
  have h' := h.fr f hd
  obtain ⟨F, h1, h2, h3, h4⟩ := h
  refine ⟨fun j x => (j = ps.length → Nw w w' x) ∧ (j ≠ ps.length → F j x), ?_, ?_, by simp [h3], ?_⟩
  · intro j x hx
    by_cases hj : j = ps.length
    · have hx := hx.1 hj
      exact ⟨.inr hx, fun k => by have := hH x k; have := hx.1; omega, hx.2⟩
    · have hx := hx.2 hj
      exact ⟨.inl (h1 j x hx).1, (h1 j x hx).2.1, Nat.lt_of_lt_of_le (h1 j x hx).2.2 f.size⟩
  · intro j k x hn hj hk
    by_cases h5 : j = ps.length
    · have h6 : k ≠ ps.length := by omega
      have := (h1 k x (hk.2 h6)).2.2
      have := (hj.1 h5).1
      omega
    · by_cases h6 : k = ps.length
      · have := (h1 j x (hj.2 h5)).2.2
        have := (hk.1 h6).1
        omega
      · exact (h2 j k x hn (hj.2 h5) (hk.2 h6)).fr f
  · intro j q g2 hq hg2
    by_cases hj : j = ps.length
    · subst hj
      rw [List.getElem?_append_right (Nat.le_refl _)] at hq
      rw [h3, List.getElem?_append_right (Nat.le_refl _)] at hg2
      simp only [Nat.sub_self, List.getElem?_cons_zero, Option.some.injEq] at hq hg2
      subst hq; subst hg2
      exact hs.mono (fun x hx => ⟨fun _ => hx, fun h => (h rfl).elim⟩) (fun x hx => hs.lt x (hx.1 rfl))
    · have hlt : j < ps.length := by
        have := (List.getElem?_eq_some_iff.1 hq).1
        rw [List.length_append, List.length_singleton] at this
        omega
      rw [List.getElem?_append_left hlt] at hq
      rw [List.getElem?_append_left (by omega)] at hg2
      have := (h4 j q g2 hq hg2).fr f fun x p q => hd x (h1 j x p).1 (h1 j x p).2.1 q
      exact this.mono (fun x hx => ⟨fun h => (hj h).elim, fun _ => hx⟩) (fun x hx => this.lt x (hx.2 hj))
theorem Refs.tail {p : Nat} {g : Rk} (h : Refs S H w (p :: ps) (g :: gs)) : Refs S H w ps gs := by
  obtain ⟨F, h1, h2, h3, h4⟩ := h
  exact ⟨fun j => F (j + 1), fun i => h1 (i + 1), fun i j x n => h2 (i + 1) (j + 1) x (by omega), by simpa using h3, fun i p g hp hg => h4 (i + 1) p g (by simpa using hp) (by simpa using hg)⟩
theorem Refs.take (h : Refs S H w ps gs) (n : Nat) : Refs S H w (ps.take n) (gs.take n) := by
  obtain ⟨F, h1, h2, h3, h4⟩ := h
  refine ⟨F, h1, h2, by simp [h3], fun i p g hp hg => ?_⟩
  rw [List.getElem?_take] at hp hg
  split at hp
  · rename_i hi
    rw [if_pos hi] at hg
    exact h4 i p g hp hg
  · cases hp
end

end Go.Proofs.YtediidajdpdeiaaDoor

/- A range over a function whose rounds are handed what the world holds: my own law, at the wide fence. And: a region of a round by the plain rules. -/
namespace Go.Proofs.YtediidajdpdeiaaDoor
open Go.RowKit

/-- what speaks of cells alone, or of what lies below B -/
abbrev Stays (B : Nat) (I : Nat → World → Prop) : Prop := OwnFrom B I

/-- how a round's body may be left -/
def roundPost (B : Nat) (I : Nat → World → Prop) (Ix : Code → Nat → World → Prop) (k : Nat) (W : World) : Exit → Act → World → Prop
  | .normal, _, W' => KeepsFrom B W W' ∧ I (k + 1) W'
  | .ret, _, W' => KeepsFrom B W W' ∧ Ix .ret (k + 1) W'
  | .exit id, _, W' => KeepsFrom B W W' ∧ Ix (.exit id) (k + 1) W'
  | .goto t, _, W' => KeepsFrom B W W' ∧ Ix (.goto t) (k + 1) W'
  | .panic _, _, _ => False
  | .outgrown, _, _ => False

/-- an iterator's word: rounds are handed what Gv says; S: how many, where all have come -/
def Iterates (P : Program) (gf : Nat) (lb : Array Value) (Gv : Nat → Array Value → World → Prop) (I : Nat → World → Prop) (S : Nat → Prop) (w : World) : Prop :=
  ∀ (n l : Nat) (J Jx : Nat → World → Prop) (W : World), Below w.heap.size w W → (∀ k W, J k W → I k W) → OwnFrom W.heap.size J → 
    (∀ k v W1, J k W1 → Gv k v W1 → YieldAt Fence.wide (n - 1) P l v W1 fun e W' => (e = .returned (.bool true) ∧ J (k + 1) W') ∨ (e = .returned (.bool false) ∧ Jx (k + 1) W')) →
    J 0 W →
    CallsIn Fence.wide n P gf (#[.func (.yield l) #[] #[]] ++ lb) W fun e W' => (∃ v, e = .returned v) ∧ ((∃ k, S k ∧ J k W') ∨ (∃ k, Jx k W'))

theorem wp_rangeFunc_G {P : Program} {g : Operand} {ps : Array Tmp} {assign body : Code} {Q : Exit → Act → World → Prop} {a : Act} {w : World} {n : Nat}
    {gf : Nat} {lb : Array Value} (hg : a.eval g = .func (.func gf) #[] lb) (eg : ∀ args w, (callFunc gf args).run P w = .ok (.enter gf args) w)
    {Gv : Nat → Array Value → World → Prop} {I : Nat → World → Prop} {S : Nat → Prop} (hseq : Iterates P gf lb Gv I S w)
    (hps : ∀ k v W, Gv k v W → v.size = ps.size) (hG : ∀ v, OwnFrom w.heap.size fun k W => Gv k v W)
    (Ix : Code → Nat → World → Prop) (hI : OwnFrom w.heap.size I) (hIx : ∀ c, OwnFrom w.heap.size (Ix c)) (h0 : I 0 w) (a₁ : Array Value → Act)
    (hassign : ∀ (l : Nat) (k : Nat) (v : Array Value) (W : World) (K : Act → World → Prop), Gv k v W → K (a₁ v) W →
      assign.wpIn (Fence.wide.inRound l) n P (Exit.then K (fun _ _ _ => False)) { tmps := (ps.zip v).foldl (fun t (p, v) => t.setIfInBounds p v) a.tmps, defers := [] } W)
    (hbody : ∀ (l : Nat) (k : Nat) (v : Array Value) (W : World), I k W → Gv k v W → body.wpIn (Fence.wide.inRound l) n P (roundPost w.heap.size I Ix k W) (a₁ v) W)
    (hdone : ∀ (D k : Nat) (W : World), w.heap.size ≤ D → S k → I k W → W.heap[D]? = some (.deferred (some [])) → Q .normal { a with defers := { target := .collected D, args := #[] } :: a.defers } W)
    (hstop : ∀ (D : Nat) (c : Code) (k : Nat) (W : World), w.heap.size ≤ D → Ix c k W → W.heap[D]? = some (.deferred (some [])) → c.wpIn Fence.wide (n + 2) P Q { a with defers := { target := .collected D, args := #[] } :: a.defers } W) :
    (Code.rangeFunc g ps assign body).wpIn Fence.wide (n + 2) P Q a w := by
  refine wpIn_rangeFunc ?_
  intro fn hfn
  obtain ⟨rec, hrec⟩ : ∃ rec : LoopState → Option Code → Loop, rec = fun st pe => { state := st, pending := pe, fn, tmps := a.tmps, params := ps, assign, body, defers := w.heap.size } := ⟨_, rfl⟩
  obtain ⟨W1, hW1⟩ : ∃ W1, (w.alloc (.deferred (some []))).alloc (.loop (rec .ready none)) = W1 := ⟨_, rfl⟩
  have hL1 : W1.heap[w.heap.size + 1]? = some (.loop (rec .ready none)) := by
    rw [← hW1]; have := World.alloc_heap_new (w.alloc (.deferred (some []))) (.loop (rec .ready none)); rwa [World.size_alloc] at this
  have hK1 : W1.heap[w.heap.size]? = some (.deferred (some [])) := by
    rw [← hW1]; exact (Below.heap_alloc _ _ _ (by simp)).trans (World.alloc_heap_new w _)
  have hI1 : I 0 W1 := by rw [← hW1]; exact hI.alloc _ (hI.alloc _ h0)
  have hb1 : Below w.heap.size w W1 := by
    rw [← hW1]; exact ((Below.refl _ w).alloc (Nat.le_refl _) _).alloc (by simp) _
  refine ⟨w.heap.size + 1, [{ target := .collected w.heap.size, args := #[] }], W1, { target := .fn (.func gf) lb, args := #[.func (.yield (w.heap.size + 1)) #[] #[]] }, W1, gf,
    #[.func (.yield (w.heap.size + 1)) #[] #[]] ++ lb, W1, ?_, ?_, ?_, ?_, fun _ => by omega, ?_⟩
  · rw [← hW1, hrec]; exact run_enterLoop_outer _ _ _ _ _
  · simp only [resolve, hg]
    simp [go_sem]
  · intro f' hf'; trivial
  · simp [invoke, go_sem, eg]
  · refine (hseq (n + 1) (w.heap.size + 1)
      (fun k W => I k W ∧ W.heap[w.heap.size + 1]? = some (.loop (rec .ready none)) ∧ W.heap[w.heap.size]? = some (.deferred (some [])))
      (fun k W => ∃ c, Ix c k W ∧ W.heap[w.heap.size + 1]? = some (.loop (rec .done (some c))) ∧ W.heap[w.heap.size]? = some (.deferred (some [])))
      W1 hb1 (fun _ _ h => h.1) ?_ ?_ ⟨hI1, hL1, hK1⟩).mono ?_
    · -- the iterator's own steps
      intro s A B row hs hg' hr
      have hlt : w.heap.size + 1 < W1.heap.size := (Array.getElem?_eq_some_iff.1 hL1).1
      refine ⟨hI s A B row hs.1 hg' (fun r e => ⟨by have := (hr r e).1; omega, (hr r e).2⟩), ?_, ?_⟩
      · refine (hg'.block _ (Array.getElem?_eq_some_iff.1 hs.2.1).1 ?_).trans hs.2.1
        intro e; have := (hr _ e.symm).1; omega
      · refine (hg'.block _ (Array.getElem?_eq_some_iff.1 hs.2.2).1 ?_).trans hs.2.2
        intro e; have := (hr _ e.symm).1; omega
    · -- one round
      rintro k v W ⟨hi, hl, hk⟩ hgv
      have hlt : w.heap.size + 1 < W.heap.size := (Array.getElem?_eq_some_iff.1 hl).1
      have hy := run_yield (P := P) (args := v) hl (by rw [hrec]; exact hps k v W hgv)
      rw [hrec] at hy
      refine ⟨fn, _, assign, body, hy, roundIn_of_wpIn hfn (hassign _ k v W _ hgv ⟨_, run_beginRound hl (by rw [hrec]), ?_⟩)⟩
      have hl2 : (W.putObj (w.heap.size + 1) (.loop { rec .ready none with state := .busy })).heap[w.heap.size + 1]? = some (.loop { rec .ready none with state := .busy }) := World.putObj_heap_same hlt
      have hk2 : (W.putObj (w.heap.size + 1) (.loop { rec .ready none with state := .busy })).heap[w.heap.size]? = some (.deferred (some [])) := (World.putObj_heap_other (by omega)).trans hk
      refine wpIn_mono (hbody _ k v _ (hI.putObj _ hi (by omega) hl rfl) ((hG v).putObj _ hgv (by omega) hl rfl)) ?_
      have fin : ∀ (jump : Option Code) (W3 : World), KeepsFrom w.heap.size (W.putObj (w.heap.size + 1) (.loop { rec .ready none with state := .busy })) W3 →
          (Instr.endRound (w.heap.size + 1) jump).run P W3 = .ok (.bool jump.isNone) (W3.putObj (w.heap.size + 1) (.loop (rec (if jump.isNone then .ready else .done) jump))) ∧
          W3.heap[w.heap.size + 1]? = some (.loop { rec .ready none with state := .busy }) ∧
          (W3.putObj (w.heap.size + 1) (.loop (rec (if jump.isNone then .ready else .done) jump))).heap[w.heap.size + 1]? = some (.loop (rec (if jump.isNone then .ready else .done) jump)) ∧
          (W3.putObj (w.heap.size + 1) (.loop (rec (if jump.isNone then .ready else .done) jump))).heap[w.heap.size]? = some (.deferred (some [])) := fun jump W3 hk3 => by
        have hl3 := hk3.same _ _ (by omega) hl2 rfl
        have := run_endRound (P := P) jump hl3
        rw [hrec] at this ⊢
        exact ⟨this, by rw [hrec] at hl3; exact hl3, World.putObj_heap_same (Array.getElem?_eq_some_iff.1 hl3).1, (World.putObj_heap_other (by omega)).trans (hk3.same _ _ (Nat.le_refl _) hk2 rfl)⟩
      rintro e a3 W3 hp
      cases e with
      | normal =>
        obtain ⟨hk3, hi3⟩ := hp
        obtain ⟨hr, hl3, hl4, hk4⟩ := fin none W3 hk3
        exact ⟨_, _, hr, .inl ⟨rfl, hI.putObj _ hi3 (by omega) hl3 rfl, hl4, hk4⟩⟩
      | ret =>
        obtain ⟨hk3, hi3⟩ := hp
        obtain ⟨hr, hl3, hl4, hk4⟩ := fin (some .ret) W3 hk3
        exact ⟨_, _, hr, .inr ⟨rfl, .ret, (hIx _).putObj _ hi3 (by omega) hl3 rfl, hl4, hk4⟩⟩
      | exit id =>
        obtain ⟨hk3, hi3⟩ := hp
        obtain ⟨hr, hl3, hl4, hk4⟩ := fin (some (.exit id)) W3 hk3
        exact ⟨_, _, hr, .inr ⟨rfl, .exit id, (hIx _).putObj _ hi3 (by omega) hl3 rfl, hl4, hk4⟩⟩
      | goto t =>
        obtain ⟨hk3, hi3⟩ := hp
        obtain ⟨hr, hl3, hl4, hk4⟩ := fin (some (.goto t)) W3 hk3
        exact ⟨_, _, hr, .inr ⟨rfl, .goto t, (hIx _).putObj _ hi3 (by omega) hl3 rfl, hl4, hk4⟩⟩
      | panic ch => exact hp.elim
      | outgrown => exact hp.elim
    · rintro e W2 ⟨⟨v, rfl⟩, (⟨k, hS, hi, hl, hk⟩ | ⟨k, c, hi, hl, hk⟩)⟩
      · exact ⟨none, _, by have := run_endLoop (P := P) hl (by rw [hrec]; simp); rw [hrec] at this; exact this, hdone _ k _ (Nat.le_refl _) hS (hI.putObj _ hi (by omega) hl rfl) ((World.putObj_heap_other (by omega)).trans hk)⟩
      · exact ⟨some c, _, by have := run_endLoop (P := P) hl (by rw [hrec]; simp); rw [hrec] at this; exact this, hstop _ c k _ (Nat.le_refl _) ((hIx c).putObj _ hi (by omega) hl rfl) ((World.putObj_heap_other (by omega)).trans hk)⟩

/-! a round's regions by the plain rules -/
section
variable {P : Program} {Q : Exit → Act → World → Prop} {l m : Nat}
def noDefer (o : Oper) : Bool := match o.op with
  | .defer _ => false
  | _ => true
theorem noDefer.ne {o : Oper} (h : noDefer o = true) : ∀ c, o.op ≠ .defer c := by
  intro c e; unfold noDefer at h; rw [e] at h; cases h

theorem oper_in {o : Oper} {a : Act} {w : World} {K : Act → World → Prop} (hd : noDefer o = true) (h : o.wp P a w K Q) : o.wpIn (Fence.wide.inRound l) m P a w K Q := by
  refine ⟨fun _ _ => trivial, ?_⟩
  rw [Fence.inRound_round, Oper.semAt_some l _ _ (noDefer.ne hd)]
  unfold Oper.wp at h
  generalize (execOp a.eval o).run P w = r at h ⊢
  cases r with
  | ok nx w' =>
    cases nx with
    | value v => exact h
    | skip => exact h
    | defer d => exact h
    | enter f args => exact ⟨fun e => (by cases e), CallsIn.inRound l (callsIn_wide.2 h)⟩
    | row rw_ args =>
      refine ⟨fun e => (by cases e), ?_⟩
      intro c cs _
      obtain ⟨v, w'', r, s⟩ := h c cs
      exact ⟨v, w'', r, stepsIn_wide.2 s⟩
    | round l f tmps assign body => exact h.elim
    | _ => exact h.elim
  | halt hx w' =>
    cases hx with
    | panic v => exact h
    | _ => exact h.elim

theorem list_in {ops : Array Oper} (hno : ¬ LetsOut Q) : ∀ (lst : List Oper) (a : Act) (w : World), (∀ o ∈ lst, noDefer o = true) → wpList P ops Q lst a w → wpListIn (Fence.wide.inRound l) m P ops Q lst a w
  | [], _, _, _, h => h
  | o :: rest, a, w, hd, h => by
    unfold wpList at h
    unfold wpListIn
    split at h
    · rename_i hw
      rw [if_pos hw]
      rcases h with h | ⟨_, h⟩
      · exact Oper.wpIn_mono (fun a w h => list_in hno rest a w (fun o ho => hd o (List.mem_cons_of_mem _ ho)) h) (oper_in (hd o List.mem_cons_self) h)
      · exact absurd h hno
    · rename_i hw
      rw [if_neg hw]
      exact ⟨fun _ _ => trivial, list_in hno rest _ w (fun o ho => hd o (List.mem_cons_of_mem _ ho)) h⟩

theorem any_in {md : Region.Mode} {ops : Array Oper} (hno : ¬ LetsOut Q) (hd : ∀ (i : Nat) (o : Oper), ops[i]? = some o → noDefer o = true) : ∀ (fuel : Nat) (listed : Array Bool) (a : Act) (w : World), wpAny P md ops Q fuel listed a w → wpAnyIn (Fence.wide.inRound l) m P md ops Q fuel listed a w
  | 0, _, _, _, h => h
  | fuel + 1, listed, a, w, h => by
    refine ⟨h.1, fun i hi => ?_⟩
    have h1 := h.2 i hi
    unfold wpOp at h1
    unfold wpOpIn
    split at h1
    · rename_i e; simp only [e]; exact any_in hno hd fuel _ a w h1
    · rename_i o e
      simp only [e]
      split at h1
      · rename_i hw
        rw [if_pos hw]
        rcases h1 with h1 | ⟨_, h1⟩
        · exact Oper.wpIn_mono (fun a w h => any_in hno hd fuel _ a w h) (oper_in (hd i o e) h1)
        · exact absurd h1 hno
      · rename_i hw
        rw [if_neg hw]
        exact ⟨fun _ _ => trivial, any_in hno hd fuel _ _ w h1⟩

/-- a region of a round, in the order of the text -/
theorem wpIn_region_round {id : Nat} {lst : List Oper} {a : Act} {w : World} (hd : lst.all noDefer = true) (hno : ¬ LetsOut Q) (h : wpList P lst.toArray Q lst a w) : (Code.region id lst.toArray false).wpIn (Fence.wide.inRound l) m P Q a w :=
  wpIn_region_lit (list_in hno lst a w (fun o ho => List.all_eq_true.1 hd o ho) h)
/-- a region of a round that draws its order -/
theorem wpIn_region_T {ops : Array Oper} (T : Anc) (R : List Nat) (S : World → Prop) (n : Nat) {id : Nat} {a : Act} {w : World} (hn : ops.size = n) (hm : P.follows .mixedOrders = true)
    (hd : ops.all noDefer = true) (hno : ¬ LetsOut Q)
    (h : wpAnyT P .any ops Q T R S n (Array.replicate n false) a w.drew) : (Code.region id ops true).wpIn (Fence.wide.inRound l) m P Q a w := by
  subst hn
  refine wpIn_region_any hm (any_in hno ?_ _ _ _ _ (wpAny_of_T _ _ _ _ h))
  intro i o ho
  obtain ⟨hlt, e⟩ := Array.getElem?_eq_some_iff.1 ho
  have := (Array.all_eq_true.1 hd) i hlt
  rw [e] at this; exact this
end

end Go.Proofs.YtediidajdpdeiaaDoor

/- crc.All: the iterator's word. -/
namespace Go.Proofs.YtediidajdpdeiaaDoor
open Go.RowKit Go.Shelf CrcM
attribute [local go_sem] Oper.semAt_some
set_option maxRecDepth 100000

theorem OwnFrom.below {B : Nat} {J : Nat → World → Prop} (h : OwnFrom B J) {k : Nat} {W W' : World} (hs : J k W) (hb : Below W.heap.size W W') : J k W' :=
  h k W W' none hs ⟨hb.os, hb.tape, hb.output, hb.size, fun j hj _ => hb.block j hj⟩ (fun _ e => by cases e)

/-- where the k-th body lies -/
inductive Pos (b : List UInt8) : Nat → Nat → Prop
  | start : Pos b 0 0
  | step {k at_ : Nat} {body : List UInt8} {en : Nat} : Pos b k at_ → next b at_ = .ok (body, en) → Pos b (k + 1) en

theorem next_ok {b : List UInt8} {at_ : Nat} {p : List UInt8 × Nat} (h : next b at_ = .ok p) : at_ < p.2 ∧ p.2 ≤ b.length ∧ p.1.length ≤ 65536 ∧ p.2 = at_ + 12 + p.1.length := by
  unfold next at h
  split at h
  · cases h
  · split at h
    · cases h
    · rename_i h1 h2
      rw [Int.toNat_natCast] at h
      simp only at h
      split at h
      · cases h
      · split at h
        · cases h
        · split at h
          · cases h
          · split at h
            · cases h
            · rename_i h3 h4 h5 h6
              injection h with h; subst h
              rw [List.length_drop] at h5
              simp only [List.length_take, List.length_drop]
              omega

theorem next_err {b : List UInt8} {a r : Int} (h : next b a = .error r) : r ≠ 0 := by
  unfold next at h
  split at h
  · injection h with h; omega
  · split at h
    · injection h with h; omega
    · simp only at h
      split at h
      · injection h with h; omega
      · split at h
        · injection h with h; omega
        · split at h
          · injection h with h; omega
          · split at h
            · injection h with h; omega
            · cases h

theorem Pos.le {b : List UInt8} {k at_ : Nat} (h : Pos b k at_) : at_ ≤ b.length := by
  cases h with
  | start => omega
  | step _ hn => exact (next_ok hn).2.1

def AllGv (b : List UInt8) (k : Nat) (v : Array Value) (W : World) : Prop :=
  ∃ at_ body en A c, Pos b k at_ ∧ next b at_ = .ok (body, en) ∧ v = #[.int .i64 (at_ : Int), .slice A body.length c] ∧ Rd Non W A body ∧ body.length ≤ c ∧ c ≤ maxLen
def AllS (b : List UInt8) (k : Nat) : Prop := ∃ at_ r, Pos b k at_ ∧ next b at_ = .error r
/-- what the iterator reads -/
def AllNeeds (bx : Nat) (A : Option Addr) (c : Nat) (b : List UInt8) (W : World) : Prop :=
  HalfAt W ∧ W.cell? ⟨bx, 0, none⟩ = some (.slice A b.length c) ∧ Rd Non W A b

set_option maxHeartbeats 1000000 in
theorem all_iterates (bx : Nat) (A : Option Addr) (c : Nat) (b : List UInt8) (hbc : b.length ≤ c) (hcm : c ≤ maxLen) (I : Nat → World → Prop) (hI : ∀ k W, I k W → AllNeeds bx A c b W) (w : World) :
    Iterates Tryd.prog 81 #[.pointer (some ⟨bx, 0, none⟩)] (AllGv b) I (AllS b) w := by
  intro n l J Jx W hW hJI hJ hY h0
  refine callsIn_of_wp Tryd.func81 rfl trivial ?_ rfl
  simp only [Tryd.ntmps81, List.size_toArray, List.length_cons, List.length_nil, Nat.reduceAdd, Nat.reduceSub, Array.replicate_succ, Array.replicate_zero, List.push_toArray, List.append_toArray, List.nil_append, List.cons_append]
  gi_wp2
  gi_loopw [3] (fun p wr => ∃ k at_ : Nat, Pos b k at_ ∧ p = .int .i64 at_ ∧ J k wr) (fun p _ => b.length + 1 - (intOf p).toNat)
  case atStart => exact ⟨0, 0, .start, rfl, h0⟩
  case round =>
    obtain ⟨k, at_, hpos, rfl, hJk⟩ := hrel
    obtain ⟨hh, hbx, hrb⟩ := hI k _ (hJI k _ hJk)
    have hnx := next_B wr hh A b c b.length hrb rfl hbc hcm (at_ : Int)
    cases hn : next b at_ with
    | error r =>
      have hr0 : ¬ r = 0 := next_err hn
      gi_wp2_with (refine ⟨trivial, fun h_ => (by cases h_), ?_⟩; gi_at_call 28; refine (callsIn_wide.2 hnx).mono ?_; intro e w2 hd; unfold NextDid at hd; rw [hn] at hd; obtain ⟨rfl, hb2⟩ := hd)
      all_goals (refine ⟨fun _ h => (by cases h), ?_⟩; gi_wp2)
      refine bodyPost_ret (results_none rfl _ _ _) rfl ?_
      exact ⟨⟨_, rfl⟩, .inl ⟨k, ⟨at_, r, hpos, hn⟩, OwnFrom.below hJ hJk hb2⟩⟩
    | ok p =>
      obtain ⟨body, en⟩ := p
      have hno := Lib.hid (next_ok hn)
      gi_wp2_with (refine ⟨trivial, fun h_ => (by cases h_), ?_⟩; gi_at_call 28; refine (callsIn_wide.2 hnx).mono ?_; intro e w2 hd; unfold NextDid at hd; rw [hn] at hd; obtain ⟨A', c', rfl, ho, hc', hm', hb2⟩ := hd; obtain ⟨fn, tmps, asg, bdy, hy, hR⟩ := hY k #[.int .i64 (at_ : Int), .slice A' body.length c'] w2 (OwnFrom.below hJ hJk hb2) ⟨at_, body, en, A', c', hpos, hn, rfl, ho.rd _, hc', hm'⟩)
      refine ⟨fun h_ => (by cases h_), hR.mono ?_⟩
      rintro e W3 (⟨rfl, hJ3⟩ | ⟨rfl, hJx3⟩)
      · gi_wp2
        go_roundw
        case rel => exact ⟨k + 1, en, .step hpos hn, rfl, hJ3⟩
        case measure =>
          have := hno.out.1
          have := hno.out.2.1
          simp [intOf] at *
          omega
      · gi_wp2
        refine bodyPost_ret (results_none rfl _ _ _) rfl ?_
        exact ⟨⟨_, rfl⟩, .inr ⟨k + 1, hJx3⟩⟩
end Go.Proofs.YtediidajdpdeiaaDoor

/- crc.Good: the walk. -/
namespace Go.Proofs.YtediidajdpdeiaaDoor
open Go.RowKit Go.Shelf CrcM
attribute [local go_sem] Oper.semAt_some
set_option maxRecDepth 100000

theorem Pos.det {b : List UInt8} {k p q : Nat} (h : Pos b k p) (h' : Pos b k q) : p = q := by
  induction h generalizing q with
  | start => cases h'; rfl
  | step h1 h2 ih =>
    cases h' with
    | step h3 h4 =>
      have := ih h3; subst this
      rw [h2] at h4; injection h4 with h4; injection h4

theorem all_B (w : World) (A : Option Addr) (n c : Nat) :
    Calls Tryd.prog 32 #[.slice A n c] w fun e w' => e = .returned (.func (.func 81) #[] #[.pointer (some ⟨w.heap.size, 0, none⟩)]) ∧ w.alloc (.cells #[.slice A n c] 22) = w' := by
  go_enter Tryd.func32, Tryd.ntmps32
  go_wp2
  go_ret
  exact ⟨rfl, rfl⟩

/-- what Good answers -/
def GoodIs (b : List UInt8) (at_ : Nat) (r : Int) : Prop := ∃ k, Pos b k at_ ∧ (∃ r', next b at_ = .error r' ∧ r = if at_ = b.length then 0 else r')

theorem Gv_own (b : List UInt8) (v : Array Value) (B : Nat) : OwnFrom B fun k W => AllGv b k v W := by
  intro k W W' row hs hg hr
  obtain ⟨at_, body, en, A, c, h1, h2, h3, h4, h5⟩ := hs
  refine ⟨at_, body, en, A, c, h1, h2, h3, ?_, h5⟩
  intro j x hx
  obtain ⟨ad, e, hc, _⟩ := h4 j x hx
  exact ⟨ad, e, cell_kept hc hg (fun r e => (hr r e).2), .inl fun h => h.elim⟩

theorem KeepsFrom.below {B : Nat} {W W' : World} (h : Below W.heap.size W W') : KeepsFrom B W W' :=
  ⟨h.size, fun k o _ hk _ => (h.block k (Array.getElem?_eq_some_iff.1 hk).1).trans hk⟩

def GoodI (w : World) (A : Option Addr) (b : List UInt8) (c : Nat) (k : Nat) (W : World) : Prop :=
  ((∃ at_ : Nat, Pos b k at_ ∧ W.cell? ⟨w.heap.size + 1, 0, none⟩ = some (.int .i64 (at_ : Int))) ∧ W.frozen? ⟨w.heap.size + 1, 0, none⟩ = false ∧
    W.cell? ⟨w.heap.size, 0, none⟩ = some (.slice A b.length c) ∧ W.cell? ⟨w.heap.size + 2, 0, none⟩ = some (.slice A b.length c)) ∧ Below w.heap.size w W

theorem GoodI.own (w : World) (A : Option Addr) (b : List UInt8) (c : Nat) {B : Nat} (hB : w.heap.size ≤ B) : OwnFrom B (GoodI w A b c) := by
  refine OwnFrom.and ?_ (ownFrom_below (Nat.le_refl _) hB)
  rintro k W W' row ⟨⟨at_, hp, h1⟩, h2, h3, h4⟩ hg hr
  have hr' : ∀ r, row = some r → ∃ o : Obj, W.heap[r]? = some o ∧ o.isCells = false := fun r e => (hr r e).2
  exact ⟨⟨at_, hp, cell_kept h1 hg hr'⟩, (frozen_kept h1 hg hr').trans h2, cell_kept h3 hg hr', cell_kept h4 hg hr'⟩

theorem good_ret {w W : World} {D at_ : Nat} {r : Int} {tmps : Array Value} {R : Ending → World → Prop} (h2 : tmps.getD 2 undef = .pointer (some ⟨w.heap.size + 1, 0, none⟩)) (h3 : tmps.getD 3 undef = .int .i64 r)
    (hD : w.heap.size + 3 ≤ D) (hK : W.heap[D]? = some (.deferred (some []))) (hB : Below w.heap.size w W) (hc : W.cell? ⟨w.heap.size + 1, 0, none⟩ = some (.int .i64 (at_ : Int)))
    (hR : Below w.heap.size w (W.putObj D (.deferred none)) → R (.returned (.tuple #[.int .i64 (at_ : Int), .int .i64 r])) (W.putObj D (.deferred none))) :
    LeavesInM Fence.wide 10 Tryd.prog Tryd.f30 tmps R [] .returning (W.putObj D (.deferred none)) := by
  have hc' : (W.putObj D (.deferred none)).cell? ⟨w.heap.size + 1, 0, none⟩ = some (.int .i64 (at_ : Int)) := (World.cell?_of_block (World.putObj_heap_other (by show _ ≠ _; simp; omega))).trans hc
  refine ⟨_, ?_, hR ?_⟩
  · rw [results_cell_tmp (p := 2) (u := 3) (ty := 3) rfl, h2, h3]
    go_simp
  · exact hB.grown (grownBy_putObj' W D _) (by have := (Array.getElem?_eq_some_iff.1 hK).1; omega) (fun k e => by cases e; omega)

set_option maxHeartbeats 1000000 in
theorem good_B (w : World) (hh : HalfAt w) (A : Option Addr) (b : List UInt8) (c n : Nat) (hr : Rd Non w A b) (hl : b.length = n) (hn : n ≤ c) (hm : c ≤ maxLen) :
    Calls Tryd.prog 30 #[.slice A n c] w fun e w' => ∃ at_ r, GoodIs b at_ r ∧ e = .returned (.tuple #[.int .i64 (at_ : Int), .int .i64 r]) ∧ Below w.heap.size w w' := by
  subst hl
  refine (callsIn_wide (n := 10)).1 ?_
  refine callsIn_of_wp_marks Tryd.func30 rfl trivial ?_ rfl
  simp only [Tryd.ntmps30, List.size_toArray, List.length_cons, List.length_nil, Nat.reduceAdd, Nat.reduceSub, Array.replicate_succ, Array.replicate_zero, List.push_toArray, List.append_toArray, List.nil_append, List.cons_append]
  gi_wp2_with (refine ⟨trivial, ?_⟩; gi_at_call 32; refine (callsIn_wide.2 (all_B _ _ _ _)).mono ?_; rintro e w2 ⟨rfl, rfl⟩)
  have hI0 : GoodI w A b c 0 (((w.alloc (.cells #[.slice A b.length c] 22)).alloc (.cells #[.int .i64 0] 3)).alloc (.cells #[.slice A b.length c] 22)) := by
    have z1 : Blk (w.alloc (.cells #[.slice A b.length c] 22)) w.heap.size 22 #[.slice A b.length c] := Blk.new _ _ _
    have z2 : Blk ((w.alloc (.cells #[.slice A b.length c] 22)).alloc (.cells #[.int .i64 0] 3)) (w.heap.size + 1) 3 #[.int .i64 0] := Blk.new' _ _ _ (by simp)
    have z3 : Blk (((w.alloc (.cells #[.slice A b.length c] 22)).alloc (.cells #[.int .i64 0] 3)).alloc (.cells #[.slice A b.length c] 22)) (w.heap.size + 2) 22 #[.slice A b.length c] := Blk.new' _ _ _ (by simp)
    exact ⟨⟨⟨0, .start, (z2.alloc _).cell 0 rfl⟩, (z2.alloc _).frozen 0, ((z1.alloc _).alloc _).cell 0 rfl, z3.cell 0 rfl⟩, (((Below.refl _ _).alloc (Nat.le_refl _) _).alloc (by simp) _).alloc (by simp; omega) _⟩
  have hsz : (((w.alloc (.cells #[.slice A b.length c] 22)).alloc (.cells #[.int .i64 0] 3)).alloc (.cells #[.slice A b.length c] 22)).heap.size = w.heap.size + 3 := by simp
  generalize ((w.alloc (.cells #[.slice A b.length c] 22)).alloc (.cells #[.int .i64 0] 3)).alloc (.cells #[.slice A b.length c] 22) = w3 at *
  have hneed : ∀ k W, GoodI w A b c k W → AllNeeds (w.heap.size + 2) A c b W := fun k W h => ⟨hh.below h.2 hh.lt, h.1.2.2.2, hr.below h.2⟩
  refine wp_rangeFunc_G (n := 8) (Gv := AllGv b) (I := GoodI w A b c) (S := AllS b) rfl (enters_of Tryd.func81 (by kernel_rfl) rfl) (all_iterates (w.heap.size + 2) A c b hn hm _ hneed w3)
    (fun k v W h => by obtain ⟨_, _, _, _, _, _, _, rfl, _⟩ := h; rfl) (fun v => Gv_own b v _) (fun _ _ _ => False) (GoodI.own w A b c (by omega)) (fun _ _ _ _ _ h _ _ => h) hI0
    (fun v => { tmps := #[.slice A b.length c, .pointer (some ⟨w.heap.size, 0, none⟩), .pointer (some ⟨w.heap.size + 1, 0, none⟩), .int .i64 0, v.getD 0 undef, .slice A b.length c, .func (.func 81) #[] #[.pointer (some ⟨w.heap.size + 2, 0, none⟩)], v.getD 0 undef, v.getD 1 undef,
      undef, undef, undef, undef, undef, undef, undef, undef, undef, undef, undef, undef, undef, undef, undef, undef, undef, undef, undef, undef, undef], defers := [] }) ?assign ?body ?done ?stop
  case assign =>
    rintro l k v W K ⟨at_, body, en, A', c', h1, h2, rfl, h4⟩ hK
    gi_wp2
    exact hK
  case body =>
    rintro l k v W hI ⟨at_, body, en, A', c', h1, h2, rfl, h4, h5, h6⟩
    have hB := hI.2
    obtain ⟨⟨⟨at1, hp1, i1⟩, i2, i3, i4⟩, -⟩ := hI
    have hnx := next_B W (hh.below hB hh.lt) A b c b.length (hr.below hB) rfl hn hm (at_ : Int)
    gi_wp2_with (refine ⟨trivial, ?_⟩; gi_at_call 28; refine (CallsIn.inRound l (callsIn_wide.2 hnx)).mono ?_; intro e W2 hd; unfold NextDid at hd; rw [h2] at hd; obtain ⟨A2, c2, rfl, ho2, hc2, hm2, hb2⟩ := hd; have j1 := (hb2.cell (p := ⟨w.heap.size + 1, 0, none⟩) (cell_lt i1)).trans i1; have j2 := (hb2.frozen (p := ⟨w.heap.size + 1, 0, none⟩) (cell_lt i1)).trans i2)
    have i3' := (hb2.cell (p := ⟨w.heap.size, 0, none⟩) (cell_lt i3)).trans i3
    have i4' := (hb2.cell (p := ⟨w.heap.size + 2, 0, none⟩) (cell_lt i4)).trans i4
    refine ⟨(KeepsFrom.below hb2).trans ((KeepsOthers.setCell _ _ _).from _), ⟨⟨en, .step h1 h2, World.cell?_setCell_same' _ _ _ (by rw [j1]; rfl)⟩, by rw [World.frozen?_setCell]; exact j2, ?_, ?_⟩, (hB.trans (hb2.mono hB.size)).setCell (p := ⟨w.heap.size + 1, 0, none⟩) (by simp) _⟩
    · exact (World.cell?_setCell_other W2 ⟨w.heap.size + 1, 0, none⟩ ⟨w.heap.size, 0, none⟩ _ (by intro e; injection e with e; omega)).trans i3'
    · exact (World.cell?_setCell_other W2 ⟨w.heap.size + 1, 0, none⟩ ⟨w.heap.size + 2, 0, none⟩ _ (by intro e; injection e with e; omega)).trans i4'
  case done =>
    rintro D k W hD ⟨at_, r, hp, hn'⟩ hI hK
    have hB := hI.2
    obtain ⟨⟨⟨at1, hp1, i1⟩, i2, i3, i4⟩, -⟩ := hI
    obtain rfl := hp.det hp1
    have hle := hp.le
    have hnx := next_B W (hh.below hB hh.lt) A b c b.length (hr.below hB) rfl hn hm (at_ : Int)
    by_cases he : at_ = b.length
    · have he' : (at_ : Int) = (b.length : Int) := by omega
      gi_wp2
      have hK2 := (KeepsOthers.setCell W ⟨w.heap.size + 1, 0, none⟩ (.int .i64 (b.length : Int))).same D _ hK rfl
      have hB2 := hB.setCell (p := ⟨w.heap.size + 1, 0, none⟩) (by simp) (.int .i64 (b.length : Int))
      have j1 : (W.setCell ⟨w.heap.size + 1, 0, none⟩ (.int .i64 (b.length : Int))).cell? ⟨w.heap.size + 1, 0, none⟩ = some (.int .i64 (b.length : Int)) := World.cell?_setCell_same' _ _ _ (by rw [i1]; rfl)
      generalize W.setCell ⟨w.heap.size + 1, 0, none⟩ (.int .i64 (b.length : Int)) = W2 at *
      refine ⟨by simp, .inl ⟨_, _, rfl, run_takeDeferred hK2, ?_⟩⟩
      exact good_ret rfl rfl (by omega) hK2 hB2 j1 (fun hb => ⟨b.length, 0, ⟨k, he ▸ hp, r, he ▸ hn', by simp⟩, rfl, hb⟩)
    · have he' : (at_ : Int) < (b.length : Int) := by omega
      gi_wp2_with (refine ⟨trivial, ?_⟩; gi_at_call 28; refine (callsIn_wide.2 hnx).mono ?_; intro e W2 hd; unfold NextDid at hd; rw [hn'] at hd; obtain ⟨rfl, hb2⟩ := hd; have j1 := (hb2.cell (p := ⟨w.heap.size + 1, 0, none⟩) (cell_lt i1)).trans i1; have j2 := (hb2.frozen (p := ⟨w.heap.size + 1, 0, none⟩) (cell_lt i1)).trans i2)
      have hK1 := (hb2.block D (Array.getElem?_eq_some_iff.1 hK).1).trans hK
      have hK2 := (KeepsOthers.setCell W2 ⟨w.heap.size + 1, 0, none⟩ (.int .i64 (at_ : Int))).same D _ hK1 rfl
      have hB2 := (hB.trans (hb2.mono hB.size)).setCell (p := ⟨w.heap.size + 1, 0, none⟩) (by simp) (.int .i64 (at_ : Int))
      have j3 : (W2.setCell ⟨w.heap.size + 1, 0, none⟩ (.int .i64 (at_ : Int))).cell? ⟨w.heap.size + 1, 0, none⟩ = some (.int .i64 (at_ : Int)) := World.cell?_setCell_same' _ _ _ (by rw [j1]; rfl)
      generalize W2.setCell ⟨w.heap.size + 1, 0, none⟩ (.int .i64 (at_ : Int)) = W3 at *
      refine ⟨by simp, .inl ⟨_, _, rfl, run_takeDeferred hK2, ?_⟩⟩
      exact good_ret rfl rfl (by omega) hK2 hB2 j3 (fun hb => ⟨at_, r, ⟨k, hp, r, hn', by rw [if_neg he]⟩, rfl, hb⟩)
  case stop =>
    rintro D c k W _ h _
    exact h.elim
end Go.Proofs.YtediidajdpdeiaaDoor
