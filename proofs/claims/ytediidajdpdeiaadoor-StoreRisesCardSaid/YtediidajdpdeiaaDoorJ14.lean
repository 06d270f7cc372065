/- The document's Crash: the walk. -/
import Derived.Test.YtediidajdpdeiaaDoorJ13
import Derived.Test.YtediidajdpdeiaaDoorJ5
import Derived.Test.YtediidajdpdeiaaDoorJ2

namespace Go.Proofs.YtediidajdpdeiaaDoor
open Go.RowKit
set_option maxRecDepth 100000

set_option maxHeartbeats 1000000 in
theorem refCrash_B {S : Nat → Prop} {w : World} {b : Nat} {A1 A2 : Option Addr} {c1 c2 : Nat} {R : Rk} (h : RefAt S w b A1 c1 A2 c2 R) (keep flip : Int) (hk63 : keep ≤ 9223372036854775807) (hf63 : flip ≤ 9223372036854775807) (hk0 : -9223372036854775808 ≤ keep) (hf0 : -9223372036854775808 ≤ flip) (hsz : R.rest.length ≤ 4194304) :
    Calls Tryd.prog 125 #[.pointer (some ⟨b, 0, none⟩), .int .i64 keep, .int .i64 flip] w (RefDid S w (.pointer (some ⟨b, 0, none⟩)) (R.crash keep flip)) := by
  obtain ⟨kept, rest, dn⟩ := R
  obtain ⟨d0, d1, d2, z0, z1, z2, hb, hc1, hc2, hok⟩ := h.facts
  simp only at hsz
  cases dn
  · by_cases hn : keep < 0
    · have e : (Rk.crash ⟨kept, rest, false⟩ keep flip) = (⟨kept, rest, false⟩, 2) := by simp [Rk.crash, hn]
      have H := Lib.hid e
      clear e
      go_enter Tryd.func125, Tryd.ntmps125
      go_wp2
      go_ret
      rw [H.out]
      exact ⟨rfl, h.same, Fr.refl _ _⟩
    · obtain ⟨kn, rfl⟩ : ∃ m : Nat, keep = m := ⟨keep.toNat, by omega⟩
      have e : (Rk.crash ⟨kept, rest, false⟩ kn flip) = (⟨kept, torn rest kn flip, true⟩, 0) := by simp [Rk.crash]
      have H := Lib.hid e
      clear e
      have F0 : Fr S w (w.setCell ⟨b, 2, none⟩ (.bool true)) := (Fr.refl S w).setCell (p := ⟨b, 2, none⟩) (.inl h.inS) h.notB _
      have h0 : RefAt S (w.setCell ⟨b, 2, none⟩ (.bool true)) b A1 c1 A2 c2 ⟨kept, rest, true⟩ :=
        ⟨by simpa using h.blk.set 2 (.bool true), h.own1.fr F0, h.own2.fr F0, h.inS, by simpa [World.setCell] using h.lt, hc1, hc2, hok⟩
      have hj := join_B (w.setCell ⟨b, 2, none⟩ (.bool true)) A2 none rest [] c2 0 (h0.own2.rd Non) (Rd.nil _ _ _) (by simp; omega)
      simp only [List.length_nil, List.append_nil] at hj
      obtain ⟨l, hl⟩ : ∃ l, rest.take kn = l := ⟨_, rfl⟩
      obtain ⟨n, hn1⟩ : ∃ n, l.length = n := ⟨_, rfl⟩
      have hn2 : n = min kn rest.length := by rw [← hn1, ← hl, List.length_take]
      have htorn : torn rest kn flip = upto l flip (8 * n) := by
        rw [← hn1, upto_end, torn, Int.toNat_natCast, hl]
      have HL := Lib.hid hl
      have HN := Lib.hid hn1
      have HT := Lib.hid htorn
      clear hl hn1 htorn hn
      go_enter Tryd.func125, Tryd.ntmps125
      by_cases hkl : kn < rest.length
      · have k1 : (0 : Int) ≤ (kn : Int) := by omega
        have hN : n = kn := by omega
        clear hn2
        subst hN
        go_wp2_with (go_at_call 134; refine hj.mono ?_; rintro e w1 ⟨A3, c3, rfl, ho3, hc3, hm3, hb3⟩; have k2 : (n : Int) ≤ (c3 : Int) := by omega)
        generalize hw0 : w.setCell ⟨b, 2, none⟩ (.bool true) = w0 at *
        have ho := ownsRow_take ho3 (n' := n) (by omega)
        have hlt : rest.take n = l := HL.out
        rw [hlt] at ho
        clear ho3 hlt d0 d1 d2 z0 z1 z2 hj
        have hcn : n ≤ c3 := by omega
        have hn4 : n ≤ 4194304 := by omega
        go_loopw [8] (fun i wr => ∃ p : Nat, p ≤ n ∧ i = .int .i64 p ∧ wr.ownsRow w0.heap.size TB 1 (.slice A3 n c3) n ((upto l flip (8 * p)).map byteV) ∧ Below w0.heap.size w0 wr) (fun i _ => n - (intOf i).toNat)
        case atStart =>
          refine ⟨0, by omega, rfl, ?_, hb3⟩
          have : upto l flip (8 * 0) = l := by unfold upto; rw [if_neg (by omega)]
          rw [this]; exact ho
        case round =>
          obtain ⟨p, hp, rfl, hop, hbp⟩ := hrel
          clear ho hb3
          by_cases hpn : p < n
          · have hpn' : (p : Int) < ((n : Nat) : Int) := by omega
            go_wp2
            go_loopw [9] (fun i wr => ∃ q : Nat, q ≤ 8 ∧ i = .int .i64 q ∧ wr.ownsRow w0.heap.size TB 1 (.slice A3 n c3) n ((upto l flip (8 * p + q)).map byteV) ∧ Below w0.heap.size w0 wr) (fun i _ => 8 - (intOf i).toNat)
            case atStart => exact ⟨0, by omega, rfl, hop, hbp⟩
            case round =>
              obtain ⟨q, hq, rfl, hoq, hbq⟩ := hrel
              clear hop hbp
              by_cases hq8 : q < 8
              · by_cases hfl : flip = (8 * p + q : Nat)
                · subst hfl
                  obtain ⟨x, hx⟩ : ∃ x, l[p]? = some x := ⟨_, List.getElem?_eq_getElem (by rw [HN.out]; exact hpn)⟩
                  obtain ⟨u1, u2⟩ := upto_yes l p q x hq8 hx
                  have U2 := Lib.hid u2
                  rw [u1] at hoq
                  obtain ⟨g, cap, hv, hg1, hg2⟩ := hoq.form (by omega)
                  obtain ⟨rfl, rfl⟩ : A3 = some ⟨g, 0, none⟩ ∧ c3 = cap := by injection hv with h1 _ h2; exact ⟨h1, h2⟩
                  have hxc : wr.cell? ⟨g, p, none⟩ = some (.int .u8 (x.toNat : Int)) := by
                    rw [hoq.cellAt _ (by omega), List.getElem?_map, hx]; rfl
                  have hxf := hoq.frozenAt p
                  have hst := (hoq.stored p (byteV (turnByte x q))).1
                  rw [← List.map_set] at hst
                  have eb := rbits x q hq8
                  rw [Nat.min_eq_left (by omega)] at eb
                  have hB := (hbq.setCell (p := ⟨g, p, none⟩) hg1 (byteV (turnByte x q)))
                  have hp0 : (0 : Int) ≤ (p : Int) := by omega
                  have hq0 : (0 : Int) ≤ (q : Int) := by omega
                  have hq1 : (q : Int) < 8 := by omega
                  have e8 : (((8 * p + q : Nat) : Int) == 8 * (p : Int) + (q : Int)) = true := by simp
                  have e9 : ((8 * p + q : Nat) : Int) = 8 * (p : Int) + (q : Int) := by omega
                  clear hv u1 u2 hx
                  go_wp2
                  clear e8 e9
                  refine wp_region_T #[[], [], [], [], [], [], [], [], [5], [5], [5]] [5] (fun w' => w'.cell? ⟨g, p, none⟩ = some (.int .u8 (x.toNat : Int)) ∧ True) 11 rfl (by kernel_rfl) ?_
                  (refine wpAnyT_free (i := 0) rfl (by kernel_rfl) rfl (fun _ _ _ h => h) (by kernel_rfl) (fun _ => by go_simp; try rfl) ?_; (try simp only [Act.put, List.setIfInBounds_toArray, List.set_cons_zero, List.set_cons_succ]))
                  (refine wpAnyT_free (i := 1) rfl (by kernel_rfl) rfl (fun _ _ _ h => h) (by kernel_rfl) (fun _ => by go_simp; try rfl) ?_; (try simp only [Act.put, List.setIfInBounds_toArray, List.set_cons_zero, List.set_cons_succ]))
                  (refine wpAnyT_free (i := 2) rfl (by kernel_rfl) rfl (fun _ _ _ h => h) (by kernel_rfl) (fun _ => by go_simp; try rfl) ?_; (try simp only [Act.put, List.setIfInBounds_toArray, List.set_cons_zero, List.set_cons_succ]))
                  (refine wpAnyT_free (i := 3) rfl (by kernel_rfl) rfl (fun _ _ _ h => h) (by kernel_rfl) (fun _ => by go_simp; try rfl) ?_; (try simp only [Act.put, List.setIfInBounds_toArray, List.set_cons_zero, List.set_cons_succ]))
                  (refine wpAnyT_free (i := 4) rfl (by kernel_rfl) rfl (fun _ _ _ h => h) (by kernel_rfl) (fun _ => by go_simp; try rfl) ?_; (try simp only [Act.put, List.setIfInBounds_toArray, List.set_cons_zero, List.set_cons_succ]))
                  (refine wpAnyT_read (i := 5) rfl (by kernel_rfl) rfl (fun _ _ _ h => h) (by kernel_rfl) (⟨hxc, trivial⟩) (fun w hS_ => by obtain ⟨s_1, s_2⟩ := hS_; go_simp; try rfl) ?_; (try simp only [Act.put, List.setIfInBounds_toArray, List.set_cons_zero, List.set_cons_succ]))
                  (refine wpAnyT_free (i := 6) rfl (by kernel_rfl) rfl (fun _ _ _ h => h) (by kernel_rfl) (fun _ => by go_simp; try rfl) ?_; (try simp only [Act.put, List.setIfInBounds_toArray, List.set_cons_zero, List.set_cons_succ]))
                  (refine wpAnyT_free (i := 7) rfl (by kernel_rfl) rfl (fun _ _ _ h => h) (by kernel_rfl) (fun _ => by go_simp; try rfl) ?_; (try simp only [Act.put, List.setIfInBounds_toArray, List.set_cons_zero, List.set_cons_succ]))
                  (refine wpAnyT_free (i := 8) rfl (by kernel_rfl) rfl (fun _ _ _ h => h) (by kernel_rfl) (fun _ => by go_simp; try rfl) ?_; (try simp only [Act.put, List.setIfInBounds_toArray, List.set_cons_zero, List.set_cons_succ]))
                  (refine wpAnyT_free (i := 9) rfl (by kernel_rfl) rfl (fun _ _ _ h => h) (by kernel_rfl) (fun _ => by go_simp; try rfl) ?_; (try simp only [Act.put, List.setIfInBounds_toArray, List.set_cons_zero, List.set_cons_succ]))
                  refine wpAnyT_sink (i := 10) rfl (by kernel_rfl) rfl (by kernel_rfl) ?_
                  intro K_ hK_
                  go_wp2
                  (try (refine hK_ _ _ ?_; clear hK_ K_))
                  (try simp only [Act.put, List.setIfInBounds_toArray, List.set_cons_zero, List.set_cons_succ])
                  refine wpAnyT_done (by kernel_rfl) ?_ _
                  rw [eb]
                  go_wp2
                  go_roundw
                  case rel => exact ⟨q + 1, by omega, by go_num, by rw [← Nat.add_assoc, U2.out]; exact hst, hB.drew⟩
                  case measure => simp [intOf]; omega
                · have e9 : ¬ flip = 8 * (p : Int) + (q : Int) := by omega
                  have U2 := Lib.hid (upto_no l flip (8 * p + q) hfl)
                  have hq1 : (q : Int) < 8 := by omega
                  go_wp2
                  go_roundw
                  case rel => exact ⟨q + 1, by omega, by go_num, by rw [← Nat.add_assoc, U2.out]; exact hoq, hbq⟩
                  case measure => simp [intOf]; omega
              · obtain rfl : q = 8 := by omega
                go_wp2
                go_roundw
                case rel => exact ⟨p + 1, by omega, by go_num, by rw [Nat.mul_add]; exact hoq, hbq⟩
                case measure => simp [intOf]; omega
          · obtain rfl : p = n := by omega
            have h2 := h0.below hbp
            obtain ⟨d0', d1', d2', z0', z1', z2', hb', -⟩ := h2.facts
            go_wp2
            go_ret
            rw [H.out, HT.out]
            have lu : (upto l flip (8 * p)).length = p := by rw [length_upto, HN.out]
            have F1 : Fr S w (wr.setCell ⟨b, 1, none⟩ (.slice A3 p c3)) := (F0.trans (S' := Non) (Fr.of_below hbp) (fun _ h => h.elim)).setCell (p := ⟨b, 1, none⟩) (.inl h.inS) h.notB _
            have F2 : Fr S wr (wr.setCell ⟨b, 1, none⟩ (.slice A3 p c3)) := (Fr.refl S wr).setCell (p := ⟨b, 1, none⟩) (.inl h.inS) h2.notB _
            refine ⟨rfl, h.turned F1 (A1' := A1) (c1' := c1) (A2' := A3) (c2' := c3) (R' := ⟨kept, upto l flip (8 * p), true⟩) (by rw [lu]; simpa using h2.blk.set 1 (.slice A3 p c3)) ((h2.own1.fr F2).mono fun _ => .inl) (((Own.of_row hop lu.symm).fr F2).up fun x hx => .inr (Nat.le_trans F0.size hx)) hc1 (by rw [lu]; omega) ?_, F1⟩
            show kept.length + (upto l flip (8 * p)).length ≤ _
            rw [lu]; omega
      · have k1 : (0 : Int) ≤ (kn : Int) := by omega
        have hN : n = rest.length := by omega
        clear hn2
        subst hN
        have k3 : ¬ (kn : Int) < (rest.length : Int) := by omega
        go_wp2_with (go_at_call 134; refine hj.mono ?_; rintro e w1 ⟨A3, c3, rfl, ho3, hc3, hm3, hb3⟩)
        generalize hw0 : w.setCell ⟨b, 2, none⟩ (.bool true) = w0 at *
        have ho := ownsRow_take ho3 (n' := rest.length) (by omega)
        have hlt : rest.take rest.length = l := by rw [← HL.out, List.take_of_length_le (Nat.le_refl _), List.take_of_length_le (by omega)]
        rw [hlt] at ho
        clear ho3 hlt d0 d1 d2 z0 z1 z2 hj
        have hcn : rest.length ≤ c3 := by omega
        have hn4 : rest.length ≤ 4194304 := by omega
        go_loopw [8] (fun i wr => ∃ p : Nat, p ≤ rest.length ∧ i = .int .i64 p ∧ wr.ownsRow w0.heap.size TB 1 (.slice A3 rest.length c3) rest.length ((upto l flip (8 * p)).map byteV) ∧ Below w0.heap.size w0 wr) (fun i _ => rest.length - (intOf i).toNat)
        case atStart =>
          refine ⟨0, by omega, rfl, ?_, hb3⟩
          have : upto l flip (8 * 0) = l := by unfold upto; rw [if_neg (by omega)]
          rw [this]; exact ho
        case round =>
          obtain ⟨p, hp, rfl, hop, hbp⟩ := hrel
          clear ho hb3
          by_cases hpn : p < rest.length
          · have hpn' : (p : Int) < ((rest.length : Nat) : Int) := by omega
            go_wp2
            go_loopw [9] (fun i wr => ∃ q : Nat, q ≤ 8 ∧ i = .int .i64 q ∧ wr.ownsRow w0.heap.size TB 1 (.slice A3 rest.length c3) rest.length ((upto l flip (8 * p + q)).map byteV) ∧ Below w0.heap.size w0 wr) (fun i _ => 8 - (intOf i).toNat)
            case atStart => exact ⟨0, by omega, rfl, hop, hbp⟩
            case round =>
              obtain ⟨q, hq, rfl, hoq, hbq⟩ := hrel
              clear hop hbp
              by_cases hq8 : q < 8
              · by_cases hfl : flip = (8 * p + q : Nat)
                · subst hfl
                  obtain ⟨x, hx⟩ : ∃ x, l[p]? = some x := ⟨_, List.getElem?_eq_getElem (by rw [HN.out]; exact hpn)⟩
                  obtain ⟨u1, u2⟩ := upto_yes l p q x hq8 hx
                  have U2 := Lib.hid u2
                  rw [u1] at hoq
                  obtain ⟨g, cap, hv, hg1, hg2⟩ := hoq.form (by omega)
                  obtain ⟨rfl, rfl⟩ : A3 = some ⟨g, 0, none⟩ ∧ c3 = cap := by injection hv with h1 _ h2; exact ⟨h1, h2⟩
                  have hxc : wr.cell? ⟨g, p, none⟩ = some (.int .u8 (x.toNat : Int)) := by
                    rw [hoq.cellAt _ (by omega), List.getElem?_map, hx]; rfl
                  have hxf := hoq.frozenAt p
                  have hst := (hoq.stored p (byteV (turnByte x q))).1
                  rw [← List.map_set] at hst
                  have eb := rbits x q hq8
                  rw [Nat.min_eq_left (by omega)] at eb
                  have hB := (hbq.setCell (p := ⟨g, p, none⟩) hg1 (byteV (turnByte x q)))
                  have hp0 : (0 : Int) ≤ (p : Int) := by omega
                  have hq0 : (0 : Int) ≤ (q : Int) := by omega
                  have hq1 : (q : Int) < 8 := by omega
                  have e8 : (((8 * p + q : Nat) : Int) == 8 * (p : Int) + (q : Int)) = true := by simp
                  have e9 : ((8 * p + q : Nat) : Int) = 8 * (p : Int) + (q : Int) := by omega
                  clear hv u1 u2 hx
                  go_wp2
                  clear e8 e9
                  refine wp_region_T #[[], [], [], [], [], [], [], [], [5], [5], [5]] [5] (fun w' => w'.cell? ⟨g, p, none⟩ = some (.int .u8 (x.toNat : Int)) ∧ True) 11 rfl (by kernel_rfl) ?_
                  (refine wpAnyT_free (i := 0) rfl (by kernel_rfl) rfl (fun _ _ _ h => h) (by kernel_rfl) (fun _ => by go_simp; try rfl) ?_; (try simp only [Act.put, List.setIfInBounds_toArray, List.set_cons_zero, List.set_cons_succ]))
                  (refine wpAnyT_free (i := 1) rfl (by kernel_rfl) rfl (fun _ _ _ h => h) (by kernel_rfl) (fun _ => by go_simp; try rfl) ?_; (try simp only [Act.put, List.setIfInBounds_toArray, List.set_cons_zero, List.set_cons_succ]))
                  (refine wpAnyT_free (i := 2) rfl (by kernel_rfl) rfl (fun _ _ _ h => h) (by kernel_rfl) (fun _ => by go_simp; try rfl) ?_; (try simp only [Act.put, List.setIfInBounds_toArray, List.set_cons_zero, List.set_cons_succ]))
                  (refine wpAnyT_free (i := 3) rfl (by kernel_rfl) rfl (fun _ _ _ h => h) (by kernel_rfl) (fun _ => by go_simp; try rfl) ?_; (try simp only [Act.put, List.setIfInBounds_toArray, List.set_cons_zero, List.set_cons_succ]))
                  (refine wpAnyT_free (i := 4) rfl (by kernel_rfl) rfl (fun _ _ _ h => h) (by kernel_rfl) (fun _ => by go_simp; try rfl) ?_; (try simp only [Act.put, List.setIfInBounds_toArray, List.set_cons_zero, List.set_cons_succ]))
                  (refine wpAnyT_read (i := 5) rfl (by kernel_rfl) rfl (fun _ _ _ h => h) (by kernel_rfl) (⟨hxc, trivial⟩) (fun w hS_ => by obtain ⟨s_1, s_2⟩ := hS_; go_simp; try rfl) ?_; (try simp only [Act.put, List.setIfInBounds_toArray, List.set_cons_zero, List.set_cons_succ]))
                  (refine wpAnyT_free (i := 6) rfl (by kernel_rfl) rfl (fun _ _ _ h => h) (by kernel_rfl) (fun _ => by go_simp; try rfl) ?_; (try simp only [Act.put, List.setIfInBounds_toArray, List.set_cons_zero, List.set_cons_succ]))
                  (refine wpAnyT_free (i := 7) rfl (by kernel_rfl) rfl (fun _ _ _ h => h) (by kernel_rfl) (fun _ => by go_simp; try rfl) ?_; (try simp only [Act.put, List.setIfInBounds_toArray, List.set_cons_zero, List.set_cons_succ]))
                  (refine wpAnyT_free (i := 8) rfl (by kernel_rfl) rfl (fun _ _ _ h => h) (by kernel_rfl) (fun _ => by go_simp; try rfl) ?_; (try simp only [Act.put, List.setIfInBounds_toArray, List.set_cons_zero, List.set_cons_succ]))
                  (refine wpAnyT_free (i := 9) rfl (by kernel_rfl) rfl (fun _ _ _ h => h) (by kernel_rfl) (fun _ => by go_simp; try rfl) ?_; (try simp only [Act.put, List.setIfInBounds_toArray, List.set_cons_zero, List.set_cons_succ]))
                  refine wpAnyT_sink (i := 10) rfl (by kernel_rfl) rfl (by kernel_rfl) ?_
                  intro K_ hK_
                  go_wp2
                  (try (refine hK_ _ _ ?_; clear hK_ K_))
                  (try simp only [Act.put, List.setIfInBounds_toArray, List.set_cons_zero, List.set_cons_succ])
                  refine wpAnyT_done (by kernel_rfl) ?_ _
                  rw [eb]
                  go_wp2
                  go_roundw
                  case rel => exact ⟨q + 1, by omega, by go_num, by rw [← Nat.add_assoc, U2.out]; exact hst, hB.drew⟩
                  case measure => simp [intOf]; omega
                · have e9 : ¬ flip = 8 * (p : Int) + (q : Int) := by omega
                  have U2 := Lib.hid (upto_no l flip (8 * p + q) hfl)
                  have hq1 : (q : Int) < 8 := by omega
                  go_wp2
                  go_roundw
                  case rel => exact ⟨q + 1, by omega, by go_num, by rw [← Nat.add_assoc, U2.out]; exact hoq, hbq⟩
                  case measure => simp [intOf]; omega
              · obtain rfl : q = 8 := by omega
                go_wp2
                go_roundw
                case rel => exact ⟨p + 1, by omega, by go_num, by rw [Nat.mul_add]; exact hoq, hbq⟩
                case measure => simp [intOf]; omega
          · obtain rfl : p = rest.length := by omega
            have h2 := h0.below hbp
            obtain ⟨d0', d1', d2', z0', z1', z2', hb', -⟩ := h2.facts
            go_wp2
            go_ret
            rw [H.out, HT.out]
            have lu : (upto l flip (8 * rest.length)).length = rest.length := by rw [length_upto, HN.out]
            have F1 : Fr S w (wr.setCell ⟨b, 1, none⟩ (.slice A3 rest.length c3)) := (F0.trans (S' := Non) (Fr.of_below hbp) (fun _ h => h.elim)).setCell (p := ⟨b, 1, none⟩) (.inl h.inS) h.notB _
            have F2 : Fr S wr (wr.setCell ⟨b, 1, none⟩ (.slice A3 rest.length c3)) := (Fr.refl S wr).setCell (p := ⟨b, 1, none⟩) (.inl h.inS) h2.notB _
            refine ⟨rfl, h.turned F1 (A1' := A1) (c1' := c1) (A2' := A3) (c2' := c3) (R' := ⟨kept, upto l flip (8 * rest.length), true⟩) (by rw [lu]; simpa using h2.blk.set 1 (.slice A3 rest.length c3)) ((h2.own1.fr F2).mono fun _ => .inl) (((Own.of_row hop lu.symm).fr F2).up fun x hx => .inr (Nat.le_trans F0.size hx)) hc1 (by rw [lu]; omega) ?_, F1⟩
            show kept.length + (upto l flip (8 * rest.length)).length ≤ _
            rw [lu]; omega
  · have e : (Rk.crash ⟨kept, rest, true⟩ keep flip) = (⟨kept, rest, true⟩, 10) := by simp [Rk.crash]
    have H := Lib.hid e
    clear e
    go_enter Tryd.func125, Tryd.ntmps125
    go_wp2
    go_ret
    rw [H.out]
    exact ⟨rfl, h.same, Fr.refl _ _⟩
end Go.Proofs.YtediidajdpdeiaaDoor

/- The document's log in memory (layer 7): its disks, each for itself. -/
namespace Go.Proofs.YtediidajdpdeiaaDoor
open Go.RowKit CrcM
set_option maxRecDepth 100000

/-- block b is a disk of the document's -/
def RefB (S : Nat → Prop) (w : World) (b : Nat) (R : Rk) : Prop := ∃ A1 c1 A2 c2, RefAt S w b A1 c1 A2 c2 R
theorem RefB.fr {S S' : Nat → Prop} {w w' : World} {b : Nat} {R : Rk} (h : RefB S w b R) (f : Fr S' w w') (hd : ∀ x, S x → S' x → IsB w x) : RefB S w' b R := by
  obtain ⟨A1, c1, A2, c2, h⟩ := h
  exact ⟨A1, c1, A2, c2, h.fr f hd⟩
theorem RefB.lt {S : Nat → Prop} {w : World} {b : Nat} {R : Rk} (h : RefB S w b R) : ∀ x, S x → x < w.heap.size := by
  obtain ⟨A1, c1, A2, c2, h⟩ := h
  exact h.lt
theorem RefB.mono {S S' : Nat → Prop} {w : World} {b : Nat} {R : Rk} (h : RefB S w b R) (hs : ∀ x, S x → S' x) (hl : ∀ x, S' x → x < w.heap.size) : RefB S' w b R := by
  obtain ⟨A1, c1, A2, c2, h⟩ := h
  exact ⟨A1, c1, A2, c2, h.blk, h.own1.mono hs, h.own2.mono hs, hs _ h.inS, hl, h.cap1, h.cap2, h.ok⟩

/-- blocks ps are the document's disks, each for itself, none in H -/
def Refs (S H : Nat → Prop) (w : World) (ps : List Nat) (gs : List Rk) : Prop :=
  ∃ F : Nat → Nat → Prop, (∀ i x, F i x → S x ∧ ¬ H x ∧ x < w.heap.size) ∧ (∀ i j x, i ≠ j → F i x → F j x → IsB w x) ∧ ps.length = gs.length ∧ ∀ i p g, ps[i]? = some p → gs[i]? = some g → RefB (F i) w p g

section
variable {w w' : World} {S S' H H' : Nat → Prop} {ps : List Nat} {gs : List Rk}
theorem Refs.nil (S H : Nat → Prop) (w : World) : Refs S H w [] [] := ⟨fun _ _ => False, fun _ _ h => h.elim, fun _ _ _ _ h => h.elim, rfl, fun i p g h => by simp at h⟩
theorem Refs.len (h : Refs S H w ps gs) : ps.length = gs.length := h.choose_spec.2.2.1
theorem Refs.fr (h : Refs S H w ps gs) (f : Fr S' w w') (hd : ∀ x, S x → ¬ H x → S' x → IsB w x) : Refs S H w' ps gs := by
  obtain ⟨F, h1, h2, h3, h4⟩ := h
  exact ⟨F, fun i x hx => ⟨(h1 i x hx).1, (h1 i x hx).2.1, Nat.lt_of_lt_of_le (h1 i x hx).2.2 f.size⟩, fun i j x n p q => (h2 i j x n p q).fr f, h3, fun i p g hp hg => (h4 i p g hp hg).fr f fun x p q => hd x (h1 i x p).1 (h1 i x p).2.1 q⟩
theorem Refs.mono (h : Refs S H w ps gs) (hs : ∀ x, x < w.heap.size → S x → S' x) (hh : ∀ x, x < w.heap.size → S x → H' x → H x) : Refs S' H' w ps gs := by
  obtain ⟨F, h1, h2, h3, h4⟩ := h
  exact ⟨F, fun i x hx => ⟨hs x (h1 i x hx).2.2 (h1 i x hx).1, fun k => (h1 i x hx).2.1 (hh x (h1 i x hx).2.2 (h1 i x hx).1 k), (h1 i x hx).2.2⟩, h2, h3, h4⟩
/-- one segment alone, and what becomes of all when it turns -/
theorem Refs.at (h : Refs S H w ps gs) {i p : Nat} {g : Rk} (hp : ps[i]? = some p) (hg : gs[i]? = some g) :
    ∃ Fi : Nat → Prop, (∀ x, Fi x → S x ∧ ¬ H x ∧ x < w.heap.size) ∧ RefB Fi w p g ∧
      ∀ w' p' g', Fr Fi w w' → (∀ x, H x → x < w.heap.size) → RefB (Up Fi w w') w' p' g' → Refs (Up S w w') H w' (ps.set i p') (gs.set i g') := by
  obtain ⟨F, h1, h2, h3, h4⟩ := h
  refine ⟨F i, h1 i, h4 i p g hp hg, fun w' p' g' f hH hs => ?_⟩
  refine ⟨fun j x => (j = i → Up (F i) w w' x) ∧ (j ≠ i → F j x), ?_, ?_, by rw [List.length_set, List.length_set]; exact h3, ?_⟩
  · intro j x hx
    by_cases hj : j = i
    · rcases hx.1 hj with hx | hx
      · exact ⟨.inl (h1 i x hx).1, (h1 i x hx).2.1, Nat.lt_of_lt_of_le (h1 i x hx).2.2 f.size⟩
      · exact ⟨.inr hx, fun k => by have := hH x k; omega, hx.2⟩
    · have hx := hx.2 hj
      exact ⟨.inl (h1 j x hx).1, (h1 j x hx).2.1, Nat.lt_of_lt_of_le (h1 j x hx).2.2 f.size⟩
  · intro j k x hn hj hk
    by_cases h5 : j = i
    · have h6 : k ≠ i := by omega
      have hk := hk.2 h6
      rcases hj.1 h5 with hj | hj
      · exact (h2 i k x (by omega) hj hk).fr f
      · have := (h1 k x hk).2.2; omega
    · have hj := hj.2 h5
      by_cases h6 : k = i
      · rcases hk.1 h6 with hk | hk
        · exact (h2 j i x h5 hj hk).fr f
        · have := (h1 j x hj).2.2; omega
      · exact (h2 j k x hn hj (hk.2 h6)).fr f
  · intro j q g2 hq hg2
    by_cases hji : j = i
    · rcases set_at hq with ⟨_, rfl⟩ | ⟨h, _⟩
      · rcases set_at hg2 with ⟨_, rfl⟩ | ⟨h, _⟩
        · exact hs.mono (fun x hx => ⟨fun _ => hx, fun h => (h hji).elim⟩) (fun x hx => hs.lt x (hx.1 hji))
        · exact (h hji).elim
      · exact (h hji).elim
    · rcases set_at hq with ⟨h, _⟩ | ⟨_, hq⟩
      · exact (hji h).elim
      · rcases set_at hg2 with ⟨h, _⟩ | ⟨_, hg2⟩
        · exact (hji h).elim
        · have := (h4 j q g2 hq hg2).fr f fun x p q => h2 j i x hji p q
          exact this.mono (fun x hx => ⟨fun h => (hji h).elim, fun _ => hx⟩) (fun x hx => this.lt x (hx.2 hji))
/-- one more, of its own -/
theorem Refs.snoc (h : Refs S H w ps gs) (f : Fr S' w w') (hd : ∀ x, S x → ¬ H x → S' x → IsB w x) (hH : ∀ x, H x → x < w.heap.size) {p : Nat} {g : Rk} (hs : RefB (Nw w w') w' p g) : Refs (Up S w w') H w' (ps ++ [p]) (gs ++ [g]) := by
  have h' := h.fr f hd
  obtain ⟨F, h1, h2, h3, h4⟩ := h
  refine ⟨fun j x => (j = ps.length → Nw w w' x) ∧ (j ≠ ps.length → F j x), ?_, ?_, by simp [h3], ?_⟩
  · intro j x hx
    by_cases hj : j = ps.length
    · have hx := hx.1 hj
      exact ⟨.inr hx, fun k => by have := hH x k; have := hx.1; omega, hx.2⟩
    · have hx := hx.2 hj
      exact ⟨.inl (h1 j x hx).1, (h1 j x hx).2.1, Nat.lt_of_lt_of_le (h1 j x hx).2.2 f.size⟩
  · intro j k x hn hj hk
    by_cases h5 : j = ps.length
    · have h6 : k ≠ ps.length := by omega
      have := (h1 k x (hk.2 h6)).2.2
      have := (hj.1 h5).1
      omega
    · by_cases h6 : k = ps.length
      · have := (h1 j x (hj.2 h5)).2.2
        have := (hk.1 h6).1
        omega
      · exact (h2 j k x hn (hj.2 h5) (hk.2 h6)).fr f
  · intro j q g2 hq hg2
    by_cases hj : j = ps.length
    · subst hj
      rw [List.getElem?_append_right (Nat.le_refl _)] at hq
      rw [h3, List.getElem?_append_right (Nat.le_refl _)] at hg2
      simp only [Nat.sub_self, List.getElem?_cons_zero, Option.some.injEq] at hq hg2
      subst hq; subst hg2
      exact hs.mono (fun x hx => ⟨fun _ => hx, fun h => (h rfl).elim⟩) (fun x hx => hs.lt x (hx.1 rfl))
    · have hlt : j < ps.length := by
        have := (List.getElem?_eq_some_iff.1 hq).1
        rw [List.length_append, List.length_singleton] at this
        omega
      rw [List.getElem?_append_left hlt] at hq
      rw [List.getElem?_append_left (by omega)] at hg2
      have := (h4 j q g2 hq hg2).fr f fun x p q => hd x (h1 j x p).1 (h1 j x p).2.1 q
      exact this.mono (fun x hx => ⟨fun h => (hj h).elim, fun _ => hx⟩) (fun x hx => this.lt x (hx.2 hj))
theorem Refs.tail {p : Nat} {g : Rk} (h : Refs S H w (p :: ps) (g :: gs)) : Refs S H w ps gs := by
  obtain ⟨F, h1, h2, h3, h4⟩ := h
  exact ⟨fun j => F (j + 1), fun i => h1 (i + 1), fun i j x n => h2 (i + 1) (j + 1) x (by omega), by simpa using h3, fun i p g hp hg => h4 (i + 1) p g (by simpa using hp) (by simpa using hg)⟩
theorem Refs.take (h : Refs S H w ps gs) (n : Nat) : Refs S H w (ps.take n) (gs.take n) := by
  obtain ⟨F, h1, h2, h3, h4⟩ := h
  refine ⟨F, h1, h2, by simp [h3], fun i p g hp hg => ?_⟩
  rw [List.getElem?_take] at hp hg
  split at hp
  · rename_i hi
    rw [if_pos hi] at hg
    exact h4 i p g hp hg
  · cases hp
end

end Go.Proofs.YtediidajdpdeiaaDoor

/- The document's numbers (layer 1), walked. -/
namespace Go.Proofs.YtediidajdpdeiaaDoor
open Go.RowKit CrcM
set_option maxRecDepth 100000

theorem refNum_B (w : World) (A : Option Addr) (c : Nat) (l : List UInt8) (hr : Rd Non w A l) (hl : l.length ≤ 70368744177664) (n : Nat) (hn : n ≤ 4611686018427387904) :
    Calls Tryd.prog 122 #[.slice A l.length c, .int .i64 (n : Int)] w (NumPair w (l ++ numB n)) := by
  obtain ⟨i, hi, hz, hs, hby⟩ := info_parts info_u8
  have hr1 := hr.fr ((Fr.refl Non w).alloc (.cells #[] TB))
  go_enter Tryd.func122, Tryd.ntmps122
  go_wp2_with (at_builtin
               refine wpList_appB rfl (.tmp 13) (.tmp 14) 22 rfl i Tryd.underlying22 hi hz hs hby w.heap.size _ 0 [] rfl (ownsB_none w) Non A l.length c l rfl rfl hr1 (by omega) (by simp) ?_
               intro v1 w1 hown1 hgrow1 hat1
               rw [Nat.zero_add, List.nil_append] at hown1)
  have hrow : ∀ j, (Value.slice (some ⟨w.heap.size, 0, none⟩) 0 0).ownBlock = some j → w.heap.size ≤ j := fun j hj => Nat.le_of_eq (Option.some.inj hj)
  have hrow : ∀ j, (Value.slice (some ⟨w.heap.size, 0, none⟩) 0 0).ownBlock = some j → w.heap.size ≤ j := fun j hj => Nat.le_of_eq (Option.some.inj hj)
  have hb1 : Below w.heap.size w w1 := ((Below.refl _ _).alloc (Nat.le_refl _) _).grown hgrow1 (by simp) hrow
  go_loopw [1, 6] (fun q s wr => ∃ (k : Nat) (xs : List UInt8), k ≤ n ∧ q = .int .i64 (k : Int) ∧ xs ++ numB k = l ++ numB n ∧ wr.ownsRow w.heap.size TB 1 s xs.length (xs.map byteV) ∧ Below w.heap.size w wr) (fun q _ _ => (intOf q).toNat)
  case atStart => exact ⟨n, l, Nat.le_refl _, rfl, rfl, hown1, hb1⟩
  case round =>
    obtain ⟨k, xs, hk, rfl, hxs, ho, hbl⟩ := hrel
    have hx2 : xs.length ≤ l.length + 10 := by
      have := congrArg List.length hxs
      have := numB_10 (n := n) (by omega)
      simp only [List.length_append] at *
      omega
    obtain ⟨Av, cv, rfl, _, _⟩ := own_val ho
    by_cases h : k < 128
    · have h' : ¬ (128 : Int) ≤ (k : Int) := by omega
      rw [numB_lt h] at hxs
      have HX := Lib.hid hxs
      clear hxs
      have hx : Value.int .u8 (k : Int) = byteV (UInt8.ofNat k) := by
        unfold byteV; rw [UInt8.toNat_ofNat', Nat.mod_eq_of_lt (by omega)]
      have HY := Lib.hid hx
      clear hx
      go_wp2_with (at_builtin
                   refine wpList_appB rfl (.tmp 27) (.tmp 30) 22 rfl i Tryd.underlying22 hi hz hs hby w.heap.size _ xs.length xs rfl (ho.alloc _) Non _ 1 1 [UInt8.ofNat k] rfl rfl (rd_one wr _ _ (by first | exact HY.out | (simp; exact HY.out)) _) (by omega) (by have := hbl.size; simp; omega) ?_
                   intro v2 w2 hown2 hgrow hat)
      go_ret2
      rw [HX.out] at hown2
      refine ⟨_, rfl, ?_, (hbl.alloc hbl.size _).grown hgrow (by have := hbl.size; simp; omega) (fun j hj => (ho.lt j hj).1)⟩
      have e : (l ++ numB n).length = xs.length + 1 := by rw [← HX.out]; simp
      rw [e]; exact hown2
    · have h' : (128 : Int) ≤ (k : Int) := by omega
      rw [numB_ge h, List.append_cons] at hxs
      have HX := Lib.hid hxs
      clear hxs
      have hx : Value.int .u8 ((k : Int) % 128 + 128) = byteV (UInt8.ofNat (k % 128 + 128)) := by
        unfold byteV; rw [UInt8.toNat_ofNat', Nat.mod_eq_of_lt (by omega)]
        congr 1
      have HY := Lib.hid hx
      clear hx
      go_wp2_with (at_builtin
                   refine wpList_appB rfl (.tmp 18) (.tmp 23) 22 rfl i Tryd.underlying22 hi hz hs hby w.heap.size _ xs.length xs rfl (ho.alloc _) Non _ 1 1 [UInt8.ofNat (k % 128 + 128)] rfl rfl (rd_one wr _ _ HY.out _) (by omega) (by have := hbl.size; simp; omega) ?_
                   intro v2 w2 hown2 hgrow hat)
      go_roundw
      case rel => exact ⟨k / 128, xs ++ [UInt8.ofNat (k % 128 + 128)], by omega, by go_num, HX.out, by rw [List.length_append]; exact hown2, (hbl.alloc hbl.size _).grown hgrow (by have := hbl.size; simp; omega) (fun j hj => (ho.lt j hj).1)⟩
      case measure => simp [intOf]; omega

set_option maxHeartbeats 1000000 in
theorem refReadNum_B (w : World) (A : Option Addr) (c : Nat) (l : List UInt8) (hr : Rd Non w A l) (hl : l.length ≤ maxLen) :
    Calls Tryd.prog 128 #[.slice A l.length c] w (ReadDid w l) := by
  unfold maxLen at hl
  go_enter Tryd.func128, Tryd.ntmps128
  go_wp2
  go_loop [5, 6, 7] (fun n wt i => ∃ k a : Nat, k ≤ l.length ∧ i = .int .i64 (k : Int) ∧ n = .int .i64 (a : Int) ∧ wt = .int .i64 ((128 ^ min k 8 : Nat) : Int) ∧ k ≤ 9 ∧ a < 128 ^ k ∧ readNum l = readN (l.drop k) k a) (fun _ _ i => l.length - (intOf i).toNat)
  case atStart => exact ⟨0, 0, by omega, rfl, rfl, rfl, by omega, by simp, rfl⟩
  case round =>
    obtain ⟨k, a, hk, rfl, rfl, rfl, hk9, ha, hrd⟩ := hrel
    by_cases hlt : k < l.length
    · obtain ⟨x, hx⟩ : ∃ x, l[k]? = some x := ⟨_, List.getElem?_eq_getElem hlt⟩
      obtain ⟨ad, rfl, hcl, -⟩ := hr k x hx
      unfold byteV at hcl
      have hdr : l.drop k = x :: l.drop (k + 1) := by
        rw [List.drop_eq_getElem_cons hlt]
        congr 1
        rw [List.getElem?_eq_getElem hlt] at hx
        exact Option.some.inj hx
      rw [hdr, readN] at hrd
      have hxl := x.toNat_lt
      have hlt' : (k : Int) < (l.length : Int) := by omega
      have hm : x.toNat % 128 < 128 := Nat.mod_lt _ (by omega)
      have hs128 : a + x.toNat % 128 * 128 ^ k < 128 ^ (k + 1) := by
        have : x.toNat % 128 * 128 ^ k ≤ 127 * 128 ^ k := Nat.mul_le_mul_right _ (by omega)
        rw [Nat.pow_succ]; omega
      clear hdr hx
      by_cases h1 : k = 9 ∨ (x.toNat = 0 ∧ 0 < k)
      · rw [if_pos h1] at hrd
        have HR := Lib.hid hrd
        clear hrd hs128
        generalize 128 ^ min k 8 = wt at *
        rcases h1 with h1 | ⟨h1, h2⟩
        · have h1' : ((k : Int) == 9) = true := by simp; omega
          clear h1
          go_wp2
          go_ret3
          exact ⟨by rw [HR.out]; rfl, rfl⟩
        · have h1' : ((x.toNat : Int) == 0) = true := by simp; omega
          have h2' : (0 : Int) < (k : Int) := by omega
          clear h1 h2
          by_cases h3 : (k : Int) = 9
          · have h3' : ((k : Int) == 9) = true := by simp; omega
            clear h3
            go_wp2
            go_ret3
            exact ⟨by rw [HR.out]; rfl, rfl⟩
          · have h3' : ((k : Int) == 9) = false := by simp; omega
            clear h3
            go_wp2
            go_ret3
            exact ⟨by rw [HR.out]; rfl, rfl⟩
      · rw [if_neg h1] at hrd
        have h3' : ((k : Int) == 9) = false := by simp; omega
        have hk8 : k ≤ 8 := by omega
        have hle : (128 : Nat) ^ (k + 1) ≤ 128 ^ 9 := Nat.pow_le_pow_right (by omega) (by omega)
        have HP7 := Lib.hid (show k ≠ 8 → a + x.toNat % 128 * 128 ^ k < 72057594037927936 from fun h => by
          have : (128 : Nat) ^ (k + 1) ≤ 128 ^ 8 := Nat.pow_le_pow_right (by omega) (by omega)
          omega)
        have HP8 := Lib.hid (show k = 8 → x.toNat % 128 * 128 ^ k = x.toNat % 128 * 72057594037927936 ∧ a < 72057594037927936 from fun h => by
          subst h
          exact ⟨rfl, by omega⟩)
        have HW8 := Lib.hid (show k < 8 → 128 ^ min (k + 1) 8 = 128 ^ min k 8 * 128 from fun h => by
          rw [Nat.min_eq_left (by omega), Nat.min_eq_left (by omega), Nat.pow_succ])
        have HW9 := Lib.hid (show ¬ k < 8 → 128 ^ min (k + 1) 8 = 128 ^ min k 8 from fun h => by
          rw [Nat.min_eq_right (by omega), Nat.min_eq_right (by omega)])
        have hwt : k < 8 → 128 ^ min k 8 ≤ 562949953421312 := fun h => by
          rw [Nat.min_eq_left (by omega)]
          have : (128 : Nat) ^ k ≤ 128 ^ 7 := Nat.pow_le_pow_right (by omega) (by omega)
          omega
        have hmk : min k 8 = k := Nat.min_eq_left hk8
        have eo : wrap64 ((x.toNat : Int) % 128 * ((128 ^ min k 8 : Nat) : Int)) = ((x.toNat % 128 * 128 ^ k : Nat) : Int) := by
          rw [hmk]
          have e1 : ((x.toNat : Int) % 128 * ((128 ^ k : Nat) : Int)) = ((x.toNat % 128 * 128 ^ k : Nat) : Int) := by push_cast; rfl
          rw [e1]
          unfold wrap64
          omega
        have hlt63 : a + x.toNat % 128 * 128 ^ k < 9223372036854775808 := by omega
        generalize hW : 128 ^ min (k + 1) 8 = wt' at *
        have HW := Lib.hid hW
        clear hW
        generalize 128 ^ min k 8 = wt at *
        generalize x.toNat % 128 * 128 ^ k = p at *
        obtain ⟨n', hn'⟩ : ∃ n', n' = a + p := ⟨_, rfl⟩
        rw [← hn'] at hrd hs128
        have HN := Lib.hid hn'
        have H1 := Lib.hid h1
        have hk0 : x.toNat = 0 → k = 0 := by omega
        clear h1 hle hn' hmk
        have hc : x.toNat = 0 ∧ k = 0 ∨ x.toNat ≠ 0 ∧ x.toNat % 128 = 0 ∧ k = 0 ∨ x.toNat ≠ 0 ∧ x.toNat % 128 = 0 ∧ 0 < k ∨ x.toNat % 128 ≠ 0 ∧ k ≠ 8 ∧ k = 0 ∨ x.toNat % 128 ≠ 0 ∧ k ≠ 8 ∧ 0 < k ∨ k = 8 ∧ 64 < x.toNat % 128 ∨ k = 8 ∧ x.toNat % 128 = 64 ∧ 0 < a ∨ k = 8 ∧ x.toNat % 128 = 64 ∧ a = 0 ∨ k = 8 ∧ x.toNat % 128 ≠ 0 ∧ x.toNat % 128 < 64 := by omega
        clear hk0
        rcases hc with ⟨q1, q2⟩ | ⟨q1, q2, q3⟩ | ⟨q1, q2, q3⟩ | ⟨q1, q2, q3⟩ | ⟨q1, q2, q3⟩ | ⟨q1, q2⟩ | ⟨q1, q2, q3⟩ | ⟨q1, q2, q3⟩ | ⟨q1, q2, q3⟩
        · have hok : ¬ 4611686018427387904 < n' := by have := HN.out; have h7 := HP7.out; have h8 := HP8.out; omega
          rw [if_neg hok] at hrd
          clear hok
          have g3 : ((x.toNat : Int) == 0) = true := by simp; omega
          have g4 : ¬ (0 : Int) < (k : Int) := by omega
          have g1 : ¬ (0 : Int) < (x.toNat : Int) % 128 := by omega
          have HQ1 := Lib.hid q1
          have HQ2 := Lib.hid q2
          clear q1 q2
          have HS := Lib.hid hs128
          clear hs128
          by_cases h8 : x.toNat < 128
          · rw [if_pos h8] at hrd
            have h8' : (x.toNat : Int) < 128 := by omega
            have HR := Lib.hid hrd
            clear hrd
            go_wp2
            go_ret3
            exact ⟨by rw [HR.out, HN.out]; rfl, rfl⟩
          · rw [if_neg h8] at hrd
            have h8' : ¬ (x.toNat : Int) < 128 := by omega
            have HR := Lib.hid hrd
            clear hrd
            by_cases hk8' : k < 8
            · have hk8i : (k : Int) < 8 := by omega
              go_wp2
              go_round
              case rel => exact ⟨k + 1, n', by omega, by go_num, by rw [HN.out]; go_num, by rw [HW.out]; have := HW8.out hk8'; go_num, by omega, HS.out, HR.out⟩
              case measure => simp [intOf] <;> omega
            · have hk8i : ¬ (k : Int) < 8 := by omega
              go_wp2
              all_goals (
                go_round
                case rel => exact ⟨k + 1, n', by omega, by go_num, by rw [HN.out]; go_num, by rw [HW.out]; have := HW9.out hk8'; go_num, by omega, HS.out, HR.out⟩
                case measure => simp [intOf] <;> omega)
        · have hok : ¬ 4611686018427387904 < n' := by have := HN.out; have h7 := HP7.out; have h8 := HP8.out; omega
          rw [if_neg hok] at hrd
          clear hok
          have g3 : ((x.toNat : Int) == 0) = false := by simp; omega
          have g1 : ¬ (0 : Int) < (x.toNat : Int) % 128 := by omega
          have g9 : ¬ (0 : Int) < (k : Int) := by omega
          have HQ1 := Lib.hid q1
          have HQ2 := Lib.hid q2
          have HQ3 := Lib.hid q3
          clear q1 q2 q3
          have HS := Lib.hid hs128
          clear hs128
          by_cases h8 : x.toNat < 128
          · rw [if_pos h8] at hrd
            have h8' : (x.toNat : Int) < 128 := by omega
            have HR := Lib.hid hrd
            clear hrd
            go_wp2
            go_ret3
            exact ⟨by rw [HR.out, HN.out]; rfl, rfl⟩
          · rw [if_neg h8] at hrd
            have h8' : ¬ (x.toNat : Int) < 128 := by omega
            have HR := Lib.hid hrd
            clear hrd
            by_cases hk8' : k < 8
            · have hk8i : (k : Int) < 8 := by omega
              go_wp2
              go_round
              case rel => exact ⟨k + 1, n', by omega, by go_num, by rw [HN.out]; go_num, by rw [HW.out]; have := HW8.out hk8'; go_num, by omega, HS.out, HR.out⟩
              case measure => simp [intOf] <;> omega
            · have hk8i : ¬ (k : Int) < 8 := by omega
              go_wp2
              all_goals (
                go_round
                case rel => exact ⟨k + 1, n', by omega, by go_num, by rw [HN.out]; go_num, by rw [HW.out]; have := HW9.out hk8'; go_num, by omega, HS.out, HR.out⟩
                case measure => simp [intOf] <;> omega)
        · have hok : ¬ 4611686018427387904 < n' := by have := HN.out; have h7 := HP7.out; have h8 := HP8.out; omega
          rw [if_neg hok] at hrd
          clear hok
          have g3 : ((x.toNat : Int) == 0) = false := by simp; omega
          have g1 : ¬ (0 : Int) < (x.toNat : Int) % 128 := by omega
          have g9 : (0 : Int) < (k : Int) := by omega
          have HQ1 := Lib.hid q1
          have HQ2 := Lib.hid q2
          have HQ3 := Lib.hid q3
          clear q1 q2 q3
          have HS := Lib.hid hs128
          clear hs128
          by_cases h8 : x.toNat < 128
          · rw [if_pos h8] at hrd
            have h8' : (x.toNat : Int) < 128 := by omega
            have HR := Lib.hid hrd
            clear hrd
            go_wp2
            go_ret3
            exact ⟨by rw [HR.out, HN.out]; rfl, rfl⟩
          · rw [if_neg h8] at hrd
            have h8' : ¬ (x.toNat : Int) < 128 := by omega
            have HR := Lib.hid hrd
            clear hrd
            by_cases hk8' : k < 8
            · have hk8i : (k : Int) < 8 := by omega
              go_wp2
              go_round
              case rel => exact ⟨k + 1, n', by omega, by go_num, by rw [HN.out]; go_num, by rw [HW.out]; have := HW8.out hk8'; go_num, by omega, HS.out, HR.out⟩
              case measure => simp [intOf] <;> omega
            · have hk8i : ¬ (k : Int) < 8 := by omega
              go_wp2
              all_goals (
                go_round
                case rel => exact ⟨k + 1, n', by omega, by go_num, by rw [HN.out]; go_num, by rw [HW.out]; have := HW9.out hk8'; go_num, by omega, HS.out, HR.out⟩
                case measure => simp [intOf] <;> omega)
        · have hok : ¬ 4611686018427387904 < n' := by have := HN.out; have h7 := HP7.out; have h8 := HP8.out; omega
          rw [if_neg hok] at hrd
          clear hok
          have g3 : ((x.toNat : Int) == 0) = false := by simp; omega
          have g1 : (0 : Int) < (x.toNat : Int) % 128 := by omega
          have g2 : ((k : Int) == 8) = false := by simp; omega
          have g9 : ¬ (0 : Int) < (k : Int) := by omega
          have HQ1 := Lib.hid q1
          have HQ2 := Lib.hid q2
          have HQ3 := Lib.hid q3
          clear q1 q2 q3
          have HS := Lib.hid hs128
          clear hs128
          by_cases h8 : x.toNat < 128
          · rw [if_pos h8] at hrd
            have h8' : (x.toNat : Int) < 128 := by omega
            have HR := Lib.hid hrd
            clear hrd
            go_wp2
            go_ret3
            exact ⟨by rw [HR.out, HN.out]; rfl, rfl⟩
          · rw [if_neg h8] at hrd
            have h8' : ¬ (x.toNat : Int) < 128 := by omega
            have HR := Lib.hid hrd
            clear hrd
            by_cases hk8' : k < 8
            · have hk8i : (k : Int) < 8 := by omega
              go_wp2
              go_round
              case rel => exact ⟨k + 1, n', by omega, by go_num, by rw [HN.out]; go_num, by rw [HW.out]; have := HW8.out hk8'; go_num, by omega, HS.out, HR.out⟩
              case measure => simp [intOf] <;> omega
            · have hk8i : ¬ (k : Int) < 8 := by omega
              go_wp2
              all_goals (
                go_round
                case rel => exact ⟨k + 1, n', by omega, by go_num, by rw [HN.out]; go_num, by rw [HW.out]; have := HW9.out hk8'; go_num, by omega, HS.out, HR.out⟩
                case measure => simp [intOf] <;> omega)
        · have hok : ¬ 4611686018427387904 < n' := by have := HN.out; have h7 := HP7.out; have h8 := HP8.out; omega
          rw [if_neg hok] at hrd
          clear hok
          have g3 : ((x.toNat : Int) == 0) = false := by simp; omega
          have g1 : (0 : Int) < (x.toNat : Int) % 128 := by omega
          have g2 : ((k : Int) == 8) = false := by simp; omega
          have g9 : (0 : Int) < (k : Int) := by omega
          have HQ1 := Lib.hid q1
          have HQ2 := Lib.hid q2
          have HQ3 := Lib.hid q3
          clear q1 q2 q3
          have HS := Lib.hid hs128
          clear hs128
          by_cases h8 : x.toNat < 128
          · rw [if_pos h8] at hrd
            have h8' : (x.toNat : Int) < 128 := by omega
            have HR := Lib.hid hrd
            clear hrd
            go_wp2
            go_ret3
            exact ⟨by rw [HR.out, HN.out]; rfl, rfl⟩
          · rw [if_neg h8] at hrd
            have h8' : ¬ (x.toNat : Int) < 128 := by omega
            have HR := Lib.hid hrd
            clear hrd
            by_cases hk8' : k < 8
            · have hk8i : (k : Int) < 8 := by omega
              go_wp2
              go_round
              case rel => exact ⟨k + 1, n', by omega, by go_num, by rw [HN.out]; go_num, by rw [HW.out]; have := HW8.out hk8'; go_num, by omega, HS.out, HR.out⟩
              case measure => simp [intOf] <;> omega
            · have hk8i : ¬ (k : Int) < 8 := by omega
              go_wp2
              all_goals (
                go_round
                case rel => exact ⟨k + 1, n', by omega, by go_num, by rw [HN.out]; go_num, by rw [HW.out]; have := HW9.out hk8'; go_num, by omega, HS.out, HR.out⟩
                case measure => simp [intOf] <;> omega)
        · have hok : 4611686018427387904 < n' := by have := HN.out; have h7 := HP7.out; have h8 := HP8.out; omega
          rw [if_pos hok] at hrd
          clear hok
          have g3 : ((x.toNat : Int) == 0) = false := by simp; omega
          have g1 : (0 : Int) < (x.toNat : Int) % 128 := by omega
          have g2 : ((k : Int) == 8) = true := by simp; omega
          have g9 : (0 : Int) < (k : Int) := by omega
          have g5 : (64 : Int) < (x.toNat : Int) % 128 := by omega
          have HQ1 := Lib.hid q1
          have HQ2 := Lib.hid q2
          clear q1 q2
          have HR := Lib.hid hrd
          clear hrd
          go_wp2
          go_ret3
          exact ⟨by rw [HR.out]; rfl, rfl⟩
        · have hok : 4611686018427387904 < n' := by have := HN.out; have h7 := HP7.out; have h8 := HP8.out; omega
          rw [if_pos hok] at hrd
          clear hok
          have g3 : ((x.toNat : Int) == 0) = false := by simp; omega
          have g1 : (0 : Int) < (x.toNat : Int) % 128 := by omega
          have g2 : ((k : Int) == 8) = true := by simp; omega
          have g9 : (0 : Int) < (k : Int) := by omega
          have g5 : ¬ (64 : Int) < (x.toNat : Int) % 128 := by omega
          have g6 : ((x.toNat : Int) % 128 == 64) = true := by simp; omega
          have g7 : (0 : Int) < (a : Int) := by omega
          have HQ1 := Lib.hid q1
          have HQ2 := Lib.hid q2
          have HQ3 := Lib.hid q3
          clear q1 q2 q3
          have HR := Lib.hid hrd
          clear hrd
          go_wp2
          go_ret3
          exact ⟨by rw [HR.out]; rfl, rfl⟩
        · have hok : ¬ 4611686018427387904 < n' := by have := HN.out; have h7 := HP7.out; have h8 := HP8.out; omega
          rw [if_neg hok] at hrd
          clear hok
          have g3 : ((x.toNat : Int) == 0) = false := by simp; omega
          have g1 : (0 : Int) < (x.toNat : Int) % 128 := by omega
          have g2 : ((k : Int) == 8) = true := by simp; omega
          have g9 : (0 : Int) < (k : Int) := by omega
          have g5 : ¬ (64 : Int) < (x.toNat : Int) % 128 := by omega
          have g6 : ((x.toNat : Int) % 128 == 64) = true := by simp; omega
          have g7 : ¬ (0 : Int) < (a : Int) := by omega
          have HQ1 := Lib.hid q1
          have HQ2 := Lib.hid q2
          have HQ3 := Lib.hid q3
          clear q1 q2 q3
          have HS := Lib.hid hs128
          clear hs128
          by_cases h8 : x.toNat < 128
          · rw [if_pos h8] at hrd
            have h8' : (x.toNat : Int) < 128 := by omega
            have HR := Lib.hid hrd
            clear hrd
            go_wp2
            go_ret3
            exact ⟨by rw [HR.out, HN.out]; rfl, rfl⟩
          · rw [if_neg h8] at hrd
            have h8' : ¬ (x.toNat : Int) < 128 := by omega
            have HR := Lib.hid hrd
            clear hrd
            by_cases hk8' : k < 8
            · have hk8i : (k : Int) < 8 := by omega
              go_wp2
              go_round
              case rel => exact ⟨k + 1, n', by omega, by go_num, by rw [HN.out]; go_num, by rw [HW.out]; have := HW8.out hk8'; go_num, by omega, HS.out, HR.out⟩
              case measure => simp [intOf] <;> omega
            · have hk8i : ¬ (k : Int) < 8 := by omega
              go_wp2
              all_goals (
                go_round
                case rel => exact ⟨k + 1, n', by omega, by go_num, by rw [HN.out]; go_num, by rw [HW.out]; have := HW9.out hk8'; go_num, by omega, HS.out, HR.out⟩
                case measure => simp [intOf] <;> omega)
        · have hok : ¬ 4611686018427387904 < n' := by have := HN.out; have h7 := HP7.out; have h8 := HP8.out; omega
          rw [if_neg hok] at hrd
          clear hok
          have g3 : ((x.toNat : Int) == 0) = false := by simp; omega
          have g1 : (0 : Int) < (x.toNat : Int) % 128 := by omega
          have g2 : ((k : Int) == 8) = true := by simp; omega
          have g9 : (0 : Int) < (k : Int) := by omega
          have g5 : ¬ (64 : Int) < (x.toNat : Int) % 128 := by omega
          have g6 : ((x.toNat : Int) % 128 == 64) = false := by simp; omega
          have HQ1 := Lib.hid q1
          have HQ2 := Lib.hid q2
          have HQ3 := Lib.hid q3
          clear q1 q2 q3
          have HS := Lib.hid hs128
          clear hs128
          by_cases h8 : x.toNat < 128
          · rw [if_pos h8] at hrd
            have h8' : (x.toNat : Int) < 128 := by omega
            have HR := Lib.hid hrd
            clear hrd
            go_wp2
            go_ret3
            exact ⟨by rw [HR.out, HN.out]; rfl, rfl⟩
          · rw [if_neg h8] at hrd
            have h8' : ¬ (x.toNat : Int) < 128 := by omega
            have HR := Lib.hid hrd
            clear hrd
            by_cases hk8' : k < 8
            · have hk8i : (k : Int) < 8 := by omega
              go_wp2
              go_round
              case rel => exact ⟨k + 1, n', by omega, by go_num, by rw [HN.out]; go_num, by rw [HW.out]; have := HW8.out hk8'; go_num, by omega, HS.out, HR.out⟩
              case measure => simp [intOf] <;> omega
            · have hk8i : ¬ (k : Int) < 8 := by omega
              go_wp2
              all_goals (
                go_round
                case rel => exact ⟨k + 1, n', by omega, by go_num, by rw [HN.out]; go_num, by rw [HW.out]; have := HW9.out hk8'; go_num, by omega, HS.out, HR.out⟩
                case measure => simp [intOf] <;> omega)
    · obtain rfl : k = l.length := by omega
      rw [List.drop_length, readN] at hrd
      have HR := Lib.hid hrd
      clear hrd
      go_wp2
      go_ret3
      unfold ReadDid
      exact ⟨by rw [HR.out]; rfl, rfl⟩
end Go.Proofs.YtediidajdpdeiaaDoor
