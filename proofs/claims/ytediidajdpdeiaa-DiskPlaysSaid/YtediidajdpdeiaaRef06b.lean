/- The document's Crash: the walk. -/
import Derived.Test.YtediidajdpdeiaaRef06
namespace Go.Proofs.Ytediidajdpdeiaa
open Go.RowKit
set_option maxRecDepth 100000

set_option maxHeartbeats 1000000 in
theorem refCrash_B {S : Nat → Prop} {w : World} {b : Nat} {A1 A2 : Option Addr} {c1 c2 : Nat} {R : Rk} (h : RefAt S w b A1 c1 A2 c2 R) (keep flip : Int) (hk63 : keep ≤ 9223372036854775807) (hf63 : flip ≤ 9223372036854775807) (hk0 : -9223372036854775808 ≤ keep) (hf0 : -9223372036854775808 ≤ flip) (hsz : R.rest.length ≤ 4194304) :
    Calls Try.prog 32 #[.pointer (some ⟨b, 0, none⟩), .int .i64 keep, .int .i64 flip] w (RefDid S w (.pointer (some ⟨b, 0, none⟩)) (R.crash keep flip)) := by
  obtain ⟨kept, rest, dn⟩ := R
  obtain ⟨d0, d1, d2, z0, z1, z2, hb, hc1, hc2, hok⟩ := h.facts
  simp only at hsz
  cases dn
  · by_cases hn : keep < 0
    · have e : (Rk.crash ⟨kept, rest, false⟩ keep flip) = (⟨kept, rest, false⟩, 2) := by simp [Rk.crash, hn]
      have H := Lib.hid e
      clear e
      go_enter Try.func32, Try.ntmps32
      go_wp2
      go_ret
      rw [H.out]
      exact ⟨rfl, h.same, Fr.refl _ _⟩
    · obtain ⟨kn, rfl⟩ : ∃ m : Nat, keep = m := ⟨keep.toNat, by omega⟩
      have e : (Rk.crash ⟨kept, rest, false⟩ kn flip) = (⟨kept, torn rest kn flip, true⟩, 0) := by simp [Rk.crash]
      have H := Lib.hid e
      clear e
      have F0 : Fr S w (w.setCell ⟨b, 2, none⟩ (.bool true)) := (Fr.refl S w).setCell (p := ⟨b, 2, none⟩) (.inl h.inS) h.notB _
      have h0 : RefAt S (w.setCell ⟨b, 2, none⟩ (.bool true)) b A1 c1 A2 c2 ⟨kept, rest, true⟩ :=
        ⟨by simpa using h.blk.set 2 (.bool true), h.own1.fr F0, h.own2.fr F0, h.inS, by simpa [World.setCell] using h.lt, hc1, hc2, hok⟩
      have hj := join_B (w.setCell ⟨b, 2, none⟩ (.bool true)) A2 none rest [] c2 0 (h0.own2.rd Non) (Rd.nil _ _ _) (by simp; omega)
      simp only [List.length_nil, List.append_nil] at hj
      obtain ⟨l, hl⟩ : ∃ l, rest.take kn = l := ⟨_, rfl⟩
      obtain ⟨n, hn1⟩ : ∃ n, l.length = n := ⟨_, rfl⟩
      have hn2 : n = min kn rest.length := by rw [← hn1, ← hl, List.length_take]
      have htorn : torn rest kn flip = upto l flip (8 * n) := by
        rw [← hn1, upto_end, torn, Int.toNat_natCast, hl]
      have HL := Lib.hid hl
      have HN := Lib.hid hn1
      have HT := Lib.hid htorn
      clear hl hn1 htorn hn
      go_enter Try.func32, Try.ntmps32
      by_cases hkl : kn < rest.length
      · have k1 : (0 : Int) ≤ (kn : Int) := by omega
        have hN : n = kn := by omega
        clear hn2
        subst hN
        go_wp2_with (go_at_call 34; refine hj.mono ?_; rintro e w1 ⟨A3, c3, rfl, ho3, hc3, hm3, hb3⟩; have k2 : (n : Int) ≤ (c3 : Int) := by omega)
        generalize hw0 : w.setCell ⟨b, 2, none⟩ (.bool true) = w0 at *
        have ho := ownsRow_take ho3 (n' := n) (by omega)
        have hlt : rest.take n = l := HL.out
        rw [hlt] at ho
        clear ho3 hlt d0 d1 d2 z0 z1 z2 hj
        have hcn : n ≤ c3 := by omega
        have hn4 : n ≤ 4194304 := by omega
        go_loopw [8] (fun i wr => ∃ p : Nat, p ≤ n ∧ i = .int .i64 p ∧ wr.ownsRow w0.heap.size TB 1 (.slice A3 n c3) n ((upto l flip (8 * p)).map byteV) ∧ Below w0.heap.size w0 wr) (fun i _ => n - (intOf i).toNat)
        case atStart =>
          refine ⟨0, by omega, rfl, ?_, hb3⟩
          have : upto l flip (8 * 0) = l := by unfold upto; rw [if_neg (by omega)]
          rw [this]; exact ho
        case round =>
          obtain ⟨p, hp, rfl, hop, hbp⟩ := hrel
          clear ho hb3
          by_cases hpn : p < n
          · have hpn' : (p : Int) < ((n : Nat) : Int) := by omega
            go_wp2
            go_loopw [9] (fun i wr => ∃ q : Nat, q ≤ 8 ∧ i = .int .i64 q ∧ wr.ownsRow w0.heap.size TB 1 (.slice A3 n c3) n ((upto l flip (8 * p + q)).map byteV) ∧ Below w0.heap.size w0 wr) (fun i _ => 8 - (intOf i).toNat)
            case atStart => exact ⟨0, by omega, rfl, hop, hbp⟩
            case round =>
              obtain ⟨q, hq, rfl, hoq, hbq⟩ := hrel
              clear hop hbp
              by_cases hq8 : q < 8
              · by_cases hfl : flip = (8 * p + q : Nat)
                · subst hfl
                  obtain ⟨x, hx⟩ : ∃ x, l[p]? = some x := ⟨_, List.getElem?_eq_getElem (by rw [HN.out]; exact hpn)⟩
                  obtain ⟨u1, u2⟩ := upto_yes l p q x hq8 hx
                  have U2 := Lib.hid u2
                  rw [u1] at hoq
                  obtain ⟨g, cap, hv, hg1, hg2⟩ := hoq.form (by omega)
                  obtain ⟨rfl, rfl⟩ : A3 = some ⟨g, 0, none⟩ ∧ c3 = cap := by injection hv with h1 _ h2; exact ⟨h1, h2⟩
                  have hxc : wr.cell? ⟨g, p, none⟩ = some (.int .u8 (x.toNat : Int)) := by
                    rw [hoq.cellAt _ (by omega), List.getElem?_map, hx]; rfl
                  have hxf := hoq.frozenAt p
                  have hst := (hoq.stored p (byteV (turnByte x q))).1
                  rw [← List.map_set] at hst
                  have eb := rbits x q hq8
                  rw [Nat.min_eq_left (by omega)] at eb
                  have hB := (hbq.setCell (p := ⟨g, p, none⟩) hg1 (byteV (turnByte x q)))
                  have hp0 : (0 : Int) ≤ (p : Int) := by omega
                  have hq0 : (0 : Int) ≤ (q : Int) := by omega
                  have hq1 : (q : Int) < 8 := by omega
                  have e8 : (((8 * p + q : Nat) : Int) == 8 * (p : Int) + (q : Int)) = true := by simp
                  have e9 : ((8 * p + q : Nat) : Int) = 8 * (p : Int) + (q : Int) := by omega
                  clear hv u1 u2 hx
                  go_wp2
                  clear e8 e9
                  refine wp_region_T #[[], [], [], [], [], [], [], [], [5], [5], [5]] [5] (fun w' => w'.cell? ⟨g, p, none⟩ = some (.int .u8 (x.toNat : Int)) ∧ True) 11 rfl (by kernel_rfl) ?_
                  (refine wpAnyT_free (i := 0) rfl (by kernel_rfl) rfl (fun _ _ _ h => h) (by kernel_rfl) (fun _ => by go_simp; try rfl) ?_; (try simp only [Act.put, List.setIfInBounds_toArray, List.set_cons_zero, List.set_cons_succ]))
                  (refine wpAnyT_free (i := 1) rfl (by kernel_rfl) rfl (fun _ _ _ h => h) (by kernel_rfl) (fun _ => by go_simp; try rfl) ?_; (try simp only [Act.put, List.setIfInBounds_toArray, List.set_cons_zero, List.set_cons_succ]))
                  (refine wpAnyT_free (i := 2) rfl (by kernel_rfl) rfl (fun _ _ _ h => h) (by kernel_rfl) (fun _ => by go_simp; try rfl) ?_; (try simp only [Act.put, List.setIfInBounds_toArray, List.set_cons_zero, List.set_cons_succ]))
                  (refine wpAnyT_free (i := 3) rfl (by kernel_rfl) rfl (fun _ _ _ h => h) (by kernel_rfl) (fun _ => by go_simp; try rfl) ?_; (try simp only [Act.put, List.setIfInBounds_toArray, List.set_cons_zero, List.set_cons_succ]))
                  (refine wpAnyT_free (i := 4) rfl (by kernel_rfl) rfl (fun _ _ _ h => h) (by kernel_rfl) (fun _ => by go_simp; try rfl) ?_; (try simp only [Act.put, List.setIfInBounds_toArray, List.set_cons_zero, List.set_cons_succ]))
                  (refine wpAnyT_read (i := 5) rfl (by kernel_rfl) rfl (fun _ _ _ h => h) (by kernel_rfl) (⟨hxc, trivial⟩) (fun w hS_ => by obtain ⟨s_1, s_2⟩ := hS_; go_simp; try rfl) ?_; (try simp only [Act.put, List.setIfInBounds_toArray, List.set_cons_zero, List.set_cons_succ]))
                  (refine wpAnyT_free (i := 6) rfl (by kernel_rfl) rfl (fun _ _ _ h => h) (by kernel_rfl) (fun _ => by go_simp; try rfl) ?_; (try simp only [Act.put, List.setIfInBounds_toArray, List.set_cons_zero, List.set_cons_succ]))
                  (refine wpAnyT_free (i := 7) rfl (by kernel_rfl) rfl (fun _ _ _ h => h) (by kernel_rfl) (fun _ => by go_simp; try rfl) ?_; (try simp only [Act.put, List.setIfInBounds_toArray, List.set_cons_zero, List.set_cons_succ]))
                  (refine wpAnyT_free (i := 8) rfl (by kernel_rfl) rfl (fun _ _ _ h => h) (by kernel_rfl) (fun _ => by go_simp; try rfl) ?_; (try simp only [Act.put, List.setIfInBounds_toArray, List.set_cons_zero, List.set_cons_succ]))
                  (refine wpAnyT_free (i := 9) rfl (by kernel_rfl) rfl (fun _ _ _ h => h) (by kernel_rfl) (fun _ => by go_simp; try rfl) ?_; (try simp only [Act.put, List.setIfInBounds_toArray, List.set_cons_zero, List.set_cons_succ]))
                  refine wpAnyT_sink (i := 10) rfl (by kernel_rfl) rfl (by kernel_rfl) ?_
                  intro K_ hK_
                  go_wp2
                  (try (refine hK_ _ _ ?_; clear hK_ K_))
                  (try simp only [Act.put, List.setIfInBounds_toArray, List.set_cons_zero, List.set_cons_succ])
                  refine wpAnyT_done (by kernel_rfl) ?_ _
                  rw [eb]
                  go_wp2
                  go_roundw
                  case rel => exact ⟨q + 1, by omega, by go_num, by rw [← Nat.add_assoc, U2.out]; exact hst, hB.drew⟩
                  case measure => simp [intOf]; omega
                · have e9 : ¬ flip = 8 * (p : Int) + (q : Int) := by omega
                  have U2 := Lib.hid (upto_no l flip (8 * p + q) hfl)
                  have hq1 : (q : Int) < 8 := by omega
                  go_wp2
                  go_roundw
                  case rel => exact ⟨q + 1, by omega, by go_num, by rw [← Nat.add_assoc, U2.out]; exact hoq, hbq⟩
                  case measure => simp [intOf]; omega
              · obtain rfl : q = 8 := by omega
                go_wp2
                go_roundw
                case rel => exact ⟨p + 1, by omega, by go_num, by rw [Nat.mul_add]; exact hoq, hbq⟩
                case measure => simp [intOf]; omega
          · obtain rfl : p = n := by omega
            have h2 := h0.below hbp
            obtain ⟨d0', d1', d2', z0', z1', z2', hb', -⟩ := h2.facts
            go_wp2
            go_ret
            rw [H.out, HT.out]
            have lu : (upto l flip (8 * p)).length = p := by rw [length_upto, HN.out]
            have F1 : Fr S w (wr.setCell ⟨b, 1, none⟩ (.slice A3 p c3)) := (F0.trans (S' := Non) (Fr.of_below hbp) (fun _ h => h.elim)).setCell (p := ⟨b, 1, none⟩) (.inl h.inS) h.notB _
            have F2 : Fr S wr (wr.setCell ⟨b, 1, none⟩ (.slice A3 p c3)) := (Fr.refl S wr).setCell (p := ⟨b, 1, none⟩) (.inl h.inS) h2.notB _
            refine ⟨rfl, h.turned F1 (A1' := A1) (c1' := c1) (A2' := A3) (c2' := c3) (R' := ⟨kept, upto l flip (8 * p), true⟩) (by rw [lu]; simpa using h2.blk.set 1 (.slice A3 p c3)) ((h2.own1.fr F2).mono fun _ => .inl) (((Own.of_row hop lu.symm).fr F2).up fun x hx => .inr (Nat.le_trans F0.size hx)) hc1 (by rw [lu]; omega) ?_, F1⟩
            show kept.length + (upto l flip (8 * p)).length ≤ _
            rw [lu]; omega
      · have k1 : (0 : Int) ≤ (kn : Int) := by omega
        have hN : n = rest.length := by omega
        clear hn2
        subst hN
        have k3 : ¬ (kn : Int) < (rest.length : Int) := by omega
        go_wp2_with (go_at_call 34; refine hj.mono ?_; rintro e w1 ⟨A3, c3, rfl, ho3, hc3, hm3, hb3⟩)
        generalize hw0 : w.setCell ⟨b, 2, none⟩ (.bool true) = w0 at *
        have ho := ownsRow_take ho3 (n' := rest.length) (by omega)
        have hlt : rest.take rest.length = l := by rw [← HL.out, List.take_of_length_le (Nat.le_refl _), List.take_of_length_le (by omega)]
        rw [hlt] at ho
        clear ho3 hlt d0 d1 d2 z0 z1 z2 hj
        have hcn : rest.length ≤ c3 := by omega
        have hn4 : rest.length ≤ 4194304 := by omega
        go_loopw [8] (fun i wr => ∃ p : Nat, p ≤ rest.length ∧ i = .int .i64 p ∧ wr.ownsRow w0.heap.size TB 1 (.slice A3 rest.length c3) rest.length ((upto l flip (8 * p)).map byteV) ∧ Below w0.heap.size w0 wr) (fun i _ => rest.length - (intOf i).toNat)
        case atStart =>
          refine ⟨0, by omega, rfl, ?_, hb3⟩
          have : upto l flip (8 * 0) = l := by unfold upto; rw [if_neg (by omega)]
          rw [this]; exact ho
        case round =>
          obtain ⟨p, hp, rfl, hop, hbp⟩ := hrel
          clear ho hb3
          by_cases hpn : p < rest.length
          · have hpn' : (p : Int) < ((rest.length : Nat) : Int) := by omega
            go_wp2
            go_loopw [9] (fun i wr => ∃ q : Nat, q ≤ 8 ∧ i = .int .i64 q ∧ wr.ownsRow w0.heap.size TB 1 (.slice A3 rest.length c3) rest.length ((upto l flip (8 * p + q)).map byteV) ∧ Below w0.heap.size w0 wr) (fun i _ => 8 - (intOf i).toNat)
            case atStart => exact ⟨0, by omega, rfl, hop, hbp⟩
            case round =>
              obtain ⟨q, hq, rfl, hoq, hbq⟩ := hrel
              clear hop hbp
              by_cases hq8 : q < 8
              · by_cases hfl : flip = (8 * p + q : Nat)
                · subst hfl
                  obtain ⟨x, hx⟩ : ∃ x, l[p]? = some x := ⟨_, List.getElem?_eq_getElem (by rw [HN.out]; exact hpn)⟩
                  obtain ⟨u1, u2⟩ := upto_yes l p q x hq8 hx
                  have U2 := Lib.hid u2
                  rw [u1] at hoq
                  obtain ⟨g, cap, hv, hg1, hg2⟩ := hoq.form (by omega)
                  obtain ⟨rfl, rfl⟩ : A3 = some ⟨g, 0, none⟩ ∧ c3 = cap := by injection hv with h1 _ h2; exact ⟨h1, h2⟩
                  have hxc : wr.cell? ⟨g, p, none⟩ = some (.int .u8 (x.toNat : Int)) := by
                    rw [hoq.cellAt _ (by omega), List.getElem?_map, hx]; rfl
                  have hxf := hoq.frozenAt p
                  have hst := (hoq.stored p (byteV (turnByte x q))).1
                  rw [← List.map_set] at hst
                  have eb := rbits x q hq8
                  rw [Nat.min_eq_left (by omega)] at eb
                  have hB := (hbq.setCell (p := ⟨g, p, none⟩) hg1 (byteV (turnByte x q)))
                  have hp0 : (0 : Int) ≤ (p : Int) := by omega
                  have hq0 : (0 : Int) ≤ (q : Int) := by omega
                  have hq1 : (q : Int) < 8 := by omega
                  have e8 : (((8 * p + q : Nat) : Int) == 8 * (p : Int) + (q : Int)) = true := by simp
                  have e9 : ((8 * p + q : Nat) : Int) = 8 * (p : Int) + (q : Int) := by omega
                  clear hv u1 u2 hx
                  go_wp2
                  clear e8 e9
                  refine wp_region_T #[[], [], [], [], [], [], [], [], [5], [5], [5]] [5] (fun w' => w'.cell? ⟨g, p, none⟩ = some (.int .u8 (x.toNat : Int)) ∧ True) 11 rfl (by kernel_rfl) ?_
                  (refine wpAnyT_free (i := 0) rfl (by kernel_rfl) rfl (fun _ _ _ h => h) (by kernel_rfl) (fun _ => by go_simp; try rfl) ?_; (try simp only [Act.put, List.setIfInBounds_toArray, List.set_cons_zero, List.set_cons_succ]))
                  (refine wpAnyT_free (i := 1) rfl (by kernel_rfl) rfl (fun _ _ _ h => h) (by kernel_rfl) (fun _ => by go_simp; try rfl) ?_; (try simp only [Act.put, List.setIfInBounds_toArray, List.set_cons_zero, List.set_cons_succ]))
                  (refine wpAnyT_free (i := 2) rfl (by kernel_rfl) rfl (fun _ _ _ h => h) (by kernel_rfl) (fun _ => by go_simp; try rfl) ?_; (try simp only [Act.put, List.setIfInBounds_toArray, List.set_cons_zero, List.set_cons_succ]))
                  (refine wpAnyT_free (i := 3) rfl (by kernel_rfl) rfl (fun _ _ _ h => h) (by kernel_rfl) (fun _ => by go_simp; try rfl) ?_; (try simp only [Act.put, List.setIfInBounds_toArray, List.set_cons_zero, List.set_cons_succ]))
                  (refine wpAnyT_free (i := 4) rfl (by kernel_rfl) rfl (fun _ _ _ h => h) (by kernel_rfl) (fun _ => by go_simp; try rfl) ?_; (try simp only [Act.put, List.setIfInBounds_toArray, List.set_cons_zero, List.set_cons_succ]))
                  (refine wpAnyT_read (i := 5) rfl (by kernel_rfl) rfl (fun _ _ _ h => h) (by kernel_rfl) (⟨hxc, trivial⟩) (fun w hS_ => by obtain ⟨s_1, s_2⟩ := hS_; go_simp; try rfl) ?_; (try simp only [Act.put, List.setIfInBounds_toArray, List.set_cons_zero, List.set_cons_succ]))
                  (refine wpAnyT_free (i := 6) rfl (by kernel_rfl) rfl (fun _ _ _ h => h) (by kernel_rfl) (fun _ => by go_simp; try rfl) ?_; (try simp only [Act.put, List.setIfInBounds_toArray, List.set_cons_zero, List.set_cons_succ]))
                  (refine wpAnyT_free (i := 7) rfl (by kernel_rfl) rfl (fun _ _ _ h => h) (by kernel_rfl) (fun _ => by go_simp; try rfl) ?_; (try simp only [Act.put, List.setIfInBounds_toArray, List.set_cons_zero, List.set_cons_succ]))
                  (refine wpAnyT_free (i := 8) rfl (by kernel_rfl) rfl (fun _ _ _ h => h) (by kernel_rfl) (fun _ => by go_simp; try rfl) ?_; (try simp only [Act.put, List.setIfInBounds_toArray, List.set_cons_zero, List.set_cons_succ]))
                  (refine wpAnyT_free (i := 9) rfl (by kernel_rfl) rfl (fun _ _ _ h => h) (by kernel_rfl) (fun _ => by go_simp; try rfl) ?_; (try simp only [Act.put, List.setIfInBounds_toArray, List.set_cons_zero, List.set_cons_succ]))
                  refine wpAnyT_sink (i := 10) rfl (by kernel_rfl) rfl (by kernel_rfl) ?_
                  intro K_ hK_
                  go_wp2
                  (try (refine hK_ _ _ ?_; clear hK_ K_))
                  (try simp only [Act.put, List.setIfInBounds_toArray, List.set_cons_zero, List.set_cons_succ])
                  refine wpAnyT_done (by kernel_rfl) ?_ _
                  rw [eb]
                  go_wp2
                  go_roundw
                  case rel => exact ⟨q + 1, by omega, by go_num, by rw [← Nat.add_assoc, U2.out]; exact hst, hB.drew⟩
                  case measure => simp [intOf]; omega
                · have e9 : ¬ flip = 8 * (p : Int) + (q : Int) := by omega
                  have U2 := Lib.hid (upto_no l flip (8 * p + q) hfl)
                  have hq1 : (q : Int) < 8 := by omega
                  go_wp2
                  go_roundw
                  case rel => exact ⟨q + 1, by omega, by go_num, by rw [← Nat.add_assoc, U2.out]; exact hoq, hbq⟩
                  case measure => simp [intOf]; omega
              · obtain rfl : q = 8 := by omega
                go_wp2
                go_roundw
                case rel => exact ⟨p + 1, by omega, by go_num, by rw [Nat.mul_add]; exact hoq, hbq⟩
                case measure => simp [intOf]; omega
          · obtain rfl : p = rest.length := by omega
            have h2 := h0.below hbp
            obtain ⟨d0', d1', d2', z0', z1', z2', hb', -⟩ := h2.facts
            go_wp2
            go_ret
            rw [H.out, HT.out]
            have lu : (upto l flip (8 * rest.length)).length = rest.length := by rw [length_upto, HN.out]
            have F1 : Fr S w (wr.setCell ⟨b, 1, none⟩ (.slice A3 rest.length c3)) := (F0.trans (S' := Non) (Fr.of_below hbp) (fun _ h => h.elim)).setCell (p := ⟨b, 1, none⟩) (.inl h.inS) h.notB _
            have F2 : Fr S wr (wr.setCell ⟨b, 1, none⟩ (.slice A3 rest.length c3)) := (Fr.refl S wr).setCell (p := ⟨b, 1, none⟩) (.inl h.inS) h2.notB _
            refine ⟨rfl, h.turned F1 (A1' := A1) (c1' := c1) (A2' := A3) (c2' := c3) (R' := ⟨kept, upto l flip (8 * rest.length), true⟩) (by rw [lu]; simpa using h2.blk.set 1 (.slice A3 rest.length c3)) ((h2.own1.fr F2).mono fun _ => .inl) (((Own.of_row hop lu.symm).fr F2).up fun x hx => .inr (Nat.le_trans F0.size hx)) hc1 (by rw [lu]; omega) ?_, F1⟩
            show kept.length + (upto l flip (8 * rest.length)).length ≤ _
            rw [lu]; omega
  · have e : (Rk.crash ⟨kept, rest, true⟩ keep flip) = (⟨kept, rest, true⟩, 10) := by simp [Rk.crash]
    have H := Lib.hid e
    clear e
    go_enter Try.func32, Try.ntmps32
    go_wp2
    go_ret
    rw [H.out]
    exact ⟨rfl, h.same, Fr.refl _ _⟩
end Go.Proofs.Ytediidajdpdeiaa
