/- The disk's Copy and Crash: the walks. -/
import Derived.Test.YtediidajdpdeiaaGreatDoorJ2

namespace Go.Proofs.YtediidajdpdeiaaGreatDoor
open Go.RowKit
set_option maxRecDepth 100000

theorem copy_B {S : Nat → Prop} {w : World} {b : Nat} {A : Option Addr} {c : Nat} {D : Dk} (h : DiskAt S w b A c D) :
    Calls Tryz.prog 51 #[.pointer (some ⟨b, 0, none⟩)] w fun e w' => ∃ p, e = .returned p ∧ IsDisk (Nw w w') w' p D ∧ Below w.heap.size w w' := by
  obtain ⟨dn, all, kept⟩ := D
  obtain ⟨c0, c1, c2, c3, z1, z2, z3, hb, hcap, hk, hall⟩ := h.facts
  go_enter Tryz.func51, Tryz.ntmps51
  have F0 : Fr S w (w.alloc (.cells #[.bool true, .bool dn, .slice A all.length c, .int .i64 (kept : Int)] 159)) := (Fr.refl S w).alloc _
  go_wp2_with (first
    | (go_at_call 103; refine (none_at h).mono ?_; rintro e w' ⟨rfl, rfl⟩)
    | (go_at_call 56; refine (clone_B S A all c _ ((h.own.rd S).fr F0) (by omega)).mono ?_; rintro e w1 ⟨A', c', rfl, hor, hc', hm', hbel⟩
       have hn := (Blk.new w 159 #[.bool true, .bool dn, .slice A all.length c, .int .i64 (kept : Int)]).eq (hbel.block w.heap.size (by simp))
       have e2 : w1.cell? ⟨w.heap.size, 2, none⟩ = some (.slice A all.length c) := hn.cell 2 rfl
       have y2 := hn.frozen 2
       have hlt : w.heap.size < w1.heap.size := hn.lt))
  go_ret
  have F1 : Fr S w (w1.setCell ⟨w.heap.size, 2, none⟩ (.slice A' all.length c')) := (F0.trans (S' := Non) (Fr.of_below hbel) (fun _ h => h.elim)).setCell (p := ⟨w.heap.size, 2, none⟩) (.inr (Nat.le_refl _)) (notB_new (Nat.le_refl _)) _
  have F2 : Fr (New w) w1 (w1.setCell ⟨w.heap.size, 2, none⟩ (.slice A' all.length c')) := (Fr.refl _ _).setCell (p := ⟨w.heap.size, 2, none⟩) (.inl (Nat.le_refl _)) (hn.notB (by decide)) _
  have F3 : Fr Non w (w1.setCell ⟨w.heap.size, 2, none⟩ (.slice A' all.length c')) := ((((Fr.refl Non w).alloc _).trans (S' := Non) (Fr.of_below hbel) (fun _ h => h.elim)).setCell (p := ⟨w.heap.size, 2, none⟩) (.inr (Nat.le_refl _)) (notB_new (Nat.le_refl _)) _)
  have ho := (Own.of_row' hor).fr F2
  refine ⟨_, rfl, ⟨w.heap.size, A', c', rfl, by simpa using hn.set 2 (.slice A' all.length c'), ?_, ⟨Nat.le_refl _, by simpa [World.setCell] using hlt⟩, fun x hx => hx.2, hc', h.ok⟩, F3.below (fun _ h => h.elim)⟩
  intro j x hx
  obtain ⟨ad, q1, q2, q3, q4⟩ := ho j x hx
  exact ⟨ad, q1, q2, q3, by have : w.heap.size + 1 ≤ ad.block := by simpa [New] using q4
                            omega, q3.lt⟩

theorem turn_bits_all : ∀ (x : Fin 256) (k : Fin 8), bits .xor .u8 (x.val : Int) (2 ^ min k.val 8 % 256) = ((UInt8.ofNat x.val ^^^ UInt8.ofNat (2 ^ k.val)).toNat : Int) := by decide +kernel
theorem turn_bits (x : UInt8) (k : Nat) (hk : k < 8) : Value.int .u8 (bits .xor .u8 (x.toNat : Int) (2 ^ min k 8 % 256)) = byteV (turnByte x k) := by
  have := turn_bits_all ⟨x.toNat, x.toNat_lt⟩ ⟨k, hk⟩
  simp only [UInt8.ofNat_toNat] at this
  rw [this]; rfl

set_option maxHeartbeats 2000000 in
set_option maxRecDepth 100000 in
/-- a crash -/
theorem crash_B {S : Nat → Prop} {w : World} {b : Nat} {A : Option Addr} {c : Nat} {D : Dk} (h : DiskAt S w b A c D) (keep flip : Int) (hk63 : keep ≤ 9223372036854775807) (hf63 : flip ≤ 9223372036854775807) (hk0 : -9223372036854775808 ≤ keep) (hf0 : -9223372036854775808 ≤ flip) :
    Calls Tryz.prog 125 #[.pointer (some ⟨b, 0, none⟩), .int .i64 keep, .int .i64 flip] w (DiskDid S w (.pointer (some ⟨b, 0, none⟩)) (D.crash keep flip)) := by
  have hok' := Dk.ok_crash h.ok keep flip
  obtain ⟨dn, all, kept⟩ := D
  obtain ⟨c0, c1, c2, c3, z1, z2, z3, hb, hcap, hk, hall⟩ := h.facts
  cases dn
  · by_cases hn : keep < 0
    · have e : (Dk.crash ⟨false, all, kept⟩ keep flip) = (⟨false, all, kept⟩, 2) := by simp [Dk.crash, hn]
      have H := Lib.hid e
      clear e hok'
      go_enter Tryz.func125, Tryz.ntmps125
      go_wp2_with (go_at_call 116; refine (asked_at h).mono ?_; rintro e w' ⟨rfl, rfl⟩)
      go_ret
      rw [H.out]
      exact ⟨rfl, h.same, Fr.refl _ _⟩
    · obtain ⟨kn, rfl⟩ : ∃ m : Nat, keep = m := ⟨keep.toNat, by omega⟩
      have e : (Dk.crash ⟨false, all, kept⟩ kn flip) = (⟨true, all.take kept ++ torn (all.drop kept) kn flip, kept⟩, 0) := by simp [Dk.crash]
      have H := Lib.hid e
      rw [e] at hok'
      clear e
      obtain ⟨n, hn1⟩ : ∃ n : Nat, n = min kn (all.length - kept) := ⟨_, rfl⟩
      have hmin : ∀ w, (Builtin.min_ #[3, 3] 3 #[.int .i64 (kn : Int), .int .i64 ((all.length : Int) - (kept : Int))]).run Tryz.prog w = .ok (.int .i64 (n : Int)) w := by
        intro w
        simp only [Builtin.min_]
        simp [Builtin.min2]
        split <;> omega
      have hn2 : kept + n ≤ all.length := by omega
      have em : (all.take (kept + n)).length = kept + n := by rw [List.length_take]; omega
      have hcl := fun w (hr : Rd S w A all) => clone_B S A (all.take (kept + n)) c w (hr.take (kept + n)) (by omega)
      rw [em] at hcl
      have h1 : DiskAt S (w.setCell ⟨b, 1, none⟩ (.bool true)) b A c ⟨true, all, kept⟩ :=
        ⟨by simpa using h.blk.set 1 (.bool true), h.own.fr ((Fr.refl S w).setCell (p := ⟨b, 1, none⟩) (.inl h.inS) h.notB _), h.inS, by simpa [World.setCell] using h.lt, h.cap, h.ok⟩
      have F1 : Fr S w (w.setCell ⟨b, 1, none⟩ (.bool true)) := (Fr.refl S w).setCell (p := ⟨b, 1, none⟩) (.inl h.inS) h.notB _
      have k0 : (0 : Int) ≤ (kept : Int) + (n : Int) := by omega
      have k1 : (kept : Int) + (n : Int) ≤ (c : Int) := by omega
      have k2 : IntKind.i64.wrap ((all.length : Int) - (kept : Int)) = (all.length : Int) - (kept : Int) := by rw [IntKind.wrap_i64]; omega
      have k3 : IntKind.i64.wrap ((kept : Int) + (n : Int)) = (kept : Int) + (n : Int) := by rw [IntKind.wrap_i64]; omega
      have k4 : ((kept : Int) + (n : Int)).toNat = kept + n := by omega
      have HN := Lib.hid hn1
      clear hn1
      go_enter Tryz.func125, Tryz.ntmps125
      go_wp2_with (go_at_call 116; refine (asked_at h).mono ?_; rintro e w' ⟨rfl, rfl⟩)
      clear c0 c1 c2 c3 z1 z2 z3
      generalize w.setCell ⟨b, 1, none⟩ (.bool true) = w1 at *
      obtain ⟨c0, c1, c2, c3, z1, z2, z3, hb, -⟩ := h1.facts
      refine wp_region_T #[[], [], [], [], [], [], [], [], [], [], [], [], [], [], [13], [], [], [], [], [13, 18], [13, 18], [8, 13, 18], [4, 8, 13, 18], [4, 8, 13, 18], [4, 8, 13, 18], [4, 8, 13, 18], [4, 8, 13, 18]] [4, 8, 13, 18] (fun w' => w'.cell? ⟨b, 2, none⟩ = some (.slice A all.length c) ∧ w'.cell? ⟨b, 3, none⟩ = some (.int .i64 (kept : Int))) 27 rfl (by kernel_rfl) ?_
      (refine wpF (i := 0) rfl (by kernel_rfl) rfl (fun _ _ _ h => h) (fun _ => by go_simp; try rfl) ?_; (try simp only [Act.put, sA, sB, sC]))
      (refine wpF (i := 1) rfl (by kernel_rfl) rfl (fun _ _ _ h => h) (fun _ => by go_simp; try rfl) ?_; (try simp only [Act.put, sA, sB, sC]))
      (refine wpF (i := 2) rfl (by kernel_rfl) rfl (fun _ _ _ h => h) (fun _ => by go_simp; try rfl) ?_; (try simp only [Act.put, sA, sB, sC]))
      (refine wpF (i := 3) rfl (by kernel_rfl) rfl (fun _ _ _ h => h) (fun _ => by go_simp; try rfl) ?_; (try simp only [Act.put, sA, sB, sC]))
      (refine wpAnyT_read (i := 4) rfl (by kernel_rfl) rfl (fun _ _ _ h => h) (by kernel_rfl) (⟨c2, c3⟩) (fun w hS_ => by obtain ⟨s_1, s_2⟩ := hS_; go_simp; try rfl) ?_; (try simp only [Act.put, sA, sB, sC]))
      (refine wpF (i := 5) rfl (by kernel_rfl) rfl (fun _ _ _ h => h) (fun _ => by go_simp; try rfl) ?_; (try simp only [Act.put, sA, sB, sC]))
      (refine wpF (i := 6) rfl (by kernel_rfl) rfl (fun _ _ _ h => h) (fun _ => by go_simp; try rfl) ?_; (try simp only [Act.put, sA, sB, sC]))
      (refine wpF (i := 7) rfl (by kernel_rfl) rfl (fun _ _ _ h => h) (fun _ => by go_simp; try rfl) ?_; (try simp only [Act.put, sA, sB, sC]))
      (refine wpAnyT_read (i := 8) rfl (by kernel_rfl) rfl (fun _ _ _ h => h) (by kernel_rfl) (⟨c2, c3⟩) (fun w hS_ => by obtain ⟨s_1, s_2⟩ := hS_; go_simp; try rfl) ?_; (try simp only [Act.put, sA, sB, sC]))
      (refine wpF (i := 9) rfl (by kernel_rfl) rfl (fun _ _ _ h => h) (fun _ => by go_simp; try rfl) ?_; (try simp only [Act.put, sA, sB, sC]))
      (refine wpF (i := 10) rfl (by kernel_rfl) rfl (fun _ _ _ h => h) (fun _ => by go_simp; try rfl) ?_; (try simp only [Act.put, sA, sB, sC]))
      (refine wpF (i := 11) rfl (by kernel_rfl) rfl (fun _ _ _ h => h) (fun _ => by go_simp; try rfl) ?_; (try simp only [Act.put, sA, sB, sC]))
      (refine wpF (i := 12) rfl (by kernel_rfl) rfl (fun _ _ _ h => h) (fun _ => by go_simp; try rfl) ?_; (try simp only [Act.put, sA, sB, sC]))
      (refine wpAnyT_read (i := 13) rfl (by kernel_rfl) rfl (fun _ _ _ h => h) (by kernel_rfl) (⟨c2, c3⟩) (fun w hS_ => by obtain ⟨s_1, s_2⟩ := hS_; go_simp; try rfl) ?_; (try simp only [Act.put, sA, sB, sC]))
      (refine wpF (i := 14) rfl (by kernel_rfl) rfl (fun _ _ _ h => h) (fun _ => by go_simp; try rfl) ?_; (try simp only [Act.put, sA, sB, sC]))
      (refine wpF (i := 15) rfl (by kernel_rfl) rfl (fun _ _ _ h => h) (fun _ => by go_simp; try rfl) ?_; (try simp only [Act.put, sA, sB, sC]))
      (refine wpF (i := 16) rfl (by kernel_rfl) rfl (fun _ _ _ h => h) (fun _ => by go_simp; try rfl) ?_; (try simp only [Act.put, sA, sB, sC]))
      (refine wpF (i := 17) rfl (by kernel_rfl) rfl (fun _ _ _ h => h) (fun _ => by go_simp; try rfl) ?_; (try simp only [Act.put, sA, sB, sC]))
      (refine wpAnyT_read (i := 18) rfl (by kernel_rfl) rfl (fun _ _ _ h => h) (by kernel_rfl) (⟨c2, c3⟩) (fun w hS_ => by obtain ⟨s_1, s_2⟩ := hS_; go_simp; try rfl) ?_; (try simp only [Act.put, sA, sB, sC]))
      (refine wpF (i := 19) rfl (by kernel_rfl) rfl (fun _ _ _ h => h) (fun _ => by go_simp; try rfl) ?_; (try simp only [Act.put, sA, sB, sC]))
      (refine wpF (i := 20) rfl (by kernel_rfl) rfl (fun _ _ _ h => h) (fun _ => by go_simp; try rfl) ?_; (try simp only [Act.put, sA, sB, sC]))
      (refine wpF (i := 21) rfl (by kernel_rfl) rfl (fun _ _ _ h => h) (fun _ => by go_simp; try rfl) ?_; (try simp only [Act.put, sA, sB, sC]))
      (refine wpF (i := 22) rfl (by kernel_rfl) rfl (fun _ _ _ h => h) (fun _ => by go_simp; try rfl) ?_; (try simp only [Act.put, sA, sB, sC]))
      refine wpAnyT_sink (i := 23) rfl (by kernel_rfl) rfl (by kernel_rfl) ?_
      intro K_ hK_
      go_wp2_with ((go_at_call 56; refine (hcl _ (h1.own.rd S).drew).mono ?_; rintro e w2 ⟨A', c', rfl, hor, hc', hm', hbel⟩; have h2 := h1.drew.below hbel; obtain ⟨d0, d1, d2, d3, y1, y2, y3, hb1, -⟩ := h2.facts))
      (try (refine hK_ _ _ ?_; clear hK_ K_))
      (try simp only [Act.put, sA, sB, sC])
      (refine wpF (i := 24) rfl (by kernel_rfl) rfl (fun _ _ _ h => h) (fun _ => by go_simp; try rfl) ?_; (try simp only [Act.put, sA, sB, sC]))
      (refine wpF (i := 25) rfl (by kernel_rfl) rfl (fun _ _ _ h => h) (fun _ => by go_simp; try rfl) ?_; (try simp only [Act.put, sA, sB, sC]))
      refine wpAnyT_sink (i := 26) rfl (by kernel_rfl) rfl (by kernel_rfl) ?_
      intro K_ hK_
      go_wp2
      (try (refine hK_ _ _ ?_; clear hK_ K_))
      (try simp only [Act.put, sA, sB, sC])
      refine wpAnyT_done (by kernel_rfl) ?_ _
      rw [em] at hor hc'
      have g1 : ¬ IsB w2 b := h2.notB
      have hB : b < w1.drew.heap.size := hb
      have hor3 := ownsRow_setCell_below hor (a := ⟨b, 2, none⟩) hB (.slice A' (kept + n) c')
      have b3 := h2.blk.set 2 (.slice A' (kept + n) c')
      have F3 : Fr S w (w2.setCell ⟨b, 2, none⟩ (.slice A' (kept + n) c')) :=
        ((F1.drew.trans (S' := Non) (Fr.of_below hbel) (fun _ h => h.elim)).setCell (p := ⟨b, 2, none⟩) (.inl h.inS) h.notB _)
      clear d0 d1 d2 d3 y1 y2 y3 hb1 c0 c1 c2 c3 z1 z2 z3 hmin hcl
      generalize w2.setCell ⟨b, 2, none⟩ (.slice A' (kept + n) c') = w3 at *
      have c2 : w3.cell? ⟨b, 2, none⟩ = some (.slice A' (kept + n) c') := b3.cell 2 rfl
      have c3 : w3.cell? ⟨b, 3, none⟩ = some (.int .i64 (kept : Int)) := b3.cell 3 rfl
      have kc : kept + n ≤ c' := hc'
      have k5 : (kept : Int) ≤ (kept : Int) + (n : Int) := by omega
      go_wp2
      refine wp_region_T #[[], [], [], [], [], [], [], [], [3, 7], [3, 7]] [3, 7] (fun w' => w'.cell? ⟨b, 2, none⟩ = some (.slice A' (kept + n) c') ∧ w'.cell? ⟨b, 3, none⟩ = some (.int .i64 (kept : Int))) 10 rfl (by kernel_rfl) ?_
      (refine wpF (i := 0) rfl (by kernel_rfl) rfl (fun _ _ _ h => h) (fun _ => by go_simp; try rfl) ?_; (try simp only [Act.put, sA, sB, sC]))
      (refine wpF (i := 1) rfl (by kernel_rfl) rfl (fun _ _ _ h => h) (fun _ => by go_simp; try rfl) ?_; (try simp only [Act.put, sA, sB, sC]))
      (refine wpF (i := 2) rfl (by kernel_rfl) rfl (fun _ _ _ h => h) (fun _ => by go_simp; try rfl) ?_; (try simp only [Act.put, sA, sB, sC]))
      (refine wpAnyT_read (i := 3) rfl (by kernel_rfl) rfl (fun _ _ _ h => h) (by kernel_rfl) (⟨c2, c3⟩) (fun w hS_ => by obtain ⟨s_1, s_2⟩ := hS_; go_simp; try rfl) ?_; (try simp only [Act.put, sA, sB, sC]))
      (refine wpF (i := 4) rfl (by kernel_rfl) rfl (fun _ _ _ h => h) (fun _ => by go_simp; try rfl) ?_; (try simp only [Act.put, sA, sB, sC]))
      (refine wpF (i := 5) rfl (by kernel_rfl) rfl (fun _ _ _ h => h) (fun _ => by go_simp; try rfl) ?_; (try simp only [Act.put, sA, sB, sC]))
      (refine wpF (i := 6) rfl (by kernel_rfl) rfl (fun _ _ _ h => h) (fun _ => by go_simp; try rfl) ?_; (try simp only [Act.put, sA, sB, sC]))
      (refine wpAnyT_read (i := 7) rfl (by kernel_rfl) rfl (fun _ _ _ h => h) (by kernel_rfl) (⟨c2, c3⟩) (fun w hS_ => by obtain ⟨s_1, s_2⟩ := hS_; go_simp; try rfl) ?_; (try simp only [Act.put, sA, sB, sC]))
      (refine wpF (i := 8) rfl (by kernel_rfl) rfl (fun _ _ _ h => h) (fun _ => by go_simp; try rfl) ?_; (try simp only [Act.put, sA, sB, sC]))
      (refine wpF (i := 9) rfl (by kernel_rfl) rfl (fun _ _ _ h => h) (fun _ => by go_simp; try rfl) ?_; (try simp only [Act.put, sA, sB, sC]))
      refine wpAnyT_done (by kernel_rfl) ?_ _
      have HA := Lib.hid (Eq.refl (if c' = kept then A' else Option.map (fun x => x.add kept) A'))
      generalize hA8 : (if c' = kept then A' else Option.map (fun x => x.add kept) A') = A8
      rw [hA8] at HA
      have HA8 := Lib.hid hA8
      clear hA8 HA
      by_cases hfl : 0 ≤ flip
      · obtain ⟨fl, rfl⟩ : ∃ m : Nat, flip = m := ⟨flip.toNat, by omega⟩
        by_cases hfn : fl / 8 < n
        · have q1 : (0 : Int) ≤ (fl : Int) := by omega
          have q2 : (fl : Int) / 8 < (n : Int) := by omega
          obtain ⟨g, cap, hv, hg1, hg2⟩ := hor3.form (by omega)
          have hA' : A' = some ⟨g, 0, none⟩ := by injection hv
          have hA8 : A8 = some ⟨g, kept, none⟩ := by
            rw [← HA8.out, hA', if_neg (by omega)]
            simp [add_mk]
          subst hA8
          subst hA'
          clear hv HA8
          have hlt : kept + fl / 8 < (all.take (kept + n)).length := by rw [em]; omega
          obtain ⟨x, hx⟩ : ∃ x, (all.take (kept + n))[kept + fl / 8]? = some x := ⟨_, List.getElem?_eq_getElem hlt⟩
          have hxc : w3.cell? ⟨g, kept + fl / 8, none⟩ = some (.int .u8 (x.toNat : Int)) := by
            rw [hor3.cellAt _ (by omega), List.getElem?_map, hx]; rfl
          have hxf := hor3.frozenAt (kept + fl / 8)
          have Hx := Lib.hid hx
          clear hx
          go_wp2
          have q3 : IntKind.i64.wrap ((fl : Int) / 8) = (fl : Int) / 8 := by rw [IntKind.wrap_i64]; omega
          have q4 : (0 : Int) ≤ (fl : Int) / 8 := by omega
          have q5 : ((fl : Int) / 8).toNat = fl / 8 := by omega
          have q6 : IntKind.i64.wrap ((fl : Int) % 8) = (fl : Int) % 8 := by rw [IntKind.wrap_i64]; omega
          have q7 : (0 : Int) ≤ (fl : Int) % 8 := by omega
          have q8 : ((fl : Int) % 8).toNat = fl % 8 := by omega
          refine wp_region_T #[[], [], [], [], [], [], [], [], [4], [4], [4]] [4] (fun w' => w'.cell? ⟨g, kept + fl / 8, none⟩ = some (.int .u8 (x.toNat : Int)) ∧ True) 11 rfl (by kernel_rfl) ?_
          (refine wpF (i := 0) rfl (by kernel_rfl) rfl (fun _ _ _ h => h) (fun _ => by go_simp; try rfl) ?_; (try simp only [Act.put, sA, sB, sC]))
          (refine wpF (i := 1) rfl (by kernel_rfl) rfl (fun _ _ _ h => h) (fun _ => by go_simp; try rfl) ?_; (try simp only [Act.put, sA, sB, sC]))
          (refine wpF (i := 2) rfl (by kernel_rfl) rfl (fun _ _ _ h => h) (fun _ => by go_simp; try rfl) ?_; (try simp only [Act.put, sA, sB, sC]))
          (refine wpF (i := 3) rfl (by kernel_rfl) rfl (fun _ _ _ h => h) (fun _ => by go_simp; try rfl) ?_; (try simp only [Act.put, sA, sB, sC]))
          (refine wpAnyT_read (i := 4) rfl (by kernel_rfl) rfl (fun _ _ _ h => h) (by kernel_rfl) (⟨hxc, trivial⟩) (fun w hS_ => by obtain ⟨s_1, s_2⟩ := hS_; go_simp; try rfl) ?_; (try simp only [Act.put, sA, sB, sC]))
          (refine wpF (i := 5) rfl (by kernel_rfl) rfl (fun _ _ _ h => h) (fun _ => by go_simp; try rfl) ?_; (try simp only [Act.put, sA, sB, sC]))
          (refine wpF (i := 6) rfl (by kernel_rfl) rfl (fun _ _ _ h => h) (fun _ => by go_simp; try rfl) ?_; (try simp only [Act.put, sA, sB, sC]))
          (refine wpF (i := 7) rfl (by kernel_rfl) rfl (fun _ _ _ h => h) (fun _ => by go_simp; try rfl) ?_; (try simp only [Act.put, sA, sB, sC]))
          (refine wpF (i := 8) rfl (by kernel_rfl) rfl (fun _ _ _ h => h) (fun _ => by go_simp; try rfl) ?_; (try simp only [Act.put, sA, sB, sC]))
          (refine wpF (i := 9) rfl (by kernel_rfl) rfl (fun _ _ _ h => h) (fun _ => by go_simp; try rfl) ?_; (try simp only [Act.put, sA, sB, sC]))
          refine wpAnyT_sink (i := 10) rfl (by kernel_rfl) rfl (by kernel_rfl) ?_
          intro K_ hK_
          clear q3 q6; go_wp2
          (try (refine hK_ _ _ ?_; clear hK_ K_))
          (try simp only [Act.put, sA, sB, sC])
          refine wpAnyT_done (by kernel_rfl) ?_ _
          go_wp2
          go_ret
          have et := torn_in all kept kn n fl x HN.out hk hfn Hx.out
          rw [H.out, et]
          rw [et] at hok'
          have eb := turn_bits x (fl % 8) (by omega)
          have hst := (hor3.stored (kept + fl / 8) (byteV (turnByte x (fl % 8)))).1
          rw [← List.map_set] at hst
          have F4 : Fr S w ((w3.setCell ⟨g, kept + fl / 8, none⟩ (byteV (turnByte x (fl % 8)))).drew.drew) :=
            ((F3.setCell (p := ⟨g, kept + fl / 8, none⟩) (.inr (Nat.le_trans F1.size hg1)) (notB_new (Nat.le_trans F1.size hg1)) _).drew).drew
          have hgb : b ≠ g := by have : w1.drew.heap.size = w1.heap.size := rfl
                                 omega
          have es : ((all.take (kept + n)).set (kept + fl / 8) (turnByte x (fl % 8))).length = kept + n := by rw [List.length_set, em]
          rw [eb]
          refine ⟨rfl, h.turned F4 (A' := some ⟨g, 0, none⟩) (D' := ⟨true, (all.take (kept + n)).set (kept + fl / 8) (turnByte x (fl % 8)), kept⟩) ?_ ?_ (by rw [es]; exact kc) hok', F4⟩
          · rw [es]
            have b4 := b3.far (p := ⟨g, kept + fl / 8, none⟩) hgb (byteV (turnByte x (fl % 8)))
            simpa using b4.drew.drew
          · exact Own.drew (Own.drew ((Own.of_row hst es.symm).up (S' := S) (W := w) fun x hx => .inr (Nat.le_trans F1.size hx)))
        · have q1 : (0 : Int) ≤ (fl : Int) := by omega
          have q2 : ¬ (fl : Int) / 8 < (n : Int) := by omega
          clear HA8
          go_wp2
          go_ret
          have et := torn_out all kept kn n fl HN.out hfn
          rw [H.out, et]
          rw [et] at hok'
          exact ⟨rfl, h.turned F3.drew (D' := ⟨true, all.take (kept + n), kept⟩) (by simpa [em] using b3.drew) (Own.drew ((Own.of_row (l := all.take (kept + n)) hor3 em.symm).up (S' := S) (W := w) fun x hx => .inr (Nat.le_trans F1.size hx))) (by rw [em]; exact kc) hok', F3.drew⟩
      · clear HA8
        go_wp2
        go_ret
        have et := torn_none all kept kn n flip HN.out (by omega)
        rw [H.out, et]
        rw [et] at hok'
        exact ⟨rfl, h.turned F3.drew (D' := ⟨true, all.take (kept + n), kept⟩) (by simpa [em] using b3.drew) (Own.drew ((Own.of_row (l := all.take (kept + n)) hor3 em.symm).up (S' := S) (W := w) fun x hx => .inr (Nat.le_trans F1.size hx))) (by rw [em]; exact kc) hok', F3.drew⟩
  · have e : (Dk.crash ⟨true, all, kept⟩ keep flip) = (⟨true, all, kept⟩, 10) := by simp [Dk.crash]
    have H := Lib.hid e
    clear e hok'
    go_enter Tryz.func125, Tryz.ntmps125
    go_wp2_with (go_at_call 116; refine (asked_at h).mono ?_; rintro e w' ⟨rfl, rfl⟩)
    go_ret
    rw [H.out]
    exact ⟨rfl, h.same, Fr.refl _ _⟩
end Go.Proofs.YtediidajdpdeiaaGreatDoor

/- A log in memory (layer 7): what its blocks say. -/
namespace Go.Proofs.YtediidajdpdeiaaGreatDoor
open Go.RowKit CrcM

/-- the type of a segment, of a log, of a pointer to a segment, of bytes -/
abbrev TSg : TypeId := 134
abbrev TLg : TypeId := 132
abbrev TPs : TypeId := 128
abbrev TBs : TypeId := 30
/-- the blocks in which a log's records may lie: all, but for a law that turns a row of its own behind the log's back -/
class Hole where
  T : Nat → Prop
instance (priority := low) : Hole := ⟨fun _ => True⟩
def Any [Hole] : Nat → Prop := Hole.T
def Ever : Nat → Prop := fun _ => True
variable [Hole]
def ptr (b : Nat) : Value := .pointer (some ⟨b, 0, none⟩)

/-- the values of a row say these bytes, each in a row of bytes -/
def Recs (w : World) (vals : List Value) (recs : List (List UInt8)) : Prop :=
  vals.length = recs.length ∧ ∀ (i : Nat) (r : List UInt8), recs[i]? = some r → ∃ (A : Option Addr) (c : Nat), vals[i]? = some (Value.slice A r.length c) ∧ r.length ≤ c ∧ c ≤ maxLen ∧ Own Any w A r

section
variable {w w' : World} {vals : List Value} {recs : List (List UInt8)} {S S' : Nat → Prop}
theorem Recs.fr (h : Recs w vals recs) (f : Fr S' w w') : Recs w' vals recs :=
  ⟨h.1, fun i r hr => by
    obtain ⟨A, c, h1, h2, h3, h4⟩ := h.2 i r hr
    exact ⟨A, c, h1, h2, h3, h4.fr f⟩⟩
theorem Recs.nil (w : World) : Recs w [] [] := ⟨rfl, fun i r h => by simp at h⟩
theorem Recs.snoc (h : Recs w vals recs) {A : Option Addr} {c : Nat} {r : List UInt8} (hc : r.length ≤ c) (hm : c ≤ maxLen) (ho : Own Any w A r) : Recs w (vals ++ [.slice A r.length c]) (recs ++ [r]) := by
  refine ⟨by simp [h.1], fun i x hx => ?_⟩
  by_cases hi : i < recs.length
  · rw [List.getElem?_append_left hi] at hx
    rw [List.getElem?_append_left (by rw [h.1]; exact hi)]
    exact h.2 i x hx
  · rw [List.getElem?_append_right (by omega)] at hx
    rw [List.getElem?_append_right (by rw [h.1]; omega), h.1]
    match hk : i - recs.length, hx with
    | 0, hx =>
      injection hx with hx
      subst hx
      exact ⟨A, c, rfl, hc, hm, ho⟩
    | k + 1, hx => simp at hx
end

/-- block b is a segment -/
structure SegAt (S : Nat → Prop) (w : World) (b : Nat) (g : Sg) : Prop where
  ex : ∃ (Sd Sh : Nat → Prop) (db : Nat) (A : Option Addr) (c : Nat) (rv : Value) (vals : List Value), (∀ x, Sd x → S x) ∧ (∀ x, Sh x → S x) ∧ (∀ x, Sd x → Sh x → IsB w x) ∧ Sh b ∧
    Blk w b TSg #[ptr db, .int .i64 (g.base : Int), rv, .int .i64 (g.safe : Int)] ∧ DiskAt Sd w db A c g.d ∧ Row Sh w TBs rv vals ∧ Recs w vals g.recs
  lt : ∀ x, S x → x < w.heap.size

theorem SegAt.fr {S S' : Nat → Prop} {w w' : World} {b : Nat} {g : Sg} (h : SegAt S w b g) (f : Fr S' w w') (hd : ∀ x, S x → S' x → IsB w x) : SegAt S w' b g := by
  obtain ⟨⟨Sd, Sh, db, A, c, rv, vals, h1, h2, h3, h4, h5, h6, h7, h8⟩, hlt⟩ := h
  exact ⟨⟨Sd, Sh, db, A, c, rv, vals, h1, h2, fun x p q => (h3 x p q).fr f, h4, h5.fr f (fun hs => h5.notB (by decide) (hd _ (h2 _ h4) hs)), h6.fr f (fun x p q => hd x (h1 x p) q), h7.fr f (fun x p q => hd x (h2 x p) q), h8.fr f⟩,
    fun x hx => Nat.lt_of_lt_of_le (hlt x hx) f.size⟩
theorem SegAt.mono {S S' : Nat → Prop} {w : World} {b : Nat} {g : Sg} (h : SegAt S w b g) (hs : ∀ x, S x → S' x) (hl : ∀ x, S' x → x < w.heap.size) : SegAt S' w b g := by
  obtain ⟨⟨Sd, Sh, db, A, c, rv, vals, h1, h2, h⟩, hlt⟩ := h
  exact ⟨⟨Sd, Sh, db, A, c, rv, vals, fun x p => hs x (h1 x p), fun x p => hs x (h2 x p), h⟩, hl⟩

/-- blocks ps are segments, each for itself, none in H -/
def Segs (S H : Nat → Prop) (w : World) (ps : List Nat) (gs : List Sg) : Prop :=
  ∃ F : Nat → Nat → Prop, (∀ i x, F i x → S x ∧ ¬ H x ∧ x < w.heap.size) ∧ (∀ i j x, i ≠ j → F i x → F j x → IsB w x) ∧ ps.length = gs.length ∧ ∀ i p g, ps[i]? = some p → gs[i]? = some g → SegAt (F i) w p g

omit [Hole] in
theorem set_at {α : Type} {l : List α} {i j : Nat} {a b : α} (h : (l.set i a)[j]? = some b) : (j = i ∧ b = a) ∨ (j ≠ i ∧ l[j]? = some b) := by
  rw [List.getElem?_set] at h
  split at h
  · split at h
    · injection h with h
      left; exact ⟨by omega, h.symm⟩
    · cases h
  · right; exact ⟨by omega, h⟩

section
variable {w w' : World} {S S' H H' : Nat → Prop} {ps : List Nat} {gs : List Sg}
theorem Segs.nil (S H : Nat → Prop) (w : World) : Segs S H w [] [] := ⟨fun _ _ => False, fun _ _ h => h.elim, fun _ _ _ _ h => h.elim, rfl, fun i p g h => by simp at h⟩
theorem Segs.len (h : Segs S H w ps gs) : ps.length = gs.length := h.choose_spec.2.2.1
theorem Segs.fr (h : Segs S H w ps gs) (f : Fr S' w w') (hd : ∀ x, S x → ¬ H x → S' x → IsB w x) : Segs S H w' ps gs := by
  obtain ⟨F, h1, h2, h3, h4⟩ := h
  exact ⟨F, fun i x hx => ⟨(h1 i x hx).1, (h1 i x hx).2.1, Nat.lt_of_lt_of_le (h1 i x hx).2.2 f.size⟩, fun i j x n p q => (h2 i j x n p q).fr f, h3, fun i p g hp hg => (h4 i p g hp hg).fr f fun x p q => hd x (h1 i x p).1 (h1 i x p).2.1 q⟩
theorem Segs.mono (h : Segs S H w ps gs) (hs : ∀ x, x < w.heap.size → S x → S' x) (hh : ∀ x, x < w.heap.size → S x → H' x → H x) : Segs S' H' w ps gs := by
  obtain ⟨F, h1, h2, h3, h4⟩ := h
  exact ⟨F, fun i x hx => ⟨hs x (h1 i x hx).2.2 (h1 i x hx).1, fun k => (h1 i x hx).2.1 (hh x (h1 i x hx).2.2 (h1 i x hx).1 k), (h1 i x hx).2.2⟩, h2, h3, h4⟩
/-- one segment alone, and what becomes of all when it turns -/
theorem Segs.at (h : Segs S H w ps gs) {i p : Nat} {g : Sg} (hp : ps[i]? = some p) (hg : gs[i]? = some g) :
    ∃ Fi : Nat → Prop, (∀ x, Fi x → S x ∧ ¬ H x ∧ x < w.heap.size) ∧ SegAt Fi w p g ∧
      ∀ w' p' g', Fr Fi w w' → (∀ x, H x → x < w.heap.size) → SegAt (Up Fi w w') w' p' g' → Segs (Up S w w') H w' (ps.set i p') (gs.set i g') := by
  obtain ⟨F, h1, h2, h3, h4⟩ := h
  refine ⟨F i, h1 i, h4 i p g hp hg, fun w' p' g' f hH hs => ?_⟩
  refine ⟨fun j x => (j = i → Up (F i) w w' x) ∧ (j ≠ i → F j x), ?_, ?_, by rw [List.length_set, List.length_set]; exact h3, ?_⟩
  · intro j x hx
    by_cases hj : j = i
    · rcases hx.1 hj with hx | hx
      · exact ⟨.inl (h1 i x hx).1, (h1 i x hx).2.1, Nat.lt_of_lt_of_le (h1 i x hx).2.2 f.size⟩
      · exact ⟨.inr hx, fun k => by have := hH x k; omega, hx.2⟩
    · have hx := hx.2 hj
      exact ⟨.inl (h1 j x hx).1, (h1 j x hx).2.1, Nat.lt_of_lt_of_le (h1 j x hx).2.2 f.size⟩
  · intro j k x hn hj hk
    by_cases h5 : j = i
    · have h6 : k ≠ i := by omega
      have hk := hk.2 h6
      rcases hj.1 h5 with hj | hj
      · exact (h2 i k x (by omega) hj hk).fr f
      · have := (h1 k x hk).2.2; omega
    · have hj := hj.2 h5
      by_cases h6 : k = i
      · rcases hk.1 h6 with hk | hk
        · exact (h2 j i x h5 hj hk).fr f
        · have := (h1 j x hj).2.2; omega
      · exact (h2 j k x hn hj (hk.2 h6)).fr f
  · intro j q g2 hq hg2
    by_cases hji : j = i
    · rcases set_at hq with ⟨_, rfl⟩ | ⟨h, _⟩
      · rcases set_at hg2 with ⟨_, rfl⟩ | ⟨h, _⟩
        · exact hs.mono (fun x hx => ⟨fun _ => hx, fun h => (h hji).elim⟩) (fun x hx => hs.lt x (hx.1 hji))
        · exact (h hji).elim
      · exact (h hji).elim
    · rcases set_at hq with ⟨h, _⟩ | ⟨_, hq⟩
      · exact (hji h).elim
      · rcases set_at hg2 with ⟨h, _⟩ | ⟨_, hg2⟩
        · exact (hji h).elim
        · have := (h4 j q g2 hq hg2).fr f fun x p q => h2 j i x hji p q
          exact this.mono (fun x hx => ⟨fun h => (hji h).elim, fun _ => hx⟩) (fun x hx => this.lt x (hx.2 hji))
/-- one more, of its own -/
theorem Segs.snoc (h : Segs S H w ps gs) (f : Fr S' w w') (hd : ∀ x, S x → ¬ H x → S' x → IsB w x) (hH : ∀ x, H x → x < w.heap.size) {p : Nat} {g : Sg} (hs : SegAt (Nw w w') w' p g) : Segs (Up S w w') H w' (ps ++ [p]) (gs ++ [g]) := by
  have h' := h.fr f hd
  obtain ⟨F, h1, h2, h3, h4⟩ := h
  refine ⟨fun j x => (j = ps.length → Nw w w' x) ∧ (j ≠ ps.length → F j x), ?_, ?_, by simp [h3], ?_⟩
  · intro j x hx
    by_cases hj : j = ps.length
    · have hx := hx.1 hj
      exact ⟨.inr hx, fun k => by have := hH x k; have := hx.1; omega, hx.2⟩
    · have hx := hx.2 hj
      exact ⟨.inl (h1 j x hx).1, (h1 j x hx).2.1, Nat.lt_of_lt_of_le (h1 j x hx).2.2 f.size⟩
  · intro j k x hn hj hk
    by_cases h5 : j = ps.length
    · have h6 : k ≠ ps.length := by omega
      have := (h1 k x (hk.2 h6)).2.2
      have := (hj.1 h5).1
      omega
    · by_cases h6 : k = ps.length
      · have := (h1 j x (hj.2 h5)).2.2
        have := (hk.1 h6).1
        omega
      · exact (h2 j k x hn (hj.2 h5) (hk.2 h6)).fr f
  · intro j q g2 hq hg2
    by_cases hj : j = ps.length
    · subst hj
      rw [List.getElem?_append_right (Nat.le_refl _)] at hq
      rw [h3, List.getElem?_append_right (Nat.le_refl _)] at hg2
      simp only [Nat.sub_self, List.getElem?_cons_zero, Option.some.injEq] at hq hg2
      subst hq; subst hg2
      exact hs.mono (fun x hx => ⟨fun _ => hx, fun h => (h rfl).elim⟩) (fun x hx => hs.lt x (hx.1 rfl))
    · have hlt : j < ps.length := by
        have := (List.getElem?_eq_some_iff.1 hq).1
        rw [List.length_append, List.length_singleton] at this
        omega
      rw [List.getElem?_append_left hlt] at hq
      rw [List.getElem?_append_left (by omega)] at hg2
      have := (h4 j q g2 hq hg2).fr f fun x p q => hd x (h1 j x p).1 (h1 j x p).2.1 q
      exact this.mono (fun x hx => ⟨fun h => (hj h).elim, fun _ => hx⟩) (fun x hx => this.lt x (hx.2 hj))
theorem Segs.tail {p : Nat} {g : Sg} (h : Segs S H w (p :: ps) (g :: gs)) : Segs S H w ps gs := by
  obtain ⟨F, h1, h2, h3, h4⟩ := h
  exact ⟨fun j => F (j + 1), fun i => h1 (i + 1), fun i j x n => h2 (i + 1) (j + 1) x (by omega), by simpa using h3, fun i p g hp hg => h4 (i + 1) p g (by simpa using hp) (by simpa using hg)⟩
theorem Segs.take (h : Segs S H w ps gs) (n : Nat) : Segs S H w (ps.take n) (gs.take n) := by
  obtain ⟨F, h1, h2, h3, h4⟩ := h
  refine ⟨F, h1, h2, by simp [h3], fun i p g hp hg => ?_⟩
  rw [List.getElem?_take] at hp hg
  split at hp
  · rename_i hi
    rw [if_pos hi] at hg
    exact h4 i p g hp hg
  · cases hp
end

/-- block b is a log: all of it laid open -/
structure LogO (S H : Nat → Prop) (w : World) (b : Nat) (A : Option Addr) (c : Nat) (ps : List Nat) (L : Lg) : Prop where
  hS : ∀ x, H x → S x
  hb : H b
  blk : Blk w b TLg #[.int .i64 (L.per : Int), .slice A ps.length c, .bool L.down]
  row : Row H w TPs (.slice A ps.length c) (ps.map ptr)
  segs : Segs S H w ps L.segs
  lt : ∀ x, S x → x < w.heap.size
  ok : L.ok
  hole : ∀ x, w.heap.size ≤ x → Any x

def LogAt (S : Nat → Prop) (w : World) (b : Nat) (L : Lg) : Prop := L.up ∧ ∃ (H : Nat → Prop) (A : Option Addr) (c : Nat) (ps : List Nat), LogO S H w b A c ps L

theorem LogO.fr {S S' H : Nat → Prop} {w w' : World} {b : Nat} {A : Option Addr} {c : Nat} {ps : List Nat} {L : Lg} (h : LogO S H w b A c ps L) (f : Fr S' w w') (hd : ∀ x, S x → S' x → IsB w x) : LogO S H w' b A c ps L :=
  ⟨h.hS, h.hb, h.blk.fr f (fun hs => h.blk.notB (by decide) (hd _ (h.hS _ h.hb) hs)), h.row.fr f (fun x p q => hd x (h.hS x p) q), h.segs.fr f (fun x p _ q => hd x p q), fun x hx => Nat.lt_of_lt_of_le (h.lt x hx) f.size, h.ok, fun x hx => h.hole x (Nat.le_trans f.size hx)⟩
theorem LogO.below {S H : Nat → Prop} {w w' : World} {b : Nat} {A : Option Addr} {c : Nat} {ps : List Nat} {L : Lg} (h : LogO S H w b A c ps L) (hb : Below w.heap.size w w') : LogO S H w' b A c ps L :=
  h.fr (S' := Non) (Fr.of_below hb) (fun _ _ h => h.elim)
theorem LogO.mono {S S' H : Nat → Prop} {w : World} {b : Nat} {A : Option Addr} {c : Nat} {ps : List Nat} {L : Lg} (h : LogO S H w b A c ps L) (hs : ∀ x, S x → S' x) (hl : ∀ x, S' x → x < w.heap.size) : LogO S' H w b A c ps L :=
  ⟨fun x p => hs x (h.hS x p), h.hb, h.blk, h.row, h.segs.mono (fun x _ => hs x) (fun _ _ _ h => h), hl, h.ok, h.hole⟩

/-- what a walk wants to know of a log -/
theorem LogO.facts {S H : Nat → Prop} {w : World} {b : Nat} {A : Option Addr} {c per : Nat} {ps : List Nat} {gs : List Sg} {dn : Bool} (h : LogO S H w b A c ps ⟨per, gs, dn⟩) :
    w.cell? ⟨b, 0, none⟩ = some (.int .i64 (per : Int)) ∧ w.cell? ⟨b, 1, none⟩ = some (.slice A ps.length c) ∧ w.cell? ⟨b, 2, none⟩ = some (.bool dn) ∧ w.frozen? ⟨b, 1, none⟩ = false ∧ w.frozen? ⟨b, 2, none⟩ = false ∧
    ((per : Int) == 0) = false ∧ ps.length = gs.length ∧ ps.length ≤ 256 ∧ ps.length ≤ c ∧ c ≤ 9223372036854775807 := by
  have h1 := h.segs.len
  have h2 := h.ok.2.2.1
  have h3 := h.ok.1
  simp only at h1 h2 h3
  obtain ⟨A', c', h4, h5, h6⟩ := h.row.val
  injection h4 with _ _ h4
  subst h4
  unfold maxLen at h6
  rw [List.length_map] at h5
  exact ⟨h.blk.cell 0 rfl, h.blk.cell 1 rfl, h.blk.cell 2 rfl, h.blk.frozen 1, h.blk.frozen 2, by simp; omega, h1, by omega, h5, h6⟩

/-- the k-th segment's place -/
theorem LogO.ptrAt {S H : Nat → Prop} {w : World} {b : Nat} {A : Option Addr} {c : Nat} {ps : List Nat} {L : Lg} (h : LogO S H w b A c ps L) {k p : Nat} (hp : ps[k]? = some p) : ∃ ad, A = some ad ∧ w.cell? (ad.add k) = some (.pointer (some ⟨p, 0, none⟩)) := by
  obtain ⟨g, o, c', h1, h2, h3, h4, _⟩ := h.row.cell (k := k) (u := ptr p) (by rw [List.getElem?_map, hp]; rfl)
  injection h1 with h1
  exact ⟨_, h1, by rw [add_mk]; exact h4⟩

theorem LogO.ptrAt2 {S H : Nat → Prop} {w : World} {b : Nat} {A : Option Addr} {c : Nat} {ps : List Nat} {L : Lg} (h : LogO S H w b A c ps L) {k p : Nat} (hp : ps[k]? = some p) : ∃ g o, A = some ⟨g, o, none⟩ ∧ w.cell? ⟨g, o + k, none⟩ = some (.pointer (some ⟨p, 0, none⟩)) := by
  obtain ⟨g, o, c', h1, h2, h3, h4, _⟩ := h.row.cell (k := k) (u := ptr p) (by rw [List.getElem?_map, hp]; rfl)
  injection h1 with h1
  exact ⟨g, o, h1, h4⟩

/-- what a walk wants to know of a segment -/
theorem SegAt.facts {S : Nat → Prop} {w : World} {p : Nat} {d : Dk} {base safe : Nat} {recs : List (List UInt8)} (h : SegAt S w p ⟨d, base, recs, safe⟩) :
    ∃ db R c, w.cell? ⟨p, 0, none⟩ = some (.pointer (some ⟨db, 0, none⟩)) ∧ w.cell? ⟨p, 1, none⟩ = some (.int .i64 (base : Int)) ∧ w.cell? ⟨p, 2, none⟩ = some (.slice R recs.length c) ∧ w.cell? ⟨p, 3, none⟩ = some (.int .i64 (safe : Int)) ∧
      w.frozen? ⟨p, 2, none⟩ = false ∧ w.frozen? ⟨p, 3, none⟩ = false := by
  obtain ⟨⟨Sd, Sh, db, A, c, rv, vals, h1, h2, h3, h4, h5, h6, h7, h8⟩, hlt⟩ := h
  obtain ⟨R, c', rfl, _⟩ := h7.val
  have e := h8.1
  simp only at e
  rw [e] at h5
  exact ⟨db, R, c', h5.cell 0 rfl, h5.cell 1 rfl, h5.cell 2 rfl, h5.cell 3 rfl, h5.frozen 2, h5.frozen 3⟩
theorem Segs.facts {S H : Nat → Prop} {w : World} {ps : List Nat} {gs : List Sg} {k : Nat} {d : Dk} {base safe : Nat} {recs : List (List UInt8)} (h : Segs S H w ps gs) (hk : gs[k]? = some ⟨d, base, recs, safe⟩) :
    ∃ p, ps[k]? = some p ∧ ∃ db R c, w.cell? ⟨p, 0, none⟩ = some (.pointer (some ⟨db, 0, none⟩)) ∧ w.cell? ⟨p, 1, none⟩ = some (.int .i64 (base : Int)) ∧ w.cell? ⟨p, 2, none⟩ = some (.slice R recs.length c) ∧ w.cell? ⟨p, 3, none⟩ = some (.int .i64 (safe : Int)) ∧
      w.frozen? ⟨p, 2, none⟩ = false ∧ w.frozen? ⟨p, 3, none⟩ = false := by
  have hl := h.len
  have hlt := (List.getElem?_eq_some_iff.1 hk).1
  obtain ⟨F, h1, h2, h3, h4⟩ := h
  have hp : ps[k]? = some ps[k] := List.getElem?_eq_getElem (by omega)
  exact ⟨_, hp, (h4 k _ _ hp hk).facts⟩

omit [Hole] in
theorem Up.lt {S : Nat → Prop} {w w' : World} (h : ∀ x, S x → x < w.heap.size) (hs : w.heap.size ≤ w'.heap.size) : ∀ x, Up S w w' x → x < w'.heap.size := fun x hx => hx.elim (fun hx => Nat.lt_of_lt_of_le (h x hx) hs) (fun h => h.2)
/-- a segment's disk, and what becomes of the log when it turns -/
theorem LogO.disk {S H : Nat → Prop} {w : World} {b : Nat} {A : Option Addr} {c : Nat} {ps : List Nat} {per : Nat} {gs : List Sg} {dn : Bool} (h : LogO S H w b A c ps ⟨per, gs, dn⟩) {k p : Nat} {d : Dk} {base safe : Nat} {recs : List (List UInt8)} (hp : ps[k]? = some p) (hg : gs[k]? = some ⟨d, base, recs, safe⟩) :
    ∃ (Sd : Nat → Prop) (db : Nat) (R : Option Addr) (cR : Nat), w.cell? ⟨p, 0, none⟩ = some (.pointer (some ⟨db, 0, none⟩)) ∧ DiskAt Sd w db R cR d ∧ (∀ x, Sd x → S x) ∧
      ∀ w' d', Fr Sd w w' → IsDisk (Up Sd w w') w' (.pointer (some ⟨db, 0, none⟩)) d' → LogO (Up S w w') H w' b A c ps ⟨per, gs.set k ⟨d', base, recs, safe⟩, dn⟩ := by
  have hH : ∀ x, H x → x < w.heap.size := fun x hx => h.lt x (h.hS x hx)
  obtain ⟨Fi, hF, hs, hup⟩ := h.segs.at hp hg
  obtain ⟨⟨Sd, Sh, db, R, cR, rv, vals, h1, h2, h3, h4, h5, h6, h7, h8⟩, hlt⟩ := hs
  refine ⟨Sd, db, R, cR, h5.cell 0 rfl, h6, fun x hx => (hF x (h1 x hx)).1, fun w' d' f hd => ?_⟩
  obtain ⟨db', R', cR', e, hd⟩ := hd
  injection e with e
  injection e with e
  injection e with e
  subst e
  have hps : ps.set k p = ps := by
    apply List.ext_getElem?
    intro i
    rw [List.getElem?_set]
    split
    · rename_i hi
      subst hi
      rw [if_pos (List.getElem?_eq_some_iff.1 hp).1, hp]
    · rfl
  have hS := hup w' p ⟨d', base, recs, safe⟩ (f.mono fun x _ hx => h1 x hx) hH
    ⟨⟨Up Sd w w', Sh, db, R', cR', rv, vals, fun x hx => hx.imp_left (h1 x), fun x hx => .inl (h2 x hx), fun x hx hy => by
        rcases hx with hx | hx
        · exact (h3 x hx hy).fr f
        · have := hlt x (h2 x hy); omega,
      h4, h5.fr f (fun hs => h5.notB (by decide) (h3 _ hs h4)), hd, h7.fr f (fun x p q => h3 x q p), h8.fr f⟩, Up.lt hlt f.size⟩
  rw [hps] at hS
  refine ⟨fun x hx => .inl (h.hS x hx), h.hb, ?_, ?_, hS, Up.lt h.lt f.size, ⟨h.ok.1, h.ok.2.1, by have := h.ok.2.2.1; simpa using this, ?_⟩, fun x hx => h.hole x (Nat.le_trans f.size hx)⟩
  · exact h.blk.fr f fun hs => (hF b (h1 b hs)).2.1 h.hb
  · exact h.row.fr f fun x p q => ((hF x (h1 x q)).2.1 p).elim
  · intro g hg'
    rcases List.mem_or_eq_of_mem_set hg' with hm | rfl
    · exact h.ok.2.2.2 g hm
    · exact h.ok.2.2.2 ⟨d, base, recs, safe⟩ (List.mem_of_getElem? hg)

/-- a segment's safe number is written -/
theorem LogO.setSafe {S H : Nat → Prop} {w : World} {b : Nat} {A : Option Addr} {c : Nat} {ps : List Nat} {per : Nat} {gs : List Sg} {dn : Bool} (h : LogO S H w b A c ps ⟨per, gs, dn⟩) {k p : Nat} {d : Dk} {base safe : Nat} {recs : List (List UInt8)} (hp : ps[k]? = some p) (hg : gs[k]? = some ⟨d, base, recs, safe⟩)
    (n : Nat) (hn : n ≤ recs.length) : LogO S H (w.setCell ⟨p, 3, none⟩ (.int .i64 (n : Int))) b A c ps ⟨per, gs.set k ⟨d, base, recs, n⟩, dn⟩ ∧ Fr S w (w.setCell ⟨p, 3, none⟩ (.int .i64 (n : Int))) := by
  have hH : ∀ x, H x → x < w.heap.size := fun x hx => h.lt x (h.hS x hx)
  obtain ⟨Fi, hF, hs, hup⟩ := h.segs.at hp hg
  obtain ⟨⟨Sd, Sh, db, R, cR, rv, vals, h1, h2, h3, h4, h5, h6, h7, h8⟩, hlt⟩ := hs
  have hnb : ¬ IsB w p := h5.notB (by decide)
  have f : Fr Fi w (w.setCell ⟨p, 3, none⟩ (.int .i64 (n : Int))) := (Fr.refl _ _).setCell (p := ⟨p, 3, none⟩) (.inl (h2 p h4)) hnb _
  have f1 : Fr (fun x => x = p) w (w.setCell ⟨p, 3, none⟩ (.int .i64 (n : Int))) := (Fr.refl (fun x => x = p) _).setCell (p := ⟨p, 3, none⟩) (.inl (show p = p from rfl)) hnb _
  have hsz : (w.setCell ⟨p, 3, none⟩ (.int .i64 (n : Int))).heap.size = w.heap.size := by simp [World.setCell]
  have hps : ps.set k p = ps := by
    apply List.ext_getElem?
    intro i
    rw [List.getElem?_set]
    split
    · rename_i hi
      subst hi
      rw [if_pos (List.getElem?_eq_some_iff.1 hp).1, hp]
    · rfl
  have hrp : ∀ x, Sd x → x = p → IsB w x := fun x hx e => h3 x hx (e ▸ h4)
  have hS := hup _ p ⟨d, base, recs, n⟩ f hH
    ⟨⟨Sd, Sh, db, R, cR, rv, vals, fun x hx => .inl (h1 x hx), fun x hx => .inl (h2 x hx), fun x hx hy => (h3 x hx hy).fr f, h4, by simpa using h5.set 3 (.int .i64 (n : Int)), h6.fr f1 hrp, ?_, h8.fr f⟩, Up.lt hlt f.size⟩
  · rw [hps] at hS
    refine ⟨⟨h.hS, h.hb, ?_, ?_, hS.mono (fun x _ hx => hx.resolve_right (by omega)) (fun _ _ _ h => h), fun x hx => by rw [hsz]; exact h.lt x hx, ⟨h.ok.1, h.ok.2.1, by have := h.ok.2.2.1; simpa using this, ?_⟩, fun x hx => h.hole x (Nat.le_trans f.size hx)⟩, f.mono fun x _ hx => (hF x hx).1⟩
    · exact h.blk.fr f fun hs => (hF b hs).2.1 h.hb
    · exact h.row.fr f fun x p q => ((hF x q).2.1 p).elim
    · intro g hg'
      rcases List.mem_or_eq_of_mem_set hg' with hm | rfl
      · exact h.ok.2.2.2 g hm
      · have := h.ok.2.2.2 ⟨d, base, recs, safe⟩ (List.mem_of_getElem? hg)
        exact ⟨this.1, this.2.1, hn, this.2.2.2⟩
  · exact h7.otherBlk h5 (by decide) f1

def IsLog (S : Nat → Prop) (w : World) (p : Value) (L : Lg) : Prop := ∃ b, p = ptr b ∧ LogAt S w b L

theorem LogAt.fr {S S' : Nat → Prop} {w w' : World} {b : Nat} {L : Lg} (h : LogAt S w b L) (f : Fr S' w w') (hd : ∀ x, S x → S' x → IsB w x) : LogAt S w' b L := by
  obtain ⟨hu, H, A, c, ps, h⟩ := h
  exact ⟨hu, H, A, c, ps, h.fr f hd⟩
theorem LogAt.mono {S S' : Nat → Prop} {w : World} {b : Nat} {L : Lg} (h : LogAt S w b L) (hs : ∀ x, S x → S' x) (hl : ∀ x, S' x → x < w.heap.size) : LogAt S' w b L := by
  obtain ⟨hu, H, A, c, ps, h⟩ := h
  exact ⟨hu, H, A, c, ps, h.mono hs hl⟩
theorem LogAt.below {S : Nat → Prop} {w w' : World} {b : Nat} {L : Lg} (h : LogAt S w b L) (hb : Below w.heap.size w w') : LogAt S w' b L := h.fr (S' := Non) (Fr.of_below hb) (fun _ _ h => h.elim)
theorem IsLog.fr {S S' : Nat → Prop} {w w' : World} {p : Value} {L : Lg} (h : IsLog S w p L) (f : Fr S' w w') (hd : ∀ x, S x → S' x → IsB w x) : IsLog S w' p L := by
  obtain ⟨b, rfl, h⟩ := h
  exact ⟨b, rfl, h.fr f hd⟩

/-- a record is put behind a segment's -/
theorem LogO.recAt {S H : Nat → Prop} {w : World} {b : Nat} {A : Option Addr} {c : Nat} {ps : List Nat} {per : Nat} {gs : List Sg} {dn : Bool} (h : LogO S H w b A c ps ⟨per, gs, dn⟩) {k p : Nat} {d : Dk} {base safe : Nat} {recs : List (List UInt8)} (hp : ps[k]? = some p) (hg : gs[k]? = some ⟨d, base, recs, safe⟩) :
    ∃ (Sh : Nat → Prop) (R : Option Addr) (cr : Nat) (vals : List Value), w.cell? ⟨p, 2, none⟩ = some (.slice R recs.length cr) ∧ Row Sh w TBs (.slice R recs.length cr) vals ∧ vals.length = recs.length ∧ (∀ x, Sh x → S x) ∧ (Value.slice R recs.length cr).ownBlock ≠ some p ∧ w.frozen? ⟨p, 2, none⟩ = false ∧
      ∀ w' R' c' r A3 c3, Row (Up Sh w w') w' TBs (.slice R' (recs.length + 1) c') (vals ++ [.slice A3 r.length c3]) → Fr Sh w w' → (∀ x, x < w.heap.size → (Value.slice R recs.length cr).ownBlock ≠ some x → w'.heap[x]? = w.heap[x]?) → r.length ≤ c3 → c3 ≤ maxLen → Own (fun x => w.heap.size ≤ x) w' A3 r →
        recs.length < 349525 → r.length ≤ 65536 → LogO (Up S w w') H (w'.setCell ⟨p, 2, none⟩ (.slice R' (recs.length + 1) c')) b A c ps ⟨per, gs.set k ⟨d, base, recs ++ [r], safe⟩, dn⟩ ∧ Fr S w (w'.setCell ⟨p, 2, none⟩ (.slice R' (recs.length + 1) c')) := by
  have hH : ∀ x, H x → x < w.heap.size := fun x hx => h.lt x (h.hS x hx)
  obtain ⟨Fi, hF, hs, hup⟩ := h.segs.at hp hg
  obtain ⟨⟨Sd, Sh, db, Rd, cR, rv, vals, h1, h2, h3, h4, h5, h6, h7, h8⟩, hlt⟩ := hs
  obtain ⟨R, cr, rfl, _⟩ := h7.val
  have hvl := h8.1
  simp only at hvl
  rw [hvl] at h5 h7
  refine ⟨Sh, R, cr, vals, h5.cell 2 rfl, h7, hvl, fun x hx => (hF x (h2 x hx)).1, h7.ownNe h5 (by decide), h5.frozen 2, fun w' R' c' r A3 c3 hrow f hoth hc3 hm3 ho hn hr => ?_⟩
  have hps : ps.set k p = ps := by
    apply List.ext_getElem?
    intro i
    rw [List.getElem?_set]
    split
    · rename_i hi
      subst hi
      rw [if_pos (List.getElem?_eq_some_iff.1 hp).1, hp]
    · rfl
  have b5 : Blk w' p TSg _ := h5.eq (hoth p h5.lt (h7.ownNe h5 (by decide)))
  have hnb : ¬ IsB w' p := b5.notB (by decide)
  have f1 : Fr (fun x => x = p) w' (w'.setCell ⟨p, 2, none⟩ (.slice R' (recs.length + 1) c')) := (Fr.refl (fun x => x = p) _).setCell (p := ⟨p, 2, none⟩) (.inl (show p = p from rfl)) hnb _
  have f2 : Fr Sh w (w'.setCell ⟨p, 2, none⟩ (.slice R' (recs.length + 1) c')) := f.trans' f1 (fun x _ e => e ▸ h4)
  have hsz : (w'.setCell ⟨p, 2, none⟩ (.slice R' (recs.length + 1) c')).heap.size = w'.heap.size := by simp [World.setCell]
  have hS := hup _ p ⟨d, base, recs ++ [r], safe⟩ (f2.mono fun x _ hx => h2 x hx) hH
    ⟨⟨Sd, Up Sh w w', db, Rd, cR, _, vals ++ [.slice A3 r.length c3], fun x hx => .inl (h1 x hx), fun x hx => by rcases hx with hx | hx; exact .inl (h2 x hx); exact .inr ⟨hx.1, by rw [hsz]; exact hx.2⟩, fun x hx hy => by
        rcases hy with hy | hy
        · exact (h3 x hx hy).fr f2
        · have := hlt x (h1 x hx); omega,
      .inl h4, by simpa using b5.set 2 (.slice R' (recs.length + 1) c'), h6.fr f2 (fun x p q => h3 x p q), hrow.otherBlk b5 (by decide) f1, ((h8.fr f).snoc hc3 hm3 (ho.mono h.hole)).fr f1⟩, Up.lt hlt f2.size⟩
  rw [hps] at hS
  have hSS : ∀ x, Up S w (w'.setCell ⟨p, 2, none⟩ (.slice R' (recs.length + 1) c')) x → Up S w w' x := fun x hx => hx.imp_right (fun h => ⟨h.1, by rw [hsz] at h; exact h.2⟩)
  refine ⟨⟨fun x hx => .inl (h.hS x hx), h.hb, ?_, ?_, hS.mono (fun x _ => hSS x) (fun _ _ _ h => h), fun x hx => by rw [hsz]; exact Up.lt h.lt f.size x hx, ⟨h.ok.1, h.ok.2.1, by have := h.ok.2.2.1; simpa using this, ?_⟩, fun x hx => h.hole x (Nat.le_trans f2.size hx)⟩, f2.mono fun x _ hx => (hF x (h2 x hx)).1⟩
  · exact h.blk.fr f2 fun hs => (hF b (h2 b hs)).2.1 h.hb
  · exact h.row.fr f2 fun x p q => ((hF x (h2 x q)).2.1 p).elim
  · intro g hg'
    rcases List.mem_or_eq_of_mem_set hg' with hm | rfl
    · exact h.ok.2.2.2 g hm
    · have := h.ok.2.2.2 ⟨d, base, recs, safe⟩ (List.mem_of_getElem? hg)
      refine ⟨this.1, ?_, ?_, ?_⟩
      · simp only [List.length_append, List.length_singleton]; omega
      · have := this.2.2.1
        simp only [List.length_append, List.length_singleton] at this ⊢; omega
      · intro x hx
        rcases List.mem_append.1 hx with hx | hx
        · exact this.2.2.2 x hx
        · rw [List.mem_singleton] at hx; rw [hx]; exact hr

/-- a new segment is put behind the log's -/
theorem LogO.grow {S H : Nat → Prop} {w : World} {b : Nat} {A : Option Addr} {c : Nat} {ps : List Nat} {per : Nat} {gs : List Sg} {dn : Bool} (h : LogO S H w b A c ps ⟨per, gs, dn⟩) (hn : gs.length < 256) {w5 w6 w7 : World} {p : Nat} {g : Sg}
    (hb : Below w.heap.size w w5) (hs : SegAt (Nw w w5) w5 p g) (hg : g.ok) (h6 : Below w5.heap.size w5 w6) (f : Fr H w6 w7) (hoth : ∀ x, x < w6.heap.size → (Value.slice A ps.length c).ownBlock ≠ some x → w7.heap[x]? = w6.heap[x]?)
    {A' : Option Addr} {c' : Nat} (hrow : Row (Up H w6 w7) w7 TPs (.slice A' (ps.length + 1) c') (ps.map ptr ++ [ptr p])) :
    LogO (Up S w w7) (Up H w6 w7) (w7.setCell ⟨b, 1, none⟩ (.slice A' (ps.length + 1) c')) b A' c' (ps ++ [p]) ⟨per, gs ++ [g], dn⟩ ∧ Fr S w (w7.setCell ⟨b, 1, none⟩ (.slice A' (ps.length + 1) c')) := by
  have hH : ∀ x, H x → x < w.heap.size := fun x hx => h.lt x (h.hS x hx)
  have hb6 : Below w.heap.size w w6 := hb.trans (h6.mono hb.size)
  have f7 : Fr S w w7 := (Fr.of_below hb6).trans' f (fun x _ hx => h.hS x hx)
  have b6 : Blk w6 b TLg _ := h.blk.eq (hb6.block b h.blk.lt)
  have b7 : Blk w7 b TLg _ := b6.eq (hoth b b6.lt ((h.row.fr (S' := Non) (Fr.of_below hb6) (fun _ _ h => h.elim)).ownNe b6 (by decide)))
  have hnb : ¬ IsB w7 b := b7.notB (by decide)
  have f1 : Fr (fun x => x = b) w7 (w7.setCell ⟨b, 1, none⟩ (.slice A' (ps.length + 1) c')) := (Fr.refl (fun x => x = b) _).setCell (p := ⟨b, 1, none⟩) (.inl (show b = b from rfl)) hnb _
  have hsz : (w7.setCell ⟨b, 1, none⟩ (.slice A' (ps.length + 1) c')).heap.size = w7.heap.size := by simp [World.setCell]
  have s5 : Segs (Up S w w5) H w5 (ps ++ [p]) (gs ++ [g]) := h.segs.snoc (S' := Non) (Fr.of_below hb) (fun _ _ _ h => h.elim) hH hs
  have s7 : Segs (Up S w w5) H w7 (ps ++ [p]) (gs ++ [g]) := (s5.fr (S' := Non) (Fr.of_below h6) (fun _ _ _ h => h.elim)).fr f (fun x _ hx hy => (hx hy).elim)
  have l5 : ∀ x, Up S w w5 x → x < w5.heap.size := Up.lt h.lt hb.size
  have s8 : Segs (Up S w w7) (Up H w6 w7) (w7.setCell ⟨b, 1, none⟩ (.slice A' (ps.length + 1) c')) (ps ++ [p]) (gs ++ [g]) := (s7.fr f1 (fun x _ hx e => (hx (e ▸ h.hb)).elim)).mono
    (fun x _ hx => hx.imp_right (fun k => ⟨k.1, Nat.lt_of_lt_of_le k.2 (Nat.le_trans h6.size f.size)⟩))
    (fun x _ hx hy => hy.elim id (fun k => by have := l5 x hx; have := h6.size; omega))
  have hl := h.segs.len
  simp only at hl
  refine ⟨⟨?_, .inl h.hb, ?_, ?_, s8, fun x hx => by rw [hsz]; exact Up.lt h.lt f7.size x hx, ⟨h.ok.1, h.ok.2.1, by simp; omega, ?_⟩, fun x hx => h.hole x (Nat.le_trans (Nat.le_trans f7.size f1.size) hx)⟩, f7.trans' f1 (fun x _ e => h.hS x (e ▸ h.hb))⟩
  · intro x hx
    rcases hx with hx | hx
    · exact .inl (h.hS x hx)
    · exact .inr ⟨Nat.le_trans hb6.size hx.1, hx.2⟩
  · rw [List.length_append, List.length_singleton]
    simpa using b7.set 1 (.slice A' (ps.length + 1) c')
  · rw [List.length_append, List.length_singleton, List.map_append]
    exact hrow.otherBlk b7 (by decide) f1
  · intro x hx
    rcases List.mem_append.1 hx with hx | hx
    · exact h.ok.2.2.2 x hx
    · rw [List.mem_singleton] at hx; rw [hx]; exact hg

omit [Hole] in
theorem frozen_eq {w w' : World} {a : Addr} (e : w'.heap[a.block]? = w.heap[a.block]?) : w'.frozen? a = w.frozen? a := by simp [World.frozen?, e]

/-- WHAT a change of a log leaves -/
def LogDid (S : Nat → Prop) (w : World) (p : Value) (r : Lg × Int) (e : Ending) (w' : World) : Prop :=
  e = .returned (.int .i64 r.2) ∧ IsLog (Up S w w') w' p r.1 ∧ Fr S w w'
end Go.Proofs.YtediidajdpdeiaaGreatDoor

/- The log's functions that read (layer 7): the walks. -/
namespace Go.Proofs.YtediidajdpdeiaaGreatDoor
open Go.RowKit CrcM
set_option maxRecDepth 100000
variable [Hole]

omit [Hole] in
theorem drop_of {α : Type} {l : List α} {k : Nat} {x : α} (h : l[k]? = some x) : l.drop k = x :: l.drop (k + 1) := by
  obtain ⟨hlt, e⟩ := List.getElem?_eq_some_iff.1 h
  rw [List.drop_eq_getElem_cons hlt, e]

/-- what a function that only reads leaves -/
def Told (w : World) (v : Value) (e : Ending) (w' : World) : Prop := e = .returned v ∧ Below w.heap.size w w'

section
variable {S H : Nat → Prop} {w : World} {b : Nat} {A : Option Addr} {c : Nat} {ps : List Nat} {L : Lg}

theorem noneL (h : LogO S H w b A c ps L) : Calls Tryz.prog 101 #[.pointer (some ⟨b, 0, none⟩)] w fun e w' => e = .returned (.bool false) ∧ w = w' := by
  obtain ⟨per, gs, dn⟩ := L
  obtain ⟨c0, c1, c2, z1, z2, q0, q1, q2, q3, q4⟩ := h.facts
  go_enter Tryz.func101, Tryz.ntmps101
  go_wp2
  go_ret
  exact ⟨rfl, rfl⟩

theorem askedL (h : LogO S H w b A c ps L) : Calls Tryz.prog 106 #[.pointer (some ⟨b, 0, none⟩)] w fun e w' => e = .returned (.int .i64 (if L.down then 10 else 0)) ∧ w = w' := by
  obtain ⟨per, gs, dn⟩ := L
  obtain ⟨c0, c1, c2, z1, z2, q0, q1, q2, q3, q4⟩ := h.facts
  cases dn
  all_goals
    go_enter Tryz.func106, Tryz.ntmps106
    go_wp2_with (go_at_call 101; refine (noneL h).mono ?_; rintro e w' ⟨rfl, rfl⟩)
    go_ret
    exact ⟨rfl, rfl⟩

theorem downL (h : LogO S H w b A c ps L) : Calls Tryz.prog 74 #[.pointer (some ⟨b, 0, none⟩)] w fun e w' => e = .returned (.bool L.down) ∧ w = w' := by
  obtain ⟨per, gs, dn⟩ := L
  obtain ⟨c0, c1, c2, z1, z2, q0, q1, q2, q3, q4⟩ := h.facts
  go_enter Tryz.func74, Tryz.ntmps74
  go_wp2_with (go_at_call 101; refine (noneL h).mono ?_; rintro e w' ⟨rfl, rfl⟩)
  go_ret
  exact ⟨rfl, rfl⟩

/-- the last segment's place -/
def lastV (ps : List Nat) : Value := match ps.getLast? with
  | none => .pointer none
  | some p => .pointer (some ⟨p, 0, none⟩)

theorem lastL (h : LogO S H w b A c ps L) : Calls Tryz.prog 78 #[.pointer (some ⟨b, 0, none⟩)] w (Told w (lastV ps)) := by
  obtain ⟨per, gs, dn⟩ := L
  obtain ⟨c0, c1, c2, z1, z2, q0, q1, q2, q3, q4⟩ := h.facts
  rcases Nat.eq_zero_or_pos ps.length with h0 | h0
  · obtain rfl := List.eq_nil_of_length_eq_zero h0
    clear q1 q2 q3 h0
    go_enter Tryz.func78, Tryz.ntmps78
    go_wp2_with (go_at_call 101; refine (noneL h).mono ?_; rintro e w' ⟨rfl, rfl⟩)
    go_ret
    exact ⟨rfl, Below.refl _ _⟩
  · obtain ⟨p, hp⟩ : ∃ p, ps[ps.length - 1]? = some p := ⟨_, List.getElem?_eq_getElem (show ps.length - 1 < ps.length by omega)⟩
    have e : lastV ps = .pointer (some ⟨p, 0, none⟩) := by
      unfold lastV; rw [List.getLast?_eq_getElem?, hp]
    rw [e]
    clear e
    obtain ⟨ad, rfl, ca⟩ := h.ptrAt hp
    have k1 : ((ps.length : Int) == 0) = false := by rw [beq_eq_false_iff_ne]; omega
    have k2 : IntKind.i64.wrap ((ps.length : Int) - 1) = (ps.length : Int) - 1 := by rw [IntKind.wrap_i64]; omega
    have k3 : ((ps.length : Int) - 1).toNat = ps.length - 1 := by omega
    have k4 : (0 : Int) ≤ (ps.length : Int) - 1 := by omega
    have k5 : 1 ≤ (ps.length : Int) := by omega
    have k6 : (ps.length : Int) - 1 < (ps.length : Int) := by omega
    clear q1 hp
    go_enter Tryz.func78, Tryz.ntmps78
    go_wp2_with (go_at_call 101; refine (noneL h).mono ?_; rintro e w' ⟨rfl, rfl⟩)
    refine wp_region_T #[[], [], [], [], [], [], [], [], [7], [7], [3, 7], [3, 7], [3, 7, 11]] [3, 7, 11] (fun w' => w'.cell? ⟨b, 1, none⟩ = some (.slice (some ad) ps.length c) ∧ w'.cell? (ad.add (ps.length - 1)) = some (.pointer (some ⟨p, 0, none⟩))) 13 rfl (by kernel_rfl) ?_
    (refine wpF (i := 0) rfl (by kernel_rfl) rfl (fun _ _ _ h => h) (fun _ => by go_simp; try rfl) ?_; (try simp only [Act.put, sA, sB, sC]))
    (refine wpF (i := 1) rfl (by kernel_rfl) rfl (fun _ _ _ h => h) (fun _ => by go_simp; try rfl) ?_; (try simp only [Act.put, sA, sB, sC]))
    (refine wpF (i := 2) rfl (by kernel_rfl) rfl (fun _ _ _ h => h) (fun _ => by go_simp; try rfl) ?_; (try simp only [Act.put, sA, sB, sC]))
    (refine wpAnyT_read (i := 3) rfl (by kernel_rfl) rfl (fun _ _ _ h => h) (by kernel_rfl) (⟨c1, ca⟩) (fun w hS_ => by obtain ⟨s_1, s_2⟩ := hS_; go_simp; try rfl) ?_; (try simp only [Act.put, sA, sB, sC]))
    (refine wpF (i := 4) rfl (by kernel_rfl) rfl (fun _ _ _ h => h) (fun _ => by go_simp; try rfl) ?_; (try simp only [Act.put, sA, sB, sC]))
    (refine wpF (i := 5) rfl (by kernel_rfl) rfl (fun _ _ _ h => h) (fun _ => by go_simp; try rfl) ?_; (try simp only [Act.put, sA, sB, sC]))
    (refine wpF (i := 6) rfl (by kernel_rfl) rfl (fun _ _ _ h => h) (fun _ => by go_simp; try rfl) ?_; (try simp only [Act.put, sA, sB, sC]))
    (refine wpAnyT_read (i := 7) rfl (by kernel_rfl) rfl (fun _ _ _ h => h) (by kernel_rfl) (⟨c1, ca⟩) (fun w hS_ => by obtain ⟨s_1, s_2⟩ := hS_; go_simp; try rfl) ?_; (try simp only [Act.put, sA, sB, sC]))
    (refine wpF (i := 8) rfl (by kernel_rfl) rfl (fun _ _ _ h => h) (fun _ => by go_simp; try rfl) ?_; (try simp only [Act.put, sA, sB, sC]))
    (refine wpF (i := 9) rfl (by kernel_rfl) rfl (fun _ _ _ h => h) (fun _ => by go_simp; try rfl) ?_; (try simp only [Act.put, sA, sB, sC]))
    (refine wpF (i := 10) rfl (by kernel_rfl) rfl (fun _ _ _ h => h) (fun _ => by go_simp; try rfl) ?_; (try simp only [Act.put, sA, sB, sC]))
    (refine wpAnyT_read (i := 11) rfl (by kernel_rfl) rfl (fun _ _ _ h => h) (by kernel_rfl) (⟨c1, ca⟩) (fun w hS_ => by obtain ⟨s_1, s_2⟩ := hS_; go_simp; try rfl) ?_; (try simp only [Act.put, sA, sB, sC]))
    (refine wpF (i := 12) rfl (by kernel_rfl) rfl (fun _ _ _ h => h) (fun _ => by go_simp; try rfl) ?_; (try simp only [Act.put, sA, sB, sC]))
    refine wpAnyT_done (by kernel_rfl) ?_ _
    go_wp2
    go_ret
    exact ⟨rfl, (Below.refl _ _).drew⟩

theorem lenL (h : LogO S H w b A c ps L) : Calls Tryz.prog 22 #[.pointer (some ⟨b, 0, none⟩)] w (Told w (.int .i64 (L.len : Int))) := by
  obtain ⟨per, gs, dn⟩ := L
  have hl := lastL h
  rcases Nat.eq_zero_or_pos ps.length with h0 | h0
  · obtain rfl := List.eq_nil_of_length_eq_zero h0
    have e : Lg.len ⟨per, gs, dn⟩ = 0 := by
      have := h.segs.len
      obtain rfl : gs = [] := List.eq_nil_of_length_eq_zero this.symm
      unfold Lg.len; simp
    rw [e]
    clear e
    have el : lastV [] = .pointer none := rfl
    rw [el] at hl
    go_enter Tryz.func22, Tryz.ntmps22
    go_wp2_with (go_at_call 78; refine hl.mono ?_; rintro e w1 ⟨rfl, hb1⟩)
    go_ret
    exact ⟨rfl, hb1⟩
  · have hgl : ps.length = gs.length := h.segs.len
    obtain ⟨g, hg⟩ : ∃ g, gs[gs.length - 1]? = some g := ⟨_, List.getElem?_eq_getElem (show gs.length - 1 < gs.length by omega)⟩
    obtain ⟨d, base, recs, safe⟩ := g
    have e : Lg.len ⟨per, gs, dn⟩ = if dn then 0 else base + recs.length := by
      unfold Lg.len; simp only; rw [List.getLast?_eq_getElem?, hg]
    have hok := h.ok.2.2.2 _ (List.mem_of_getElem? hg)
    have hb1 := hok.1
    have hb2 := hok.2.1
    simp only at hb1 hb2
    obtain ⟨p, hp, -⟩ := h.segs.facts hg
    have el : lastV ps = .pointer (some ⟨p, 0, none⟩) := by
      unfold lastV; rw [List.getLast?_eq_getElem?, hgl, hp]
    rw [el] at hl
    rw [e]
    clear e el hok
    cases dn
    · go_enter Tryz.func22, Tryz.ntmps22
      go_wp2_with (go_at_call 78; refine hl.mono ?_; rintro e w1 ⟨rfl, hbl⟩
                   have h1 := h.below hbl
                   obtain ⟨c0, c1, c2, z1, z2, q0, q1, q2, q3, q4⟩ := h1.facts
                   obtain ⟨p', hp', db, R, cr, s0, s1, s2, s3, y2, y3⟩ := h1.segs.facts hg
                   rw [hp] at hp'
                   injection hp' with hp'
                   subst hp')
      have k1 : IntKind.i64.wrap ((base : Int) + (recs.length : Int)) = (base : Int) + (recs.length : Int) := by rw [IntKind.wrap_i64]; omega
      refine wp_region_T #[[], [], [], [], [], [], [], [], [7], [3, 7], [3, 7]] [3, 7] (fun w' => w'.cell? ⟨p, 1, none⟩ = some (.int .i64 (base : Int)) ∧ w'.cell? ⟨p, 2, none⟩ = some (.slice R recs.length cr)) 11 rfl (by kernel_rfl) ?_
      (refine wpF (i := 0) rfl (by kernel_rfl) rfl (fun _ _ _ h => h) (fun _ => by go_simp; try rfl) ?_; (try simp only [Act.put, sA, sB, sC]))
      (refine wpF (i := 1) rfl (by kernel_rfl) rfl (fun _ _ _ h => h) (fun _ => by go_simp; try rfl) ?_; (try simp only [Act.put, sA, sB, sC]))
      (refine wpF (i := 2) rfl (by kernel_rfl) rfl (fun _ _ _ h => h) (fun _ => by go_simp; try rfl) ?_; (try simp only [Act.put, sA, sB, sC]))
      (refine wpAnyT_read (i := 3) rfl (by kernel_rfl) rfl (fun _ _ _ h => h) (by kernel_rfl) (⟨s1, s2⟩) (fun w hS_ => by obtain ⟨s_1, s_2⟩ := hS_; go_simp; try rfl) ?_; (try simp only [Act.put, sA, sB, sC]))
      (refine wpF (i := 4) rfl (by kernel_rfl) rfl (fun _ _ _ h => h) (fun _ => by go_simp; try rfl) ?_; (try simp only [Act.put, sA, sB, sC]))
      (refine wpF (i := 5) rfl (by kernel_rfl) rfl (fun _ _ _ h => h) (fun _ => by go_simp; try rfl) ?_; (try simp only [Act.put, sA, sB, sC]))
      (refine wpF (i := 6) rfl (by kernel_rfl) rfl (fun _ _ _ h => h) (fun _ => by go_simp; try rfl) ?_; (try simp only [Act.put, sA, sB, sC]))
      (refine wpAnyT_read (i := 7) rfl (by kernel_rfl) rfl (fun _ _ _ h => h) (by kernel_rfl) (⟨s1, s2⟩) (fun w hS_ => by obtain ⟨s_1, s_2⟩ := hS_; go_simp; try rfl) ?_; (try simp only [Act.put, sA, sB, sC]))
      (refine wpF (i := 8) rfl (by kernel_rfl) rfl (fun _ _ _ h => h) (fun _ => by go_simp; try rfl) ?_; (try simp only [Act.put, sA, sB, sC]))
      (refine wpF (i := 9) rfl (by kernel_rfl) rfl (fun _ _ _ h => h) (fun _ => by go_simp; try rfl) ?_; (try simp only [Act.put, sA, sB, sC]))
      (refine wpF (i := 10) rfl (by kernel_rfl) rfl (fun _ _ _ h => h) (fun _ => by go_simp; try rfl) ?_; (try simp only [Act.put, sA, sB, sC]))
      refine wpAnyT_done (by kernel_rfl) ?_ _
      go_wp2
      go_ret
      exact ⟨rfl, hbl.drew⟩
    · go_enter Tryz.func22, Tryz.ntmps22
      go_wp2_with (go_at_call 78; refine hl.mono ?_; rintro e w1 ⟨rfl, hbl⟩
                   have h1 := h.below hbl
                   obtain ⟨c0, c1, c2, z1, z2, q0, q1, q2, q3, q4⟩ := h1.facts)
      go_ret
      exact ⟨rfl, hbl⟩

end
end Go.Proofs.YtediidajdpdeiaaGreatDoor
