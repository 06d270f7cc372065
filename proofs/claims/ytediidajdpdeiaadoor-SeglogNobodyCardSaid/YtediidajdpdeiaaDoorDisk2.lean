/- The disk's Copy and Crash: the walks. -/
import Derived.Test.YtediidajdpdeiaaDoorDisk
namespace Go.Proofs.YtediidajdpdeiaaDoor
open Go.RowKit
set_option maxRecDepth 100000

theorem copy_B {S : Nat → Prop} {w : World} {b : Nat} {A : Option Addr} {c : Nat} {D : Dk} (h : DiskAt S w b A c D) :
    Calls Tryd.prog 88 #[.pointer (some ⟨b, 0, none⟩)] w fun e w' => ∃ p, e = .returned p ∧ IsDisk (Nw w w') w' p D ∧ Below w.heap.size w w' := by
  obtain ⟨dn, all, kept⟩ := D
  obtain ⟨c0, c1, c2, c3, z1, z2, z3, hb, hcap, hk, hall⟩ := h.facts
  go_enter Tryd.func88, Tryd.ntmps88
  have F0 : Fr S w (w.alloc (.cells #[.bool true, .bool dn, .slice A all.length c, .int .i64 (kept : Int)] 139)) := (Fr.refl S w).alloc _
  go_wp2_with (first
    | (go_at_call 103; refine (none_at h).mono ?_; rintro e w' ⟨rfl, rfl⟩)
    | (go_at_call 80; refine (clone_B S A all c _ ((h.own.rd S).fr F0) (by omega)).mono ?_; rintro e w1 ⟨A', c', rfl, hor, hc', hm', hbel⟩
       have hn := (Blk.new w 139 #[.bool true, .bool dn, .slice A all.length c, .int .i64 (kept : Int)]).eq (hbel.block w.heap.size (by simp))
       have e2 : w1.cell? ⟨w.heap.size, 2, none⟩ = some (.slice A all.length c) := hn.cell 2 rfl
       have y2 := hn.frozen 2
       have hlt : w.heap.size < w1.heap.size := hn.lt))
  go_ret
  have F1 : Fr S w (w1.setCell ⟨w.heap.size, 2, none⟩ (.slice A' all.length c')) := (F0.trans (S' := Non) (Fr.of_below hbel) (fun _ h => h.elim)).setCell (p := ⟨w.heap.size, 2, none⟩) (.inr (Nat.le_refl _)) (notB_new (Nat.le_refl _)) _
  have F2 : Fr (New w) w1 (w1.setCell ⟨w.heap.size, 2, none⟩ (.slice A' all.length c')) := (Fr.refl _ _).setCell (p := ⟨w.heap.size, 2, none⟩) (.inl (Nat.le_refl _)) (hn.notB (by decide)) _
  have F3 : Fr Non w (w1.setCell ⟨w.heap.size, 2, none⟩ (.slice A' all.length c')) := ((((Fr.refl Non w).alloc _).trans (S' := Non) (Fr.of_below hbel) (fun _ h => h.elim)).setCell (p := ⟨w.heap.size, 2, none⟩) (.inr (Nat.le_refl _)) (notB_new (Nat.le_refl _)) _)
  have ho := (Own.of_row' hor).fr F2
  refine ⟨_, rfl, ⟨w.heap.size, A', c', rfl, by simpa using hn.set 2 (.slice A' all.length c'), ?_, ⟨Nat.le_refl _, by simpa [World.setCell] using hlt⟩, fun x hx => hx.2, hc', h.ok⟩, F3.below (fun _ h => h.elim)⟩
  intro j x hx
  obtain ⟨ad, q1, q2, q3, q4⟩ := ho j x hx
  exact ⟨ad, q1, q2, q3, by have : w.heap.size + 1 ≤ ad.block := by simpa [New] using q4
                            omega, q3.lt⟩

theorem turn_bits_all : ∀ (x : Fin 256) (k : Fin 8), bits .xor .u8 (x.val : Int) (2 ^ min k.val 8 % 256) = ((UInt8.ofNat x.val ^^^ UInt8.ofNat (2 ^ k.val)).toNat : Int) := by decide +kernel
theorem turn_bits (x : UInt8) (k : Nat) (hk : k < 8) : Value.int .u8 (bits .xor .u8 (x.toNat : Int) (2 ^ min k 8 % 256)) = byteV (turnByte x k) := by
  have := turn_bits_all ⟨x.toNat, x.toNat_lt⟩ ⟨k, hk⟩
  simp only [UInt8.ofNat_toNat] at this
  rw [this]; rfl

set_option maxHeartbeats 2000000 in
set_option maxRecDepth 100000 in
/-- a crash -/
theorem crash_B {S : Nat → Prop} {w : World} {b : Nat} {A : Option Addr} {c : Nat} {D : Dk} (h : DiskAt S w b A c D) (keep flip : Int) (hk63 : keep ≤ 9223372036854775807) (hf63 : flip ≤ 9223372036854775807) (hk0 : -9223372036854775808 ≤ keep) (hf0 : -9223372036854775808 ≤ flip) :
    Calls Tryd.prog 91 #[.pointer (some ⟨b, 0, none⟩), .int .i64 keep, .int .i64 flip] w (DiskDid S w (.pointer (some ⟨b, 0, none⟩)) (D.crash keep flip)) := by
  have hok' := Dk.ok_crash h.ok keep flip
  obtain ⟨dn, all, kept⟩ := D
  obtain ⟨c0, c1, c2, c3, z1, z2, z3, hb, hcap, hk, hall⟩ := h.facts
  cases dn
  · by_cases hn : keep < 0
    · have e : (Dk.crash ⟨false, all, kept⟩ keep flip) = (⟨false, all, kept⟩, 2) := by simp [Dk.crash, hn]
      have H := Lib.hid e
      clear e hok'
      go_enter Tryd.func91, Tryd.ntmps91
      go_wp2_with (go_at_call 117; refine (asked_at h).mono ?_; rintro e w' ⟨rfl, rfl⟩)
      go_ret
      rw [H.out]
      exact ⟨rfl, h.same, Fr.refl _ _⟩
    · obtain ⟨kn, rfl⟩ : ∃ m : Nat, keep = m := ⟨keep.toNat, by omega⟩
      have e : (Dk.crash ⟨false, all, kept⟩ kn flip) = (⟨true, all.take kept ++ torn (all.drop kept) kn flip, kept⟩, 0) := by simp [Dk.crash]
      have H := Lib.hid e
      rw [e] at hok'
      clear e
      obtain ⟨n, hn1⟩ : ∃ n : Nat, n = min kn (all.length - kept) := ⟨_, rfl⟩
      have hmin : ∀ w, (Builtin.min_ #[3, 3] 3 #[.int .i64 (kn : Int), .int .i64 ((all.length : Int) - (kept : Int))]).run Tryd.prog w = .ok (.int .i64 (n : Int)) w := by
        intro w
        simp only [Builtin.min_, Builtin.min2]
        simp [Builtin.min2]
        split <;> omega
      have hn2 : kept + n ≤ all.length := by omega
      have em : (all.take (kept + n)).length = kept + n := by rw [List.length_take]; omega
      have hcl := fun w (hr : Rd S w A all) => clone_B S A (all.take (kept + n)) c w (hr.take (kept + n)) (by omega)
      rw [em] at hcl
      have h1 : DiskAt S (w.setCell ⟨b, 1, none⟩ (.bool true)) b A c ⟨true, all, kept⟩ :=
        ⟨by simpa using h.blk.set 1 (.bool true), h.own.fr ((Fr.refl S w).setCell (p := ⟨b, 1, none⟩) (.inl h.inS) h.notB _), h.inS, by simpa [World.setCell] using h.lt, h.cap, h.ok⟩
      have F1 : Fr S w (w.setCell ⟨b, 1, none⟩ (.bool true)) := (Fr.refl S w).setCell (p := ⟨b, 1, none⟩) (.inl h.inS) h.notB _
      have k0 : (0 : Int) ≤ (kept : Int) + (n : Int) := by omega
      have k1 : (kept : Int) + (n : Int) ≤ (c : Int) := by omega
      have k2 : IntKind.i64.wrap ((all.length : Int) - (kept : Int)) = (all.length : Int) - (kept : Int) := by rw [IntKind.wrap_i64]; omega
      have k3 : IntKind.i64.wrap ((kept : Int) + (n : Int)) = (kept : Int) + (n : Int) := by rw [IntKind.wrap_i64]; omega
      have k4 : ((kept : Int) + (n : Int)).toNat = kept + n := by omega
      have HN := Lib.hid hn1
      clear hn1
      go_enter Tryd.func91, Tryd.ntmps91
      go_wp2_with (go_at_call 117; refine (asked_at h).mono ?_; rintro e w' ⟨rfl, rfl⟩)
      clear c0 c1 c2 c3 z1 z2 z3
      generalize w.setCell ⟨b, 1, none⟩ (.bool true) = w1 at *
      obtain ⟨c0, c1, c2, c3, z1, z2, z3, hb, -⟩ := h1.facts
      refine wp_region_T #[[], [], [], [], [], [], [], [], [], [], [], [], [], [], [13], [], [], [], [], [13, 18], [13, 18], [8, 13, 18], [4, 8, 13, 18], [4, 8, 13, 18], [4, 8, 13, 18], [4, 8, 13, 18], [4, 8, 13, 18]] [4, 8, 13, 18] (fun w' => w'.cell? ⟨b, 2, none⟩ = some (.slice A all.length c) ∧ w'.cell? ⟨b, 3, none⟩ = some (.int .i64 (kept : Int))) 27 rfl (by kernel_rfl) ?_
      (refine wpAnyT_free (i := 0) rfl (by kernel_rfl) rfl (fun _ _ _ h => h) (by kernel_rfl) (fun _ => by go_simp; try rfl) ?_; (try simp only [Act.put, List.setIfInBounds_toArray, List.set_cons_zero, List.set_cons_succ]))
      (refine wpAnyT_free (i := 1) rfl (by kernel_rfl) rfl (fun _ _ _ h => h) (by kernel_rfl) (fun _ => by go_simp; try rfl) ?_; (try simp only [Act.put, List.setIfInBounds_toArray, List.set_cons_zero, List.set_cons_succ]))
      (refine wpAnyT_free (i := 2) rfl (by kernel_rfl) rfl (fun _ _ _ h => h) (by kernel_rfl) (fun _ => by go_simp; try rfl) ?_; (try simp only [Act.put, List.setIfInBounds_toArray, List.set_cons_zero, List.set_cons_succ]))
      (refine wpAnyT_free (i := 3) rfl (by kernel_rfl) rfl (fun _ _ _ h => h) (by kernel_rfl) (fun _ => by go_simp; try rfl) ?_; (try simp only [Act.put, List.setIfInBounds_toArray, List.set_cons_zero, List.set_cons_succ]))
      (refine wpAnyT_read (i := 4) rfl (by kernel_rfl) rfl (fun _ _ _ h => h) (by kernel_rfl) (⟨c2, c3⟩) (fun w hS_ => by obtain ⟨s_1, s_2⟩ := hS_; go_simp; try rfl) ?_; (try simp only [Act.put, List.setIfInBounds_toArray, List.set_cons_zero, List.set_cons_succ]))
      (refine wpAnyT_free (i := 5) rfl (by kernel_rfl) rfl (fun _ _ _ h => h) (by kernel_rfl) (fun _ => by go_simp; try rfl) ?_; (try simp only [Act.put, List.setIfInBounds_toArray, List.set_cons_zero, List.set_cons_succ]))
      (refine wpAnyT_free (i := 6) rfl (by kernel_rfl) rfl (fun _ _ _ h => h) (by kernel_rfl) (fun _ => by go_simp; try rfl) ?_; (try simp only [Act.put, List.setIfInBounds_toArray, List.set_cons_zero, List.set_cons_succ]))
      (refine wpAnyT_free (i := 7) rfl (by kernel_rfl) rfl (fun _ _ _ h => h) (by kernel_rfl) (fun _ => by go_simp; try rfl) ?_; (try simp only [Act.put, List.setIfInBounds_toArray, List.set_cons_zero, List.set_cons_succ]))
      (refine wpAnyT_read (i := 8) rfl (by kernel_rfl) rfl (fun _ _ _ h => h) (by kernel_rfl) (⟨c2, c3⟩) (fun w hS_ => by obtain ⟨s_1, s_2⟩ := hS_; go_simp; try rfl) ?_; (try simp only [Act.put, List.setIfInBounds_toArray, List.set_cons_zero, List.set_cons_succ]))
      (refine wpAnyT_free (i := 9) rfl (by kernel_rfl) rfl (fun _ _ _ h => h) (by kernel_rfl) (fun _ => by go_simp; try rfl) ?_; (try simp only [Act.put, List.setIfInBounds_toArray, List.set_cons_zero, List.set_cons_succ]))
      (refine wpAnyT_free (i := 10) rfl (by kernel_rfl) rfl (fun _ _ _ h => h) (by kernel_rfl) (fun _ => by go_simp; try rfl) ?_; (try simp only [Act.put, List.setIfInBounds_toArray, List.set_cons_zero, List.set_cons_succ]))
      (refine wpAnyT_free (i := 11) rfl (by kernel_rfl) rfl (fun _ _ _ h => h) (by kernel_rfl) (fun _ => by go_simp; try rfl) ?_; (try simp only [Act.put, List.setIfInBounds_toArray, List.set_cons_zero, List.set_cons_succ]))
      (refine wpAnyT_free (i := 12) rfl (by kernel_rfl) rfl (fun _ _ _ h => h) (by kernel_rfl) (fun _ => by go_simp; try rfl) ?_; (try simp only [Act.put, List.setIfInBounds_toArray, List.set_cons_zero, List.set_cons_succ]))
      (refine wpAnyT_read (i := 13) rfl (by kernel_rfl) rfl (fun _ _ _ h => h) (by kernel_rfl) (⟨c2, c3⟩) (fun w hS_ => by obtain ⟨s_1, s_2⟩ := hS_; go_simp; try rfl) ?_; (try simp only [Act.put, List.setIfInBounds_toArray, List.set_cons_zero, List.set_cons_succ]))
      (refine wpAnyT_free (i := 14) rfl (by kernel_rfl) rfl (fun _ _ _ h => h) (by kernel_rfl) (fun _ => by go_simp; try rfl) ?_; (try simp only [Act.put, List.setIfInBounds_toArray, List.set_cons_zero, List.set_cons_succ]))
      (refine wpAnyT_free (i := 15) rfl (by kernel_rfl) rfl (fun _ _ _ h => h) (by kernel_rfl) (fun _ => by go_simp; try rfl) ?_; (try simp only [Act.put, List.setIfInBounds_toArray, List.set_cons_zero, List.set_cons_succ]))
      (refine wpAnyT_free (i := 16) rfl (by kernel_rfl) rfl (fun _ _ _ h => h) (by kernel_rfl) (fun _ => by go_simp; try rfl) ?_; (try simp only [Act.put, List.setIfInBounds_toArray, List.set_cons_zero, List.set_cons_succ]))
      (refine wpAnyT_free (i := 17) rfl (by kernel_rfl) rfl (fun _ _ _ h => h) (by kernel_rfl) (fun _ => by go_simp; try rfl) ?_; (try simp only [Act.put, List.setIfInBounds_toArray, List.set_cons_zero, List.set_cons_succ]))
      (refine wpAnyT_read (i := 18) rfl (by kernel_rfl) rfl (fun _ _ _ h => h) (by kernel_rfl) (⟨c2, c3⟩) (fun w hS_ => by obtain ⟨s_1, s_2⟩ := hS_; go_simp; try rfl) ?_; (try simp only [Act.put, List.setIfInBounds_toArray, List.set_cons_zero, List.set_cons_succ]))
      (refine wpAnyT_free (i := 19) rfl (by kernel_rfl) rfl (fun _ _ _ h => h) (by kernel_rfl) (fun _ => by go_simp; try rfl) ?_; (try simp only [Act.put, List.setIfInBounds_toArray, List.set_cons_zero, List.set_cons_succ]))
      (refine wpAnyT_free (i := 20) rfl (by kernel_rfl) rfl (fun _ _ _ h => h) (by kernel_rfl) (fun _ => by go_simp; try rfl) ?_; (try simp only [Act.put, List.setIfInBounds_toArray, List.set_cons_zero, List.set_cons_succ]))
      (refine wpAnyT_free (i := 21) rfl (by kernel_rfl) rfl (fun _ _ _ h => h) (by kernel_rfl) (fun _ => by go_simp; try rfl) ?_; (try simp only [Act.put, List.setIfInBounds_toArray, List.set_cons_zero, List.set_cons_succ]))
      (refine wpAnyT_free (i := 22) rfl (by kernel_rfl) rfl (fun _ _ _ h => h) (by kernel_rfl) (fun _ => by go_simp; try rfl) ?_; (try simp only [Act.put, List.setIfInBounds_toArray, List.set_cons_zero, List.set_cons_succ]))
      refine wpAnyT_sink (i := 23) rfl (by kernel_rfl) rfl (by kernel_rfl) ?_
      intro K_ hK_
      go_wp2_with ((go_at_call 80; refine (hcl _ (h1.own.rd S).drew).mono ?_; rintro e w2 ⟨A', c', rfl, hor, hc', hm', hbel⟩; have h2 := h1.drew.below hbel; obtain ⟨d0, d1, d2, d3, y1, y2, y3, hb1, -⟩ := h2.facts))
      (try (refine hK_ _ _ ?_; clear hK_ K_))
      (try simp only [Act.put, List.setIfInBounds_toArray, List.set_cons_zero, List.set_cons_succ])
      (refine wpAnyT_free (i := 24) rfl (by kernel_rfl) rfl (fun _ _ _ h => h) (by kernel_rfl) (fun _ => by go_simp; try rfl) ?_; (try simp only [Act.put, List.setIfInBounds_toArray, List.set_cons_zero, List.set_cons_succ]))
      (refine wpAnyT_free (i := 25) rfl (by kernel_rfl) rfl (fun _ _ _ h => h) (by kernel_rfl) (fun _ => by go_simp; try rfl) ?_; (try simp only [Act.put, List.setIfInBounds_toArray, List.set_cons_zero, List.set_cons_succ]))
      refine wpAnyT_sink (i := 26) rfl (by kernel_rfl) rfl (by kernel_rfl) ?_
      intro K_ hK_
      go_wp2
      (try (refine hK_ _ _ ?_; clear hK_ K_))
      (try simp only [Act.put, List.setIfInBounds_toArray, List.set_cons_zero, List.set_cons_succ])
      refine wpAnyT_done (by kernel_rfl) ?_ _
      rw [em] at hor hc'
      have g1 : ¬ IsB w2 b := h2.notB
      have hB : b < w1.drew.heap.size := hb
      have hor3 := ownsRow_setCell_below hor (a := ⟨b, 2, none⟩) hB (.slice A' (kept + n) c')
      have b3 := h2.blk.set 2 (.slice A' (kept + n) c')
      have F3 : Fr S w (w2.setCell ⟨b, 2, none⟩ (.slice A' (kept + n) c')) :=
        ((F1.drew.trans (S' := Non) (Fr.of_below hbel) (fun _ h => h.elim)).setCell (p := ⟨b, 2, none⟩) (.inl h.inS) h.notB _)
      clear d0 d1 d2 d3 y1 y2 y3 hb1 c0 c1 c2 c3 z1 z2 z3 hmin hcl
      generalize w2.setCell ⟨b, 2, none⟩ (.slice A' (kept + n) c') = w3 at *
      have c2 : w3.cell? ⟨b, 2, none⟩ = some (.slice A' (kept + n) c') := b3.cell 2 rfl
      have c3 : w3.cell? ⟨b, 3, none⟩ = some (.int .i64 (kept : Int)) := b3.cell 3 rfl
      have kc : kept + n ≤ c' := hc'
      have k5 : (kept : Int) ≤ (kept : Int) + (n : Int) := by omega
      go_wp2
      refine wp_region_T #[[], [], [], [], [], [], [], [], [3, 7], [3, 7]] [3, 7] (fun w' => w'.cell? ⟨b, 2, none⟩ = some (.slice A' (kept + n) c') ∧ w'.cell? ⟨b, 3, none⟩ = some (.int .i64 (kept : Int))) 10 rfl (by kernel_rfl) ?_
      (refine wpAnyT_free (i := 0) rfl (by kernel_rfl) rfl (fun _ _ _ h => h) (by kernel_rfl) (fun _ => by go_simp; try rfl) ?_; (try simp only [Act.put, List.setIfInBounds_toArray, List.set_cons_zero, List.set_cons_succ]))
      (refine wpAnyT_free (i := 1) rfl (by kernel_rfl) rfl (fun _ _ _ h => h) (by kernel_rfl) (fun _ => by go_simp; try rfl) ?_; (try simp only [Act.put, List.setIfInBounds_toArray, List.set_cons_zero, List.set_cons_succ]))
      (refine wpAnyT_free (i := 2) rfl (by kernel_rfl) rfl (fun _ _ _ h => h) (by kernel_rfl) (fun _ => by go_simp; try rfl) ?_; (try simp only [Act.put, List.setIfInBounds_toArray, List.set_cons_zero, List.set_cons_succ]))
      (refine wpAnyT_read (i := 3) rfl (by kernel_rfl) rfl (fun _ _ _ h => h) (by kernel_rfl) (⟨c2, c3⟩) (fun w hS_ => by obtain ⟨s_1, s_2⟩ := hS_; go_simp; try rfl) ?_; (try simp only [Act.put, List.setIfInBounds_toArray, List.set_cons_zero, List.set_cons_succ]))
      (refine wpAnyT_free (i := 4) rfl (by kernel_rfl) rfl (fun _ _ _ h => h) (by kernel_rfl) (fun _ => by go_simp; try rfl) ?_; (try simp only [Act.put, List.setIfInBounds_toArray, List.set_cons_zero, List.set_cons_succ]))
      (refine wpAnyT_free (i := 5) rfl (by kernel_rfl) rfl (fun _ _ _ h => h) (by kernel_rfl) (fun _ => by go_simp; try rfl) ?_; (try simp only [Act.put, List.setIfInBounds_toArray, List.set_cons_zero, List.set_cons_succ]))
      (refine wpAnyT_free (i := 6) rfl (by kernel_rfl) rfl (fun _ _ _ h => h) (by kernel_rfl) (fun _ => by go_simp; try rfl) ?_; (try simp only [Act.put, List.setIfInBounds_toArray, List.set_cons_zero, List.set_cons_succ]))
      (refine wpAnyT_read (i := 7) rfl (by kernel_rfl) rfl (fun _ _ _ h => h) (by kernel_rfl) (⟨c2, c3⟩) (fun w hS_ => by obtain ⟨s_1, s_2⟩ := hS_; go_simp; try rfl) ?_; (try simp only [Act.put, List.setIfInBounds_toArray, List.set_cons_zero, List.set_cons_succ]))
      (refine wpAnyT_free (i := 8) rfl (by kernel_rfl) rfl (fun _ _ _ h => h) (by kernel_rfl) (fun _ => by go_simp; try rfl) ?_; (try simp only [Act.put, List.setIfInBounds_toArray, List.set_cons_zero, List.set_cons_succ]))
      (refine wpAnyT_free (i := 9) rfl (by kernel_rfl) rfl (fun _ _ _ h => h) (by kernel_rfl) (fun _ => by go_simp; try rfl) ?_; (try simp only [Act.put, List.setIfInBounds_toArray, List.set_cons_zero, List.set_cons_succ]))
      refine wpAnyT_done (by kernel_rfl) ?_ _
      have HA := Lib.hid (Eq.refl (if c' = kept then A' else Option.map (fun x => x.add kept) A'))
      generalize hA8 : (if c' = kept then A' else Option.map (fun x => x.add kept) A') = A8
      rw [hA8] at HA
      have HA8 := Lib.hid hA8
      clear hA8 HA
      by_cases hfl : 0 ≤ flip
      · obtain ⟨fl, rfl⟩ : ∃ m : Nat, flip = m := ⟨flip.toNat, by omega⟩
        by_cases hfn : fl / 8 < n
        · have q1 : (0 : Int) ≤ (fl : Int) := by omega
          have q2 : (fl : Int) / 8 < (n : Int) := by omega
          obtain ⟨g, cap, hv, hg1, hg2⟩ := hor3.form (by omega)
          have hA' : A' = some ⟨g, 0, none⟩ := by injection hv
          have hA8 : A8 = some ⟨g, kept, none⟩ := by
            rw [← HA8.out, hA', if_neg (by omega)]
            simp [add_mk]
          subst hA8
          subst hA'
          clear hv HA8
          have hlt : kept + fl / 8 < (all.take (kept + n)).length := by rw [em]; omega
          obtain ⟨x, hx⟩ : ∃ x, (all.take (kept + n))[kept + fl / 8]? = some x := ⟨_, List.getElem?_eq_getElem hlt⟩
          have hxc : w3.cell? ⟨g, kept + fl / 8, none⟩ = some (.int .u8 (x.toNat : Int)) := by
            rw [hor3.cellAt _ (by omega), List.getElem?_map, hx]; rfl
          have hxf := hor3.frozenAt (kept + fl / 8)
          have Hx := Lib.hid hx
          clear hx
          go_wp2
          have q3 : IntKind.i64.wrap ((fl : Int) / 8) = (fl : Int) / 8 := by rw [IntKind.wrap_i64]; omega
          have q4 : (0 : Int) ≤ (fl : Int) / 8 := by omega
          have q5 : ((fl : Int) / 8).toNat = fl / 8 := by omega
          have q6 : IntKind.i64.wrap ((fl : Int) % 8) = (fl : Int) % 8 := by rw [IntKind.wrap_i64]; omega
          have q7 : (0 : Int) ≤ (fl : Int) % 8 := by omega
          have q8 : ((fl : Int) % 8).toNat = fl % 8 := by omega
          refine wp_region_T #[[], [], [], [], [], [], [], [], [4], [4], [4]] [4] (fun w' => w'.cell? ⟨g, kept + fl / 8, none⟩ = some (.int .u8 (x.toNat : Int)) ∧ True) 11 rfl (by kernel_rfl) ?_
          (refine wpAnyT_free (i := 0) rfl (by kernel_rfl) rfl (fun _ _ _ h => h) (by kernel_rfl) (fun _ => by go_simp; try rfl) ?_; (try simp only [Act.put, List.setIfInBounds_toArray, List.set_cons_zero, List.set_cons_succ]))
          (refine wpAnyT_free (i := 1) rfl (by kernel_rfl) rfl (fun _ _ _ h => h) (by kernel_rfl) (fun _ => by go_simp; try rfl) ?_; (try simp only [Act.put, List.setIfInBounds_toArray, List.set_cons_zero, List.set_cons_succ]))
          (refine wpAnyT_free (i := 2) rfl (by kernel_rfl) rfl (fun _ _ _ h => h) (by kernel_rfl) (fun _ => by go_simp; try rfl) ?_; (try simp only [Act.put, List.setIfInBounds_toArray, List.set_cons_zero, List.set_cons_succ]))
          (refine wpAnyT_free (i := 3) rfl (by kernel_rfl) rfl (fun _ _ _ h => h) (by kernel_rfl) (fun _ => by go_simp; try rfl) ?_; (try simp only [Act.put, List.setIfInBounds_toArray, List.set_cons_zero, List.set_cons_succ]))
          (refine wpAnyT_read (i := 4) rfl (by kernel_rfl) rfl (fun _ _ _ h => h) (by kernel_rfl) (⟨hxc, trivial⟩) (fun w hS_ => by obtain ⟨s_1, s_2⟩ := hS_; go_simp; try rfl) ?_; (try simp only [Act.put, List.setIfInBounds_toArray, List.set_cons_zero, List.set_cons_succ]))
          (refine wpAnyT_free (i := 5) rfl (by kernel_rfl) rfl (fun _ _ _ h => h) (by kernel_rfl) (fun _ => by go_simp; try rfl) ?_; (try simp only [Act.put, List.setIfInBounds_toArray, List.set_cons_zero, List.set_cons_succ]))
          (refine wpAnyT_free (i := 6) rfl (by kernel_rfl) rfl (fun _ _ _ h => h) (by kernel_rfl) (fun _ => by go_simp; try rfl) ?_; (try simp only [Act.put, List.setIfInBounds_toArray, List.set_cons_zero, List.set_cons_succ]))
          (refine wpAnyT_free (i := 7) rfl (by kernel_rfl) rfl (fun _ _ _ h => h) (by kernel_rfl) (fun _ => by go_simp; try rfl) ?_; (try simp only [Act.put, List.setIfInBounds_toArray, List.set_cons_zero, List.set_cons_succ]))
          (refine wpAnyT_free (i := 8) rfl (by kernel_rfl) rfl (fun _ _ _ h => h) (by kernel_rfl) (fun _ => by go_simp; try rfl) ?_; (try simp only [Act.put, List.setIfInBounds_toArray, List.set_cons_zero, List.set_cons_succ]))
          (refine wpAnyT_free (i := 9) rfl (by kernel_rfl) rfl (fun _ _ _ h => h) (by kernel_rfl) (fun _ => by go_simp; try rfl) ?_; (try simp only [Act.put, List.setIfInBounds_toArray, List.set_cons_zero, List.set_cons_succ]))
          refine wpAnyT_sink (i := 10) rfl (by kernel_rfl) rfl (by kernel_rfl) ?_
          intro K_ hK_
          clear q3 q6; go_wp2
          (try (refine hK_ _ _ ?_; clear hK_ K_))
          (try simp only [Act.put, List.setIfInBounds_toArray, List.set_cons_zero, List.set_cons_succ])
          refine wpAnyT_done (by kernel_rfl) ?_ _
          go_wp2
          go_ret
          have et := torn_in all kept kn n fl x HN.out hk hfn Hx.out
          rw [H.out, et]
          rw [et] at hok'
          have eb := turn_bits x (fl % 8) (by omega)
          have hst := (hor3.stored (kept + fl / 8) (byteV (turnByte x (fl % 8)))).1
          rw [← List.map_set] at hst
          have F4 : Fr S w ((w3.setCell ⟨g, kept + fl / 8, none⟩ (byteV (turnByte x (fl % 8)))).drew.drew) :=
            ((F3.setCell (p := ⟨g, kept + fl / 8, none⟩) (.inr (Nat.le_trans F1.size hg1)) (notB_new (Nat.le_trans F1.size hg1)) _).drew).drew
          have hgb : b ≠ g := by have : w1.drew.heap.size = w1.heap.size := rfl
                                 omega
          have es : ((all.take (kept + n)).set (kept + fl / 8) (turnByte x (fl % 8))).length = kept + n := by rw [List.length_set, em]
          rw [eb]
          refine ⟨rfl, h.turned F4 (A' := some ⟨g, 0, none⟩) (D' := ⟨true, (all.take (kept + n)).set (kept + fl / 8) (turnByte x (fl % 8)), kept⟩) ?_ ?_ (by rw [es]; exact kc) hok', F4⟩
          · rw [es]
            have b4 := b3.far (p := ⟨g, kept + fl / 8, none⟩) hgb (byteV (turnByte x (fl % 8)))
            simpa using b4.drew.drew
          · exact Own.drew (Own.drew ((Own.of_row hst es.symm).up (S' := S) (W := w) fun x hx => .inr (Nat.le_trans F1.size hx)))
        · have q1 : (0 : Int) ≤ (fl : Int) := by omega
          have q2 : ¬ (fl : Int) / 8 < (n : Int) := by omega
          clear HA8
          go_wp2
          go_ret
          have et := torn_out all kept kn n fl HN.out hfn
          rw [H.out, et]
          rw [et] at hok'
          exact ⟨rfl, h.turned F3.drew (D' := ⟨true, all.take (kept + n), kept⟩) (by simpa [em] using b3.drew) (Own.drew ((Own.of_row (l := all.take (kept + n)) hor3 em.symm).up (S' := S) (W := w) fun x hx => .inr (Nat.le_trans F1.size hx))) (by rw [em]; exact kc) hok', F3.drew⟩
      · clear HA8
        go_wp2
        go_ret
        have et := torn_none all kept kn n flip HN.out (by omega)
        rw [H.out, et]
        rw [et] at hok'
        exact ⟨rfl, h.turned F3.drew (D' := ⟨true, all.take (kept + n), kept⟩) (by simpa [em] using b3.drew) (Own.drew ((Own.of_row (l := all.take (kept + n)) hor3 em.symm).up (S' := S) (W := w) fun x hx => .inr (Nat.le_trans F1.size hx))) (by rw [em]; exact kc) hok', F3.drew⟩
  · have e : (Dk.crash ⟨true, all, kept⟩ keep flip) = (⟨true, all, kept⟩, 10) := by simp [Dk.crash]
    have H := Lib.hid e
    clear e hok'
    go_enter Tryd.func91, Tryd.ntmps91
    go_wp2_with (go_at_call 117; refine (asked_at h).mono ?_; rintro e w' ⟨rfl, rfl⟩)
    go_ret
    rw [H.out]
    exact ⟨rfl, h.same, Fr.refl _ _⟩
end Go.Proofs.YtediidajdpdeiaaDoor
