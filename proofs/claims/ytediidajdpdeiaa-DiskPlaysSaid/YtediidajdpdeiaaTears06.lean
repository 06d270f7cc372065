/- DiskTears: the walk. -/
import Derived.Test.YtediidajdpdeiaaWhole06
namespace Go.Proofs.Ytediidajdpdeiaa
open Go.RowKit
set_option maxRecDepth 100000

theorem ActsAt.below {W W' : World} {A : Option Addr} {acts : List Act06} (h : ActsAt W A acts) (hb : Below W.heap.size W W') : ActsAt W' A acts := fun j a ha => by
  obtain ⟨g, o, B, c, e, hg, c0, c1, c2, c3, h1, h2, h3, h4⟩ := h j a ha
  refine ⟨g, o, B, c, e, Nat.lt_of_lt_of_le hg hb.size, (hb.cell (p := ⟨g, o + j * 4, none⟩) hg).trans c0, (hb.cell (p := ⟨g, o + j * 4 + 1, none⟩) hg).trans c1, (hb.cell (p := ⟨g, o + j * 4 + 2, none⟩) hg).trans c2, (hb.cell (p := ⟨g, o + j * 4 + 3, none⟩) hg).trans c3, h1, h2, ?_, h4⟩
  intro i x hx
  obtain ⟨ad, e, hlt, hc⟩ := h3 i x hx
  exact ⟨ad, e, Nat.lt_of_lt_of_le hlt hb.size, (hb.cell (p := ad.add i) (by rw [add_block]; exact hlt)).trans hc⟩
theorem RdB.below {W W' : World} {A : Option Addr} {l : List UInt8} (h : RdB W A l) (hb : Below W.heap.size W W') : RdB W' A l := fun i x hx => by
  obtain ⟨ad, e, hlt, hc⟩ := h i x hx
  exact ⟨ad, e, Nat.lt_of_lt_of_le hlt hb.size, (hb.cell (p := ad.add i) (by rw [add_block]; exact hlt)).trans hc⟩

theorem read_LB {W w : World} {b : Nat} {D : Dk} (h : Live W w b D) (l : List UInt8) (r : Int) (he : D.read = (l, r)) :
    Calls Try.prog 13 #[.pointer (some ⟨b, 0, none⟩)] w fun e w' =>
      ∃ A' c', e = .returned (.tuple #[.slice A' l.length c', .int .i64 r]) ∧ Byt w' A' l ∧ l.length ≤ c' ∧ c' ≤ maxLen ∧ Live W w' b D ∧ BK w w' := by
  obtain ⟨S, A, c, hd, hS, hb⟩ := h
  refine (read_B hd).mono fun e w' hh => ?_
  unfold DiskRead at hh
  rw [he] at hh
  obtain ⟨A', c', h1, h2, h3, h4, h5⟩ := hh
  exact ⟨A', c', h1, h2.mono fun _ _ => trivial, h3, h4, ⟨S, A, c, hd.below h5, hS, hb.trans (h5.mono hb.size)⟩, BK.below h5⟩

theorem Live.drew {W w : World} {b : Nat} {D : Dk} (h : Live W w b D) : Live W w.drew b D := h.mono ⟨rfl, rfl, rfl, Nat.le_refl _, fun _ _ => rfl⟩

theorem torn_get (l : List UInt8) (x y : Int) (i : Nat) (u : UInt8) (hi : i < (torn l x y).length) (hu : l[i]? = some u) :
    (torn l x y)[i]? = some (if 0 ≤ y ∧ y.toNat / 8 = i then turnByte u (y.toNat % 8) else u) := by
  rw [length_torn] at hi
  unfold torn
  by_cases hy : 0 ≤ y
  · rw [if_pos hy]
    unfold turn
    rw [List.getElem?_modify, List.getElem?_take_of_lt (by omega), hu]
    by_cases h : y.toNat / 8 = i
    · simp [h, hy]
    · simp [h]
  · rw [if_neg hy, List.getElem?_take_of_lt (by omega), hu, if_neg (fun h => hy h.1)]
theorem xor_same_all : ∀ x : Fin 256, bits .xor .u8 (x.val : Int) (x.val : Int) = 0 := by decide +kernel
theorem xor_same (x : UInt8) : bits .xor .u8 (x.toNat : Int) (x.toNat : Int) = 0 := xor_same_all ⟨x.toNat, x.toNat_lt⟩
theorem xor_turned_all : ∀ (x : Fin 256) (k : Fin 8), bits .xor .u8 ((UInt8.ofNat x.val ^^^ UInt8.ofNat (2 ^ k.val)).toNat : Int) (x.val : Int) = ((2 ^ k.val : Nat) : Int) := by decide +kernel
theorem xor_turned (x : UInt8) (k : Nat) (hk : k < 8) : bits .xor .u8 ((turnByte x k).toNat : Int) (x.toNat : Int) = ((2 ^ k : Nat) : Int) := by
  have := xor_turned_all ⟨x.toNat, x.toNat_lt⟩ ⟨k, hk⟩
  simp only [UInt8.ofNat_toNat] at this
  exact this
theorem and_pred_all : ∀ k : Fin 8, bits .and .u8 ((2 ^ k.val : Nat) : Int) (((2 ^ k.val : Nat) : Int) - 1) = 0 ∧ 1 ≤ 2 ^ k.val ∧ 2 ^ k.val ≤ 128 := by decide +kernel

set_option maxHeartbeats 1000000 in
theorem tears_06 (W : World) (A : Option Addr) (acts : List Act06) (c : Nat) (hA0 : ActsAt W A acts) (hlen : acts.length ≤ maxLen)
    (B : Option Addr) (bb : List UInt8) (cb : Nat) (hB0 : RdB W B bb) (hcb : bb.length ≤ cb) (hcm : cb ≤ maxLen) (x y : Int) (hx : i64 x) (hy : i64 y) :
    Calls Try.prog 5 #[.slice A acts.length c, .slice B bb.length cb, .agg #[.int .i64 x, .int .i64 y]] W fun e w' => e = .returned (.bool true) ∧ Below W.heap.size W w' := by
  obtain ⟨l, hl⟩ : ∃ l, l = bb.take 300 := ⟨_, rfl⟩
  have l1 : l.length ≤ bb.length := by rw [hl, List.length_take]; omega
  have l2 : l.length ≤ 300 := by rw [hl, List.length_take]; omega
  have l3 : (l.length : Int) ≤ (cb : Int) := by omega
  have hr0 : RdB W B l := hl ▸ hB0.take 300
  have hmin : ∀ w, (Builtin.min_ #[3, 3] 3 #[.int .i64 (bb.length : Int), .int .i64 300]).run Try.prog w = .ok (.int .i64 (l.length : Int)) w := by
    intro w
    rw [run_min_int2]
    have : (l.length : Int) = if (300 : Int) < (bb.length : Int) then 300 else (bb.length : Int) := by rw [hl, List.length_take]; split <;> omega
    rw [this]
  have b01 : Below W.heap.size W (W.alloc (.cells #[.int .i64 x, .int .i64 y] 39)) := (Below.refl _ _).alloc (Nat.le_refl _) _
  have z0 : Blk (W.alloc (.cells #[.int .i64 x, .int .i64 y] 39)) W.heap.size 39 #[.int .i64 x, .int .i64 y] := Blk.new _ _ _
  have hcall := plays_06 _ A acts c (hA0.below b01) hlen
  have hr := hr0.below b01
  have hup := up_plays acts
  have hok := ok_plays acts
  generalize plays06 acts = D at *
  obtain ⟨dn, all, kept⟩ := D
  simp only at hup hok
  subst hup
  obtain ⟨hk1, hk2⟩ := hok
  generalize hW1 : W.alloc (.cells #[.int .i64 x, .int .i64 y] 39) = W1 at *
  have hbx : ∀ w, Below W1.heap.size W1 w → w.cell? ⟨W.heap.size, 0, none⟩ = some (.int .i64 x) ∧ w.cell? ⟨W.heap.size, 1, none⟩ = some (.int .i64 y) := fun w hb =>
    ⟨(hb.cell (p := ⟨W.heap.size, 0, none⟩) z0.lt).trans (z0.cell 0 rfl), (hb.cell (p := ⟨W.heap.size, 1, none⟩) z0.lt).trans (z0.cell 1 rfl)⟩
  have HX := Lib.hid hbx
  clear hbx hl hB0 hA0 hr0 z0
  have e1 : Dk.sync ⟨false, all, kept⟩ = (⟨false, all, all.length⟩, 0) := rfl
  have e2 : (⟨false, all, all.length⟩ : Dk).all.take (⟨false, all, all.length⟩ : Dk).kept = all := List.take_length
  have H1 := Lib.hid e1
  have H2 := Lib.hid e2
  clear e1 e2
  unfold i64 at hx hy
  have hfin : ∀ w, Below W1.heap.size W1 w → Below W.heap.size W w := fun w hb => b01.trans (hb.mono b01.size)
  have HF := Lib.hid hfin
  clear hfin
  have HW1 := Lib.hid hW1
  by_cases hf : 4194304 < all.length + l.length
  · have e3 : Dk.append ⟨false, all, all.length⟩ l = (⟨false, all, all.length⟩, 7) := by simp [Dk.append, hf]
    have H3 := Lib.hid e3
    have hf' : (4194304 : Int) < (all.length : Int) + (l.length : Int) := by omega
    clear e3
    go_enter Try.func5, Try.ntmps5
    go_wp2_with (first
      | (go_at_call 8; refine hcall.mono ?_; rintro e w1 ⟨b, rfl, h1⟩; clear hcall hW1; obtain ⟨x0, x1⟩ := HX.out _ h1.below)
      | (go_at_call 17; refine (sync_L' h1 _ 0 H1.out).mono ?_; rintro e w2 ⟨rfl, h2⟩; clear h1 x0 x1)
      | (go_at_call 16; refine (kept_L' h2 all H2.out).mono ?_; rintro e w3 ⟨A3, c3, rfl, b3, hc3, hm3, h3, -⟩; obtain ⟨x0, x1⟩ := HX.out _ h3.below; clear h2)
      | (go_at_call 9; refine (append_L' h3 B l cb _ 7 H3.out (by omega) (hr.arg h3.below)).mono ?_; rintro e w4 ⟨rfl, h4⟩; clear h3 x0 x1)
      | (go_at_call 18; refine (size_L h4).mono ?_; rintro e w5 ⟨rfl, rfl⟩)
      | (go_at_call 15; refine (works_06 W1 _ h4.below).mono ?_; rintro e w6 ⟨rfl, h6⟩))
    go_ret
    exact ⟨rfl, HF.out _ h6⟩
  · have e3 : Dk.append ⟨false, all, all.length⟩ l = (⟨false, all ++ l, all.length⟩, 0) := by simp [Dk.append, hf]
    have H3 := Lib.hid e3
    clear e3
    by_cases hneg : x < 0
    · have e4 : Dk.crash ⟨false, all ++ l, all.length⟩ x y = (⟨false, all ++ l, all.length⟩, 2) := by simp [Dk.crash, hneg]
      have H4 := Lib.hid e4
      clear e4
      go_enter Try.func5, Try.ntmps5
      go_wp2_with (first
        | (go_at_call 8; refine hcall.mono ?_; rintro e w1 ⟨b, rfl, h1⟩; clear hcall hW1; obtain ⟨x0, x1⟩ := HX.out _ h1.below)
        | (go_at_call 17; refine (sync_L' h1 _ 0 H1.out).mono ?_; rintro e w2 ⟨rfl, h2⟩; clear h1 x0 x1)
        | (go_at_call 16; refine (kept_L' h2 all H2.out).mono ?_; rintro e w3 ⟨A3, c3, rfl, b3, hc3, hm3, h3, -⟩; obtain ⟨x0, x1⟩ := HX.out _ h3.below; clear h2)
        | (go_at_call 9; refine (append_L' h3 B l cb _ 0 H3.out (by omega) (hr.arg h3.below)).mono ?_; rintro e w4 ⟨rfl, h4⟩; clear h3 x0 x1; obtain ⟨x0, x1⟩ := HX.out _ h4.below)
        | (go_at_call 11; refine (crash_L' h4 x y _ 2 H4.out hx.2 hy.2 hx.1 hy.1).mono ?_; rintro e w5 ⟨rfl, h5⟩; clear h4 x0 x1)
        | (go_at_call 19; refine (down_L h5).mono ?_; rintro e w6 ⟨rfl, rfl⟩)
        | (go_at_call 15; refine (works_06 W1 _ h5.below).mono ?_; rintro e w6 ⟨rfl, h6⟩))
      go_ret
      exact ⟨rfl, HF.out _ h6⟩
    · obtain ⟨T, hT⟩ : ∃ T, T = torn l x y := ⟨_, rfl⟩
      have e4 : Dk.crash ⟨false, all ++ l, all.length⟩ x y = (⟨true, all ++ T, all.length⟩, 0) := by
        rw [hT]; unfold Dk.crash; rw [if_neg (by simp), if_neg hneg, List.take_left' rfl, List.drop_left' rfl]
      have e5 : Dk.restart ⟨true, all ++ T, all.length⟩ = (⟨false, all ++ T, (all ++ T).length⟩, 0) := by simp [Dk.restart]
      have e6 : Dk.read ⟨false, all ++ T, (all ++ T).length⟩ = (all ++ T, 0) := by simp [Dk.read]
      have hTl : T.length = min x.toNat l.length := by rw [hT, length_torn]
      have hTg := fun i u hi hu => torn_get l x y i u (by rw [← hT]; exact hi) hu
      rw [← hT] at hTg
      obtain ⟨n, hn⟩ : ∃ n, T.length = n := ⟨_, rfl⟩
      have hmin2 : ∀ w, (Builtin.min_ #[3, 3] 3 #[.int .i64 x, .int .i64 (l.length : Int)]).run Try.prog w = .ok (.int .i64 (n : Int)) w := by
        intro w
        rw [run_min_int2]
        have : (n : Int) = if (l.length : Int) < x then (l.length : Int) else x := by split <;> omega
        rw [this]
      have hnl : n ≤ l.length := by omega
      have H4 := Lib.hid e4
      have H5 := Lib.hid e5
      have H6 := Lib.hid e6
      have HT := Lib.hid hTg
      have HN := Lib.hid hn
      clear e4 e5 e6 hTg hTl hT hn
      have eaT : (all ++ T).length = all.length + n := by rw [List.length_append, HN.out]
      have EAT := Lib.hid eaT
      clear eaT
      go_enter Try.func5, Try.ntmps5
      go_wp2_with (first
        | (go_at_call 8; refine hcall.mono ?_; rintro e w1 ⟨b, rfl, h1⟩; clear hcall hW1; obtain ⟨x0, x1⟩ := HX.out _ h1.below)
        | (go_at_call 17; refine (sync_L' h1 _ 0 H1.out).mono ?_; rintro e w2 ⟨rfl, h2⟩; clear h1 x0 x1)
        | (go_at_call 16; refine (kept_L' h2 all H2.out).mono ?_; rintro e w3 ⟨A3, c3, rfl, b3, hc3, hm3, h3, -⟩; obtain ⟨x0, x1⟩ := HX.out _ h3.below; clear h2)
        | (go_at_call 9; refine (append_L h3 B l cb (by omega) (hr.arg h3.below)).mono ?_; rintro e w4 ⟨rfl, h4, k4⟩; rw [H3.out] at h4 ⊢; simp only at h4; have b4 := b3.bk k4; clear h3 x0 x1 b3 k4; obtain ⟨x0, x1⟩ := HX.out _ h4.below)
        | (go_at_call 11; refine (crash_L h4 x y hx.2 hy.2 hx.1 hy.1).mono ?_; rintro e w5 ⟨rfl, h5, k5⟩; rw [H4.out] at h5 ⊢; simp only at h5; have b5 := b4.bk k5; clear h4 x0 x1 b4 k5)
        | (go_at_call 19; refine (down_L h5).mono ?_; rintro e w6 ⟨rfl, rfl⟩)
        | (go_at_call 12; refine (restart_L h5).mono ?_; rintro e w6 ⟨rfl, h6, k6⟩; rw [H5.out] at h6 ⊢; simp only at h6; have b6 := b5.bk k6; clear h5 b5 k6)
        | (go_at_call 13; refine (read_LB h6 (all ++ T) 0 H6.out).mono ?_; rintro e w7 ⟨A7, c7, rfl, ha, hc7, hm7, h7, k7⟩; rw [EAT.out] at hc7 ⊢; have b7 := b6.bk k7; clear h6 b6 k7))
      have s1 : (convert 23 9 (.slice A7 all.length c7)).run Try.prog w7.drew = .ok (str all) w7.drew := by
        have h := run_str ((ha.arg (W := W1) Non (fun _ h => h.elim)).take all.length).drew c7
        rw [List.take_left' rfl] at h
        exact h
      have s2 : (convert 23 9 (.slice A3 all.length c3)).run Try.prog w7.drew = .ok (str all) w7.drew := run_str (b7.arg (W := W1) Non (fun _ h => h.elim)).drew c3
      have q0 : (0 : Int) ≤ (all.length : Int) := by omega
      have q1 : (all.length : Int) ≤ (c7 : Int) := by omega
      have q2 : IntKind.i64.wrap ((all.length : Int) + (n : Int)) = (all.length : Int) + (n : Int) := by rw [IntKind.wrap_i64]; omega
      refine wp_region_T #[[], [], [], [], [], [], [], [], [], [], [], [], [], [], [], [], [], [], [], [16, 18], [16, 18]] [16, 18] (fun w' => (convert 23 9 (.slice A7 all.length c7)).run Try.prog w' = .ok (str all) w' ∧ (convert 23 9 (.slice A3 all.length c3)).run Try.prog w' = .ok (str all) w') 21 rfl (by kernel_rfl) ?_
      (refine wpAnyT_free (i := 0) rfl (by kernel_rfl) rfl (fun _ _ _ h => h) (by kernel_rfl) (fun _ => by go_simp; try rfl) ?_; (try simp only [Act.put, List.setIfInBounds_toArray, List.set_cons_zero, List.set_cons_succ]))
      (refine wpAnyT_free (i := 1) rfl (by kernel_rfl) rfl (fun _ _ _ h => h) (by kernel_rfl) (fun _ => by go_simp; try rfl) ?_; (try simp only [Act.put, List.setIfInBounds_toArray, List.set_cons_zero, List.set_cons_succ]))
      (refine wpAnyT_free (i := 2) rfl (by kernel_rfl) rfl (fun _ _ _ h => h) (by kernel_rfl) (fun _ => by go_simp; try rfl) ?_; (try simp only [Act.put, List.setIfInBounds_toArray, List.set_cons_zero, List.set_cons_succ]))
      first
      | (refine wpAnyT_skip (i := 3) rfl (by kernel_rfl) ?hw_ (fun _ _ _ h => h) (fun h_ => absurd h_ (by decide)) ?_; (case hw_ => simp [Region.wanted, yielded]; done); (try simp only [Act.put, List.setIfInBounds_toArray, List.set_cons_zero, List.set_cons_succ]))
      | (refine wpAnyT_free (i := 3) rfl (by kernel_rfl) (by simp [Region.wanted, yielded]) (fun _ _ _ h => h) (by kernel_rfl) (fun _ => by go_simp; try rfl) ?_; (try simp only [Act.put, List.setIfInBounds_toArray, List.set_cons_zero, List.set_cons_succ]))
      first
      | (refine wpAnyT_skip (i := 4) rfl (by kernel_rfl) ?hw_ (fun _ _ _ h => h) (fun h_ => absurd h_ (by decide)) ?_; (case hw_ => simp [Region.wanted, yielded]; done); (try simp only [Act.put, List.setIfInBounds_toArray, List.set_cons_zero, List.set_cons_succ]))
      | (refine wpAnyT_free (i := 4) rfl (by kernel_rfl) (by simp [Region.wanted, yielded]) (fun _ _ _ h => h) (by kernel_rfl) (fun _ => by go_simp; try rfl) ?_; (try simp only [Act.put, List.setIfInBounds_toArray, List.set_cons_zero, List.set_cons_succ]))
      first
      | (refine wpAnyT_skip (i := 5) rfl (by kernel_rfl) ?hw_ (fun _ _ _ h => h) (fun h_ => absurd h_ (by decide)) ?_; (case hw_ => simp [Region.wanted, yielded]; done); (try simp only [Act.put, List.setIfInBounds_toArray, List.set_cons_zero, List.set_cons_succ]))
      | (refine wpAnyT_free (i := 5) rfl (by kernel_rfl) (by simp [Region.wanted, yielded]) (fun _ _ _ h => h) (by kernel_rfl) (fun _ => by go_simp; try rfl) ?_; (try simp only [Act.put, List.setIfInBounds_toArray, List.set_cons_zero, List.set_cons_succ]))
      first
      | (refine wpAnyT_skip (i := 6) rfl (by kernel_rfl) ?hw_ (fun _ _ _ h => h) (fun h_ => absurd h_ (by decide)) ?_; (case hw_ => simp [Region.wanted, yielded]; done); (try simp only [Act.put, List.setIfInBounds_toArray, List.set_cons_zero, List.set_cons_succ]))
      | (refine wpAnyT_free (i := 6) rfl (by kernel_rfl) (by simp [Region.wanted, yielded]) (fun _ _ _ h => h) (by kernel_rfl) (fun _ => by go_simp; try rfl) ?_; (try simp only [Act.put, List.setIfInBounds_toArray, List.set_cons_zero, List.set_cons_succ]))
      first
      | (refine wpAnyT_skip (i := 7) rfl (by kernel_rfl) ?hw_ (fun _ _ _ h => h) (fun h_ => absurd h_ (by decide)) ?_; (case hw_ => simp [Region.wanted, yielded]; done); (try simp only [Act.put, List.setIfInBounds_toArray, List.set_cons_zero, List.set_cons_succ]))
      | (refine wpAnyT_free (i := 7) rfl (by kernel_rfl) (by simp [Region.wanted, yielded]) (fun _ _ _ h => h) (by kernel_rfl) (fun _ => by go_simp; try rfl) ?_; (try simp only [Act.put, List.setIfInBounds_toArray, List.set_cons_zero, List.set_cons_succ]))
      first
      | (refine wpAnyT_skip (i := 8) rfl (by kernel_rfl) ?hw_ (fun _ _ _ h => h) (fun h_ => absurd h_ (by decide)) ?_; (case hw_ => simp [Region.wanted, yielded]; done); (try simp only [Act.put, List.setIfInBounds_toArray, List.set_cons_zero, List.set_cons_succ]))
      | (refine wpAnyT_free (i := 8) rfl (by kernel_rfl) (by simp [Region.wanted, yielded]) (fun _ _ _ h => h) (by kernel_rfl) (fun _ => by go_simp; try rfl) ?_; (try simp only [Act.put, List.setIfInBounds_toArray, List.set_cons_zero, List.set_cons_succ]))
      first
      | (refine wpAnyT_skip (i := 9) rfl (by kernel_rfl) ?hw_ (fun _ _ _ h => h) (fun h_ => absurd h_ (by decide)) ?_; (case hw_ => simp [Region.wanted, yielded]; done); (try simp only [Act.put, List.setIfInBounds_toArray, List.set_cons_zero, List.set_cons_succ]))
      | (refine wpAnyT_free (i := 9) rfl (by kernel_rfl) (by simp [Region.wanted, yielded]) (fun _ _ _ h => h) (by kernel_rfl) (fun _ => by go_simp; try rfl) ?_; (try simp only [Act.put, List.setIfInBounds_toArray, List.set_cons_zero, List.set_cons_succ]))
      (refine wpAnyT_free (i := 10) rfl (by kernel_rfl) rfl (fun _ _ _ h => h) (by kernel_rfl) (fun _ => by go_simp; try rfl) ?_; (try simp only [Act.put, List.setIfInBounds_toArray, List.set_cons_zero, List.set_cons_succ]))
      (refine wpAnyT_free (i := 11) rfl (by kernel_rfl) rfl (fun _ _ _ h => h) (by kernel_rfl) (fun _ => by go_simp; try rfl) ?_; (try simp only [Act.put, List.setIfInBounds_toArray, List.set_cons_zero, List.set_cons_succ]))
      first
      | (refine wpAnyT_skip (i := 12) rfl (by kernel_rfl) ?hw_ (fun _ _ _ h => h) (fun h_ => absurd h_ (by decide)) ?_; (case hw_ => simp [Region.wanted, yielded]; done); (try simp only [Act.put, List.setIfInBounds_toArray, List.set_cons_zero, List.set_cons_succ]))
      | (refine wpAnyT_free (i := 12) rfl (by kernel_rfl) (by simp [Region.wanted, yielded]) (fun _ _ _ h => h) (by kernel_rfl) (fun _ => by go_simp; try rfl) ?_; (try simp only [Act.put, List.setIfInBounds_toArray, List.set_cons_zero, List.set_cons_succ]))
      first
      | (refine wpAnyT_skip (i := 13) rfl (by kernel_rfl) ?hw_ (fun _ _ _ h => h) (fun h_ => absurd h_ (by decide)) ?_; (case hw_ => simp [Region.wanted, yielded]; done); (try simp only [Act.put, List.setIfInBounds_toArray, List.set_cons_zero, List.set_cons_succ]))
      | (refine wpAnyT_free (i := 13) rfl (by kernel_rfl) (by simp [Region.wanted, yielded]) (fun _ _ _ h => h) (by kernel_rfl) (fun _ => by go_simp; try rfl) ?_; (try simp only [Act.put, List.setIfInBounds_toArray, List.set_cons_zero, List.set_cons_succ]))
      first
      | (refine wpAnyT_skip (i := 14) rfl (by kernel_rfl) ?hw_ (fun _ _ _ h => h) (fun h_ => absurd h_ (by decide)) ?_; (case hw_ => simp [Region.wanted, yielded]; done); (try simp only [Act.put, List.setIfInBounds_toArray, List.set_cons_zero, List.set_cons_succ]))
      | (refine wpAnyT_free (i := 14) rfl (by kernel_rfl) (by simp [Region.wanted, yielded]) (fun _ _ _ h => h) (by kernel_rfl) (fun _ => by go_simp; try rfl) ?_; (try simp only [Act.put, List.setIfInBounds_toArray, List.set_cons_zero, List.set_cons_succ]))
      first
      | (refine wpAnyT_skip (i := 15) rfl (by kernel_rfl) ?hw_ (fun _ _ _ h => h) (fun h_ => absurd h_ (by decide)) ?_; (case hw_ => simp [Region.wanted, yielded]; done); (try simp only [Act.put, List.setIfInBounds_toArray, List.set_cons_zero, List.set_cons_succ]))
      | (refine wpAnyT_free (i := 15) rfl (by kernel_rfl) (by simp [Region.wanted, yielded]) (fun _ _ _ h => h) (by kernel_rfl) (fun _ => by go_simp; try rfl) ?_; (try simp only [Act.put, List.setIfInBounds_toArray, List.set_cons_zero, List.set_cons_succ]))
      first
      | (refine wpAnyT_skip (i := 16) rfl (by kernel_rfl) ?hw_ (fun _ _ _ h => h) (fun _ => ⟨s1, s2⟩) ?_; (case hw_ => simp [Region.wanted, yielded]; done); (try simp only [Act.put, List.setIfInBounds_toArray, List.set_cons_zero, List.set_cons_succ]))
      | (refine wpAnyT_read (i := 16) rfl (by kernel_rfl) (by simp [Region.wanted, yielded]) (fun _ _ _ h => h) (by kernel_rfl) (⟨s1, s2⟩) (fun w hS_ => by obtain ⟨s_1, s_2⟩ := hS_; go_simp; try rfl) ?_; (try simp only [Act.put, List.setIfInBounds_toArray, List.set_cons_zero, List.set_cons_succ]))
      first
      | (refine wpAnyT_skip (i := 17) rfl (by kernel_rfl) ?hw_ (fun _ _ _ h => h) (fun h_ => absurd h_ (by decide)) ?_; (case hw_ => simp [Region.wanted, yielded]; done); (try simp only [Act.put, List.setIfInBounds_toArray, List.set_cons_zero, List.set_cons_succ]))
      | (refine wpAnyT_free (i := 17) rfl (by kernel_rfl) (by simp [Region.wanted, yielded]) (fun _ _ _ h => h) (by kernel_rfl) (fun _ => by go_simp; try rfl) ?_; (try simp only [Act.put, List.setIfInBounds_toArray, List.set_cons_zero, List.set_cons_succ]))
      first
      | (refine wpAnyT_skip (i := 18) rfl (by kernel_rfl) ?hw_ (fun _ _ _ h => h) (fun _ => ⟨s1, s2⟩) ?_; (case hw_ => simp [Region.wanted, yielded]; done); (try simp only [Act.put, List.setIfInBounds_toArray, List.set_cons_zero, List.set_cons_succ]))
      | (refine wpAnyT_read (i := 18) rfl (by kernel_rfl) (by simp [Region.wanted, yielded]) (fun _ _ _ h => h) (by kernel_rfl) (⟨s1, s2⟩) (fun w hS_ => by obtain ⟨s_1, s_2⟩ := hS_; go_simp; try rfl) ?_; (try simp only [Act.put, List.setIfInBounds_toArray, List.set_cons_zero, List.set_cons_succ]))
      first
      | (refine wpAnyT_skip (i := 19) rfl (by kernel_rfl) ?hw_ (fun _ _ _ h => h) (fun h_ => absurd h_ (by decide)) ?_; (case hw_ => simp [Region.wanted, yielded]; done); (try simp only [Act.put, List.setIfInBounds_toArray, List.set_cons_zero, List.set_cons_succ]))
      | (refine wpAnyT_free (i := 19) rfl (by kernel_rfl) (by simp [Region.wanted, yielded]) (fun _ _ _ h => h) (by kernel_rfl) (fun _ => by go_simp; try rfl) ?_; (try simp only [Act.put, List.setIfInBounds_toArray, List.set_cons_zero, List.set_cons_succ]))
      (refine wpAnyT_free (i := 20) rfl (by kernel_rfl) rfl (fun _ _ _ h => h) (by kernel_rfl) (fun _ => by go_simp; try rfl) ?_; (try simp only [Act.put, List.setIfInBounds_toArray, List.set_cons_zero, List.set_cons_succ]))
      refine wpAnyT_done (by kernel_rfl) ?_ _
      clear s1 s2 q2
      go_wp2_with fail
      obtain ⟨tg, htg⟩ : ∃ tg : Nat → Nat, ∀ i, tg i = if 0 ≤ y ∧ y.toNat / 8 < i then 1 else 0 := ⟨_, fun _ => rfl⟩
      have TG := Lib.hid htg
      have tg1 : ∀ i, tg i ≤ 1 := fun i => by rw [htg]; split <;> omega
      have tg0 : tg 0 = 0 := by rw [htg, if_neg (by omega)]
      have TG1 := Lib.hid tg1
      clear htg tg1
      go_loopw [13, 107] (fun m i wr => ∃ k : Nat, k ≤ n ∧ i = .int .i64 k ∧ m = .int .i64 (tg k : Int) ∧ Live W1 wr b ⟨false, all ++ T, (all ++ T).length⟩ ∧ Byt wr A7 (all ++ T)) (fun _ i _ => n - (intOf i).toNat)
      case atStart => exact ⟨0, by omega, rfl, by rw [tg0]; rfl, ⟨h7.drew, ha⟩⟩
      case round =>
        obtain ⟨k, hk, rfl, rfl, hL, hby⟩ := hrel
        by_cases hlt : k < n
        · obtain ⟨u, hu⟩ : ∃ u, l[k]? = some u := ⟨_, List.getElem?_eq_getElem (by omega)⟩
          have hv := HT.out k u (by rw [HN.out]; exact hlt) hu
          obtain ⟨v, hv'⟩ : ∃ v, v = if 0 ≤ y ∧ y.toNat / 8 = k then turnByte u (y.toNat % 8) else u := ⟨_, rfl⟩
          rw [← hv'] at hv
          have hv2 : (all ++ T)[all.length + k]? = some v := by rw [List.getElem?_append_right (by omega), Nat.add_sub_cancel_left]; exact hv
          obtain ⟨ad, rfl, hc1, -⟩ := hby _ v hv2
          obtain ⟨bd, rfl, hlt2, hc2⟩ := hr k u hu
          have hc3' := (hL.below.cell (p := bd.add k) (by rw [add_block]; exact hlt2)).trans hc2
          have hY : ∃ Y : Nat, bits .xor .u8 (v.toNat : Int) (u.toNat : Int) = (Y : Int) ∧ ((Y = 0 ∧ tg (k + 1) = tg k) ∨ (tg k = 0 ∧ tg (k + 1) = 1 ∧ bits .and .u8 (Y : Int) ((Y : Int) - 1) = 0 ∧ 1 ≤ Y ∧ Y ≤ 128)) := by
            by_cases hh : 0 ≤ y ∧ y.toNat / 8 = k
            · rw [if_pos hh] at hv'
              subst hv'
              have h8 : y.toNat % 8 < 8 := Nat.mod_lt _ (by omega)
              refine ⟨2 ^ (y.toNat % 8), xor_turned u _ h8, .inr ⟨?_, ?_, and_pred_all ⟨_, h8⟩⟩⟩
              · rw [TG.out, if_neg (by omega)]
              · rw [TG.out, if_pos (by omega)]
            · rw [if_neg hh] at hv'
              subst hv'
              refine ⟨0, xor_same v, .inl ⟨rfl, ?_⟩⟩
              rw [TG.out, TG.out]
              by_cases h2 : 0 ≤ y ∧ y.toNat / 8 < k
              · rw [if_pos h2, if_pos (by omega)]
              · rw [if_neg h2, if_neg (by omega)]
          obtain ⟨Y, hY1, hY2⟩ := hY
          have HY := Lib.hid hY2
          unfold byteV at hc1 hc3'
          have v1 := v.toNat_lt
          have u1 := u.toNat_lt
          have w1' : (k : Int) < (n : Int) := by omega
          have w2' : (k : Int) < (l.length : Int) := by omega
          have w3' : (all.length : Int) + (k : Int) < (all.length : Int) + (n : Int) := by omega
          have w4' : IntKind.i64.wrap ((all.length : Int) + (k : Int)) = (all.length : Int) + (k : Int) := by rw [IntKind.wrap_i64]; omega
          have w5' : ((all.length : Int) + (k : Int)).toNat = all.length + k := by omega
          have w6' : (0 : Int) ≤ (all.length : Int) + (k : Int) := by omega
          have t2 := TG1.out k
          have t3 := TG1.out (k + 1)
          clear hv hv' hv2 hu hY2
          go_wp2
          refine wp_region_T #[[], [], [], [], [], [], [], [], [], [], [], [6, 10], [6, 10]] [6, 10] (fun w' => w'.cell? (ad.add (all.length + k)) = some (.int .u8 (v.toNat : Int)) ∧ w'.cell? (bd.add k) = some (.int .u8 (u.toNat : Int))) 13 rfl (by kernel_rfl) ?_
          (refine wpAnyT_free (i := 0) rfl (by kernel_rfl) rfl (fun _ _ _ h => h) (by kernel_rfl) (fun _ => by go_simp; try rfl) ?_; (try simp only [Act.put, List.setIfInBounds_toArray, List.set_cons_zero, List.set_cons_succ]))
          (refine wpAnyT_free (i := 1) rfl (by kernel_rfl) rfl (fun _ _ _ h => h) (by kernel_rfl) (fun _ => by go_simp; try rfl) ?_; (try simp only [Act.put, List.setIfInBounds_toArray, List.set_cons_zero, List.set_cons_succ]))
          (refine wpAnyT_free (i := 2) rfl (by kernel_rfl) rfl (fun _ _ _ h => h) (by kernel_rfl) (fun _ => by go_simp; try rfl) ?_; (try simp only [Act.put, List.setIfInBounds_toArray, List.set_cons_zero, List.set_cons_succ]))
          (refine wpAnyT_free (i := 3) rfl (by kernel_rfl) rfl (fun _ _ _ h => h) (by kernel_rfl) (fun _ => by go_simp; try rfl) ?_; (try simp only [Act.put, List.setIfInBounds_toArray, List.set_cons_zero, List.set_cons_succ]))
          (refine wpAnyT_free (i := 4) rfl (by kernel_rfl) rfl (fun _ _ _ h => h) (by kernel_rfl) (fun _ => by go_simp; try rfl) ?_; (try simp only [Act.put, List.setIfInBounds_toArray, List.set_cons_zero, List.set_cons_succ]))
          (refine wpAnyT_free (i := 5) rfl (by kernel_rfl) rfl (fun _ _ _ h => h) (by kernel_rfl) (fun _ => by go_simp; try rfl) ?_; (try simp only [Act.put, List.setIfInBounds_toArray, List.set_cons_zero, List.set_cons_succ]))
          (refine wpAnyT_read (i := 6) rfl (by kernel_rfl) rfl (fun _ _ _ h => h) (by kernel_rfl) (⟨hc1, hc3'⟩) (fun w hS_ => by obtain ⟨s_1, s_2⟩ := hS_; go_simp; try rfl) ?_; (try simp only [Act.put, List.setIfInBounds_toArray, List.set_cons_zero, List.set_cons_succ]))
          (refine wpAnyT_free (i := 7) rfl (by kernel_rfl) rfl (fun _ _ _ h => h) (by kernel_rfl) (fun _ => by go_simp; try rfl) ?_; (try simp only [Act.put, List.setIfInBounds_toArray, List.set_cons_zero, List.set_cons_succ]))
          (refine wpAnyT_free (i := 8) rfl (by kernel_rfl) rfl (fun _ _ _ h => h) (by kernel_rfl) (fun _ => by go_simp; try rfl) ?_; (try simp only [Act.put, List.setIfInBounds_toArray, List.set_cons_zero, List.set_cons_succ]))
          (refine wpAnyT_free (i := 9) rfl (by kernel_rfl) rfl (fun _ _ _ h => h) (by kernel_rfl) (fun _ => by go_simp; try rfl) ?_; (try simp only [Act.put, List.setIfInBounds_toArray, List.set_cons_zero, List.set_cons_succ]))
          (refine wpAnyT_read (i := 10) rfl (by kernel_rfl) rfl (fun _ _ _ h => h) (by kernel_rfl) (⟨hc1, hc3'⟩) (fun w hS_ => by obtain ⟨s_1, s_2⟩ := hS_; go_simp; try rfl) ?_; (try simp only [Act.put, List.setIfInBounds_toArray, List.set_cons_zero, List.set_cons_succ]))
          (refine wpAnyT_free (i := 11) rfl (by kernel_rfl) rfl (fun _ _ _ h => h) (by kernel_rfl) (fun _ => by go_simp; try rfl) ?_; (try simp only [Act.put, List.setIfInBounds_toArray, List.set_cons_zero, List.set_cons_succ]))
          (refine wpAnyT_free (i := 12) rfl (by kernel_rfl) rfl (fun _ _ _ h => h) (by kernel_rfl) (fun _ => by go_simp; try rfl) ?_; (try simp only [Act.put, List.setIfInBounds_toArray, List.set_cons_zero, List.set_cons_succ]))
          refine wpAnyT_done (by kernel_rfl) ?_ _
          try rw [hY1]
          clear w4' hY1 hc1 hc3'
          go_wp2_with fail
          go_loop [13, 15] (fun m z => ∃ mm Z : Nat, z = .int .u8 (Z : Int) ∧ m = .int .i64 (mm : Int) ∧ mm ≤ 1 ∧ ((Z = 0 ∧ mm = tg (k + 1)) ∨ (mm = 0 ∧ tg (k + 1) = 1 ∧ bits .and .u8 (Z : Int) ((Z : Int) - 1) = 0 ∧ 1 ≤ Z ∧ Z ≤ 128))) (fun _ z => (intOf z).toNat)
          case atStart =>
            refine ⟨tg k, Y, rfl, rfl, t2, ?_⟩
            rcases HY.out with ⟨h1, h2⟩ | ⟨h1, h2, h3⟩
            · exact .inl ⟨h1, h2.symm⟩
            · exact .inr ⟨h1, h2, h3⟩
          case round =>
            obtain ⟨mm, Z, rfl, rfl, hm1, hZ⟩ := hrel
            rcases hZ with ⟨rfl, hZ⟩ | ⟨rfl, hz1, hz2, hz3, hz4⟩
            · have HZ := Lib.hid hZ
              clear hZ
              go_wp2
              go_roundw
              case rel => exact ⟨k + 1, by omega, by go_num, by rw [HZ.out], hL.drew, hby⟩
              case measure => simp [intOf]; omega
            · have hz5 : ((Z : Int) == 0) = false := by simp; omega
              have hz6 : (1 : Int) ≤ (Z : Int) := by omega
              have hz7 : (Z : Int) ≤ 128 := by omega
              have HZ := Lib.hid hz1
              clear hz1
              go_wp2
              go_round
              case rel => exact ⟨1, 0, by first | rfl | simp [hz2], rfl, by omega, .inl ⟨rfl, HZ.out.symm⟩⟩
              case measure => simp [intOf, hz2]; omega
        · obtain rfl : k = n := by omega
          obtain ⟨x0, x1⟩ := HX.out _ hL.below
          have ht := TG.out k
          have hbel := hL.below
          clear hby hL
          by_cases hy0 : 0 ≤ y
          · obtain ⟨yn, rfl⟩ : ∃ m : Nat, y = m := ⟨y.toNat, by omega⟩
            rw [Int.toNat_natCast] at ht
            by_cases hyn : yn / 8 < k
            · rw [if_pos ⟨hy0, hyn⟩] at ht
              have g2 : (yn : Int) / 8 < (k : Int) := by omega
              rw [ht]
              clear ht
              go_wp2_with (go_at_call 15; refine (works_06 W1 _ hbel).mono ?_; rintro e w8 ⟨rfl, h8⟩)
              go_ret
              exact ⟨rfl, HF.out _ h8⟩
            · rw [if_neg (fun h => hyn h.2)] at ht
              have g2 : ¬ (yn : Int) / 8 < (k : Int) := by omega
              rw [ht]
              clear ht
              go_wp2_with (go_at_call 15; refine (works_06 W1 _ hbel).mono ?_; rintro e w8 ⟨rfl, h8⟩)
              go_ret
              exact ⟨rfl, HF.out _ h8⟩
          · rw [if_neg (fun h => hy0 h.1)] at ht
            have g2 : y < 0 := by omega
            have g3 : decide ((0 : Int) ≤ y) = false := by simp; omega
            rw [ht]
            clear ht
            go_wp2_with (go_at_call 15; refine (works_06 W1 _ hbel).mono ?_; rintro e w8 ⟨rfl, h8⟩)
            go_ret
            exact ⟨rfl, HF.out _ h8⟩
end Go.Proofs.Ytediidajdpdeiaa
