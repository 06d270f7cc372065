/- SeglogSegments: the law's walk. -/
import Derived.Test.YtediidajdpdeiaaDoorHeld07
namespace Go.Proofs.YtediidajdpdeiaaDoor
open Go.RowKit CrcM
set_option maxRecDepth 100000

/-- what is known where k records have been put -/
structure Put (per : Nat) (xs : List (List UInt8)) (k : Nat) (L : Lg) : Prop where
  inv : L.inv k
  down : L.down = false
  per : L.per = per
  recs : L.recs = (xs.take k).map (·.take 200)
  base : L.base = 0
  safe : L.safe = 0
  none : k = 0 → L.segs = []
  last : ∀ g, L.segs.getLast? = some g → g.recs ≠ []

theorem Put.step {per : Nat} {xs : List (List UInt8)} {k : Nat} {L : Lg} (h : Put per xs k L) (hk : k < 60) {x : List UInt8} (hx : xs[k]? = some x) : ∃ L', L.append (x.take 200) = (L', k, 0) ∧ Put per xs (k + 1) L' ∧ L'.segs.length = k / per + 1 ∧ L'.len = k + 1 := by
  have hxl : k < xs.length := (List.getElem?_eq_some_iff.1 hx).1
  have hrl : L.recs.length = k := by rw [h.recs, List.length_map, List.length_take]; omega
  have hlen : L.len = k := by rw [h.inv.len h.down, h.base, hrl]; omega
  rcases h.inv.append h.down (by omega) (x.take 200) (by rw [List.length_take]; omega) with ⟨_, h2, _⟩ | ⟨L', e, a⟩
  · exfalso
    cases k with
    | zero => rw [h.none rfl] at h2; cases h2
    | succ m =>
      have := h.inv.count h.down hrl h.last
      have h3 : m / L.per ≤ m := Nat.div_le_self _ _
      omega
  · have hr : L'.recs = (xs.take (k + 1)).map (·.take 200) := by
      have e2 : xs.take (k + 1) = xs.take k ++ [x] := by rw [List.take_add_one, hx]; rfl
      rw [a.recs, h.recs, e2, List.map_append]
      rfl
    have hrl' : L'.recs.length = k + 1 := by rw [a.recs, List.length_append, hrl]; rfl
    refine ⟨L', by rw [e, hlen], ⟨a.inv, a.down, a.per.trans h.per, hr, a.base.trans h.base, a.safe.trans h.safe, fun h => by omega, a.tail⟩, ?_, ?_⟩
    · have := a.inv.count a.down hrl' a.tail
      rw [this, a.per, h.per]
    · rw [a.inv.len a.down, a.base, h.base, hrl']; omega

set_option maxHeartbeats 4000000 in
theorem segmentsLaw_07 (W : World) (hh : HalfAt W) (per : Int) (A : Option Addr) (xs : List (List UInt8)) (c : Nat) (hA : RdBs W A xs) (hlen : xs.length ≤ maxLen) :
    Calls Tryd.prog 10 #[.int .i64 per, .slice A xs.length c] W fun e w' => e = .returned (.bool true) ∧ Below W.heap.size W w' := by
  unfold maxLen at hlen
  obtain ⟨kp, hp1, hp2, hp3⟩ := rem_up per 7 (by decide)
  have hpr := rem_any per 7 (by decide)
  have wz1 : IntKind.i64.wrap (per.tmod 7) = per.tmod 7 := by rw [IntKind.wrap_i64]; omega
  have wz2 : IntKind.i64.wrap (per.tmod 7 + 7) = per.tmod 7 + 7 := by rw [IntKind.wrap_i64]; omega
  have wz3 : IntKind.i64.wrap (kp : Int) = (kp : Int) := by rw [IntKind.wrap_i64]; omega
  have wz4 : IntKind.i64.wrap (1 + (kp : Int)) = 1 + (kp : Int) := by rw [IntKind.wrap_i64]; omega
  have hpt : (1 + (kp : Int)).toNat = 1 + kp := by omega
  go_enter Tryd.func10, Tryd.ntmps10
  go_wp2_with (go_at_call 34; refine (new_G (Below.refl _ _) (1 + (kp : Int)) (by omega) (by omega)).mono ?_; rintro e w1 ⟨b, rfl, h1, -⟩)
  rw [hpt] at h1
  have h1' := h1.sub (X' := Non) (fun _ h => h.elim)
  have hP0 : Put (1 + kp) xs 0 (Lg.new (1 + kp)) := ⟨Lg.inv_new (by omega) (by omega), rfl, rfl, rfl, rfl, rfl, fun _ => rfl, fun g hg => by cases hg⟩
  have gp : ¬ (1 + (kp : Int)) = 0 := by omega
  clear wz1 wz2 wz3 wz4 hp1 hp2 hpr h1 hpt
  go_loopw [7] (fun i wr => ∃ (k : Nat) (L : Lg), k ≤ xs.length ∧ k ≤ 60 ∧ i = .int .i64 k ∧ Put (1 + kp) xs k L ∧ LiveG W wr b L Non) (fun i _ => 60 - (intOf i).toNat)
  case atStart => exact ⟨0, _, by omega, by omega, rfl, hP0, h1'⟩
  case round =>
    obtain ⟨k, L, hk, hk6, rfl, hP, hL⟩ := hrel
    clear hP0 h1'
    have hbel := hL.below
    by_cases hlt : k < xs.length ∧ k < 60
    · obtain ⟨hlt, hlt6⟩ := hlt
      obtain ⟨x, hx⟩ : ∃ x, xs[k]? = some x := ⟨_, List.getElem?_eq_getElem hlt⟩
      obtain ⟨g, o, B, cb, rfl, hg, e3, hcb, hcm, hB⟩ := hA k x hx
      have f3 : wr.cell? ⟨g, o + k, none⟩ = some (.slice B x.length cb) := (hbel.cell (p := ⟨g, o + k, none⟩) hg).trans e3
      obtain ⟨L', ea, hP', hsg, hln⟩ := hP.step hlt6 hx
      obtain ⟨l, hl⟩ : ∃ l, l = x.take 200 := ⟨_, rfl⟩
      have l1 : l.length ≤ x.length := by rw [hl, List.length_take]; omega
      have l2 : l.length ≤ 200 := by rw [hl, List.length_take]; omega
      have l3 : (l.length : Int) ≤ (cb : Int) := by omega
      have hr : RdB W B l := hl ▸ hB.take 200
      have hmin : ∀ w, (Builtin.min_ #[3, 3] 3 #[.int .i64 (x.length : Int), .int .i64 200]).run Tryd.prog w = .ok (.int .i64 (l.length : Int)) w := by
        intro w
        rw [run_min_int2]
        have : (l.length : Int) = if (200 : Int) < (x.length : Int) then 200 else (x.length : Int) := by rw [hl, List.length_take]; split <;> omega
        rw [this]
      rw [← hl] at ea
      have hL60 : L.len ≤ 4611686018427387904 := by have := hP.inv.len_le; omega
      have hAp := append_G (hL.mono' ((Below.refl _ wr).drew)) hh hL60 B l cb (hr.arg hbel.drew) (by omega)
      unfold LiveGApp at hAp
      rw [ea] at hAp
      have hlt' : (k : Int) < (xs.length : Int) := by omega
      have hlt60 : (k : Int) < 60 := by omega
      have q1 : (k : Int) / (1 + (kp : Int)) = ((k / (1 + kp) : Nat) : Int) := by
        rw [show (1 + (kp : Int)) = ((1 + kp : Nat) : Int) by omega]
        rfl
      have hqd : k / (1 + kp) ≤ k := Nat.div_le_self _ _
      have q2 : IntKind.i64.wrap ((k : Int) / (1 + (kp : Int))) = (k : Int) / (1 + (kp : Int)) := by rw [q1, IntKind.wrap_i64]; omega
      have q3 : IntKind.i64.wrap ((k : Int) / (1 + (kp : Int)) + 1) = ((L'.segs.length : Nat) : Int) := by rw [q1, IntKind.wrap_i64]; omega
      have q4 : IntKind.i64.wrap ((k : Int) + 1) = (k : Int) + 1 := by rw [IntKind.wrap_i64]; omega
      have HLN := Lib.hid hln
      have HP' := Lib.hid hP'
      clear hB hcb ea hl hx e3 hP hsg hln hP' hL60 q1 hqd
      go_wp2
      refine wp_region_T #[[], [], [], [], [], [], [], [], [], [8], [8], [4, 8], [4, 8], [4, 8], [4, 8], [4, 8], [4, 8], [4, 8]] [4, 8] (fun w' => w'.cell? ⟨g, o + k, none⟩ = some (.slice B x.length cb) ∧ True) 18 rfl (by kernel_rfl) ?_
      (refine wpAnyT_free (i := 0) rfl (by kernel_rfl) rfl (fun _ _ _ h => h) (by kernel_rfl) (fun _ => by go_simp; try rfl) ?_; (try simp only [Act.put, List.setIfInBounds_toArray, List.set_cons_zero, List.set_cons_succ]))
      (refine wpAnyT_free (i := 1) rfl (by kernel_rfl) rfl (fun _ _ _ h => h) (by kernel_rfl) (fun _ => by go_simp; try rfl) ?_; (try simp only [Act.put, List.setIfInBounds_toArray, List.set_cons_zero, List.set_cons_succ]))
      (refine wpAnyT_free (i := 2) rfl (by kernel_rfl) rfl (fun _ _ _ h => h) (by kernel_rfl) (fun _ => by go_simp; try rfl) ?_; (try simp only [Act.put, List.setIfInBounds_toArray, List.set_cons_zero, List.set_cons_succ]))
      (refine wpAnyT_free (i := 3) rfl (by kernel_rfl) rfl (fun _ _ _ h => h) (by kernel_rfl) (fun _ => by go_simp; try rfl) ?_; (try simp only [Act.put, List.setIfInBounds_toArray, List.set_cons_zero, List.set_cons_succ]))
      (refine wpAnyT_read (i := 4) rfl (by kernel_rfl) rfl (fun _ _ _ h => h) (by kernel_rfl) (⟨f3, trivial⟩) (fun w hS_ => by obtain ⟨s_1, s_2⟩ := hS_; go_simp; try rfl) ?_; (try simp only [Act.put, List.setIfInBounds_toArray, List.set_cons_zero, List.set_cons_succ]))
      (refine wpAnyT_free (i := 5) rfl (by kernel_rfl) rfl (fun _ _ _ h => h) (by kernel_rfl) (fun _ => by go_simp; try rfl) ?_; (try simp only [Act.put, List.setIfInBounds_toArray, List.set_cons_zero, List.set_cons_succ]))
      (refine wpAnyT_free (i := 6) rfl (by kernel_rfl) rfl (fun _ _ _ h => h) (by kernel_rfl) (fun _ => by go_simp; try rfl) ?_; (try simp only [Act.put, List.setIfInBounds_toArray, List.set_cons_zero, List.set_cons_succ]))
      (refine wpAnyT_free (i := 7) rfl (by kernel_rfl) rfl (fun _ _ _ h => h) (by kernel_rfl) (fun _ => by go_simp; try rfl) ?_; (try simp only [Act.put, List.setIfInBounds_toArray, List.set_cons_zero, List.set_cons_succ]))
      (refine wpAnyT_read (i := 8) rfl (by kernel_rfl) rfl (fun _ _ _ h => h) (by kernel_rfl) (⟨f3, trivial⟩) (fun w hS_ => by obtain ⟨s_1, s_2⟩ := hS_; go_simp; try rfl) ?_; (try simp only [Act.put, List.setIfInBounds_toArray, List.set_cons_zero, List.set_cons_succ]))
      (refine wpAnyT_free (i := 9) rfl (by kernel_rfl) rfl (fun _ _ _ h => h) (by kernel_rfl) (fun _ => by go_simp; try rfl) ?_; (try simp only [Act.put, List.setIfInBounds_toArray, List.set_cons_zero, List.set_cons_succ]))
      (refine wpAnyT_free (i := 10) rfl (by kernel_rfl) rfl (fun _ _ _ h => h) (by kernel_rfl) (fun _ => by go_simp; try rfl) ?_; (try simp only [Act.put, List.setIfInBounds_toArray, List.set_cons_zero, List.set_cons_succ]))
      (refine wpAnyT_free (i := 11) rfl (by kernel_rfl) rfl (fun _ _ _ h => h) (by kernel_rfl) (fun _ => by go_simp; try rfl) ?_; (try simp only [Act.put, List.setIfInBounds_toArray, List.set_cons_zero, List.set_cons_succ]))
      refine wpAnyT_sink (i := 12) rfl (by kernel_rfl) rfl (by kernel_rfl) ?_
      intro K_ hK_
      go_wp2_with ((go_at_call 35; refine hAp.mono ?_; rintro e w6 ⟨rfl, h6, -⟩))
      (try (refine hK_ _ _ ?_; clear hK_ K_))
      (try simp only [Act.put, List.setIfInBounds_toArray, List.set_cons_zero, List.set_cons_succ])
      (refine wpAnyT_free (i := 13) rfl (by kernel_rfl) rfl (fun _ _ _ h => h) (by kernel_rfl) (fun _ => by go_simp; try rfl) ?_; (try simp only [Act.put, List.setIfInBounds_toArray, List.set_cons_zero, List.set_cons_succ]))
      (refine wpAnyT_free (i := 14) rfl (by kernel_rfl) rfl (fun _ _ _ h => h) (by kernel_rfl) (fun _ => by go_simp; try rfl) ?_; (try simp only [Act.put, List.setIfInBounds_toArray, List.set_cons_zero, List.set_cons_succ]))
      (refine wpAnyT_free (i := 15) rfl (by kernel_rfl) rfl (fun _ _ _ h => h) (by kernel_rfl) (fun _ => by go_simp; try rfl) ?_; (try simp only [Act.put, List.setIfInBounds_toArray, List.set_cons_zero, List.set_cons_succ]))
      (refine wpAnyT_free (i := 16) rfl (by kernel_rfl) rfl (fun _ _ _ h => h) (by kernel_rfl) (fun _ => by go_simp; try rfl) ?_; (try simp only [Act.put, List.setIfInBounds_toArray, List.set_cons_zero, List.set_cons_succ]))
      (refine wpAnyT_free (i := 17) rfl (by kernel_rfl) rfl (fun _ _ _ h => h) (by kernel_rfl) (fun _ => by go_simp; try rfl) ?_; (try simp only [Act.put, List.setIfInBounds_toArray, List.set_cons_zero, List.set_cons_succ]))
      refine wpAnyT_done (by kernel_rfl) ?_ _
      have hSg := segments_G (h6.mono' ((Below.refl _ w6).drew))
      clear hAp
      go_wp2
      refine wp_region_T #[[], [], [], [], [], [], [], [], [], [], [], [], [], [], [], [], [], [], [], [], [], [], [], [], []] [] (fun _ => True) 25 rfl (by kernel_rfl) ?_
      (refine wpAnyT_free (i := 0) rfl (by kernel_rfl) rfl (fun _ _ _ h => h) (by kernel_rfl) (fun _ => by go_simp; try rfl) ?_; (try simp only [Act.put, List.setIfInBounds_toArray, List.set_cons_zero, List.set_cons_succ]))
      (refine wpAnyT_free (i := 3) rfl (by kernel_rfl) rfl (fun _ _ _ h => h) (by kernel_rfl) (fun _ => by go_simp; try rfl) ?_; (try simp only [Act.put, List.setIfInBounds_toArray, List.set_cons_zero, List.set_cons_succ]))
      (refine wpAnyT_free (i := 4) rfl (by kernel_rfl) rfl (fun _ _ _ h => h) (by kernel_rfl) (fun _ => by go_simp; try rfl) ?_; (try simp only [Act.put, List.setIfInBounds_toArray, List.set_cons_zero, List.set_cons_succ]))
      (refine wpAnyT_free (i := 5) rfl (by kernel_rfl) rfl (fun _ _ _ h => h) (by kernel_rfl) (fun _ => by go_simp; try rfl) ?_; (try simp only [Act.put, List.setIfInBounds_toArray, List.set_cons_zero, List.set_cons_succ]))
      (refine wpAnyT_free (i := 6) rfl (by kernel_rfl) rfl (fun _ _ _ h => h) (by kernel_rfl) (fun _ => by go_simp; try rfl) ?_; (try simp only [Act.put, List.setIfInBounds_toArray, List.set_cons_zero, List.set_cons_succ]))
      refine wpAnyT_sink (i := 1) rfl (by kernel_rfl) rfl (by kernel_rfl) ?_
      intro K_ hK_
      go_wp2_with ((go_at_call 36; refine hSg.mono ?_; rintro e w7 ⟨A7, c7, rfl, h7, -⟩; have hLn := len_G h7; rw [HLN.out] at hLn))
      (try (refine hK_ _ _ ?_; clear hK_ K_))
      (try simp only [Act.put, List.setIfInBounds_toArray, List.set_cons_zero, List.set_cons_succ])
      (refine wpAnyT_free (i := 2) rfl (by kernel_rfl) rfl (fun _ _ _ h => h) (by kernel_rfl) (fun _ => by go_simp; try rfl) ?_; (try simp only [Act.put, List.setIfInBounds_toArray, List.set_cons_zero, List.set_cons_succ]))
      (refine wpAnyT_free (i := 7) rfl (by kernel_rfl) rfl (fun _ _ _ h => h) (by kernel_rfl) (fun _ => by go_simp; try rfl) ?_; (try simp only [Act.put, List.setIfInBounds_toArray, List.set_cons_zero, List.set_cons_succ]))
      (refine wpAnyT_free (i := 8) rfl (by kernel_rfl) rfl (fun _ _ _ h => h) (by kernel_rfl) (fun _ => by go_simp; try rfl) ?_; (try simp only [Act.put, List.setIfInBounds_toArray, List.set_cons_zero, List.set_cons_succ]))
      first
      | (refine wpAnyT_skip (i := 9) rfl (by kernel_rfl) ?hw_ (fun _ _ _ h => h) (fun h_ => absurd h_ (by decide)) ?_; (case hw_ => first | (simp [Region.wanted, yielded]; done) | (simp [Region.wanted, yielded, undef, *]; done)); (try simp only [Act.put, List.setIfInBounds_toArray, List.set_cons_zero, List.set_cons_succ]))
      | (refine wpAnyT_free (i := 9) rfl (by kernel_rfl) (by first | (simp [Region.wanted, yielded]; done) | (simp [Region.wanted, yielded, undef, *]; done)) (fun _ _ _ h => h) (by kernel_rfl) (fun _ => by go_simp; try rfl) ?_; (try simp only [Act.put, List.setIfInBounds_toArray, List.set_cons_zero, List.set_cons_succ]))
      first
      | (refine wpAnyT_skip (i := 11) rfl (by kernel_rfl) ?hw_ (fun _ _ _ h => h) (fun h_ => absurd h_ (by decide)) ?_; (case hw_ => first | (simp [Region.wanted, yielded]; done) | (simp [Region.wanted, yielded, undef, *]; done)); (try simp only [Act.put, List.setIfInBounds_toArray, List.set_cons_zero, List.set_cons_succ]))
      | (refine wpAnyT_free (i := 11) rfl (by kernel_rfl) (by first | (simp [Region.wanted, yielded]; done) | (simp [Region.wanted, yielded, undef, *]; done)) (fun _ _ _ h => h) (by kernel_rfl) (fun _ => by go_simp; try rfl) ?_; (try simp only [Act.put, List.setIfInBounds_toArray, List.set_cons_zero, List.set_cons_succ]))
      first
      | (refine wpAnyT_skip (i := 12) rfl (by kernel_rfl) ?hw_ (fun _ _ _ h => h) (fun h_ => absurd h_ (by decide)) ?_; (case hw_ => first | (simp [Region.wanted, yielded]; done) | (simp [Region.wanted, yielded, undef, *]; done)); (try simp only [Act.put, List.setIfInBounds_toArray, List.set_cons_zero, List.set_cons_succ]))
      | (refine wpAnyT_free (i := 12) rfl (by kernel_rfl) (by first | (simp [Region.wanted, yielded]; done) | (simp [Region.wanted, yielded, undef, *]; done)) (fun _ _ _ h => h) (by kernel_rfl) (fun _ => by go_simp; try rfl) ?_; (try simp only [Act.put, List.setIfInBounds_toArray, List.set_cons_zero, List.set_cons_succ]))
      first
      | (refine wpAnyT_skip (i := 10) rfl (by kernel_rfl) ?hw_ (fun _ _ _ h => h) (fun h_ => absurd h_ (by decide)) ?_; (case hw_ => first | (simp [Region.wanted, yielded]; done) | (simp [Region.wanted, yielded, undef, *]; done)); (try simp only [Act.put, List.setIfInBounds_toArray, List.set_cons_zero, List.set_cons_succ]))
      | (refine wpAnyT_sink (i := 10) rfl (by kernel_rfl) (by first | (simp [Region.wanted, yielded]; done) | (simp [Region.wanted, yielded, undef, *]; done)) (by kernel_rfl) ?_
         intro K_ hK_
         go_wp2_with ((go_at_call 37; refine hLn.mono ?_; rintro e w8 ⟨rfl, h8, -⟩; have hSf := safe_G h8; rw [HP'.out.safe] at hSf))
         (try (refine hK_ _ _ ?_; clear hK_ K_))
         (try simp only [Act.put, List.setIfInBounds_toArray, List.set_cons_zero, List.set_cons_succ]))
      first
      | (refine wpAnyT_skip (i := 13) rfl (by kernel_rfl) ?hw_ (fun _ _ _ h => h) (fun h_ => absurd h_ (by decide)) ?_; (case hw_ => first | (simp [Region.wanted, yielded]; done) | (simp [Region.wanted, yielded, undef, *]; done)); (try simp only [Act.put, List.setIfInBounds_toArray, List.set_cons_zero, List.set_cons_succ]))
      | (refine wpAnyT_free (i := 13) rfl (by kernel_rfl) (by first | (simp [Region.wanted, yielded]; done) | (simp [Region.wanted, yielded, undef, *]; done)) (fun _ _ _ h => h) (by kernel_rfl) (fun _ => by go_simp; try rfl) ?_; (try simp only [Act.put, List.setIfInBounds_toArray, List.set_cons_zero, List.set_cons_succ]))
      (refine wpAnyT_free (i := 14) rfl (by kernel_rfl) rfl (fun _ _ _ h => h) (by kernel_rfl) (fun _ => by go_simp; try rfl) ?_; (try simp only [Act.put, List.setIfInBounds_toArray, List.set_cons_zero, List.set_cons_succ]))
      (refine wpAnyT_free (i := 15) rfl (by kernel_rfl) rfl (fun _ _ _ h => h) (by kernel_rfl) (fun _ => by go_simp; try rfl) ?_; (try simp only [Act.put, List.setIfInBounds_toArray, List.set_cons_zero, List.set_cons_succ]))
      first
      | (refine wpAnyT_skip (i := 16) rfl (by kernel_rfl) ?hw_ (fun _ _ _ h => h) (fun h_ => absurd h_ (by decide)) ?_; (case hw_ => first | (simp [Region.wanted, yielded]; done) | (simp [Region.wanted, yielded, undef, *]; done)); (try simp only [Act.put, List.setIfInBounds_toArray, List.set_cons_zero, List.set_cons_succ]))
      | (refine wpAnyT_free (i := 16) rfl (by kernel_rfl) (by first | (simp [Region.wanted, yielded]; done) | (simp [Region.wanted, yielded, undef, *]; done)) (fun _ _ _ h => h) (by kernel_rfl) (fun _ => by go_simp; try rfl) ?_; (try simp only [Act.put, List.setIfInBounds_toArray, List.set_cons_zero, List.set_cons_succ]))
      first
      | (refine wpAnyT_skip (i := 17) rfl (by kernel_rfl) ?hw_ (fun _ _ _ h => h) (fun h_ => absurd h_ (by decide)) ?_; (case hw_ => first | (simp [Region.wanted, yielded]; done) | (simp [Region.wanted, yielded, undef, *]; done)); (try simp only [Act.put, List.setIfInBounds_toArray, List.set_cons_zero, List.set_cons_succ]))
      | (refine wpAnyT_sink (i := 17) rfl (by kernel_rfl) (by first | (simp [Region.wanted, yielded]; done) | (simp [Region.wanted, yielded, undef, *]; done)) (by kernel_rfl) ?_
         intro K_ hK_
         go_wp2_with ((go_at_call 38; refine hSf.mono ?_; rintro e w9 ⟨rfl, h9, -⟩; have hBs := base_G h9; rw [HP'.out.base] at hBs))
         (try (refine hK_ _ _ ?_; clear hK_ K_))
         (try simp only [Act.put, List.setIfInBounds_toArray, List.set_cons_zero, List.set_cons_succ]))
      first
      | (refine wpAnyT_skip (i := 18) rfl (by kernel_rfl) ?hw_ (fun _ _ _ h => h) (fun h_ => absurd h_ (by decide)) ?_; (case hw_ => first | (simp [Region.wanted, yielded]; done) | (simp [Region.wanted, yielded, undef, *]; done)); (try simp only [Act.put, List.setIfInBounds_toArray, List.set_cons_zero, List.set_cons_succ]))
      | (refine wpAnyT_free (i := 18) rfl (by kernel_rfl) (by first | (simp [Region.wanted, yielded]; done) | (simp [Region.wanted, yielded, undef, *]; done)) (fun _ _ _ h => h) (by kernel_rfl) (fun _ => by go_simp; try rfl) ?_; (try simp only [Act.put, List.setIfInBounds_toArray, List.set_cons_zero, List.set_cons_succ]))
      (refine wpAnyT_free (i := 19) rfl (by kernel_rfl) rfl (fun _ _ _ h => h) (by kernel_rfl) (fun _ => by go_simp; try rfl) ?_; (try simp only [Act.put, List.setIfInBounds_toArray, List.set_cons_zero, List.set_cons_succ]))
      (refine wpAnyT_free (i := 20) rfl (by kernel_rfl) rfl (fun _ _ _ h => h) (by kernel_rfl) (fun _ => by go_simp; try rfl) ?_; (try simp only [Act.put, List.setIfInBounds_toArray, List.set_cons_zero, List.set_cons_succ]))
      first
      | (refine wpAnyT_skip (i := 21) rfl (by kernel_rfl) ?hw_ (fun _ _ _ h => h) (fun h_ => absurd h_ (by decide)) ?_; (case hw_ => first | (simp [Region.wanted, yielded]; done) | (simp [Region.wanted, yielded, undef, *]; done)); (try simp only [Act.put, List.setIfInBounds_toArray, List.set_cons_zero, List.set_cons_succ]))
      | (refine wpAnyT_free (i := 21) rfl (by kernel_rfl) (by first | (simp [Region.wanted, yielded]; done) | (simp [Region.wanted, yielded, undef, *]; done)) (fun _ _ _ h => h) (by kernel_rfl) (fun _ => by go_simp; try rfl) ?_; (try simp only [Act.put, List.setIfInBounds_toArray, List.set_cons_zero, List.set_cons_succ]))
      first
      | (refine wpAnyT_skip (i := 22) rfl (by kernel_rfl) ?hw_ (fun _ _ _ h => h) (fun h_ => absurd h_ (by decide)) ?_; (case hw_ => first | (simp [Region.wanted, yielded]; done) | (simp [Region.wanted, yielded, undef, *]; done)); (try simp only [Act.put, List.setIfInBounds_toArray, List.set_cons_zero, List.set_cons_succ]))
      | (refine wpAnyT_sink (i := 22) rfl (by kernel_rfl) (by first | (simp [Region.wanted, yielded]; done) | (simp [Region.wanted, yielded, undef, *]; done)) (by kernel_rfl) ?_
         intro K_ hK_
         go_wp2_with ((go_at_call 39; refine hBs.mono ?_; rintro e w10 ⟨rfl, h10, -⟩))
         (try (refine hK_ _ _ ?_; clear hK_ K_))
         (try simp only [Act.put, List.setIfInBounds_toArray, List.set_cons_zero, List.set_cons_succ]))
      first
      | (refine wpAnyT_skip (i := 23) rfl (by kernel_rfl) ?hw_ (fun _ _ _ h => h) (fun h_ => absurd h_ (by decide)) ?_; (case hw_ => first | (simp [Region.wanted, yielded]; done) | (simp [Region.wanted, yielded, undef, *]; done)); (try simp only [Act.put, List.setIfInBounds_toArray, List.set_cons_zero, List.set_cons_succ]))
      | (refine wpAnyT_free (i := 23) rfl (by kernel_rfl) (by first | (simp [Region.wanted, yielded]; done) | (simp [Region.wanted, yielded, undef, *]; done)) (fun _ _ _ h => h) (by kernel_rfl) (fun _ => by go_simp; try rfl) ?_; (try simp only [Act.put, List.setIfInBounds_toArray, List.set_cons_zero, List.set_cons_succ]))
      (refine wpAnyT_free (i := 24) rfl (by kernel_rfl) rfl (fun _ _ _ h => h) (by kernel_rfl) (fun _ => by go_simp; try rfl) ?_; (try simp only [Act.put, List.setIfInBounds_toArray, List.set_cons_zero, List.set_cons_succ]))
      refine wpAnyT_done (by kernel_rfl) ?_ _
      go_wp2
      go_roundw
      case rel => exact ⟨k + 1, L', by omega, by omega, by go_num, HP'.out, h10⟩
      case measure => simp [intOf]; omega
    · have hge : xs.length ≤ k ∨ 60 ≤ k := by omega
      have hA1 := all_H hL hP.inv (by omega)
      have hrl : L.recs.length = k := by rw [hP.recs, List.length_map, List.length_take]; omega
      have hRC := Lib.hid hP.recs
      have hmn : ∀ w, (Builtin.min_ #[3, 3] 3 #[.int .i64 (xs.length : Int), .int .i64 60]).run Tryd.prog w = .ok (.int .i64 (L.recs.length : Int)) w := by
        intro w
        rw [run_min_int2]
        have : (L.recs.length : Int) = if (60 : Int) < (xs.length : Int) then 60 else (xs.length : Int) := by split <;> omega
        rw [this]
      have HRL := Lib.hid hrl
      have HP9 := Lib.hid hP
      clear hP hrl
      by_cases hk2 : k < xs.length
      all_goals
        go_wp2_with (go_at_call 40; refine hA1.mono ?_; rintro e w3 ⟨A2, c2, rfl, hn, h3, hb3⟩; clear hA1)
        obtain ⟨vals, hrow, hrec⟩ := hn
        clear hge
        go_loopw [94] (fun i wr2 => ∃ j : Nat, j ≤ L.recs.length ∧ i = .int .i64 (j : Int) ∧ Below w3.heap.size w3 wr2) (fun i _ => L.recs.length - (intOf i).toNat)
        case atStart => exact ⟨0, Nat.zero_le _, rfl, Below.refl _ _⟩
        case round =>
          obtain ⟨j, hj, rfl, hb9⟩ := hrel
          have hbW := h3.below.trans (hb9.mono h3.below.size)
          by_cases hjl : j < L.recs.length
          · have hjk : j < k := by rw [← HRL.out]; exact hjl
            obtain ⟨r, hr⟩ : ∃ r, L.recs[j]? = some r := ⟨_, List.getElem?_eq_getElem hjl⟩
            obtain ⟨x, hx⟩ : ∃ x, xs[j]? = some x := ⟨_, List.getElem?_eq_getElem (by omega)⟩
            have hrx : r = x.take 200 := by
              rw [hRC.out, List.getElem?_map, List.getElem?_take_of_lt hjk, hx] at hr
              injection hr with hr
              exact hr.symm
            obtain ⟨A1, c1, hv1, -, -, ho1⟩ := hrec.2 j r hr
            obtain ⟨g1, o1, e1, hA1', -, -, hc1, -⟩ := hrow.cell hv1
            injection hA1' with hA1' z1 z2
            obtain ⟨g, o, B, cb, hAe, hg, e3, hcb, hcm, hB⟩ := hA j x hx
            subst hAe
            clear z1 z2
            have m1 : wr.cell? ⟨g1, o1 + j, none⟩ = some (.slice A1 r.length c1) := (hb9.cell (p := ⟨g1, o1 + j, none⟩) (cell_lt hc1)).trans hc1
            have m2 : wr.cell? ⟨g, o + j, none⟩ = some (.slice B x.length cb) := (hbW.cell (p := ⟨g, o + j, none⟩) hg).trans e3
            have l1 : r.length ≤ x.length := by rw [hrx, List.length_take]; omega
            have l3 : (r.length : Int) ≤ (cb : Int) := by omega
            have hr2 : RdB W B r := hrx ▸ hB.take 200
            have hmin : ∀ w, (Builtin.min_ #[3, 3] 3 #[.int .i64 (x.length : Int), .int .i64 200]).run Tryd.prog w = .ok (.int .i64 (r.length : Int)) w := by
              intro w
              rw [run_min_int2]
              have : (r.length : Int) = if (200 : Int) < (x.length : Int) then 200 else (x.length : Int) := by rw [hrx, List.length_take]; split <;> omega
              rw [this]
            have s1 : (convert 22 9 (.slice A1 r.length c1)).run Tryd.prog wr.drew = .ok (.string ⟨r.toArray⟩) wr.drew := run_str (((ho1.fr (S' := Non) (Fr.of_below hb9)).rd Non).drew) c1
            have s2 : (convert 22 9 (.slice B r.length cb)).run Tryd.prog wr.drew = .ok (.string ⟨r.toArray⟩) wr.drew := run_str ((hr2.arg hbW Non (fun _ h => h.elim)).drew) cb
            have hjl' : (j : Int) < (L.recs.length : Int) := by omega
            have hjx' : (j : Int) < (xs.length : Int) := by omega
            clear hr hx hrx hv1 ho1 hc1 e3 hcb hB hr2 hA
            go_wp2
            refine wp_region_T #[[], [], [], [], [3], [], [], [], [], [], [], [], [], [12], [12], [8, 12], [8, 12], [3, 4, 8, 12, 16]] [3, 4, 8, 12, 16] (fun w' => w'.cell? ⟨g1, o1 + j, none⟩ = some (.slice A1 r.length c1) ∧ w'.cell? ⟨g, o + j, none⟩ = some (.slice B x.length cb) ∧ (convert 22 9 (.slice A1 r.length c1)).run Tryd.prog w' = .ok (.string ⟨r.toArray⟩) w' ∧ (convert 22 9 (.slice B r.length cb)).run Tryd.prog w' = .ok (.string ⟨r.toArray⟩) w') 18 rfl (by kernel_rfl) ?_
            (refine wpAnyT_free (i := 0) rfl (by kernel_rfl) rfl (fun _ _ _ h => h) (by kernel_rfl) (fun _ => by go_simp; try rfl) ?_; (try simp only [Act.put, List.setIfInBounds_toArray, List.set_cons_zero, List.set_cons_succ]))
            (refine wpAnyT_free (i := 1) rfl (by kernel_rfl) rfl (fun _ _ _ h => h) (by kernel_rfl) (fun _ => by go_simp; try rfl) ?_; (try simp only [Act.put, List.setIfInBounds_toArray, List.set_cons_zero, List.set_cons_succ]))
            (refine wpAnyT_free (i := 2) rfl (by kernel_rfl) rfl (fun _ _ _ h => h) (by kernel_rfl) (fun _ => by go_simp; try rfl) ?_; (try simp only [Act.put, List.setIfInBounds_toArray, List.set_cons_zero, List.set_cons_succ]))
            (refine wpAnyT_read (i := 3) rfl (by kernel_rfl) rfl (fun _ _ _ h => h) (by kernel_rfl) (⟨m1, m2, s1, s2⟩) (fun w hS_ => by obtain ⟨s_1, s_2, s_3, s_4⟩ := hS_; go_simp; try rfl) ?_; (try simp only [Act.put, List.setIfInBounds_toArray, List.set_cons_zero, List.set_cons_succ]))
            (refine wpAnyT_read (i := 4) rfl (by kernel_rfl) rfl (fun _ _ _ h => h) (by kernel_rfl) (⟨m1, m2, s1, s2⟩) (fun w hS_ => by obtain ⟨s_1, s_2, s_3, s_4⟩ := hS_; go_simp; try rfl) ?_; (try simp only [Act.put, List.setIfInBounds_toArray, List.set_cons_zero, List.set_cons_succ]))
            (refine wpAnyT_free (i := 5) rfl (by kernel_rfl) rfl (fun _ _ _ h => h) (by kernel_rfl) (fun _ => by go_simp; try rfl) ?_; (try simp only [Act.put, List.setIfInBounds_toArray, List.set_cons_zero, List.set_cons_succ]))
            (refine wpAnyT_free (i := 6) rfl (by kernel_rfl) rfl (fun _ _ _ h => h) (by kernel_rfl) (fun _ => by go_simp; try rfl) ?_; (try simp only [Act.put, List.setIfInBounds_toArray, List.set_cons_zero, List.set_cons_succ]))
            (refine wpAnyT_free (i := 7) rfl (by kernel_rfl) rfl (fun _ _ _ h => h) (by kernel_rfl) (fun _ => by go_simp; try rfl) ?_; (try simp only [Act.put, List.setIfInBounds_toArray, List.set_cons_zero, List.set_cons_succ]))
            (refine wpAnyT_read (i := 8) rfl (by kernel_rfl) rfl (fun _ _ _ h => h) (by kernel_rfl) (⟨m1, m2, s1, s2⟩) (fun w hS_ => by obtain ⟨s_1, s_2, s_3, s_4⟩ := hS_; go_simp; try rfl) ?_; (try simp only [Act.put, List.setIfInBounds_toArray, List.set_cons_zero, List.set_cons_succ]))
            (refine wpAnyT_free (i := 9) rfl (by kernel_rfl) rfl (fun _ _ _ h => h) (by kernel_rfl) (fun _ => by go_simp; try rfl) ?_; (try simp only [Act.put, List.setIfInBounds_toArray, List.set_cons_zero, List.set_cons_succ]))
            (refine wpAnyT_free (i := 10) rfl (by kernel_rfl) rfl (fun _ _ _ h => h) (by kernel_rfl) (fun _ => by go_simp; try rfl) ?_; (try simp only [Act.put, List.setIfInBounds_toArray, List.set_cons_zero, List.set_cons_succ]))
            (refine wpAnyT_free (i := 11) rfl (by kernel_rfl) rfl (fun _ _ _ h => h) (by kernel_rfl) (fun _ => by go_simp; try rfl) ?_; (try simp only [Act.put, List.setIfInBounds_toArray, List.set_cons_zero, List.set_cons_succ]))
            (refine wpAnyT_read (i := 12) rfl (by kernel_rfl) rfl (fun _ _ _ h => h) (by kernel_rfl) (⟨m1, m2, s1, s2⟩) (fun w hS_ => by obtain ⟨s_1, s_2, s_3, s_4⟩ := hS_; go_simp; try rfl) ?_; (try simp only [Act.put, List.setIfInBounds_toArray, List.set_cons_zero, List.set_cons_succ]))
            (refine wpAnyT_free (i := 13) rfl (by kernel_rfl) rfl (fun _ _ _ h => h) (by kernel_rfl) (fun _ => by go_simp; try rfl) ?_; (try simp only [Act.put, List.setIfInBounds_toArray, List.set_cons_zero, List.set_cons_succ]))
            (refine wpAnyT_free (i := 14) rfl (by kernel_rfl) rfl (fun _ _ _ h => h) (by kernel_rfl) (fun _ => by go_simp; try rfl) ?_; (try simp only [Act.put, List.setIfInBounds_toArray, List.set_cons_zero, List.set_cons_succ]))
            (refine wpAnyT_free (i := 15) rfl (by kernel_rfl) rfl (fun _ _ _ h => h) (by kernel_rfl) (fun _ => by go_simp; try rfl) ?_; (try simp only [Act.put, List.setIfInBounds_toArray, List.set_cons_zero, List.set_cons_succ]))
            (refine wpAnyT_read (i := 16) rfl (by kernel_rfl) rfl (fun _ _ _ h => h) (by kernel_rfl) (⟨m1, m2, s1, s2⟩) (fun w hS_ => by obtain ⟨s_1, s_2, s_3, s_4⟩ := hS_; go_simp; try rfl) ?_; (try simp only [Act.put, List.setIfInBounds_toArray, List.set_cons_zero, List.set_cons_succ]))
            (refine wpAnyT_free (i := 17) rfl (by kernel_rfl) rfl (fun _ _ _ h => h) (by kernel_rfl) (fun _ => by go_simp; try rfl) ?_; (try simp only [Act.put, List.setIfInBounds_toArray, List.set_cons_zero, List.set_cons_succ]))
            refine wpAnyT_done (by kernel_rfl) ?_ _
            go_wp2
            go_roundw
            case rel => exact ⟨j + 1, by omega, by go_num, hb9.drew⟩
            case measure => simp [intOf]; omega
          · obtain rfl : j = L.recs.length := by omega
            have hWk := works_07 W wr hbW hh
            clear hA
            go_wp2_with (go_at_call 41; refine hWk.mono ?_; rintro e w12 ⟨rfl, hb12⟩; clear hWk)
            go_ret
            exact ⟨rfl, hb12⟩
end Go.Proofs.YtediidajdpdeiaaDoor
