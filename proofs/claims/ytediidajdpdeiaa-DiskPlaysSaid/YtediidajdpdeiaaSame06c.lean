/- DiskPlays: the law's walk. -/
import Derived.Test.YtediidajdpdeiaaSame06b
namespace Go.Proofs.Ytediidajdpdeiaa
open Go.RowKit
set_option maxRecDepth 100000

section
variable {X : Nat → Prop} {W w w' : World} {b r : Nat} {D : Dk} {R : Rk}
theorem Rd.below {w w' : World} {A : Option Addr} {l : List UInt8} (h : Rd Non w A l) (hb : Below w.heap.size w w') : Rd Non w' A l := h.fr (Fr.of_below hb)
theorem Both.ref_new {W w : World} {b r : Nat} (h : Live W w b Dk.new) (hr : ∃ S A1 c1 A2 c2, RefAt S w r A1 c1 A2 c2 Rk.new ∧ (∀ x, S x → W.heap.size ≤ x) ∧ ∀ S1 A c, DiskAt S1 w b A c Dk.new → ∀ x, S1 x → ¬ S x) : Both Non W w b r Dk.new Dk.new.ref := by
  obtain ⟨S1, A, c, h1, h4, h6⟩ := h
  obtain ⟨S, A1, c1, A2, c2, h2, h5, h3⟩ := hr
  exact ⟨S1, A, c, S, A1, c1, A2, c2, h1, h2, fun x hx hy => absurd hy (h3 _ _ _ h1 x hx), h4, h5, h6, fun _ h => h.elim⟩
theorem DiskAt.keep {S : Nat → Prop} {A : Option Addr} {c : Nat} (h : DiskAt S w b A c D) (hk : ∀ x, S x → w'.heap[x]? = w.heap[x]?) : DiskAt S w' b A c D := by
  refine ⟨h.blk.eq (hk _ h.inS), fun j x hx => ?_, h.inS, fun x hx => ?_, h.cap, h.ok⟩
  rotate_left
  · have h1 := hk x hx
    rw [Array.getElem?_eq_getElem (h.lt x hx)] at h1
    exact (Array.getElem?_eq_some_iff.1 h1).1
  obtain ⟨ad, e, hc, hb, hS⟩ := h.own j x hx
  exact ⟨ad, e, (cell_eq (by rw [add_block]; exact hk _ hS)).trans hc, hb.eq (hk _ hS), hS⟩
theorem Both.swapTo (h : Both X W w b r D R) {b' : Nat} {A : Option Addr} {c : Nat} {D' : Dk} (hd : DiskAt X w b' A c D') (hX : ∀ x, X x → W.heap.size ≤ x) : Both Non W w b' r D' R := by
  obtain ⟨S1, A0, c0, S2, A1, c1, A2, c2, h1, h2, h3, h4, h5, h6, h7⟩ := h
  exact ⟨X, A, c, S2, A1, c1, A2, c2, hd, h2, fun x hx hy => absurd hy (h7 x hx).2.2, hX, h5, h6, fun _ h => h.elim⟩
theorem copy_2 (h : Both Non W w b r D R) : Calls Try.prog 21 #[.pointer (some ⟨b, 0, none⟩)] w fun e w' =>
    ∃ b' A c, e = .returned (.pointer (some ⟨b', 0, none⟩)) ∧ DiskAt (Nw w w') w' b' A c D ∧ Both (Nw w w') W w' b r D R ∧ Below w.heap.size w w' := by
  have h' := h
  obtain ⟨S1, A, c, S2, A1, c1, A2, c2, h1, h2, h3, h4, h5, h6, h7⟩ := h
  refine (copy_B h1).mono ?_
  rintro e w' ⟨p, rfl, ⟨b', A', c', rfl, hd⟩, hb⟩
  exact ⟨b', A', c', rfl, hd, h'.also hb, hb⟩
def BothRead (X : Nat → Prop) (W w : World) (b r : Nat) (D : Dk) (R : Rk) (q : List UInt8 × Int) (e : Ending) (w' : World) : Prop :=
  ∃ A' c', e = .returned (.tuple #[.slice A' q.1.length c', .int .i64 q.2]) ∧ Byt w' A' q.1 ∧ q.1.length ≤ c' ∧ c' ≤ maxLen ∧ Both X W w' b r D R ∧ Below w.heap.size w w'
theorem read_2 (h : Both X W w b r D R) : Calls Try.prog 13 #[.pointer (some ⟨b, 0, none⟩)] w (BothRead X W w b r D R D.read) := by
  have h' := h
  obtain ⟨S1, A, c, S2, A1, c1, A2, c2, h1, h2, h3, h4, h5, h6, h7⟩ := h
  exact (read_B h1).mono fun e w' ⟨A', c', q1, q2, q3, q4, q5⟩ => ⟨A', c', q1, q2.mono fun _ _ => trivial, q3, q4, h'.mono q5, q5⟩
theorem refRead_2 (h : Both X W w b r D R) : Calls Try.prog 23 #[.pointer (some ⟨r, 0, none⟩)] w (BothRead X W w b r D R R.read) := by
  have h' := h
  obtain ⟨S1, A, c, S2, A1, c1, A2, c2, h1, h2, h3, h4, h5, h6, h7⟩ := h
  exact (refRead_B h2).mono fun e w' ⟨A', c', q1, q2, q3, q4, q5⟩ => ⟨A', c', q1, q2.mono fun _ _ => trivial, q3, q4, h'.mono q5, q5⟩
theorem kept_2 (h : Both X W w b r D R) : Calls Try.prog 16 #[.pointer (some ⟨b, 0, none⟩)] w fun e w' =>
    ∃ A' c', e = .returned (.slice A' (D.all.take D.kept).length c') ∧ Byt w' A' (D.all.take D.kept) ∧ Both X W w' b r D R ∧ Below w.heap.size w w' := by
  have h' := h
  obtain ⟨S1, A, c, S2, A1, c1, A2, c2, h1, h2, h3, h4, h5, h6, h7⟩ := h
  exact (kept_B h1).mono fun e w' ⟨A', c', q1, q2, q3, q4, q5⟩ => ⟨A', c', q1, q2.mono fun _ _ => trivial, h'.mono q5, q5⟩
end

/-- calls of the law: a Kind of 6 is a copy -/
def Dk.act3 (D : Dk) (a : Act06) : Dk := if a.kind = 6 then D else D.act2 a

set_option maxHeartbeats 2000000 in
theorem same_06 (W : World) (A : Option Addr) (acts : List Act06) (c : Nat) (hA : ActsAt W A acts) (hlen : acts.length ≤ maxLen) :
    Calls Try.prog 6 #[.slice A acts.length c] W fun e w' => e = .returned (.bool true) ∧ Below W.heap.size W w' := by
  unfold maxLen at hlen
  go_enter Try.func6, Try.ntmps6
  go_wp2_with (first
    | (go_at_call 20; refine (new_L (Below.refl _ _)).mono ?_; rintro e w1 ⟨b, rfl, h1⟩)
    | fail)
  have z0 : Blk (w1.alloc (.cells #[.slice none 0 0, .slice none 0 0, .bool false] 45)) w1.heap.size 45 #[.slice none 0 0, .slice none 0 0, .bool false] := Blk.new _ _ _
  have b12 : Below w1.heap.size w1 (w1.alloc (.cells #[.slice none 0 0, .slice none 0 0, .bool false] 45)) := (Below.refl _ _).alloc (Nat.le_refl _) _
  have hB0 : Both Non W (w1.alloc (.cells #[.slice none 0 0, .slice none 0 0, .bool false] 45)) b w1.heap.size Dk.new Dk.new.ref := by
    obtain ⟨S1, A0, c0, q1, q2, q3⟩ := h1
    refine ⟨S1, A0, c0, fun x => x = w1.heap.size, none, 0, none, 0, q1.below b12, ⟨z0, Own.nil _ _ _, Own.nil _ _ _, rfl, fun x hx => by subst hx; exact z0.lt, Nat.le_refl _, Nat.le_refl _, by simp [Rk.ok, Dk.ref, Dk.new]⟩, fun x hx hy => ?_, q2, fun x hx => by subst hx; exact q3.size, q3.trans (b12.mono q3.size), fun _ h => h.elim⟩
    have := q1.lt x hx
    omega
  clear h1 b12 z0
  generalize hr : w1.heap.size = r at *
  generalize w1.alloc (.cells #[.slice none 0 0, .slice none 0 0, .bool false] 45) = w2 at *
  clear hr
  go_loopw [3, 5] (fun p i wr => ∃ (k b : Nat) (D : Dk), k ≤ acts.length ∧ k ≤ 80 ∧ i = .int .i64 k ∧ p = .pointer (some ⟨b, 0, none⟩) ∧ Both Non W wr b r D D.ref) (fun _ i _ => 80 - (intOf i).toNat)
  case atStart => exact ⟨0, b, Dk.new, by omega, by omega, rfl, rfl, hB0⟩
  case round =>
    obtain ⟨k, b, D, hk, hk8, rfl, rfl, hB⟩ := hrel
    by_cases hlt : k < acts.length ∧ k < 80
    · obtain ⟨hlt, hlt8⟩ := hlt
      obtain ⟨a, ha⟩ : ∃ a, acts[k]? = some a := ⟨_, List.getElem?_eq_getElem hlt⟩
      obtain ⟨g, o, B, cb, rfl, hg, e0, e1, e2, e3, hcb, hcm, hB3, ik, inn, ifl⟩ := hA k a ha
      have hbel := hB.below
      have f0 : wr.cell? ⟨g, o + k * 4, none⟩ = some (.int .i64 a.kind) := (hbel.cell (p := ⟨g, o + k * 4, none⟩) hg).trans e0
      have f1 : wr.cell? ⟨g, o + k * 4 + 1, none⟩ = some (.int .i64 a.n) := (hbel.cell (p := ⟨g, o + k * 4 + 1, none⟩) hg).trans e1
      have f2 : wr.cell? ⟨g, o + k * 4 + 2, none⟩ = some (.int .i64 a.flip) := (hbel.cell (p := ⟨g, o + k * 4 + 2, none⟩) hg).trans e2
      have f3 : wr.cell? ⟨g, o + k * 4 + 3, none⟩ = some (.slice B a.b.length cb) := (hbel.cell (p := ⟨g, o + k * 4 + 3, none⟩) hg).trans e3
      clear e0 e1 e2 e3 ha hA hB0
      have hlt' : (k : Int) < (acts.length : Int) := by omega
      have hlt8' : (k : Int) < 80 := by omega
      by_cases k6 : a.kind = 6
      · have k6' : (a.kind == 6) = true := by simpa using k6
        have kc := fun (w : World) (C : Array Value) (n c : Nat) => Lib.run_convert_bytes_const (P := Try.prog) w 23 TB C n c Try.underlying23 Try.underlying5
        have hcp := copy_2 hB
        clear f1 f2 f3
        generalize hD2 : D = D2 at *
        clear hD2
        go_wp2_with (first
          | (go_at_call 21; refine hcp.mono ?_; rintro e w3 ⟨b', Ac, cc, rfl, hd, h3, l3⟩; clear hcp f0)
          | (go_at_call 9
             have b34 := (Below.refl w3.heap.size w3).alloc (Nat.le_refl _) (Obj.cells #[.int .u8 122, .int .u8 122] TB (2, 3))
             have hL : Byt (w3.alloc (Obj.cells #[.int .u8 122, .int .u8 122] TB (2, 3))) (some ⟨w3.heap.size, 0, none⟩) [122, 122] := Own.of_cells (fun _ => True) (heap_alloc_new w3 _) trivial rfl
             refine (append_2 (h3.mono b34) (some ⟨w3.heap.size, 0, none⟩) [122, 122] 2 (by decide) hL).mono ?_
             rintro e w4 ⟨rfl, h4, k4, g4⟩
             have hd4 := (hd.below b34).keep g4
             clear hL hd h3 k4 g4 b34)
          | (go_at_call 14
             refine (cut_2 h4 0).mono ?_
             rintro e w5 ⟨rfl, h5, k5, g5⟩
             have hd5 := hd4.keep g5
             have h6 := h5.swapTo hd5 (fun x hx => Nat.le_trans hbel.size hx.1)
             clear hd4 h4 k5 g5 hd5 h5)
          | (go_at_call 13; refine (read_2 h6).mono ?_; rintro e w4 ⟨A4, c4, rfl, b4, hc4, hm4, h4, -⟩; clear h6)
          | (go_at_call 23; refine (refRead_2 h4).mono ?_; rintro e w5 ⟨A5, c5, rfl, b5, hc5, hm5, h5, l5⟩; have b4' := b4.bk (BK.below l5); rw [← ref_read] at b5 hc5 ⊢)
          | fail)
        have hok := h5.ok.1
        have h5' := h5
        obtain ⟨S1, Ad, cd, S2, A1, c1, A2, c2, -, hR, -⟩ := h5'
        generalize D2.read.1 = lr at *
        generalize D2.read.2 = rr at *
        obtain ⟨dn, all, kp⟩ := D2
        obtain ⟨x0, x1, x2, -, -, -, xlt, -⟩ := hR.facts
        have hk1 : kp ≤ all.length := hok.1
        have hk2 : all.length ≤ 4194304 := hok.2
        have ek : (all.take kp).length = kp := by rw [List.length_take]; omega
        have er : (all.drop kp).length = all.length - kp := List.length_drop ..
        rw [ek] at x0
        rw [er] at x1
        have s1 : (convert 23 9 (.slice A4 lr.length c4)).run Try.prog w5.drew = .ok (str lr) w5.drew := run_str (b4'.arg (W := W) Non (fun _ h => h.elim)).drew c4
        have s2 : (convert 23 9 (.slice A5 lr.length c5)).run Try.prog w5.drew = .ok (str lr) w5.drew := run_str (b5.arg (W := W) Non (fun _ h => h.elim)).drew c5
        have r3 : Rd Non w5 A1 (all.take kp) := hR.own1.rd Non
        have s3 : (convert 23 9 (.slice A1 kp c1)).run Try.prog w5.drew = .ok (str (all.take kp)) w5.drew := by
          have h := run_str r3.drew c1
          rw [ek] at h; exact h
        have hkc := kept_2 (h5.drewB)
        have q1 : IntKind.i64.wrap ((kp : Int) + ((all.length - kp : Nat) : Int)) = (all.length : Int) := by rw [IntKind.wrap_i64]; omega
        simp only [ek] at hkc
        generalize all.take kp = kl at *
        have EK := Lib.hid ek
        clear ek er hR hok
        refine wp_region_T #[[], [], [], [], [1, 3], [1, 3], [1, 3], [1, 3], [1, 3], [1, 3], [1, 3], [1, 3], [1, 3], [1, 3], [1, 3], [1, 3], [1, 3], [1, 3, 16], [1, 3, 16], [1, 3, 16], [1, 3, 16], [1, 3, 16], [1, 3, 16], [1, 3, 16], [1, 3, 16], [1, 3, 16], [1, 3, 16, 25], [1, 3, 16], [1, 3, 16], [1, 3, 16], [1, 3, 16], [1, 3, 16, 30], [1, 3, 16, 25, 30], [1, 3, 16, 25, 30], [1, 3, 16, 25, 30], [1, 3, 16, 25, 30], [1, 3, 16, 25, 30], [1, 3, 16, 25, 30], [1, 3, 16, 25, 30], [1, 3, 16, 25, 30], [1, 3, 16, 25, 30], [1, 3, 16, 25, 30], [1, 3, 16, 25, 30], [1, 3, 16, 25, 30, 42], [1, 3, 16, 25, 30, 42, 43], [1, 3, 16, 25, 30, 42, 43]] [1, 3, 16, 25, 30, 42, 43] (fun w' => (convert 23 9 (.slice A4 lr.length c4)).run Try.prog w' = .ok (str lr) w' ∧ (convert 23 9 (.slice A5 lr.length c5)).run Try.prog w' = .ok (str lr) w' ∧ (convert 23 9 (.slice A1 kp c1)).run Try.prog w' = .ok (str kl) w' ∧ w'.cell? ⟨r, 0, none⟩ = some (.slice A1 kp c1) ∧ w'.cell? ⟨r, 1, none⟩ = some (.slice A2 (all.length - kp) c2) ∧ w'.cell? ⟨r, 2, none⟩ = some (.bool dn)) 46 rfl (by kernel_rfl) ?_
        (refine wpAnyT_free (i := 0) rfl (by kernel_rfl) rfl (fun _ _ _ h => h) (by kernel_rfl) (fun _ => by go_simp; try rfl) ?_; (try simp only [Act.put, List.setIfInBounds_toArray, List.set_cons_zero, List.set_cons_succ]))
        (refine wpAnyT_read (i := 1) rfl (by kernel_rfl) rfl (fun _ _ _ h => h) (by kernel_rfl) (⟨s1, s2, s3, x0, x1, x2⟩) (fun w hS_ => by obtain ⟨s_1, s_2⟩ := hS_; go_simp; try rfl) ?_; (try simp only [Act.put, List.setIfInBounds_toArray, List.set_cons_zero, List.set_cons_succ]))
        (refine wpAnyT_free (i := 2) rfl (by kernel_rfl) rfl (fun _ _ _ h => h) (by kernel_rfl) (fun _ => by go_simp; try rfl) ?_; (try simp only [Act.put, List.setIfInBounds_toArray, List.set_cons_zero, List.set_cons_succ]))
        (refine wpAnyT_read (i := 3) rfl (by kernel_rfl) rfl (fun _ _ _ h => h) (by kernel_rfl) (⟨s1, s2, s3, x0, x1, x2⟩) (fun w hS_ => by obtain ⟨s_1, s_2⟩ := hS_; go_simp; try rfl) ?_; (try simp only [Act.put, List.setIfInBounds_toArray, List.set_cons_zero, List.set_cons_succ]))
        (refine wpAnyT_free (i := 4) rfl (by kernel_rfl) rfl (fun _ _ _ h => h) (by kernel_rfl) (fun _ => by go_simp; try rfl) ?_; (try simp only [Act.put, List.setIfInBounds_toArray, List.set_cons_zero, List.set_cons_succ]))
        (refine wpAnyT_free (i := 5) rfl (by kernel_rfl) rfl (fun _ _ _ h => h) (by kernel_rfl) (fun _ => by go_simp; try rfl) ?_; (try simp only [Act.put, List.setIfInBounds_toArray, List.set_cons_zero, List.set_cons_succ]))
        first
        | (refine wpAnyT_skip (i := 6) rfl (by kernel_rfl) ?hw_ (fun _ _ _ h => h) (fun h_ => absurd h_ (by decide)) ?_; (case hw_ => simp [Region.wanted, yielded]; done); (try simp only [Act.put, List.setIfInBounds_toArray, List.set_cons_zero, List.set_cons_succ]))
        | (refine wpAnyT_free (i := 6) rfl (by kernel_rfl) (by simp [Region.wanted, yielded]) (fun _ _ _ h => h) (by kernel_rfl) (fun _ => by go_simp; try rfl) ?_; (try simp only [Act.put, List.setIfInBounds_toArray, List.set_cons_zero, List.set_cons_succ]))
        first
        | (refine wpAnyT_skip (i := 7) rfl (by kernel_rfl) ?hw_ (fun _ _ _ h => h) (fun h_ => absurd h_ (by decide)) ?_; (case hw_ => simp [Region.wanted, yielded]; done); (try simp only [Act.put, List.setIfInBounds_toArray, List.set_cons_zero, List.set_cons_succ]))
        | (refine wpAnyT_free (i := 7) rfl (by kernel_rfl) (by simp [Region.wanted, yielded]) (fun _ _ _ h => h) (by kernel_rfl) (fun _ => by go_simp; try rfl) ?_; (try simp only [Act.put, List.setIfInBounds_toArray, List.set_cons_zero, List.set_cons_succ]))
        first
        | (refine wpAnyT_skip (i := 8) rfl (by kernel_rfl) ?hw_ (fun _ _ _ h => h) (fun h_ => absurd h_ (by decide)) ?_; (case hw_ => simp [Region.wanted, yielded]; done); (try simp only [Act.put, List.setIfInBounds_toArray, List.set_cons_zero, List.set_cons_succ]))
        | (refine wpAnyT_free (i := 8) rfl (by kernel_rfl) (by simp [Region.wanted, yielded]) (fun _ _ _ h => h) (by kernel_rfl) (fun _ => by go_simp; try rfl) ?_; (try simp only [Act.put, List.setIfInBounds_toArray, List.set_cons_zero, List.set_cons_succ]))
        (refine wpAnyT_free (i := 9) rfl (by kernel_rfl) rfl (fun _ _ _ h => h) (by kernel_rfl) (fun _ => by go_simp; try rfl) ?_; (try simp only [Act.put, List.setIfInBounds_toArray, List.set_cons_zero, List.set_cons_succ]))
        (refine wpAnyT_free (i := 10) rfl (by kernel_rfl) rfl (fun _ _ _ h => h) (by kernel_rfl) (fun _ => by go_simp; try rfl) ?_; (try simp only [Act.put, List.setIfInBounds_toArray, List.set_cons_zero, List.set_cons_succ]))
        first
        | (refine wpAnyT_skip (i := 11) rfl (by kernel_rfl) ?hw_ (fun _ _ _ h => h) (fun h_ => absurd h_ (by decide)) ?_; (case hw_ => simp [Region.wanted, yielded]; done); (try simp only [Act.put, List.setIfInBounds_toArray, List.set_cons_zero, List.set_cons_succ]))
        | (refine wpAnyT_free (i := 11) rfl (by kernel_rfl) (by simp [Region.wanted, yielded]) (fun _ _ _ h => h) (by kernel_rfl) (fun _ => by go_simp; try rfl) ?_; (try simp only [Act.put, List.setIfInBounds_toArray, List.set_cons_zero, List.set_cons_succ]))
        first
        | (refine wpAnyT_skip (i := 13) rfl (by kernel_rfl) ?hw_ (fun _ _ _ h => h) (fun h_ => absurd h_ (by decide)) ?_; (case hw_ => simp [Region.wanted, yielded]; done); (try simp only [Act.put, List.setIfInBounds_toArray, List.set_cons_zero, List.set_cons_succ]))
        | (refine wpAnyT_free (i := 13) rfl (by kernel_rfl) (by simp [Region.wanted, yielded]) (fun _ _ _ h => h) (by kernel_rfl) (fun _ => by go_simp; try rfl) ?_; (try simp only [Act.put, List.setIfInBounds_toArray, List.set_cons_zero, List.set_cons_succ]))
        first
        | (refine wpAnyT_skip (i := 14) rfl (by kernel_rfl) ?hw_ (fun _ _ _ h => h) (fun h_ => absurd h_ (by decide)) ?_; (case hw_ => simp [Region.wanted, yielded]; done); (try simp only [Act.put, List.setIfInBounds_toArray, List.set_cons_zero, List.set_cons_succ]))
        | (refine wpAnyT_free (i := 14) rfl (by kernel_rfl) (by simp [Region.wanted, yielded]) (fun _ _ _ h => h) (by kernel_rfl) (fun _ => by go_simp; try rfl) ?_; (try simp only [Act.put, List.setIfInBounds_toArray, List.set_cons_zero, List.set_cons_succ]))
        first
        | (refine wpAnyT_skip (i := 15) rfl (by kernel_rfl) ?hw_ (fun _ _ _ h => h) (fun h_ => absurd h_ (by decide)) ?_; (case hw_ => simp [Region.wanted, yielded]; done); (try simp only [Act.put, List.setIfInBounds_toArray, List.set_cons_zero, List.set_cons_succ]))
        | (refine wpAnyT_free (i := 15) rfl (by kernel_rfl) (by simp [Region.wanted, yielded]) (fun _ _ _ h => h) (by kernel_rfl) (fun _ => by go_simp; try rfl) ?_; (try simp only [Act.put, List.setIfInBounds_toArray, List.set_cons_zero, List.set_cons_succ]))
        first
        | (refine wpAnyT_skip (i := 16) rfl (by kernel_rfl) ?hw_ (fun _ _ _ h => h) (fun _ => ⟨s1, s2, s3, x0, x1, x2⟩) ?_; (case hw_ => simp [Region.wanted, yielded]; done); (try simp only [Act.put, List.setIfInBounds_toArray, List.set_cons_zero, List.set_cons_succ]))
        | (refine wpAnyT_read (i := 16) rfl (by kernel_rfl) (by simp [Region.wanted, yielded]) (fun _ _ _ h => h) (by kernel_rfl) (⟨s1, s2, s3, x0, x1, x2⟩) (fun w hS_ => by obtain ⟨s_1, s_2⟩ := hS_; go_simp; try rfl) ?_; (try simp only [Act.put, List.setIfInBounds_toArray, List.set_cons_zero, List.set_cons_succ]))
        first
        | (refine wpAnyT_skip (i := 12) rfl (by kernel_rfl) ?hw_ (fun _ _ _ h => h) (fun h_ => absurd h_ (by decide)) ?_; (case hw_ => simp [Region.wanted, yielded]; done); (try simp only [Act.put, List.setIfInBounds_toArray, List.set_cons_zero, List.set_cons_succ]))
        | (refine wpAnyT_one (i := 12) rfl (by kernel_rfl) (by simp [Region.wanted, yielded]) ?_
           intro K_ hK_
           go_wp2_with ((go_at_call 19; refine (down_L h5.drewB.live).mono ?_; rintro e w6 ⟨rfl, rfl⟩))
           refine hK_ _ _ ?_ ?_
           · exact fun _ h_ => h_
           clear hK_ K_
           (try simp only [Act.put, List.setIfInBounds_toArray, List.set_cons_zero, List.set_cons_succ]))
        first
        | (refine wpAnyT_skip (i := 17) rfl (by kernel_rfl) ?hw_ (fun _ _ _ h => h) (fun h_ => absurd h_ (by decide)) ?_; (case hw_ => simp [Region.wanted, yielded]; done); (try simp only [Act.put, List.setIfInBounds_toArray, List.set_cons_zero, List.set_cons_succ]))
        | (refine wpAnyT_free (i := 17) rfl (by kernel_rfl) (by simp [Region.wanted, yielded]) (fun _ _ _ h => h) (by kernel_rfl) (fun _ => by go_simp; try rfl) ?_; (try simp only [Act.put, List.setIfInBounds_toArray, List.set_cons_zero, List.set_cons_succ]))
        (refine wpAnyT_free (i := 18) rfl (by kernel_rfl) rfl (fun _ _ _ h => h) (by kernel_rfl) (fun _ => by go_simp; try rfl) ?_; (try simp only [Act.put, List.setIfInBounds_toArray, List.set_cons_zero, List.set_cons_succ]))
        (refine wpAnyT_free (i := 19) rfl (by kernel_rfl) rfl (fun _ _ _ h => h) (by kernel_rfl) (fun _ => by go_simp; try rfl) ?_; (try simp only [Act.put, List.setIfInBounds_toArray, List.set_cons_zero, List.set_cons_succ]))
        first
        | (refine wpAnyT_skip (i := 20) rfl (by kernel_rfl) ?hw_ (fun _ _ _ h => h) (fun h_ => absurd h_ (by decide)) ?_; (case hw_ => simp [Region.wanted, yielded]; done); (try simp only [Act.put, List.setIfInBounds_toArray, List.set_cons_zero, List.set_cons_succ]))
        | (refine wpAnyT_free (i := 20) rfl (by kernel_rfl) (by simp [Region.wanted, yielded]) (fun _ _ _ h => h) (by kernel_rfl) (fun _ => by go_simp; try rfl) ?_; (try simp only [Act.put, List.setIfInBounds_toArray, List.set_cons_zero, List.set_cons_succ]))
        first
        | (refine wpAnyT_skip (i := 22) rfl (by kernel_rfl) ?hw_ (fun _ _ _ h => h) (fun h_ => absurd h_ (by decide)) ?_; (case hw_ => simp [Region.wanted, yielded]; done); (try simp only [Act.put, List.setIfInBounds_toArray, List.set_cons_zero, List.set_cons_succ]))
        | (refine wpAnyT_free (i := 22) rfl (by kernel_rfl) (by simp [Region.wanted, yielded]) (fun _ _ _ h => h) (by kernel_rfl) (fun _ => by go_simp; try rfl) ?_; (try simp only [Act.put, List.setIfInBounds_toArray, List.set_cons_zero, List.set_cons_succ]))
        first
        | (refine wpAnyT_skip (i := 23) rfl (by kernel_rfl) ?hw_ (fun _ _ _ h => h) (fun h_ => absurd h_ (by decide)) ?_; (case hw_ => simp [Region.wanted, yielded]; done); (try simp only [Act.put, List.setIfInBounds_toArray, List.set_cons_zero, List.set_cons_succ]))
        | (refine wpAnyT_free (i := 23) rfl (by kernel_rfl) (by simp [Region.wanted, yielded]) (fun _ _ _ h => h) (by kernel_rfl) (fun _ => by go_simp; try rfl) ?_; (try simp only [Act.put, List.setIfInBounds_toArray, List.set_cons_zero, List.set_cons_succ]))
        first
        | (refine wpAnyT_skip (i := 24) rfl (by kernel_rfl) ?hw_ (fun _ _ _ h => h) (fun h_ => absurd h_ (by decide)) ?_; (case hw_ => simp [Region.wanted, yielded]; done); (try simp only [Act.put, List.setIfInBounds_toArray, List.set_cons_zero, List.set_cons_succ]))
        | (refine wpAnyT_free (i := 24) rfl (by kernel_rfl) (by simp [Region.wanted, yielded]) (fun _ _ _ h => h) (by kernel_rfl) (fun _ => by go_simp; try rfl) ?_; (try simp only [Act.put, List.setIfInBounds_toArray, List.set_cons_zero, List.set_cons_succ]))
        first
        | (refine wpAnyT_skip (i := 25) rfl (by kernel_rfl) ?hw_ (fun _ _ _ h => h) (fun _ => ⟨s1, s2, s3, x0, x1, x2⟩) ?_; (case hw_ => simp [Region.wanted, yielded]; done); (try simp only [Act.put, List.setIfInBounds_toArray, List.set_cons_zero, List.set_cons_succ]))
        | (refine wpAnyT_read (i := 25) rfl (by kernel_rfl) (by simp [Region.wanted, yielded]) (fun _ _ _ h => h) (by kernel_rfl) (⟨s1, s2, s3, x0, x1, x2⟩) (fun w hS_ => by obtain ⟨s_1, s_2⟩ := hS_; go_simp; try rfl) ?_; (try simp only [Act.put, List.setIfInBounds_toArray, List.set_cons_zero, List.set_cons_succ]))
        first
        | (refine wpAnyT_skip (i := 26) rfl (by kernel_rfl) ?hw_ (fun _ _ _ h => h) (fun h_ => absurd h_ (by decide)) ?_; (case hw_ => simp [Region.wanted, yielded]; done); (try simp only [Act.put, List.setIfInBounds_toArray, List.set_cons_zero, List.set_cons_succ]))
        | (refine wpAnyT_free (i := 26) rfl (by kernel_rfl) (by simp [Region.wanted, yielded]) (fun _ _ _ h => h) (by kernel_rfl) (fun _ => by go_simp; try rfl) ?_; (try simp only [Act.put, List.setIfInBounds_toArray, List.set_cons_zero, List.set_cons_succ]))
        first
        | (refine wpAnyT_skip (i := 27) rfl (by kernel_rfl) ?hw_ (fun _ _ _ h => h) (fun h_ => absurd h_ (by decide)) ?_; (case hw_ => simp [Region.wanted, yielded]; done); (try simp only [Act.put, List.setIfInBounds_toArray, List.set_cons_zero, List.set_cons_succ]))
        | (refine wpAnyT_free (i := 27) rfl (by kernel_rfl) (by simp [Region.wanted, yielded]) (fun _ _ _ h => h) (by kernel_rfl) (fun _ => by go_simp; try rfl) ?_; (try simp only [Act.put, List.setIfInBounds_toArray, List.set_cons_zero, List.set_cons_succ]))
        first
        | (refine wpAnyT_skip (i := 28) rfl (by kernel_rfl) ?hw_ (fun _ _ _ h => h) (fun h_ => absurd h_ (by decide)) ?_; (case hw_ => simp [Region.wanted, yielded]; done); (try simp only [Act.put, List.setIfInBounds_toArray, List.set_cons_zero, List.set_cons_succ]))
        | (refine wpAnyT_free (i := 28) rfl (by kernel_rfl) (by simp [Region.wanted, yielded]) (fun _ _ _ h => h) (by kernel_rfl) (fun _ => by go_simp; try rfl) ?_; (try simp only [Act.put, List.setIfInBounds_toArray, List.set_cons_zero, List.set_cons_succ]))
        first
        | (refine wpAnyT_skip (i := 29) rfl (by kernel_rfl) ?hw_ (fun _ _ _ h => h) (fun h_ => absurd h_ (by decide)) ?_; (case hw_ => simp [Region.wanted, yielded]; done); (try simp only [Act.put, List.setIfInBounds_toArray, List.set_cons_zero, List.set_cons_succ]))
        | (refine wpAnyT_free (i := 29) rfl (by kernel_rfl) (by simp [Region.wanted, yielded]) (fun _ _ _ h => h) (by kernel_rfl) (fun _ => by go_simp; try rfl) ?_; (try simp only [Act.put, List.setIfInBounds_toArray, List.set_cons_zero, List.set_cons_succ]))
        first
        | (refine wpAnyT_skip (i := 30) rfl (by kernel_rfl) ?hw_ (fun _ _ _ h => h) (fun _ => ⟨s1, s2, s3, x0, x1, x2⟩) ?_; (case hw_ => simp [Region.wanted, yielded]; done); (try simp only [Act.put, List.setIfInBounds_toArray, List.set_cons_zero, List.set_cons_succ]))
        | (refine wpAnyT_read (i := 30) rfl (by kernel_rfl) (by simp [Region.wanted, yielded]) (fun _ _ _ h => h) (by kernel_rfl) (⟨s1, s2, s3, x0, x1, x2⟩) (fun w hS_ => by obtain ⟨s_1, s_2⟩ := hS_; go_simp; try rfl) ?_; (try simp only [Act.put, List.setIfInBounds_toArray, List.set_cons_zero, List.set_cons_succ]))
        first
        | (refine wpAnyT_skip (i := 31) rfl (by kernel_rfl) ?hw_ (fun _ _ _ h => h) (fun h_ => absurd h_ (by decide)) ?_; (case hw_ => simp [Region.wanted, yielded]; done); (try simp only [Act.put, List.setIfInBounds_toArray, List.set_cons_zero, List.set_cons_succ]))
        | (refine wpAnyT_free (i := 31) rfl (by kernel_rfl) (by simp [Region.wanted, yielded]) (fun _ _ _ h => h) (by kernel_rfl) (fun _ => by go_simp; try rfl) ?_; (try simp only [Act.put, List.setIfInBounds_toArray, List.set_cons_zero, List.set_cons_succ]))
        first
        | (refine wpAnyT_skip (i := 32) rfl (by kernel_rfl) ?hw_ (fun _ _ _ h => h) (fun h_ => absurd h_ (by decide)) ?_; (case hw_ => simp [Region.wanted, yielded]; done); (try simp only [Act.put, List.setIfInBounds_toArray, List.set_cons_zero, List.set_cons_succ]))
        | (refine wpAnyT_free (i := 32) rfl (by kernel_rfl) (by simp [Region.wanted, yielded]) (fun _ _ _ h => h) (by kernel_rfl) (fun _ => by go_simp; try rfl) ?_; (try simp only [Act.put, List.setIfInBounds_toArray, List.set_cons_zero, List.set_cons_succ]))
        first
        | (refine wpAnyT_skip (i := 21) rfl (by kernel_rfl) ?hw_ (fun _ _ _ h => h) (fun h_ => absurd h_ (by decide)) ?_; (case hw_ => simp [Region.wanted, yielded]; done); (try simp only [Act.put, List.setIfInBounds_toArray, List.set_cons_zero, List.set_cons_succ]))
        | (refine wpAnyT_one (i := 21) rfl (by kernel_rfl) (by simp [Region.wanted, yielded]) ?_
           intro K_ hK_
           go_wp2_with ((go_at_call 18; refine (size_L h5.drewB.live).mono ?_; rintro e w6 ⟨rfl, rfl⟩))
           refine hK_ _ _ ?_ ?_
           · exact fun _ h_ => h_
           clear hK_ K_
           (try simp only [Act.put, List.setIfInBounds_toArray, List.set_cons_zero, List.set_cons_succ]))
        first
        | (refine wpAnyT_skip (i := 33) rfl (by kernel_rfl) ?hw_ (fun _ _ _ h => h) (fun h_ => absurd h_ (by decide)) ?_; (case hw_ => simp [Region.wanted, yielded]; done); (try simp only [Act.put, List.setIfInBounds_toArray, List.set_cons_zero, List.set_cons_succ]))
        | (refine wpAnyT_free (i := 33) rfl (by kernel_rfl) (by simp [Region.wanted, yielded]) (fun _ _ _ h => h) (by kernel_rfl) (fun _ => by go_simp; try rfl) ?_; (try simp only [Act.put, List.setIfInBounds_toArray, List.set_cons_zero, List.set_cons_succ]))
        (refine wpAnyT_free (i := 34) rfl (by kernel_rfl) rfl (fun _ _ _ h => h) (by kernel_rfl) (fun _ => by go_simp; try rfl) ?_; (try simp only [Act.put, List.setIfInBounds_toArray, List.set_cons_zero, List.set_cons_succ]))
        (refine wpAnyT_free (i := 35) rfl (by kernel_rfl) rfl (fun _ _ _ h => h) (by kernel_rfl) (fun _ => by go_simp; try rfl) ?_; (try simp only [Act.put, List.setIfInBounds_toArray, List.set_cons_zero, List.set_cons_succ]))
        first
        | (refine wpAnyT_skip (i := 36) rfl (by kernel_rfl) ?hw_ (fun _ _ _ h => h) (fun h_ => absurd h_ (by decide)) ?_; (case hw_ => simp [Region.wanted, yielded]; done); (try simp only [Act.put, List.setIfInBounds_toArray, List.set_cons_zero, List.set_cons_succ]))
        | (refine wpAnyT_free (i := 36) rfl (by kernel_rfl) (by simp [Region.wanted, yielded]) (fun _ _ _ h => h) (by kernel_rfl) (fun _ => by go_simp; try rfl) ?_; (try simp only [Act.put, List.setIfInBounds_toArray, List.set_cons_zero, List.set_cons_succ]))
        first
        | (refine wpAnyT_skip (i := 39) rfl (by kernel_rfl) ?hw_ (fun _ _ _ h => h) (fun h_ => absurd h_ (by decide)) ?_; (case hw_ => simp [Region.wanted, yielded]; done); (try simp only [Act.put, List.setIfInBounds_toArray, List.set_cons_zero, List.set_cons_succ]))
        | (refine wpAnyT_free (i := 39) rfl (by kernel_rfl) (by simp [Region.wanted, yielded]) (fun _ _ _ h => h) (by kernel_rfl) (fun _ => by go_simp; try rfl) ?_; (try simp only [Act.put, List.setIfInBounds_toArray, List.set_cons_zero, List.set_cons_succ]))
        first
        | (refine wpAnyT_skip (i := 40) rfl (by kernel_rfl) ?hw_ (fun _ _ _ h => h) (fun h_ => absurd h_ (by decide)) ?_; (case hw_ => simp [Region.wanted, yielded]; done); (try simp only [Act.put, List.setIfInBounds_toArray, List.set_cons_zero, List.set_cons_succ]))
        | (refine wpAnyT_free (i := 40) rfl (by kernel_rfl) (by simp [Region.wanted, yielded]) (fun _ _ _ h => h) (by kernel_rfl) (fun _ => by go_simp; try rfl) ?_; (try simp only [Act.put, List.setIfInBounds_toArray, List.set_cons_zero, List.set_cons_succ]))
        first
        | (refine wpAnyT_skip (i := 41) rfl (by kernel_rfl) ?hw_ (fun _ _ _ h => h) (fun h_ => absurd h_ (by decide)) ?_; (case hw_ => simp [Region.wanted, yielded]; done); (try simp only [Act.put, List.setIfInBounds_toArray, List.set_cons_zero, List.set_cons_succ]))
        | (refine wpAnyT_free (i := 41) rfl (by kernel_rfl) (by simp [Region.wanted, yielded]) (fun _ _ _ h => h) (by kernel_rfl) (fun _ => by go_simp; try rfl) ?_; (try simp only [Act.put, List.setIfInBounds_toArray, List.set_cons_zero, List.set_cons_succ]))
        first
        | (refine wpAnyT_skip (i := 42) rfl (by kernel_rfl) ?hw_ (fun _ _ _ h => h) (fun _ => ⟨s1, s2, s3, x0, x1, x2⟩) ?_; (case hw_ => simp [Region.wanted, yielded]; done); (try simp only [Act.put, List.setIfInBounds_toArray, List.set_cons_zero, List.set_cons_succ]))
        | (refine wpAnyT_read (i := 42) rfl (by kernel_rfl) (by simp [Region.wanted, yielded]) (fun _ _ _ h => h) (by kernel_rfl) (⟨s1, s2, s3, x0, x1, x2⟩) (fun w hS_ => by obtain ⟨s_1, s_2⟩ := hS_; go_simp; try rfl) ?_; (try simp only [Act.put, List.setIfInBounds_toArray, List.set_cons_zero, List.set_cons_succ]))
        first
        | (refine wpAnyT_skip (i := 43) rfl (by kernel_rfl) ?hw_ (fun _ _ _ h => h) (fun _ => ⟨s1, s2, s3, x0, x1, x2⟩) ?_; (case hw_ => simp [Region.wanted, yielded]; done); (try simp only [Act.put, List.setIfInBounds_toArray, List.set_cons_zero, List.set_cons_succ]))
        | (refine wpAnyT_read (i := 43) rfl (by kernel_rfl) (by simp [Region.wanted, yielded]) (fun _ _ _ h => h) (by kernel_rfl) (⟨s1, s2, s3, x0, x1, x2⟩) (fun w hS_ => by obtain ⟨s_1, s_2⟩ := hS_; go_simp; try rfl) ?_; (try simp only [Act.put, List.setIfInBounds_toArray, List.set_cons_zero, List.set_cons_succ]))
        first
        | (refine wpAnyT_skip (i := 37) rfl (by kernel_rfl) ?hw_ (fun _ _ _ h => h) (fun h_ => absurd h_ (by decide)) ?_; (case hw_ => simp [Region.wanted, yielded]; done); (try simp only [Act.put, List.setIfInBounds_toArray, List.set_cons_zero, List.set_cons_succ]))
        | (refine wpAnyT_one (i := 37) rfl (by kernel_rfl) (by simp [Region.wanted, yielded]) ?_
           intro K_ hK_
           go_wp2_with ((go_at_call 16; refine hkc.mono ?_; rintro e w6 ⟨A6, c6, rfl, b6, h6, l6⟩; clear hkc; have s4 := run_str (b6.arg (W := W) Non (fun _ h => h.elim)) c6; rw [EK.out] at s4))
           refine hK_ _ _ ?_ ?_
           · exact fun _ _ => ⟨run_str ((b4'.arg (W := W) Non (fun _ h => h.elim)).drew.below l6) c4, run_str ((b5.arg (W := W) Non (fun _ h => h.elim)).drew.below l6) c5, (by have h := run_str (r3.drew.below l6) c1; rw [EK.out] at h; exact h), (l6.cell (p := ⟨r, 0, none⟩) xlt).trans x0, (l6.cell (p := ⟨r, 1, none⟩) xlt).trans x1, (l6.cell (p := ⟨r, 2, none⟩) xlt).trans x2⟩
           clear hK_ K_
           (try simp only [Act.put, List.setIfInBounds_toArray, List.set_cons_zero, List.set_cons_succ]))
        first
        | (refine wpAnyT_skip (i := 38) rfl (by kernel_rfl) ?hw_ (fun _ _ _ h => h) (fun h_ => absurd h_ (by decide)) ?_; (case hw_ => simp [Region.wanted, yielded]; done); (try simp only [Act.put, List.setIfInBounds_toArray, List.set_cons_zero, List.set_cons_succ]))
        | (refine wpAnyT_one (i := 38) rfl (by kernel_rfl) (by simp [Region.wanted, yielded]) ?_
           intro K_ hK_
           go_wp2
           refine hK_ _ _ ?_ ?_
           · exact fun _ h_ => h_
           clear hK_ K_
           (try simp only [Act.put, List.setIfInBounds_toArray, List.set_cons_zero, List.set_cons_succ]))
        first
        | (refine wpAnyT_skip (i := 44) rfl (by kernel_rfl) ?hw_ (fun _ _ _ h => h) (fun h_ => absurd h_ (by decide)) ?_; (case hw_ => simp [Region.wanted, yielded]; done); (try simp only [Act.put, List.setIfInBounds_toArray, List.set_cons_zero, List.set_cons_succ]))
        | (refine wpAnyT_free (i := 44) rfl (by kernel_rfl) (by simp [Region.wanted, yielded]) (fun _ _ _ h => h) (by kernel_rfl) (fun _ => by go_simp; try rfl) ?_; (try simp only [Act.put, List.setIfInBounds_toArray, List.set_cons_zero, List.set_cons_succ]))
        (refine wpAnyT_free (i := 45) rfl (by kernel_rfl) rfl (fun _ _ _ h => h) (by kernel_rfl) (fun _ => by go_simp; try rfl) ?_; (try simp only [Act.put, List.setIfInBounds_toArray, List.set_cons_zero, List.set_cons_succ]))
        refine wpAnyT_done (by kernel_rfl) ?_ _
        clear s1 s2 s3 s4 q1
        go_wp2
        go_roundw
        case rel => exact ⟨k + 1, _, _, by omega, by omega, by go_num, rfl, h6⟩
        case measure => simp [intOf]; omega
      · have n6 : (a.kind == 6) = false := by simpa using k6
        have hdoes := does_06 W wr b r D hB a B cb hB3 hcb hcm ik inn ifl
        generalize D.act2 a = D2 at *
        go_wp2_with (first
          | (go_at_call 22; refine hdoes.mono ?_; rintro e w3 ⟨rfl, h3⟩; clear hdoes f0 f1 f2 f3 n6)
          | (go_at_call 13; refine (read_2 h3).mono ?_; rintro e w4 ⟨A4, c4, rfl, b4, hc4, hm4, h4, -⟩; clear h3)
          | (go_at_call 23; refine (refRead_2 h4).mono ?_; rintro e w5 ⟨A5, c5, rfl, b5, hc5, hm5, h5, l5⟩; have b4' := b4.bk (BK.below l5); rw [← ref_read] at b5 hc5 ⊢)
          | fail)
        have hok := h5.ok.1
        have h5' := h5
        obtain ⟨S1, Ad, cd, S2, A1, c1, A2, c2, -, hR, -⟩ := h5'
        generalize D2.read.1 = lr at *
        generalize D2.read.2 = rr at *
        obtain ⟨dn, all, kp⟩ := D2
        obtain ⟨x0, x1, x2, -, -, -, xlt, -⟩ := hR.facts
        have hk1 : kp ≤ all.length := hok.1
        have hk2 : all.length ≤ 4194304 := hok.2
        have ek : (all.take kp).length = kp := by rw [List.length_take]; omega
        have er : (all.drop kp).length = all.length - kp := List.length_drop ..
        rw [ek] at x0
        rw [er] at x1
        have s1 : (convert 23 9 (.slice A4 lr.length c4)).run Try.prog w5.drew = .ok (str lr) w5.drew := run_str (b4'.arg (W := W) Non (fun _ h => h.elim)).drew c4
        have s2 : (convert 23 9 (.slice A5 lr.length c5)).run Try.prog w5.drew = .ok (str lr) w5.drew := run_str (b5.arg (W := W) Non (fun _ h => h.elim)).drew c5
        have r3 : Rd Non w5 A1 (all.take kp) := hR.own1.rd Non
        have s3 : (convert 23 9 (.slice A1 kp c1)).run Try.prog w5.drew = .ok (str (all.take kp)) w5.drew := by
          have h := run_str r3.drew c1
          rw [ek] at h; exact h
        have hkc := kept_2 (h5.drewB)
        have q1 : IntKind.i64.wrap ((kp : Int) + ((all.length - kp : Nat) : Int)) = (all.length : Int) := by rw [IntKind.wrap_i64]; omega
        simp only [ek] at hkc
        generalize all.take kp = kl at *
        have EK := Lib.hid ek
        clear ek er hR hok
        refine wp_region_T #[[], [], [], [], [1, 3], [1, 3], [1, 3], [1, 3], [1, 3], [1, 3], [1, 3], [1, 3], [1, 3], [1, 3], [1, 3], [1, 3], [1, 3], [1, 3, 16], [1, 3, 16], [1, 3, 16], [1, 3, 16], [1, 3, 16], [1, 3, 16], [1, 3, 16], [1, 3, 16], [1, 3, 16], [1, 3, 16, 25], [1, 3, 16], [1, 3, 16], [1, 3, 16], [1, 3, 16], [1, 3, 16, 30], [1, 3, 16, 25, 30], [1, 3, 16, 25, 30], [1, 3, 16, 25, 30], [1, 3, 16, 25, 30], [1, 3, 16, 25, 30], [1, 3, 16, 25, 30], [1, 3, 16, 25, 30], [1, 3, 16, 25, 30], [1, 3, 16, 25, 30], [1, 3, 16, 25, 30], [1, 3, 16, 25, 30], [1, 3, 16, 25, 30, 42], [1, 3, 16, 25, 30, 42, 43], [1, 3, 16, 25, 30, 42, 43]] [1, 3, 16, 25, 30, 42, 43] (fun w' => (convert 23 9 (.slice A4 lr.length c4)).run Try.prog w' = .ok (str lr) w' ∧ (convert 23 9 (.slice A5 lr.length c5)).run Try.prog w' = .ok (str lr) w' ∧ (convert 23 9 (.slice A1 kp c1)).run Try.prog w' = .ok (str kl) w' ∧ w'.cell? ⟨r, 0, none⟩ = some (.slice A1 kp c1) ∧ w'.cell? ⟨r, 1, none⟩ = some (.slice A2 (all.length - kp) c2) ∧ w'.cell? ⟨r, 2, none⟩ = some (.bool dn)) 46 rfl (by kernel_rfl) ?_
        (refine wpAnyT_free (i := 0) rfl (by kernel_rfl) rfl (fun _ _ _ h => h) (by kernel_rfl) (fun _ => by go_simp; try rfl) ?_; (try simp only [Act.put, List.setIfInBounds_toArray, List.set_cons_zero, List.set_cons_succ]))
        (refine wpAnyT_read (i := 1) rfl (by kernel_rfl) rfl (fun _ _ _ h => h) (by kernel_rfl) (⟨s1, s2, s3, x0, x1, x2⟩) (fun w hS_ => by obtain ⟨s_1, s_2⟩ := hS_; go_simp; try rfl) ?_; (try simp only [Act.put, List.setIfInBounds_toArray, List.set_cons_zero, List.set_cons_succ]))
        (refine wpAnyT_free (i := 2) rfl (by kernel_rfl) rfl (fun _ _ _ h => h) (by kernel_rfl) (fun _ => by go_simp; try rfl) ?_; (try simp only [Act.put, List.setIfInBounds_toArray, List.set_cons_zero, List.set_cons_succ]))
        (refine wpAnyT_read (i := 3) rfl (by kernel_rfl) rfl (fun _ _ _ h => h) (by kernel_rfl) (⟨s1, s2, s3, x0, x1, x2⟩) (fun w hS_ => by obtain ⟨s_1, s_2⟩ := hS_; go_simp; try rfl) ?_; (try simp only [Act.put, List.setIfInBounds_toArray, List.set_cons_zero, List.set_cons_succ]))
        (refine wpAnyT_free (i := 4) rfl (by kernel_rfl) rfl (fun _ _ _ h => h) (by kernel_rfl) (fun _ => by go_simp; try rfl) ?_; (try simp only [Act.put, List.setIfInBounds_toArray, List.set_cons_zero, List.set_cons_succ]))
        (refine wpAnyT_free (i := 5) rfl (by kernel_rfl) rfl (fun _ _ _ h => h) (by kernel_rfl) (fun _ => by go_simp; try rfl) ?_; (try simp only [Act.put, List.setIfInBounds_toArray, List.set_cons_zero, List.set_cons_succ]))
        first
        | (refine wpAnyT_skip (i := 6) rfl (by kernel_rfl) ?hw_ (fun _ _ _ h => h) (fun h_ => absurd h_ (by decide)) ?_; (case hw_ => simp [Region.wanted, yielded]; done); (try simp only [Act.put, List.setIfInBounds_toArray, List.set_cons_zero, List.set_cons_succ]))
        | (refine wpAnyT_free (i := 6) rfl (by kernel_rfl) (by simp [Region.wanted, yielded]) (fun _ _ _ h => h) (by kernel_rfl) (fun _ => by go_simp; try rfl) ?_; (try simp only [Act.put, List.setIfInBounds_toArray, List.set_cons_zero, List.set_cons_succ]))
        first
        | (refine wpAnyT_skip (i := 7) rfl (by kernel_rfl) ?hw_ (fun _ _ _ h => h) (fun h_ => absurd h_ (by decide)) ?_; (case hw_ => simp [Region.wanted, yielded]; done); (try simp only [Act.put, List.setIfInBounds_toArray, List.set_cons_zero, List.set_cons_succ]))
        | (refine wpAnyT_free (i := 7) rfl (by kernel_rfl) (by simp [Region.wanted, yielded]) (fun _ _ _ h => h) (by kernel_rfl) (fun _ => by go_simp; try rfl) ?_; (try simp only [Act.put, List.setIfInBounds_toArray, List.set_cons_zero, List.set_cons_succ]))
        first
        | (refine wpAnyT_skip (i := 8) rfl (by kernel_rfl) ?hw_ (fun _ _ _ h => h) (fun h_ => absurd h_ (by decide)) ?_; (case hw_ => simp [Region.wanted, yielded]; done); (try simp only [Act.put, List.setIfInBounds_toArray, List.set_cons_zero, List.set_cons_succ]))
        | (refine wpAnyT_free (i := 8) rfl (by kernel_rfl) (by simp [Region.wanted, yielded]) (fun _ _ _ h => h) (by kernel_rfl) (fun _ => by go_simp; try rfl) ?_; (try simp only [Act.put, List.setIfInBounds_toArray, List.set_cons_zero, List.set_cons_succ]))
        (refine wpAnyT_free (i := 9) rfl (by kernel_rfl) rfl (fun _ _ _ h => h) (by kernel_rfl) (fun _ => by go_simp; try rfl) ?_; (try simp only [Act.put, List.setIfInBounds_toArray, List.set_cons_zero, List.set_cons_succ]))
        (refine wpAnyT_free (i := 10) rfl (by kernel_rfl) rfl (fun _ _ _ h => h) (by kernel_rfl) (fun _ => by go_simp; try rfl) ?_; (try simp only [Act.put, List.setIfInBounds_toArray, List.set_cons_zero, List.set_cons_succ]))
        first
        | (refine wpAnyT_skip (i := 11) rfl (by kernel_rfl) ?hw_ (fun _ _ _ h => h) (fun h_ => absurd h_ (by decide)) ?_; (case hw_ => simp [Region.wanted, yielded]; done); (try simp only [Act.put, List.setIfInBounds_toArray, List.set_cons_zero, List.set_cons_succ]))
        | (refine wpAnyT_free (i := 11) rfl (by kernel_rfl) (by simp [Region.wanted, yielded]) (fun _ _ _ h => h) (by kernel_rfl) (fun _ => by go_simp; try rfl) ?_; (try simp only [Act.put, List.setIfInBounds_toArray, List.set_cons_zero, List.set_cons_succ]))
        first
        | (refine wpAnyT_skip (i := 13) rfl (by kernel_rfl) ?hw_ (fun _ _ _ h => h) (fun h_ => absurd h_ (by decide)) ?_; (case hw_ => simp [Region.wanted, yielded]; done); (try simp only [Act.put, List.setIfInBounds_toArray, List.set_cons_zero, List.set_cons_succ]))
        | (refine wpAnyT_free (i := 13) rfl (by kernel_rfl) (by simp [Region.wanted, yielded]) (fun _ _ _ h => h) (by kernel_rfl) (fun _ => by go_simp; try rfl) ?_; (try simp only [Act.put, List.setIfInBounds_toArray, List.set_cons_zero, List.set_cons_succ]))
        first
        | (refine wpAnyT_skip (i := 14) rfl (by kernel_rfl) ?hw_ (fun _ _ _ h => h) (fun h_ => absurd h_ (by decide)) ?_; (case hw_ => simp [Region.wanted, yielded]; done); (try simp only [Act.put, List.setIfInBounds_toArray, List.set_cons_zero, List.set_cons_succ]))
        | (refine wpAnyT_free (i := 14) rfl (by kernel_rfl) (by simp [Region.wanted, yielded]) (fun _ _ _ h => h) (by kernel_rfl) (fun _ => by go_simp; try rfl) ?_; (try simp only [Act.put, List.setIfInBounds_toArray, List.set_cons_zero, List.set_cons_succ]))
        first
        | (refine wpAnyT_skip (i := 15) rfl (by kernel_rfl) ?hw_ (fun _ _ _ h => h) (fun h_ => absurd h_ (by decide)) ?_; (case hw_ => simp [Region.wanted, yielded]; done); (try simp only [Act.put, List.setIfInBounds_toArray, List.set_cons_zero, List.set_cons_succ]))
        | (refine wpAnyT_free (i := 15) rfl (by kernel_rfl) (by simp [Region.wanted, yielded]) (fun _ _ _ h => h) (by kernel_rfl) (fun _ => by go_simp; try rfl) ?_; (try simp only [Act.put, List.setIfInBounds_toArray, List.set_cons_zero, List.set_cons_succ]))
        first
        | (refine wpAnyT_skip (i := 16) rfl (by kernel_rfl) ?hw_ (fun _ _ _ h => h) (fun _ => ⟨s1, s2, s3, x0, x1, x2⟩) ?_; (case hw_ => simp [Region.wanted, yielded]; done); (try simp only [Act.put, List.setIfInBounds_toArray, List.set_cons_zero, List.set_cons_succ]))
        | (refine wpAnyT_read (i := 16) rfl (by kernel_rfl) (by simp [Region.wanted, yielded]) (fun _ _ _ h => h) (by kernel_rfl) (⟨s1, s2, s3, x0, x1, x2⟩) (fun w hS_ => by obtain ⟨s_1, s_2⟩ := hS_; go_simp; try rfl) ?_; (try simp only [Act.put, List.setIfInBounds_toArray, List.set_cons_zero, List.set_cons_succ]))
        first
        | (refine wpAnyT_skip (i := 12) rfl (by kernel_rfl) ?hw_ (fun _ _ _ h => h) (fun h_ => absurd h_ (by decide)) ?_; (case hw_ => simp [Region.wanted, yielded]; done); (try simp only [Act.put, List.setIfInBounds_toArray, List.set_cons_zero, List.set_cons_succ]))
        | (refine wpAnyT_one (i := 12) rfl (by kernel_rfl) (by simp [Region.wanted, yielded]) ?_
           intro K_ hK_
           go_wp2_with ((go_at_call 19; refine (down_L h5.drewB.live).mono ?_; rintro e w6 ⟨rfl, rfl⟩))
           refine hK_ _ _ ?_ ?_
           · exact fun _ h_ => h_
           clear hK_ K_
           (try simp only [Act.put, List.setIfInBounds_toArray, List.set_cons_zero, List.set_cons_succ]))
        first
        | (refine wpAnyT_skip (i := 17) rfl (by kernel_rfl) ?hw_ (fun _ _ _ h => h) (fun h_ => absurd h_ (by decide)) ?_; (case hw_ => simp [Region.wanted, yielded]; done); (try simp only [Act.put, List.setIfInBounds_toArray, List.set_cons_zero, List.set_cons_succ]))
        | (refine wpAnyT_free (i := 17) rfl (by kernel_rfl) (by simp [Region.wanted, yielded]) (fun _ _ _ h => h) (by kernel_rfl) (fun _ => by go_simp; try rfl) ?_; (try simp only [Act.put, List.setIfInBounds_toArray, List.set_cons_zero, List.set_cons_succ]))
        (refine wpAnyT_free (i := 18) rfl (by kernel_rfl) rfl (fun _ _ _ h => h) (by kernel_rfl) (fun _ => by go_simp; try rfl) ?_; (try simp only [Act.put, List.setIfInBounds_toArray, List.set_cons_zero, List.set_cons_succ]))
        (refine wpAnyT_free (i := 19) rfl (by kernel_rfl) rfl (fun _ _ _ h => h) (by kernel_rfl) (fun _ => by go_simp; try rfl) ?_; (try simp only [Act.put, List.setIfInBounds_toArray, List.set_cons_zero, List.set_cons_succ]))
        first
        | (refine wpAnyT_skip (i := 20) rfl (by kernel_rfl) ?hw_ (fun _ _ _ h => h) (fun h_ => absurd h_ (by decide)) ?_; (case hw_ => simp [Region.wanted, yielded]; done); (try simp only [Act.put, List.setIfInBounds_toArray, List.set_cons_zero, List.set_cons_succ]))
        | (refine wpAnyT_free (i := 20) rfl (by kernel_rfl) (by simp [Region.wanted, yielded]) (fun _ _ _ h => h) (by kernel_rfl) (fun _ => by go_simp; try rfl) ?_; (try simp only [Act.put, List.setIfInBounds_toArray, List.set_cons_zero, List.set_cons_succ]))
        first
        | (refine wpAnyT_skip (i := 22) rfl (by kernel_rfl) ?hw_ (fun _ _ _ h => h) (fun h_ => absurd h_ (by decide)) ?_; (case hw_ => simp [Region.wanted, yielded]; done); (try simp only [Act.put, List.setIfInBounds_toArray, List.set_cons_zero, List.set_cons_succ]))
        | (refine wpAnyT_free (i := 22) rfl (by kernel_rfl) (by simp [Region.wanted, yielded]) (fun _ _ _ h => h) (by kernel_rfl) (fun _ => by go_simp; try rfl) ?_; (try simp only [Act.put, List.setIfInBounds_toArray, List.set_cons_zero, List.set_cons_succ]))
        first
        | (refine wpAnyT_skip (i := 23) rfl (by kernel_rfl) ?hw_ (fun _ _ _ h => h) (fun h_ => absurd h_ (by decide)) ?_; (case hw_ => simp [Region.wanted, yielded]; done); (try simp only [Act.put, List.setIfInBounds_toArray, List.set_cons_zero, List.set_cons_succ]))
        | (refine wpAnyT_free (i := 23) rfl (by kernel_rfl) (by simp [Region.wanted, yielded]) (fun _ _ _ h => h) (by kernel_rfl) (fun _ => by go_simp; try rfl) ?_; (try simp only [Act.put, List.setIfInBounds_toArray, List.set_cons_zero, List.set_cons_succ]))
        first
        | (refine wpAnyT_skip (i := 24) rfl (by kernel_rfl) ?hw_ (fun _ _ _ h => h) (fun h_ => absurd h_ (by decide)) ?_; (case hw_ => simp [Region.wanted, yielded]; done); (try simp only [Act.put, List.setIfInBounds_toArray, List.set_cons_zero, List.set_cons_succ]))
        | (refine wpAnyT_free (i := 24) rfl (by kernel_rfl) (by simp [Region.wanted, yielded]) (fun _ _ _ h => h) (by kernel_rfl) (fun _ => by go_simp; try rfl) ?_; (try simp only [Act.put, List.setIfInBounds_toArray, List.set_cons_zero, List.set_cons_succ]))
        first
        | (refine wpAnyT_skip (i := 25) rfl (by kernel_rfl) ?hw_ (fun _ _ _ h => h) (fun _ => ⟨s1, s2, s3, x0, x1, x2⟩) ?_; (case hw_ => simp [Region.wanted, yielded]; done); (try simp only [Act.put, List.setIfInBounds_toArray, List.set_cons_zero, List.set_cons_succ]))
        | (refine wpAnyT_read (i := 25) rfl (by kernel_rfl) (by simp [Region.wanted, yielded]) (fun _ _ _ h => h) (by kernel_rfl) (⟨s1, s2, s3, x0, x1, x2⟩) (fun w hS_ => by obtain ⟨s_1, s_2⟩ := hS_; go_simp; try rfl) ?_; (try simp only [Act.put, List.setIfInBounds_toArray, List.set_cons_zero, List.set_cons_succ]))
        first
        | (refine wpAnyT_skip (i := 26) rfl (by kernel_rfl) ?hw_ (fun _ _ _ h => h) (fun h_ => absurd h_ (by decide)) ?_; (case hw_ => simp [Region.wanted, yielded]; done); (try simp only [Act.put, List.setIfInBounds_toArray, List.set_cons_zero, List.set_cons_succ]))
        | (refine wpAnyT_free (i := 26) rfl (by kernel_rfl) (by simp [Region.wanted, yielded]) (fun _ _ _ h => h) (by kernel_rfl) (fun _ => by go_simp; try rfl) ?_; (try simp only [Act.put, List.setIfInBounds_toArray, List.set_cons_zero, List.set_cons_succ]))
        first
        | (refine wpAnyT_skip (i := 27) rfl (by kernel_rfl) ?hw_ (fun _ _ _ h => h) (fun h_ => absurd h_ (by decide)) ?_; (case hw_ => simp [Region.wanted, yielded]; done); (try simp only [Act.put, List.setIfInBounds_toArray, List.set_cons_zero, List.set_cons_succ]))
        | (refine wpAnyT_free (i := 27) rfl (by kernel_rfl) (by simp [Region.wanted, yielded]) (fun _ _ _ h => h) (by kernel_rfl) (fun _ => by go_simp; try rfl) ?_; (try simp only [Act.put, List.setIfInBounds_toArray, List.set_cons_zero, List.set_cons_succ]))
        first
        | (refine wpAnyT_skip (i := 28) rfl (by kernel_rfl) ?hw_ (fun _ _ _ h => h) (fun h_ => absurd h_ (by decide)) ?_; (case hw_ => simp [Region.wanted, yielded]; done); (try simp only [Act.put, List.setIfInBounds_toArray, List.set_cons_zero, List.set_cons_succ]))
        | (refine wpAnyT_free (i := 28) rfl (by kernel_rfl) (by simp [Region.wanted, yielded]) (fun _ _ _ h => h) (by kernel_rfl) (fun _ => by go_simp; try rfl) ?_; (try simp only [Act.put, List.setIfInBounds_toArray, List.set_cons_zero, List.set_cons_succ]))
        first
        | (refine wpAnyT_skip (i := 29) rfl (by kernel_rfl) ?hw_ (fun _ _ _ h => h) (fun h_ => absurd h_ (by decide)) ?_; (case hw_ => simp [Region.wanted, yielded]; done); (try simp only [Act.put, List.setIfInBounds_toArray, List.set_cons_zero, List.set_cons_succ]))
        | (refine wpAnyT_free (i := 29) rfl (by kernel_rfl) (by simp [Region.wanted, yielded]) (fun _ _ _ h => h) (by kernel_rfl) (fun _ => by go_simp; try rfl) ?_; (try simp only [Act.put, List.setIfInBounds_toArray, List.set_cons_zero, List.set_cons_succ]))
        first
        | (refine wpAnyT_skip (i := 30) rfl (by kernel_rfl) ?hw_ (fun _ _ _ h => h) (fun _ => ⟨s1, s2, s3, x0, x1, x2⟩) ?_; (case hw_ => simp [Region.wanted, yielded]; done); (try simp only [Act.put, List.setIfInBounds_toArray, List.set_cons_zero, List.set_cons_succ]))
        | (refine wpAnyT_read (i := 30) rfl (by kernel_rfl) (by simp [Region.wanted, yielded]) (fun _ _ _ h => h) (by kernel_rfl) (⟨s1, s2, s3, x0, x1, x2⟩) (fun w hS_ => by obtain ⟨s_1, s_2⟩ := hS_; go_simp; try rfl) ?_; (try simp only [Act.put, List.setIfInBounds_toArray, List.set_cons_zero, List.set_cons_succ]))
        first
        | (refine wpAnyT_skip (i := 31) rfl (by kernel_rfl) ?hw_ (fun _ _ _ h => h) (fun h_ => absurd h_ (by decide)) ?_; (case hw_ => simp [Region.wanted, yielded]; done); (try simp only [Act.put, List.setIfInBounds_toArray, List.set_cons_zero, List.set_cons_succ]))
        | (refine wpAnyT_free (i := 31) rfl (by kernel_rfl) (by simp [Region.wanted, yielded]) (fun _ _ _ h => h) (by kernel_rfl) (fun _ => by go_simp; try rfl) ?_; (try simp only [Act.put, List.setIfInBounds_toArray, List.set_cons_zero, List.set_cons_succ]))
        first
        | (refine wpAnyT_skip (i := 32) rfl (by kernel_rfl) ?hw_ (fun _ _ _ h => h) (fun h_ => absurd h_ (by decide)) ?_; (case hw_ => simp [Region.wanted, yielded]; done); (try simp only [Act.put, List.setIfInBounds_toArray, List.set_cons_zero, List.set_cons_succ]))
        | (refine wpAnyT_free (i := 32) rfl (by kernel_rfl) (by simp [Region.wanted, yielded]) (fun _ _ _ h => h) (by kernel_rfl) (fun _ => by go_simp; try rfl) ?_; (try simp only [Act.put, List.setIfInBounds_toArray, List.set_cons_zero, List.set_cons_succ]))
        first
        | (refine wpAnyT_skip (i := 21) rfl (by kernel_rfl) ?hw_ (fun _ _ _ h => h) (fun h_ => absurd h_ (by decide)) ?_; (case hw_ => simp [Region.wanted, yielded]; done); (try simp only [Act.put, List.setIfInBounds_toArray, List.set_cons_zero, List.set_cons_succ]))
        | (refine wpAnyT_one (i := 21) rfl (by kernel_rfl) (by simp [Region.wanted, yielded]) ?_
           intro K_ hK_
           go_wp2_with ((go_at_call 18; refine (size_L h5.drewB.live).mono ?_; rintro e w6 ⟨rfl, rfl⟩))
           refine hK_ _ _ ?_ ?_
           · exact fun _ h_ => h_
           clear hK_ K_
           (try simp only [Act.put, List.setIfInBounds_toArray, List.set_cons_zero, List.set_cons_succ]))
        first
        | (refine wpAnyT_skip (i := 33) rfl (by kernel_rfl) ?hw_ (fun _ _ _ h => h) (fun h_ => absurd h_ (by decide)) ?_; (case hw_ => simp [Region.wanted, yielded]; done); (try simp only [Act.put, List.setIfInBounds_toArray, List.set_cons_zero, List.set_cons_succ]))
        | (refine wpAnyT_free (i := 33) rfl (by kernel_rfl) (by simp [Region.wanted, yielded]) (fun _ _ _ h => h) (by kernel_rfl) (fun _ => by go_simp; try rfl) ?_; (try simp only [Act.put, List.setIfInBounds_toArray, List.set_cons_zero, List.set_cons_succ]))
        (refine wpAnyT_free (i := 34) rfl (by kernel_rfl) rfl (fun _ _ _ h => h) (by kernel_rfl) (fun _ => by go_simp; try rfl) ?_; (try simp only [Act.put, List.setIfInBounds_toArray, List.set_cons_zero, List.set_cons_succ]))
        (refine wpAnyT_free (i := 35) rfl (by kernel_rfl) rfl (fun _ _ _ h => h) (by kernel_rfl) (fun _ => by go_simp; try rfl) ?_; (try simp only [Act.put, List.setIfInBounds_toArray, List.set_cons_zero, List.set_cons_succ]))
        first
        | (refine wpAnyT_skip (i := 36) rfl (by kernel_rfl) ?hw_ (fun _ _ _ h => h) (fun h_ => absurd h_ (by decide)) ?_; (case hw_ => simp [Region.wanted, yielded]; done); (try simp only [Act.put, List.setIfInBounds_toArray, List.set_cons_zero, List.set_cons_succ]))
        | (refine wpAnyT_free (i := 36) rfl (by kernel_rfl) (by simp [Region.wanted, yielded]) (fun _ _ _ h => h) (by kernel_rfl) (fun _ => by go_simp; try rfl) ?_; (try simp only [Act.put, List.setIfInBounds_toArray, List.set_cons_zero, List.set_cons_succ]))
        first
        | (refine wpAnyT_skip (i := 39) rfl (by kernel_rfl) ?hw_ (fun _ _ _ h => h) (fun h_ => absurd h_ (by decide)) ?_; (case hw_ => simp [Region.wanted, yielded]; done); (try simp only [Act.put, List.setIfInBounds_toArray, List.set_cons_zero, List.set_cons_succ]))
        | (refine wpAnyT_free (i := 39) rfl (by kernel_rfl) (by simp [Region.wanted, yielded]) (fun _ _ _ h => h) (by kernel_rfl) (fun _ => by go_simp; try rfl) ?_; (try simp only [Act.put, List.setIfInBounds_toArray, List.set_cons_zero, List.set_cons_succ]))
        first
        | (refine wpAnyT_skip (i := 40) rfl (by kernel_rfl) ?hw_ (fun _ _ _ h => h) (fun h_ => absurd h_ (by decide)) ?_; (case hw_ => simp [Region.wanted, yielded]; done); (try simp only [Act.put, List.setIfInBounds_toArray, List.set_cons_zero, List.set_cons_succ]))
        | (refine wpAnyT_free (i := 40) rfl (by kernel_rfl) (by simp [Region.wanted, yielded]) (fun _ _ _ h => h) (by kernel_rfl) (fun _ => by go_simp; try rfl) ?_; (try simp only [Act.put, List.setIfInBounds_toArray, List.set_cons_zero, List.set_cons_succ]))
        first
        | (refine wpAnyT_skip (i := 41) rfl (by kernel_rfl) ?hw_ (fun _ _ _ h => h) (fun h_ => absurd h_ (by decide)) ?_; (case hw_ => simp [Region.wanted, yielded]; done); (try simp only [Act.put, List.setIfInBounds_toArray, List.set_cons_zero, List.set_cons_succ]))
        | (refine wpAnyT_free (i := 41) rfl (by kernel_rfl) (by simp [Region.wanted, yielded]) (fun _ _ _ h => h) (by kernel_rfl) (fun _ => by go_simp; try rfl) ?_; (try simp only [Act.put, List.setIfInBounds_toArray, List.set_cons_zero, List.set_cons_succ]))
        first
        | (refine wpAnyT_skip (i := 42) rfl (by kernel_rfl) ?hw_ (fun _ _ _ h => h) (fun _ => ⟨s1, s2, s3, x0, x1, x2⟩) ?_; (case hw_ => simp [Region.wanted, yielded]; done); (try simp only [Act.put, List.setIfInBounds_toArray, List.set_cons_zero, List.set_cons_succ]))
        | (refine wpAnyT_read (i := 42) rfl (by kernel_rfl) (by simp [Region.wanted, yielded]) (fun _ _ _ h => h) (by kernel_rfl) (⟨s1, s2, s3, x0, x1, x2⟩) (fun w hS_ => by obtain ⟨s_1, s_2⟩ := hS_; go_simp; try rfl) ?_; (try simp only [Act.put, List.setIfInBounds_toArray, List.set_cons_zero, List.set_cons_succ]))
        first
        | (refine wpAnyT_skip (i := 43) rfl (by kernel_rfl) ?hw_ (fun _ _ _ h => h) (fun _ => ⟨s1, s2, s3, x0, x1, x2⟩) ?_; (case hw_ => simp [Region.wanted, yielded]; done); (try simp only [Act.put, List.setIfInBounds_toArray, List.set_cons_zero, List.set_cons_succ]))
        | (refine wpAnyT_read (i := 43) rfl (by kernel_rfl) (by simp [Region.wanted, yielded]) (fun _ _ _ h => h) (by kernel_rfl) (⟨s1, s2, s3, x0, x1, x2⟩) (fun w hS_ => by obtain ⟨s_1, s_2⟩ := hS_; go_simp; try rfl) ?_; (try simp only [Act.put, List.setIfInBounds_toArray, List.set_cons_zero, List.set_cons_succ]))
        first
        | (refine wpAnyT_skip (i := 37) rfl (by kernel_rfl) ?hw_ (fun _ _ _ h => h) (fun h_ => absurd h_ (by decide)) ?_; (case hw_ => simp [Region.wanted, yielded]; done); (try simp only [Act.put, List.setIfInBounds_toArray, List.set_cons_zero, List.set_cons_succ]))
        | (refine wpAnyT_one (i := 37) rfl (by kernel_rfl) (by simp [Region.wanted, yielded]) ?_
           intro K_ hK_
           go_wp2_with ((go_at_call 16; refine hkc.mono ?_; rintro e w6 ⟨A6, c6, rfl, b6, h6, l6⟩; clear hkc; have s4 := run_str (b6.arg (W := W) Non (fun _ h => h.elim)) c6; rw [EK.out] at s4))
           refine hK_ _ _ ?_ ?_
           · exact fun _ _ => ⟨run_str ((b4'.arg (W := W) Non (fun _ h => h.elim)).drew.below l6) c4, run_str ((b5.arg (W := W) Non (fun _ h => h.elim)).drew.below l6) c5, (by have h := run_str (r3.drew.below l6) c1; rw [EK.out] at h; exact h), (l6.cell (p := ⟨r, 0, none⟩) xlt).trans x0, (l6.cell (p := ⟨r, 1, none⟩) xlt).trans x1, (l6.cell (p := ⟨r, 2, none⟩) xlt).trans x2⟩
           clear hK_ K_
           (try simp only [Act.put, List.setIfInBounds_toArray, List.set_cons_zero, List.set_cons_succ]))
        first
        | (refine wpAnyT_skip (i := 38) rfl (by kernel_rfl) ?hw_ (fun _ _ _ h => h) (fun h_ => absurd h_ (by decide)) ?_; (case hw_ => simp [Region.wanted, yielded]; done); (try simp only [Act.put, List.setIfInBounds_toArray, List.set_cons_zero, List.set_cons_succ]))
        | (refine wpAnyT_one (i := 38) rfl (by kernel_rfl) (by simp [Region.wanted, yielded]) ?_
           intro K_ hK_
           go_wp2
           refine hK_ _ _ ?_ ?_
           · exact fun _ h_ => h_
           clear hK_ K_
           (try simp only [Act.put, List.setIfInBounds_toArray, List.set_cons_zero, List.set_cons_succ]))
        first
        | (refine wpAnyT_skip (i := 44) rfl (by kernel_rfl) ?hw_ (fun _ _ _ h => h) (fun h_ => absurd h_ (by decide)) ?_; (case hw_ => simp [Region.wanted, yielded]; done); (try simp only [Act.put, List.setIfInBounds_toArray, List.set_cons_zero, List.set_cons_succ]))
        | (refine wpAnyT_free (i := 44) rfl (by kernel_rfl) (by simp [Region.wanted, yielded]) (fun _ _ _ h => h) (by kernel_rfl) (fun _ => by go_simp; try rfl) ?_; (try simp only [Act.put, List.setIfInBounds_toArray, List.set_cons_zero, List.set_cons_succ]))
        (refine wpAnyT_free (i := 45) rfl (by kernel_rfl) rfl (fun _ _ _ h => h) (by kernel_rfl) (fun _ => by go_simp; try rfl) ?_; (try simp only [Act.put, List.setIfInBounds_toArray, List.set_cons_zero, List.set_cons_succ]))
        refine wpAnyT_done (by kernel_rfl) ?_ _
        clear s1 s2 s3 s4 q1
        go_wp2
        go_roundw
        case rel => exact ⟨k + 1, _, _, by omega, by omega, by go_num, rfl, h6⟩
        case measure => simp [intOf]; omega
    · have hge : acts.length ≤ k ∨ 80 ≤ k := by omega
      clear hA hB0
      have hbel := hB.below
      by_cases hk2 : k < acts.length
      all_goals
        go_wp2_with (go_at_call 15; refine (works_06 W _ hbel).mono ?_; rintro e w9 ⟨rfl, h9⟩)
        go_ret
        exact ⟨rfl, h9⟩
end Go.Proofs.Ytediidajdpdeiaa
