/- DiskKeeps: the walk. -/
import Derived.Test.YtediidajdpdeiaaWhole06
namespace Go.Proofs.Ytediidajdpdeiaa
open Go.RowKit

/-- what is kept begins so -/
def KeepsL (l : List UInt8) (D : Dk) : Prop := l.length ≤ D.kept ∧ D.kept ≤ D.all.length ∧ D.all.take l.length = l
theorem keeps_self (D : Dk) (h : D.ok) : KeepsL (D.all.take D.kept) D := by
  obtain ⟨h1, _⟩ := h
  have e : (D.all.take D.kept).length = D.kept := by rw [List.length_take]; omega
  exact ⟨by omega, h1, by rw [e]⟩
theorem KeepsL.append {l : List UInt8} {D : Dk} (h : KeepsL l D) (b : List UInt8) : KeepsL l (D.append b).1 := by
  obtain ⟨h1, h2, h3⟩ := h
  unfold Dk.append
  split
  · exact ⟨h1, h2, h3⟩
  · split
    · exact ⟨h1, h2, h3⟩
    · exact ⟨h1, by simp only [List.length_append]; omega, by simp only; rw [List.take_append_of_le_length (by omega), h3]⟩
theorem KeepsL.sync {l : List UInt8} {D : Dk} (h : KeepsL l D) : KeepsL l D.sync.1 := by
  obtain ⟨h1, h2, h3⟩ := h
  unfold Dk.sync
  split
  · exact ⟨h1, h2, h3⟩
  · exact ⟨by simp only; omega, by simp, h3⟩
theorem KeepsL.crash {l : List UInt8} {D : Dk} (h : KeepsL l D) (k f : Int) : KeepsL l (D.crash k f).1 := by
  obtain ⟨h1, h2, h3⟩ := h
  unfold Dk.crash
  split
  · exact ⟨h1, h2, h3⟩
  · split
    · exact ⟨h1, h2, h3⟩
    · have e : (D.all.take D.kept).length = D.kept := by rw [List.length_take]; omega
      exact ⟨h1, by simp only [List.length_append]; omega, by simp only; rw [List.take_append_of_le_length (by omega), List.take_take, Nat.min_eq_left h1, h3]⟩
theorem KeepsL.restart {l : List UInt8} {D : Dk} (h : KeepsL l D) : KeepsL l D.restart.1 := by
  obtain ⟨h1, h2, h3⟩ := h
  unfold Dk.restart
  split
  · exact ⟨by simp only; omega, by simp, h3⟩
  · exact ⟨h1, h2, h3⟩

def Keeping (l : List UInt8) (W w : World) (b : Nat) : Prop := ∃ D, Live W w b D ∧ KeepsL l D

set_option maxHeartbeats 4000000 in
set_option maxRecDepth 100000 in
theorem keeps_06 (W : World) (A : Option Addr) (acts : List Act06) (c : Nat) (hA : ActsAt W A acts) (hlen : acts.length ≤ maxLen)
    (A2 : Option Addr) (more : List Act06) (c2 : Nat) (hA2 : ActsAt W A2 more) (hlen2 : more.length ≤ maxLen) :
    Calls Try.prog 4 #[.slice A acts.length c, .slice A2 more.length c2] W fun e w' => e = .returned (.bool true) ∧ Below W.heap.size W w' := by
  have hcall := plays_06 W A acts c hA hlen
  have hok := ok_plays acts
  generalize plays06 acts = D0 at *
  unfold maxLen at hlen2
  have hks := keeps_self D0 hok
  obtain ⟨was, hwas⟩ : ∃ was, was = D0.all.take D0.kept := ⟨_, rfl⟩
  have hwl : was.length ≤ 4194304 := by rw [hwas, List.length_take]; have := hok.1; have := hok.2; omega
  rw [← hwas] at hks
  have HW := Lib.hid hwas
  have KS := Lib.hid hks
  clear hA hwas hok hks
  go_enter Try.func4, Try.ntmps4
  go_wp2_with (first
    | (go_at_call 8; refine hcall.mono ?_; rintro e w1 ⟨b, rfl, h1⟩; clear hcall)
    | (go_at_call 16; refine (kept_L h1).mono ?_; rintro e w2 ⟨Aw, cw, rfl, bw, hcw, hmw, h2, -⟩; rw [← HW.out] at hcw bw ⊢; clear h1))
  go_loopw [7] (fun i wr => ∃ k : Nat, k ≤ more.length ∧ k ≤ 60 ∧ i = .int .i64 k ∧ Keeping was W wr b ∧ Byt wr Aw was) (fun i _ => 60 - (intOf i).toNat)
  case atStart => exact ⟨0, by omega, by omega, rfl, ⟨D0, h2, KS.out⟩, bw⟩
  case round =>
    obtain ⟨k, hk, hk6, rfl, ⟨D, hL, hK⟩, bwr⟩ := hrel
    by_cases hlt : k < more.length ∧ k < 60
    · obtain ⟨hlt, hlt6⟩ := hlt
      obtain ⟨a, ha⟩ : ∃ a, more[k]? = some a := ⟨_, List.getElem?_eq_getElem hlt⟩
      obtain ⟨g, o, B, cb, rfl, hg, e0, e1, e2, e3, hcb, hcm, hB, ik, inn, ifl⟩ := hA2 k a ha
      have hbel := hL.below
      have f0 : wr.cell? ⟨g, o + k * 4, none⟩ = some (.int .i64 a.kind) := (hbel.cell (p := ⟨g, o + k * 4, none⟩) hg).trans e0
      have f1 : wr.cell? ⟨g, o + k * 4 + 1, none⟩ = some (.int .i64 a.n) := (hbel.cell (p := ⟨g, o + k * 4 + 1, none⟩) hg).trans e1
      have f2 : wr.cell? ⟨g, o + k * 4 + 2, none⟩ = some (.int .i64 a.flip) := (hbel.cell (p := ⟨g, o + k * 4 + 2, none⟩) hg).trans e2
      have f3 : wr.cell? ⟨g, o + k * 4 + 3, none⟩ = some (.slice B a.b.length cb) := (hbel.cell (p := ⟨g, o + k * 4 + 3, none⟩) hg).trans e3
      clear e0 e1 e2 e3 ha
      obtain ⟨kd, n, fl, bb⟩ := a
      simp only at f0 f1 f2 f3 hcb hB ik inn ifl
      obtain ⟨l, hl⟩ : ∃ l, l = bb.take 300 := ⟨_, rfl⟩
      have l1 : l.length ≤ bb.length := by rw [hl, List.length_take]; omega
      have l2 : l.length ≤ 300 := by rw [hl, List.length_take]; omega
      have l3 : (l.length : Int) ≤ (cb : Int) := by omega
      have hr : RdB W B l := hl ▸ hB.take 300
      have hmin : ∀ w, (Builtin.min_ #[3, 3] 3 #[.int .i64 (bb.length : Int), .int .i64 300]).run Try.prog w = .ok (.int .i64 (l.length : Int)) w := by
        intro w
        rw [run_min_int2]
        have : (l.length : Int) = if (300 : Int) < (bb.length : Int) then 300 else (bb.length : Int) := by rw [hl, List.length_take]; split <;> omega
        rw [this]
      clear hl hB hA2
      have hb' : Below wr.heap.size wr (wr.alloc (.cells #[.int .i64 kd, .int .i64 n, .int .i64 fl, .slice B bb.length cb] 37)) := (Below.refl wr.heap.size wr).alloc (Nat.le_refl _) _
      have hL' := hL.mono hb'
      have bwr' := bwr.bk (BK.below hb')
      unfold i64 at ik inn ifl
      by_cases k0 : kd = 0
      · subst k0
        go_wp2_with (first
          | (go_at_call 9; refine (append_L hL' B l cb (by omega) (hr.arg hL'.below)).mono ?_; rintro e w2 ⟨rfl, h2', k2⟩; have hK3 := hK.append l; obtain ⟨D3, hD3⟩ : ∃ D3, D3 = (D.append l).1 := ⟨_, rfl⟩; rw [← hD3] at h2' hK3; obtain ⟨now, hnow⟩ : ∃ now, D3.all.take D3.kept = now := ⟨_, rfl⟩; have Hn := Lib.hid hnow; clear hnow hD3)
          | (go_at_call 16; refine (kept_L' h2' now Hn.out).mono ?_; rintro e w3 ⟨A3, c3, rfl, b3, hc3, hm3, h3, k3⟩))
        have bw3 := (bwr'.bk k2).bk k3
        have e3 : now.length = D3.kept := by rw [← Hn.out, List.length_take]; have := hK3.2.1; omega
        have g0 : was.length ≤ now.length := by rw [e3]; exact hK3.1
        have g2 : decide (now.length < was.length) = false := by simp only [decide_eq_false_iff_not]; omega
        have g3 : (was.length : Int) ≤ (c3 : Int) := by omega
        have et : now.take was.length = was := by rw [← Hn.out, List.take_take, Nat.min_eq_left hK3.1, hK3.2.2]
        have s1 : (convert 23 9 (.slice A3 was.length c3)).run Try.prog w3.drew = .ok (.string ⟨was.toArray⟩) w3.drew := by
          have h := run_str ((b3.arg (W := W) Non (fun _ h => h.elim)).take was.length).drew c3
          rw [et] at h
          exact h
        have s2 : (convert 23 9 (.slice Aw was.length cw)).run Try.prog w3.drew = .ok (.string ⟨was.toArray⟩) w3.drew := run_str ((bw3.arg (W := W) Non (fun _ h => h.elim)).drew) cw
        clear e3 et
        refine wp_region_T #[[], [], [], [], [], [], [], [], [], [], [], [], [], [10, 12], [10, 12]] [10, 12] (fun w' => (convert 23 9 (.slice A3 was.length c3)).run Try.prog w' = .ok (.string ⟨was.toArray⟩) w' ∧ (convert 23 9 (.slice Aw was.length cw)).run Try.prog w' = .ok (.string ⟨was.toArray⟩) w') 15 rfl (by kernel_rfl) ?_
        (refine wpAnyT_free (i := 0) rfl (by kernel_rfl) rfl (fun _ _ _ h => h) (by kernel_rfl) (fun _ => by go_simp; try rfl) ?_; (try simp only [Act.put, List.setIfInBounds_toArray, List.set_cons_zero, List.set_cons_succ]))
        (refine wpAnyT_free (i := 1) rfl (by kernel_rfl) rfl (fun _ _ _ h => h) (by kernel_rfl) (fun _ => by go_simp; try rfl) ?_; (try simp only [Act.put, List.setIfInBounds_toArray, List.set_cons_zero, List.set_cons_succ]))
        (refine wpAnyT_free (i := 2) rfl (by kernel_rfl) rfl (fun _ _ _ h => h) (by kernel_rfl) (fun _ => by go_simp; try rfl) ?_; (try simp only [Act.put, List.setIfInBounds_toArray, List.set_cons_zero, List.set_cons_succ]))
        (refine wpAnyT_free (i := 3) rfl (by kernel_rfl) rfl (fun _ _ _ h => h) (by kernel_rfl) (fun _ => by go_simp; try rfl) ?_; (try simp only [Act.put, List.setIfInBounds_toArray, List.set_cons_zero, List.set_cons_succ]))
        (refine wpAnyT_free (i := 4) rfl (by kernel_rfl) rfl (fun _ _ _ h => h) (by kernel_rfl) (fun _ => by go_simp; try rfl) ?_; (try simp only [Act.put, List.setIfInBounds_toArray, List.set_cons_zero, List.set_cons_succ]))
        (refine wpAnyT_free (i := 5) rfl (by kernel_rfl) rfl (fun _ _ _ h => h) (by kernel_rfl) (fun _ => by go_simp; try rfl) ?_; (try simp only [Act.put, List.setIfInBounds_toArray, List.set_cons_zero, List.set_cons_succ]))
        first
        | (refine wpAnyT_skip (i := 6) rfl (by kernel_rfl) ?hw_ (fun _ _ _ h => h) (fun h_ => absurd h_ (by decide)) ?_; (case hw_ => simp [Region.wanted, yielded]; done); (try simp only [Act.put, List.setIfInBounds_toArray, List.set_cons_zero, List.set_cons_succ]))
        | (refine wpAnyT_free (i := 6) rfl (by kernel_rfl) (by simp [Region.wanted, yielded]) (fun _ _ _ h => h) (by kernel_rfl) (fun _ => by go_simp; try rfl) ?_; (try simp only [Act.put, List.setIfInBounds_toArray, List.set_cons_zero, List.set_cons_succ]))
        first
        | (refine wpAnyT_skip (i := 7) rfl (by kernel_rfl) ?hw_ (fun _ _ _ h => h) (fun h_ => absurd h_ (by decide)) ?_; (case hw_ => simp [Region.wanted, yielded]; done); (try simp only [Act.put, List.setIfInBounds_toArray, List.set_cons_zero, List.set_cons_succ]))
        | (refine wpAnyT_free (i := 7) rfl (by kernel_rfl) (by simp [Region.wanted, yielded]) (fun _ _ _ h => h) (by kernel_rfl) (fun _ => by go_simp; try rfl) ?_; (try simp only [Act.put, List.setIfInBounds_toArray, List.set_cons_zero, List.set_cons_succ]))
        first
        | (refine wpAnyT_skip (i := 8) rfl (by kernel_rfl) ?hw_ (fun _ _ _ h => h) (fun h_ => absurd h_ (by decide)) ?_; (case hw_ => simp [Region.wanted, yielded]; done); (try simp only [Act.put, List.setIfInBounds_toArray, List.set_cons_zero, List.set_cons_succ]))
        | (refine wpAnyT_free (i := 8) rfl (by kernel_rfl) (by simp [Region.wanted, yielded]) (fun _ _ _ h => h) (by kernel_rfl) (fun _ => by go_simp; try rfl) ?_; (try simp only [Act.put, List.setIfInBounds_toArray, List.set_cons_zero, List.set_cons_succ]))
        first
        | (refine wpAnyT_skip (i := 9) rfl (by kernel_rfl) ?hw_ (fun _ _ _ h => h) (fun h_ => absurd h_ (by decide)) ?_; (case hw_ => simp [Region.wanted, yielded]; done); (try simp only [Act.put, List.setIfInBounds_toArray, List.set_cons_zero, List.set_cons_succ]))
        | (refine wpAnyT_free (i := 9) rfl (by kernel_rfl) (by simp [Region.wanted, yielded]) (fun _ _ _ h => h) (by kernel_rfl) (fun _ => by go_simp; try rfl) ?_; (try simp only [Act.put, List.setIfInBounds_toArray, List.set_cons_zero, List.set_cons_succ]))
        first
        | (refine wpAnyT_skip (i := 10) rfl (by kernel_rfl) ?hw_ (fun _ _ _ h => h) (fun _ => ⟨s1, s2⟩) ?_; (case hw_ => simp [Region.wanted, yielded]; done); (try simp only [Act.put, List.setIfInBounds_toArray, List.set_cons_zero, List.set_cons_succ]))
        | (refine wpAnyT_read (i := 10) rfl (by kernel_rfl) (by simp [Region.wanted, yielded]) (fun _ _ _ h => h) (by kernel_rfl) (⟨s1, s2⟩) (fun w hS_ => by obtain ⟨s_1, s_2⟩ := hS_; go_simp; try rfl) ?_; (try simp only [Act.put, List.setIfInBounds_toArray, List.set_cons_zero, List.set_cons_succ]))
        first
        | (refine wpAnyT_skip (i := 11) rfl (by kernel_rfl) ?hw_ (fun _ _ _ h => h) (fun h_ => absurd h_ (by decide)) ?_; (case hw_ => simp [Region.wanted, yielded]; done); (try simp only [Act.put, List.setIfInBounds_toArray, List.set_cons_zero, List.set_cons_succ]))
        | (refine wpAnyT_free (i := 11) rfl (by kernel_rfl) (by simp [Region.wanted, yielded]) (fun _ _ _ h => h) (by kernel_rfl) (fun _ => by go_simp; try rfl) ?_; (try simp only [Act.put, List.setIfInBounds_toArray, List.set_cons_zero, List.set_cons_succ]))
        first
        | (refine wpAnyT_skip (i := 12) rfl (by kernel_rfl) ?hw_ (fun _ _ _ h => h) (fun _ => ⟨s1, s2⟩) ?_; (case hw_ => simp [Region.wanted, yielded]; done); (try simp only [Act.put, List.setIfInBounds_toArray, List.set_cons_zero, List.set_cons_succ]))
        | (refine wpAnyT_read (i := 12) rfl (by kernel_rfl) (by simp [Region.wanted, yielded]) (fun _ _ _ h => h) (by kernel_rfl) (⟨s1, s2⟩) (fun w hS_ => by obtain ⟨s_1, s_2⟩ := hS_; go_simp; try rfl) ?_; (try simp only [Act.put, List.setIfInBounds_toArray, List.set_cons_zero, List.set_cons_succ]))
        first
        | (refine wpAnyT_skip (i := 13) rfl (by kernel_rfl) ?hw_ (fun _ _ _ h => h) (fun h_ => absurd h_ (by decide)) ?_; (case hw_ => simp [Region.wanted, yielded]; done); (try simp only [Act.put, List.setIfInBounds_toArray, List.set_cons_zero, List.set_cons_succ]))
        | (refine wpAnyT_free (i := 13) rfl (by kernel_rfl) (by simp [Region.wanted, yielded]) (fun _ _ _ h => h) (by kernel_rfl) (fun _ => by go_simp; try rfl) ?_; (try simp only [Act.put, List.setIfInBounds_toArray, List.set_cons_zero, List.set_cons_succ]))
        (refine wpAnyT_free (i := 14) rfl (by kernel_rfl) rfl (fun _ _ _ h => h) (by kernel_rfl) (fun _ => by go_simp; try rfl) ?_; (try simp only [Act.put, List.setIfInBounds_toArray, List.set_cons_zero, List.set_cons_succ]))
        refine wpAnyT_done (by kernel_rfl) ?_ _
        clear s1 s2
        go_wp2
        go_roundw
        case rel => exact ⟨k + 1, by omega, by omega, by go_num, ⟨D3, h3.mono ⟨rfl, rfl, rfl, Nat.le_refl _, fun _ _ => rfl⟩, hK3⟩, bw3⟩
        case measure => simp [intOf]; omega
      have n0 : (kd == 0) = false := by simpa using k0
      by_cases k1 : kd = 1
      · subst k1
        go_wp2_with (first
          | (go_at_call 17; refine (sync_L hL').mono ?_; rintro e w2 ⟨rfl, h2', k2⟩; have hK3 := hK.sync; obtain ⟨D3, hD3⟩ : ∃ D3, D3 = (D.sync).1 := ⟨_, rfl⟩; rw [← hD3] at h2' hK3; obtain ⟨now, hnow⟩ : ∃ now, D3.all.take D3.kept = now := ⟨_, rfl⟩; have Hn := Lib.hid hnow; clear hnow hD3)
          | (go_at_call 16; refine (kept_L' h2' now Hn.out).mono ?_; rintro e w3 ⟨A3, c3, rfl, b3, hc3, hm3, h3, k3⟩))
        have bw3 := (bwr'.bk k2).bk k3
        have e3 : now.length = D3.kept := by rw [← Hn.out, List.length_take]; have := hK3.2.1; omega
        have g0 : was.length ≤ now.length := by rw [e3]; exact hK3.1
        have g2 : decide (now.length < was.length) = false := by simp only [decide_eq_false_iff_not]; omega
        have g3 : (was.length : Int) ≤ (c3 : Int) := by omega
        have et : now.take was.length = was := by rw [← Hn.out, List.take_take, Nat.min_eq_left hK3.1, hK3.2.2]
        have s1 : (convert 23 9 (.slice A3 was.length c3)).run Try.prog w3.drew = .ok (.string ⟨was.toArray⟩) w3.drew := by
          have h := run_str ((b3.arg (W := W) Non (fun _ h => h.elim)).take was.length).drew c3
          rw [et] at h
          exact h
        have s2 : (convert 23 9 (.slice Aw was.length cw)).run Try.prog w3.drew = .ok (.string ⟨was.toArray⟩) w3.drew := run_str ((bw3.arg (W := W) Non (fun _ h => h.elim)).drew) cw
        clear e3 et
        refine wp_region_T #[[], [], [], [], [], [], [], [], [], [], [], [], [], [10, 12], [10, 12]] [10, 12] (fun w' => (convert 23 9 (.slice A3 was.length c3)).run Try.prog w' = .ok (.string ⟨was.toArray⟩) w' ∧ (convert 23 9 (.slice Aw was.length cw)).run Try.prog w' = .ok (.string ⟨was.toArray⟩) w') 15 rfl (by kernel_rfl) ?_
        (refine wpAnyT_free (i := 0) rfl (by kernel_rfl) rfl (fun _ _ _ h => h) (by kernel_rfl) (fun _ => by go_simp; try rfl) ?_; (try simp only [Act.put, List.setIfInBounds_toArray, List.set_cons_zero, List.set_cons_succ]))
        (refine wpAnyT_free (i := 1) rfl (by kernel_rfl) rfl (fun _ _ _ h => h) (by kernel_rfl) (fun _ => by go_simp; try rfl) ?_; (try simp only [Act.put, List.setIfInBounds_toArray, List.set_cons_zero, List.set_cons_succ]))
        (refine wpAnyT_free (i := 2) rfl (by kernel_rfl) rfl (fun _ _ _ h => h) (by kernel_rfl) (fun _ => by go_simp; try rfl) ?_; (try simp only [Act.put, List.setIfInBounds_toArray, List.set_cons_zero, List.set_cons_succ]))
        (refine wpAnyT_free (i := 3) rfl (by kernel_rfl) rfl (fun _ _ _ h => h) (by kernel_rfl) (fun _ => by go_simp; try rfl) ?_; (try simp only [Act.put, List.setIfInBounds_toArray, List.set_cons_zero, List.set_cons_succ]))
        (refine wpAnyT_free (i := 4) rfl (by kernel_rfl) rfl (fun _ _ _ h => h) (by kernel_rfl) (fun _ => by go_simp; try rfl) ?_; (try simp only [Act.put, List.setIfInBounds_toArray, List.set_cons_zero, List.set_cons_succ]))
        (refine wpAnyT_free (i := 5) rfl (by kernel_rfl) rfl (fun _ _ _ h => h) (by kernel_rfl) (fun _ => by go_simp; try rfl) ?_; (try simp only [Act.put, List.setIfInBounds_toArray, List.set_cons_zero, List.set_cons_succ]))
        first
        | (refine wpAnyT_skip (i := 6) rfl (by kernel_rfl) ?hw_ (fun _ _ _ h => h) (fun h_ => absurd h_ (by decide)) ?_; (case hw_ => simp [Region.wanted, yielded]; done); (try simp only [Act.put, List.setIfInBounds_toArray, List.set_cons_zero, List.set_cons_succ]))
        | (refine wpAnyT_free (i := 6) rfl (by kernel_rfl) (by simp [Region.wanted, yielded]) (fun _ _ _ h => h) (by kernel_rfl) (fun _ => by go_simp; try rfl) ?_; (try simp only [Act.put, List.setIfInBounds_toArray, List.set_cons_zero, List.set_cons_succ]))
        first
        | (refine wpAnyT_skip (i := 7) rfl (by kernel_rfl) ?hw_ (fun _ _ _ h => h) (fun h_ => absurd h_ (by decide)) ?_; (case hw_ => simp [Region.wanted, yielded]; done); (try simp only [Act.put, List.setIfInBounds_toArray, List.set_cons_zero, List.set_cons_succ]))
        | (refine wpAnyT_free (i := 7) rfl (by kernel_rfl) (by simp [Region.wanted, yielded]) (fun _ _ _ h => h) (by kernel_rfl) (fun _ => by go_simp; try rfl) ?_; (try simp only [Act.put, List.setIfInBounds_toArray, List.set_cons_zero, List.set_cons_succ]))
        first
        | (refine wpAnyT_skip (i := 8) rfl (by kernel_rfl) ?hw_ (fun _ _ _ h => h) (fun h_ => absurd h_ (by decide)) ?_; (case hw_ => simp [Region.wanted, yielded]; done); (try simp only [Act.put, List.setIfInBounds_toArray, List.set_cons_zero, List.set_cons_succ]))
        | (refine wpAnyT_free (i := 8) rfl (by kernel_rfl) (by simp [Region.wanted, yielded]) (fun _ _ _ h => h) (by kernel_rfl) (fun _ => by go_simp; try rfl) ?_; (try simp only [Act.put, List.setIfInBounds_toArray, List.set_cons_zero, List.set_cons_succ]))
        first
        | (refine wpAnyT_skip (i := 9) rfl (by kernel_rfl) ?hw_ (fun _ _ _ h => h) (fun h_ => absurd h_ (by decide)) ?_; (case hw_ => simp [Region.wanted, yielded]; done); (try simp only [Act.put, List.setIfInBounds_toArray, List.set_cons_zero, List.set_cons_succ]))
        | (refine wpAnyT_free (i := 9) rfl (by kernel_rfl) (by simp [Region.wanted, yielded]) (fun _ _ _ h => h) (by kernel_rfl) (fun _ => by go_simp; try rfl) ?_; (try simp only [Act.put, List.setIfInBounds_toArray, List.set_cons_zero, List.set_cons_succ]))
        first
        | (refine wpAnyT_skip (i := 10) rfl (by kernel_rfl) ?hw_ (fun _ _ _ h => h) (fun _ => ⟨s1, s2⟩) ?_; (case hw_ => simp [Region.wanted, yielded]; done); (try simp only [Act.put, List.setIfInBounds_toArray, List.set_cons_zero, List.set_cons_succ]))
        | (refine wpAnyT_read (i := 10) rfl (by kernel_rfl) (by simp [Region.wanted, yielded]) (fun _ _ _ h => h) (by kernel_rfl) (⟨s1, s2⟩) (fun w hS_ => by obtain ⟨s_1, s_2⟩ := hS_; go_simp; try rfl) ?_; (try simp only [Act.put, List.setIfInBounds_toArray, List.set_cons_zero, List.set_cons_succ]))
        first
        | (refine wpAnyT_skip (i := 11) rfl (by kernel_rfl) ?hw_ (fun _ _ _ h => h) (fun h_ => absurd h_ (by decide)) ?_; (case hw_ => simp [Region.wanted, yielded]; done); (try simp only [Act.put, List.setIfInBounds_toArray, List.set_cons_zero, List.set_cons_succ]))
        | (refine wpAnyT_free (i := 11) rfl (by kernel_rfl) (by simp [Region.wanted, yielded]) (fun _ _ _ h => h) (by kernel_rfl) (fun _ => by go_simp; try rfl) ?_; (try simp only [Act.put, List.setIfInBounds_toArray, List.set_cons_zero, List.set_cons_succ]))
        first
        | (refine wpAnyT_skip (i := 12) rfl (by kernel_rfl) ?hw_ (fun _ _ _ h => h) (fun _ => ⟨s1, s2⟩) ?_; (case hw_ => simp [Region.wanted, yielded]; done); (try simp only [Act.put, List.setIfInBounds_toArray, List.set_cons_zero, List.set_cons_succ]))
        | (refine wpAnyT_read (i := 12) rfl (by kernel_rfl) (by simp [Region.wanted, yielded]) (fun _ _ _ h => h) (by kernel_rfl) (⟨s1, s2⟩) (fun w hS_ => by obtain ⟨s_1, s_2⟩ := hS_; go_simp; try rfl) ?_; (try simp only [Act.put, List.setIfInBounds_toArray, List.set_cons_zero, List.set_cons_succ]))
        first
        | (refine wpAnyT_skip (i := 13) rfl (by kernel_rfl) ?hw_ (fun _ _ _ h => h) (fun h_ => absurd h_ (by decide)) ?_; (case hw_ => simp [Region.wanted, yielded]; done); (try simp only [Act.put, List.setIfInBounds_toArray, List.set_cons_zero, List.set_cons_succ]))
        | (refine wpAnyT_free (i := 13) rfl (by kernel_rfl) (by simp [Region.wanted, yielded]) (fun _ _ _ h => h) (by kernel_rfl) (fun _ => by go_simp; try rfl) ?_; (try simp only [Act.put, List.setIfInBounds_toArray, List.set_cons_zero, List.set_cons_succ]))
        (refine wpAnyT_free (i := 14) rfl (by kernel_rfl) rfl (fun _ _ _ h => h) (by kernel_rfl) (fun _ => by go_simp; try rfl) ?_; (try simp only [Act.put, List.setIfInBounds_toArray, List.set_cons_zero, List.set_cons_succ]))
        refine wpAnyT_done (by kernel_rfl) ?_ _
        clear s1 s2
        go_wp2
        go_roundw
        case rel => exact ⟨k + 1, by omega, by omega, by go_num, ⟨D3, h3.mono ⟨rfl, rfl, rfl, Nat.le_refl _, fun _ _ => rfl⟩, hK3⟩, bw3⟩
        case measure => simp [intOf]; omega
      have n1 : (kd == 1) = false := by simpa using k1
      by_cases k4 : kd = 4
      · subst k4
        go_wp2_with (first
          | (go_at_call 11; refine (crash_L hL' n fl inn.2 ifl.2 inn.1 ifl.1).mono ?_; rintro e w2 ⟨rfl, h2', k2⟩; have hK3 := hK.crash n fl; obtain ⟨D3, hD3⟩ : ∃ D3, D3 = (D.crash n fl).1 := ⟨_, rfl⟩; rw [← hD3] at h2' hK3; obtain ⟨now, hnow⟩ : ∃ now, D3.all.take D3.kept = now := ⟨_, rfl⟩; have Hn := Lib.hid hnow; clear hnow hD3)
          | (go_at_call 16; refine (kept_L' h2' now Hn.out).mono ?_; rintro e w3 ⟨A3, c3, rfl, b3, hc3, hm3, h3, k3⟩))
        have bw3 := (bwr'.bk k2).bk k3
        have e3 : now.length = D3.kept := by rw [← Hn.out, List.length_take]; have := hK3.2.1; omega
        have g0 : was.length ≤ now.length := by rw [e3]; exact hK3.1
        have g2 : decide (now.length < was.length) = false := by simp only [decide_eq_false_iff_not]; omega
        have g3 : (was.length : Int) ≤ (c3 : Int) := by omega
        have et : now.take was.length = was := by rw [← Hn.out, List.take_take, Nat.min_eq_left hK3.1, hK3.2.2]
        have s1 : (convert 23 9 (.slice A3 was.length c3)).run Try.prog w3.drew = .ok (.string ⟨was.toArray⟩) w3.drew := by
          have h := run_str ((b3.arg (W := W) Non (fun _ h => h.elim)).take was.length).drew c3
          rw [et] at h
          exact h
        have s2 : (convert 23 9 (.slice Aw was.length cw)).run Try.prog w3.drew = .ok (.string ⟨was.toArray⟩) w3.drew := run_str ((bw3.arg (W := W) Non (fun _ h => h.elim)).drew) cw
        clear e3 et
        refine wp_region_T #[[], [], [], [], [], [], [], [], [], [], [], [], [], [10, 12], [10, 12]] [10, 12] (fun w' => (convert 23 9 (.slice A3 was.length c3)).run Try.prog w' = .ok (.string ⟨was.toArray⟩) w' ∧ (convert 23 9 (.slice Aw was.length cw)).run Try.prog w' = .ok (.string ⟨was.toArray⟩) w') 15 rfl (by kernel_rfl) ?_
        (refine wpAnyT_free (i := 0) rfl (by kernel_rfl) rfl (fun _ _ _ h => h) (by kernel_rfl) (fun _ => by go_simp; try rfl) ?_; (try simp only [Act.put, List.setIfInBounds_toArray, List.set_cons_zero, List.set_cons_succ]))
        (refine wpAnyT_free (i := 1) rfl (by kernel_rfl) rfl (fun _ _ _ h => h) (by kernel_rfl) (fun _ => by go_simp; try rfl) ?_; (try simp only [Act.put, List.setIfInBounds_toArray, List.set_cons_zero, List.set_cons_succ]))
        (refine wpAnyT_free (i := 2) rfl (by kernel_rfl) rfl (fun _ _ _ h => h) (by kernel_rfl) (fun _ => by go_simp; try rfl) ?_; (try simp only [Act.put, List.setIfInBounds_toArray, List.set_cons_zero, List.set_cons_succ]))
        (refine wpAnyT_free (i := 3) rfl (by kernel_rfl) rfl (fun _ _ _ h => h) (by kernel_rfl) (fun _ => by go_simp; try rfl) ?_; (try simp only [Act.put, List.setIfInBounds_toArray, List.set_cons_zero, List.set_cons_succ]))
        (refine wpAnyT_free (i := 4) rfl (by kernel_rfl) rfl (fun _ _ _ h => h) (by kernel_rfl) (fun _ => by go_simp; try rfl) ?_; (try simp only [Act.put, List.setIfInBounds_toArray, List.set_cons_zero, List.set_cons_succ]))
        (refine wpAnyT_free (i := 5) rfl (by kernel_rfl) rfl (fun _ _ _ h => h) (by kernel_rfl) (fun _ => by go_simp; try rfl) ?_; (try simp only [Act.put, List.setIfInBounds_toArray, List.set_cons_zero, List.set_cons_succ]))
        first
        | (refine wpAnyT_skip (i := 6) rfl (by kernel_rfl) ?hw_ (fun _ _ _ h => h) (fun h_ => absurd h_ (by decide)) ?_; (case hw_ => simp [Region.wanted, yielded]; done); (try simp only [Act.put, List.setIfInBounds_toArray, List.set_cons_zero, List.set_cons_succ]))
        | (refine wpAnyT_free (i := 6) rfl (by kernel_rfl) (by simp [Region.wanted, yielded]) (fun _ _ _ h => h) (by kernel_rfl) (fun _ => by go_simp; try rfl) ?_; (try simp only [Act.put, List.setIfInBounds_toArray, List.set_cons_zero, List.set_cons_succ]))
        first
        | (refine wpAnyT_skip (i := 7) rfl (by kernel_rfl) ?hw_ (fun _ _ _ h => h) (fun h_ => absurd h_ (by decide)) ?_; (case hw_ => simp [Region.wanted, yielded]; done); (try simp only [Act.put, List.setIfInBounds_toArray, List.set_cons_zero, List.set_cons_succ]))
        | (refine wpAnyT_free (i := 7) rfl (by kernel_rfl) (by simp [Region.wanted, yielded]) (fun _ _ _ h => h) (by kernel_rfl) (fun _ => by go_simp; try rfl) ?_; (try simp only [Act.put, List.setIfInBounds_toArray, List.set_cons_zero, List.set_cons_succ]))
        first
        | (refine wpAnyT_skip (i := 8) rfl (by kernel_rfl) ?hw_ (fun _ _ _ h => h) (fun h_ => absurd h_ (by decide)) ?_; (case hw_ => simp [Region.wanted, yielded]; done); (try simp only [Act.put, List.setIfInBounds_toArray, List.set_cons_zero, List.set_cons_succ]))
        | (refine wpAnyT_free (i := 8) rfl (by kernel_rfl) (by simp [Region.wanted, yielded]) (fun _ _ _ h => h) (by kernel_rfl) (fun _ => by go_simp; try rfl) ?_; (try simp only [Act.put, List.setIfInBounds_toArray, List.set_cons_zero, List.set_cons_succ]))
        first
        | (refine wpAnyT_skip (i := 9) rfl (by kernel_rfl) ?hw_ (fun _ _ _ h => h) (fun h_ => absurd h_ (by decide)) ?_; (case hw_ => simp [Region.wanted, yielded]; done); (try simp only [Act.put, List.setIfInBounds_toArray, List.set_cons_zero, List.set_cons_succ]))
        | (refine wpAnyT_free (i := 9) rfl (by kernel_rfl) (by simp [Region.wanted, yielded]) (fun _ _ _ h => h) (by kernel_rfl) (fun _ => by go_simp; try rfl) ?_; (try simp only [Act.put, List.setIfInBounds_toArray, List.set_cons_zero, List.set_cons_succ]))
        first
        | (refine wpAnyT_skip (i := 10) rfl (by kernel_rfl) ?hw_ (fun _ _ _ h => h) (fun _ => ⟨s1, s2⟩) ?_; (case hw_ => simp [Region.wanted, yielded]; done); (try simp only [Act.put, List.setIfInBounds_toArray, List.set_cons_zero, List.set_cons_succ]))
        | (refine wpAnyT_read (i := 10) rfl (by kernel_rfl) (by simp [Region.wanted, yielded]) (fun _ _ _ h => h) (by kernel_rfl) (⟨s1, s2⟩) (fun w hS_ => by obtain ⟨s_1, s_2⟩ := hS_; go_simp; try rfl) ?_; (try simp only [Act.put, List.setIfInBounds_toArray, List.set_cons_zero, List.set_cons_succ]))
        first
        | (refine wpAnyT_skip (i := 11) rfl (by kernel_rfl) ?hw_ (fun _ _ _ h => h) (fun h_ => absurd h_ (by decide)) ?_; (case hw_ => simp [Region.wanted, yielded]; done); (try simp only [Act.put, List.setIfInBounds_toArray, List.set_cons_zero, List.set_cons_succ]))
        | (refine wpAnyT_free (i := 11) rfl (by kernel_rfl) (by simp [Region.wanted, yielded]) (fun _ _ _ h => h) (by kernel_rfl) (fun _ => by go_simp; try rfl) ?_; (try simp only [Act.put, List.setIfInBounds_toArray, List.set_cons_zero, List.set_cons_succ]))
        first
        | (refine wpAnyT_skip (i := 12) rfl (by kernel_rfl) ?hw_ (fun _ _ _ h => h) (fun _ => ⟨s1, s2⟩) ?_; (case hw_ => simp [Region.wanted, yielded]; done); (try simp only [Act.put, List.setIfInBounds_toArray, List.set_cons_zero, List.set_cons_succ]))
        | (refine wpAnyT_read (i := 12) rfl (by kernel_rfl) (by simp [Region.wanted, yielded]) (fun _ _ _ h => h) (by kernel_rfl) (⟨s1, s2⟩) (fun w hS_ => by obtain ⟨s_1, s_2⟩ := hS_; go_simp; try rfl) ?_; (try simp only [Act.put, List.setIfInBounds_toArray, List.set_cons_zero, List.set_cons_succ]))
        first
        | (refine wpAnyT_skip (i := 13) rfl (by kernel_rfl) ?hw_ (fun _ _ _ h => h) (fun h_ => absurd h_ (by decide)) ?_; (case hw_ => simp [Region.wanted, yielded]; done); (try simp only [Act.put, List.setIfInBounds_toArray, List.set_cons_zero, List.set_cons_succ]))
        | (refine wpAnyT_free (i := 13) rfl (by kernel_rfl) (by simp [Region.wanted, yielded]) (fun _ _ _ h => h) (by kernel_rfl) (fun _ => by go_simp; try rfl) ?_; (try simp only [Act.put, List.setIfInBounds_toArray, List.set_cons_zero, List.set_cons_succ]))
        (refine wpAnyT_free (i := 14) rfl (by kernel_rfl) rfl (fun _ _ _ h => h) (by kernel_rfl) (fun _ => by go_simp; try rfl) ?_; (try simp only [Act.put, List.setIfInBounds_toArray, List.set_cons_zero, List.set_cons_succ]))
        refine wpAnyT_done (by kernel_rfl) ?_ _
        clear s1 s2
        go_wp2
        go_roundw
        case rel => exact ⟨k + 1, by omega, by omega, by go_num, ⟨D3, h3.mono ⟨rfl, rfl, rfl, Nat.le_refl _, fun _ _ => rfl⟩, hK3⟩, bw3⟩
        case measure => simp [intOf]; omega
      have n4 : (kd == 4) = false := by simpa using k4
      by_cases k5 : kd = 5
      · subst k5
        go_wp2_with (first
          | (go_at_call 12; refine (restart_L hL').mono ?_; rintro e w2 ⟨rfl, h2', k2⟩; have hK3 := hK.restart; obtain ⟨D3, hD3⟩ : ∃ D3, D3 = (D.restart).1 := ⟨_, rfl⟩; rw [← hD3] at h2' hK3; obtain ⟨now, hnow⟩ : ∃ now, D3.all.take D3.kept = now := ⟨_, rfl⟩; have Hn := Lib.hid hnow; clear hnow hD3)
          | (go_at_call 16; refine (kept_L' h2' now Hn.out).mono ?_; rintro e w3 ⟨A3, c3, rfl, b3, hc3, hm3, h3, k3⟩))
        have bw3 := (bwr'.bk k2).bk k3
        have e3 : now.length = D3.kept := by rw [← Hn.out, List.length_take]; have := hK3.2.1; omega
        have g0 : was.length ≤ now.length := by rw [e3]; exact hK3.1
        have g2 : decide (now.length < was.length) = false := by simp only [decide_eq_false_iff_not]; omega
        have g3 : (was.length : Int) ≤ (c3 : Int) := by omega
        have et : now.take was.length = was := by rw [← Hn.out, List.take_take, Nat.min_eq_left hK3.1, hK3.2.2]
        have s1 : (convert 23 9 (.slice A3 was.length c3)).run Try.prog w3.drew = .ok (.string ⟨was.toArray⟩) w3.drew := by
          have h := run_str ((b3.arg (W := W) Non (fun _ h => h.elim)).take was.length).drew c3
          rw [et] at h
          exact h
        have s2 : (convert 23 9 (.slice Aw was.length cw)).run Try.prog w3.drew = .ok (.string ⟨was.toArray⟩) w3.drew := run_str ((bw3.arg (W := W) Non (fun _ h => h.elim)).drew) cw
        clear e3 et
        refine wp_region_T #[[], [], [], [], [], [], [], [], [], [], [], [], [], [10, 12], [10, 12]] [10, 12] (fun w' => (convert 23 9 (.slice A3 was.length c3)).run Try.prog w' = .ok (.string ⟨was.toArray⟩) w' ∧ (convert 23 9 (.slice Aw was.length cw)).run Try.prog w' = .ok (.string ⟨was.toArray⟩) w') 15 rfl (by kernel_rfl) ?_
        (refine wpAnyT_free (i := 0) rfl (by kernel_rfl) rfl (fun _ _ _ h => h) (by kernel_rfl) (fun _ => by go_simp; try rfl) ?_; (try simp only [Act.put, List.setIfInBounds_toArray, List.set_cons_zero, List.set_cons_succ]))
        (refine wpAnyT_free (i := 1) rfl (by kernel_rfl) rfl (fun _ _ _ h => h) (by kernel_rfl) (fun _ => by go_simp; try rfl) ?_; (try simp only [Act.put, List.setIfInBounds_toArray, List.set_cons_zero, List.set_cons_succ]))
        (refine wpAnyT_free (i := 2) rfl (by kernel_rfl) rfl (fun _ _ _ h => h) (by kernel_rfl) (fun _ => by go_simp; try rfl) ?_; (try simp only [Act.put, List.setIfInBounds_toArray, List.set_cons_zero, List.set_cons_succ]))
        (refine wpAnyT_free (i := 3) rfl (by kernel_rfl) rfl (fun _ _ _ h => h) (by kernel_rfl) (fun _ => by go_simp; try rfl) ?_; (try simp only [Act.put, List.setIfInBounds_toArray, List.set_cons_zero, List.set_cons_succ]))
        (refine wpAnyT_free (i := 4) rfl (by kernel_rfl) rfl (fun _ _ _ h => h) (by kernel_rfl) (fun _ => by go_simp; try rfl) ?_; (try simp only [Act.put, List.setIfInBounds_toArray, List.set_cons_zero, List.set_cons_succ]))
        (refine wpAnyT_free (i := 5) rfl (by kernel_rfl) rfl (fun _ _ _ h => h) (by kernel_rfl) (fun _ => by go_simp; try rfl) ?_; (try simp only [Act.put, List.setIfInBounds_toArray, List.set_cons_zero, List.set_cons_succ]))
        first
        | (refine wpAnyT_skip (i := 6) rfl (by kernel_rfl) ?hw_ (fun _ _ _ h => h) (fun h_ => absurd h_ (by decide)) ?_; (case hw_ => simp [Region.wanted, yielded]; done); (try simp only [Act.put, List.setIfInBounds_toArray, List.set_cons_zero, List.set_cons_succ]))
        | (refine wpAnyT_free (i := 6) rfl (by kernel_rfl) (by simp [Region.wanted, yielded]) (fun _ _ _ h => h) (by kernel_rfl) (fun _ => by go_simp; try rfl) ?_; (try simp only [Act.put, List.setIfInBounds_toArray, List.set_cons_zero, List.set_cons_succ]))
        first
        | (refine wpAnyT_skip (i := 7) rfl (by kernel_rfl) ?hw_ (fun _ _ _ h => h) (fun h_ => absurd h_ (by decide)) ?_; (case hw_ => simp [Region.wanted, yielded]; done); (try simp only [Act.put, List.setIfInBounds_toArray, List.set_cons_zero, List.set_cons_succ]))
        | (refine wpAnyT_free (i := 7) rfl (by kernel_rfl) (by simp [Region.wanted, yielded]) (fun _ _ _ h => h) (by kernel_rfl) (fun _ => by go_simp; try rfl) ?_; (try simp only [Act.put, List.setIfInBounds_toArray, List.set_cons_zero, List.set_cons_succ]))
        first
        | (refine wpAnyT_skip (i := 8) rfl (by kernel_rfl) ?hw_ (fun _ _ _ h => h) (fun h_ => absurd h_ (by decide)) ?_; (case hw_ => simp [Region.wanted, yielded]; done); (try simp only [Act.put, List.setIfInBounds_toArray, List.set_cons_zero, List.set_cons_succ]))
        | (refine wpAnyT_free (i := 8) rfl (by kernel_rfl) (by simp [Region.wanted, yielded]) (fun _ _ _ h => h) (by kernel_rfl) (fun _ => by go_simp; try rfl) ?_; (try simp only [Act.put, List.setIfInBounds_toArray, List.set_cons_zero, List.set_cons_succ]))
        first
        | (refine wpAnyT_skip (i := 9) rfl (by kernel_rfl) ?hw_ (fun _ _ _ h => h) (fun h_ => absurd h_ (by decide)) ?_; (case hw_ => simp [Region.wanted, yielded]; done); (try simp only [Act.put, List.setIfInBounds_toArray, List.set_cons_zero, List.set_cons_succ]))
        | (refine wpAnyT_free (i := 9) rfl (by kernel_rfl) (by simp [Region.wanted, yielded]) (fun _ _ _ h => h) (by kernel_rfl) (fun _ => by go_simp; try rfl) ?_; (try simp only [Act.put, List.setIfInBounds_toArray, List.set_cons_zero, List.set_cons_succ]))
        first
        | (refine wpAnyT_skip (i := 10) rfl (by kernel_rfl) ?hw_ (fun _ _ _ h => h) (fun _ => ⟨s1, s2⟩) ?_; (case hw_ => simp [Region.wanted, yielded]; done); (try simp only [Act.put, List.setIfInBounds_toArray, List.set_cons_zero, List.set_cons_succ]))
        | (refine wpAnyT_read (i := 10) rfl (by kernel_rfl) (by simp [Region.wanted, yielded]) (fun _ _ _ h => h) (by kernel_rfl) (⟨s1, s2⟩) (fun w hS_ => by obtain ⟨s_1, s_2⟩ := hS_; go_simp; try rfl) ?_; (try simp only [Act.put, List.setIfInBounds_toArray, List.set_cons_zero, List.set_cons_succ]))
        first
        | (refine wpAnyT_skip (i := 11) rfl (by kernel_rfl) ?hw_ (fun _ _ _ h => h) (fun h_ => absurd h_ (by decide)) ?_; (case hw_ => simp [Region.wanted, yielded]; done); (try simp only [Act.put, List.setIfInBounds_toArray, List.set_cons_zero, List.set_cons_succ]))
        | (refine wpAnyT_free (i := 11) rfl (by kernel_rfl) (by simp [Region.wanted, yielded]) (fun _ _ _ h => h) (by kernel_rfl) (fun _ => by go_simp; try rfl) ?_; (try simp only [Act.put, List.setIfInBounds_toArray, List.set_cons_zero, List.set_cons_succ]))
        first
        | (refine wpAnyT_skip (i := 12) rfl (by kernel_rfl) ?hw_ (fun _ _ _ h => h) (fun _ => ⟨s1, s2⟩) ?_; (case hw_ => simp [Region.wanted, yielded]; done); (try simp only [Act.put, List.setIfInBounds_toArray, List.set_cons_zero, List.set_cons_succ]))
        | (refine wpAnyT_read (i := 12) rfl (by kernel_rfl) (by simp [Region.wanted, yielded]) (fun _ _ _ h => h) (by kernel_rfl) (⟨s1, s2⟩) (fun w hS_ => by obtain ⟨s_1, s_2⟩ := hS_; go_simp; try rfl) ?_; (try simp only [Act.put, List.setIfInBounds_toArray, List.set_cons_zero, List.set_cons_succ]))
        first
        | (refine wpAnyT_skip (i := 13) rfl (by kernel_rfl) ?hw_ (fun _ _ _ h => h) (fun h_ => absurd h_ (by decide)) ?_; (case hw_ => simp [Region.wanted, yielded]; done); (try simp only [Act.put, List.setIfInBounds_toArray, List.set_cons_zero, List.set_cons_succ]))
        | (refine wpAnyT_free (i := 13) rfl (by kernel_rfl) (by simp [Region.wanted, yielded]) (fun _ _ _ h => h) (by kernel_rfl) (fun _ => by go_simp; try rfl) ?_; (try simp only [Act.put, List.setIfInBounds_toArray, List.set_cons_zero, List.set_cons_succ]))
        (refine wpAnyT_free (i := 14) rfl (by kernel_rfl) rfl (fun _ _ _ h => h) (by kernel_rfl) (fun _ => by go_simp; try rfl) ?_; (try simp only [Act.put, List.setIfInBounds_toArray, List.set_cons_zero, List.set_cons_succ]))
        refine wpAnyT_done (by kernel_rfl) ?_ _
        clear s1 s2
        go_wp2
        go_roundw
        case rel => exact ⟨k + 1, by omega, by omega, by go_num, ⟨D3, h3.mono ⟨rfl, rfl, rfl, Nat.le_refl _, fun _ _ => rfl⟩, hK3⟩, bw3⟩
        case measure => simp [intOf]; omega
      have n5 : (kd == 5) = false := by simpa using k5
      obtain ⟨now, hnow⟩ : ∃ now, D.all.take D.kept = now := ⟨_, rfl⟩
      have Hn := Lib.hid hnow
      clear hnow
      go_wp2_with (go_at_call 16; refine (kept_L' hL' now Hn.out).mono ?_; rintro e w3 ⟨A3, c3, rfl, b3, hc3, hm3, h3, k3⟩)
      · have hK3 := hK
        have bw3 := bwr'.bk k3
        generalize D = D3 at *
        have e3 : now.length = D3.kept := by rw [← Hn.out, List.length_take]; have := hK3.2.1; omega
        have g0 : was.length ≤ now.length := by rw [e3]; exact hK3.1
        have g2 : decide (now.length < was.length) = false := by simp only [decide_eq_false_iff_not]; omega
        have g3 : (was.length : Int) ≤ (c3 : Int) := by omega
        have et : now.take was.length = was := by rw [← Hn.out, List.take_take, Nat.min_eq_left hK3.1, hK3.2.2]
        have s1 : (convert 23 9 (.slice A3 was.length c3)).run Try.prog w3.drew = .ok (.string ⟨was.toArray⟩) w3.drew := by
          have h := run_str ((b3.arg (W := W) Non (fun _ h => h.elim)).take was.length).drew c3
          rw [et] at h
          exact h
        have s2 : (convert 23 9 (.slice Aw was.length cw)).run Try.prog w3.drew = .ok (.string ⟨was.toArray⟩) w3.drew := run_str ((bw3.arg (W := W) Non (fun _ h => h.elim)).drew) cw
        clear e3 et
        refine wp_region_T #[[], [], [], [], [], [], [], [], [], [], [], [], [], [10, 12], [10, 12]] [10, 12] (fun w' => (convert 23 9 (.slice A3 was.length c3)).run Try.prog w' = .ok (.string ⟨was.toArray⟩) w' ∧ (convert 23 9 (.slice Aw was.length cw)).run Try.prog w' = .ok (.string ⟨was.toArray⟩) w') 15 rfl (by kernel_rfl) ?_
        (refine wpAnyT_free (i := 0) rfl (by kernel_rfl) rfl (fun _ _ _ h => h) (by kernel_rfl) (fun _ => by go_simp; try rfl) ?_; (try simp only [Act.put, List.setIfInBounds_toArray, List.set_cons_zero, List.set_cons_succ]))
        (refine wpAnyT_free (i := 1) rfl (by kernel_rfl) rfl (fun _ _ _ h => h) (by kernel_rfl) (fun _ => by go_simp; try rfl) ?_; (try simp only [Act.put, List.setIfInBounds_toArray, List.set_cons_zero, List.set_cons_succ]))
        (refine wpAnyT_free (i := 2) rfl (by kernel_rfl) rfl (fun _ _ _ h => h) (by kernel_rfl) (fun _ => by go_simp; try rfl) ?_; (try simp only [Act.put, List.setIfInBounds_toArray, List.set_cons_zero, List.set_cons_succ]))
        (refine wpAnyT_free (i := 3) rfl (by kernel_rfl) rfl (fun _ _ _ h => h) (by kernel_rfl) (fun _ => by go_simp; try rfl) ?_; (try simp only [Act.put, List.setIfInBounds_toArray, List.set_cons_zero, List.set_cons_succ]))
        (refine wpAnyT_free (i := 4) rfl (by kernel_rfl) rfl (fun _ _ _ h => h) (by kernel_rfl) (fun _ => by go_simp; try rfl) ?_; (try simp only [Act.put, List.setIfInBounds_toArray, List.set_cons_zero, List.set_cons_succ]))
        (refine wpAnyT_free (i := 5) rfl (by kernel_rfl) rfl (fun _ _ _ h => h) (by kernel_rfl) (fun _ => by go_simp; try rfl) ?_; (try simp only [Act.put, List.setIfInBounds_toArray, List.set_cons_zero, List.set_cons_succ]))
        first
        | (refine wpAnyT_skip (i := 6) rfl (by kernel_rfl) ?hw_ (fun _ _ _ h => h) (fun h_ => absurd h_ (by decide)) ?_; (case hw_ => simp [Region.wanted, yielded]; done); (try simp only [Act.put, List.setIfInBounds_toArray, List.set_cons_zero, List.set_cons_succ]))
        | (refine wpAnyT_free (i := 6) rfl (by kernel_rfl) (by simp [Region.wanted, yielded]) (fun _ _ _ h => h) (by kernel_rfl) (fun _ => by go_simp; try rfl) ?_; (try simp only [Act.put, List.setIfInBounds_toArray, List.set_cons_zero, List.set_cons_succ]))
        first
        | (refine wpAnyT_skip (i := 7) rfl (by kernel_rfl) ?hw_ (fun _ _ _ h => h) (fun h_ => absurd h_ (by decide)) ?_; (case hw_ => simp [Region.wanted, yielded]; done); (try simp only [Act.put, List.setIfInBounds_toArray, List.set_cons_zero, List.set_cons_succ]))
        | (refine wpAnyT_free (i := 7) rfl (by kernel_rfl) (by simp [Region.wanted, yielded]) (fun _ _ _ h => h) (by kernel_rfl) (fun _ => by go_simp; try rfl) ?_; (try simp only [Act.put, List.setIfInBounds_toArray, List.set_cons_zero, List.set_cons_succ]))
        first
        | (refine wpAnyT_skip (i := 8) rfl (by kernel_rfl) ?hw_ (fun _ _ _ h => h) (fun h_ => absurd h_ (by decide)) ?_; (case hw_ => simp [Region.wanted, yielded]; done); (try simp only [Act.put, List.setIfInBounds_toArray, List.set_cons_zero, List.set_cons_succ]))
        | (refine wpAnyT_free (i := 8) rfl (by kernel_rfl) (by simp [Region.wanted, yielded]) (fun _ _ _ h => h) (by kernel_rfl) (fun _ => by go_simp; try rfl) ?_; (try simp only [Act.put, List.setIfInBounds_toArray, List.set_cons_zero, List.set_cons_succ]))
        first
        | (refine wpAnyT_skip (i := 9) rfl (by kernel_rfl) ?hw_ (fun _ _ _ h => h) (fun h_ => absurd h_ (by decide)) ?_; (case hw_ => simp [Region.wanted, yielded]; done); (try simp only [Act.put, List.setIfInBounds_toArray, List.set_cons_zero, List.set_cons_succ]))
        | (refine wpAnyT_free (i := 9) rfl (by kernel_rfl) (by simp [Region.wanted, yielded]) (fun _ _ _ h => h) (by kernel_rfl) (fun _ => by go_simp; try rfl) ?_; (try simp only [Act.put, List.setIfInBounds_toArray, List.set_cons_zero, List.set_cons_succ]))
        first
        | (refine wpAnyT_skip (i := 10) rfl (by kernel_rfl) ?hw_ (fun _ _ _ h => h) (fun _ => ⟨s1, s2⟩) ?_; (case hw_ => simp [Region.wanted, yielded]; done); (try simp only [Act.put, List.setIfInBounds_toArray, List.set_cons_zero, List.set_cons_succ]))
        | (refine wpAnyT_read (i := 10) rfl (by kernel_rfl) (by simp [Region.wanted, yielded]) (fun _ _ _ h => h) (by kernel_rfl) (⟨s1, s2⟩) (fun w hS_ => by obtain ⟨s_1, s_2⟩ := hS_; go_simp; try rfl) ?_; (try simp only [Act.put, List.setIfInBounds_toArray, List.set_cons_zero, List.set_cons_succ]))
        first
        | (refine wpAnyT_skip (i := 11) rfl (by kernel_rfl) ?hw_ (fun _ _ _ h => h) (fun h_ => absurd h_ (by decide)) ?_; (case hw_ => simp [Region.wanted, yielded]; done); (try simp only [Act.put, List.setIfInBounds_toArray, List.set_cons_zero, List.set_cons_succ]))
        | (refine wpAnyT_free (i := 11) rfl (by kernel_rfl) (by simp [Region.wanted, yielded]) (fun _ _ _ h => h) (by kernel_rfl) (fun _ => by go_simp; try rfl) ?_; (try simp only [Act.put, List.setIfInBounds_toArray, List.set_cons_zero, List.set_cons_succ]))
        first
        | (refine wpAnyT_skip (i := 12) rfl (by kernel_rfl) ?hw_ (fun _ _ _ h => h) (fun _ => ⟨s1, s2⟩) ?_; (case hw_ => simp [Region.wanted, yielded]; done); (try simp only [Act.put, List.setIfInBounds_toArray, List.set_cons_zero, List.set_cons_succ]))
        | (refine wpAnyT_read (i := 12) rfl (by kernel_rfl) (by simp [Region.wanted, yielded]) (fun _ _ _ h => h) (by kernel_rfl) (⟨s1, s2⟩) (fun w hS_ => by obtain ⟨s_1, s_2⟩ := hS_; go_simp; try rfl) ?_; (try simp only [Act.put, List.setIfInBounds_toArray, List.set_cons_zero, List.set_cons_succ]))
        first
        | (refine wpAnyT_skip (i := 13) rfl (by kernel_rfl) ?hw_ (fun _ _ _ h => h) (fun h_ => absurd h_ (by decide)) ?_; (case hw_ => simp [Region.wanted, yielded]; done); (try simp only [Act.put, List.setIfInBounds_toArray, List.set_cons_zero, List.set_cons_succ]))
        | (refine wpAnyT_free (i := 13) rfl (by kernel_rfl) (by simp [Region.wanted, yielded]) (fun _ _ _ h => h) (by kernel_rfl) (fun _ => by go_simp; try rfl) ?_; (try simp only [Act.put, List.setIfInBounds_toArray, List.set_cons_zero, List.set_cons_succ]))
        (refine wpAnyT_free (i := 14) rfl (by kernel_rfl) rfl (fun _ _ _ h => h) (by kernel_rfl) (fun _ => by go_simp; try rfl) ?_; (try simp only [Act.put, List.setIfInBounds_toArray, List.set_cons_zero, List.set_cons_succ]))
        refine wpAnyT_done (by kernel_rfl) ?_ _
        clear s1 s2
        go_wp2
        go_roundw
        case rel => exact ⟨k + 1, by omega, by omega, by go_num, ⟨D3, h3.mono ⟨rfl, rfl, rfl, Nat.le_refl _, fun _ _ => rfl⟩, hK3⟩, bw3⟩
        case measure => simp [intOf]; omega
    · have hge : more.length ≤ k ∨ 60 ≤ k := by omega
      clear hA2
      by_cases hk2 : k < more.length
      all_goals
        go_wp2_with (go_at_call 15; refine (works_06 W _ hL.below).mono ?_; rintro e w9 ⟨rfl, h9⟩)
        go_ret
        exact ⟨rfl, h9⟩
end Go.Proofs.Ytediidajdpdeiaa
