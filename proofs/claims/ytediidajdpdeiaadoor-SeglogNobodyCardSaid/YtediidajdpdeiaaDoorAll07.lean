/- The laws' own helper 'all' (layer 7): all records of a log, and their numbers. -/
import Derived.Test.YtediidajdpdeiaaDoorLaw07
import Derived.Test.YtediidajdpdeiaaDoorFuncNil
namespace Go.Proofs.YtediidajdpdeiaaDoor
open Go.RowKit CrcM
set_option maxRecDepth 100000

theorem numS_num {per : Nat} : ∀ {gs : List Sg} {n num : Nat} {r : List UInt8}, Chain per gs → (numS gs)[n]? = some (num, r) → num = headS gs + n ∧ (recsS gs)[n]? = some r
  | [], n, num, r, _, h => by simp [numS] at h
  | g :: t, n, num, r, hc, h => by
    have hR : ∀ (rs : List (List UInt8)) (b n num : Nat) (r : List UInt8), (numR b rs)[n]? = some (num, r) → num = b + n ∧ rs[n]? = some r := by
      intro rs
      induction rs with
      | nil => intro b n num r h; simp [numR] at h
      | cons x rs ih =>
        intro b n num r h
        cases n with
        | zero =>
          simp only [numR, List.getElem?_cons_zero, Option.some.injEq, Prod.mk.injEq] at h
          exact ⟨by omega, by rw [List.getElem?_cons_zero, h.2]⟩
        | succ n =>
          simp only [numR, List.getElem?_cons_succ] at h
          have := ih (b + 1) n num r h
          exact ⟨by omega, by rw [List.getElem?_cons_succ]; exact this.2⟩
    have e : numS (g :: t) = numR g.base g.recs ++ numS t := by simp [numS]
    have e2 : recsS (g :: t) = g.recs ++ recsS t := by simp [recsS]
    rw [e] at h
    rw [e2]
    by_cases hn : n < g.recs.length
    · rw [List.getElem?_append_left (by rw [length_numR]; exact hn)] at h
      rw [List.getElem?_append_left hn]
      exact hR _ _ _ _ _ h
    · rw [List.getElem?_append_right (by rw [length_numR]; omega), length_numR] at h
      rw [List.getElem?_append_right (by omega)]
      have ih := numS_num hc.tail h
      refine ⟨?_, ih.2⟩
      cases t with
      | nil => simp [numS] at h
      | cons y t =>
        have := hc.2.1
        simp only [headS] at ih ⊢
        omega
theorem length_numS (gs : List Sg) : (numS gs).length = (recsS gs).length := by
  induction gs with
  | nil => rfl
  | cons g t ih =>
    have e : numS (g :: t) = numR g.base g.recs ++ numS t := by simp [numS]
    have e2 : recsS (g :: t) = g.recs ++ recsS t := by simp [recsS]
    rw [e, e2, List.length_append, List.length_append, length_numR, ih]

theorem recs_B (w : World) (b : Nat) : Calls Tryd.prog 89 #[.pointer (some ⟨b, 0, none⟩)] w fun e w' => e = .returned (.func (.func 118) #[] #[.pointer (some ⟨w.heap.size, 0, none⟩)]) ∧ w.alloc (.cells #[.pointer (some ⟨b, 0, none⟩)] 52) = w' := by
  go_enter Tryd.func89, Tryd.ntmps89
  go_wp2
  go_ret
  exact ⟨rfl, rfl⟩

/-- what is known where n records have come -/
structure AllR (w4 : World) (nb b : Nat) (recs : List (List UInt8)) (n : Nat) (W : World) : Prop where
  fr : Fr (fun x => nb ≤ x) w4 W
  lt : nb + 4 ≤ w4.heap.size
  b0 : Blk W nb 52 #[.pointer (some ⟨b, 0, none⟩)]
  b1 : ∃ v vals, Blk W (nb + 1) 45 #[v] ∧ Row (fun x => nb + 3 < x) W TBs v vals ∧ Recs W vals (recs.take n)
  b2 : Blk W (nb + 2) 4 #[.bool true]
  b3 : Blk W (nb + 3) 52 #[.pointer (some ⟨b, 0, none⟩)]
theorem AllR.below {w4 W W' : World} {nb b n : Nat} {recs : List (List UInt8)} (h : AllR w4 nb b recs n W) (hb : Below W.heap.size W W') : AllR w4 nb b recs n W' := by
  obtain ⟨v, vals, h1, h2, h3⟩ := h.b1
  exact ⟨h.fr.trans' (Fr.of_below (S := Non) hb) (fun _ _ h => h.elim), h.lt, h.b0.below' hb, ⟨v, vals, h1.below' hb, h2.below hb, h3.fr (Fr.of_below (S := Non) hb)⟩, h.b2.below' hb, h.b3.below' hb⟩

section
variable {S H : Nat → Prop} {w4 : World} {b nb : Nat} {A : Option Addr} {c : Nat} {ps : List Nat} {L : Lg}
set_option maxHeartbeats 1000000 in
theorem lit_all (h : LogO S H w4 b A c ps L) (hS : ∀ x, S x → ¬ nb ≤ x) {n m : Nat} (hinv : L.inv m) (hm : m ≤ 1048576) (hd : L.down = false) {W : World} (hJ : AllR w4 nb b L.recs n W) {num : Nat} {r : List UInt8} {A' : Option Addr} {c' : Nat} (hn : (numS L.segs)[n]? = some (num, r)) (ho : Own Any W A' r) (hc' : r.length ≤ c') (hm' : c' ≤ maxLen) :
    Calls Tryd.prog 90 #[.int .i64 (num : Int), .slice A' r.length c', .pointer (some ⟨nb + 2, 0, none⟩), .pointer (some ⟨nb, 0, none⟩), .pointer (some ⟨nb + 1, 0, none⟩)] W fun e W' => e = .returned (.bool true) ∧ AllR w4 nb b L.recs (n + 1) W' := by
  obtain ⟨ib, hib, hzb, hsb, hbb⟩ := info_parts info_bs
  obtain ⟨hnum, hrec⟩ := numS_num hinv.chain hn
  rw [← L.base_eq hd] at hnum
  rw [← L.recs_eq hd] at hrec
  have hlen := hinv.len hd
  have hle := hinv.len_le
  have hnl : n < L.recs.length := (List.getElem?_eq_some_iff.1 hrec).1
  have hlW : LogO S H W b A c ps L := h.fr hJ.fr (fun x hx hy => (hS x hx hy).elim)
  obtain ⟨v, vals, i1, irow, irec⟩ := hJ.b1
  obtain ⟨R, cr, rfl, -⟩ := irow.val
  have hvl : vals.length = n := by rw [irec.1, List.length_take]; omega
  have hB := baseL (hlW.below (w' := W.drew) ((Below.refl _ W).drew))
  have e0 := hJ.b0.cell 0 (v := .pointer (some ⟨b, 0, none⟩)) rfl
  have e1 := i1.cell 0 (v := .slice R vals.length cr) rfl
  have e1f := i1.frozen 0
  have e2 := hJ.b2.cell 0 (v := .bool true) rfl
  have e2f := hJ.b2.frozen 0
  have k1 : IntKind.i64.wrap ((L.base : Int) + (vals.length : Int)) = (num : Int) := by rw [IntKind.wrap_i64]; omega
  have k2 : ((num : Int) == (num : Int)) = true := beq_self_eq_true _
  have HV := Lib.hid hvl
  have HR := Lib.hid hrec
  have HV4 : vals.length + 1 ≤ maxLen := by unfold maxLen; omega
  have HV5 : (vals.length + 1) * 24 ≤ 140737488355328 := by omega
  clear hn hnum hlen hle hrec hvl
  go_enter Tryd.func90, Tryd.ntmps90
  go_wp2
  refine wp_region_T #[[], [0], [0], [0], [0, 3], [0], [0, 5], [0, 3, 5], [0, 3, 5], [0, 3, 5], [0, 3, 5]] [0, 3, 5] (fun w' => w'.cell? ⟨nb + 2, 0, none⟩ = some (.bool true) ∧ w'.cell? ⟨nb, 0, none⟩ = some (.pointer (some ⟨b, 0, none⟩)) ∧ w'.cell? ⟨nb + 1, 0, none⟩ = some (.slice R vals.length cr)) 11 rfl (by kernel_rfl) ?_
  (refine wpAnyT_read (i := 0) rfl (by kernel_rfl) rfl (fun _ _ _ h => h) (by kernel_rfl) (⟨e2, e0, e1⟩) (fun w hS_ => by obtain ⟨s_1, s_2, s_3⟩ := hS_; go_simp; try rfl) ?_; (try simp only [Act.put, List.setIfInBounds_toArray, List.set_cons_zero, List.set_cons_succ]))
  (refine wpAnyT_free (i := 1) rfl (by kernel_rfl) rfl (fun _ _ _ h => h) (by kernel_rfl) (fun _ => by go_simp; try rfl) ?_; (try simp only [Act.put, List.setIfInBounds_toArray, List.set_cons_zero, List.set_cons_succ]))
  first
  | (refine wpAnyT_skip (i := 2) rfl (by kernel_rfl) ?hw_ (fun _ _ _ h => h) (fun h_ => absurd h_ (by decide)) ?_; (case hw_ => simp [Region.wanted, yielded]; done); (try simp only [Act.put, List.setIfInBounds_toArray, List.set_cons_zero, List.set_cons_succ]))
  | (refine wpAnyT_free (i := 2) rfl (by kernel_rfl) (by simp [Region.wanted, yielded]) (fun _ _ _ h => h) (by kernel_rfl) (fun _ => by go_simp; try rfl) ?_; (try simp only [Act.put, List.setIfInBounds_toArray, List.set_cons_zero, List.set_cons_succ]))
  first
  | (refine wpAnyT_skip (i := 3) rfl (by kernel_rfl) ?hw_ (fun _ _ _ h => h) (fun _ => ⟨e2, e0, e1⟩) ?_; (case hw_ => simp [Region.wanted, yielded]; done); (try simp only [Act.put, List.setIfInBounds_toArray, List.set_cons_zero, List.set_cons_succ]))
  | (refine wpAnyT_read (i := 3) rfl (by kernel_rfl) (by simp [Region.wanted, yielded]) (fun _ _ _ h => h) (by kernel_rfl) (⟨e2, e0, e1⟩) (fun w hS_ => by obtain ⟨s_1, s_2, s_3⟩ := hS_; go_simp; try rfl) ?_; (try simp only [Act.put, List.setIfInBounds_toArray, List.set_cons_zero, List.set_cons_succ]))
  first
  | (refine wpAnyT_skip (i := 5) rfl (by kernel_rfl) ?hw_ (fun _ _ _ h => h) (fun _ => ⟨e2, e0, e1⟩) ?_; (case hw_ => simp [Region.wanted, yielded]; done); (try simp only [Act.put, List.setIfInBounds_toArray, List.set_cons_zero, List.set_cons_succ]))
  | (refine wpAnyT_read (i := 5) rfl (by kernel_rfl) (by simp [Region.wanted, yielded]) (fun _ _ _ h => h) (by kernel_rfl) (⟨e2, e0, e1⟩) (fun w hS_ => by obtain ⟨s_1, s_2, s_3⟩ := hS_; go_simp; try rfl) ?_; (try simp only [Act.put, List.setIfInBounds_toArray, List.set_cons_zero, List.set_cons_succ]))
  first
  | (refine wpAnyT_skip (i := 6) rfl (by kernel_rfl) ?hw_ (fun _ _ _ h => h) (fun h_ => absurd h_ (by decide)) ?_; (case hw_ => simp [Region.wanted, yielded]; done); (try simp only [Act.put, List.setIfInBounds_toArray, List.set_cons_zero, List.set_cons_succ]))
  | (refine wpAnyT_free (i := 6) rfl (by kernel_rfl) (by simp [Region.wanted, yielded]) (fun _ _ _ h => h) (by kernel_rfl) (fun _ => by go_simp; try rfl) ?_; (try simp only [Act.put, List.setIfInBounds_toArray, List.set_cons_zero, List.set_cons_succ]))
  first
  | (refine wpAnyT_skip (i := 4) rfl (by kernel_rfl) ?hw_ (fun _ _ _ h => h) (fun h_ => absurd h_ (by decide)) ?_; (case hw_ => simp [Region.wanted, yielded]; done); (try simp only [Act.put, List.setIfInBounds_toArray, List.set_cons_zero, List.set_cons_succ]))
  | (refine wpAnyT_one (i := 4) rfl (by kernel_rfl) (by simp [Region.wanted, yielded]) ?_
     intro K_ hK_
     go_wp2_with ((go_at_call 39; refine hB.mono ?_; rintro e W2 ⟨rfl, hb2⟩; have y1 := (hb2.cell (p := ⟨nb + 1, 0, none⟩) (cell_lt e1)).trans e1; have y2 := (hb2.cell (p := ⟨nb + 2, 0, none⟩) (cell_lt e2)).trans e2; have y2f := (hb2.frozen (p := ⟨nb + 2, 0, none⟩) (cell_lt e2)).trans e2f))
     refine hK_ _ _ ?_ ?_
     · exact fun _ _ => ⟨y2, (hb2.cell (p := ⟨nb, 0, none⟩) (cell_lt e0)).trans e0, y1⟩
     clear hK_ K_
     (try simp only [Act.put, List.setIfInBounds_toArray, List.set_cons_zero, List.set_cons_succ]))
  first
  | (refine wpAnyT_skip (i := 7) rfl (by kernel_rfl) ?hw_ (fun _ _ _ h => h) (fun h_ => absurd h_ (by decide)) ?_; (case hw_ => simp [Region.wanted, yielded]; done); (try simp only [Act.put, List.setIfInBounds_toArray, List.set_cons_zero, List.set_cons_succ]))
  | (refine wpAnyT_free (i := 7) rfl (by kernel_rfl) (by simp [Region.wanted, yielded]) (fun _ _ _ h => h) (by kernel_rfl) (fun _ => by go_simp; try rfl) ?_; (try simp only [Act.put, List.setIfInBounds_toArray, List.set_cons_zero, List.set_cons_succ]))
  first
  | (refine wpAnyT_skip (i := 8) rfl (by kernel_rfl) ?hw_ (fun _ _ _ h => h) (fun h_ => absurd h_ (by decide)) ?_; (case hw_ => simp [Region.wanted, yielded]; done); (try simp only [Act.put, List.setIfInBounds_toArray, List.set_cons_zero, List.set_cons_succ]))
  | (refine wpAnyT_free (i := 8) rfl (by kernel_rfl) (by simp [Region.wanted, yielded]) (fun _ _ _ h => h) (by kernel_rfl) (fun _ => by go_simp; try rfl) ?_; (try simp only [Act.put, List.setIfInBounds_toArray, List.set_cons_zero, List.set_cons_succ]))
  (refine wpAnyT_free (i := 9) rfl (by kernel_rfl) rfl (fun _ _ _ h => h) (by kernel_rfl) (fun _ => by go_simp; try rfl) ?_; (try simp only [Act.put, List.setIfInBounds_toArray, List.set_cons_zero, List.set_cons_succ]))
  refine wpAnyT_sink (i := 10) rfl (by kernel_rfl) rfl (by kernel_rfl) ?_
  intro K_ hK_
  go_wp2
  (try (refine hK_ _ _ ?_; clear hK_ K_))
  (try simp only [Act.put, List.setIfInBounds_toArray, List.set_cons_zero, List.set_cons_succ])
  refine wpAnyT_done (by kernel_rfl) ?_ _
  have hb2' : Below W.heap.size W W2 := ⟨hb2.os, hb2.tape, hb2.output, hb2.size, hb2.block⟩
  have b2 := hJ.b2.below' hb2'
  have hnb : ¬ IsB W (nb + 2) := hJ.b2.notB (by decide)
  have f3 : Fr (fun x => x = nb + 2) W (W2.setCell ⟨nb + 2, 0, none⟩ (.bool true)) := Fr.setCell (S := fun x => x = nb + 2) (Fr.of_below hb2') (p := ⟨nb + 2, 0, none⟩) (.inl rfl) hnb _
  have v0 := hJ.b0.fr f3 (by omega)
  have v1 := i1.fr f3 (by omega)
  have v2 : Blk (W2.setCell ⟨nb + 2, 0, none⟩ (.bool true)) (nb + 2) 4 #[.bool true] := b2.set 0 _
  have v3 := hJ.b3.fr f3 (by omega)
  have vrow := irow.fr f3 (fun x hx e => by omega)
  have vrec := irec.fr f3
  have ho3 := ho.fr f3
  have hf3 : Fr (fun x => nb ≤ x) w4 (W2.setCell ⟨nb + 2, 0, none⟩ (.bool true)) := hJ.fr.trans' f3 (fun x _ e => by omega)
  have hlt := hJ.lt
  generalize W2.setCell ⟨nb + 2, 0, none⟩ (.bool true) = W3 at *
  clear y1 y2 y2f e0 e1 e1f e2 e2f hb2 hb2' b2 hB irow irec i1 f3
  have e1 := v1.cell 0 (v := .slice R vals.length cr) rfl
  have e1f := v1.frozen 0
  have hlt3 : nb + 3 < W3.heap.size := v3.lt
  go_wp2_with (at_builtin; refine wpList_append_row rfl (.tmp 18) (.tmp 20) 45 rfl TBs ib _ 24 Tryd.underlying45 hib hzb hsb hbb rfl (.slice R vals.length cr) vals rfl (vrow.below (below_new _ _)) ⟨W3.heap.size, 0, none⟩ (.slice A' r.length c') rfl (heap_new_cell _ _ _) rfl HV4 HV5 (by decide) ?_; intro v5 w5 hrow5 hf5 hoth5; obtain ⟨A5, c5, rfl, hc5, hm5⟩ := hrow5.val; rw [List.length_append, List.length_singleton] at hrow5 hc5 ⊢; have hk5 : ∀ j, j ≤ nb + 3 → j < W3.heap.size → w5.heap[j]? = W3.heap[j]? := fun j hj hlt => (hoth5 j (Nat.lt_of_lt_of_le hlt (below_new W3 (.cells #[.slice A' r.length c'] TBs)).size) ((vrow.below (below_new W3 (.cells #[.slice A' r.length c'] TBs))).ownGt hj)).trans ((below_new W3 (.cells #[.slice A' r.length c'] TBs)).block j hlt); have u1 := v1.eq (hk5 _ (by omega) v1.lt); have u1c := u1.cell 0 (v := .slice R vals.length cr) rfl; have u1f := u1.frozen 0)
  go_ret
  have hbn := below_new W3 (.cells #[.slice A' r.length c'] TBs)
  have f6 : Fr (fun x => x = nb + 1) w5 (w5.setCell ⟨nb + 1, 0, none⟩ (.slice A5 (vals.length + 1) c5)) := Fr.setCell (S := fun x => x = nb + 1) (Fr.refl _ _) (p := ⟨nb + 1, 0, none⟩) (.inl rfl) (u1.notB (by decide)) _
  have hrow6 : Row (fun x => nb + 3 < x) w5 TBs (.slice A5 (vals.length + 1) c5) (vals ++ [.slice A' r.length c']) := hrow5.mono fun x _ hx => hx.elim id (fun hx => by have := Nat.le_trans hbn.size hx.1; show nb + 3 < x; omega)
  have g : ∀ {j : Nat} {ty : TypeId} {cs : Array Value}, Blk W3 j ty cs → j ≤ nb + 3 → j ≠ nb + 1 → Blk (w5.setCell ⟨nb + 1, 0, none⟩ (.slice A5 (vals.length + 1) c5)) j ty cs := fun hb hj hne => (hb.eq (hk5 _ hj hb.lt)).fr f6 hne
  have htk : L.recs.take (n + 1) = L.recs.take n ++ [r] := by rw [List.take_add_one, HR.out]; rfl
  refine ⟨rfl, ((hf3.trans' (Fr.of_below (S := Non) hbn) (fun _ _ h => h.elim)).trans' hf5 (fun x _ hx => by have hx : nb + 3 < x := hx; omega)).trans' f6 (fun x _ e => by omega), hlt, g v0 (by omega) (by omega), ⟨_, _, u1.set 0 _, hrow6.otherBlk u1 (by decide) f6, ?_⟩, g v2 (by omega) (by omega), g v3 (by omega) (by omega)⟩
  rw [htk]
  exact (((vrec.fr (Fr.of_below (S := Non) hbn)).fr hf5).snoc hc' hm' ((ho3.fr (Fr.of_below (S := Non) hbn)).fr hf5)).fr f6
end

/-- WHAT all leaves: the records, in a new row -/
def AllDid (W w : World) (b : Nat) (L : Lg) (X : Nat → Prop) (e : Ending) (w' : World) : Prop :=
  ∃ A c vals, e = .returned (.tuple #[.slice A L.recs.length c, .bool true]) ∧ Row (fun x => w.heap.size ≤ x) w' TBs (.slice A L.recs.length c) vals ∧ Recs w' vals L.recs ∧ LiveG W w' b L (Up X w w') ∧ Below w.heap.size w w'

theorem all_G {W w : World} {b : Nat} {L : Lg} {X : Nat → Prop} (h : LiveG W w b L X) {m : Nat} (hinv : L.inv m) (hm : m ≤ 1048576) :
    Calls Tryd.prog 40 #[.pointer (some ⟨b, 0, none⟩)] w (AllDid W w b L X) := by
  obtain ⟨S, ⟨hu, H, A, c, ps, hl⟩, hS, hb, -⟩ := id h
  have z0 : Blk ((((w.alloc (.cells #[.pointer (some ⟨b, 0, none⟩)] 52)).alloc (.cells #[.slice none 0 0] 45)).alloc (.cells #[.bool true] 4)).alloc (.cells #[.pointer (some ⟨b, 0, none⟩)] 52)) w.heap.size 52 #[.pointer (some ⟨b, 0, none⟩)] := (((Blk.new _ _ _).alloc _).alloc _).alloc _
  have z1 : Blk ((((w.alloc (.cells #[.pointer (some ⟨b, 0, none⟩)] 52)).alloc (.cells #[.slice none 0 0] 45)).alloc (.cells #[.bool true] 4)).alloc (.cells #[.pointer (some ⟨b, 0, none⟩)] 52)) (w.heap.size + 1) 45 #[.slice none 0 0] := ((Blk.new' _ _ _ (by simp)).alloc _).alloc _
  have z2 : Blk ((((w.alloc (.cells #[.pointer (some ⟨b, 0, none⟩)] 52)).alloc (.cells #[.slice none 0 0] 45)).alloc (.cells #[.bool true] 4)).alloc (.cells #[.pointer (some ⟨b, 0, none⟩)] 52)) (w.heap.size + 2) 4 #[.bool true] := (Blk.new' _ _ _ (by simp)).alloc _
  have z3 : Blk ((((w.alloc (.cells #[.pointer (some ⟨b, 0, none⟩)] 52)).alloc (.cells #[.slice none 0 0] 45)).alloc (.cells #[.bool true] 4)).alloc (.cells #[.pointer (some ⟨b, 0, none⟩)] 52)) (w.heap.size + 3) 52 #[.pointer (some ⟨b, 0, none⟩)] := Blk.new' _ _ _ (by simp)
  have hb4 : Below w.heap.size w ((((w.alloc (.cells #[.pointer (some ⟨b, 0, none⟩)] 52)).alloc (.cells #[.slice none 0 0] 45)).alloc (.cells #[.bool true] 4)).alloc (.cells #[.pointer (some ⟨b, 0, none⟩)] 52)) := ((((Below.refl _ w).alloc (Nat.le_refl _) _).alloc (by simp) _).alloc (by simp; omega) _).alloc (by simp; omega) _
  have hsz4 : w.heap.size + 4 ≤ ((((w.alloc (.cells #[.pointer (some ⟨b, 0, none⟩)] 52)).alloc (.cells #[.slice none 0 0] 45)).alloc (.cells #[.bool true] 4)).alloc (.cells #[.pointer (some ⟨b, 0, none⟩)] 52)).heap.size := by simp
  have hSn : ∀ x, S x → ¬ w.heap.size ≤ x := fun x hx => by have := hl.lt x hx; omega
  have eg := enters_of Tryd.func90 (by kernel_rfl) rfl
  have kf := fun (f : Fn) (a c : Array Value) (w : World) => run_eql_func_nil (P := Tryd.prog) (t := 48) Tryd.underlying48 f a c w
  go_enter Tryd.func40, Tryd.ntmps40
  go_wp2_with (go_at_call 89; refine (recs_B _ _).mono ?_; rintro e w' ⟨rfl, rfl⟩)
  generalize (((w.alloc (.cells #[.pointer (some ⟨b, 0, none⟩)] 52)).alloc (.cells #[.slice none 0 0] 45)).alloc (.cells #[.bool true] 4)).alloc (.cells #[.pointer (some ⟨b, 0, none⟩)] 52) = w4 at *
  have h4 := hl.below hb4
  have hJ0 : AllR w4 w.heap.size b L.recs 0 w4 := ⟨Fr.refl _ _, hsz4, z0, ⟨_, [], z1, Row.nil _ _ _, by rw [List.take_zero]; exact Recs.nil _⟩, z2, z3⟩
  have hlen : L.recs.take (if L.down then 0 else (numS L.segs).length) = L.recs := by
    cases hd : L.down
    · rw [L.recs_eq hd, length_numS]
      exact List.take_of_length_le (Nat.le_refl _)
    · have : L.recs = [] := by unfold Lg.recs; rw [hd]; rfl
      rw [this]
      rfl
  have hR : Calls Tryd.prog 118 #[.func (.func 90) #[] #[.pointer (some ⟨w.heap.size + 2, 0, none⟩), .pointer (some ⟨w.heap.size, 0, none⟩), .pointer (some ⟨w.heap.size + 1, 0, none⟩)], .pointer (some ⟨w.heap.size + 3, 0, none⟩)] w4 fun e W' => e = .returned (.tuple #[]) ∧ AllR w4 w.heap.size b L.recs (if L.down then 0 else (numS L.segs).length) W' :=
    records_calls (S' := fun x => w.heap.size ≤ x) h4 (w.heap.size + 3) 90 _ eg hSn (AllR w4 w.heap.size b L.recs) (fun n W hJ => ⟨hJ.fr, hJ.b3.cell 0 rfl⟩) (fun n W W' hJ hb => hJ.below hb) (fun hd n W num r A' c' hJ hn ho hc hm' => lit_all h4 hSn hinv hm hd hJ hn ho hc hm') hJ0
  refine hR.mono ?_
  rintro e W5 ⟨rfl, hJ5⟩
  obtain ⟨v, vals, i1, irow, irec⟩ := hJ5.b1
  rw [hlen] at irec
  obtain ⟨R, cr, rfl, -⟩ := irow.val
  have hvl : vals.length = L.recs.length := irec.1
  rw [hvl] at i1 irow
  have e1 := i1.cell 0 (v := .slice R L.recs.length cr) rfl
  have e2 := hJ5.b2.cell 0 (v := .bool true) rfl
  have hb5 : Below w.heap.size w W5 := hb4.trans ⟨hJ5.fr.os, hJ5.fr.tape, hJ5.fr.output, hJ5.fr.size, fun k hk => hJ5.fr.out k (Nat.lt_of_lt_of_le hk (by omega)) (fun hx => by have hx : w.heap.size ≤ k := hx; omega)⟩
  have hPost : AllDid W w b L X (.returned (.tuple #[.slice R L.recs.length cr, .bool true])) W5.drew := ⟨R, cr, vals, rfl, irow.mono (fun x _ hx => by have hx : w.heap.size + 3 < x := hx; omega), irec, h.mono hb5.drew, hb5.drew⟩
  clear hlen hR hJ0 hvl z0 z1 z2 z3
  go_wp2
  refine wp_region_T #[[], [], [0], [0, 1]] [0, 1] (fun w' => w'.cell? ⟨w.heap.size + 1, 0, none⟩ = some (.slice R L.recs.length cr) ∧ w'.cell? ⟨w.heap.size + 2, 0, none⟩ = some (.bool true)) 4 rfl (by kernel_rfl) ?_
  (refine wpAnyT_read (i := 0) rfl (by kernel_rfl) rfl (fun _ _ _ h => h) (by kernel_rfl) (⟨e1, e2⟩) (fun w hS_ => by obtain ⟨s_1, s_2⟩ := hS_; go_simp; try rfl) ?_; (try simp only [Act.put, List.setIfInBounds_toArray, List.set_cons_zero, List.set_cons_succ]))
  (refine wpAnyT_read (i := 1) rfl (by kernel_rfl) rfl (fun _ _ _ h => h) (by kernel_rfl) (⟨e1, e2⟩) (fun w hS_ => by obtain ⟨s_1, s_2⟩ := hS_; go_simp; try rfl) ?_; (try simp only [Act.put, List.setIfInBounds_toArray, List.set_cons_zero, List.set_cons_succ]))
  (refine wpAnyT_free (i := 2) rfl (by kernel_rfl) rfl (fun _ _ _ h => h) (by kernel_rfl) (fun _ => by go_simp; try rfl) ?_; (try simp only [Act.put, List.setIfInBounds_toArray, List.set_cons_zero, List.set_cons_succ]))
  (refine wpAnyT_free (i := 3) rfl (by kernel_rfl) rfl (fun _ _ _ h => h) (by kernel_rfl) (fun _ => by go_simp; try rfl) ?_; (try simp only [Act.put, List.setIfInBounds_toArray, List.set_cons_zero, List.set_cons_succ]))
  refine wpAnyT_done (by kernel_rfl) ?_ _
  go_wp2
  go_ret2
  exact hPost
end Go.Proofs.YtediidajdpdeiaaDoor
