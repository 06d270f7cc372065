/- The document's store (layer 8): the walks of its lists. -/
import Derived.Test.YtediidajdpdeiaaGreatDoorJ18
import Derived.Test.YtediidajdpdeiaaGreatDoorJ15
import Derived.Test.YtediidajdpdeiaaGreatDoorJ12
import Derived.Test.YtediidajdpdeiaaGreatDoorJ13
import Derived.Test.YtediidajdpdeiaaGreatDoorJ17
import Derived.Test.YtediidajdpdeiaaGreatDoorJ11

namespace Go.Proofs.YtediidajdpdeiaaGreatDoor
open Go.RowKit CrcM
set_option maxRecDepth 100000

/-- v is a list of what slots have, in a row of one's own -/
def OwnH (base : Nat) (w : World) (v : Value) (H : Slots) : Prop := ∃ xs, w.ownsRow base TH8 3 v H.length xs ∧ HeldRw w xs H
theorem OwnH.nil (base : Nat) (w : World) : OwnH base w (.slice none 0 0) [] := ⟨[], ⟨rfl, .inl ⟨rfl, rfl⟩⟩, HeldRw.nil w⟩
theorem OwnH.below {base : Nat} {w w' : World} {v : Value} {H : Slots} (h : OwnH base w v H) (hb : Below w.heap.size w w') : OwnH base w' v H := by
  obtain ⟨xs, h1, h2⟩ := h
  exact ⟨xs, ownsRow_below h1 hb, h2.bk (BK.below hb)⟩
theorem OwnH.val {base : Nat} {w : World} {v : Value} {H : Slots} (h : OwnH base w v H) : ∃ A c, v = .slice A H.length c ∧ H.length ≤ c ∧ c ≤ maxLen := by
  obtain ⟨xs, h1, -⟩ := h
  exact own_val h1
theorem OwnH.held {base : Nat} {w : World} {A : Option Addr} {c : Nat} {H : Slots} (h : OwnH base w (.slice A H.length c) H) : HeldS (fun x => base ≤ x) w A c H := by
  obtain ⟨xs, h1, h2⟩ := h
  obtain ⟨A', c', e, h3⟩ := HeldS.of_own h1 h2
  injection e with e1 e2 e3
  subst e1
  subst e3
  exact h3
/-- one more -/
theorem wpList_appH {w W0 : World} {ops : Array Oper} {rest : List Oper} {o : Oper} {a : Act} {Q : Exit → Act → World → Prop} (hgd : o.guard = none) (s x : Operand)
    (ho : o.op = .call { callee := .builtin .append, args := #[s, x], argTypes := #[42, 42] })
    (base : Nat) (A0 : Option Addr) (c0 : Nat) (H : Slots) (hs : a.eval s = .slice A0 H.length c0) (hown : OwnH base w (.slice A0 H.length c0) H) (hb : Below base W0 w) (hbase : base ≤ w.heap.size) (hlen : H.length + 1 ≤ 1048576)
    (k bl : Nat) (vl : List UInt8) (B : Option Addr) (cb : Nat) (hc : vl.length ≤ cb) (hm : cb ≤ maxLen) (hv : Own Any w B vl) (hx : a.eval x = .slice (some ⟨w.heap.size, 0, none⟩) 1 1)
    (h : ∀ A' c' w', OwnH base w' (.slice A' (H.length + 1) c') (H ++ [(k, ⟨bl, vl⟩)]) → Below base W0 w' → wpList Tryz.prog ops Q rest (a.put o.dst (.slice A' (H.length + 1) c')) w') :
    wpList Tryz.prog ops Q (o :: rest) a (w.alloc (.cells #[.int .i64 (k : Int), .int .i64 (bl : Int), .slice B vl.length cb] TH8)) := by
  obtain ⟨i3, hi3, hz3, hs3, hb3⟩ := info_parts info_h8
  obtain ⟨xs, hrow, hrw⟩ := hown
  have hbn := below_new w (.cells #[.int .i64 (k : Int), .int .i64 (bl : Int), .slice B vl.length cb] TH8)
  have hrow2 := ownsRow_below hrow hbn
  refine wpList_app3 hgd s x 42 ho TH8 i3 _ 40 Tryz.underlying42 hi3 hz3 hs3 hb3 rfl base (.slice A0 H.length c0) H.length xs hs hrow2 (some ⟨w.heap.size, 0, none⟩) 1 1 [.int .i64 (k : Int), .int .i64 (bl : Int), .slice B vl.length cb] hx rfl (three_new w _ _ _ _) (by intro u hu; simp only [List.mem_cons, List.not_mem_nil, or_false] at hu; rcases hu with rfl | rfl | rfl <;> rfl) (by unfold maxLen; omega) (by omega) (Nat.le_trans hbase hbn.size) ?_
  intro v5 w5 hrow5 hg5 ha5
  obtain ⟨A5, c5, rfl, hc5, hm5⟩ := own_val hrow5
  have hbk : BK w w5 := (BK.below hbn).trans (BK.grownI hg5 (row_notB hrow2 (by decide)))
  refine h A5 c5 w5 ⟨_, by rw [List.length_append]; exact hrow5, (hrw.bk hbk).snoc hc hm (hv.bk hbk)⟩ ((hb.alloc hbase (.cells #[.int .i64 (k : Int), .int .i64 (bl : Int), .slice B vl.length cb] TH8)).grown hg5 (Nat.le_trans hbase hbn.size) (fun j hj => (hrow2.lt j hj).1))

/-- WHAT leaves a list of what slots have -/
def HeldDid (w : World) (H : Slots) (e : Ending) (w' : World) : Prop := ∃ A c, e = .returned (.slice A H.length c) ∧ HeldS (New w) w' A c H ∧ Below w.heap.size w w'

set_option maxHeartbeats 1000000 in
theorem above_B {X : Nat → Prop} (w : World) (A : Option Addr) (c : Nat) (l : Slots) (h : HeldS X w A c l) (hl : l.length ≤ 1048575) (base : Nat) :
    Calls Tryz.prog 137 #[.slice A l.length c, .int .i64 (base : Int)] w (HeldDid w (l.filter (fun p => decide (base ≤ p.1)))) := by
  go_enter Tryz.func137, Tryz.ntmps137
  go_wp2
  go_loopw [5, 6] (fun v i wr => ∃ k : Nat, k ≤ l.length ∧ i = .int .i64 (k : Int) ∧ OwnH w.heap.size wr v ((l.take k).filter (fun p => decide (base ≤ p.1))) ∧ Below w.heap.size w wr) (fun _ i _ => l.length - (intOf i).toNat)
  case atStart => exact ⟨0, Nat.zero_le _, rfl, OwnH.nil _ _, Below.refl _ _⟩
  case round =>
    obtain ⟨k, hk, rfl, hO, hb9⟩ := hrel
    have hHl := h.len
    have hcap := h.1
    by_cases hlt : k < l.length
    · obtain ⟨p, hp⟩ : ∃ p, l[k]? = some p := ⟨_, List.getElem?_eq_getElem hlt⟩
      obtain ⟨g, o, B, cb, q1, -, x1, x2, x3, x4, x5, x6⟩ := (h.below hb9).at_ hp
      subst q1
      have hlt' : (k : Int) < (l.length : Int) := by omega
      have KL := Lib.hid hlt
      have HT := Lib.hid (show l.take (k + 1) = l.take k ++ [p] by rw [List.take_add_one, hp]; rfl)
      have hfl : ((l.take k).filter (fun p => decide (base ≤ p.1))).length ≤ k := Nat.le_trans (List.length_filter_le _ _) (by rw [List.length_take]; omega)
      obtain ⟨out, hout⟩ : ∃ out, out = (l.take k).filter (fun p => decide (base ≤ p.1)) := ⟨_, rfl⟩
      rw [← hout] at hO hfl
      have HO := Lib.hid hout
      obtain ⟨A0, c0, rfl, hc0, hm0⟩ := hO.val
      clear hp hlt h hout
      obtain ⟨sl, bl, vl⟩ := p
      simp only at x1 x2 x3 x4 x5 x6
      by_cases hs : base ≤ sl
      · have gs : decide (base ≤ sl) = true := decide_eq_true hs
        have HE := Lib.hid (show (l.take (k + 1)).filter (fun p => decide (base ≤ p.1)) = out ++ [(sl, ⟨bl, vl⟩)] by rw [HT.out, HO.out, List.filter_append]; congr 1; simp [hs])
        clear hs
        go_wp2_with (first
          | (at_builtin
             refine wpList_appH rfl (.tmp 20) (.tmp 25) rfl w.heap.size A0 c0 out rfl hO hb9 hb9.size (by omega) sl bl vl B cb x4 x5 x6 rfl ?_
             intro A5 c5 w5 hO5 hb5))
        go_roundw
        case rel => exact ⟨k + 1, by have := KL.out; omega, by go_num, by rw [HE.out]; exact hO5, hb5⟩
        case measure => have := KL.out; simp [intOf]; omega
      · have gs : decide (base ≤ sl) = false := decide_eq_false hs
        have HE := Lib.hid (show (l.take (k + 1)).filter (fun p => decide (base ≤ p.1)) = out by rw [HT.out, HO.out, List.filter_append]; simp [hs])
        clear hs
        go_wp2
        go_roundw
        case rel => exact ⟨k + 1, by have := KL.out; omega, by go_num, by rw [HE.out]; exact hO, hb9⟩
        case measure => have := KL.out; simp [intOf]; omega
    · obtain rfl : k = l.length := by omega
      rw [List.take_length] at hO
      obtain ⟨A0, c0, rfl, hc0, hm0⟩ := hO.val
      clear h
      go_wp2
      go_ret
      exact ⟨A0, c0, rfl, hO.held, hb9⟩

set_option maxHeartbeats 2000000 in
theorem putH_B {X : Nat → Prop} (w : World) (A : Option Addr) (c : Nat) (l : Slots) (h : HeldS X w A c l) (hl : l.length ≤ 1048570) (hr : Rise l) (k bl : Nat) (vl : List UInt8) (B : Option Addr) (cb : Nat) (hc : vl.length ≤ cb) (hm : cb ≤ maxLen) (hv : Own Any w B vl) :
    Calls Tryz.prog 120 #[.slice A l.length c, .agg #[.int .i64 (k : Int), .int .i64 (bl : Int), .slice B vl.length cb]] w (HeldDid w (putN k ⟨bl, vl⟩ l)) := by
  have hb0 := below_new w (.cells #[.int .i64 (k : Int), .int .i64 (bl : Int), .slice B vl.length cb] TH8)
  have z0 := Blk.new w TH8 #[.int .i64 (k : Int), .int .i64 (bl : Int), .slice B vl.length cb]
  go_enter Tryz.func120, Tryz.ntmps120
  go_wp2
  have hv1 := hv.bk (BK.below hb0)
  have h1 := h.below hb0
  have hsz : w.heap.size + 1 = (w.alloc (.cells #[.int .i64 (k : Int), .int .i64 (bl : Int), .slice B vl.length cb] TH8)).heap.size := by simp
  generalize (w.alloc (.cells #[.int .i64 (k : Int), .int .i64 (bl : Int), .slice B vl.length cb] TH8)) = w1 at *
  clear h hv
  go_loopw [5, 6, 7] (fun v d i wr => ∃ (j : Nat) (done : Bool) (out : Slots), j ≤ l.length ∧ i = .int .i64 (j : Int) ∧ d = .bool done ∧ Hid (Putting k ⟨bl, vl⟩ (l.take j) done out) ∧ OwnH w1.heap.size wr v out ∧ Below w1.heap.size w1 wr) (fun _ _ i _ => l.length - (intOf i).toNat)
  case atStart => exact ⟨0, false, [], Nat.zero_le _, rfl, rfl, Lib.hid (Putting.start _ _), OwnH.nil _ _, Below.refl _ _⟩
  case round =>
    obtain ⟨j, done, out, hj, rfl, rfl, hP, hO, hb9⟩ := hrel
    have hHl := h1.len
    have hcap := h1.1
    have z9 := z0.below' hb9
    have k0 := z9.cell 0 (v := .int .i64 (k : Int)) rfl
    have k1 := z9.cell 1 (v := .int .i64 (bl : Int)) rfl
    have k2 := z9.cell 2 (v := .slice B vl.length cb) rfl
    have hv9 := hv1.bk (BK.below hb9)
    have hol : out.length ≤ l.length + 1 := Nat.le_trans hP.out.len (by rw [List.length_take]; omega)
    obtain ⟨A0, c0, rfl, hc0, hm0⟩ := hO.val
    by_cases hlt : j < l.length
    · obtain ⟨p, hp⟩ : ∃ p, l[j]? = some p := ⟨_, List.getElem?_eq_getElem hlt⟩
      obtain ⟨g, o, B2, cb2, q1, -, x1, x2, x3, x4, x5, x6⟩ := (h1.below hb9).at_ hp
      subst q1
      have hlt' : (j : Int) < (l.length : Int) := by omega
      have KL := Lib.hid hlt
      have HT := Lib.hid (show l.take (j + 1) = l.take j ++ [p] by rw [List.take_add_one, hp]; rfl)
      have HRI : Hid (Rise (l.take j ++ [p])) := Lib.hid (by rw [← HT.out]; exact hr.take _)
      have HJ := Lib.hid hp
      have h1' := h1
      clear hp hlt h1
      obtain ⟨sl, b2, v2⟩ := p
      simp only at x1 x2 x3 x4 x5 x6
      cases done with
      | true =>
        obtain ⟨hgt, hP2⟩ := hP.out.more HRI.out
        have HP2 := Lib.hid hP2
        have g1 : ((sl : Int) == (k : Int)) = false := by rw [beq_eq_false_iff_ne]; simp only at hgt; omega
        have g2 : decide (sl = k) = false := decide_eq_false (by simp only at hgt; omega)
        have g3 : ¬ sl = k := by simp only at hgt; omega
        clear hP hP2 hgt
        go_wp2
        refine wp_region_T #[[], [], [], [], [], [], [], [], [], [], [7, 9], [7, 9]] [7, 9] (fun w' => w'.cell? ⟨g, o + j * 3, none⟩ = some (.int .i64 (sl : Int)) ∧ w'.cell? ⟨w.heap.size, 0, none⟩ = some (.int .i64 (k : Int))) 12 rfl (by kernel_rfl) ?_
        (refine wpF (i := 0) rfl (by kernel_rfl) rfl (fun _ _ _ h => h) (fun _ => by go_simp; try rfl) ?_; (try simp only [Act.put, sA, sB, sC]))
        (refine wpF (i := 1) rfl (by kernel_rfl) rfl (fun _ _ _ h => h) (fun _ => by go_simp; try rfl) ?_; (try simp only [Act.put, sA, sB, sC]))
        (refine wpF (i := 2) rfl (by kernel_rfl) rfl (fun _ _ _ h => h) (fun _ => by go_simp; try rfl) ?_; (try simp only [Act.put, sA, sB, sC]))
        first
        | (refine wpAnyT_skip (i := 3) rfl (by kernel_rfl) (by first | rfl | (simp [Region.wanted, yielded]; done) | (simp [Region.wanted, yielded, undef, *]; done) | fail) (fun _ _ _ h => h) (fun h_ => absurd h_ (by decide)) ?_; (try simp only [Act.put, sA, sB, sC]))
        | (refine wpF (i := 3) rfl (by kernel_rfl) (by first | rfl | (simp [Region.wanted, yielded]; done) | (simp [Region.wanted, yielded, undef, *]; done) | fail) (fun _ _ _ h => h) (fun _ => by go_simp; try rfl) ?_; (try simp only [Act.put, sA, sB, sC]))
        first
        | (refine wpAnyT_skip (i := 4) rfl (by kernel_rfl) (by first | rfl | (simp [Region.wanted, yielded]; done) | (simp [Region.wanted, yielded, undef, *]; done) | fail) (fun _ _ _ h => h) (fun h_ => absurd h_ (by decide)) ?_; (try simp only [Act.put, sA, sB, sC]))
        | (refine wpF (i := 4) rfl (by kernel_rfl) (by first | rfl | (simp [Region.wanted, yielded]; done) | (simp [Region.wanted, yielded, undef, *]; done) | fail) (fun _ _ _ h => h) (fun _ => by go_simp; try rfl) ?_; (try simp only [Act.put, sA, sB, sC]))
        first
        | (refine wpAnyT_skip (i := 5) rfl (by kernel_rfl) (by first | rfl | (simp [Region.wanted, yielded]; done) | (simp [Region.wanted, yielded, undef, *]; done) | fail) (fun _ _ _ h => h) (fun h_ => absurd h_ (by decide)) ?_; (try simp only [Act.put, sA, sB, sC]))
        | (refine wpF (i := 5) rfl (by kernel_rfl) (by first | rfl | (simp [Region.wanted, yielded]; done) | (simp [Region.wanted, yielded, undef, *]; done) | fail) (fun _ _ _ h => h) (fun _ => by go_simp; try rfl) ?_; (try simp only [Act.put, sA, sB, sC]))
        first
        | (refine wpAnyT_skip (i := 6) rfl (by kernel_rfl) (by first | rfl | (simp [Region.wanted, yielded]; done) | (simp [Region.wanted, yielded, undef, *]; done) | fail) (fun _ _ _ h => h) (fun h_ => absurd h_ (by decide)) ?_; (try simp only [Act.put, sA, sB, sC]))
        | (refine wpF (i := 6) rfl (by kernel_rfl) (by first | rfl | (simp [Region.wanted, yielded]; done) | (simp [Region.wanted, yielded, undef, *]; done) | fail) (fun _ _ _ h => h) (fun _ => by go_simp; try rfl) ?_; (try simp only [Act.put, sA, sB, sC]))
        first
        | (refine wpAnyT_skip (i := 7) rfl (by kernel_rfl) (by first | rfl | (simp [Region.wanted, yielded]; done) | (simp [Region.wanted, yielded, undef, *]; done) | fail) (fun _ _ _ h => h) (fun _ => ⟨x1, k0⟩) ?_; (try simp only [Act.put, sA, sB, sC]))
        | (refine wpAnyT_read (i := 7) rfl (by kernel_rfl) (by first | rfl | (simp [Region.wanted, yielded]; done) | (simp [Region.wanted, yielded, undef, *]; done) | fail) (fun _ _ _ h => h) (by kernel_rfl) (⟨x1, k0⟩) (fun w hS_ => by obtain ⟨s_1, s_2⟩ := hS_; go_simp; try rfl) ?_; (try simp only [Act.put, sA, sB, sC]))
        first
        | (refine wpAnyT_skip (i := 8) rfl (by kernel_rfl) (by first | rfl | (simp [Region.wanted, yielded]; done) | (simp [Region.wanted, yielded, undef, *]; done) | fail) (fun _ _ _ h => h) (fun h_ => absurd h_ (by decide)) ?_; (try simp only [Act.put, sA, sB, sC]))
        | (refine wpF (i := 8) rfl (by kernel_rfl) (by first | rfl | (simp [Region.wanted, yielded]; done) | (simp [Region.wanted, yielded, undef, *]; done) | fail) (fun _ _ _ h => h) (fun _ => by go_simp; try rfl) ?_; (try simp only [Act.put, sA, sB, sC]))
        first
        | (refine wpAnyT_skip (i := 9) rfl (by kernel_rfl) (by first | rfl | (simp [Region.wanted, yielded]; done) | (simp [Region.wanted, yielded, undef, *]; done) | fail) (fun _ _ _ h => h) (fun _ => ⟨x1, k0⟩) ?_; (try simp only [Act.put, sA, sB, sC]))
        | (refine wpAnyT_read (i := 9) rfl (by kernel_rfl) (by first | rfl | (simp [Region.wanted, yielded]; done) | (simp [Region.wanted, yielded, undef, *]; done) | fail) (fun _ _ _ h => h) (by kernel_rfl) (⟨x1, k0⟩) (fun w hS_ => by obtain ⟨s_1, s_2⟩ := hS_; go_simp; try rfl) ?_; (try simp only [Act.put, sA, sB, sC]))
        first
        | (refine wpAnyT_skip (i := 10) rfl (by kernel_rfl) (by first | rfl | (simp [Region.wanted, yielded]; done) | (simp [Region.wanted, yielded, undef, *]; done) | fail) (fun _ _ _ h => h) (fun h_ => absurd h_ (by decide)) ?_; (try simp only [Act.put, sA, sB, sC]))
        | (refine wpF (i := 10) rfl (by kernel_rfl) (by first | rfl | (simp [Region.wanted, yielded]; done) | (simp [Region.wanted, yielded, undef, *]; done) | fail) (fun _ _ _ h => h) (fun _ => by go_simp; try rfl) ?_; (try simp only [Act.put, sA, sB, sC]))
        (refine wpF (i := 11) rfl (by kernel_rfl) rfl (fun _ _ _ h => h) (fun _ => by go_simp; try rfl) ?_; (try simp only [Act.put, sA, sB, sC]))
        refine wpAnyT_done (by kernel_rfl) ?_ _
        go_wp2
        refine wp_region_T #[[], [], [], [], [], [], [], [4, 6]] [4, 6] (fun w' => w'.cell? ⟨g, o + j * 3, none⟩ = some (.int .i64 (sl : Int)) ∧ w'.cell? ⟨w.heap.size, 0, none⟩ = some (.int .i64 (k : Int))) 8 rfl (by kernel_rfl) ?_
        (refine wpF (i := 0) rfl (by kernel_rfl) rfl (fun _ _ _ h => h) (fun _ => by go_simp; try rfl) ?_; (try simp only [Act.put, sA, sB, sC]))
        (refine wpF (i := 1) rfl (by kernel_rfl) rfl (fun _ _ _ h => h) (fun _ => by go_simp; try rfl) ?_; (try simp only [Act.put, sA, sB, sC]))
        (refine wpF (i := 2) rfl (by kernel_rfl) rfl (fun _ _ _ h => h) (fun _ => by go_simp; try rfl) ?_; (try simp only [Act.put, sA, sB, sC]))
        (refine wpF (i := 3) rfl (by kernel_rfl) rfl (fun _ _ _ h => h) (fun _ => by go_simp; try rfl) ?_; (try simp only [Act.put, sA, sB, sC]))
        (refine wpAnyT_read (i := 4) rfl (by kernel_rfl) rfl (fun _ _ _ h => h) (by kernel_rfl) (⟨x1, k0⟩) (fun w hS_ => by obtain ⟨s_1, s_2⟩ := hS_; go_simp; try rfl) ?_; (try simp only [Act.put, sA, sB, sC]))
        (refine wpF (i := 5) rfl (by kernel_rfl) rfl (fun _ _ _ h => h) (fun _ => by go_simp; try rfl) ?_; (try simp only [Act.put, sA, sB, sC]))
        (refine wpAnyT_read (i := 6) rfl (by kernel_rfl) rfl (fun _ _ _ h => h) (by kernel_rfl) (⟨x1, k0⟩) (fun w hS_ => by obtain ⟨s_1, s_2⟩ := hS_; go_simp; try rfl) ?_; (try simp only [Act.put, sA, sB, sC]))
        (refine wpF (i := 7) rfl (by kernel_rfl) rfl (fun _ _ _ h => h) (fun _ => by go_simp; try rfl) ?_; (try simp only [Act.put, sA, sB, sC]))
        refine wpAnyT_done (by kernel_rfl) ?_ _
        go_wp2_with (first
          | (at_builtin
             refine wpList_appH rfl (.tmp 38) (.tmp 43) rfl w1.heap.size A0 c0 out rfl ((hO.below ((Below.refl _ wr).drew)).below ((Below.refl _ wr.drew).drew)) (hb9.drew.drew) hb9.size (by omega) sl b2 v2 B2 cb2 x4 x5 x6.drew.drew rfl ?_
             intro A5 c5 w5 hO5 hb5))
        go_roundw
        case rel => exact ⟨j + 1, true, _, by have := KL.out; omega, by go_num, rfl, by rw [HT.out]; exact HP2.out, hO5, hb5⟩
        case measure => have := KL.out; simp [intOf]; omega
      | false =>
        rcases Nat.lt_trichotomy sl k with hlt | hlt | hlt
        · have HP2 := Lib.hid (hP.out.below (y := (sl, ⟨b2, v2⟩)) hlt)
          have g1 : ((sl : Int) == (k : Int)) = false := by rw [beq_eq_false_iff_ne]; omega
          have g2 : decide (sl = k) = false := decide_eq_false (by omega)
          have g4 : decide (k ≤ sl) = false := decide_eq_false (by omega)
          have g3 : ¬ sl = k := by omega
          clear hP hlt
          go_wp2
          refine wp_region_T #[[], [], [], [], [], [], [], [], [], [], [7, 9], [7, 9]] [7, 9] (fun w' => w'.cell? ⟨g, o + j * 3, none⟩ = some (.int .i64 (sl : Int)) ∧ w'.cell? ⟨w.heap.size, 0, none⟩ = some (.int .i64 (k : Int))) 12 rfl (by kernel_rfl) ?_
          (refine wpF (i := 0) rfl (by kernel_rfl) rfl (fun _ _ _ h => h) (fun _ => by go_simp; try rfl) ?_; (try simp only [Act.put, sA, sB, sC]))
          (refine wpF (i := 1) rfl (by kernel_rfl) rfl (fun _ _ _ h => h) (fun _ => by go_simp; try rfl) ?_; (try simp only [Act.put, sA, sB, sC]))
          (refine wpF (i := 2) rfl (by kernel_rfl) rfl (fun _ _ _ h => h) (fun _ => by go_simp; try rfl) ?_; (try simp only [Act.put, sA, sB, sC]))
          first
          | (refine wpAnyT_skip (i := 3) rfl (by kernel_rfl) (by first | rfl | (simp [Region.wanted, yielded]; done) | (simp [Region.wanted, yielded, undef, *]; done) | fail) (fun _ _ _ h => h) (fun h_ => absurd h_ (by decide)) ?_; (try simp only [Act.put, sA, sB, sC]))
          | (refine wpF (i := 3) rfl (by kernel_rfl) (by first | rfl | (simp [Region.wanted, yielded]; done) | (simp [Region.wanted, yielded, undef, *]; done) | fail) (fun _ _ _ h => h) (fun _ => by go_simp; try rfl) ?_; (try simp only [Act.put, sA, sB, sC]))
          first
          | (refine wpAnyT_skip (i := 4) rfl (by kernel_rfl) (by first | rfl | (simp [Region.wanted, yielded]; done) | (simp [Region.wanted, yielded, undef, *]; done) | fail) (fun _ _ _ h => h) (fun h_ => absurd h_ (by decide)) ?_; (try simp only [Act.put, sA, sB, sC]))
          | (refine wpF (i := 4) rfl (by kernel_rfl) (by first | rfl | (simp [Region.wanted, yielded]; done) | (simp [Region.wanted, yielded, undef, *]; done) | fail) (fun _ _ _ h => h) (fun _ => by go_simp; try rfl) ?_; (try simp only [Act.put, sA, sB, sC]))
          first
          | (refine wpAnyT_skip (i := 5) rfl (by kernel_rfl) (by first | rfl | (simp [Region.wanted, yielded]; done) | (simp [Region.wanted, yielded, undef, *]; done) | fail) (fun _ _ _ h => h) (fun h_ => absurd h_ (by decide)) ?_; (try simp only [Act.put, sA, sB, sC]))
          | (refine wpF (i := 5) rfl (by kernel_rfl) (by first | rfl | (simp [Region.wanted, yielded]; done) | (simp [Region.wanted, yielded, undef, *]; done) | fail) (fun _ _ _ h => h) (fun _ => by go_simp; try rfl) ?_; (try simp only [Act.put, sA, sB, sC]))
          first
          | (refine wpAnyT_skip (i := 6) rfl (by kernel_rfl) (by first | rfl | (simp [Region.wanted, yielded]; done) | (simp [Region.wanted, yielded, undef, *]; done) | fail) (fun _ _ _ h => h) (fun h_ => absurd h_ (by decide)) ?_; (try simp only [Act.put, sA, sB, sC]))
          | (refine wpF (i := 6) rfl (by kernel_rfl) (by first | rfl | (simp [Region.wanted, yielded]; done) | (simp [Region.wanted, yielded, undef, *]; done) | fail) (fun _ _ _ h => h) (fun _ => by go_simp; try rfl) ?_; (try simp only [Act.put, sA, sB, sC]))
          first
          | (refine wpAnyT_skip (i := 7) rfl (by kernel_rfl) (by first | rfl | (simp [Region.wanted, yielded]; done) | (simp [Region.wanted, yielded, undef, *]; done) | fail) (fun _ _ _ h => h) (fun _ => ⟨x1, k0⟩) ?_; (try simp only [Act.put, sA, sB, sC]))
          | (refine wpAnyT_read (i := 7) rfl (by kernel_rfl) (by first | rfl | (simp [Region.wanted, yielded]; done) | (simp [Region.wanted, yielded, undef, *]; done) | fail) (fun _ _ _ h => h) (by kernel_rfl) (⟨x1, k0⟩) (fun w hS_ => by obtain ⟨s_1, s_2⟩ := hS_; go_simp; try rfl) ?_; (try simp only [Act.put, sA, sB, sC]))
          first
          | (refine wpAnyT_skip (i := 8) rfl (by kernel_rfl) (by first | rfl | (simp [Region.wanted, yielded]; done) | (simp [Region.wanted, yielded, undef, *]; done) | fail) (fun _ _ _ h => h) (fun h_ => absurd h_ (by decide)) ?_; (try simp only [Act.put, sA, sB, sC]))
          | (refine wpF (i := 8) rfl (by kernel_rfl) (by first | rfl | (simp [Region.wanted, yielded]; done) | (simp [Region.wanted, yielded, undef, *]; done) | fail) (fun _ _ _ h => h) (fun _ => by go_simp; try rfl) ?_; (try simp only [Act.put, sA, sB, sC]))
          first
          | (refine wpAnyT_skip (i := 9) rfl (by kernel_rfl) (by first | rfl | (simp [Region.wanted, yielded]; done) | (simp [Region.wanted, yielded, undef, *]; done) | fail) (fun _ _ _ h => h) (fun _ => ⟨x1, k0⟩) ?_; (try simp only [Act.put, sA, sB, sC]))
          | (refine wpAnyT_read (i := 9) rfl (by kernel_rfl) (by first | rfl | (simp [Region.wanted, yielded]; done) | (simp [Region.wanted, yielded, undef, *]; done) | fail) (fun _ _ _ h => h) (by kernel_rfl) (⟨x1, k0⟩) (fun w hS_ => by obtain ⟨s_1, s_2⟩ := hS_; go_simp; try rfl) ?_; (try simp only [Act.put, sA, sB, sC]))
          first
          | (refine wpAnyT_skip (i := 10) rfl (by kernel_rfl) (by first | rfl | (simp [Region.wanted, yielded]; done) | (simp [Region.wanted, yielded, undef, *]; done) | fail) (fun _ _ _ h => h) (fun h_ => absurd h_ (by decide)) ?_; (try simp only [Act.put, sA, sB, sC]))
          | (refine wpF (i := 10) rfl (by kernel_rfl) (by first | rfl | (simp [Region.wanted, yielded]; done) | (simp [Region.wanted, yielded, undef, *]; done) | fail) (fun _ _ _ h => h) (fun _ => by go_simp; try rfl) ?_; (try simp only [Act.put, sA, sB, sC]))
          (refine wpF (i := 11) rfl (by kernel_rfl) rfl (fun _ _ _ h => h) (fun _ => by go_simp; try rfl) ?_; (try simp only [Act.put, sA, sB, sC]))
          refine wpAnyT_done (by kernel_rfl) ?_ _
          go_wp2
          refine wp_region_T #[[], [], [], [], [], [], [], [4, 6]] [4, 6] (fun w' => w'.cell? ⟨g, o + j * 3, none⟩ = some (.int .i64 (sl : Int)) ∧ w'.cell? ⟨w.heap.size, 0, none⟩ = some (.int .i64 (k : Int))) 8 rfl (by kernel_rfl) ?_
          (refine wpF (i := 0) rfl (by kernel_rfl) rfl (fun _ _ _ h => h) (fun _ => by go_simp; try rfl) ?_; (try simp only [Act.put, sA, sB, sC]))
          (refine wpF (i := 1) rfl (by kernel_rfl) rfl (fun _ _ _ h => h) (fun _ => by go_simp; try rfl) ?_; (try simp only [Act.put, sA, sB, sC]))
          (refine wpF (i := 2) rfl (by kernel_rfl) rfl (fun _ _ _ h => h) (fun _ => by go_simp; try rfl) ?_; (try simp only [Act.put, sA, sB, sC]))
          (refine wpF (i := 3) rfl (by kernel_rfl) rfl (fun _ _ _ h => h) (fun _ => by go_simp; try rfl) ?_; (try simp only [Act.put, sA, sB, sC]))
          (refine wpAnyT_read (i := 4) rfl (by kernel_rfl) rfl (fun _ _ _ h => h) (by kernel_rfl) (⟨x1, k0⟩) (fun w hS_ => by obtain ⟨s_1, s_2⟩ := hS_; go_simp; try rfl) ?_; (try simp only [Act.put, sA, sB, sC]))
          (refine wpF (i := 5) rfl (by kernel_rfl) rfl (fun _ _ _ h => h) (fun _ => by go_simp; try rfl) ?_; (try simp only [Act.put, sA, sB, sC]))
          (refine wpAnyT_read (i := 6) rfl (by kernel_rfl) rfl (fun _ _ _ h => h) (by kernel_rfl) (⟨x1, k0⟩) (fun w hS_ => by obtain ⟨s_1, s_2⟩ := hS_; go_simp; try rfl) ?_; (try simp only [Act.put, sA, sB, sC]))
          (refine wpF (i := 7) rfl (by kernel_rfl) rfl (fun _ _ _ h => h) (fun _ => by go_simp; try rfl) ?_; (try simp only [Act.put, sA, sB, sC]))
          refine wpAnyT_done (by kernel_rfl) ?_ _
          go_wp2_with (first
            | (at_builtin
               refine wpList_appH rfl (.tmp 38) (.tmp 43) rfl w1.heap.size A0 c0 out rfl ((hO.below ((Below.refl _ wr).drew)).below ((Below.refl _ wr.drew).drew)) (hb9.drew.drew) hb9.size (by omega) sl b2 v2 B2 cb2 x4 x5 x6.drew.drew rfl ?_
               intro A5 c5 w5 hO5 hb5))
          go_roundw
          case rel => exact ⟨j + 1, false, _, by have := KL.out; omega, by go_num, rfl, by rw [HT.out]; exact HP2.out, hO5, hb5⟩
          case measure => have := KL.out; simp [intOf]; omega
        · subst hlt
          have HP2 := Lib.hid (hP.out.same (y := (sl, ⟨b2, v2⟩)) rfl)
          clear hP
          go_wp2
          refine wp_region_T #[[], [], [], [], [], [], [], [], [], [], [7, 9], [7, 9]] [7, 9] (fun w' => w'.cell? ⟨g, o + j * 3, none⟩ = some (.int .i64 (sl : Int)) ∧ w'.cell? ⟨w.heap.size, 0, none⟩ = some (.int .i64 (sl : Int))) 12 rfl (by kernel_rfl) ?_
          (refine wpF (i := 0) rfl (by kernel_rfl) rfl (fun _ _ _ h => h) (fun _ => by go_simp; try rfl) ?_; (try simp only [Act.put, sA, sB, sC]))
          (refine wpF (i := 1) rfl (by kernel_rfl) rfl (fun _ _ _ h => h) (fun _ => by go_simp; try rfl) ?_; (try simp only [Act.put, sA, sB, sC]))
          (refine wpF (i := 2) rfl (by kernel_rfl) rfl (fun _ _ _ h => h) (fun _ => by go_simp; try rfl) ?_; (try simp only [Act.put, sA, sB, sC]))
          first
          | (refine wpAnyT_skip (i := 3) rfl (by kernel_rfl) (by first | rfl | (simp [Region.wanted, yielded]; done) | (simp [Region.wanted, yielded, undef, *]; done) | fail) (fun _ _ _ h => h) (fun h_ => absurd h_ (by decide)) ?_; (try simp only [Act.put, sA, sB, sC]))
          | (refine wpF (i := 3) rfl (by kernel_rfl) (by first | rfl | (simp [Region.wanted, yielded]; done) | (simp [Region.wanted, yielded, undef, *]; done) | fail) (fun _ _ _ h => h) (fun _ => by go_simp; try rfl) ?_; (try simp only [Act.put, sA, sB, sC]))
          first
          | (refine wpAnyT_skip (i := 4) rfl (by kernel_rfl) (by first | rfl | (simp [Region.wanted, yielded]; done) | (simp [Region.wanted, yielded, undef, *]; done) | fail) (fun _ _ _ h => h) (fun h_ => absurd h_ (by decide)) ?_; (try simp only [Act.put, sA, sB, sC]))
          | (refine wpF (i := 4) rfl (by kernel_rfl) (by first | rfl | (simp [Region.wanted, yielded]; done) | (simp [Region.wanted, yielded, undef, *]; done) | fail) (fun _ _ _ h => h) (fun _ => by go_simp; try rfl) ?_; (try simp only [Act.put, sA, sB, sC]))
          first
          | (refine wpAnyT_skip (i := 5) rfl (by kernel_rfl) (by first | rfl | (simp [Region.wanted, yielded]; done) | (simp [Region.wanted, yielded, undef, *]; done) | fail) (fun _ _ _ h => h) (fun h_ => absurd h_ (by decide)) ?_; (try simp only [Act.put, sA, sB, sC]))
          | (refine wpF (i := 5) rfl (by kernel_rfl) (by first | rfl | (simp [Region.wanted, yielded]; done) | (simp [Region.wanted, yielded, undef, *]; done) | fail) (fun _ _ _ h => h) (fun _ => by go_simp; try rfl) ?_; (try simp only [Act.put, sA, sB, sC]))
          first
          | (refine wpAnyT_skip (i := 6) rfl (by kernel_rfl) (by first | rfl | (simp [Region.wanted, yielded]; done) | (simp [Region.wanted, yielded, undef, *]; done) | fail) (fun _ _ _ h => h) (fun h_ => absurd h_ (by decide)) ?_; (try simp only [Act.put, sA, sB, sC]))
          | (refine wpF (i := 6) rfl (by kernel_rfl) (by first | rfl | (simp [Region.wanted, yielded]; done) | (simp [Region.wanted, yielded, undef, *]; done) | fail) (fun _ _ _ h => h) (fun _ => by go_simp; try rfl) ?_; (try simp only [Act.put, sA, sB, sC]))
          first
          | (refine wpAnyT_skip (i := 7) rfl (by kernel_rfl) (by first | rfl | (simp [Region.wanted, yielded]; done) | (simp [Region.wanted, yielded, undef, *]; done) | fail) (fun _ _ _ h => h) (fun _ => ⟨x1, k0⟩) ?_; (try simp only [Act.put, sA, sB, sC]))
          | (refine wpAnyT_read (i := 7) rfl (by kernel_rfl) (by first | rfl | (simp [Region.wanted, yielded]; done) | (simp [Region.wanted, yielded, undef, *]; done) | fail) (fun _ _ _ h => h) (by kernel_rfl) (⟨x1, k0⟩) (fun w hS_ => by obtain ⟨s_1, s_2⟩ := hS_; go_simp; try rfl) ?_; (try simp only [Act.put, sA, sB, sC]))
          first
          | (refine wpAnyT_skip (i := 8) rfl (by kernel_rfl) (by first | rfl | (simp [Region.wanted, yielded]; done) | (simp [Region.wanted, yielded, undef, *]; done) | fail) (fun _ _ _ h => h) (fun h_ => absurd h_ (by decide)) ?_; (try simp only [Act.put, sA, sB, sC]))
          | (refine wpF (i := 8) rfl (by kernel_rfl) (by first | rfl | (simp [Region.wanted, yielded]; done) | (simp [Region.wanted, yielded, undef, *]; done) | fail) (fun _ _ _ h => h) (fun _ => by go_simp; try rfl) ?_; (try simp only [Act.put, sA, sB, sC]))
          first
          | (refine wpAnyT_skip (i := 9) rfl (by kernel_rfl) (by first | rfl | (simp [Region.wanted, yielded]; done) | (simp [Region.wanted, yielded, undef, *]; done) | fail) (fun _ _ _ h => h) (fun _ => ⟨x1, k0⟩) ?_; (try simp only [Act.put, sA, sB, sC]))
          | (refine wpAnyT_read (i := 9) rfl (by kernel_rfl) (by first | rfl | (simp [Region.wanted, yielded]; done) | (simp [Region.wanted, yielded, undef, *]; done) | fail) (fun _ _ _ h => h) (by kernel_rfl) (⟨x1, k0⟩) (fun w hS_ => by obtain ⟨s_1, s_2⟩ := hS_; go_simp; try rfl) ?_; (try simp only [Act.put, sA, sB, sC]))
          first
          | (refine wpAnyT_skip (i := 10) rfl (by kernel_rfl) (by first | rfl | (simp [Region.wanted, yielded]; done) | (simp [Region.wanted, yielded, undef, *]; done) | fail) (fun _ _ _ h => h) (fun h_ => absurd h_ (by decide)) ?_; (try simp only [Act.put, sA, sB, sC]))
          | (refine wpF (i := 10) rfl (by kernel_rfl) (by first | rfl | (simp [Region.wanted, yielded]; done) | (simp [Region.wanted, yielded, undef, *]; done) | fail) (fun _ _ _ h => h) (fun _ => by go_simp; try rfl) ?_; (try simp only [Act.put, sA, sB, sC]))
          (refine wpF (i := 11) rfl (by kernel_rfl) rfl (fun _ _ _ h => h) (fun _ => by go_simp; try rfl) ?_; (try simp only [Act.put, sA, sB, sC]))
          refine wpAnyT_done (by kernel_rfl) ?_ _
          go_wp2_with (first
            | (at_builtin
               refine wpList_appH rfl (.tmp 26) (.tmp 28) rfl w1.heap.size A0 c0 out rfl (hO.below ((Below.refl _ wr).drew)) (hb9.drew) hb9.size (by omega) sl bl vl B cb hc hm hv9.drew rfl ?_
               intro A5 c5 w5 hO5 hb5
               have m0 := (hb5.cell (p := ⟨w.heap.size, 0, none⟩) z0.lt).trans (z0.cell 0 (v := .int .i64 (sl : Int)) rfl)
               have m1 := ((h1'.below hb5).at_ HJ.out)))
          obtain ⟨g', o', B2', cb2', q1', -, y1, -⟩ := m1
          injection q1' with q1'
          injection q1' with q1' q2' q3'
          subst q1'
          subst q2'
          refine wp_region_T #[[], [], [], [], [], [], [], [4, 6]] [4, 6] (fun w' => w'.cell? ⟨g, o + j * 3, none⟩ = some (.int .i64 (sl : Int)) ∧ w'.cell? ⟨w.heap.size, 0, none⟩ = some (.int .i64 (sl : Int))) 8 rfl (by kernel_rfl) ?_
          (refine wpF (i := 0) rfl (by kernel_rfl) rfl (fun _ _ _ h => h) (fun _ => by go_simp; try rfl) ?_; (try simp only [Act.put, sA, sB, sC]))
          (refine wpF (i := 1) rfl (by kernel_rfl) rfl (fun _ _ _ h => h) (fun _ => by go_simp; try rfl) ?_; (try simp only [Act.put, sA, sB, sC]))
          (refine wpF (i := 2) rfl (by kernel_rfl) rfl (fun _ _ _ h => h) (fun _ => by go_simp; try rfl) ?_; (try simp only [Act.put, sA, sB, sC]))
          (refine wpF (i := 3) rfl (by kernel_rfl) rfl (fun _ _ _ h => h) (fun _ => by go_simp; try rfl) ?_; (try simp only [Act.put, sA, sB, sC]))
          (refine wpAnyT_read (i := 4) rfl (by kernel_rfl) rfl (fun _ _ _ h => h) (by kernel_rfl) (⟨y1, m0⟩) (fun w hS_ => by obtain ⟨s_1, s_2⟩ := hS_; go_simp; try rfl) ?_; (try simp only [Act.put, sA, sB, sC]))
          (refine wpF (i := 5) rfl (by kernel_rfl) rfl (fun _ _ _ h => h) (fun _ => by go_simp; try rfl) ?_; (try simp only [Act.put, sA, sB, sC]))
          (refine wpAnyT_read (i := 6) rfl (by kernel_rfl) rfl (fun _ _ _ h => h) (by kernel_rfl) (⟨y1, m0⟩) (fun w hS_ => by obtain ⟨s_1, s_2⟩ := hS_; go_simp; try rfl) ?_; (try simp only [Act.put, sA, sB, sC]))
          (refine wpF (i := 7) rfl (by kernel_rfl) rfl (fun _ _ _ h => h) (fun _ => by go_simp; try rfl) ?_; (try simp only [Act.put, sA, sB, sC]))
          refine wpAnyT_done (by kernel_rfl) ?_ _
          go_wp2
          go_roundw
          case rel => exact ⟨j + 1, true, _, by have := KL.out; omega, by go_num, rfl, by rw [HT.out]; exact HP2.out, hO5.below ((Below.refl _ w5).drew), hb5.drew⟩
          case measure => have := KL.out; simp [intOf]; omega
        · have HP2 := Lib.hid (hP.out.above (y := (sl, ⟨b2, v2⟩)) hlt)
          have g1 : ((sl : Int) == (k : Int)) = false := by rw [beq_eq_false_iff_ne]; omega
          have g2 : decide (sl = k) = false := decide_eq_false (by omega)
          have g4 : decide (k ≤ sl) = true := decide_eq_true (by omega)
          have g3 : ¬ sl = k := by omega
          clear hP hlt
          go_wp2
          refine wp_region_T #[[], [], [], [], [], [], [], [], [], [], [7, 9], [7, 9]] [7, 9] (fun w' => w'.cell? ⟨g, o + j * 3, none⟩ = some (.int .i64 (sl : Int)) ∧ w'.cell? ⟨w.heap.size, 0, none⟩ = some (.int .i64 (k : Int))) 12 rfl (by kernel_rfl) ?_
          (refine wpF (i := 0) rfl (by kernel_rfl) rfl (fun _ _ _ h => h) (fun _ => by go_simp; try rfl) ?_; (try simp only [Act.put, sA, sB, sC]))
          (refine wpF (i := 1) rfl (by kernel_rfl) rfl (fun _ _ _ h => h) (fun _ => by go_simp; try rfl) ?_; (try simp only [Act.put, sA, sB, sC]))
          (refine wpF (i := 2) rfl (by kernel_rfl) rfl (fun _ _ _ h => h) (fun _ => by go_simp; try rfl) ?_; (try simp only [Act.put, sA, sB, sC]))
          first
          | (refine wpAnyT_skip (i := 3) rfl (by kernel_rfl) (by first | rfl | (simp [Region.wanted, yielded]; done) | (simp [Region.wanted, yielded, undef, *]; done) | fail) (fun _ _ _ h => h) (fun h_ => absurd h_ (by decide)) ?_; (try simp only [Act.put, sA, sB, sC]))
          | (refine wpF (i := 3) rfl (by kernel_rfl) (by first | rfl | (simp [Region.wanted, yielded]; done) | (simp [Region.wanted, yielded, undef, *]; done) | fail) (fun _ _ _ h => h) (fun _ => by go_simp; try rfl) ?_; (try simp only [Act.put, sA, sB, sC]))
          first
          | (refine wpAnyT_skip (i := 4) rfl (by kernel_rfl) (by first | rfl | (simp [Region.wanted, yielded]; done) | (simp [Region.wanted, yielded, undef, *]; done) | fail) (fun _ _ _ h => h) (fun h_ => absurd h_ (by decide)) ?_; (try simp only [Act.put, sA, sB, sC]))
          | (refine wpF (i := 4) rfl (by kernel_rfl) (by first | rfl | (simp [Region.wanted, yielded]; done) | (simp [Region.wanted, yielded, undef, *]; done) | fail) (fun _ _ _ h => h) (fun _ => by go_simp; try rfl) ?_; (try simp only [Act.put, sA, sB, sC]))
          first
          | (refine wpAnyT_skip (i := 5) rfl (by kernel_rfl) (by first | rfl | (simp [Region.wanted, yielded]; done) | (simp [Region.wanted, yielded, undef, *]; done) | fail) (fun _ _ _ h => h) (fun h_ => absurd h_ (by decide)) ?_; (try simp only [Act.put, sA, sB, sC]))
          | (refine wpF (i := 5) rfl (by kernel_rfl) (by first | rfl | (simp [Region.wanted, yielded]; done) | (simp [Region.wanted, yielded, undef, *]; done) | fail) (fun _ _ _ h => h) (fun _ => by go_simp; try rfl) ?_; (try simp only [Act.put, sA, sB, sC]))
          first
          | (refine wpAnyT_skip (i := 6) rfl (by kernel_rfl) (by first | rfl | (simp [Region.wanted, yielded]; done) | (simp [Region.wanted, yielded, undef, *]; done) | fail) (fun _ _ _ h => h) (fun h_ => absurd h_ (by decide)) ?_; (try simp only [Act.put, sA, sB, sC]))
          | (refine wpF (i := 6) rfl (by kernel_rfl) (by first | rfl | (simp [Region.wanted, yielded]; done) | (simp [Region.wanted, yielded, undef, *]; done) | fail) (fun _ _ _ h => h) (fun _ => by go_simp; try rfl) ?_; (try simp only [Act.put, sA, sB, sC]))
          first
          | (refine wpAnyT_skip (i := 7) rfl (by kernel_rfl) (by first | rfl | (simp [Region.wanted, yielded]; done) | (simp [Region.wanted, yielded, undef, *]; done) | fail) (fun _ _ _ h => h) (fun _ => ⟨x1, k0⟩) ?_; (try simp only [Act.put, sA, sB, sC]))
          | (refine wpAnyT_read (i := 7) rfl (by kernel_rfl) (by first | rfl | (simp [Region.wanted, yielded]; done) | (simp [Region.wanted, yielded, undef, *]; done) | fail) (fun _ _ _ h => h) (by kernel_rfl) (⟨x1, k0⟩) (fun w hS_ => by obtain ⟨s_1, s_2⟩ := hS_; go_simp; try rfl) ?_; (try simp only [Act.put, sA, sB, sC]))
          first
          | (refine wpAnyT_skip (i := 8) rfl (by kernel_rfl) (by first | rfl | (simp [Region.wanted, yielded]; done) | (simp [Region.wanted, yielded, undef, *]; done) | fail) (fun _ _ _ h => h) (fun h_ => absurd h_ (by decide)) ?_; (try simp only [Act.put, sA, sB, sC]))
          | (refine wpF (i := 8) rfl (by kernel_rfl) (by first | rfl | (simp [Region.wanted, yielded]; done) | (simp [Region.wanted, yielded, undef, *]; done) | fail) (fun _ _ _ h => h) (fun _ => by go_simp; try rfl) ?_; (try simp only [Act.put, sA, sB, sC]))
          first
          | (refine wpAnyT_skip (i := 9) rfl (by kernel_rfl) (by first | rfl | (simp [Region.wanted, yielded]; done) | (simp [Region.wanted, yielded, undef, *]; done) | fail) (fun _ _ _ h => h) (fun _ => ⟨x1, k0⟩) ?_; (try simp only [Act.put, sA, sB, sC]))
          | (refine wpAnyT_read (i := 9) rfl (by kernel_rfl) (by first | rfl | (simp [Region.wanted, yielded]; done) | (simp [Region.wanted, yielded, undef, *]; done) | fail) (fun _ _ _ h => h) (by kernel_rfl) (⟨x1, k0⟩) (fun w hS_ => by obtain ⟨s_1, s_2⟩ := hS_; go_simp; try rfl) ?_; (try simp only [Act.put, sA, sB, sC]))
          first
          | (refine wpAnyT_skip (i := 10) rfl (by kernel_rfl) (by first | rfl | (simp [Region.wanted, yielded]; done) | (simp [Region.wanted, yielded, undef, *]; done) | fail) (fun _ _ _ h => h) (fun h_ => absurd h_ (by decide)) ?_; (try simp only [Act.put, sA, sB, sC]))
          | (refine wpF (i := 10) rfl (by kernel_rfl) (by first | rfl | (simp [Region.wanted, yielded]; done) | (simp [Region.wanted, yielded, undef, *]; done) | fail) (fun _ _ _ h => h) (fun _ => by go_simp; try rfl) ?_; (try simp only [Act.put, sA, sB, sC]))
          (refine wpF (i := 11) rfl (by kernel_rfl) rfl (fun _ _ _ h => h) (fun _ => by go_simp; try rfl) ?_; (try simp only [Act.put, sA, sB, sC]))
          refine wpAnyT_done (by kernel_rfl) ?_ _
          go_wp2_with (first
            | (at_builtin
               refine wpList_appH rfl (.tmp 26) (.tmp 28) rfl w1.heap.size A0 c0 out rfl (hO.below ((Below.refl _ wr).drew)) (hb9.drew) hb9.size (by omega) k bl vl B cb hc hm hv9.drew rfl ?_
               intro A5 c5 w5 hO5 hb5
               have m0 := (hb5.cell (p := ⟨w.heap.size, 0, none⟩) z0.lt).trans (z0.cell 0 (v := .int .i64 (k : Int)) rfl)
               have m1 := ((h1'.below hb5).at_ HJ.out)))
          obtain ⟨g', o', B2', cb2', q1', -, y1, y2, y3, y4, y5, y6⟩ := m1
          injection q1' with q1'
          injection q1' with q1' q2' q3'
          subst q1'
          subst q2'
          refine wp_region_T #[[], [], [], [], [], [], [], [4, 6]] [4, 6] (fun w' => w'.cell? ⟨g, o + j * 3, none⟩ = some (.int .i64 (sl : Int)) ∧ w'.cell? ⟨w.heap.size, 0, none⟩ = some (.int .i64 (k : Int))) 8 rfl (by kernel_rfl) ?_
          (refine wpF (i := 0) rfl (by kernel_rfl) rfl (fun _ _ _ h => h) (fun _ => by go_simp; try rfl) ?_; (try simp only [Act.put, sA, sB, sC]))
          (refine wpF (i := 1) rfl (by kernel_rfl) rfl (fun _ _ _ h => h) (fun _ => by go_simp; try rfl) ?_; (try simp only [Act.put, sA, sB, sC]))
          (refine wpF (i := 2) rfl (by kernel_rfl) rfl (fun _ _ _ h => h) (fun _ => by go_simp; try rfl) ?_; (try simp only [Act.put, sA, sB, sC]))
          (refine wpF (i := 3) rfl (by kernel_rfl) rfl (fun _ _ _ h => h) (fun _ => by go_simp; try rfl) ?_; (try simp only [Act.put, sA, sB, sC]))
          (refine wpAnyT_read (i := 4) rfl (by kernel_rfl) rfl (fun _ _ _ h => h) (by kernel_rfl) (⟨y1, m0⟩) (fun w hS_ => by obtain ⟨s_1, s_2⟩ := hS_; go_simp; try rfl) ?_; (try simp only [Act.put, sA, sB, sC]))
          (refine wpF (i := 5) rfl (by kernel_rfl) rfl (fun _ _ _ h => h) (fun _ => by go_simp; try rfl) ?_; (try simp only [Act.put, sA, sB, sC]))
          (refine wpAnyT_read (i := 6) rfl (by kernel_rfl) rfl (fun _ _ _ h => h) (by kernel_rfl) (⟨y1, m0⟩) (fun w hS_ => by obtain ⟨s_1, s_2⟩ := hS_; go_simp; try rfl) ?_; (try simp only [Act.put, sA, sB, sC]))
          (refine wpF (i := 7) rfl (by kernel_rfl) rfl (fun _ _ _ h => h) (fun _ => by go_simp; try rfl) ?_; (try simp only [Act.put, sA, sB, sC]))
          refine wpAnyT_done (by kernel_rfl) ?_ _
          have hO5' : OwnH w1.heap.size w5 (.slice A5 (out ++ [(k, (⟨bl, vl⟩ : Hd))]).length c5) (out ++ [(k, ⟨bl, vl⟩)]) := by rw [List.length_append]; exact hO5
          have hl5 : (out ++ [(k, (⟨bl, vl⟩ : Hd))]).length = out.length + 1 := by rw [List.length_append]; rfl
          have HL5 := Lib.hid hl5
          clear hl5
          go_wp2_with (first
            | (at_builtin
               refine wpList_appH rfl (.tmp 38) (.tmp 43) rfl w1.heap.size A5 c5 (out ++ [(k, ⟨bl, vl⟩)]) (by rw [HL5.out]; rfl) (hO5'.below ((Below.refl _ w5).drew)) (hb5.drew) hb5.size (by rw [HL5.out]; omega) sl b2 v2 B2' cb2' y4 y5 y6.drew rfl ?_
               intro A6 c6 w6 hO6 hb6))
          go_roundw
          case rel => exact ⟨j + 1, true, _, by have := KL.out; omega, by go_num, rfl, by rw [HT.out]; exact HP2.out, by rw [HL5.out] at hO6; exact hO6, hb6⟩
          case measure => have := KL.out; simp [intOf]; omega
    · obtain rfl : j = l.length := by omega
      rw [List.take_length] at hP
      clear h1
      cases done with
      | true =>
        have HP2 := Lib.hid hP.out.isDone
        clear hP
        go_wp2
        go_ret
        refine ⟨A0, c0, by rw [← HP2.out]; rfl, ?_, hb0.trans (hb9.mono hb0.size)⟩
        rw [← HP2.out]
        exact hO.held.mono (fun x hx => Nat.le_trans hb0.size hx)
      | false =>
        have HP2 := Lib.hid hP.out.notDone
        clear hP
        go_wp2_with (first
          | (at_builtin
             refine wpList_appH rfl (.tmp 47) (.tmp 49) rfl w1.heap.size A0 c0 out rfl hO hb9 hb9.size (by omega) k bl vl B cb hc hm hv9 rfl ?_
             intro A5 c5 w5 hO5 hb5))
        go_ret
        refine ⟨A5, c5, by rw [← HP2.out, List.length_append]; rfl, ?_, hb0.trans (hb5.mono hb0.size)⟩
        have hO6 : OwnH w1.heap.size w5 (.slice A5 (out ++ [(k, (⟨bl, vl⟩ : Hd))]).length c5) (out ++ [(k, ⟨bl, vl⟩)]) := by rw [List.length_append]; exact hO5
        rw [← HP2.out]
        exact hO6.held.mono (fun x hx => Nat.le_trans hb0.size hx)
end Go.Proofs.YtediidajdpdeiaaGreatDoor

/- The document's store (layer 8): what it is in memory, and All, the walk. -/
namespace Go.Proofs.YtediidajdpdeiaaGreatDoor
open Go.RowKit CrcM
set_option maxRecDepth 100000

abbrev TRS : TypeId := 44
/-- block r is the document's store: its log, and what the snapshot says -/
structure RefO [Hole] (T T1 T2 H : Nat → Prop) (w : World) (r lr : Nat) (A1 : Option Addr) (c1 : Nat) (ps : List Nat) (A2 : Option Addr) (c2 : Nat) (per : Nat) (L : Lg) (st0 : St) : Prop where
  blk : Blk w r TRS #[.int .i64 (per : Int), .pointer (some ⟨lr, 0, none⟩), .int .i64 (st0.promised : Int), .int .i64 (st0.base : Int), .slice A2 st0.slots.length c2]
  log : RlogO T1 H w lr A1 c1 ps L.ref
  snap : HeldS T2 w A2 c2 st0.slots
  t1 : ∀ x, T1 x → T x
  t2 : ∀ x, T2 x → T x
  hr : T r
  d1 : ¬ T1 r
  d2 : ¬ T2 r
  d12 : ∀ x, T1 x → ¬ T2 x
  lt : ∀ x, T x → x < w.heap.size
section
variable {T T1 T2 H : Nat → Prop} {w w' : World} {r lr : Nat} {A1 : Option Addr} {c1 : Nat} {ps : List Nat} {A2 : Option Addr} {c2 : Nat} {per : Nat} {L : Lg} {st0 : St}
theorem RefO.facts (h : RefO T T1 T2 H w r lr A1 c1 ps A2 c2 per L st0) :
    w.cell? ⟨r, 0, none⟩ = some (.int .i64 (per : Int)) ∧ w.cell? ⟨r, 1, none⟩ = some (.pointer (some ⟨lr, 0, none⟩)) ∧ w.cell? ⟨r, 2, none⟩ = some (.int .i64 (st0.promised : Int)) ∧ w.cell? ⟨r, 3, none⟩ = some (.int .i64 (st0.base : Int)) ∧
    w.cell? ⟨r, 4, none⟩ = some (.slice A2 st0.slots.length c2) ∧ w.cell? ⟨lr, 2, none⟩ = some (.bool L.down) :=
  ⟨h.blk.cell 0 rfl, h.blk.cell 1 rfl, h.blk.cell 2 rfl, h.blk.cell 3 rfl, h.blk.cell 4 rfl, h.log.blk.cell 2 rfl⟩
/-- WHAT All leaves -/
def AllDid8 (T2 : Nat → Prop) (w : World) (st : St) (e : Ending) (w' : World) : Prop := ∃ X A c, e = .returned (.tuple #[.int .i64 (st.promised : Int), .int .i64 (st.base : Int), .slice A st.slots.length c]) ∧ HeldS X w' A c st.slots ∧ (∀ x, X x → T2 x ∨ w.heap.size ≤ x) ∧ Below w.heap.size w w'

set_option maxHeartbeats 4000000 in
theorem all_B8 (h : RefO T T1 T2 H w r lr A1 c1 ps A2 c2 per L st0) {n : Nat} (hinv : L.inv n) (hn : n ≤ 1048576) {rcs : List Rc} (hrec : L.recs = rcs.map Rc.enc) (hrok : ∀ rc ∈ rcs, rc.ok) (hok : st0.ok) (hfew : st0.slots.length + rcs.length ≤ 1048000) :
    Calls Tryz.prog 76 #[.pointer (some ⟨r, 0, none⟩)] w (AllDid8 T2 w (rcs.foldl Rc.play st0)) := by
  have hR := refRecords_B h.log hinv hn
  rw [hrec] at hR
  obtain ⟨b0, b1, b2, b3, b4, -⟩ := h.facts
  have hsnap := h.snap
  clear h hinv hrec
  go_enter Tryz.func76, Tryz.ntmps76
  go_wp2_with (go_at_call 135; refine hR.mono ?_; rintro e w1 ⟨R, cr, vals, rfl, hrow, hrecs, hb1⟩; rw [List.length_map] at hrow ⊢; clear hR)
  have hsnap1 := (hsnap.below hb1).mono (X' := fun x => T2 x ∨ w.heap.size ≤ x) (fun x hx => .inl hx)
  have hvl : vals.length = rcs.length := by rw [hrecs.1, List.length_map]
  have HVL := Lib.hid hvl
  have hcr : rcs.length ≤ cr := by
    obtain ⟨A', c', e, h1, h2⟩ := hrow.val
    injection e with e1 e2 e3
    omega
  clear hsnap b0 b1 b2 b3 b4 hvl
  go_loopw [5, 6, 7, 9] (fun pv bv lv iv wr => ∃ (k : Nat) (A : Option Addr) (c : Nat) (cur : St), k ≤ rcs.length ∧ iv = .int .i64 (k : Int) ∧ Hid (cur = (rcs.take k).foldl Rc.play st0) ∧ pv = .int .i64 (cur.promised : Int) ∧ bv = .int .i64 (cur.base : Int) ∧ lv = .slice A cur.slots.length c ∧ HeldS (fun x => T2 x ∨ w.heap.size ≤ x) wr A c cur.slots ∧ Below w1.heap.size w1 wr) (fun _ _ _ iv _ => rcs.length - (intOf iv).toNat)
  case atStart => exact ⟨0, A2, c2, st0, Nat.zero_le _, rfl, Lib.hid rfl, rfl, rfl, rfl, hsnap1, Below.refl _ _⟩
  case round =>
    obtain ⟨k, A, c, cur, hk, rfl, hcur, rfl, rfl, rfl, hH, hb9⟩ := hrel
    by_cases hlt : k < rcs.length
    · obtain ⟨rc, hrc⟩ : ∃ rc, rcs[k]? = some rc := ⟨_, List.getElem?_eq_getElem hlt⟩
      have hlt' : (k : Int) < (rcs.length : Int) := by omega
      have KL := Lib.hid hlt
      have HC := Lib.hid (show (rcs.take (k + 1)).foldl Rc.play st0 = Rc.play cur rc by rw [foldl_take_succ Rc.play st0 hrc, hcur.out])
      obtain ⟨hcok, hcl⟩ := plays_ok (rcs.take k) st0 hok (fun r hr => hrok r (List.mem_of_mem_take hr)) (by rw [List.length_take]; omega)
      rw [← hcur.out] at hcok hcl
      rw [List.length_take] at hcl
      have hro := hrok rc (List.mem_of_getElem? hrc)
      have hrise := hcok.rise
      have hpr := hcok.pr
      have hba := hcok.ba
      obtain ⟨A', c', h1, h2, h3, h4⟩ := hrecs.2 k rc.enc (by rw [List.getElem?_map, hrc]; rfl)
      obtain ⟨g, o, cc, e1, -, -, q1, -⟩ := hrow.cell h1
      injection e1 with e1 e2 e3
      subst e1
      have q1' := (hb9.cell (p := ⟨g, o + k, none⟩) (cell_lt q1)).trans q1
      have h4' := h4.bk (BK.below hb9)
      clear h1 h4 q1 e2 e3 hrc hcur hok hrok hcok
      unfold maxLen at h3
      cases rc with
      | prom m =>
        have hm' : m ≤ 1099511627776 := hro
        obtain ⟨rest, hre⟩ : ∃ l, numB m = l := ⟨_, rfl⟩
        have hrl : (Rc.prom m).enc.length = rest.length + 1 := by show (1 :: (numB m)).length = _; rw [hre]; rfl
        rw [show (Rc.prom m).enc = 1 :: rest from by show 1 :: (numB m) = _; rw [hre]] at h4'
        rw [hrl] at h2 q1'
        obtain ⟨ad, rfl, q0, qb, -⟩ := h4' 0 1 rfl
        replace q0 : wr.cell? ad = some (.int .u8 1) := q0
        have hrp : 1 ≤ rest.length := by rw [← hre]; exact numB_pos m
        have k1 : (1 : Int) ≤ (rest.length : Int) + 1 := by omega
        have k2 : (rest.length : Int) + 1 ≤ (c' : Int) := by omega
        have k3 : ¬ c' = 1 := by omega
        have hO : Own Ever wr (some ⟨ad.block, ad.off + 1, none⟩) rest := by
          have := h4'.drop 1 c' h2
          rw [if_neg k3] at this
          exact this.mono (fun _ _ => trivial)
        have hrn := refReadNum_B wr (some ⟨ad.block, ad.off + 1, none⟩) (c' - 1) rest (hO.rd Non) (by unfold maxLen; omega)
        unfold ReadDid at hrn
        rw [show readNum rest = .ok (m, rest.length) from by have := readNum_numB m (by omega) []; rw [List.append_nil, hre] at this; exact this] at hrn
        clear hre hrl h4'
        by_cases hmx : cur.promised < m
        · have gm : decide (cur.promised < m) = true := decide_eq_true hmx
          have HM := Lib.hid (show Rc.play cur (.prom m) = ⟨m, cur.base, cur.slots⟩ by show (⟨max cur.promised m, cur.base, cur.slots⟩ : St) = _; rw [show max cur.promised m = m by omega])
          clear hmx
          go_wp2_with (go_at_call 136; refine hrn.mono ?_; rintro e w4 ⟨rfl, rfl⟩; clear hrn)
          go_roundw
          case rel => exact ⟨k + 1, A, c, ⟨m, cur.base, cur.slots⟩, by have := KL.out; omega, by go_num, Lib.hid (by rw [HC.out, HM.out]), rfl, rfl, rfl, hH, hb9⟩
          case measure => have := KL.out; simp [intOf]; omega
        · have gm : decide (cur.promised < m) = false := decide_eq_false hmx
          have HM := Lib.hid (show Rc.play cur (.prom m) = cur by show (⟨max cur.promised m, cur.base, cur.slots⟩ : St) = _; rw [show max cur.promised m = cur.promised by omega])
          clear hmx
          go_wp2_with (go_at_call 136; refine hrn.mono ?_; rintro e w4 ⟨rfl, rfl⟩; clear hrn)
          go_roundw
          case rel => exact ⟨k + 1, A, c, cur, by have := KL.out; omega, by go_num, Lib.hid (by rw [HC.out, HM.out]), rfl, rfl, rfl, hH, hb9⟩
          case measure => have := KL.out; simp [intOf]; omega
      | forget m =>
        have hm' : m ≤ 1099511627776 := hro
        obtain ⟨rest, hre⟩ : ∃ l, numB m = l := ⟨_, rfl⟩
        have hrl : (Rc.forget m).enc.length = rest.length + 1 := by show (3 :: (numB m)).length = _; rw [hre]; rfl
        rw [show (Rc.forget m).enc = 3 :: rest from by show 3 :: (numB m) = _; rw [hre]] at h4'
        rw [hrl] at h2 q1'
        obtain ⟨ad, rfl, q0, qb, -⟩ := h4' 0 3 rfl
        replace q0 : wr.cell? ad = some (.int .u8 3) := q0
        have hrp : 1 ≤ rest.length := by rw [← hre]; exact numB_pos m
        have k1 : (1 : Int) ≤ (rest.length : Int) + 1 := by omega
        have k2 : (rest.length : Int) + 1 ≤ (c' : Int) := by omega
        have k3 : ¬ c' = 1 := by omega
        have hO : Own Ever wr (some ⟨ad.block, ad.off + 1, none⟩) rest := by
          have := h4'.drop 1 c' h2
          rw [if_neg k3] at this
          exact this.mono (fun _ _ => trivial)
        have hrn := refReadNum_B wr (some ⟨ad.block, ad.off + 1, none⟩) (c' - 1) rest (hO.rd Non) (by unfold maxLen; omega)
        unfold ReadDid at hrn
        rw [show readNum rest = .ok (m, rest.length) from by have := readNum_numB m (by omega) []; rw [List.append_nil, hre] at this; exact this] at hrn
        clear hre hrl h4'
        have hab := above_B wr A c cur.slots hH (by omega) (max cur.base m)
        have HM := Lib.hid (show Rc.play cur (.forget m) = ⟨cur.promised, max cur.base m, cur.slots.filter (fun p => decide (max cur.base m ≤ p.1))⟩ by rfl)
        by_cases hmx : cur.base < m
        · have gm : decide (cur.base < m) = true := decide_eq_true hmx
          rw [show max cur.base m = m by omega] at hab HM
          clear hmx
          go_wp2_with (first
            | (go_at_call 136; refine hrn.mono ?_; rintro e w4 ⟨rfl, rfl⟩; clear hrn)
            | (go_at_call 137; refine hab.mono ?_; rintro e w5 ⟨A5, c5, rfl, hH5, hb5⟩; clear hab))
          go_roundw
          case rel => exact ⟨k + 1, A5, c5, ⟨cur.promised, m, cur.slots.filter (fun p => decide (m ≤ p.1))⟩, by have := KL.out; omega, by go_num, Lib.hid (by rw [HC.out, HM.out]), rfl, rfl, rfl, hH5.mono (fun x hx => .inr (Nat.le_trans (Nat.le_trans hb1.size hb9.size) hx)), hb9.trans (hb5.mono hb9.size)⟩
          case measure => have := KL.out; simp [intOf]; omega
        · have gm : decide (cur.base < m) = false := decide_eq_false hmx
          rw [show max cur.base m = cur.base by omega] at hab HM
          clear hmx
          go_wp2_with (first
            | (go_at_call 136; refine hrn.mono ?_; rintro e w4 ⟨rfl, rfl⟩; clear hrn)
            | (go_at_call 137; refine hab.mono ?_; rintro e w5 ⟨A5, c5, rfl, hH5, hb5⟩; clear hab))
          go_roundw
          case rel => exact ⟨k + 1, A5, c5, ⟨cur.promised, cur.base, cur.slots.filter (fun p => decide (cur.base ≤ p.1))⟩, by have := KL.out; omega, by go_num, Lib.hid (by rw [HC.out, HM.out]), rfl, rfl, rfl, hH5.mono (fun x hx => .inr (Nat.le_trans (Nat.le_trans hb1.size hb9.size) hx)), hb9.trans (hb5.mono hb9.size)⟩
          case measure => have := KL.out; simp [intOf]; omega
      | acc slot m v =>
        obtain ⟨q1a, q2a, q3a⟩ := hro
        obtain ⟨l1, hl1⟩ : ∃ l, numB slot = l := ⟨_, rfl⟩
        obtain ⟨l2, hl2⟩ : ∃ l, numB m = l := ⟨_, rfl⟩
        have p1 : 1 ≤ l1.length := by rw [← hl1]; exact numB_pos slot
        have p2 : 1 ≤ l2.length := by rw [← hl2]; exact numB_pos m
        have p3 : l1.length ≤ 10 := by rw [← hl1]; exact numB_10 (n := slot) (by omega)
        have p4 : l2.length ≤ 10 := by rw [← hl2]; exact numB_10 (n := m) (by omega)
        have hrl : (Rc.acc slot m v).enc.length = l1.length + (l2.length + v.length) + 1 := by show (2 :: (numB slot ++ (numB m ++ v))).length = _; rw [hl1, hl2]; simp only [List.length_cons, List.length_append]
        rw [show (Rc.acc slot m v).enc = 2 :: (l1 ++ (l2 ++ v)) from by show 2 :: (numB slot ++ (numB m ++ v)) = _; rw [hl1, hl2]] at h4'
        rw [hrl] at h2 q1'
        obtain ⟨ad, rfl, q0, qb, -⟩ := h4' 0 2 rfl
        replace q0 : wr.cell? ad = some (.int .u8 2) := q0
        have k3 : ¬ c' = 1 := by omega
        have k4 : ¬ c' - 1 = l1.length := by omega
        have hO : Own Ever wr (some ⟨ad.block, ad.off + 1, none⟩) (l1 ++ (l2 ++ v)) := by
          have := h4'.drop 1 c' (by rw [List.length_cons, List.length_append, List.length_append]; exact h2)
          rw [if_neg k3] at this
          exact this.mono (fun _ _ => trivial)
        have hO2 : Own Ever wr (some ⟨ad.block, ad.off + 1 + l1.length, none⟩) (l2 ++ v) := by
          have := hO.drop l1.length (c' - 1) (by simp only [List.length_append]; omega)
          rw [if_neg k4, List.drop_left] at this
          simpa [add_mk] using this
        have hO3 := hO.drop (l1.length + l2.length) (c' - 1) (by simp only [List.length_append]; omega)
        rw [show (l1 ++ (l2 ++ v)).drop (l1.length + l2.length) = v from by rw [← List.drop_drop, List.drop_left, List.drop_left]] at hO3
        have hrn := refReadNum_B wr (some ⟨ad.block, ad.off + 1, none⟩) (c' - 1) (l1 ++ (l2 ++ v)) (hO.rd Non) (by simp only [List.length_append]; unfold maxLen; omega)
        have hrn2 := refReadNum_B wr (some ⟨ad.block, ad.off + 1 + l1.length, none⟩) (c' - 1 - l1.length) (l2 ++ v) (hO2.rd Non) (by simp only [List.length_append]; unfold maxLen; omega)
        unfold ReadDid at hrn hrn2
        rw [show readNum (l1 ++ (l2 ++ v)) = .ok (slot, l1.length) from by rw [← hl1]; exact readNum_numB slot (by omega) _, show (l1 ++ (l2 ++ v)).length = l1.length + (l2.length + v.length) from by simp only [List.length_append]] at hrn
        rw [show readNum (l2 ++ v) = .ok (m, l2.length) from by rw [← hl2]; exact readNum_numB m (by omega) _, show (l2 ++ v).length = l2.length + v.length from List.length_append] at hrn2
        have HM := Lib.hid (show Rc.play cur (.acc slot m v) = ⟨max cur.promised m, cur.base, putN slot ⟨m, v⟩ cur.slots⟩ by rfl)
        have hpl : (putN slot (⟨m, v⟩ : Hd) cur.slots).length ≤ cur.slots.length + 1 := length_putN _ _ _
        generalize l1.length = n1 at *
        generalize l2.length = n2 at *
        have k1 : (1 : Int) ≤ (n1 : Int) + ((n2 : Int) + (v.length : Int)) + 1 := by omega
        have k2 : (n1 : Int) + ((n2 : Int) + (v.length : Int)) + 1 ≤ (c' : Int) := by omega
        have kw : IntKind.i64.wrap ((n1 : Int) + (n2 : Int)) = (n1 : Int) + (n2 : Int) := by rw [IntKind.wrap_i64]; omega
        have k6 : (n1 : Int) + ((n2 : Int) + (v.length : Int)) ≤ ((c' - 1 : Nat) : Int) := by omega
        have k7 : (n1 : Int) ≤ (n1 : Int) + ((n2 : Int) + (v.length : Int)) := by omega
        have k8 : (n1 : Int) + (n2 : Int) ≤ (n1 : Int) + ((n2 : Int) + (v.length : Int)) := by omega
        have hcv : v.length ≤ c' - 1 - (n1 + n2) := by omega
        clear hl1 hl2 hrl h4' hO hO2
        rcases (show (c' - 1 = n1 + n2) ∨ ¬ (c' - 1 = n1 + n2) by omega) with k5 | k5
        all_goals
          simp only [k5, if_true, if_false] at hO3
          have hpt := putH_B wr A c cur.slots hH (by omega) hrise slot m v _ (c' - 1 - (n1 + n2)) hcv (by unfold maxLen; omega) (hO3.mono (S' := Any) (fun _ _ => trivial))
          clear hO3
          try simp only [k5, Nat.add_sub_cancel_left, Nat.sub_self] at hrn hrn2 hpt
          try simp only [Option.map_some, add_mk] at hpt
          have hsub : n1 + (n2 + v.length) - (n1 + n2) = v.length := by omega
          by_cases hmx : cur.promised < m
          · have gm : decide (cur.promised < m) = true := decide_eq_true hmx
            rw [show max cur.promised m = m by omega] at HM
            clear hmx
            go_wp2_with (first
              | (go_at_call 136; refine hrn.mono ?_; rintro e w4 ⟨rfl, rfl⟩; clear hrn)
              | (go_at_call 136; refine hrn2.mono ?_; rintro e w4' ⟨rfl, rfl⟩; clear hrn2)
              | (go_at_call 120; refine hpt.mono ?_; rintro e w5 ⟨A5, c5, rfl, hH5, hb5⟩; clear hpt))
            go_roundw
            case rel => exact ⟨k + 1, A5, c5, ⟨m, cur.base, putN slot ⟨m, v⟩ cur.slots⟩, by have := KL.out; omega, by go_num, Lib.hid (by rw [HC.out, HM.out]), rfl, rfl, rfl, hH5.mono (fun x hx => .inr (Nat.le_trans (Nat.le_trans hb1.size hb9.size) hx)), hb9.trans (hb5.mono hb9.size)⟩
            case measure => have := KL.out; simp [intOf]; omega
          · have gm : decide (cur.promised < m) = false := decide_eq_false hmx
            rw [show max cur.promised m = cur.promised by omega] at HM
            clear hmx
            go_wp2_with (first
              | (go_at_call 136; refine hrn.mono ?_; rintro e w4 ⟨rfl, rfl⟩; clear hrn)
              | (go_at_call 136; refine hrn2.mono ?_; rintro e w4' ⟨rfl, rfl⟩; clear hrn2)
              | (go_at_call 120; refine hpt.mono ?_; rintro e w5 ⟨A5, c5, rfl, hH5, hb5⟩; clear hpt))
            go_roundw
            case rel => exact ⟨k + 1, A5, c5, ⟨cur.promised, cur.base, putN slot ⟨m, v⟩ cur.slots⟩, by have := KL.out; omega, by go_num, Lib.hid (by rw [HC.out, HM.out]), rfl, rfl, rfl, hH5.mono (fun x hx => .inr (Nat.le_trans (Nat.le_trans hb1.size hb9.size) hx)), hb9.trans (hb5.mono hb9.size)⟩
            case measure => have := KL.out; simp [intOf]; omega
    · obtain rfl : k = rcs.length := by omega
      have hc := hcur.out
      rw [List.take_length] at hc
      have HC := Lib.hid hc
      clear hc hcur
      go_wp2
      go_ret3
      exact ⟨_, A, c, by rw [← HC.out]; rfl, by rw [← HC.out]; exact hH, fun x hx => hx, hb1.trans (hb9.mono hb1.size)⟩
end
end Go.Proofs.YtediidajdpdeiaaGreatDoor

/- The document's store (layer 8): State, Base, Promise, Forget; the walks. -/
namespace Go.Proofs.YtediidajdpdeiaaGreatDoor
open Go.RowKit CrcM
set_option maxRecDepth 100000

/-- block r is the document's store -/
def IsRef8 [Hole] (T : Nat → Prop) (w : World) (r per : Nat) (L : Lg) (st0 : St) : Prop := ∃ T1 T2 H lr A1 c1 ps A2 c2, RefO T T1 T2 H w r lr A1 c1 ps A2 c2 per L st0
/-- WHAT a change of the document's store leaves -/
def RefDid8 [Hole] (T : Nat → Prop) (w : World) (r per : Nat) (L : Lg) (st0 : St) (n : Int) (e : Ending) (w' : World) : Prop := e = .returned (.int .i64 n) ∧ IsRef8 (Up T w w') w' r per L st0 ∧ Fr T w w'
section
variable [Hole] {T T1 T2 H : Nat → Prop} {w w' : World} {r lr : Nat} {A1 : Option Addr} {c1 : Nat} {ps : List Nat} {A2 : Option Addr} {c2 : Nat} {per : Nat} {L : Lg} {st0 : St}
theorem RefO.below (h : RefO T T1 T2 H w r lr A1 c1 ps A2 c2 per L st0) (hb : Below w.heap.size w w') : RefO T T1 T2 H w' r lr A1 c1 ps A2 c2 per L st0 :=
  ⟨h.blk.below' hb, h.log.below hb, h.snap.below hb, h.t1, h.t2, h.hr, h.d1, h.d2, h.d12, fun x hx => Nat.lt_of_lt_of_le (h.lt x hx) hb.size⟩
theorem RefO.up (h : RefO T T1 T2 H w r lr A1 c1 ps A2 c2 per L st0) (hb : Below w.heap.size w w') : IsRef8 (Up T w w') w' r per L st0 := by
  have h' := h.below hb
  exact ⟨T1, T2, H, lr, A1, c1, ps, A2, c2, h'.blk, h'.log, h'.snap, fun x hx => .inl (h.t1 x hx), fun x hx => .inl (h.t2 x hx), .inl h.hr, h.d1, h.d2, h.d12, Up.lt h.lt hb.size⟩
theorem RefO.did (h : RefO T T1 T2 H w r lr A1 c1 ps A2 c2 per L st0) (hb : Below w.heap.size w w') (n : Int) : RefDid8 T w r per L st0 n (.returned (.int .i64 n)) w' := ⟨rfl, h.up hb, Fr.of_below hb⟩
/-- the log turns -/
theorem RefO.turn (h : RefO T T1 T2 H w r lr A1 c1 ps A2 c2 per L st0) {L' : Lg} (hl : IsRlog (Up T1 w w') w' (.pointer (some ⟨lr, 0, none⟩)) L'.ref) (f : Fr T1 w w') : IsRef8 (Up T w w') w' r per L' st0 ∧ Fr T w w' := by
  obtain ⟨H', lr', A', c', ps', e, hl⟩ := hl
  injection e with e
  injection e with e
  injection e with e
  subst e
  have hlt : ∀ x, T x → ¬ Nw w w' x := fun x hx hn => by have := h.lt x hx; have := hn.1; omega
  exact ⟨⟨Up T1 w w', T2, H', lr, A', c', ps', A2, c2, h.blk.fr f h.d1, hl, h.snap.xk (fun x hx => f.out x (h.lt x (h.t2 x hx)) (fun q => h.d12 x q hx)) f.byt, fun x hx => hx.imp_left (h.t1 x), fun x hx => .inl (h.t2 x hx), .inl h.hr, fun hx => hx.elim h.d1 (hlt _ h.hr), h.d2, fun x hx hy => hx.elim (fun hx => h.d12 x hx hy) (hlt x (h.t2 x hy)), Up.lt h.lt f.size⟩, f.mono (fun x _ hx => h.t1 x hx)⟩
/-- after new blocks -/
theorem RefDid8.from {w1 : World} {n : Int} {e : Ending} (hb : Below w.heap.size w w1) (hl : ∀ x, T x → x < w.heap.size) (h : RefDid8 T w1 r per L st0 n e w') : RefDid8 T w r per L st0 n e w' := by
  obtain ⟨h1, ⟨T1, T2, H, lr, A1, c1, ps, A2, c2, h2⟩, h3⟩ := h
  refine ⟨h1, ⟨T1, T2, H, lr, A1, c1, ps, A2, c2, h2.blk, h2.log, h2.snap, fun x hx => ?_, fun x hx => ?_, ?_, h2.d1, h2.d2, h2.d12, fun x hx => ?_⟩, (Fr.of_below (S := T) hb).trans' h3 (fun _ _ h => h)⟩
  · exact (h2.t1 x hx).imp_right fun q => ⟨Nat.le_trans hb.size q.1, q.2⟩
  · exact (h2.t2 x hx).imp_right fun q => ⟨Nat.le_trans hb.size q.1, q.2⟩
  · exact (h2.hr).imp_right fun q => ⟨Nat.le_trans hb.size q.1, q.2⟩
  · rcases hx with hx | hx
    · exact Nat.lt_of_lt_of_le (hl x hx) (Nat.le_trans hb.size h3.size)
    · exact hx.2
end

theorem num_B8 (w : World) (n : Int) : Calls Tryz.prog 117 #[.int .i64 n] w fun e w' => e = .returned (.bool (decide (numOk n))) ∧ w = w' := by
  rcases (show (0 ≤ n ∧ n ≤ 1099511627776) ∨ (¬ 0 ≤ n) ∨ (0 ≤ n ∧ ¬ n ≤ 1099511627776) by omega) with ⟨g1, g2⟩ | g1 | ⟨g1, g2⟩
  · have HD := Lib.hid (show decide (numOk n) = true from decide_eq_true ⟨g1, g2⟩)
    go_enter Tryz.func117, Tryz.ntmps117
    go_wp2
    go_ret
    exact ⟨by rw [HD.out]; rfl, rfl⟩
  · have HD := Lib.hid (show decide (numOk n) = false from decide_eq_false (fun q => g1 q.1))
    go_enter Tryz.func117, Tryz.ntmps117
    go_wp2
    go_ret
    exact ⟨by rw [HD.out]; rfl, rfl⟩
  · have HD := Lib.hid (show decide (numOk n) = false from decide_eq_false (fun q => g2 q.2))
    go_enter Tryz.func117, Tryz.ntmps117
    go_wp2
    go_ret
    exact ⟨by rw [HD.out]; rfl, rfl⟩

section
variable {T T1 T2 H : Nat → Prop} {w w' : World} {r lr : Nat} {A1 : Option Addr} {c1 : Nat} {ps : List Nat} {A2 : Option Addr} {c2 : Nat} {per : Nat} {s : So} {st0 : St} {rcs : List Rc} {m n : Nat}
/-- All of a store that is up -/
theorem all_S8 (h : RefO T T1 T2 H w r lr A1 c1 ps A2 c2 per s.log st0) (hi : s.inv m n st0 rcs) (hd : s.log.down = false) :
    Calls Tryz.prog 76 #[.pointer (some ⟨r, 0, none⟩)] w (AllDid8 T2 w s.st) := by
  have hsm := hi.small
  have hfew := hi.few
  have := all_B8 h hi.log (by omega) (by rw [Lg.recs_eq hd, hi.recs]) (fun rc hrc => (hi.rok rc hrc).1) hi.ok0.ok (by omega)
  rw [← hi.up hd] at this
  exact this
def StateDid (T2 : Nat → Prop) (w : World) (st : St) (e : Ending) (w' : World) : Prop := ∃ X A c, e = .returned (.tuple #[.int .i64 (st.promised : Int), .slice A st.slots.length c]) ∧ HeldS X w' A c st.slots ∧ (∀ x, X x → T2 x ∨ w.heap.size ≤ x) ∧ Below w.heap.size w w'
theorem state_S8 (h : RefO T T1 T2 H w r lr A1 c1 ps A2 c2 per s.log st0) (hi : s.inv m n st0 rcs) (hd : s.log.down = false) :
    Calls Tryz.prog 17 #[.pointer (some ⟨r, 0, none⟩)] w (StateDid T2 w s.st) := by
  have ha := all_S8 h hi hd
  clear h hi hd
  go_enter Tryz.func17, Tryz.ntmps17
  go_wp2_with (go_at_call 76; refine ha.mono ?_; rintro e w1 ⟨X, A, c, rfl, hH, hX, hb⟩)
  go_ret2
  exact ⟨X, A, c, rfl, hH, hX, hb⟩
theorem base_S8 (h : RefO T T1 T2 H w r lr A1 c1 ps A2 c2 per s.log st0) (hi : s.inv m n st0 rcs) (hd : s.log.down = false) :
    Calls Tryz.prog 18 #[.pointer (some ⟨r, 0, none⟩)] w (Told w (.int .i64 (s.st.base : Int))) := by
  have ha := all_S8 h hi hd
  clear h hi hd
  go_enter Tryz.func18, Tryz.ntmps18
  go_wp2_with (go_at_call 76; refine ha.mono ?_; rintro e w1 ⟨X, A, c, rfl, hH, hX, hb⟩)
  go_ret
  exact ⟨rfl, hb⟩
/-- a record is laid onto the document's log -/
theorem RefO.append [Hole] (h : RefO T T1 T2 H w r lr A1 c1 ps A2 c2 per s.log st0) (hi : s.inv m n st0 rcs) (B : Option Addr) (rec : List UInt8) (cb : Nat) (hr : Own Ever w B rec) (hrl : rec.length ≤ 400) (hc : rec.length ≤ cb) (hm : cb ≤ maxLen) :
    Calls Tryz.prog 119 #[.pointer (some ⟨lr, 0, none⟩), .slice B rec.length cb] w fun e w' => e = .returned (.tuple #[.int .i64 ((s.log.append rec).2.1 : Int), .int .i64 (s.log.append rec).2.2]) ∧ IsRef8 (Up T w w') w' r per (s.log.append rec).1 st0 ∧ Fr T w w' := by
  have hsm := hi.small
  refine (refLogAppend_B h.log hi.log (by omega) B rec cb (hr.rd T1) hrl hc hm).mono ?_
  rintro e w' ⟨h1, h2, h3⟩
  exact ⟨h1, h.turn h2 h3⟩
end
end Go.Proofs.YtediidajdpdeiaaGreatDoor
