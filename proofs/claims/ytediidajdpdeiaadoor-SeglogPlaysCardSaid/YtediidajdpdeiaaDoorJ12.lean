/- Frames, plainly: what Next, Good and All answer of framed bytes. No program is in sight. -/
import Derived.Test.YtediidajdpdeiaaDoorJ7
import Derived.Test.YtediidajdpdeiaaDoorJ10
import Derived.Test.YtediidajdpdeiaaDoorJ11
import Derived.Test.YtediidajdpdeiaaDoorJ5

namespace Go.Proofs.YtediidajdpdeiaaDoor
open CrcM

theorem num4_app (a l : List UInt8) (h : a.length = 4) : num4 (a ++ l) = num4 a := by
  match a, h with
  | [_, _, _, _], _ => rfl
theorem num4_lt4 (a : List UInt8) : num4 a < 4294967296 := num4_lt a
theorem num4_four' (n : Nat) (h : n < 4294967296) : num4 (four n) = n := by
  have := num4_four n h []
  rwa [List.append_nil] at this
theorem num4_inj {a b : List UInt8} (ha : a.length = 4) (hb : b.length = 4) (h : num4 a = num4 b) : a = b := by
  match a, ha, b, hb, h with
  | [a0, a1, a2, a3], _, [b0, b1, b2, b3], _, h =>
    have e : ∀ x0 x1 x2 x3 : UInt8, num4 [x0, x1, x2, x3] = x0.toNat + x1.toNat * 256 + x2.toNat * 65536 + x3.toNat * 16777216 := fun _ _ _ _ => rfl
    rw [e, e] at h
    have := a0.toNat_lt
    have := a1.toNat_lt
    have := a2.toNat_lt
    have := a3.toNat_lt
    have := b0.toNat_lt
    have := b1.toNat_lt
    have := b2.toNat_lt
    have := b3.toNat_lt
    have h0 : a0 = b0 := UInt8.toNat_inj.1 (by omega)
    have h1 : a1 = b1 := UInt8.toNat_inj.1 (by omega)
    have h2 : a2 = b2 := UInt8.toNat_inj.1 (by omega)
    have h3 : a3 = b3 := UInt8.toNat_inj.1 (by omega)
    rw [h0, h1, h2, h3]

/-- what Next answers where twelve bytes stand, and others behind -/
theorem next_of (pre a b c x : List UInt8) (ha : a.length = 4) (hb : b.length = 4) (hc : c.length = 4) :
    next (pre ++ (a ++ (b ++ (c ++ x)))) (pre.length : Int) =
      if (sum a).toNat ≠ num4 b then .error 6
      else if 65536 < num4 a then .error 3
      else if x.length < num4 a then .error 4
      else if (sum (x.take (num4 a))).toNat ≠ num4 c then .error 6
      else .ok (x.take (num4 a), pre.length + 12 + num4 a) := by
  have hL : (pre ++ (a ++ (b ++ (c ++ x)))).length = pre.length + (12 + x.length) := by
    simp only [List.length_append, ha, hb, hc]; omega
  unfold next
  rw [if_neg (by rw [hL]; omega), if_neg (by rw [hL]; omega), Int.toNat_natCast]
  have hd : (pre ++ (a ++ (b ++ (c ++ x)))).drop (pre.length + 12) = x := by
    have h1 : pre ++ (a ++ (b ++ (c ++ x))) = (pre ++ (a ++ (b ++ c))) ++ x := by simp only [List.append_assoc]
    rw [h1]
    exact List.drop_left' (by simp only [List.length_append, ha, hb, hc])
  have ht : ((pre ++ (a ++ (b ++ (c ++ x)))).take (pre.length + 12)).drop pre.length = a ++ (b ++ c) := by
    have h1 : pre ++ (a ++ (b ++ (c ++ x))) = (pre ++ (a ++ (b ++ c))) ++ x := by simp only [List.append_assoc]
    rw [h1, List.take_left' (by simp only [List.length_append, ha, hb, hc]), List.drop_left' rfl]
  have e1 : (a ++ (b ++ c)).take 4 = a := List.take_left' ha
  have e2 : (a ++ (b ++ c)).drop 4 = b ++ c := List.drop_left' ha
  have e3 : (a ++ (b ++ c)).drop 8 = c := by
    rw [← List.append_assoc]
    exact List.drop_left' (by simp only [List.length_append, ha, hb])
  simp only [hd, ht, e1, e2, e3, num4_app a _ ha, num4_app b _ hb]

theorem next_frame (pre body post : List UInt8) (h : body.length ≤ 65536) : next (pre ++ (frame body ++ post)) (pre.length : Int) = .ok (body, pre.length + (frame body).length) := by
  have hs1 := (sum (four body.length)).isLt
  have hs2 := (sum body).isLt
  have e : pre ++ (frame body ++ post) = pre ++ (four body.length ++ (four (sum (four body.length)).toNat ++ (four (sum body).toNat ++ (body ++ post)))) := by
    simp only [frame, List.append_assoc]
  rw [e, next_of _ _ _ _ _ (length_four _) (length_four _) (length_four _), num4_four' body.length (by omega), num4_four' _ hs1, num4_four' _ hs2]
  rw [if_neg (by simp), if_neg (by omega), if_neg (by simp), List.take_left' rfl, if_neg (by simp), length_frame]
  congr 2
  omega

/-- cut anywhere a frame is short -/
theorem next_cut (body : List UInt8) (h : body.length ≤ 65536) (i : Nat) (hi : i < (frame body).length) : next ((frame body).take i) 0 = .error 4 := by
  by_cases h12 : i < 12
  · unfold next
    have hl : ((frame body).take i).length = i := by rw [List.length_take]; omega
    rw [if_neg (by rw [hl]; omega), if_pos (by rw [hl]; omega)]
  · have hs1 := (sum (four body.length)).isLt
    have hs2 := (sum body).isLt
    rw [length_frame] at hi
    have e : (frame body).take i = [] ++ (four body.length ++ (four (sum (four body.length)).toNat ++ (four (sum body).toNat ++ body.take (i - 12)))) := by
      rw [List.nil_append, frame, List.take_append, List.take_append, List.take_append, List.take_of_length_le (by rw [length_four]; omega), List.take_of_length_le (by rw [length_four, length_four]; omega), List.take_of_length_le (by simp only [length_four]; omega)]
      simp only [length_four]
      rw [show i - 4 - 4 - 4 = i - 12 by omega]
    have h0 := next_of [] (four body.length) (four (sum (four body.length)).toNat) (four (sum body).toNat) (body.take (i - 12)) (length_four _) (length_four _) (length_four _)
    rw [← e, num4_four' body.length (by omega), num4_four' _ hs1, num4_four' _ hs2, if_neg (by simp), if_neg (by omega), if_pos (by rw [List.length_take]; omega)] at h0
    exact h0

theorem set_app {α : Type} (l : List α) (i : Nat) (x y : α) (h : l[i]? = some x) : l = l.take i ++ x :: l.drop (i + 1) ∧ l.set i y = l.take i ++ y :: l.drop (i + 1) := by
  obtain ⟨hlt, e⟩ := List.getElem?_eq_some_iff.1 h
  refine ⟨?_, List.set_eq_take_append_cons_drop.trans (if_pos hlt)⟩
  conv => lhs; rw [← List.take_append_drop i l]
  rw [List.drop_eq_getElem_cons hlt, e]

/-- a byte turned: other bytes -/
theorem set_ne {l : List UInt8} {i : Nat} {x y : UInt8} (h : l[i]? = some x) (hxy : y ≠ x) : l.set i y ≠ l := by
  obtain ⟨e1, e2⟩ := set_app l i x y h
  intro e
  have := List.append_cancel_left (e2.symm.trans (e.trans e1))
  injection this with h1 _
  exact hxy h1
theorem sum_set {l : List UInt8} {i : Nat} {x y : UInt8} (h : l[i]? = some x) (hxy : y ≠ x) : sum (l.set i y) ≠ sum l := by
  obtain ⟨e1, e2⟩ := set_app l i x y h
  intro e
  exact hxy (sum_one ((congrArg sum e2).symm.trans (e.trans (congrArg sum e1))))

theorem next_turned (body : List UInt8) (h : body.length ≤ 65536) (i : Nat) (x y : UInt8) (hx : (frame body)[i]? = some x) (hxy : y ≠ x) : next ((frame body).set i y) 0 = .error 6 := by
  have hs1 := (sum (four body.length)).isLt
  have hs2 := (sum body).isLt
  have hn : body.length < 4294967296 := by omega
  have hi : i < (frame body).length := (List.getElem?_eq_some_iff.1 hx).1
  rw [length_frame] at hi
  unfold frame at hx ⊢
  generalize hs1' : (sum (four body.length)).toNat = s1 at *
  generalize hs2' : (sum body).toNat = s2 at *
  have go : ∀ a b c z : List UInt8, a.length = 4 → b.length = 4 → c.length = 4 → next (a ++ (b ++ (c ++ z))) 0 =
      if (sum a).toNat ≠ num4 b then .error 6 else if 65536 < num4 a then .error 3 else if z.length < num4 a then .error 4
      else if (sum (z.take (num4 a))).toNat ≠ num4 c then .error 6 else .ok (z.take (num4 a), 0 + 12 + num4 a) := fun a b c z ha hb hc => next_of [] a b c z ha hb hc
  have l4 := length_four body.length
  have l41 := length_four s1
  have l42 := length_four s2
  by_cases h1 : i < 4
  · rw [List.getElem?_append_left (by omega)] at hx
    rw [List.set_append_left _ _ (by omega), go _ _ _ _ (by rw [List.length_set]; exact l4) l41 l42, if_pos]
    rw [num4_four' _ hs1, ← hs1']
    intro e
    exact sum_set hx hxy (BitVec.eq_of_toNat_eq e)
  · rw [List.getElem?_append_right (by omega), l4] at hx
    rw [List.set_append_right _ _ (by omega), l4]
    by_cases h2 : i < 8
    · rw [List.getElem?_append_left (by omega)] at hx
      rw [List.set_append_left _ _ (by omega), go _ _ _ _ l4 (by rw [List.length_set]; exact l41) l42, if_pos]
      rw [hs1']
      intro e
      exact set_ne hx hxy (num4_inj (by rw [List.length_set]; exact l41) l41 (e.symm.trans (num4_four' _ hs1).symm))
    · rw [List.getElem?_append_right (by omega), l41] at hx
      rw [List.set_append_right _ _ (by omega), l41]
      by_cases h3 : i < 12
      · rw [List.getElem?_append_left (by omega)] at hx
        rw [List.set_append_left _ _ (by omega), go _ _ _ _ l4 l41 (by rw [List.length_set]; exact l42), hs1', num4_four' _ hs1, num4_four' _ hn, if_neg (by simp), if_neg (by omega), if_neg (by omega), if_pos]
        rw [List.take_of_length_le (Nat.le_refl _), hs2']
        intro e
        exact set_ne hx hxy (num4_inj (by rw [List.length_set]; exact l42) l42 (e.symm.trans (num4_four' _ hs2).symm))
      · rw [List.getElem?_append_right (by omega), l42] at hx
        rw [List.set_append_right _ _ (by omega), l42, go _ _ _ _ l4 l41 l42, hs1', num4_four' _ hs1, num4_four' _ hn, num4_four' _ hs2, if_neg (by simp), if_neg (by omega), if_neg (by rw [List.length_set]; omega), if_pos]
        rw [List.take_of_length_le (by rw [List.length_set]; exact Nat.le_refl _), ← hs2']
        intro e
        exact sum_set hx hxy (BitVec.eq_of_toNat_eq e)

/-- frames one behind the other -/
def frames (bs : List (List UInt8)) : List UInt8 := (bs.map frame).flatten
theorem frames_cons (x : List UInt8) (bs : List (List UInt8)) : frames (x :: bs) = frame x ++ frames bs := rfl
theorem frames_append (a b : List (List UInt8)) : frames (a ++ b) = frames a ++ frames b := by simp [frames]
theorem frames_split (bs : List (List UInt8)) (k : Nat) (x : List UInt8) (hx : bs[k]? = some x) (tail : List UInt8) :
    frames bs ++ tail = frames (bs.take k) ++ (frame x ++ (frames (bs.drop (k + 1)) ++ tail)) := by
  obtain ⟨e, -⟩ := set_app bs k x x hx
  have : frames bs = frames (bs.take k) ++ (frame x ++ frames (bs.drop (k + 1))) := by
    conv => lhs; rw [e]
    rw [frames_append, frames_cons]
  rw [this]
  simp only [List.append_assoc]
theorem frames_take_succ (bs : List (List UInt8)) (k : Nat) (x : List UInt8) (hx : bs[k]? = some x) : frames (bs.take (k + 1)) = frames (bs.take k) ++ frame x := by
  rw [List.take_add_one, hx, frames_append]
  simp [frames]
theorem next_frames (bs : List (List UInt8)) (hb : ∀ x ∈ bs, x.length ≤ 65536) (tail : List UInt8) (k : Nat) (x : List UInt8) (hx : bs[k]? = some x) :
    next (frames bs ++ tail) ((frames (bs.take k)).length : Int) = .ok (x, (frames (bs.take (k + 1))).length) := by
  rw [frames_split bs k x hx tail, next_frame _ _ _ (hb x (List.mem_of_getElem? hx)), frames_take_succ bs k x hx, List.length_append]
theorem pos_frames (bs : List (List UInt8)) (hb : ∀ x ∈ bs, x.length ≤ 65536) (tail : List UInt8) : ∀ k, k ≤ bs.length → Pos (frames bs ++ tail) k (frames (bs.take k)).length
  | 0, _ => .start
  | k + 1, h => by
    obtain ⟨x, hx⟩ : ∃ x, bs[k]? = some x := ⟨_, List.getElem?_eq_getElem (by omega)⟩
    exact .step (pos_frames bs hb tail k (by omega)) (next_frames bs hb tail k x hx)

theorem Pos.lt {b : List UInt8} {k p q r : Nat} (h : Pos b k p) (h' : Pos b q r) (hk : k < q) : ∃ z, next b p = .ok z := by
  induction h' with
  | start => omega
  | step h1 h2 ih =>
    rename_i k' at_ body en
    rcases Nat.lt_or_ge k k' with hlt | hge
    · exact ih hlt
    · obtain rfl : k = k' := by omega
      obtain rfl := h.det h1
      exact ⟨_, h2⟩
/-- the last place is the last -/
theorem Pos.end_ {b : List UInt8} {k p q s : Nat} {r r' : Int} (h : Pos b k p) (he : next b p = .error r) (h' : Pos b q s) (he' : next b s = .error r') : k = q ∧ p = s := by
  have hkq : k = q := by
    rcases Nat.lt_trichotomy k q with hlt | rfl | hlt
    · obtain ⟨z, hz⟩ := h.lt h' hlt
      rw [he] at hz; cases hz
    · rfl
    · obtain ⟨z, hz⟩ := h'.lt h hlt
      rw [he'] at hz; cases hz
  subst hkq
  exact ⟨rfl, h.det h'⟩
theorem GoodIs.det {b : List UInt8} {p q : Nat} {r s : Int} (h : GoodIs b p r) (h' : GoodIs b q s) : p = q ∧ r = s := by
  obtain ⟨k, hk, r1, e1, rfl⟩ := h
  obtain ⟨m, hm, r2, e2, rfl⟩ := h'
  obtain ⟨_, rfl⟩ := hk.end_ e1 hm e2
  rw [e1] at e2
  injection e2 with e2
  rw [e2]
  exact ⟨rfl, rfl⟩
/-- what lies behind a place is not ahead of it -/
theorem Pos.mono {b : List UInt8} {k p q s : Nat} (h : Pos b k p) (h' : Pos b q s) (hk : k ≤ q) : p ≤ s := by
  induction h' with
  | start => obtain rfl : k = 0 := by omega
             rw [h.det .start]; exact Nat.le_refl _
  | step h1 h2 ih =>
    rename_i k' at_ body en
    rcases Nat.lt_or_ge k (k' + 1) with hlt | hge
    · have := ih (by omega)
      have := (next_ok h2).1
      simp only at this; omega
    · obtain rfl : k = k' + 1 := by omega
      rw [h.det (.step h1 h2)]
      exact Nat.le_refl _
theorem next_end (b : List UInt8) : next b (b.length : Int) = .error 4 := by
  unfold next
  rw [if_neg (by omega), if_pos (by omega)]
end Go.Proofs.YtediidajdpdeiaaDoor

/- The document's Parse (layer 7): plain, and the walk. -/
namespace Go.Proofs.YtediidajdpdeiaaDoor
open Go.RowKit CrcM
set_option maxRecDepth 100000

/-- a segment's first number (-1: it has none), its records, and how many of its bytes are frames -/
def parseM (b : List UInt8) : Int × List (List UInt8) × Nat := match (framesOf b).1 with
  | [] => (-1, [], 0)
  | hd :: t => match readNum hd with
    | .error _ => (-1, [], 0)
    | .ok (n, s) => if s = hd.length then ((n : Int), t, (framesOf b).2) else (-1, [], 0)

theorem parseM_end {b : List UInt8} {bs : List (List UInt8)} {at_ : Nat} {base : Int} {recs : List (List UInt8)} {r : Int} (hg : Got b bs at_) (he : next b at_ = .error r) (hs : ScanSt (-1) bs base recs) : parseM b = (base, recs, at_) := by
  have hf := hg.all he
  unfold parseM
  cases bs with
  | nil =>
    obtain ⟨rfl, rfl⟩ := hs
    have := hg.zero rfl
    subst this
    rw [hf]
  | cons hd t =>
    obtain ⟨rfl, n, hn, rfl, -⟩ := hs
    rw [hf]
    simp only [hn, if_true]
theorem parseM_bad {b hd : List UInt8} {t : List (List UInt8)} (h : (framesOf b).1 = hd :: t) (hb : ∀ n : Nat, readNum hd ≠ .ok (n, hd.length)) : parseM b = (-1, [], 0) := by
  unfold parseM
  rw [h]
  simp only
  split
  · rfl
  · rename_i n s e
    rw [if_neg]
    intro h1
    subst h1
    exact hb n e

/-- WHAT Parse leaves -/
def ParseDid (w : World) (r : Int × List (List UInt8) × Nat) (e : Ending) (w' : World) : Prop :=
  ∃ R cr vals, e = .returned (.tuple #[.int .i64 r.1, .slice R r.2.1.length cr, .int .i64 (r.2.2 : Int)]) ∧ Row (fun x => w.heap.size ≤ x) w' TBs (.slice R r.2.1.length cr) vals ∧ Recs w' vals r.2.1 ∧ Below w.heap.size w w'

set_option maxHeartbeats 1000000 in
theorem parse_B (w : World) (A : Option Addr) (b : List UInt8) (c : Nat) (hr : Rd Non w A b) (hc : b.length ≤ c) (hl4 : b.length ≤ 8388608) :
    Calls Tryd.prog 101 #[.slice A b.length c] w (ParseDid w (parseM b)) := by
  obtain ⟨ib, hib, hzb, hsb, hbb⟩ := info_parts info_bs
  go_enter Tryd.func101, Tryd.ntmps101
  go_wp2
  go_loopw [5, 6, 7] (fun rv bv av wr => ∃ (bs : List (List UInt8)) (at_ : Nat) (base : Int) (recs : List (List UInt8)) (vals : List Value), bv = .int .i64 base ∧ av = .int .i64 (at_ : Int) ∧ Row (fun x => w.heap.size ≤ x) wr TBs rv vals ∧ Recs wr vals recs ∧ Got b bs at_ ∧ ScanSt (-1) bs base recs ∧ Below w.heap.size w wr) (fun _ _ a _ => b.length - (intOf a).toNat)
  case atStart => exact ⟨[], 0, -1, [], [], rfl, rfl, Row.nil _ _ _, Recs.nil _, .start, ⟨rfl, rfl⟩, Below.refl _ _⟩
  case round =>
    obtain ⟨bs, at_, base, recs, vals, rfl, rfl, hrow, hrec, hgot, hst, hb⟩ := hrel
    obtain ⟨R, cr, rfl, -⟩ := hrow.val
    have hvl : vals.length = recs.length := hrec.1
    obtain ⟨hg1, hg2, -⟩ := hgot.le
    have hnx := refNext_S wr A b c b.length (hr.below hb) rfl hc (by unfold maxLen; omega) (at_ : Int)
    have hfin : ∀ (r : Int) (W' : World), next b at_ = .error r → Below wr.heap.size wr W' → ParseDid w (parseM b) (.returned (.tuple #[.int .i64 base, .slice R vals.length cr, .int .i64 (at_ : Int)])) W' := fun r W' he hb' => by
      rw [parseM_end hgot he hst]
      refine ⟨R, cr, vals, by rw [hvl], ?_, hrec.fr (S' := Non) (Fr.of_below hb'), hb.trans (hb'.mono hb.size)⟩
      rw [← hvl]
      exact hrow.below hb'
    by_cases hlt : at_ < b.length
    · have hlt' : (at_ : Int) < (b.length : Int) := by omega
      cases hn : next b at_ with
      | error r =>
        have hr0 := next_err hn
        have hr1 : (r == 0) = false := beq_eq_false_iff_ne.2 hr0
        have hF := fun W' => hfin r W' hn
        have HN := Lib.hid hn
        clear hn hfin hvl hg1 hg2
        go_wp2_with (go_at_call 29; refine hnx.mono ?_; intro e w2 hd; unfold NextDid at hd; rw [HN.out] at hd; obtain ⟨rfl, hb2⟩ := hd)
        go_ret3
        exact hF _ hb2
      | ok q =>
        obtain ⟨body, en⟩ := q
        have hno := next_ok hn
        simp only at hno
        have hgot2 := hgot.step hn
        have HN := Lib.hid hn
        have hbl : body.length ≤ maxLen := by unfold maxLen; omega
        have HNO := Lib.hid hno
        clear hfin hno
        cases bs with
        | nil =>
          obtain rfl : at_ = 0 := hgot.zero rfl
          obtain ⟨rfl, rfl⟩ := hst
          obtain ⟨tl, htl⟩ := framesOf_first (b := b) hn
          have hv0 : vals = [] := List.eq_nil_of_length_eq_zero hvl
          subst hv0
          have hP := fun h => parseM_bad (b := b) htl h
          clear hn hvl htl
          cases hrn : readNum body with
          | error r =>
            have hr0 := readNum_err hrn
            have hr1 : (r == 0) = false := beq_eq_false_iff_ne.2 hr0
            have hr2 : (r != 0) = true := bne_iff_ne.2 hr0
            have HP := Lib.hid (hP (fun n h => by rw [hrn] at h; cases h))
            have HR := Lib.hid hrn
            clear hP hrn
            go_wp2_with (first
              | (go_at_call 29; refine hnx.mono ?_; intro e w2 hd; unfold NextDid at hd; rw [HN.out] at hd; obtain ⟨A2, c2, rfl, ho2, hc2, hm2, hb2⟩ := hd)
              | (go_at_call 128; refine (refReadNum_B w2 A2 c2 body (ho2.rd _) hbl).mono ?_; unfold ReadDid; rw [HR.out]; rintro e w3 ⟨rfl, rfl⟩))
            go_ret3
            unfold ParseDid
            rw [HP.out]
            exact ⟨none, 0, [], rfl, Row.nil _ _ _, Recs.nil _, hb.trans (hb2.mono hb.size)⟩
          | ok q =>
            obtain ⟨n, sz⟩ := q
            by_cases hsz : sz = body.length
            · subst hsz
              have HR := Lib.hid hrn
              have hrn' := hrn
              clear hP hrn
              go_wp2_with (first
                | (go_at_call 29; refine hnx.mono ?_; intro e w2 hd; unfold NextDid at hd; rw [HN.out] at hd; obtain ⟨A2, c2, rfl, ho2, hc2, hm2, hb2⟩ := hd)
                | (go_at_call 128; refine (refReadNum_B w2 A2 c2 body (ho2.rd _) hbl).mono ?_; unfold ReadDid; rw [HR.out]; rintro e w3 ⟨rfl, rfl⟩))
              go_roundw
              case rel => exact ⟨[body], en, (n : Int), [], [], rfl, rfl, hrow.below hb2, Recs.nil _, hgot2, ⟨rfl, n, HR.out, rfl, .inl (by decide)⟩, hb.trans (hb2.mono hb.size)⟩
              case measure => have := HNO.out; simp [intOf]; omega
            · have heq : ((sz : Int) != (body.length : Int)) = true := by rw [bne_iff_ne]; omega
              have HP := Lib.hid (hP (fun n' h => by rw [hrn] at h; injection h with h; injection h with _ h; exact hsz h))
              have HR := Lib.hid hrn
              clear hP hrn
              go_wp2_with (first
                | (go_at_call 29; refine hnx.mono ?_; intro e w2 hd; unfold NextDid at hd; rw [HN.out] at hd; obtain ⟨A2, c2, rfl, ho2, hc2, hm2, hb2⟩ := hd)
                | (go_at_call 128; refine (refReadNum_B w2 A2 c2 body (ho2.rd _) hbl).mono ?_; unfold ReadDid; rw [HR.out]; rintro e w3 ⟨rfl, rfl⟩))
              go_ret3
              unfold ParseDid
              rw [HP.out]
              exact ⟨none, 0, [], rfl, Row.nil _ _ _, Recs.nil _, hb.trans (hb2.mono hb.size)⟩
        | cons hd0 t =>
          obtain ⟨rfl, n0, hn0, rfl, -⟩ := hst
          rw [List.length_cons] at hg1
          have hpos : ((at_ : Int) == 0) = false := by rw [beq_eq_false_iff_ne]; omega
          have HV4 : vals.length + 1 ≤ maxLen := by unfold maxLen; omega
          have HV5 : (vals.length + 1) * 24 ≤ 140737488355328 := by omega
          have HV := Lib.hid hvl
          have HN0 := Lib.hid hn0
          clear hn hvl hn0
          go_wp2_with (first
            | (go_at_call 29; refine hnx.mono ?_; intro e w2 hd; unfold NextDid at hd; rw [HN.out] at hd; obtain ⟨A2, c2, rfl, ho2, hc2, hm2, hb2⟩ := hd)
            | (at_builtin; refine wpList_append_row rfl (.tmp 47) (.tmp 49) 45 rfl TBs ib _ 24 Tryd.underlying45 hib hzb hsb hbb rfl (.slice R vals.length cr) vals rfl ((hrow.below hb2).below (below_new _ _)) ⟨w2.heap.size, 0, none⟩ (.slice A2 body.length c2) rfl (heap_new_cell _ _ _) rfl HV4 HV5 (by decide) ?_; intro v5 w5 hrow5 hf5 hoth5; obtain ⟨A5, c5, rfl, hc5, hm5⟩ := hrow5.val; rw [List.length_append, List.length_singleton] at hrow5 hc5 ⊢))
          have hbn := below_new w2 (.cells #[.slice A2 body.length c2] TBs)
          have hw2 : w.heap.size ≤ w2.heap.size := Nat.le_trans hb.size hb2.size
          have hb5 : Below w.heap.size w w5 := ((hb.trans (hb2.mono hb.size)).trans (hbn.mono hw2)).trans ⟨hf5.os, hf5.tape, hf5.output, hf5.size, fun x hx => hf5.out x (Nat.lt_of_lt_of_le hx (Nat.le_trans hw2 hbn.size)) (fun hr => by have hr : w.heap.size ≤ x := hr; omega)⟩
          go_roundw
          case rel => exact ⟨(hd0 :: recs) ++ [body], en, (n0 : Int), recs ++ [body], _, rfl, rfl, hrow5.mono (fun x _ hx => hx.elim id (fun q => Nat.le_trans hw2 (Nat.le_trans hbn.size q.1))), (((hrec.fr (S' := Non) (Fr.of_below hb2)).fr (S' := Non) (Fr.of_below hbn)).fr hf5).snoc hc2 hm2 (((ho2.mono (fun _ _ => trivial)).fr (S' := Non) (Fr.of_below hbn)).fr hf5), hgot2, ⟨rfl, n0, HN0.out, rfl, .inl (by decide)⟩, hb5⟩
          case measure => have := HNO.out; simp [intOf]; omega
    · have he : at_ = b.length := by omega
      have hF := hfin 4 wr (by rw [he]; exact next_end b) (Below.refl _ _)
      have hlt' : ¬ (at_ : Int) < (b.length : Int) := by omega
      clear hfin he hvl
      go_wp2
      go_ret3
      exact hF
end Go.Proofs.YtediidajdpdeiaaDoor

/- The document's log (layer 7): plain, in memory, and the walks. -/
namespace Go.Proofs.YtediidajdpdeiaaDoor
open Go.RowKit CrcM
set_option maxRecDepth 100000

abbrev TRl : TypeId := 86
abbrev TPr : TypeId := 91

structure Rg where
  per : Nat
  disks : List Rk
  down : Bool

/-- all bytes of a disk -/
def Rk.all (R : Rk) : List UInt8 := R.kept ++ R.rest

/-- block b is a log of the document's: all of it laid open -/
structure RlogO (S H : Nat → Prop) (w : World) (b : Nat) (A : Option Addr) (c : Nat) (ps : List Nat) (L : Rg) : Prop where
  hS : ∀ x, H x → S x
  hb : H b
  blk : Blk w b TRl #[.int .i64 (L.per : Int), .slice A ps.length c, .bool L.down]
  row : Row H w TPr (.slice A ps.length c) (ps.map ptr)
  disks : Refs S H w ps L.disks
  lt : ∀ x, S x → x < w.heap.size
  per : 1 ≤ L.per ∧ L.per ≤ 1024
  few : L.disks.length ≤ 256
  small : ∀ R ∈ L.disks, R.kept.length + R.rest.length ≤ 4194304

section
variable {S H S' : Nat → Prop} {w w' : World} {b : Nat} {A : Option Addr} {c : Nat} {ps : List Nat} {L : Rg}
theorem RlogO.fr (h : RlogO S H w b A c ps L) (f : Fr S' w w') (hd : ∀ x, S x → S' x → IsB w x) : RlogO S H w' b A c ps L :=
  ⟨h.hS, h.hb, h.blk.fr f (fun hs => h.blk.notB (by decide) (hd _ (h.hS _ h.hb) hs)), h.row.fr f (fun x p q => hd x (h.hS x p) q), h.disks.fr f (fun x p _ q => hd x p q), fun x hx => Nat.lt_of_lt_of_le (h.lt x hx) f.size, h.per, h.few, h.small⟩
theorem RlogO.below (h : RlogO S H w b A c ps L) (hb : Below w.heap.size w w') : RlogO S H w' b A c ps L := h.fr (S' := Non) (Fr.of_below hb) (fun _ _ h => h.elim)
theorem RlogO.mono (h : RlogO S H w b A c ps L) (hs : ∀ x, S x → S' x) (hl : ∀ x, S' x → x < w.heap.size) : RlogO S' H w b A c ps L :=
  ⟨fun x p => hs x (h.hS x p), h.hb, h.blk, h.row, h.disks.mono (fun x _ => hs x) (fun _ _ _ h => h), hl, h.per, h.few, h.small⟩
theorem RlogO.facts {per : Nat} {ds : List Rk} {dn : Bool} (h : RlogO S H w b A c ps ⟨per, ds, dn⟩) :
    w.cell? ⟨b, 0, none⟩ = some (.int .i64 (per : Int)) ∧ w.cell? ⟨b, 1, none⟩ = some (.slice A ps.length c) ∧ w.cell? ⟨b, 2, none⟩ = some (.bool dn) ∧ w.frozen? ⟨b, 1, none⟩ = false ∧ w.frozen? ⟨b, 2, none⟩ = false ∧
    ps.length = ds.length ∧ ps.length ≤ 256 ∧ ps.length ≤ c ∧ c ≤ 9223372036854775807 := by
  have h1 := h.disks.len
  have h2 := h.few
  simp only at h1 h2
  obtain ⟨A', c', h4, h5, h6⟩ := h.row.val
  injection h4 with _ _ h4
  subst h4
  unfold maxLen at h6
  rw [List.length_map] at h5
  exact ⟨h.blk.cell 0 rfl, h.blk.cell 1 rfl, h.blk.cell 2 rfl, h.blk.frozen 1, h.blk.frozen 2, h1, by omega, h5, h6⟩
theorem RlogO.ptrAt (h : RlogO S H w b A c ps L) {k p : Nat} (hp : ps[k]? = some p) : ∃ g o, A = some ⟨g, o, none⟩ ∧ w.cell? ⟨g, o + k, none⟩ = some (.pointer (some ⟨p, 0, none⟩)) := by
  obtain ⟨g, o, c', h1, h2, h3, h4, _⟩ := h.row.cell (k := k) (u := ptr p) (by rw [List.getElem?_map, hp]; rfl)
  injection h1 with h1
  exact ⟨g, o, h1, h4⟩
/-- one disk, and what becomes of the log when it turns -/
theorem RlogO.disk {per : Nat} {ds : List Rk} {dn : Bool} (h : RlogO S H w b A c ps ⟨per, ds, dn⟩) {k p : Nat} {R : Rk} (hp : ps[k]? = some p) (hR : ds[k]? = some R) :
    ∃ (Sd : Nat → Prop) (A1 : Option Addr) (c1 : Nat) (A2 : Option Addr) (c2 : Nat), RefAt Sd w p A1 c1 A2 c2 R ∧ (∀ x, Sd x → S x) ∧
      ∀ w' R', Fr Sd w w' → IsRef (Up Sd w w') w' (.pointer (some ⟨p, 0, none⟩)) R' → R'.kept.length + R'.rest.length ≤ 4194304 → RlogO (Up S w w') H w' b A c ps ⟨per, ds.set k R', dn⟩ := by
  have hH : ∀ x, H x → x < w.heap.size := fun x hx => h.lt x (h.hS x hx)
  obtain ⟨Fi, hF, ⟨A1, c1, A2, c2, hs⟩, hup⟩ := h.disks.at hp hR
  refine ⟨Fi, A1, c1, A2, c2, hs, fun x hx => (hF x hx).1, fun w' R' f hd hsm => ?_⟩
  obtain ⟨p', A1', c1', A2', c2', e, hd⟩ := hd
  injection e with e
  injection e with e
  injection e with e
  subst e
  have hps : ps.set k p = ps := by
    apply List.ext_getElem?
    intro i
    rw [List.getElem?_set]
    split
    · rename_i hi
      subst hi
      rw [if_pos (List.getElem?_eq_some_iff.1 hp).1, hp]
    · rfl
  have hS := hup w' p R' f hH ⟨A1', c1', A2', c2', hd⟩
  rw [hps] at hS
  refine ⟨fun x hx => .inl (h.hS x hx), h.hb, h.blk.fr f (fun hs => (hF b hs).2.1 h.hb), h.row.fr f (fun x p q => ((hF x q).2.1 p).elim), hS, Up.lt h.lt f.size, h.per, by have := h.few; simpa using this, ?_⟩
  intro R2 hR2
  rcases List.mem_or_eq_of_mem_set hR2 with hm | rfl
  · exact h.small R2 hm
  · exact hsm
end
end Go.Proofs.YtediidajdpdeiaaDoor

/- A log, where a row of bytes that is none of its own turns (layer 7). -/
namespace Go.Proofs.YtediidajdpdeiaaDoor
open Go.RowKit CrcM
set_option maxRecDepth 100000

/-- no record lies in block r -/
abbrev holeAt (r : Nat) : Hole := ⟨fun x => x ≠ r⟩

/-- block r alone has turned -/
structure Mut (r : Nat) (w w' : World) : Prop where
  os : w'.os = w.os
  tape : w'.tape = w.tape
  output : w'.output = w.output
  size : w'.heap.size = w.heap.size
  out : ∀ x, x ≠ r → w'.heap[x]? = w.heap[x]?

section
variable {r : Nat} {w w' w1 : World}
theorem Mut.refl (r : Nat) (w : World) : Mut r w w := ⟨rfl, rfl, rfl, rfl, fun _ _ => rfl⟩
theorem Mut.setCell (h : Mut r w w') (i : Nat) (u : Value) : Mut r w (w'.setCell ⟨r, i, none⟩ u) :=
  ⟨h.os, h.tape, h.output, by have := h.size; simpa [World.setCell] using this, fun x hx => (Below.heap_setCell _ _ _ _ hx).trans (h.out x hx)⟩
theorem Mut.drew (h : Mut r w w') : Mut r w w'.drew := ⟨h.os, h.tape, h.output, h.size, h.out⟩
theorem Mut.blk {b : Nat} {t : TypeId} {cs : Array Value} (m : Mut r w w') (h : Blk w b t cs) (hb : b ≠ r) : Blk w' b t cs := h.eq (m.out b hb)
theorem Mut.isB {b : Nat} (m : Mut r w w') (h : IsB w b) (hb : b ≠ r) : IsB w' b := h.eq (m.out b hb)
theorem Mut.ne {S : Nat → Prop} (hS : ¬ S r) {x : Nat} (hx : S x) : x ≠ r := fun e => hS (e ▸ hx)
theorem Mut.own {S : Nat → Prop} {A : Option Addr} {l : List UInt8} (m : Mut r w w') (h : Own S w A l) (hS : ¬ S r) : Own S w' A l := fun j x hx => by
  obtain ⟨ad, e, hc, hb, hs⟩ := h j x hx
  have he := m.out ad.block (Mut.ne hS hs)
  exact ⟨ad, e, (cell_eq (by rw [add_block]; exact he)).trans hc, hb.eq he, hs⟩
theorem Mut.row {S : Nat → Prop} {e : TypeId} {v : Value} {vals : List Value} (m : Mut r w w') (h : Row S w e v vals) (hS : ¬ S r) : Row S w' e v vals := h.same fun x hx => m.out x (Mut.ne hS hx)
theorem Mut.disk {S : Nat → Prop} {b : Nat} {A : Option Addr} {c : Nat} {D : Dk} (m : Mut r w w') (h : DiskAt S w b A c D) (hS : ¬ S r) : DiskAt S w' b A c D :=
  ⟨m.blk h.blk (Mut.ne hS h.inS), m.own h.own hS, h.inS, fun x hx => by rw [m.size]; exact h.lt x hx, h.cap, h.ok⟩
theorem Mut.ref {S : Nat → Prop} {b : Nat} {A1 A2 : Option Addr} {c1 c2 : Nat} {R : Rk} (m : Mut r w w') (h : RefAt S w b A1 c1 A2 c2 R) (hS : ¬ S r) : RefAt S w' b A1 c1 A2 c2 R :=
  ⟨m.blk h.blk (Mut.ne hS h.inS), m.own h.own1 hS, m.own h.own2 hS, h.inS, fun x hx => by rw [m.size]; exact h.lt x hx, h.cap1, h.cap2, h.ok⟩
theorem Mut.refs {S H : Nat → Prop} {ps : List Nat} {ds : List Rk} (m : Mut r w w') (h : Refs S H w ps ds) (hS : ¬ S r) : Refs S H w' ps ds := by
  obtain ⟨F, h1, h2, h3, h4⟩ := h
  refine ⟨F, fun i x hx => ⟨(h1 i x hx).1, (h1 i x hx).2.1, by rw [m.size]; exact (h1 i x hx).2.2⟩, fun i j x n p q => m.isB (h2 i j x n p q) (Mut.ne hS (h1 i x p).1), h3, fun i p g hp hg => ?_⟩
  obtain ⟨A1, c1, A2, c2, hr⟩ := h4 i p g hp hg
  exact ⟨A1, c1, A2, c2, m.ref hr (fun hx => hS (h1 i r hx).1)⟩
theorem Mut.rlog {S H : Nat → Prop} {b : Nat} {A : Option Addr} {c : Nat} {ps : List Nat} {L : Rg} (m : Mut r w w') (h : RlogO S H w b A c ps L) (hS : ¬ S r) : RlogO S H w' b A c ps L :=
  ⟨h.hS, h.hb, m.blk h.blk (Mut.ne hS (h.hS _ h.hb)), m.row h.row (fun hx => hS (h.hS _ hx)), m.refs h.disks hS, fun x hx => by rw [m.size]; exact h.lt x hx, h.per, h.few, h.small⟩

/-- records that do not lie in r -/
theorem Mut.recs {vals : List Value} {recs : List (List UInt8)} (m : Mut r w w') (h : @Recs (holeAt r) w vals recs) : Recs w' vals recs :=
  ⟨h.1, fun i x hx => by
    obtain ⟨A, c, h1, h2, h3, h4⟩ := h.2 i x hx
    exact ⟨A, c, h1, h2, h3, Own.mono (m.own h4 (fun hh => hh rfl)) (fun _ _ => trivial)⟩⟩
theorem Mut.seg {S : Nat → Prop} {b : Nat} {g : Sg} (m : Mut r w w') (h : @SegAt (holeAt r) S w b g) (hS : ¬ S r) : SegAt S w' b g := by
  obtain ⟨⟨Sd, Sh, db, A, c, rv, vals, h1, h2, h3, h4, h5, h6, h7, h8⟩, hlt⟩ := h
  exact ⟨⟨Sd, Sh, db, A, c, rv, vals, h1, h2, fun x p q => m.isB (h3 x p q) (Mut.ne hS (h1 x p)), h4, m.blk h5 (Mut.ne hS (h2 _ h4)), m.disk h6 (fun hx => hS (h1 _ hx)), m.row h7 (fun hx => hS (h2 _ hx)), m.recs h8⟩, fun x hx => by rw [m.size]; exact hlt x hx⟩
theorem Mut.segs {S H : Nat → Prop} {ps : List Nat} {gs : List Sg} (m : Mut r w w') (h : @Segs (holeAt r) S H w ps gs) (hS : ¬ S r) : Segs S H w' ps gs := by
  obtain ⟨F, h1, h2, h3, h4⟩ := h
  exact ⟨F, fun i x hx => ⟨(h1 i x hx).1, (h1 i x hx).2.1, by rw [m.size]; exact (h1 i x hx).2.2⟩, fun i j x n p q => m.isB (h2 i j x n p q) (Mut.ne hS (h1 i x p).1), h3, fun i p g hp hg => m.seg (h4 i p g hp hg) (fun hx => hS (h1 i r hx).1)⟩
/-- r turns, and the log stands -/
theorem Mut.log {S H : Nat → Prop} {b : Nat} {A : Option Addr} {c : Nat} {ps : List Nat} {L : Lg} (m : Mut r w w') (h : @LogO (holeAt r) S H w b A c ps L) (hS : ¬ S r) : LogO S H w' b A c ps L := by
  obtain ⟨h1, h2, h3, h4, h5, h6, h7, h8⟩ := h
  exact ⟨h1, h2, m.blk h3 (Mut.ne hS (h1 _ h2)), m.row h4 (fun hx => hS (h1 _ hx)), m.segs h5 hS, fun x hx => by rw [m.size]; exact h6 x hx, h7, fun _ _ => trivial⟩

/-- a log that was there before r -/
theorem Recs.hold {vals : List Value} {recs : List (List UInt8)} (h : Recs w vals recs) (hr : w.heap.size ≤ r) : @Recs (holeAt r) w vals recs :=
  ⟨h.1, fun i x hx => by
    obtain ⟨A, c, h1, h2, h3, h4⟩ := h.2 i x hx
    refine ⟨A, c, h1, h2, h3, fun j y hy => ?_⟩
    obtain ⟨ad, e, hc, hb, hs⟩ := h4 j y hy
    exact ⟨ad, e, hc, hb, fun e' => by have := hb.lt; omega⟩⟩
theorem LogO.hold {S H : Nat → Prop} {b : Nat} {A : Option Addr} {c : Nat} {ps : List Nat} {L : Lg} (h : LogO S H w b A c ps L) (hb : Below w.heap.size w w') (hr : w.heap.size ≤ r) (hr' : r < w'.heap.size) : @LogO (holeAt r) S H w' b A c ps L := by
  have h' := h.below hb
  refine @LogO.mk (holeAt r) S H w' b A c ps L h'.hS h'.hb h'.blk h'.row ?_ h'.lt h'.ok (fun x hx => (show x ≠ r by omega))
  obtain ⟨F, h1, h2, h3, h4⟩ := h.segs
  refine ⟨F, fun i x hx => ⟨(h1 i x hx).1, (h1 i x hx).2.1, Nat.lt_of_lt_of_le (h1 i x hx).2.2 hb.size⟩, fun i j x n p q => (h2 i j x n p q).fr (S := Non) (Fr.of_below hb), h3, fun i p g hp hg => ?_⟩
  have hs : @SegAt (holeAt r) (F i) w p g := by
    obtain ⟨⟨Sd, Sh, db, A, c, rv, vals, k1, k2, k3, k4, k5, k6, k7, k8⟩, hlt⟩ := h4 i p g hp hg
    exact @SegAt.mk (holeAt r) (F i) w p g ⟨Sd, Sh, db, A, c, rv, vals, k1, k2, k3, k4, k5, k6, k7, k8.hold hr⟩ hlt
  exact @SegAt.fr (holeAt r) (F i) Non w w' p g hs (Fr.of_below hb) (fun _ _ h => h.elim)
end
end Go.Proofs.YtediidajdpdeiaaDoor
