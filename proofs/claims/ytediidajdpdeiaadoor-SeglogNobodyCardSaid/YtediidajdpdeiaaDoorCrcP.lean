/- Frames, plainly: what Next, Good and All answer of framed bytes. No program is in sight. -/
import Derived.Test.YtediidajdpdeiaaDoorGood
namespace Go.Proofs.YtediidajdpdeiaaDoor
open CrcM

theorem num4_app (a l : List UInt8) (h : a.length = 4) : num4 (a ++ l) = num4 a := by
  match a, h with
  | [_, _, _, _], _ => rfl
theorem num4_lt4 (a : List UInt8) : num4 a < 4294967296 := num4_lt a
theorem num4_four' (n : Nat) (h : n < 4294967296) : num4 (four n) = n := by
  have := num4_four n h []
  rwa [List.append_nil] at this
theorem num4_inj {a b : List UInt8} (ha : a.length = 4) (hb : b.length = 4) (h : num4 a = num4 b) : a = b := by
  match a, ha, b, hb, h with
  | [a0, a1, a2, a3], _, [b0, b1, b2, b3], _, h =>
    have e : ∀ x0 x1 x2 x3 : UInt8, num4 [x0, x1, x2, x3] = x0.toNat + x1.toNat * 256 + x2.toNat * 65536 + x3.toNat * 16777216 := fun _ _ _ _ => rfl
    rw [e, e] at h
    have := a0.toNat_lt
    have := a1.toNat_lt
    have := a2.toNat_lt
    have := a3.toNat_lt
    have := b0.toNat_lt
    have := b1.toNat_lt
    have := b2.toNat_lt
    have := b3.toNat_lt
    have h0 : a0 = b0 := UInt8.toNat_inj.1 (by omega)
    have h1 : a1 = b1 := UInt8.toNat_inj.1 (by omega)
    have h2 : a2 = b2 := UInt8.toNat_inj.1 (by omega)
    have h3 : a3 = b3 := UInt8.toNat_inj.1 (by omega)
    rw [h0, h1, h2, h3]

/-- what Next answers where twelve bytes stand, and others behind -/
theorem next_of (pre a b c x : List UInt8) (ha : a.length = 4) (hb : b.length = 4) (hc : c.length = 4) :
    next (pre ++ (a ++ (b ++ (c ++ x)))) (pre.length : Int) =
      if (sum a).toNat ≠ num4 b then .error 6
      else if 65536 < num4 a then .error 3
      else if x.length < num4 a then .error 4
      else if (sum (x.take (num4 a))).toNat ≠ num4 c then .error 6
      else .ok (x.take (num4 a), pre.length + 12 + num4 a) := by
  have hL : (pre ++ (a ++ (b ++ (c ++ x)))).length = pre.length + (12 + x.length) := by
    simp only [List.length_append, ha, hb, hc]; omega
  unfold next
  rw [if_neg (by rw [hL]; omega), if_neg (by rw [hL]; omega), Int.toNat_natCast]
  have hd : (pre ++ (a ++ (b ++ (c ++ x)))).drop (pre.length + 12) = x := by
    have h1 : pre ++ (a ++ (b ++ (c ++ x))) = (pre ++ (a ++ (b ++ c))) ++ x := by simp only [List.append_assoc]
    rw [h1]
    exact List.drop_left' (by simp only [List.length_append, ha, hb, hc])
  have ht : ((pre ++ (a ++ (b ++ (c ++ x)))).take (pre.length + 12)).drop pre.length = a ++ (b ++ c) := by
    have h1 : pre ++ (a ++ (b ++ (c ++ x))) = (pre ++ (a ++ (b ++ c))) ++ x := by simp only [List.append_assoc]
    rw [h1, List.take_left' (by simp only [List.length_append, ha, hb, hc]), List.drop_left' rfl]
  have e1 : (a ++ (b ++ c)).take 4 = a := List.take_left' ha
  have e2 : (a ++ (b ++ c)).drop 4 = b ++ c := List.drop_left' ha
  have e3 : (a ++ (b ++ c)).drop 8 = c := by
    rw [← List.append_assoc]
    exact List.drop_left' (by simp only [List.length_append, ha, hb])
  simp only [hd, ht, e1, e2, e3, num4_app a _ ha, num4_app b _ hb]

theorem next_frame (pre body post : List UInt8) (h : body.length ≤ 65536) : next (pre ++ (frame body ++ post)) (pre.length : Int) = .ok (body, pre.length + (frame body).length) := by
  have hs1 := (sum (four body.length)).isLt
  have hs2 := (sum body).isLt
  have e : pre ++ (frame body ++ post) = pre ++ (four body.length ++ (four (sum (four body.length)).toNat ++ (four (sum body).toNat ++ (body ++ post)))) := by
    simp only [frame, List.append_assoc]
  rw [e, next_of _ _ _ _ _ (length_four _) (length_four _) (length_four _), num4_four' body.length (by omega), num4_four' _ hs1, num4_four' _ hs2]
  rw [if_neg (by simp), if_neg (by omega), if_neg (by simp), List.take_left' rfl, if_neg (by simp), length_frame]
  congr 2
  omega

/-- cut anywhere a frame is short -/
theorem next_cut (body : List UInt8) (h : body.length ≤ 65536) (i : Nat) (hi : i < (frame body).length) : next ((frame body).take i) 0 = .error 4 := by
  by_cases h12 : i < 12
  · unfold next
    have hl : ((frame body).take i).length = i := by rw [List.length_take]; omega
    rw [if_neg (by rw [hl]; omega), if_pos (by rw [hl]; omega)]
  · have hs1 := (sum (four body.length)).isLt
    have hs2 := (sum body).isLt
    rw [length_frame] at hi
    have e : (frame body).take i = [] ++ (four body.length ++ (four (sum (four body.length)).toNat ++ (four (sum body).toNat ++ body.take (i - 12)))) := by
      rw [List.nil_append, frame, List.take_append, List.take_append, List.take_append, List.take_of_length_le (by rw [length_four]; omega), List.take_of_length_le (by rw [length_four, length_four]; omega), List.take_of_length_le (by simp only [length_four]; omega)]
      simp only [length_four]
      rw [show i - 4 - 4 - 4 = i - 12 by omega]
    have h0 := next_of [] (four body.length) (four (sum (four body.length)).toNat) (four (sum body).toNat) (body.take (i - 12)) (length_four _) (length_four _) (length_four _)
    rw [← e, num4_four' body.length (by omega), num4_four' _ hs1, num4_four' _ hs2, if_neg (by simp), if_neg (by omega), if_pos (by rw [List.length_take]; omega)] at h0
    exact h0

theorem set_app {α : Type} (l : List α) (i : Nat) (x y : α) (h : l[i]? = some x) : l = l.take i ++ x :: l.drop (i + 1) ∧ l.set i y = l.take i ++ y :: l.drop (i + 1) := by
  obtain ⟨hlt, e⟩ := List.getElem?_eq_some_iff.1 h
  refine ⟨?_, List.set_eq_take_append_cons_drop.trans (if_pos hlt)⟩
  conv => lhs; rw [← List.take_append_drop i l]
  rw [List.drop_eq_getElem_cons hlt, e]

/-- a byte turned: other bytes -/
theorem set_ne {l : List UInt8} {i : Nat} {x y : UInt8} (h : l[i]? = some x) (hxy : y ≠ x) : l.set i y ≠ l := by
  obtain ⟨e1, e2⟩ := set_app l i x y h
  intro e
  have := List.append_cancel_left (e2.symm.trans (e.trans e1))
  injection this with h1 _
  exact hxy h1
theorem sum_set {l : List UInt8} {i : Nat} {x y : UInt8} (h : l[i]? = some x) (hxy : y ≠ x) : sum (l.set i y) ≠ sum l := by
  obtain ⟨e1, e2⟩ := set_app l i x y h
  intro e
  exact hxy (sum_one ((congrArg sum e2).symm.trans (e.trans (congrArg sum e1))))

theorem next_turned (body : List UInt8) (h : body.length ≤ 65536) (i : Nat) (x y : UInt8) (hx : (frame body)[i]? = some x) (hxy : y ≠ x) : next ((frame body).set i y) 0 = .error 6 := by
  have hs1 := (sum (four body.length)).isLt
  have hs2 := (sum body).isLt
  have hn : body.length < 4294967296 := by omega
  have hi : i < (frame body).length := (List.getElem?_eq_some_iff.1 hx).1
  rw [length_frame] at hi
  unfold frame at hx ⊢
  generalize hs1' : (sum (four body.length)).toNat = s1 at *
  generalize hs2' : (sum body).toNat = s2 at *
  have go : ∀ a b c z : List UInt8, a.length = 4 → b.length = 4 → c.length = 4 → next (a ++ (b ++ (c ++ z))) 0 =
      if (sum a).toNat ≠ num4 b then .error 6 else if 65536 < num4 a then .error 3 else if z.length < num4 a then .error 4
      else if (sum (z.take (num4 a))).toNat ≠ num4 c then .error 6 else .ok (z.take (num4 a), 0 + 12 + num4 a) := fun a b c z ha hb hc => next_of [] a b c z ha hb hc
  have l4 := length_four body.length
  have l41 := length_four s1
  have l42 := length_four s2
  by_cases h1 : i < 4
  · rw [List.getElem?_append_left (by omega)] at hx
    rw [List.set_append_left _ _ (by omega), go _ _ _ _ (by rw [List.length_set]; exact l4) l41 l42, if_pos]
    rw [num4_four' _ hs1, ← hs1']
    intro e
    exact sum_set hx hxy (BitVec.eq_of_toNat_eq e)
  · rw [List.getElem?_append_right (by omega), l4] at hx
    rw [List.set_append_right _ _ (by omega), l4]
    by_cases h2 : i < 8
    · rw [List.getElem?_append_left (by omega)] at hx
      rw [List.set_append_left _ _ (by omega), go _ _ _ _ l4 (by rw [List.length_set]; exact l41) l42, if_pos]
      rw [hs1']
      intro e
      exact set_ne hx hxy (num4_inj (by rw [List.length_set]; exact l41) l41 (e.symm.trans (num4_four' _ hs1).symm))
    · rw [List.getElem?_append_right (by omega), l41] at hx
      rw [List.set_append_right _ _ (by omega), l41]
      by_cases h3 : i < 12
      · rw [List.getElem?_append_left (by omega)] at hx
        rw [List.set_append_left _ _ (by omega), go _ _ _ _ l4 l41 (by rw [List.length_set]; exact l42), hs1', num4_four' _ hs1, num4_four' _ hn, if_neg (by simp), if_neg (by omega), if_neg (by omega), if_pos]
        rw [List.take_of_length_le (Nat.le_refl _), hs2']
        intro e
        exact set_ne hx hxy (num4_inj (by rw [List.length_set]; exact l42) l42 (e.symm.trans (num4_four' _ hs2).symm))
      · rw [List.getElem?_append_right (by omega), l42] at hx
        rw [List.set_append_right _ _ (by omega), l42, go _ _ _ _ l4 l41 l42, hs1', num4_four' _ hs1, num4_four' _ hn, num4_four' _ hs2, if_neg (by simp), if_neg (by omega), if_neg (by rw [List.length_set]; omega), if_pos]
        rw [List.take_of_length_le (by rw [List.length_set]; exact Nat.le_refl _), ← hs2']
        intro e
        exact sum_set hx hxy (BitVec.eq_of_toNat_eq e)

/-- frames one behind the other -/
def frames (bs : List (List UInt8)) : List UInt8 := (bs.map frame).flatten
theorem frames_cons (x : List UInt8) (bs : List (List UInt8)) : frames (x :: bs) = frame x ++ frames bs := rfl
theorem frames_append (a b : List (List UInt8)) : frames (a ++ b) = frames a ++ frames b := by simp [frames]
theorem frames_split (bs : List (List UInt8)) (k : Nat) (x : List UInt8) (hx : bs[k]? = some x) (tail : List UInt8) :
    frames bs ++ tail = frames (bs.take k) ++ (frame x ++ (frames (bs.drop (k + 1)) ++ tail)) := by
  obtain ⟨e, -⟩ := set_app bs k x x hx
  have : frames bs = frames (bs.take k) ++ (frame x ++ frames (bs.drop (k + 1))) := by
    conv => lhs; rw [e]
    rw [frames_append, frames_cons]
  rw [this]
  simp only [List.append_assoc]
theorem frames_take_succ (bs : List (List UInt8)) (k : Nat) (x : List UInt8) (hx : bs[k]? = some x) : frames (bs.take (k + 1)) = frames (bs.take k) ++ frame x := by
  rw [List.take_add_one, hx, frames_append]
  simp [frames]
theorem next_frames (bs : List (List UInt8)) (hb : ∀ x ∈ bs, x.length ≤ 65536) (tail : List UInt8) (k : Nat) (x : List UInt8) (hx : bs[k]? = some x) :
    next (frames bs ++ tail) ((frames (bs.take k)).length : Int) = .ok (x, (frames (bs.take (k + 1))).length) := by
  rw [frames_split bs k x hx tail, next_frame _ _ _ (hb x (List.mem_of_getElem? hx)), frames_take_succ bs k x hx, List.length_append]
theorem pos_frames (bs : List (List UInt8)) (hb : ∀ x ∈ bs, x.length ≤ 65536) (tail : List UInt8) : ∀ k, k ≤ bs.length → Pos (frames bs ++ tail) k (frames (bs.take k)).length
  | 0, _ => .start
  | k + 1, h => by
    obtain ⟨x, hx⟩ : ∃ x, bs[k]? = some x := ⟨_, List.getElem?_eq_getElem (by omega)⟩
    exact .step (pos_frames bs hb tail k (by omega)) (next_frames bs hb tail k x hx)

theorem Pos.lt {b : List UInt8} {k p q r : Nat} (h : Pos b k p) (h' : Pos b q r) (hk : k < q) : ∃ z, next b p = .ok z := by
  induction h' with
  | start => omega
  | step h1 h2 ih =>
    rename_i k' at_ body en
    rcases Nat.lt_or_ge k k' with hlt | hge
    · exact ih hlt
    · obtain rfl : k = k' := by omega
      obtain rfl := h.det h1
      exact ⟨_, h2⟩
/-- the last place is the last -/
theorem Pos.end_ {b : List UInt8} {k p q s : Nat} {r r' : Int} (h : Pos b k p) (he : next b p = .error r) (h' : Pos b q s) (he' : next b s = .error r') : k = q ∧ p = s := by
  have hkq : k = q := by
    rcases Nat.lt_trichotomy k q with hlt | rfl | hlt
    · obtain ⟨z, hz⟩ := h.lt h' hlt
      rw [he] at hz; cases hz
    · rfl
    · obtain ⟨z, hz⟩ := h'.lt h hlt
      rw [he'] at hz; cases hz
  subst hkq
  exact ⟨rfl, h.det h'⟩
theorem GoodIs.det {b : List UInt8} {p q : Nat} {r s : Int} (h : GoodIs b p r) (h' : GoodIs b q s) : p = q ∧ r = s := by
  obtain ⟨k, hk, r1, e1, rfl⟩ := h
  obtain ⟨m, hm, r2, e2, rfl⟩ := h'
  obtain ⟨_, rfl⟩ := hk.end_ e1 hm e2
  rw [e1] at e2
  injection e2 with e2
  rw [e2]
  exact ⟨rfl, rfl⟩
/-- what lies behind a place is not ahead of it -/
theorem Pos.mono {b : List UInt8} {k p q s : Nat} (h : Pos b k p) (h' : Pos b q s) (hk : k ≤ q) : p ≤ s := by
  induction h' with
  | start => obtain rfl : k = 0 := by omega
             rw [h.det .start]; exact Nat.le_refl _
  | step h1 h2 ih =>
    rename_i k' at_ body en
    rcases Nat.lt_or_ge k (k' + 1) with hlt | hge
    · have := ih (by omega)
      have := (next_ok h2).1
      simp only at this; omega
    · obtain rfl : k = k' + 1 := by omega
      rw [h.det (.step h1 h2)]
      exact Nat.le_refl _
theorem next_end (b : List UInt8) : next b (b.length : Int) = .error 4 := by
  unfold next
  rw [if_neg (by omega), if_pos (by omega)]
end Go.Proofs.YtediidajdpdeiaaDoor
