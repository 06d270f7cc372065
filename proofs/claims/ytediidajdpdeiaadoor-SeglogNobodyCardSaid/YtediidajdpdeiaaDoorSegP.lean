/- What a crash leaves of frames one behind the other (layer 7), in plain words: bytes cut short, in which one byte at most is another, have a beginning of the frames, and no other. -/
import Derived.Test.YtediidajdpdeiaaDoorSegM
import Derived.Test.YtediidajdpdeiaaDoorCrcP
namespace Go.Proofs.YtediidajdpdeiaaDoor
open CrcM

/-- u says what v says, but where P allows another -/
def Ag (P : Nat → Prop) (u v : List UInt8) : Prop := ∀ j, j < u.length → ¬ P j → u[j]? = v[j]?
def One (P : Nat → Prop) : Prop := ∀ j k, P j → P k → j = k
/-- s is a beginning of o in which one byte at most is another -/
def Near (o s : List UInt8) : Prop := s.length ≤ o.length ∧ ∃ P : Nat → Prop, One P ∧ Ag P s o

theorem One.shift {P : Nat → Prop} (h : One P) (n : Nat) : One (fun j => P (j + n)) := fun j k hj hk => by
  have := h _ _ hj hk; omega
theorem Ag.eq {P : Nat → Prop} {u v : List UInt8} (h : Ag P u v) (hl : u.length = v.length) (hp : ∀ j, j < u.length → ¬ P j) : u = v := by
  apply List.ext_getElem?
  intro j
  by_cases hj : j < u.length
  · exact h j hj (hp j hj)
  · rw [List.getElem?_eq_none_iff.2 (by omega), List.getElem?_eq_none_iff.2 (by omega)]
theorem Ag.left {P : Nat → Prop} {u v o p : List UInt8} (h : Ag P (u ++ v) (o ++ p)) (hl : u.length = o.length) : Ag P u o := fun j hj hn => by
  have := h j (by rw [List.length_append]; omega) hn
  rwa [List.getElem?_append_left hj, List.getElem?_append_left (by omega)] at this
theorem Ag.right {P : Nat → Prop} {u v o p : List UInt8} (h : Ag P (u ++ v) (o ++ p)) (hl : u.length = o.length) : Ag (fun j => P (j + u.length)) v p := fun j hj hn => by
  have := h (j + u.length) (by rw [List.length_append]; omega) hn
  rwa [List.getElem?_append_right (by omega), List.getElem?_append_right (by omega), Nat.add_sub_cancel, ← hl, Nat.add_sub_cancel] at this
theorem Ag.sum {P : Nat → Prop} {u v : List UInt8} (ho : One P) (h : Ag P u v) (hl : u.length = v.length) (hs : sum u = sum v) : u = v := by
  by_cases hp : ∃ i, i < u.length ∧ P i
  · obtain ⟨i, hi, hpi⟩ := hp
    obtain ⟨y, hy⟩ : ∃ y, u[i]? = some y := ⟨_, List.getElem?_eq_getElem hi⟩
    obtain ⟨x, hx⟩ : ∃ x, v[i]? = some x := ⟨_, List.getElem?_eq_getElem (by omega)⟩
    have e : u = v.set i y := by
      apply List.ext_getElem?
      intro j
      rw [List.getElem?_set]
      by_cases hj : i = j
      · subst hj
        rw [if_pos rfl, if_pos (by omega), hy]
      · rw [if_neg hj]
        by_cases hlt : j < u.length
        · exact h j hlt (fun hpj => hj (ho _ _ hpi hpj))
        · rw [List.getElem?_eq_none_iff.2 (by omega), List.getElem?_eq_none_iff.2 (by omega)]
    by_cases hxy : y = x
    · subst hxy
      rw [e]
      apply List.ext_getElem?
      intro j
      rw [List.getElem?_set]
      split
      · rename_i hj
        subst hj
        rw [if_pos (by omega), hx]
      · rfl
    · exact (sum_set hx hxy (by rw [← e]; exact hs)).elim
  · exact h.eq hl fun j hj hpj => hp ⟨j, hj, hpj⟩

theorem split12 (s : List UInt8) (h : 12 ≤ s.length) : ∃ a b c x : List UInt8, s = a ++ (b ++ (c ++ x)) ∧ a.length = 4 ∧ b.length = 4 ∧ c.length = 4 := by
  refine ⟨s.take 4, (s.drop 4).take 4, (s.drop 8).take 4, s.drop 12, ?_, by rw [List.length_take]; omega, by rw [List.length_take, List.length_drop]; omega, by rw [List.length_take, List.length_drop]; omega⟩
  have e1 : s.drop 12 = (s.drop 8).drop 4 := by rw [List.drop_drop]
  have e2 : s.drop 8 = (s.drop 4).drop 4 := by rw [List.drop_drop]
  rw [e1, List.take_append_drop, e2, List.take_append_drop, List.take_append_drop]

theorem Near.next {b rest s pre z : List UInt8} {en : Nat} (hb : b.length ≤ 65536) (h : Near (frame b ++ rest) s) (hn : next (pre ++ s) (pre.length : Int) = .ok (z, en)) :
    z = b ∧ en = pre.length + (frame b).length ∧ ∃ s', s = frame b ++ s' ∧ Near rest s' := by
  obtain ⟨hle, P, ho, hag⟩ := h
  have h12 : 12 ≤ s.length := by
    apply Nat.le_of_not_lt
    intro h12
    unfold Go.Proofs.YtediidajdpdeiaaDoor.next at hn
    rw [if_neg (by rw [List.length_append]; omega), if_pos (by rw [List.length_append]; omega)] at hn
    cases hn
  obtain ⟨a, b', c, x, rfl, ha, hb', hc⟩ := split12 s h12
  have hs1 := (sum (four b.length)).isLt
  have hs2 := (sum b).isLt
  rw [next_of _ _ _ _ _ ha hb' hc] at hn
  have e : frame b ++ rest = four b.length ++ (four (sum (four b.length)).toNat ++ (four (sum b).toNat ++ (b ++ rest))) := by simp only [frame, List.append_assoc]
  rw [e] at hag hle
  have pa := hag.left (by rw [ha, length_four])
  have h1 := hag.right (by rw [ha, length_four])
  have pb := h1.left (by rw [hb', length_four])
  have h2 := h1.right (by rw [hb', length_four])
  have pc := h2.left (by rw [hc, length_four])
  have px := h2.right (by rw [hc, length_four])
  clear h1 h2 hag
  rw [ha] at pb pc px
  rw [hb'] at pc px
  rw [hc] at px
  split at hn
  · cases hn
  rename_i g1
  split at hn
  · cases hn
  split at hn
  · cases hn
  rename_i g3
  split at hn
  · cases hn
  rename_i g4
  injection hn with hn
  injection hn with hz hen
  have g1 : (sum a).toNat = num4 b' := Classical.not_not.1 g1
  have g4 : (sum (x.take (num4 a))).toNat = num4 c := Classical.not_not.1 g4
  have ea : a = four b.length := by
    by_cases hp : ∃ i, i < a.length ∧ P i
    · obtain ⟨i, hi, hpi⟩ := hp
      have eb : b' = four (sum (four b.length)).toNat := pb.eq (by rw [hb', length_four]) fun j hj hpj => by have := ho _ _ hpi hpj; omega
      rw [eb, num4_four' _ hs1] at g1
      exact pa.sum ho (by rw [ha, length_four]) (BitVec.eq_of_toNat_eq g1)
    · exact pa.eq (by rw [ha, length_four]) fun j hj hpj => hp ⟨j, hj, hpj⟩
  subst ea
  have eb : b' = four (sum (four b.length)).toNat := num4_inj hb' (length_four _) (by rw [num4_four' _ hs1]; exact g1.symm)
  subst eb
  rw [num4_four' _ (by omega)] at g3 g4 hz hen
  have hl : (x.take b.length).length = b.length := by rw [List.length_take]; omega
  have py : Ag (fun j => P (j + 4 + 4 + 4)) (x.take b.length) b := fun j hj hn => by
    have := px j (by omega) hn
    rw [List.getElem?_append_left (by omega)] at this
    rw [List.getElem?_take_of_lt (by omega)]
    exact this
  have ey : x.take b.length = b := by
    by_cases hp : ∃ i, i < (x.take b.length).length ∧ P (i + 4 + 4 + 4)
    · obtain ⟨i, hi, hpi⟩ := hp
      have ec : c = four (sum b).toNat := pc.eq (by rw [hc, length_four]) fun j hj hpj => by have := ho _ _ hpi hpj; omega
      rw [ec, num4_four' _ hs2] at g4
      exact py.sum (((ho.shift 4).shift 4).shift 4) hl (BitVec.eq_of_toNat_eq g4)
    · exact py.eq hl fun j hj hpj => hp ⟨j, hj, hpj⟩
  have ec : c = four (sum b).toNat := num4_inj hc (length_four _) (by rw [num4_four' _ hs2, ← g4, ey])
  subst ec
  have ex : x = b ++ x.drop b.length := by
    conv => lhs; rw [← List.take_append_drop b.length x]
    rw [ey]
  refine ⟨hz ▸ ey, by rw [← hen, length_frame]; omega, x.drop b.length, ?_, ?_, fun j => P (j + b.length + 4 + 4 + 4), ?_, ?_⟩
  · conv => lhs; rw [ex]
    simp only [frame, List.append_assoc]
  · simp only [List.length_append, length_four] at hle
    rw [List.length_drop]
    omega
  · exact (((ho.shift 4).shift 4).shift 4).shift b.length
  · rw [ex] at px
    exact px.right rfl

theorem Near.refl (o : List UInt8) : Near o o := ⟨Nat.le_refl _, fun _ => False, fun _ _ h => h.elim, fun _ _ _ => rfl⟩

theorem framesF_near : ∀ (bodies : List (List UInt8)) (pre s : List UInt8) (f : Nat), (∀ b ∈ bodies, b.length ≤ 65536) → Near (frames bodies) s → s.length < f →
    ∃ (m : Nat) (s' : List UInt8), m ≤ bodies.length ∧ framesF f (pre ++ s) pre.length = (bodies.take m, pre.length + (frames (bodies.take m)).length) ∧ s = frames (bodies.take m) ++ s' ∧ ∀ j, j ≤ bodies.length → frames (bodies.take j) <+: s → j ≤ m
  | [], pre, s, f, _, hn, hf => by
    have hs : s = [] := List.eq_nil_of_length_eq_zero (by have := hn.1; simpa [frames] using this)
    subst hs
    refine ⟨0, [], Nat.le_refl _, ?_, rfl, fun j hj _ => hj⟩
    cases f with
    | zero => rfl
    | succ f =>
      have := next_end (pre ++ [])
      rw [List.append_nil] at this ⊢
      rw [framesF, this]
      rfl
  | b :: rest, pre, s, f, hb, hn, hf => by
    cases f with
    | zero => omega
    | succ f =>
      have hb0 := hb b (List.mem_cons_self ..)
      cases hr : next (pre ++ s) (pre.length : Int) with
      | error r =>
        refine ⟨0, s, Nat.zero_le _, ?_, rfl, fun j hj hp => ?_⟩
        · rw [framesF, hr]
          rfl
        · match j, hj, hp with
          | 0, _, _ => exact Nat.le_refl _
          | j + 1, hj, hp =>
            rw [List.take_succ_cons, frames_cons] at hp
            obtain ⟨t, ht⟩ := hp
            rw [List.append_assoc] at ht
            have := next_frame pre b (frames (rest.take j) ++ t) hb0
            rw [ht, hr] at this
            cases this
      | ok p =>
        obtain ⟨z, en⟩ := p
        rw [frames_cons] at hn
        obtain ⟨rfl, rfl, s', rfl, hn'⟩ := hn.next hb0 hr
        have hl := length_frame z
        have hfl : s'.length < f := by rw [List.length_append] at hf; omega
        obtain ⟨m, t, hm, he, ht, hj⟩ := framesF_near rest (pre ++ frame z) s' f (fun x hx => hb x (List.mem_cons_of_mem _ hx)) hn' hfl
        refine ⟨m + 1, t, by simpa using hm, ?_, ?_, fun j hj' hp => ?_⟩
        · rw [framesF, hr]
          simp only
          rw [List.append_assoc, List.length_append] at he
          rw [he, List.take_succ_cons, frames_cons, List.length_append, Nat.add_assoc]
        · rw [List.take_succ_cons, frames_cons, List.append_assoc, ← ht]
        · match j, hj', hp with
          | 0, _, _ => omega
          | j + 1, hj', hp =>
            rw [List.take_succ_cons, frames_cons] at hp
            have := hj j (by simpa using hj') ((List.prefix_append_right_inj _).1 hp)
            omega

theorem framesOf_near {bodies : List (List UInt8)} {s : List UInt8} (hb : ∀ b ∈ bodies, b.length ≤ 65536) (hn : Near (frames bodies) s) :
    ∃ (m : Nat) (s' : List UInt8), m ≤ bodies.length ∧ framesOf s = (bodies.take m, (frames (bodies.take m)).length) ∧ s = frames (bodies.take m) ++ s' ∧ ∀ j, j ≤ bodies.length → frames (bodies.take j) <+: s → j ≤ m := by
  obtain ⟨m, s', h1, h2, h3, h4⟩ := framesF_near bodies [] s (s.length + 1) hb hn (Nat.lt_succ_self _)
  refine ⟨m, s', h1, ?_, h3, h4⟩
  rw [List.nil_append, List.length_nil, Nat.zero_add] at h2
  exact h2

/-- what a crash leaves -/
theorem near_torn (all : List UInt8) (kept : Nat) (keep flip : Int) (hk : kept ≤ all.length) : Near all (all.take kept ++ torn (all.drop kept) keep flip) ∧ all.take kept <+: all.take kept ++ torn (all.drop kept) keep flip := by
  refine ⟨⟨?_, fun j => j = kept + flip.toNat / 8, fun j k hj hk => by rw [hj, hk], fun j hj hn => ?_⟩, List.prefix_append _ _⟩
  · have := length_torn_le (all.drop kept) keep flip
    rw [List.length_append, List.length_take]
    rw [List.length_drop] at this
    omega
  · have hl : (all.take kept).length = kept := by rw [List.length_take]; omega
    by_cases hjk : j < kept
    · rw [List.getElem?_append_left (by omega), List.getElem?_take_of_lt hjk]
    · have hlt : j - kept < (torn (all.drop kept) keep flip).length := by rw [List.length_append] at hj; omega
      rw [List.getElem?_append_right (by omega), hl]
      rw [length_torn] at hlt
      have e : (all.drop kept)[j - kept]? = all[j]? := by rw [List.getElem?_drop]; congr 1; omega
      rw [← e]
      unfold torn
      split
      · unfold turn
        have hne : ¬ flip.toNat / 8 = j - kept := by
          have hn : ¬ j = kept + flip.toNat / 8 := hn
          omega
        rw [List.getElem?_modify, List.getElem?_take_of_lt (by omega)]
        simp [hne]
      · rw [List.getElem?_take_of_lt (by omega)]
end Go.Proofs.YtediidajdpdeiaaDoor
