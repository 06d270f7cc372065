/- What a crash leaves of frames one behind the other (layer 7), in plain words: bytes cut short, in which one byte at most is another, have a beginning of the frames, and no other. -/
import Derived.Test.YtediidajdpdeiaaGreatDoorJ2
import Derived.Test.YtediidajdpdeiaaGreatDoorJ8
import Derived.Test.YtediidajdpdeiaaGreatDoorJ0
import Derived.OpenShut
import Derived.ChangeSame
import Derived.Deep.Slices
import Derived.Deep.Fields
import Derived.Carry
import Derived.Test.YtediidajdpdeiaaGreatDoorJ3
import Derived.Test.YtediidajdpdeiaaGreatDoorJ9

namespace Go.Proofs.YtediidajdpdeiaaGreatDoor
open CrcM

/-- u says what v says, but where P allows another -/
def Ag (P : Nat → Prop) (u v : List UInt8) : Prop := ∀ j, j < u.length → ¬ P j → u[j]? = v[j]?
def One (P : Nat → Prop) : Prop := ∀ j k, P j → P k → j = k
/-- s is a beginning of o in which one byte at most is another -/
def Near (o s : List UInt8) : Prop := s.length ≤ o.length ∧ ∃ P : Nat → Prop, One P ∧ Ag P s o

theorem One.shift {P : Nat → Prop} (h : One P) (n : Nat) : One (fun j => P (j + n)) := fun j k hj hk => by
  have := h _ _ hj hk; omega
theorem Ag.eq {P : Nat → Prop} {u v : List UInt8} (h : Ag P u v) (hl : u.length = v.length) (hp : ∀ j, j < u.length → ¬ P j) : u = v := by
  apply List.ext_getElem?
  intro j
  by_cases hj : j < u.length
  · exact h j hj (hp j hj)
  · rw [List.getElem?_eq_none_iff.2 (by omega), List.getElem?_eq_none_iff.2 (by omega)]
theorem Ag.left {P : Nat → Prop} {u v o p : List UInt8} (h : Ag P (u ++ v) (o ++ p)) (hl : u.length = o.length) : Ag P u o := fun j hj hn => by
  have := h j (by rw [List.length_append]; omega) hn
  rwa [List.getElem?_append_left hj, List.getElem?_append_left (by omega)] at this
theorem Ag.right {P : Nat → Prop} {u v o p : List UInt8} (h : Ag P (u ++ v) (o ++ p)) (hl : u.length = o.length) : Ag (fun j => P (j + u.length)) v p := fun j hj hn => by
  have := h (j + u.length) (by rw [List.length_append]; omega) hn
  rwa [List.getElem?_append_right (by omega), List.getElem?_append_right (by omega), Nat.add_sub_cancel, ← hl, Nat.add_sub_cancel] at this
theorem Ag.sum {P : Nat → Prop} {u v : List UInt8} (ho : One P) (h : Ag P u v) (hl : u.length = v.length) (hs : sum u = sum v) : u = v := by
  by_cases hp : ∃ i, i < u.length ∧ P i
  · obtain ⟨i, hi, hpi⟩ := hp
    obtain ⟨y, hy⟩ : ∃ y, u[i]? = some y := ⟨_, List.getElem?_eq_getElem hi⟩
    obtain ⟨x, hx⟩ : ∃ x, v[i]? = some x := ⟨_, List.getElem?_eq_getElem (by omega)⟩
    have e : u = v.set i y := by
      apply List.ext_getElem?
      intro j
      rw [List.getElem?_set]
      by_cases hj : i = j
      · subst hj
        rw [if_pos rfl, if_pos (by omega), hy]
      · rw [if_neg hj]
        by_cases hlt : j < u.length
        · exact h j hlt (fun hpj => hj (ho _ _ hpi hpj))
        · rw [List.getElem?_eq_none_iff.2 (by omega), List.getElem?_eq_none_iff.2 (by omega)]
    by_cases hxy : y = x
    · subst hxy
      rw [e]
      apply List.ext_getElem?
      intro j
      rw [List.getElem?_set]
      split
      · rename_i hj
        subst hj
        rw [if_pos (by omega), hx]
      · rfl
    · exact (sum_set hx hxy (by rw [← e]; exact hs)).elim
  · exact h.eq hl fun j hj hpj => hp ⟨j, hj, hpj⟩

theorem split12 (s : List UInt8) (h : 12 ≤ s.length) : ∃ a b c x : List UInt8, s = a ++ (b ++ (c ++ x)) ∧ a.length = 4 ∧ b.length = 4 ∧ c.length = 4 := by
  refine ⟨s.take 4, (s.drop 4).take 4, (s.drop 8).take 4, s.drop 12, ?_, by rw [List.length_take]; omega, by rw [List.length_take, List.length_drop]; omega, by rw [List.length_take, List.length_drop]; omega⟩
  have e1 : s.drop 12 = (s.drop 8).drop 4 := by rw [List.drop_drop]
  have e2 : s.drop 8 = (s.drop 4).drop 4 := by rw [List.drop_drop]
  rw [e1, List.take_append_drop, e2, List.take_append_drop, List.take_append_drop]

theorem Near.next {b rest s pre z : List UInt8} {en : Nat} (hb : b.length ≤ 65536) (h : Near (frame b ++ rest) s) (hn : next (pre ++ s) (pre.length : Int) = .ok (z, en)) :
    z = b ∧ en = pre.length + (frame b).length ∧ ∃ s', s = frame b ++ s' ∧ Near rest s' := by
  obtain ⟨hle, P, ho, hag⟩ := h
  have h12 : 12 ≤ s.length := by
    apply Nat.le_of_not_lt
    intro h12
    unfold Go.Proofs.YtediidajdpdeiaaGreatDoor.next at hn
    rw [if_neg (by rw [List.length_append]; omega), if_pos (by rw [List.length_append]; omega)] at hn
    cases hn
  obtain ⟨a, b', c, x, rfl, ha, hb', hc⟩ := split12 s h12
  have hs1 := (sum (four b.length)).isLt
  have hs2 := (sum b).isLt
  rw [next_of _ _ _ _ _ ha hb' hc] at hn
  have e : frame b ++ rest = four b.length ++ (four (sum (four b.length)).toNat ++ (four (sum b).toNat ++ (b ++ rest))) := by simp only [frame, List.append_assoc]
  rw [e] at hag hle
  have pa := hag.left (by rw [ha, length_four])
  have h1 := hag.right (by rw [ha, length_four])
  have pb := h1.left (by rw [hb', length_four])
  have h2 := h1.right (by rw [hb', length_four])
  have pc := h2.left (by rw [hc, length_four])
  have px := h2.right (by rw [hc, length_four])
  clear h1 h2 hag
  rw [ha] at pb pc px
  rw [hb'] at pc px
  rw [hc] at px
  split at hn
  · cases hn
  rename_i g1
  split at hn
  · cases hn
  split at hn
  · cases hn
  rename_i g3
  split at hn
  · cases hn
  rename_i g4
  injection hn with hn
  injection hn with hz hen
  have g1 : (sum a).toNat = num4 b' := Classical.not_not.1 g1
  have g4 : (sum (x.take (num4 a))).toNat = num4 c := Classical.not_not.1 g4
  have ea : a = four b.length := by
    by_cases hp : ∃ i, i < a.length ∧ P i
    · obtain ⟨i, hi, hpi⟩ := hp
      have eb : b' = four (sum (four b.length)).toNat := pb.eq (by rw [hb', length_four]) fun j hj hpj => by have := ho _ _ hpi hpj; omega
      rw [eb, num4_four' _ hs1] at g1
      exact pa.sum ho (by rw [ha, length_four]) (BitVec.eq_of_toNat_eq g1)
    · exact pa.eq (by rw [ha, length_four]) fun j hj hpj => hp ⟨j, hj, hpj⟩
  subst ea
  have eb : b' = four (sum (four b.length)).toNat := num4_inj hb' (length_four _) (by rw [num4_four' _ hs1]; exact g1.symm)
  subst eb
  rw [num4_four' _ (by omega)] at g3 g4 hz hen
  have hl : (x.take b.length).length = b.length := by rw [List.length_take]; omega
  have py : Ag (fun j => P (j + 4 + 4 + 4)) (x.take b.length) b := fun j hj hn => by
    have := px j (by omega) hn
    rw [List.getElem?_append_left (by omega)] at this
    rw [List.getElem?_take_of_lt (by omega)]
    exact this
  have ey : x.take b.length = b := by
    by_cases hp : ∃ i, i < (x.take b.length).length ∧ P (i + 4 + 4 + 4)
    · obtain ⟨i, hi, hpi⟩ := hp
      have ec : c = four (sum b).toNat := pc.eq (by rw [hc, length_four]) fun j hj hpj => by have := ho _ _ hpi hpj; omega
      rw [ec, num4_four' _ hs2] at g4
      exact py.sum (((ho.shift 4).shift 4).shift 4) hl (BitVec.eq_of_toNat_eq g4)
    · exact py.eq hl fun j hj hpj => hp ⟨j, hj, hpj⟩
  have ec : c = four (sum b).toNat := num4_inj hc (length_four _) (by rw [num4_four' _ hs2, ← g4, ey])
  subst ec
  have ex : x = b ++ x.drop b.length := by
    conv => lhs; rw [← List.take_append_drop b.length x]
    rw [ey]
  refine ⟨hz ▸ ey, by rw [← hen, length_frame]; omega, x.drop b.length, ?_, ?_, fun j => P (j + b.length + 4 + 4 + 4), ?_, ?_⟩
  · conv => lhs; rw [ex]
    simp only [frame, List.append_assoc]
  · simp only [List.length_append, length_four] at hle
    rw [List.length_drop]
    omega
  · exact (((ho.shift 4).shift 4).shift 4).shift b.length
  · rw [ex] at px
    exact px.right rfl

theorem Near.refl (o : List UInt8) : Near o o := ⟨Nat.le_refl _, fun _ => False, fun _ _ h => h.elim, fun _ _ _ => rfl⟩

theorem framesF_near : ∀ (bodies : List (List UInt8)) (pre s : List UInt8) (f : Nat), (∀ b ∈ bodies, b.length ≤ 65536) → Near (frames bodies) s → s.length < f →
    ∃ (m : Nat) (s' : List UInt8), m ≤ bodies.length ∧ framesF f (pre ++ s) pre.length = (bodies.take m, pre.length + (frames (bodies.take m)).length) ∧ s = frames (bodies.take m) ++ s' ∧ ∀ j, j ≤ bodies.length → frames (bodies.take j) <+: s → j ≤ m
  | [], pre, s, f, _, hn, hf => by
    have hs : s = [] := List.eq_nil_of_length_eq_zero (by have := hn.1; simpa [frames] using this)
    subst hs
    refine ⟨0, [], Nat.le_refl _, ?_, rfl, fun j hj _ => hj⟩
    cases f with
    | zero => rfl
    | succ f =>
      have := next_end (pre ++ [])
      rw [List.append_nil] at this ⊢
      rw [framesF, this]
      rfl
  | b :: rest, pre, s, f, hb, hn, hf => by
    cases f with
    | zero => omega
    | succ f =>
      have hb0 := hb b (List.mem_cons_self ..)
      cases hr : next (pre ++ s) (pre.length : Int) with
      | error r =>
        refine ⟨0, s, Nat.zero_le _, ?_, rfl, fun j hj hp => ?_⟩
        · rw [framesF, hr]
          rfl
        · match j, hj, hp with
          | 0, _, _ => exact Nat.le_refl _
          | j + 1, hj, hp =>
            rw [List.take_succ_cons, frames_cons] at hp
            obtain ⟨t, ht⟩ := hp
            rw [List.append_assoc] at ht
            have := next_frame pre b (frames (rest.take j) ++ t) hb0
            rw [ht, hr] at this
            cases this
      | ok p =>
        obtain ⟨z, en⟩ := p
        rw [frames_cons] at hn
        obtain ⟨rfl, rfl, s', rfl, hn'⟩ := hn.next hb0 hr
        have hl := length_frame z
        have hfl : s'.length < f := by rw [List.length_append] at hf; omega
        obtain ⟨m, t, hm, he, ht, hj⟩ := framesF_near rest (pre ++ frame z) s' f (fun x hx => hb x (List.mem_cons_of_mem _ hx)) hn' hfl
        refine ⟨m + 1, t, by simpa using hm, ?_, ?_, fun j hj' hp => ?_⟩
        · rw [framesF, hr]
          simp only
          rw [List.append_assoc, List.length_append] at he
          rw [he, List.take_succ_cons, frames_cons, List.length_append, Nat.add_assoc]
        · rw [List.take_succ_cons, frames_cons, List.append_assoc, ← ht]
        · match j, hj', hp with
          | 0, _, _ => omega
          | j + 1, hj', hp =>
            rw [List.take_succ_cons, frames_cons] at hp
            have := hj j (by simpa using hj') ((List.prefix_append_right_inj _).1 hp)
            omega

theorem framesOf_near {bodies : List (List UInt8)} {s : List UInt8} (hb : ∀ b ∈ bodies, b.length ≤ 65536) (hn : Near (frames bodies) s) :
    ∃ (m : Nat) (s' : List UInt8), m ≤ bodies.length ∧ framesOf s = (bodies.take m, (frames (bodies.take m)).length) ∧ s = frames (bodies.take m) ++ s' ∧ ∀ j, j ≤ bodies.length → frames (bodies.take j) <+: s → j ≤ m := by
  obtain ⟨m, s', h1, h2, h3, h4⟩ := framesF_near bodies [] s (s.length + 1) hb hn (Nat.lt_succ_self _)
  refine ⟨m, s', h1, ?_, h3, h4⟩
  rw [List.nil_append, List.length_nil, Nat.zero_add] at h2
  exact h2

/-- what a crash leaves -/
theorem near_torn (all : List UInt8) (kept : Nat) (keep flip : Int) (hk : kept ≤ all.length) : Near all (all.take kept ++ torn (all.drop kept) keep flip) ∧ all.take kept <+: all.take kept ++ torn (all.drop kept) keep flip := by
  refine ⟨⟨?_, fun j => j = kept + flip.toNat / 8, fun j k hj hk => by rw [hj, hk], fun j hj hn => ?_⟩, List.prefix_append _ _⟩
  · have := length_torn_le (all.drop kept) keep flip
    rw [List.length_append, List.length_take]
    rw [List.length_drop] at this
    omega
  · have hl : (all.take kept).length = kept := by rw [List.length_take]; omega
    by_cases hjk : j < kept
    · rw [List.getElem?_append_left (by omega), List.getElem?_take_of_lt hjk]
    · have hlt : j - kept < (torn (all.drop kept) keep flip).length := by rw [List.length_append] at hj; omega
      rw [List.getElem?_append_right (by omega), hl]
      rw [length_torn] at hlt
      have e : (all.drop kept)[j - kept]? = all[j]? := by rw [List.getElem?_drop]; congr 1; omega
      rw [← e]
      unfold torn
      split
      · unfold turn
        have hne : ¬ flip.toNat / 8 = j - kept := by
          have hn : ¬ j = kept + flip.toNat / 8 := hn
          omega
        rw [List.getElem?_modify, List.getElem?_take_of_lt (by omega)]
        simp [hne]
      · rw [List.getElem?_take_of_lt (by omega)]
end Go.Proofs.YtediidajdpdeiaaGreatDoor

/- The law of a log of segments (layer 7), in plain words: what its calls do to its records, its numbers and to what is kept. -/
namespace Go.Proofs.YtediidajdpdeiaaGreatDoor
open CrcM

/-- a segment's bytes -/
def segB (base : Nat) (recs : List (List UInt8)) : List UInt8 := frames (numB base :: recs)

structure Sg.inv0 (per n : Nat) (g : Sg) : Prop where
  few : g.recs.length ≤ per
  top : g.base + g.recs.length ≤ n
  short : ∀ r ∈ g.recs, r.length ≤ 400
  safe : g.safe ≤ g.recs.length
  near : Near (segB g.base g.recs) g.d.all
  kept : (g.d.kept = (segB g.base (g.recs.take g.safe)).length ∧ segB g.base (g.recs.take g.safe) <+: g.d.all) ∨ (g.d.kept = 0 ∧ g.safe = 0)
  full : g.d.down = false → g.d.all = segB g.base g.recs
structure Sg.inv (per n : Nat) (g : Sg) : Prop where
  inv0 : g.inv0 per n
  held : g.recs = [] → g.d.kept ≠ 0

def Chain (per : Nat) : List Sg → Prop
  | [] => True
  | [_] => True
  | g :: h :: t => g.recs.length = per ∧ h.base = g.base + g.recs.length ∧ Chain per (h :: t)

def safeLen : List Sg → Nat
  | [] => 0
  | g :: t => if g.safe < g.recs.length then g.safe else g.safe + safeLen t
def recsS (gs : List Sg) : List (List UInt8) := gs.flatMap (·.recs)
def headS (gs : List Sg) : Nat := match gs with
  | [] => 0
  | g :: _ => g.base

theorem Chain.tail {per : Nat} {g : Sg} {gs : List Sg} (h : Chain per (g :: gs)) : Chain per gs := by
  cases gs with
  | nil => trivial
  | cons h' t => exact h.2.2
theorem Chain.drop {per : Nat} : ∀ (j : Nat) {gs : List Sg}, Chain per gs → Chain per (gs.drop j)
  | 0, _, h => h
  | j + 1, [], _ => by simp [Chain]
  | j + 1, g :: gs, h => by rw [List.drop_succ_cons]; exact Chain.drop j h.tail
theorem Chain.snoc {per : Nat} {g : Sg} : ∀ {gs : List Sg}, Chain per (gs ++ [g]) ↔ Chain per gs ∧ ∀ l, gs.getLast? = some l → l.recs.length = per ∧ g.base = l.base + l.recs.length
  | [] => by simp [Chain]
  | [x] => by
    constructor
    · intro h
      refine ⟨trivial, fun l hl => ?_⟩
      injection hl with hl
      subst hl
      exact ⟨h.1, h.2.1⟩
    · intro h
      exact ⟨(h.2 x rfl).1, (h.2 x rfl).2, trivial⟩
  | x :: y :: t => by
    have ih := Chain.snoc (per := per) (g := g) (gs := y :: t)
    constructor
    · intro h
      have := ih.1 h.2.2
      exact ⟨⟨h.1, h.2.1, this.1⟩, fun l hl => this.2 l (by rw [List.getLast?_cons_cons] at hl; exact hl)⟩
    · intro h
      exact ⟨h.1.1, h.1.2.1, ih.2 ⟨h.1.2.2, fun l hl => h.2 l (by rw [List.getLast?_cons_cons]; exact hl)⟩⟩
theorem Chain.last {per : Nat} : ∀ {gs : List Sg} {l : Sg}, Chain per gs → gs.getLast? = some l → l.base + l.recs.length = headS gs + (recsS gs).length
  | [], l, _, h => by cases h
  | [x], l, _, h => by
    injection h with h
    subst h
    simp [headS, recsS]
  | x :: y :: t, l, hc, h => by
    rw [List.getLast?_cons_cons] at h
    have := Chain.last hc.2.2 h
    have h2 := hc.2.1
    simp only [headS, recsS, List.flatMap_cons, List.length_append] at this ⊢
    omega
theorem Chain.count {per : Nat} : ∀ {gs : List Sg} {l : Sg}, Chain per gs → gs.getLast? = some l → (recsS gs).length + per = gs.length * per + l.recs.length
  | [], l, _, h => by cases h
  | [x], l, _, h => by
    injection h with h
    subst h
    simp [recsS]; omega
  | x :: y :: t, l, hc, h => by
    rw [List.getLast?_cons_cons] at h
    have := Chain.count hc.2.2 h
    have h2 := hc.1
    simp only [recsS, List.flatMap_cons, List.length_append, List.length_cons] at this ⊢
    rw [Nat.succ_mul] at *
    rw [Nat.succ_mul] at *
    omega
theorem safeS_len {per : Nat} : ∀ (gs : List Sg) (b : Nat), Chain per gs → (∀ g ∈ gs, g.safe ≤ g.recs.length) → (∀ g, gs.head? = some g → g.base = b) → safeS gs b = b + safeLen gs
  | [], b, _, _, _ => rfl
  | g :: t, b, hc, hs, hb => by
    have hb := hb g rfl
    have hg := hs g (List.mem_cons_self ..)
    unfold safeS safeLen
    split
    · omega
    · rw [safeS_len t _ hc.tail (fun x hx => hs x (List.mem_cons_of_mem _ hx)) (fun x hx => ?_)]
      · omega
      · cases t with
        | nil => cases hx
        | cons y t =>
          injection hx with hx
          subst hx
          have := hc.2.1
          omega
theorem safeLen_last (g g' : Sg) (hg : g.safe = g'.safe) (h1 : g.safe ≤ g.recs.length) (h2 : g'.safe ≤ g'.recs.length) : ∀ gs : List Sg, safeLen (gs ++ [g]) = safeLen (gs ++ [g'])
  | [] => by simp [safeLen, hg]
  | x :: t => by
    have := safeLen_last g g' hg h1 h2 t
    simp only [List.cons_append, safeLen, this]
theorem safeLen_new (g : Sg) (hg : g.safe = 0) : ∀ gs : List Sg, safeLen (gs ++ [g]) = safeLen gs
  | [] => by simp [safeLen, hg]
  | x :: t => by
    have := safeLen_new g hg t
    simp only [List.cons_append, safeLen, this]
theorem safeLen_all : ∀ gs : List Sg, (∀ g ∈ gs, g.safe = g.recs.length) → safeLen gs = (recsS gs).length
  | [], _ => rfl
  | g :: t, h => by
    have h1 := h g (List.mem_cons_self ..)
    have := safeLen_all t (fun x hx => h x (List.mem_cons_of_mem _ hx))
    unfold safeLen
    rw [if_neg (by omega), this]
    simp only [recsS, List.flatMap_cons, List.length_append]
    omega
theorem frames_len (bs : List (List UInt8)) (h : ∀ b ∈ bs, b.length ≤ 400) : (frames bs).length ≤ bs.length * 412 := by
  induction bs with
  | nil => simp [frames]
  | cons b bs ih =>
    have h1 := h b (List.mem_cons_self ..)
    have := ih (fun x hx => h x (List.mem_cons_of_mem _ hx))
    rw [frames_cons, List.length_append, length_frame, List.length_cons]
    omega
theorem segB_len {base : Nat} {recs : List (List UInt8)} (hb : base < 18446744073709551616) (h : ∀ r ∈ recs, r.length ≤ 400) : (segB base recs).length ≤ (recs.length + 1) * 412 := by
  have := frames_len (numB base :: recs) (fun b hx => by
    rcases List.mem_cons.1 hx with rfl | hx
    · have := numB_10 hb; omega
    · exact h b hx)
  simpa [segB] using this
theorem segB_snoc (base : Nat) (recs : List (List UInt8)) (rec : List UInt8) : segB base (recs ++ [rec]) = segB base recs ++ frame rec := by
  unfold segB
  rw [← List.cons_append, frames_append]
  simp [frames]
structure Lg.inv (n : Nat) (L : Lg) : Prop where
  per1 : 1 ≤ L.per
  per2 : L.per ≤ 1024
  chain : Chain L.per L.segs
  segs : ∀ g ∈ L.segs, g.inv L.per n
  down : ∀ g ∈ L.segs, g.d.down = L.down

theorem Sg.inv0.mono {per n n' : Nat} {g : Sg} (h : g.inv0 per n) (hn : n ≤ n') : g.inv0 per n' := ⟨h.few, Nat.le_trans h.top hn, h.short, h.safe, h.near, h.kept, h.full⟩
theorem Sg.inv.mono {per n n' : Nat} {g : Sg} (h : g.inv per n) (hn : n ≤ n') : g.inv per n' := ⟨h.inv0.mono hn, h.held⟩
theorem Lg.inv.mono {n n' : Nat} {L : Lg} (h : L.inv n) (hn : n ≤ n') : L.inv n' := ⟨h.per1, h.per2, h.chain, fun g hg => (h.segs g hg).mono hn, h.down⟩
theorem Lg.inv_new {per n : Nat} (h1 : 1 ≤ per) (h2 : per ≤ 1024) : (Lg.new per).inv n := ⟨h1, h2, trivial, fun g hg => (by cases hg), fun g hg => (by cases hg)⟩

/-- an up log's numbers -/
theorem Lg.base_eq {L : Lg} (hd : L.down = false) : L.base = headS L.segs := by
  unfold Lg.base headS
  rw [hd]
  simp only [Bool.false_eq_true, if_false]
  cases L.segs <;> rfl
theorem Lg.recs_eq {L : Lg} (hd : L.down = false) : L.recs = recsS L.segs := by
  unfold Lg.recs recsS
  rw [hd]
  simp
theorem Lg.inv.len {n : Nat} {L : Lg} (h : L.inv n) (hd : L.down = false) : L.len = L.base + L.recs.length := by
  rw [L.base_eq hd, L.recs_eq hd]
  unfold Lg.len
  rw [hd]
  simp only [Bool.false_eq_true, if_false]
  split
  · rename_i e
    rw [List.getLast?_eq_none_iff] at e
    rw [e]
    rfl
  · rename_i l e
    exact h.chain.last e
theorem Lg.inv.len_le {n : Nat} {L : Lg} (h : L.inv n) : L.len ≤ n := by
  unfold Lg.len
  split
  · exact Nat.zero_le _
  · split
    · exact Nat.zero_le _
    · rename_i l e
      exact (h.segs l (List.mem_of_getLast? e)).inv0.top
theorem Lg.inv.safe_eq {n : Nat} {L : Lg} (h : L.inv n) (hd : L.down = false) : L.safe = L.base + safeLen L.segs := by
  unfold Lg.safe
  rw [hd]
  simp only [Bool.false_eq_true, if_false]
  refine safeS_len L.segs _ h.chain (fun g hg => (h.segs g hg).inv0.safe) fun g hg => ?_
  rw [L.base_eq hd]
  unfold headS
  split
  · rename_i e
    rw [e] at hg
    cases hg
  · rename_i e
    rw [e] at hg
    injection hg with hg
    rw [hg]
theorem Lg.inv.up {n : Nat} {L : Lg} (h : L.inv n) : L.up := fun hd g hg => by
  have h1 := h.down g hg
  have h2 := h.segs g hg
  refine ⟨h1.trans hd, ?_⟩
  rw [h2.inv0.full (h1.trans hd)]
  have : ∀ bs : List (List UInt8), 12 * bs.length ≤ (frames bs).length := by
    intro bs
    induction bs with
    | nil => simp
    | cons b bs ih => rw [frames_cons, List.length_append, length_frame, List.length_cons]; omega
  have := this (numB g.base :: g.recs)
  rw [List.length_cons] at this
  unfold segB
  omega

theorem last_split {l : List Sg} {g : Sg} (h : l.getLast? = some g) : l.dropLast ++ [g] = l := by
  obtain ⟨ys, rfl⟩ := List.getLast?_eq_some_iff.1 h
  simp

theorem append_fits {per n : Nat} {g : Sg} (h : g.inv0 per n) (hp : per ≤ 1024) (hn : n < 18446744073709551616) (hd : g.d.down = false) (rec : List UInt8) (hr : rec.length ≤ 400) :
    g.d.append (frame rec) = (⟨false, segB g.base (g.recs ++ [rec]), g.d.kept⟩, 0) := by
  have h1 := h.full hd
  have h2 := segB_len (base := g.base) (by have := h.top; omega) h.short
  have h3 := h.few
  have h4 : (g.recs.length + 1) * 412 ≤ 1025 * 412 := Nat.mul_le_mul_right _ (by omega)
  unfold Dk.append
  rw [hd]
  simp only [Bool.false_eq_true, if_false]
  rw [if_neg (by rw [h1, length_frame]; omega), h1, segB_snoc]

/-- a record is put behind a segment's -/
theorem Sg.inv0.add {per n : Nat} {g : Sg} (h : g.inv0 per n) (hd : g.d.down = false) (hl : g.recs.length < per) (rec : List UInt8) (hr : rec.length ≤ 400) :
    Sg.inv per (n + 1) ⟨⟨false, segB g.base (g.recs ++ [rec]), g.d.kept⟩, g.base, g.recs ++ [rec], g.safe⟩ := by
  have h0 := h.safe
  refine ⟨⟨by simp; omega, by have := h.top; simp; omega, fun r hr' => ?_, by simp; omega, Near.refl _, ?_, fun _ => rfl⟩, by simp⟩
  · rcases List.mem_append.1 hr' with hr' | hr'
    · exact h.short r hr'
    · rw [List.mem_singleton] at hr'; rw [hr']; exact hr
  · simp only
    rw [List.take_append_of_le_length h0]
    rcases h.kept with ⟨h1, h2⟩ | ⟨h1, h2⟩
    · refine .inl ⟨h1, ?_⟩
      rw [h.full hd] at h2
      exact h2.trans ⟨_, (segB_snoc ..).symm⟩
    · exact .inr ⟨h1, h2⟩

/-- what a log is behind a record more -/
structure Added (n : Nat) (L : Lg) (rec : List UInt8) (L' : Lg) : Prop where
  inv : L'.inv (n + 1)
  down : L'.down = false
  per : L'.per = L.per
  recs : L'.recs = L.recs ++ [rec]
  base : L'.base = L.base
  safe : L'.safe = L.safe
  count : L'.segs.length = L.segs.length + if L.full then 1 else 0
  tail : ∀ g, L'.segs.getLast? = some g → g.recs ≠ []
  head : ∀ g, L.segs.head? = some g → ∃ g', L'.segs.head? = some g' ∧ g'.d.kept = g.d.kept ∧ g'.base = g.base

/-- WHAT APPEND DOES -/
theorem Lg.inv.append {n : Nat} {L : Lg} (h : L.inv n) (hd : L.down = false) (hn : n < 4611686018427387904) (rec : List UInt8) (hr : rec.length ≤ 400) :
    (L.full = true ∧ L.segs.length = 256 ∧ L.append rec = (L, 0, 7)) ∨ ∃ L', L.append rec = (L', L.len, 0) ∧ Added n L rec L' := by
  by_cases hf : L.full = true ∧ L.segs.length = 256
  · refine .inl ⟨hf.1, hf.2, ?_⟩
    unfold Lg.append
    rw [hd]
    simp only [Bool.false_eq_true, if_false]
    rw [if_neg (by omega), if_pos hf]
  right
  have hlen := h.len_le
  have key : ∀ (gs : List Sg) (g : Sg), L.room = gs ++ [g] → g.inv0 L.per n → g.d.down = false → g.recs.length < L.per → Chain L.per (gs ++ [g]) → (∀ x ∈ gs, x.inv L.per n ∧ x.d.down = false) → g.base + g.recs.length = L.len → recsS (gs ++ [g]) = recsS L.segs → headS (gs ++ [g]) = L.base → safeLen (gs ++ [g]) = safeLen L.segs → (gs ++ [g]).length = L.segs.length + (if L.full then 1 else 0) → (∀ x, L.segs.head? = some x → (gs ++ [g]).head? = some x) →
      ∃ L', L.append rec = (L', L.len, 0) ∧ Added n L rec L' := by
    intro gs g hrm hgi hgd hgl hch hgs htop hrc hhd hsf hln hhead
    have hfit := append_fits hgi h.per2 (by omega) hgd rec hr
    have e : L.append rec = (⟨L.per, gs ++ [⟨⟨false, segB g.base (g.recs ++ [rec]), g.d.kept⟩, g.base, g.recs ++ [rec], g.safe⟩], false⟩, L.len, 0) := by
      unfold Lg.append
      rw [hd]
      simp only [Bool.false_eq_true, if_false]
      rw [if_neg (by omega), if_neg hf, hrm, List.getLast?_concat]
      simp only [hfit, if_true, List.dropLast_concat, htop]
    refine ⟨_, e, ?_⟩
    have hg' := hgi.add hgd hgl rec hr
    generalize hgn : (⟨⟨false, segB g.base (g.recs ++ [rec]), g.d.kept⟩, g.base, g.recs ++ [rec], g.safe⟩ : Sg) = g' at hg' ⊢
    have hb' : g'.base = g.base := by rw [← hgn]
    have hr' : g'.recs = g.recs ++ [rec] := by rw [← hgn]
    have hs' : g'.safe = g.safe := by rw [← hgn]
    have hdn' : g'.d.down = false := by rw [← hgn]
    have hinv : Lg.inv (n + 1) ⟨L.per, gs ++ [g'], false⟩ := by
      refine ⟨h.per1, h.per2, ?_, fun x hx => ?_, fun x hx => ?_⟩
      · have := Chain.snoc.1 hch
        exact Chain.snoc.2 ⟨this.1, fun l hl => by rw [hb']; exact this.2 l hl⟩
      · rcases List.mem_append.1 hx with hx | hx
        · exact (hgs x hx).1.mono (by omega)
        · rw [List.mem_singleton] at hx; rw [hx]; exact hg'
      · rcases List.mem_append.1 hx with hx | hx
        · exact (hgs x hx).2
        · rw [List.mem_singleton] at hx; rw [hx]; exact hdn'
    have hrr : recsS (gs ++ [g']) = recsS L.segs ++ [rec] := by
      rw [← hrc]
      simp only [recsS, List.flatMap_append, List.flatMap_cons, List.flatMap_nil, List.append_nil, hr', List.append_assoc]
    have hbb : headS (gs ++ [g']) = L.base := by
      rw [← hhd]
      cases gs with
      | nil => exact hb'
      | cons x t => rfl
    have hss : safeLen (gs ++ [g']) = safeLen L.segs := by
      rw [← hsf]
      exact safeLen_last _ _ hs' hg'.inv0.safe hgi.safe gs
    have hdl : (⟨L.per, gs ++ [g'], false⟩ : Lg).down = false := rfl
    have hk' : g'.d.kept = g.d.kept := by rw [← hgn]
    refine ⟨hinv, rfl, rfl, ?_, ?_, ?_, ?_, ?_, fun x hx => ?_⟩
    · rw [Lg.recs_eq hdl, L.recs_eq hd]; exact hrr
    · rw [Lg.base_eq hdl]; exact hbb
    · rw [hinv.safe_eq hdl, h.safe_eq hd, Lg.base_eq hdl]
      show headS (gs ++ [g']) + safeLen (gs ++ [g']) = _
      rw [hbb, hss]
    · rw [← hln]
      simp
    · intro x hx
      simp only [List.getLast?_concat, Option.some.injEq] at hx
      rw [← hx, hr']
      simp
    · have := hhead x hx
      cases gs with
      | nil =>
        injection this with this
        exact ⟨g', rfl, by rw [hk', this], by rw [hb', this]⟩
      | cons y t => exact ⟨x, this, rfl, rfl⟩
  by_cases hfu : L.full = true
  · have hl : (headB L.len).length ≤ 22 := by
      have h10 : (numB L.len).length ≤ 10 := numB_10 (by omega)
      unfold headB
      rw [length_frame]
      omega
    have hrm : L.room = L.segs ++ [⟨⟨false, headB L.len, 0⟩, L.len, [], 0⟩] := by
      have e1 : (Dk.new.append (headB L.len)).1 = ⟨false, headB L.len, 0⟩ := by
        unfold Dk.append Dk.new
        simp only [Bool.false_eq_true, if_false, List.length_nil, Nat.zero_add, List.nil_append]
        rw [if_neg (by omega)]
      unfold Lg.room
      rw [if_pos hfu]
      unfold Sg.new
      rw [e1]
    have hsg : headB L.len = segB L.len [] := by unfold headB segB; simp [frames]
    have hlast : ∀ l, L.segs.getLast? = some l → l.recs.length = L.per ∧ L.len = l.base + l.recs.length := by
      intro l hl
      refine ⟨?_, ?_⟩
      · unfold Lg.full at hfu
        rw [hl] at hfu
        simpa using hfu
      · unfold Lg.len
        rw [hd, hl]
        simp
    refine key L.segs _ hrm ⟨Nat.zero_le _, (by simp; exact hlen), fun r hr => (by cases hr), Nat.le_refl _, (by rw [hsg]; exact Near.refl _), .inr ⟨rfl, rfl⟩, fun _ => hsg⟩ rfl (by have := h.per1; simp; omega)
      (Chain.snoc.2 ⟨h.chain, hlast⟩) (fun x hx => ⟨h.segs x hx, (h.down x hx).trans hd⟩) (by simp) (by simp [recsS]) ?_ (safeLen_new _ rfl _) (by rw [hfu]; simp) (fun x hx => by rw [List.head?_append, hx]; rfl)
    rw [L.base_eq hd]
    cases hs : L.segs with
    | nil => simp [headS, Lg.len, hd, hs]
    | cons x t => rfl
  · obtain ⟨g, hg⟩ : ∃ g, L.segs.getLast? = some g := by
      cases hs : L.segs.getLast? with
      | none => exact (hfu (by unfold Lg.full; rw [hs])).elim
      | some g => exact ⟨g, rfl⟩
    have hnp : g.recs.length ≠ L.per := by
      intro e
      exact hfu (by unfold Lg.full; rw [hg]; simpa using e)
    have hgm := List.mem_of_getLast? hg
    have hgi := (h.segs g hgm).inv0
    have hrm : L.room = L.segs.dropLast ++ [g] := by
      unfold Lg.room
      rw [if_neg hfu]
      exact (last_split hg).symm
    have hsg : L.segs.dropLast ++ [g] = L.segs := last_split hg
    refine key L.segs.dropLast g hrm hgi ((h.down g hgm).trans hd) (by have := hgi.few; omega) (by rw [hsg]; exact h.chain) (fun x hx => ?_) ?_ (by rw [hsg]) (by rw [hsg, L.base_eq hd]) (by rw [hsg]) ?_ (fun x hx => by rw [hsg]; exact hx)
    · have hx := (List.dropLast_sublist _).subset hx
      exact ⟨h.segs x hx, (h.down x hx).trans hd⟩
    · unfold Lg.len
      rw [hd, hg]
      simp
    · rw [hsg, if_neg hfu]
      rfl

/-- WHAT SYNC DOES -/
theorem Sg.inv.sync {per n : Nat} {g : Sg} (h : g.inv per n) (hd : g.d.down = false) : g.sync.inv per n ∧ g.sync.d.down = false := by
  have hf := h.inv0.full hd
  unfold Sg.sync Dk.sync
  rw [hd]
  simp only [Bool.false_eq_true, if_false]
  refine ⟨⟨⟨h.inv0.few, h.inv0.top, h.inv0.short, Nat.le_refl _, h.inv0.near, .inl ⟨?_, ?_⟩, fun _ => hf⟩, fun _ => ?_⟩, trivial⟩
  · simp only [List.take_length]
    rw [hf]
  · simp only [List.take_length]
    rw [hf]
    exact List.prefix_refl _
  · simp only
    rw [hf]
    unfold segB
    rw [frames_cons, List.length_append, length_frame]
    omega
theorem Chain.map {per : Nat} {f : Sg → Sg} (h1 : ∀ g, (f g).base = g.base) (h2 : ∀ g, (f g).recs = g.recs) : ∀ {gs : List Sg}, Chain per gs → Chain per (gs.map f)
  | [], _ => trivial
  | [_], _ => trivial
  | x :: y :: t, h => by
    refine ⟨by rw [h2]; exact h.1, by rw [h1, h1, h2]; exact h.2.1, Chain.map h1 h2 h.2.2⟩
theorem recsS_map {f : Sg → Sg} (h2 : ∀ g, (f g).recs = g.recs) (gs : List Sg) : recsS (gs.map f) = recsS gs := by
  unfold recsS
  rw [List.flatMap_map]
  congr 1
  funext g
  exact h2 g
theorem headS_map {f : Sg → Sg} (h1 : ∀ g, (f g).base = g.base) (gs : List Sg) : headS (gs.map f) = headS gs := by
  cases gs with
  | nil => rfl
  | cons x t => exact h1 x

theorem Lg.inv.sync {n : Nat} {L : Lg} (h : L.inv n) (hd : L.down = false) : ∃ L', L.sync = (L', 0) ∧ L'.inv n ∧ L'.down = false ∧ L'.recs = L.recs ∧ L'.base = L.base ∧ L'.len = L.len ∧ L'.safe = L'.len ∧ L'.per = L.per := by
  have e : L.sync = (⟨L.per, L.segs.map Sg.sync, false⟩, 0) := by
    unfold Lg.sync
    rw [hd]
    simp
  have hinv : Lg.inv n ⟨L.per, L.segs.map Sg.sync, false⟩ := by
    refine ⟨h.per1, h.per2, Chain.map (f := Sg.sync) (fun _ => rfl) (fun _ => rfl) h.chain, fun g hg => ?_, fun g hg => ?_⟩
    · obtain ⟨g', hg', rfl⟩ := List.mem_map.1 hg
      exact ((h.segs g' hg').sync ((h.down g' hg').trans hd)).1
    · obtain ⟨g', hg', rfl⟩ := List.mem_map.1 hg
      exact ((h.segs g' hg').sync ((h.down g' hg').trans hd)).2
  have hdl : (⟨L.per, L.segs.map Sg.sync, false⟩ : Lg).down = false := rfl
  have h1 : (⟨L.per, L.segs.map Sg.sync, false⟩ : Lg).recs = L.recs := by
    rw [Lg.recs_eq hdl, L.recs_eq hd]
    exact recsS_map (f := Sg.sync) (fun _ => rfl) _
  have h2 : (⟨L.per, L.segs.map Sg.sync, false⟩ : Lg).base = L.base := by
    rw [Lg.base_eq hdl, L.base_eq hd]
    exact headS_map (f := Sg.sync) (fun _ => rfl) _
  refine ⟨_, e, hinv, rfl, h1, h2, ?_, ?_, rfl⟩
  · rw [hinv.len hdl, h.len hd, h1, h2]
  · rw [hinv.len hdl, hinv.safe_eq hdl, Lg.recs_eq hdl]
    congr 1
    refine safeLen_all _ fun g hg => ?_
    obtain ⟨g', hg', rfl⟩ := List.mem_map.1 hg
    rfl

/-- WHAT DROP DOES -/
theorem dropS_is : ∀ (gs : List Sg) (n : Int), ∃ j, dropS gs n = gs.drop j ∧ (gs ≠ [] → gs.drop j ≠ []) ∧ (j = 0 ∨ ((headS (gs.drop j) : Nat) : Int) ≤ n)
  | [], n => ⟨0, (by rw [dropS]; rfl; intro a b t e; cases e), fun h => h, .inl rfl⟩
  | [x], n => ⟨0, (by rw [dropS]; rfl; intro a b t e; cases e), fun h => h, .inl rfl⟩
  | x :: y :: t, n => by
    rw [dropS]
    split
    · rename_i hle
      obtain ⟨j, h1, h2, h3⟩ := dropS_is (y :: t) n
      refine ⟨j + 1, by rw [h1, List.drop_succ_cons], fun _ => by rw [List.drop_succ_cons]; exact h2 (by simp), .inr ?_⟩
      rw [List.drop_succ_cons]
      rcases h3 with rfl | h3
      · exact hle
      · exact h3
    · exact ⟨0, rfl, fun h => h, .inl rfl⟩
theorem recsS_drop (gs : List Sg) (j : Nat) : ∃ pre, recsS gs = pre ++ recsS (gs.drop j) :=
  ⟨recsS (gs.take j), by unfold recsS; rw [← List.flatMap_append, List.take_append_drop]⟩

theorem Lg.inv.drop {n : Nat} {L : Lg} (h : L.inv n) (hd : L.down = false) (k : Int) : (((L.safe : Nat) : Int) < k ∧ L.drop k = (L, 2)) ∨
    (k ≤ ((L.safe : Nat) : Int) ∧ ∃ L', L.drop k = (L', 0) ∧ L'.inv n ∧ L'.down = false ∧ (∃ pre, L.recs = pre ++ L'.recs) ∧ L.base ≤ L'.base ∧ L'.len = L.len ∧ (((L'.base : Nat) : Int) ≤ k ∨ L'.base = L.base) ∧ L'.per = L.per) := by
  unfold Lg.drop
  rw [hd]
  simp only [Bool.false_eq_true, if_false]
  by_cases hlt : ((L.safe : Nat) : Int) < k
  · rw [if_pos hlt]
    exact .inl ⟨hlt, rfl⟩
  · rw [if_neg hlt]
    obtain ⟨j, hj, hne, hb⟩ := dropS_is L.segs k
    rw [hj]
    have hinv : Lg.inv n ⟨L.per, L.segs.drop j, false⟩ := ⟨h.per1, h.per2, h.chain.drop j, fun g hg => h.segs g (List.mem_of_mem_drop hg), fun g hg => (h.down g (List.mem_of_mem_drop hg)).trans hd⟩
    have hdl : (⟨L.per, L.segs.drop j, false⟩ : Lg).down = false := rfl
    obtain ⟨pre, hpre⟩ := recsS_drop L.segs j
    have hpre' : L.recs = pre ++ (⟨L.per, L.segs.drop j, false⟩ : Lg).recs := by
      rw [Lg.recs_eq hdl, L.recs_eq hd]
      exact hpre
    have hlen : (⟨L.per, L.segs.drop j, false⟩ : Lg).len = L.len := by
      unfold Lg.len
      rw [hd]
      simp only [Bool.false_eq_true, if_false]
      cases hs : L.segs with
      | nil => simp
      | cons x t =>
        have hne := hne (by rw [hs]; simp)
        rw [hs] at hne
        have hjl : j < (x :: t).length := by
          apply Nat.lt_of_not_le
          intro hle
          exact hne (List.drop_of_length_le hle)
        rw [List.getLast?_drop, if_neg (by omega)]
    have hl1 := hinv.len hdl
    have hl2 := h.len hd
    rw [hpre', List.length_append] at hl2
    refine .inr ⟨by omega, _, rfl, hinv, rfl, ⟨pre, hpre'⟩, by omega, hlen, ?_, rfl⟩
    rcases hb with rfl | hb
    · right
      rw [List.drop_zero, Lg.base_eq hd, Lg.base_eq rfl]
    · left
      rw [Lg.base_eq hdl]
      exact hb

/-- WHAT A CRASH DOES -/
theorem Sg.inv.crash {per n : Nat} {g : Sg} (h : g.inv per n) (hd : g.d.down = false) (keep flip : Int) (hk : 0 ≤ keep) : (g.crash keep flip).inv per n ∧ (g.crash keep flip).d.down = true := by
  have hf := h.inv0.full hd
  have hle : g.d.kept ≤ g.d.all.length := by
    rcases h.inv0.kept with ⟨h1, h2⟩ | ⟨h1, h2⟩
    · rw [h1]; exact h2.length_le
    · omega
  obtain ⟨hn, hp⟩ := near_torn g.d.all g.d.kept keep flip hle
  unfold Sg.crash Dk.crash
  rw [hd]
  simp only [Bool.false_eq_true, if_false]
  rw [if_neg (by omega)]
  refine ⟨⟨⟨h.inv0.few, h.inv0.top, h.inv0.short, h.inv0.safe, (show Near (segB g.base g.recs) (g.d.all.take g.d.kept ++ torn (g.d.all.drop g.d.kept) keep flip) by rw [← hf]; exact hn), ?_, fun h => (by cases h)⟩, h.held⟩, rfl⟩
  rcases h.inv0.kept with ⟨h1, h2⟩ | ⟨h1, h2⟩
  · refine .inl ⟨h1, ?_⟩
    have e : segB g.base (g.recs.take g.safe) = g.d.all.take g.d.kept := by
      rw [h1]
      exact List.prefix_iff_eq_take.1 h2
    simp only
    rw [e]
    exact hp
  · exact .inr ⟨h1, h2⟩

theorem Lg.inv.crash {n : Nat} {L : Lg} (h : L.inv n) (hd : L.down = false) (keep flip : Int) (hk : 0 ≤ keep) : L.crash keep flip = (⟨L.per, L.segs.map (Sg.crash keep flip), true⟩, 0) ∧ Lg.inv n ⟨L.per, L.segs.map (Sg.crash keep flip), true⟩ := by
  refine ⟨by unfold Lg.crash; rw [hd]; simp; omega, h.per1, h.per2, Chain.map (f := Sg.crash keep flip) (fun _ => rfl) (fun _ => rfl) h.chain, fun g hg => ?_, fun g hg => ?_⟩
  · obtain ⟨g', hg', rfl⟩ := List.mem_map.1 hg
    exact ((h.segs g' hg').crash ((h.down g' hg').trans hd) keep flip hk).1
  · obtain ⟨g', hg', rfl⟩ := List.mem_map.1 hg
    exact ((h.segs g' hg').crash ((h.down g' hg').trans hd) keep flip hk).2

/-- what a segment is when it is read again -/
theorem Sg.inv.scan {per n : Nat} {g : Sg} (h : g.inv per n) (hd : g.d.down = true) (_hp : per ≤ 1024) (hn : n ≤ 4611686018427387904) (due : Int) (hdue : due < 0 ∨ ((g.base : Nat) : Int) = due) :
    (scan g.d.restart.1 due = none ∧ g.d.kept = 0 ∧ g.safe = 0 ∧ g.recs ≠ []) ∨
    ∃ k whole, k ≤ g.recs.length ∧ g.safe ≤ k ∧ scan g.d.restart.1 due = some (⟨⟨false, segB g.base (g.recs.take k), (segB g.base (g.recs.take k)).length⟩, g.base, g.recs.take k, k⟩, whole) ∧ (k = g.recs.length → whole = true) := by
  have hb := h.inv0.top
  have hr : g.d.restart.1 = ⟨false, g.d.all, g.d.all.length⟩ := by unfold Dk.restart; rw [hd]; rfl
  have hbod : ∀ b ∈ numB g.base :: g.recs, b.length ≤ 65536 := by
    intro b hb'
    rcases List.mem_cons.1 hb' with rfl | hb'
    · have := numB_10 (n := g.base) (by omega); omega
    · have := h.inv0.short b hb'; omega
  obtain ⟨m, s', hm, hfo, hall, hj⟩ := framesOf_near hbod h.inv0.near
  rw [hr]
  unfold Go.Proofs.YtediidajdpdeiaaGreatDoor.scan
  simp only [hfo]
  cases m with
  | zero =>
    left
    have hz : ¬ (g.d.kept = (segB g.base (g.recs.take g.safe)).length ∧ segB g.base (g.recs.take g.safe) <+: g.d.all) := by
      rintro ⟨h1, h2⟩
      have := hj (g.safe + 1) (by have := h.inv0.safe; simp; omega) (by rw [List.take_succ_cons]; exact h2)
      omega
    obtain ⟨h1, h2⟩ := h.inv0.kept.resolve_left hz
    exact ⟨by simp, h1, h2, fun e => h.held e h1⟩
  | succ k =>
    right
    have hrn : readNum (numB g.base) = .ok (g.base, (numB g.base).length) := by
      have := readNum_numB g.base (by omega) []
      rw [List.append_nil] at this
      exact this
    have hkl : k ≤ g.recs.length := by simpa using hm
    have hcut : Dk.cut ⟨false, g.d.all, g.d.all.length⟩ ((frames (List.take (k + 1) (numB g.base :: g.recs))).length : Int) = (⟨false, segB g.base (g.recs.take k), (segB g.base (g.recs.take k)).length⟩, 0) := by
      unfold Dk.cut
      simp only [Bool.false_eq_true, if_false]
      rw [if_neg (by rw [hall, List.length_append]; omega), Int.toNat_natCast, hall, List.take_left' rfl, List.take_succ_cons]
      rfl
    refine ⟨k, decide ((frames (List.take (k + 1) (numB g.base :: g.recs))).length = g.d.all.length), hkl, ?_, ?_, fun e => ?_⟩
    · rcases h.inv0.kept with ⟨h1, h2⟩ | ⟨h1, h2⟩
      · have := hj (g.safe + 1) (by have := h.inv0.safe; simp; omega) (by rw [List.take_succ_cons]; exact h2)
        omega
      · omega
    · rw [List.take_succ_cons] at hcut ⊢
      simp only [hrn]
      rw [if_pos ⟨trivial, hdue⟩, hcut, List.length_take, Nat.min_eq_left hkl]
    · rw [decide_eq_true_iff]
      have h1 := h.inv0.near.1
      have h2 : List.take (k + 1) (numB g.base :: g.recs) = numB g.base :: g.recs := by rw [List.take_succ_cons, e, List.take_length]
      rw [h2] at hall ⊢
      have h3 := congrArg List.length hall
      rw [List.length_append] at h3
      unfold segB at h1
      omega

theorem segB_ok {per n k : Nat} {g : Sg} (h : g.inv per n) (hk : k ≤ g.recs.length) : Sg.inv per n ⟨⟨false, segB g.base (g.recs.take k), (segB g.base (g.recs.take k)).length⟩, g.base, g.recs.take k, k⟩ := by
  refine ⟨⟨?_, ?_, fun r hr => h.inv0.short r (List.mem_of_mem_take hr), ?_, Near.refl _, .inl ⟨?_, ?_⟩, fun _ => rfl⟩, fun _ => ?_⟩
  · have := h.inv0.few; simp only [List.length_take]; omega
  · have := h.inv0.top; simp only [List.length_take]; omega
  · simp only [List.length_take]; omega
  · simp only [List.take_take, Nat.min_self]
  · simp only [List.take_take, Nat.min_self]
    exact List.prefix_refl _
  · simp only
    unfold segB
    rw [frames_cons, List.length_append, length_frame]
    omega

/-- WHAT A RESTART DOES -/
theorem restartS_is {per n : Nat} (hp0 : 1 ≤ per) (hp : per ≤ 1024) (hn : n ≤ 4611686018427387904) : ∀ (gs : List Sg) (due : Int), Chain per gs → (∀ g ∈ gs, g.inv per n) → (∀ g ∈ gs, g.d.down = true) → (due < 0 ∨ ∀ g, gs.head? = some g → ((g.base : Nat) : Int) = due) →
    Chain per (restartS per gs due) ∧ (∀ g ∈ restartS per gs due, g.inv per n ∧ g.d.down = false ∧ g.safe = g.recs.length) ∧ recsS (restartS per gs due) <+: recsS gs ∧ safeLen gs ≤ (recsS (restartS per gs due)).length ∧ (restartS per gs due ≠ [] → headS (restartS per gs due) = headS gs) ∧
    (restartS per gs due = [] → safeLen gs = 0 ∧ ∀ g, gs.head? = some g → g.d.kept = 0)
  | [], due, _, _, _, _ => by
    have e : restartS per [] due = [] := rfl
    rw [e]
    exact ⟨trivial, fun g hg => (by cases hg), List.prefix_refl _, Nat.le_refl _, fun h => (h rfl).elim, fun _ => ⟨rfl, fun g hg => (by cases hg)⟩⟩
  | g :: t, due, hc, hi, hdn, hdue => by
    have hgi := hi g (List.mem_cons_self ..)
    have hgd := hdn g (List.mem_cons_self ..)
    have hdue' : due < 0 ∨ ((g.base : Nat) : Int) = due := hdue.imp_right fun h => h g rfl
    have e0 : restartS per (g :: t) due = restartK per (scan g.d.restart.1 due) (restartS per t) := rfl
    rw [e0]
    rcases hgi.scan hgd hp hn due hdue' with ⟨e, h1, h2, h3⟩ | ⟨k, whole, hk, hsk, e, hwh⟩
    · rw [e]
      unfold restartK
      refine ⟨trivial, fun g hg => (by cases hg), List.nil_prefix, ?_, fun h => (h rfl).elim, fun _ => ⟨?_, fun x hx => ?_⟩⟩
      · have hl : 0 < g.recs.length := List.length_pos_iff.2 h3
        unfold safeLen
        rw [if_pos (by omega), h2]
        exact Nat.zero_le _
      · have hl : 0 < g.recs.length := List.length_pos_iff.2 h3
        unfold safeLen
        rw [if_pos (by omega), h2]
      · injection hx with hx
        rw [← hx]; exact h1
    · rw [e]
      have hkl : (g.recs.take k).length = k := by rw [List.length_take]; omega
      have hgn := segB_ok hgi hk
      generalize hgg : (⟨⟨false, segB g.base (g.recs.take k), (segB g.base (g.recs.take k)).length⟩, g.base, g.recs.take k, k⟩ : Sg) = g' at hgn ⊢
      have hr' : g'.recs = g.recs.take k := by rw [← hgg]
      have hb' : g'.base = g.base := by rw [← hgg]
      have hs' : g'.safe = g'.recs.length := by rw [hr', hkl, ← hgg]
      have hd' : g'.d.down = false := by rw [← hgg]
      have hl' : g'.recs.length = k := by rw [hr', hkl]
      have e1 : restartK per (some (g', whole)) (restartS per t) = g' :: if whole = false ∨ g'.recs.length < per then [] else restartS per t ((g'.base + g'.recs.length : Nat) : Int) := rfl
      rw [e1]
      by_cases hstop : whole = false ∨ g'.recs.length < per
      · rw [if_pos hstop]
        refine ⟨trivial, fun x hx => ?_, ?_, ?_, fun _ => hb', fun h => (by cases h)⟩
        · rw [List.mem_singleton] at hx
          rw [hx]; exact ⟨hgn, hd', hs'⟩
        · simp only [recsS, List.flatMap_cons, List.flatMap_nil, List.append_nil, hr']
          exact (List.take_prefix _ _).trans (List.prefix_append _ _)
        · simp only [recsS, List.flatMap_cons, List.flatMap_nil, List.append_nil, hl']
          unfold safeLen
          split
          · exact hsk
          · rename_i hns
            have hke : k = g.recs.length := by omega
            have hlt : k < per := by
              rcases hstop with h | h
              · rw [hwh hke] at h; cases h
              · omega
            cases t with
            | nil => rw [safeLen]; omega
            | cons y t => have := hc.1; omega
      · rw [if_neg hstop]
        have hkp : k = per := by have := hgi.inv0.few; omega
        have hke : k = g.recs.length := by have := hgi.inv0.few; omega
        have hre : g'.recs = g.recs := by rw [hr', hke, List.take_length]
        have ih := restartS_is hp0 hp hn t ((g'.base + g'.recs.length : Nat) : Int) hc.tail (fun x hx => hi x (List.mem_cons_of_mem _ hx)) (fun x hx => hdn x (List.mem_cons_of_mem _ hx)) (.inr fun x hx => by
          cases t with
          | nil => cases hx
          | cons y t =>
            injection hx with hx
            have := hc.2.1
            rw [← hx, this, hb', hre])
        obtain ⟨i1, i2, i3, i4, i5, i6⟩ := ih
        have h7 : t = [] → restartS per t ((g'.base + g'.recs.length : Nat) : Int) = [] := by rintro rfl; rfl
        generalize restartS per t ((g'.base + g'.recs.length : Nat) : Int) = out at *
        refine ⟨?_, fun x hx => ?_, ?_, ?_, fun _ => hb', fun h => (by cases h)⟩
        · cases out with
          | nil => trivial
          | cons z out =>
            refine ⟨by omega, ?_, i1⟩
            have h5 := i5 (by simp)
            cases t with
            | nil => cases h7 rfl
            | cons y t =>
              have := hc.2.1
              simp only [headS] at h5
              rw [h5, this, hb', hre]
        · rcases List.mem_cons.1 hx with rfl | hx
          · exact ⟨hgn, hd', hs'⟩
          · exact i2 x hx
        · simp only [recsS, List.flatMap_cons, hre]
          exact (List.prefix_append_right_inj _).2 i3
        · simp only [recsS, List.flatMap_cons, List.length_append, hre]
          unfold safeLen
          unfold recsS at i4
          have := hgi.inv0.safe
          split <;> omega

/-- what a log is behind a restart -/
structure Risen (n : Nat) (L L' : Lg) : Prop where
  inv : L'.inv n
  down : L'.down = false
  per : L'.per = L.per
  recs : L'.recs <+: recsS L.segs
  kept : safeLen L.segs ≤ L'.recs.length
  base : L'.segs ≠ [] → L'.base = headS L.segs
  safe : L'.safe = L'.len
  head : ∀ g, L.segs.head? = some g → g.d.kept ≠ 0 → ∃ g', L'.segs.head? = some g' ∧ g'.d.kept ≠ 0 ∧ g'.base = g.base
theorem Lg.inv.restart {n : Nat} {L : Lg} (h : L.inv n) (hd : L.down = true) (hn : n ≤ 4611686018427387904) : ∃ L', L.restart = (L', 0) ∧ Risen n L L' := by
  obtain ⟨i1, i2, i3, i4, i5, i6⟩ := restartS_is h.per1 h.per2 hn L.segs (-1) h.chain h.segs (fun g hg => (h.down g hg).trans hd) (.inl (by omega))
  have e : L.restart = (⟨L.per, restartS L.per L.segs (-1), false⟩, 0) := by
    unfold Lg.restart
    rw [hd]
    simp
  refine ⟨_, e, ?_⟩
  generalize restartS L.per L.segs (-1) = out at *
  have hinv : Lg.inv n ⟨L.per, out, false⟩ := ⟨h.per1, h.per2, i1, fun g hg => (i2 g hg).1, fun g hg => (i2 g hg).2.1⟩
  have hdl : (⟨L.per, out, false⟩ : Lg).down = false := rfl
  refine ⟨hinv, rfl, rfl, ?_, ?_, fun hne => ?_, ?_, fun g hg hk => ?_⟩
  · rw [Lg.recs_eq hdl]; exact i3
  · rw [Lg.recs_eq hdl]; exact i4
  · rw [Lg.base_eq hdl]; exact i5 hne
  · rw [hinv.len hdl, hinv.safe_eq hdl, Lg.recs_eq hdl]
    congr 1
    exact safeLen_all _ fun g hg => (i2 g hg).2.2
  · cases out with
    | nil => exact (hk ((i6 rfl).2 g hg)).elim
    | cons z out =>
      refine ⟨z, rfl, ?_, ?_⟩
      · have hz := (i2 z (List.mem_cons_self ..)).1.inv0
        have hz2 := (i2 z (List.mem_cons_self ..)).1.held
        have hz3 := (i2 z (List.mem_cons_self ..)).2.2
        rcases hz.kept with ⟨h1, _⟩ | ⟨h1, h2⟩
        · rw [h1]
          unfold segB
          rw [frames_cons, List.length_append, length_frame]
          omega
        · exact hz2 (List.eq_nil_of_length_eq_zero (by omega))
      · have := i5 (by simp)
        cases hs : L.segs with
        | nil => rw [hs] at hg; cases hg
        | cons y t =>
          rw [hs] at hg this
          injection hg with hg
          rw [← hg]
          exact this
end Go.Proofs.YtediidajdpdeiaaGreatDoor

/- What the statements about a log of segments say (layer 7), in plain words. -/
namespace Go.Proofs.YtediidajdpdeiaaGreatDoor
open CrcM

/-- so many segments -/
theorem Lg.inv.count {n m : Nat} {L : Lg} (h : L.inv n) (hd : L.down = false) (hm : L.recs.length = m + 1) (hs : ∀ g, L.segs.getLast? = some g → g.recs ≠ []) : L.segs.length = m / L.per + 1 := by
  rw [L.recs_eq hd] at hm
  cases hl : L.segs.getLast? with
  | none =>
    rw [List.getLast?_eq_none_iff] at hl
    rw [hl] at hm
    cases hm
  | some g =>
    have h1 := h.chain.count hl
    have h2 := (h.segs g (List.mem_of_getLast? hl)).inv0.few
    have h3 : 0 < g.recs.length := List.length_pos_iff.2 (hs g hl)
    have h4 := h.per1
    obtain ⟨s, hsl⟩ : ∃ s, L.segs.length = s + 1 := by
      cases hz : L.segs with
      | nil => rw [hz] at hl; cases hl
      | cons x t => exact ⟨t.length, rfl⟩
    rw [hsl] at h1 ⊢
    rw [hm, Nat.succ_mul] at h1
    have e : m = (g.recs.length - 1) + s * L.per := by omega
    rw [e, Nat.add_mul_div_right _ _ (by omega), Nat.div_eq_of_lt (by omega)]
    omega

theorem safeLen_map {f : Sg → Sg} (h1 : ∀ g, (f g).safe = g.safe) (h2 : ∀ g, (f g).recs = g.recs) : ∀ gs : List Sg, safeLen (gs.map f) = safeLen gs
  | [] => rfl
  | g :: t => by rw [List.map_cons, safeLen, safeLen, h1, h2, safeLen_map h1 h2 t]

/-- what was synced is there -/
structure Keeps (was : List (List UInt8)) (en n : Nat) (L : Lg) : Prop where
  inv : L.inv n
  down : L.down = false
  pre : was <+: L.recs
  safe : was.length ≤ safeLen L.segs
  head : en = 0 ∨ ∃ g, L.segs.head? = some g ∧ g.d.kept ≠ 0 ∧ g.base + was.length = en

theorem Keeps.mono {was : List (List UInt8)} {en n n' : Nat} {L : Lg} (h : Keeps was en n L) (hn : n ≤ n') : Keeps was en n' L := ⟨h.inv.mono hn, h.down, h.pre, h.safe, h.head⟩
theorem Keeps.start {n : Nat} {L : Lg} (h : L.inv n) (hd : L.down = false) : ∃ L', L.sync = (L', 0) ∧ Keeps L'.recs L'.len n L' ∧ L'.safe = L'.len := by
  obtain ⟨L', e, h1, h2, h3, h4, h5, h6, h7⟩ := h.sync hd
  have hes : L' = ⟨L.per, L.segs.map Sg.sync, false⟩ := by
    unfold Lg.sync at e
    rw [hd] at e
    simp only [Bool.false_eq_true, if_false] at e
    injection e with e
    exact e.symm
  refine ⟨L', e, ⟨h1, h2, List.prefix_refl _, ?_, ?_⟩, h6⟩
  · rw [L'.recs_eq h2]
    refine Nat.le_of_eq (safeLen_all _ fun g hg => ?_).symm
    rw [hes] at hg
    obtain ⟨g', hg', rfl⟩ := List.mem_map.1 hg
    rfl
  · cases hs : L.segs with
    | nil =>
      left
      rw [hes, hs]
      rfl
    | cons x t =>
      right
      have hx : x ∈ L.segs := by rw [hs]; exact List.mem_cons_self ..
      have h8 := ((h.segs x hx).sync ((h.down x hx).trans hd)).1
      refine ⟨x.sync, by rw [hes, hs]; rfl, ?_, ?_⟩
      · rcases h8.inv0.kept with ⟨h9, _⟩ | ⟨h9, h10⟩
        · rw [h9]
          unfold segB
          rw [frames_cons, List.length_append, length_frame]
          omega
        · exact h8.held (List.eq_nil_of_length_eq_zero (by
            have : x.sync.safe = x.sync.recs.length := rfl
            omega))
      · rw [h1.len h2, L'.base_eq h2, hes, hs]
        rfl
theorem Keeps.append {was : List (List UInt8)} {en n : Nat} {L : Lg} (h : Keeps was en n L) (hn : n < 4611686018427387904) (rec : List UInt8) (hr : rec.length ≤ 400) :
    L.append rec = (L, 0, 7) ∨ ∃ L', L.append rec = (L', L.len, 0) ∧ Keeps was en (n + 1) L' := by
  rcases h.inv.append h.down hn rec hr with ⟨_, _, e⟩ | ⟨L', e, a⟩
  · exact .inl e
  refine .inr ⟨L', e, a.inv, a.down, ?_, ?_, ?_⟩
  · rw [a.recs]; exact h.pre.trans (List.prefix_append _ _)
  · have h1 := a.safe
    rw [a.inv.safe_eq a.down, h.inv.safe_eq h.down, a.base] at h1
    have := h.safe
    omega
  · refine h.head.imp_right ?_
    rintro ⟨g, h1, h2, h3⟩
    obtain ⟨g', h4, h5, h6⟩ := a.head g h1
    exact ⟨g', h4, by rw [h5]; exact h2, by rw [h6]; exact h3⟩
end Go.Proofs.YtediidajdpdeiaaGreatDoor

/- The arguments of a law, read as data: bytes, lists of bytes, structs in a list; and that they read so afterwards. -/
namespace Go.Proofs.YtediidajdpdeiaaGreatDoor
open Go.RowKit Go.ChangeShapes Go.WideShapes Go.ChangeAt

section
variable {H : Type} {enc : TypeId × Value → H} {P : Program} {W W' : World}

theorem trodAll_below (hl : laidOutB P = true) : ∀ (ts : List TypeId) (vs : List Value) (ds : List (DataW H)) (p : List MemPlace), (ts.all fun t => P.readableRec t && decide (t < P.types.size)) = true →
    DataW.TrodAll enc P W 0 (fun _ => true) true ts vs ds p → Below W.heap.size W W' → (∀ x ∈ p, x.block < W.heap.size) → DataW.TrodAll enc P W' 0 (fun b => decide (b < W.heap.size)) true ts vs ds p
  | [], vs, ds, p, _, h, _, _ => by
    obtain ⟨rfl, rfl, rfl⟩ := trodAll_nil h
    exact trodAll_mk0
  | t :: ts, vs, ds, p, hr, h, hb, hlt => by
    obtain ⟨v, vs', d, ds', p1, q, rfl, rfl, rfl, h0, hs⟩ := trodAll_cons h
    simp only [List.all_cons, Bool.and_eq_true, decide_eq_true_eq] at hr
    exact trodAll_cons_mk (Below.trod hl hr.1.1 hr.1.2 h0 hb fun x hx => hlt x (List.mem_append.2 (.inl hx)))
      (trodAll_below hl ts vs' ds' q (by simpa using hr.2) hs hb fun x hx => hlt x (List.mem_append.2 (.inr hx)))

/-- bytes that were there at W -/
def RdB (W : World) (A : Option Addr) (l : List UInt8) : Prop := ∀ j x, l[j]? = some x → ∃ ad, A = some ad ∧ ad.block < W.heap.size ∧ W.cell? (ad.add j) = some (byteV x)

theorem open_bytes {t : TypeId} {fuel : Nat} {cs : List Value} {d : DataW H} {p : List MemPlace} (ht : P.underlying t = some (.slice TB)) (he : P.underlying TB = some (.int .u8)) (hc : P.cellsOf TB = 1)
    (h : DataW.trod enc P W 0 (fun _ => true) true fuel t cs = some (d, p)) (hlt : ∀ x ∈ p, x.block < W.heap.size) :
    ∃ A l c, cs = [.slice A l.length c] ∧ l.length ≤ c ∧ c ≤ maxLen ∧ RdB W A l := by
  rcases open_ints ht he hc h with ⟨rfl, _⟩ | ⟨a, len, cap, zs, rfl, _, hl, hm, hz, hx, hcell, hwz⟩
  · exact ⟨none, [], 0, rfl, Nat.le_refl _, Nat.zero_le _, fun j x h => by simp at h⟩
  · simp only [if_true] at hz
    have hlen : ((zs.take len).map fun z => UInt8.ofNat z.toNat).length = len := by rw [List.length_map, List.length_take]; omega
    refine ⟨some a, (zs.take len).map fun z => UInt8.ofNat z.toNat, cap, by rw [hlen], by rw [hlen]; exact hl, hm, ?_⟩
    intro j x hx'
    have hj : j < len := by rw [← hlen]; exact (List.getElem?_eq_some_iff.1 hx').1
    have hj2 : j < zs.length := by omega
    rw [List.getElem?_map, List.getElem?_take, if_pos hj, List.getElem?_eq_getElem hj2] at hx'
    injection hx' with hx'
    have hw := hwz zs[j] (List.getElem_mem hj2)
    have hw' : 0 ≤ zs[j] ∧ zs[j] ≤ 255 := by simpa [Lit.wf, IntKind.min, IntKind.max, IntKind.signed, IntKind.bits] using hw
    have hc' := hcell j hj2
    refine ⟨a, rfl, ?_, ?_⟩
    · simp only [Prod.mk.injEq] at hx
      have := hlt (.cell a.block a.off) (by rw [hx.2]; exact MemPlace.mem_row.2 ⟨0, by omega, by simp⟩)
      exact this
    · rw [hc', ← hx']
      simp only [byteV, List.getD_eq_getElem?_getD, List.getElem?_eq_getElem hj2, Option.getD_some]
      have e1 : (UInt8.ofNat zs[j].toNat).toNat = zs[j].toNat := by
        rw [UInt8.toNat_ofNat']
        exact Nat.mod_eq_of_lt (by omega)
      rw [e1, Int.toNat_of_nonneg hw'.1]

/-- a list of structs of fields of one cell each: the cells, and how each reads -/
theorem open_structs {t e : TypeId} {fs : Array Field} {fuel : Nat} {cs : List Value} {d : DataW H} {p : List MemPlace} (ht : P.underlying t = some (.slice e)) (he : P.underlying e = some (.struct fs))
    (hone : Deep.oneCellFields P fs = true) (hC : P.cellsOf e = fs.size) (h0 : 0 < fs.size) (h : DataW.trod enc P W 0 (fun _ => true) true fuel t cs = some (d, p)) (hlt : ∀ x ∈ p, x.block < W.heap.size) :
    ∃ A len cap, cs = [.slice A len cap] ∧ len ≤ cap ∧ cap ≤ maxLen ∧ ∀ i, i < len → ∃ g o, A = some ⟨g, o, none⟩ ∧ g < W.heap.size ∧
      ∀ (j : Nat) (f : Field), fs[j]? = some f → ∃ (v : Value) (n : Nat) (y : DataW H) (q : List MemPlace), W.cell? ⟨g, o + (i * fs.size + j), none⟩ = some v ∧ DataW.trod enc P W 0 (fun _ => true) true n f.type [v] = some (y, q) ∧ ∀ x ∈ q, x.block < W.heap.size := by
  rcases Deep.open_slice ht h with ⟨rfl, _⟩ | ⟨a, len, cap, m, n, D, Pl, rfl, _, hl, hm, hmm, hx, hi⟩
  · exact ⟨none, 0, 0, rfl, Nat.le_refl _, Nat.zero_le _, fun i h => by omega⟩
  · simp only [if_true] at hmm
    subst hmm
    refine ⟨some a, len, m, rfl, hl, hm, fun i hilt => ?_⟩
    obtain ⟨cs', hc, ht'⟩ := hi i (by omega)
    rw [hC] at hc
    obtain ⟨_, hcl, hat⟩ := World.cells?_some hc
    simp only [Prod.mk.injEq] at hx
    have hsp : a.spot = none := by
      have h1 := hat 0 h0
      rw [List.getElem?_eq_getElem (by omega)] at h1
      by_cases hi0 : i = 0
      · subst hi0
        rw [Nat.zero_mul] at h1
        have e : (a.add 0).add 0 = a := by simp [Addr.add]
        rw [e] at h1
        unfold World.cell? at h1
        split at h1
        · split at h1
          · cases h1
          · rename_i hns; simpa using hns
        · cases h1
      · obtain ⟨cs0, hc0, _⟩ := hi 0 (by omega)
        rw [hC] at hc0
        obtain ⟨_, hcl0, hat0⟩ := World.cells?_some hc0
        have h2 := hat0 0 h0
        rw [List.getElem?_eq_getElem (by omega), Nat.zero_mul] at h2
        have e : (a.add 0).add 0 = a := by simp [Addr.add]
        rw [e] at h2
        unfold World.cell? at h2
        split at h2
        · split at h2
          · cases h2
          · rename_i hns; simpa using hns
        · cases h2
    obtain ⟨g, o, sp⟩ := a
    simp only at hsp
    subst hsp
    refine ⟨g, o, rfl, ?_, ?_⟩
    · exact hlt (.cell g o) (by rw [hx.2]; exact List.mem_append.2 (.inl (MemPlace.mem_row.2 ⟨0, by rw [hC]; exact Nat.mul_pos (by omega) h0, by simp⟩)))
    · intro j f hj
      obtain ⟨ys, n', _, hy, _, hyl, hf⟩ := DataW.trod_struct he ht'
      obtain ⟨ho, hk⟩ := Deep.hone_of hone j f hj
      have hjl : j < fs.size := (Array.getElem?_eq_some_iff.1 hj).1
      have hcell := hat j hjl
      have hjc : j < cs'.length := by omega
      rw [List.getElem?_eq_getElem hjc, add_add', add_mk] at hcell
      have h1 := hf j f hj
      rw [ho, hk] at h1
      have hone' : (cs'.drop j).take 1 = [cs'[j]] := by
        rw [List.drop_eq_getElem_cons hjc]
        rfl
      rw [hone', List.getElem?_eq_getElem (by omega)] at h1
      simp only [Prod.mk.injEq] at hy
      refine ⟨_, n', _, (ys[j]'(by omega)).2, hcell, h1, fun x hx' => ?_⟩
      refine hlt x ?_
      rw [hx.2]
      refine List.mem_append.2 (.inr (List.mem_flatMap.2 ⟨i, List.mem_range.2 (by omega), ?_⟩))
      rw [hy.2]
      exact List.mem_flatMap.2 ⟨ys[j]'(by omega), List.getElem_mem _, hx'⟩

end
end Go.Proofs.YtediidajdpdeiaaGreatDoor

/- The disk as the laws see it: all that is owned is newer than the law's beginning. -/
namespace Go.Proofs.YtediidajdpdeiaaGreatDoor
open Go.RowKit

/-- a disk that was made since W, of whose memory nothing has turned -/
def Live (W w : World) (b : Nat) (D : Dk) : Prop := ∃ S A c, DiskAt S w b A c D ∧ (∀ x, S x → W.heap.size ≤ x) ∧ Below W.heap.size W w
/-- bytes that are read whatever was made since W is written (but for rows of bytes) -/
def Arg (W w : World) (A : Option Addr) (l : List UInt8) : Prop := ∀ S : Nat → Prop, (∀ x, S x → W.heap.size ≤ x) → Rd S w A l

section
variable {W w w' : World} {b : Nat} {D : Dk} {A : Option Addr} {l : List UInt8}
theorem Live.below (h : Live W w b D) : Below W.heap.size W w := by
  obtain ⟨S, A, c, _, _, hb⟩ := h
  exact hb
theorem RdB.arg (h : RdB W A l) (hb : Below W.heap.size W w) : Arg W w A l := fun S hS j x hx => by
  obtain ⟨ad, e, hlt, hc⟩ := h j x hx
  exact ⟨ad, e, (hb.cell (p := ad.add j) (by rw [add_block]; exact hlt)).trans hc, .inl fun hh => by have := hS _ hh; omega⟩
theorem RdB.take (h : RdB W A l) (n : Nat) : RdB W A (l.take n) := fun j x hx => by
  rw [List.getElem?_take] at hx
  split at hx
  · exact h j x hx
  · cases hx
theorem Own.arg {S : Nat → Prop} (h : Own S w A l) : Arg W w A l := fun S' _ => h.rd S'
theorem Live.mono (h : Live W w b D) (f : Below w.heap.size w w') : Live W w' b D := by
  obtain ⟨S, A, c, hd, hS, hb⟩ := h
  exact ⟨S, A, c, hd.below f, hS, hb.trans (f.mono hb.size)⟩
theorem Live.did {S : Nat → Prop} {r : Dk × Int} (hS : ∀ x, S x → W.heap.size ≤ x) (hb : Below W.heap.size W w) (hi : IsDisk (Up S w w') w' (.pointer (some ⟨b, 0, none⟩)) r.1) (hf : Fr S w w') : Live W w' b r.1 := by
  obtain ⟨b', A, c, e, h⟩ := hi
  have eb : b = b' := by injection e with e; injection e with e; injection e
  subst eb
  refine ⟨_, A, c, h, fun x hx => hx.elim (hS x) (fun h => Nat.le_trans hb.size h.1), ?_⟩
  have h1 := hb
  exact ⟨hf.os.trans hb.os, hf.tape.trans hb.tape, hf.output.trans hb.output, Nat.le_trans hb.size hf.size,
    fun k hk => (hf.out k (Nat.lt_of_lt_of_le hk hb.size) fun hh => by have := hS k hh; omega).trans (hb.block k hk)⟩
end

/-- rows of bytes are as they were -/
def BK (w w' : World) : Prop := ∀ b, IsB w b → w'.heap[b]? = w.heap[b]?
theorem BK.refl (w : World) : BK w w := fun _ _ => rfl
theorem BK.trans {a b c : World} (h : BK a b) (k : BK b c) : BK a c := fun x hx => (k x (hx.eq (h x hx))).trans (h x hx)
theorem BK.below {w w' : World} (h : Below w.heap.size w w') : BK w w' := fun b hb => h.block b hb.lt
/-- bytes in rows of bytes -/
def Byt (w : World) (A : Option Addr) (l : List UInt8) : Prop := Own (fun _ => True) w A l
theorem Byt.bk {w w' : World} {A : Option Addr} {l : List UInt8} (h : Byt w A l) (k : BK w w') : Byt w' A l := fun j x hx => by
  obtain ⟨ad, e, hc, hb, hs⟩ := h j x hx
  exact ⟨ad, e, (cell_eq (by rw [add_block]; exact k _ hb)).trans hc, hb.eq (k _ hb), hs⟩
theorem Byt.arg {W w : World} {A : Option Addr} {l : List UInt8} (h : Byt w A l) : Arg W w A l := Own.arg h

/-- a literal of bytes, just laid -/
theorem Arg.lit {W w : World} {g : Nat} {cs : Array Value} {fz : Nat × Nat} (l : List UInt8) (h : w.heap[g]? = some (.cells cs TB fz)) (hl : cs.toList = l.map byteV) : Arg W w (some ⟨g, 0, none⟩) l :=
  (Own.of_cells (S := fun _ => True) h trivial (by rw [hl]; exact List.take_of_length_le (by simp))).arg

end Go.Proofs.YtediidajdpdeiaaGreatDoor

/- The log as the laws see it: all that is owned is newer than the law's beginning. -/
namespace Go.Proofs.YtediidajdpdeiaaGreatDoor
open Go.RowKit CrcM
set_option maxRecDepth 100000

/-- a log that was made since W, of whose memory nothing has turned; X is kept apart from it -/
def LiveG (W w : World) (b : Nat) (L : Lg) (X : Nat → Prop) : Prop := ∃ S, LogAt S w b L ∧ (∀ x, S x → W.heap.size ≤ x) ∧ Below W.heap.size W w ∧ ∀ x, X x → ¬ S x ∧ x < w.heap.size
/-- what is kept apart is as it was -/
def XK (X : Nat → Prop) (w w' : World) : Prop := ∀ x, X x → w'.heap[x]? = w.heap[x]?
theorem XK.trans {X : Nat → Prop} {a b c : World} (h : XK X a b) (k : XK X b c) : XK X a c := fun x hx => (k x hx).trans (h x hx)
theorem XK.refl (X : Nat → Prop) (w : World) : XK X w w := fun _ _ => rfl

section
variable {W w w' : World} {b : Nat} {L : Lg} {X : Nat → Prop}
theorem LiveG.below (h : LiveG W w b L X) : Below W.heap.size W w := by
  obtain ⟨S, _, _, hb, _⟩ := h
  exact hb
theorem LiveG.ltX (h : LiveG W w b L X) : ∀ x, X x → x < w.heap.size := fun x hx => by
  obtain ⟨S, _, _, _, hX⟩ := h
  exact (hX x hx).2
theorem LiveG.sub {X' : Nat → Prop} (h : LiveG W w b L X) (hs : ∀ x, X' x → X x) : LiveG W w b L X' := by
  obtain ⟨S, hd, hS, hb, hX⟩ := h
  exact ⟨S, hd, hS, hb, fun x hx => hX x (hs x hx)⟩
/-- what is new is kept apart too -/
theorem LiveG.mono (h : LiveG W w b L X) (f : Below w.heap.size w w') : LiveG W w' b L (Up X w w') := by
  obtain ⟨S, hd, hS, hb, hX⟩ := h
  refine ⟨S, hd.below f, hS, hb.trans (f.mono hb.size), fun x hx => ?_⟩
  rcases hx with hx | hx
  · exact ⟨(hX x hx).1, Nat.lt_of_lt_of_le (hX x hx).2 f.size⟩
  · refine ⟨fun hs => ?_, hx.2⟩
    obtain ⟨_, H, A, c, ps, hl⟩ := hd
    have := hl.lt x hs
    have := hx.1
    omega
theorem LiveG.mono' (h : LiveG W w b L X) (f : Below w.heap.size w w') : LiveG W w' b L X := (h.mono f).sub fun _ hx => .inl hx
theorem LiveG.turned {S : Nat → Prop} (hS : ∀ x, S x → W.heap.size ≤ x) (hb : Below W.heap.size W w) (hX : ∀ x, X x → ¬ S x ∧ x < w.heap.size) {L' : Lg} (hi : IsLog (Up S w w') w' (.pointer (some ⟨b, 0, none⟩)) L') (hf : Fr S w w') : LiveG W w' b L' X ∧ XK X w w' ∧ BK w w' := by
  obtain ⟨b', e, h⟩ := hi
  injection e with e
  injection e with e
  injection e with e
  subst e
  exact ⟨⟨_, h, fun x hx => hx.elim (hS x) (fun h => Nat.le_trans hb.size h.1), ⟨hf.os.trans hb.os, hf.tape.trans hb.tape, hf.output.trans hb.output, Nat.le_trans hb.size hf.size,
    fun k hk => (hf.out k (Nat.lt_of_lt_of_le hk hb.size) fun hh => by have := hS k hh; omega).trans (hb.block k hk)⟩, fun x hx => ⟨fun hs => hs.elim (hX x hx).1 (fun q => by have := (hX x hx).2; have := q.1; omega), Nat.lt_of_lt_of_le (hX x hx).2 hf.size⟩⟩, fun x hx => hf.out x (hX x hx).2 (hX x hx).1, hf.byt⟩
end

/-- WHAT a change of a live log leaves -/
def LiveGDid (W w : World) (b : Nat) (X : Nat → Prop) (r : Lg × Int) (e : Ending) (w' : World) : Prop := e = .returned (.int .i64 r.2) ∧ LiveG W w' b r.1 X ∧ XK X w w' ∧ BK w w'
section
variable {W w : World} {b : Nat} {L : Lg} {X : Nat → Prop}
end
end Go.Proofs.YtediidajdpdeiaaGreatDoor
