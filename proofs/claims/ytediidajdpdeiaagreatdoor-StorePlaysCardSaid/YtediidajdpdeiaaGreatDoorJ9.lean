/- A log, where a row of bytes that is none of its own turns (layer 7). -/
import Derived.Test.YtediidajdpdeiaaGreatDoorJ4
import Derived.Test.YtediidajdpdeiaaGreatDoorJ8
import Derived.Test.YtediidajdpdeiaaGreatDoorJ2
import Derived.Test.YtediidajdpdeiaaGreatDoorJ7
import Derived.WalkMore

namespace Go.Proofs.YtediidajdpdeiaaGreatDoor
open Go.RowKit CrcM
set_option maxRecDepth 100000

/-- no record lies in block r -/
abbrev holeAt (r : Nat) : Hole := ⟨fun x => x ≠ r⟩

/-- block r alone has turned -/
structure Mut (r : Nat) (w w' : World) : Prop where
  os : w'.os = w.os
  tape : w'.tape = w.tape
  output : w'.output = w.output
  size : w'.heap.size = w.heap.size
  out : ∀ x, x ≠ r → w'.heap[x]? = w.heap[x]?

section
variable {r : Nat} {w w' w1 : World}
theorem Mut.refl (r : Nat) (w : World) : Mut r w w := ⟨rfl, rfl, rfl, rfl, fun _ _ => rfl⟩
theorem Mut.setCell (h : Mut r w w') (i : Nat) (u : Value) : Mut r w (w'.setCell ⟨r, i, none⟩ u) :=
  ⟨h.os, h.tape, h.output, by have := h.size; simpa [World.setCell] using this, fun x hx => (Below.heap_setCell _ _ _ _ hx).trans (h.out x hx)⟩
theorem Mut.drew (h : Mut r w w') : Mut r w w'.drew := ⟨h.os, h.tape, h.output, h.size, h.out⟩
theorem Mut.blk {b : Nat} {t : TypeId} {cs : Array Value} (m : Mut r w w') (h : Blk w b t cs) (hb : b ≠ r) : Blk w' b t cs := h.eq (m.out b hb)
theorem Mut.isB {b : Nat} (m : Mut r w w') (h : IsB w b) (hb : b ≠ r) : IsB w' b := h.eq (m.out b hb)
theorem Mut.ne {S : Nat → Prop} (hS : ¬ S r) {x : Nat} (hx : S x) : x ≠ r := fun e => hS (e ▸ hx)
theorem Mut.own {S : Nat → Prop} {A : Option Addr} {l : List UInt8} (m : Mut r w w') (h : Own S w A l) (hS : ¬ S r) : Own S w' A l := fun j x hx => by
  obtain ⟨ad, e, hc, hb, hs⟩ := h j x hx
  have he := m.out ad.block (Mut.ne hS hs)
  exact ⟨ad, e, (cell_eq (by rw [add_block]; exact he)).trans hc, hb.eq he, hs⟩
theorem Mut.row {S : Nat → Prop} {e : TypeId} {v : Value} {vals : List Value} (m : Mut r w w') (h : Row S w e v vals) (hS : ¬ S r) : Row S w' e v vals := h.same fun x hx => m.out x (Mut.ne hS hx)
theorem Mut.disk {S : Nat → Prop} {b : Nat} {A : Option Addr} {c : Nat} {D : Dk} (m : Mut r w w') (h : DiskAt S w b A c D) (hS : ¬ S r) : DiskAt S w' b A c D :=
  ⟨m.blk h.blk (Mut.ne hS h.inS), m.own h.own hS, h.inS, fun x hx => by rw [m.size]; exact h.lt x hx, h.cap, h.ok⟩
theorem Mut.ref {S : Nat → Prop} {b : Nat} {A1 A2 : Option Addr} {c1 c2 : Nat} {R : Rk} (m : Mut r w w') (h : RefAt S w b A1 c1 A2 c2 R) (hS : ¬ S r) : RefAt S w' b A1 c1 A2 c2 R :=
  ⟨m.blk h.blk (Mut.ne hS h.inS), m.own h.own1 hS, m.own h.own2 hS, h.inS, fun x hx => by rw [m.size]; exact h.lt x hx, h.cap1, h.cap2, h.ok⟩
theorem Mut.refs {S H : Nat → Prop} {ps : List Nat} {ds : List Rk} (m : Mut r w w') (h : Refs S H w ps ds) (hS : ¬ S r) : Refs S H w' ps ds := by
  obtain ⟨F, h1, h2, h3, h4⟩ := h
  refine ⟨F, fun i x hx => ⟨(h1 i x hx).1, (h1 i x hx).2.1, by rw [m.size]; exact (h1 i x hx).2.2⟩, fun i j x n p q => m.isB (h2 i j x n p q) (Mut.ne hS (h1 i x p).1), h3, fun i p g hp hg => ?_⟩
  obtain ⟨A1, c1, A2, c2, hr⟩ := h4 i p g hp hg
  exact ⟨A1, c1, A2, c2, m.ref hr (fun hx => hS (h1 i r hx).1)⟩
theorem Mut.rlog {S H : Nat → Prop} {b : Nat} {A : Option Addr} {c : Nat} {ps : List Nat} {L : Rg} (m : Mut r w w') (h : RlogO S H w b A c ps L) (hS : ¬ S r) : RlogO S H w' b A c ps L :=
  ⟨h.hS, h.hb, m.blk h.blk (Mut.ne hS (h.hS _ h.hb)), m.row h.row (fun hx => hS (h.hS _ hx)), m.refs h.disks hS, fun x hx => by rw [m.size]; exact h.lt x hx, h.per, h.few, h.small⟩

/-- records that do not lie in r -/
theorem Mut.recs {vals : List Value} {recs : List (List UInt8)} (m : Mut r w w') (h : @Recs (holeAt r) w vals recs) : Recs w' vals recs :=
  ⟨h.1, fun i x hx => by
    obtain ⟨A, c, h1, h2, h3, h4⟩ := h.2 i x hx
    exact ⟨A, c, h1, h2, h3, Own.mono (m.own h4 (fun hh => hh rfl)) (fun _ _ => trivial)⟩⟩
theorem Mut.seg {S : Nat → Prop} {b : Nat} {g : Sg} (m : Mut r w w') (h : @SegAt (holeAt r) S w b g) (hS : ¬ S r) : SegAt S w' b g := by
  obtain ⟨⟨Sd, Sh, db, A, c, rv, vals, h1, h2, h3, h4, h5, h6, h7, h8⟩, hlt⟩ := h
  exact ⟨⟨Sd, Sh, db, A, c, rv, vals, h1, h2, fun x p q => m.isB (h3 x p q) (Mut.ne hS (h1 x p)), h4, m.blk h5 (Mut.ne hS (h2 _ h4)), m.disk h6 (fun hx => hS (h1 _ hx)), m.row h7 (fun hx => hS (h2 _ hx)), m.recs h8⟩, fun x hx => by rw [m.size]; exact hlt x hx⟩
theorem Mut.segs {S H : Nat → Prop} {ps : List Nat} {gs : List Sg} (m : Mut r w w') (h : @Segs (holeAt r) S H w ps gs) (hS : ¬ S r) : Segs S H w' ps gs := by
  obtain ⟨F, h1, h2, h3, h4⟩ := h
  exact ⟨F, fun i x hx => ⟨(h1 i x hx).1, (h1 i x hx).2.1, by rw [m.size]; exact (h1 i x hx).2.2⟩, fun i j x n p q => m.isB (h2 i j x n p q) (Mut.ne hS (h1 i x p).1), h3, fun i p g hp hg => m.seg (h4 i p g hp hg) (fun hx => hS (h1 i r hx).1)⟩
/-- r turns, and the log stands -/
theorem Mut.log {S H : Nat → Prop} {b : Nat} {A : Option Addr} {c : Nat} {ps : List Nat} {L : Lg} (m : Mut r w w') (h : @LogO (holeAt r) S H w b A c ps L) (hS : ¬ S r) : LogO S H w' b A c ps L := by
  obtain ⟨h1, h2, h3, h4, h5, h6, h7, h8⟩ := h
  exact ⟨h1, h2, m.blk h3 (Mut.ne hS (h1 _ h2)), m.row h4 (fun hx => hS (h1 _ hx)), m.segs h5 hS, fun x hx => by rw [m.size]; exact h6 x hx, h7, fun _ _ => trivial⟩

/-- a log that was there before r -/
theorem Recs.hold {vals : List Value} {recs : List (List UInt8)} (h : Recs w vals recs) (hr : w.heap.size ≤ r) : @Recs (holeAt r) w vals recs :=
  ⟨h.1, fun i x hx => by
    obtain ⟨A, c, h1, h2, h3, h4⟩ := h.2 i x hx
    refine ⟨A, c, h1, h2, h3, fun j y hy => ?_⟩
    obtain ⟨ad, e, hc, hb, hs⟩ := h4 j y hy
    exact ⟨ad, e, hc, hb, fun e' => by have := hb.lt; omega⟩⟩
theorem LogO.hold {S H : Nat → Prop} {b : Nat} {A : Option Addr} {c : Nat} {ps : List Nat} {L : Lg} (h : LogO S H w b A c ps L) (hb : Below w.heap.size w w') (hr : w.heap.size ≤ r) (hr' : r < w'.heap.size) : @LogO (holeAt r) S H w' b A c ps L := by
  have h' := h.below hb
  refine @LogO.mk (holeAt r) S H w' b A c ps L h'.hS h'.hb h'.blk h'.row ?_ h'.lt h'.ok (fun x hx => (show x ≠ r by omega))
  obtain ⟨F, h1, h2, h3, h4⟩ := h.segs
  refine ⟨F, fun i x hx => ⟨(h1 i x hx).1, (h1 i x hx).2.1, Nat.lt_of_lt_of_le (h1 i x hx).2.2 hb.size⟩, fun i j x n p q => (h2 i j x n p q).fr (S := Non) (Fr.of_below hb), h3, fun i p g hp hg => ?_⟩
  have hs : @SegAt (holeAt r) (F i) w p g := by
    obtain ⟨⟨Sd, Sh, db, A, c, rv, vals, k1, k2, k3, k4, k5, k6, k7, k8⟩, hlt⟩ := h4 i p g hp hg
    exact @SegAt.mk (holeAt r) (F i) w p g ⟨Sd, Sh, db, A, c, rv, vals, k1, k2, k3, k4, k5, k6, k7, k8.hold hr⟩ hlt
  exact @SegAt.fr (holeAt r) (F i) Non w w' p g hs (Fr.of_below hb) (fun _ _ h => h.elim)
end
end Go.Proofs.YtediidajdpdeiaaGreatDoor

/- What a store is and does (layer 8), as plain functions: no program is in sight. -/
namespace Go.Proofs.YtediidajdpdeiaaGreatDoor
open CrcM

/-! lists of numbered things, the numbers rising -/
section
variable {α β : Type}
def insN (x : Nat × α) : List (Nat × α) → List (Nat × α)
  | [] => [x]
  | y :: r => if x.1 < y.1 then x :: y :: r else y :: insN x r
def delN (k : Nat) (l : List (Nat × α)) : List (Nat × α) := l.filter (fun p => decide (p.1 ≠ k))
def putN (k : Nat) (h : α) (l : List (Nat × α)) : List (Nat × α) := insN (k, h) (delN k l)
def getN (k : Nat) (l : List (Nat × α)) : Option α := (l.find? (fun p => decide (p.1 = k))).map (·.2)
def onN (f : α → β) (p : Nat × α) : Nat × β := (p.1, f p.2)

theorem insN_map (f : α → β) (x : Nat × α) : ∀ l : List (Nat × α), (insN x l).map (onN f) = insN (onN f x) (l.map (onN f))
  | [] => rfl
  | y :: r => by
    unfold insN
    simp only [List.map_cons]
    by_cases h : x.1 < y.1
    · rw [if_pos h, if_pos (show (onN f x).1 < (onN f y).1 from h)]
      rfl
    · rw [if_neg h, if_neg (show ¬ (onN f x).1 < (onN f y).1 from h), List.map_cons, insN_map f x r]
theorem delN_map (f : α → β) (k : Nat) : ∀ l : List (Nat × α), (delN k l).map (onN f) = delN k (l.map (onN f))
  | [] => rfl
  | y :: r => by
    have ih := delN_map f k r
    unfold delN at *
    simp only [List.map_cons, List.filter_cons]
    by_cases h : y.1 = k
    · simp [onN, h]; simpa [onN] using ih
    · simp [onN, h]; simpa [onN] using ih
theorem putN_map (f : α → β) (k : Nat) (h : α) (l : List (Nat × α)) : (putN k h l).map (onN f) = putN k (f h) (l.map (onN f)) := by
  unfold putN
  rw [insN_map, delN_map]
  rfl
theorem getN_map (f : α → β) (k : Nat) : ∀ l : List (Nat × α), getN k (l.map (onN f)) = (getN k l).map f
  | [] => rfl
  | y :: r => by
    have ih := getN_map f k r
    unfold getN at *
    simp only [List.map_cons, List.find?_cons]
    by_cases h : y.1 = k
    · simp [onN, h]
    · simpa [onN, h] using ih
theorem mem_insN {x : Nat × α} {y : Nat × α} : ∀ {l : List (Nat × α)}, y ∈ insN x l ↔ y = x ∨ y ∈ l
  | [] => by simp [insN]
  | z :: r => by
    unfold insN
    split
    · simp
    · simp only [List.mem_cons, mem_insN (l := r)]
      constructor
      · rintro (h | h | h)
        · exact .inr (.inl h)
        · exact .inl h
        · exact .inr (.inr h)
      · rintro (h | h | h)
        · exact .inr (.inl h)
        · exact .inl h
        · exact .inr (.inr h)
theorem mem_delN {k : Nat} {l : List (Nat × α)} {y : Nat × α} : y ∈ delN k l ↔ y ∈ l ∧ y.1 ≠ k := by simp [delN]
theorem mem_putN {k : Nat} {h : α} {l : List (Nat × α)} {y : Nat × α} : y ∈ putN k h l ↔ y = (k, h) ∨ (y ∈ l ∧ y.1 ≠ k) := by
  unfold putN
  rw [mem_insN, mem_delN]
/-- the numbers rise -/
def Rise (l : List (Nat × α)) : Prop := l.Pairwise (fun p q => p.1 < q.1)
theorem Rise.del {l : List (Nat × α)} (h : Rise l) (k : Nat) : Rise (delN k l) := h.filter _
theorem Rise.ins {x : Nat × α} : ∀ {l : List (Nat × α)}, Rise l → (∀ y ∈ l, y.1 ≠ x.1) → Rise (insN x l)
  | [], _, _ => by unfold insN; exact List.pairwise_singleton _ _
  | z :: r, h, hn => by
    obtain ⟨h1, h2⟩ := List.pairwise_cons.1 h
    unfold insN
    split
    · rename_i hx
      refine List.pairwise_cons.2 ⟨fun y hy => ?_, h⟩
      rcases List.mem_cons.1 hy with rfl | hy
      · exact hx
      · have := h1 y hy
        omega
    · rename_i hx
      refine List.pairwise_cons.2 ⟨fun y hy => ?_, Rise.ins h2 (fun y hy => hn y (List.mem_cons_of_mem _ hy))⟩
      rcases mem_insN.1 hy with rfl | hy
      · have := hn z (List.mem_cons_self ..)
        omega
      · exact h1 y hy
theorem Rise.put {l : List (Nat × α)} (h : Rise l) (k : Nat) (x : α) : Rise (putN k x l) := (h.del k).ins (fun _ hy => (mem_delN.1 hy).2)
theorem getN_some {l : List (Nat × α)} {k : Nat} {h : α} (e : getN k l = some h) : (k, h) ∈ l := by
  unfold getN at e
  cases hf : l.find? (fun p => decide (p.1 = k)) with
  | none => rw [hf] at e; cases e
  | some p =>
    rw [hf] at e
    injection e with e
    have h1 := List.find?_some hf
    have h2 := List.mem_of_find?_eq_some hf
    have h3 : p.1 = k := by simpa using h1
    have : p = (k, h) := by rw [← h3, ← e]
    exact this ▸ h2
theorem Rise.get {l : List (Nat × α)} (h : Rise l) {k : Nat} {x : α} (hm : (k, x) ∈ l) : getN k l = some x := by
  induction l with
  | nil => cases hm
  | cons y r ih =>
    obtain ⟨h1, h2⟩ := List.pairwise_cons.1 h
    unfold getN
    rw [List.find?_cons]
    rcases List.mem_cons.1 hm with rfl | hm'
    · simp
    · have hy : y.1 ≠ k := by have := h1 _ hm'; simp only at this; omega
      have := ih h2 hm'
      unfold getN at this
      simpa [hy] using this
end

/-- what a slot has -/
structure Hd where
  ballot : Nat
  value : List UInt8
abbrev Slots := List (Nat × Hd)

/-- what a store has promised, its base, and its slots -/
structure St where
  promised : Nat
  base : Nat
  slots : Slots
namespace St
def new : St := ⟨0, 0, []⟩
def rise (s : St) (n : Nat) : St := ⟨s.promised, max s.base n, s.slots.filter (fun p => decide (max s.base n ≤ p.1))⟩
end St

/-- a record -/
inductive Rc where
  | prom (b : Nat)
  | acc (slot ballot : Nat) (v : List UInt8)
  | forget (n : Nat)
namespace Rc
def enc : Rc → List UInt8
  | prom b => 1 :: numB b
  | acc slot ballot v => 2 :: (numB slot ++ (numB ballot ++ v))
  | forget n => 3 :: numB n
/-- what a record makes of a store -/
def play (s : St) : Rc → St
  | prom b => ⟨max s.promised b, s.base, s.slots⟩
  | acc slot ballot v => ⟨max s.promised ballot, s.base, putN slot ⟨ballot, v⟩ s.slots⟩
  | forget n => s.rise n
end Rc

structure So where
  per : Nat
  log : Lg
  snap : Dk
  st : St

/-- the body of a snapshot -/
def slotB (p : Nat × Hd) : List UInt8 := numB p.1 ++ (numB p.2.ballot ++ (numB p.2.value.length ++ p.2.value))
def snapB (s : St) : List UInt8 := numB s.promised ++ (numB s.base ++ (numB s.slots.length ++ (s.slots.map slotB).flatten))

/-- a number that a store takes -/
def numOk (n : Int) : Prop := 0 ≤ n ∧ n ≤ 1099511627776
instance (n : Int) : Decidable (numOk n) := inferInstanceAs (Decidable (_ ∧ _))

namespace So
def new (per : Nat) : So := ⟨per, Lg.new per, Dk.new, St.new⟩
def put (s : So) (rec : List UInt8) (st : St) : So × Int :=
  if (s.log.append rec).2.2 = 0 then (⟨s.per, (s.log.append rec).1, s.snap, st⟩, 0) else (⟨s.per, (s.log.append rec).1, s.snap, s.st⟩, (s.log.append rec).2.2)
def promise (s : So) (b : Int) : So × Int :=
  if s.log.down then (s, 10) else if ¬ numOk b then (s, 2) else if b < s.st.promised then (s, 16) else if b = s.st.promised then (s, 0)
  else s.put (Rc.prom b.toNat).enc ⟨b.toNat, s.st.base, s.st.slots⟩
def accept (s : So) (slot b : Int) (v : List UInt8) : So × Int :=
  if s.log.down then (s, 10) else if ¬ numOk slot then (s, 2) else if ¬ numOk b then (s, 2) else if b < s.st.promised ∨ slot < s.st.base then (s, 16)
  else if 32768 < v.length then (s, 3) else if getN slot.toNat s.st.slots = none ∧ s.st.slots.length = 1024 then (s, 7)
  else s.put (Rc.acc slot.toNat b.toNat v).enc ⟨b.toNat, s.st.base, putN slot.toNat ⟨b.toNat, v⟩ s.st.slots⟩
def forget (s : So) (n : Int) : So × Int :=
  if s.log.down then (s, 10) else if ¬ numOk n then (s, 2) else if n ≤ s.st.base then (s, 0) else s.put (Rc.forget n.toNat).enc (s.st.rise n.toNat)
def sync (s : So) : So × Int := (⟨s.per, s.log.sync.1, s.snap, s.st⟩, s.log.sync.2)
def crash (s : So) (keep flip : Int) : So × Int :=
  if (s.log.crash keep flip).2 = 0 then (⟨s.per, (s.log.crash keep flip).1, (s.snap.crash keep flip).1, s.st⟩, 0) else (⟨s.per, (s.log.crash keep flip).1, s.snap, s.st⟩, (s.log.crash keep flip).2)
def snapshot (s : So) : So × Int :=
  if s.log.down then (s, 10) else if 65536 < (snapB s.st).length then (⟨s.per, s.log.sync.1, s.snap, s.st⟩, 3) else (⟨s.per, Lg.new s.per, (s.snap.swap (frame (snapB s.st))).1, s.st⟩, 0)
/-- 1 and the greatest slot -/
def top (l : Slots) : Nat := l.foldl (fun n p => max n (p.1 + 1)) 0
end So
end Go.Proofs.YtediidajdpdeiaaGreatDoor

/- The log's Restart (layer 7): the walk. -/
namespace Go.Proofs.YtediidajdpdeiaaGreatDoor
open Go.RowKit CrcM
set_option maxRecDepth 100000

/-- one segment's disk, and what becomes of all when the segment is laid anew -/
theorem Segs.diskAt {S H : Nat → Prop} {w : World} {ps : List Nat} {gs : List Sg} (h : Segs S H w ps gs) (hH : ∀ x, H x → x < w.heap.size) {k p : Nat} {d : Dk} {base safe : Nat} {recs : List (List UInt8)} (hp : ps[k]? = some p) (hg : gs[k]? = some ⟨d, base, recs, safe⟩) :
    ∃ (Sd : Nat → Prop) (db : Nat) (R : Option Addr) (cR : Nat), w.cell? ⟨p, 0, none⟩ = some (.pointer (some ⟨db, 0, none⟩)) ∧ DiskAt Sd w db R cR d ∧ (∀ x, Sd x → S x ∧ ¬ H x ∧ x < w.heap.size) ∧ (¬ Sd p) ∧
      (∀ w' p' g', Fr Sd w w' → SegAt (Up Sd w w') w' p' g' → Segs (Up S w w') H w' (ps.set k p') (gs.set k g')) ∧
      (∀ w' d', Fr Sd w w' → IsDisk (Up Sd w w') w' (.pointer (some ⟨db, 0, none⟩)) d' → Segs (Up S w w') H w' (ps.set k p) (gs.set k ⟨d', base, recs, safe⟩)) := by
  obtain ⟨Fi, hF, hs, hup⟩ := h.at hp hg
  obtain ⟨⟨Sd, Sh, db, R, cR, rv, vals, h1, h2, h3, h4, h5, h6, h7, h8⟩, hlt⟩ := hs
  refine ⟨Sd, db, R, cR, h5.cell 0 rfl, h6, fun x hx => hF x (h1 x hx), fun hx => h5.notB (by decide) (h3 p hx h4), fun w' p' g' f hs' => ?_, fun w' d' f hd => ?_⟩
  · exact hup w' p' g' (f.mono fun x _ hx => h1 x hx) hH (hs'.mono (fun x hx => hx.imp_left (h1 x)) (Up.lt hlt f.size))
  · obtain ⟨db', R', cR', e, hd⟩ := hd
    injection e with e
    injection e with e
    injection e with e
    subst e
    exact hup w' p ⟨d', base, recs, safe⟩ (f.mono fun x _ hx => h1 x hx) hH
      ⟨⟨Up Sd w w', Sh, db, R', cR', rv, vals, fun x hx => hx.imp_left (h1 x), fun x hx => .inl (h2 x hx), fun x hx hy => by
          rcases hx with hx | hx
          · exact (h3 x hx hy).fr f
          · have := hlt x (h2 x hy); omega,
        h4, h5.fr f (fun hs => h5.notB (by decide) (h3 _ hs h4)), hd, h7.fr f (fun x p q => h3 x q p), h8.fr f⟩, Up.lt hlt f.size⟩

/-- a log that is being laid anew, where k segments have been read -/
structure RestI (S H : Nat → Prop) (w : World) (b : Nat) (A : Option Addr) (c : Nat) (ps : List Nat) (per : Nat) (gs : List Sg) (k : Nat) (v : Value) (qs : List Nat) (outs : List Sg) (Hk : Nat → Prop) (wr : World) : Prop where
  fr : Fr S w wr
  hH : ∀ x, H x → Hk x
  hk : ∀ x, Hk x → H x ∨ w.heap.size ≤ x
  lt : ∀ x, Hk x → x < wr.heap.size
  blk : Blk wr b TLg #[.int .i64 (per : Int), .slice A ps.length c, .bool false]
  row : Row H wr TPs (.slice A ps.length c) (ps.map ptr)
  out : Row (fun x => Hk x ∧ w.heap.size ≤ x) wr TPs v (qs.map ptr)
  segs : Segs (Up S w wr) Hk wr (qs ++ ps.drop k) (outs ++ gs.drop k)
  ql : qs.length = k
  ol : outs.length = k
  ok : ∀ g ∈ outs, g.ok ∧ g.up

section
variable {S H : Nat → Prop} {w : World} {b : Nat} {A : Option Addr} {c : Nat} {ps : List Nat} {per : Nat} {gs : List Sg} {k : Nat} {v : Value} {qs : List Nat} {outs : List Sg} {Hk : Nat → Prop} {wr : World}

theorem set_mid {α : Type} {l m : List α} {k : Nat} (hl : l.length = k) (hk : k < m.length) (x : α) : (l ++ m.drop k).set k x = (l ++ [x]) ++ m.drop (k + 1) := by
  rw [List.set_append_right _ _ (by omega), hl, Nat.sub_self, List.drop_eq_getElem_cons hk, List.set_cons_zero, List.append_assoc]
  rfl
theorem at_mid {α : Type} {l m : List α} {k : Nat} {x : α} (hl : l.length = k) (hx : m[k]? = some x) : (l ++ m.drop k)[k]? = some x := by
  rw [List.getElem?_append_right (by omega), hl, Nat.sub_self, List.getElem?_drop]
  exact hx

/-- the out list's pointer is put behind -/
theorem RestI.more (h : RestI S H w b A c ps per gs k v qs outs Hk wr) (hS : ∀ x, H x → S x) (hps : k < ps.length) (hgs : k < gs.length) (hSl : ∀ x, S x → x < w.heap.size) (hbH : H b) {Sd : Nat → Prop} {w3 w4 w5 : World} {p' : Nat} {g' : Sg} {v' : Value} (hSd : ∀ x, Sd x → Up S w wr x ∧ ¬ Hk x ∧ x < wr.heap.size) (f3 : Fr Sd wr w3)
    (hs : Segs (Up (Up S w wr) wr w3) Hk w3 ((qs ++ ps.drop k).set k p') ((outs ++ gs.drop k).set k g')) (hg : g'.ok ∧ g'.up) (hb4 : Below w3.heap.size w3 w4) (f5 : Fr (fun x => Hk x ∧ w.heap.size ≤ x) w4 w5) (hrow : Row (Up (fun x => Hk x ∧ w.heap.size ≤ x) w4 w5) w5 TPs v' (qs.map ptr ++ [ptr p'])) :
    RestI S H w b A c ps per gs (k + 1) v' (qs ++ [p']) (outs ++ [g']) (Up Hk w4 w5) w5 := by
  have fw4 : Fr Sd wr w4 := f3.trans' (Fr.of_below (S := Non) hb4) (fun _ _ h => h.elim)
  have fww4 : Fr S w w4 := h.fr.trans' fw4 (fun x hx hd => (hSd x hd).1.elim id (fun k => by have := k.1; omega))
  have hsz : w.heap.size ≤ w4.heap.size := fww4.size
  have f : Fr S w w5 := fww4.trans' f5 (fun x hx hd => (by have := hd.2; omega))
  refine ⟨f, fun x hx => .inl (h.hH x hx), fun x hx => ?_, fun x hx => ?_, ?_, ?_, ?_, ?_, by simp [h.ql], by simp [h.ol], ?_⟩
  · rcases hx with hx | hx
    · exact h.hk x hx
    · exact .inr (Nat.le_trans hsz hx.1)
  · rcases hx with hx | hx
    · exact Nat.lt_of_lt_of_le (h.lt x hx) (Nat.le_trans fw4.size f5.size)
    · exact hx.2
  · exact (h.blk.fr fw4 (fun hx => (hSd b hx).2.1 (h.hH b hbH))).fr f5 (fun hx => by have := hSl b (hS b hbH); have := hx.2; omega)
  · exact (h.row.fr fw4 (fun x hx hd => ((hSd x hd).2.1 (h.hH x hx)).elim)).fr f5 (fun x hx hd => by have := hSl x (hS x hx); have := hd.2; omega)
  · rw [List.map_append]
    exact hrow.mono fun x _ hx => by
      rcases hx with hx | hx
      · exact ⟨.inl hx.1, hx.2⟩
      · exact ⟨.inr hx, Nat.le_trans hsz hx.1⟩
  · rw [set_mid h.ql hps, set_mid h.ol hgs] at hs
    have h5 := ((hs.fr (S' := Non) (Fr.of_below hb4) (fun _ _ _ h => h.elim)).fr f5 (fun x hx hn hd => (hn hd.1).elim))
    have hlt3 : ∀ x, Up (Up S w wr) wr w3 x → x < w4.heap.size := fun x hx => by
      rcases hx with (hx | hx) | hx
      · exact Nat.lt_of_lt_of_le (hSl x hx) hsz
      · exact Nat.lt_of_lt_of_le hx.2 fw4.size
      · exact Nat.lt_of_lt_of_le hx.2 hb4.size
    refine h5.mono (fun x _ hx => ?_) (fun x _ hx hh => hh.elim id (fun q => by have := hlt3 x hx; have := q.1; omega))
    rcases hx with (hx | hx) | hx
    · exact .inl hx
    · exact .inr ⟨hx.1, Nat.lt_of_lt_of_le hx.2 (Nat.le_trans fw4.size f5.size)⟩
    · exact .inr ⟨Nat.le_trans h.fr.size hx.1, Nat.lt_of_lt_of_le hx.2 (Nat.le_trans hb4.size f5.size)⟩
  · intro x hx
    rcases List.mem_append.1 hx with hx | hx
    · exact h.ok x hx
    · rw [List.mem_singleton] at hx; rw [hx]; exact hg

theorem RestI.val (h : RestI S H w b A c ps per gs k v qs outs Hk wr) : ∃ A' c', v = .slice A' qs.length c' ∧ qs.length ≤ c' ∧ c' ≤ maxLen := by
  obtain ⟨A', c', hv, hc', hm'⟩ := h.out.val
  rw [List.length_map] at hv hc'
  exact ⟨A', c', hv, hc', hm'⟩

/-- the log at the end -/
theorem RestI.finish {A' : Option Addr} {c' : Nat} (h : RestI S H w b A c ps per gs k (.slice A' qs.length c') qs outs Hk wr) (hS : ∀ x, H x → S x) (hbH : H b) (hSl : ∀ x, S x → x < w.heap.size) (hper : 1 ≤ per ∧ per ≤ 1024) (hk : k ≤ 256) {w2 : World} (hw2 : Fr (fun x => Up S w wr x ∧ ¬ Hk x) wr w2) (hs2 : Segs (Up S w w2) Hk w2 qs outs) (he : restartS per gs (-1) = outs) :
    Blk w2 b TLg #[.int .i64 (per : Int), .slice A ps.length c, .bool false] ∧ IsLog (Up S w (w2.setCell ⟨b, 1, none⟩ (.slice A' qs.length c'))) (w2.setCell ⟨b, 1, none⟩ (.slice A' qs.length c')) (.pointer (some ⟨b, 0, none⟩)) ⟨per, restartS per gs (-1), false⟩ ∧ Fr S w (w2.setCell ⟨b, 1, none⟩ (.slice A' qs.length c')) := by
  have hb2 : Blk w2 b TLg _ := h.blk.fr hw2 (fun hx => hx.2 (h.hH b hbH))
  have hr2 : Row (fun x => Hk x ∧ w.heap.size ≤ x) w2 TPs (.slice A' qs.length c') (qs.map ptr) := h.out.fr hw2 (fun x hx hd => (hd.2 hx.1).elim)
  have hnb : ¬ IsB w2 b := hb2.notB (by decide)
  have f1 : Fr (fun x => x = b) w2 (w2.setCell ⟨b, 1, none⟩ (.slice A' qs.length c')) := Fr.setCell (S := fun x => x = b) (Fr.refl _ _) (p := ⟨b, 1, none⟩) (.inl rfl) hnb _
  have fw : Fr S w w2 := h.fr.trans' hw2 (fun x hx hd => hd.1.elim id (fun q => by have := q.1; omega))
  have hsz : (w2.setCell ⟨b, 1, none⟩ (.slice A' qs.length c')).heap.size = w2.heap.size := by simp [World.setCell]
  have hlt : ∀ x, Up S w (w2.setCell ⟨b, 1, none⟩ (.slice A' qs.length c')) x → x < w2.heap.size := fun x hx => by
    have := Up.lt hSl (Nat.le_trans fw.size f1.size) x hx
    rw [hsz] at this
    exact this
  have hUU : ∀ x, Up S w w2 x → Up S w (w2.setCell ⟨b, 1, none⟩ (.slice A' qs.length c')) x := fun x hx => hx.imp_right (fun q => ⟨q.1, by rw [hsz]; exact q.2⟩)
  rw [he]
  refine ⟨hb2, ⟨b, rfl, fun _ g hg => (h.ok g hg).2, Hk, A', c', qs, fun x hx => ?_, h.hH b hbH, by simpa using hb2.set 1 (.slice A' qs.length c'), (hr2.otherBlk hb2 (by decide) f1).mono (fun x _ hx => hx.1), (hs2.fr f1 (fun x _ hn e => (hn (e ▸ h.hH b hbH)).elim)).mono (fun x _ hx => hUU x hx) (fun _ _ _ h => h), fun x hx => ?_, ⟨hper.1, hper.2, by have := h.ol; simp only; omega, fun g hg => (h.ok g hg).1⟩, fun _ _ => trivial⟩, fw.trans' f1 (fun x _ e => e ▸ hS b hbH)⟩
  · rcases h.hk x hx with hx' | hx'
    · exact .inl (hS x hx')
    · exact .inr ⟨hx', by rw [hsz]; exact Nat.lt_of_lt_of_le (h.lt x hx) hw2.size⟩
  · rw [hsz]
    exact hlt x hx
theorem RestI.drew (h : RestI S H w b A c ps per gs k v qs outs Hk wr) : RestI S H w b A c ps per gs k v qs outs Hk wr.drew :=
  ⟨h.fr.drew, h.hH, h.hk, h.lt, h.blk, h.row, h.out, h.segs.fr ((Fr.refl Non wr).drew) (fun _ _ _ h => h.elim), h.ql, h.ol, h.ok⟩
theorem RestI.part (h : RestI S H w b A c ps per gs k v qs outs Hk wr) : Segs (Up S w wr) Hk wr qs outs := by
  have := h.segs.take k
  rw [List.take_left' h.ql, List.take_left' h.ol] at this
  exact this
end

theorem HalfAt.fr {S : Nat → Prop} {w w' : World} (h : HalfAt w) (f : Fr S w w') (hn : ¬ S 0) : HalfAt w' := fun i hi => (cell_eq (a := ⟨0, i, none⟩) (f.out _ h.lt hn)).trans (h i hi)
theorem Dk.restart_up (D : Dk) : D.restart.1.down = false := by
  unfold Dk.restart
  cases hd : D.down
  · simp [hd]
  · rfl

section
variable {S H : Nat → Prop} {w : World} {b : Nat} {A : Option Addr} {c : Nat} {ps : List Nat} {L : Lg}
set_option maxHeartbeats 1000000 in
theorem restartL (h : LogO S H w b A c ps L) (hu : L.up) (hh : HalfAt w) (hSh : ¬ S 0) :
    Calls Tryz.prog 127 #[.pointer (some ⟨b, 0, none⟩)] w (LogDid S w (.pointer (some ⟨b, 0, none⟩)) L.restart) := by
  obtain ⟨ip, hip, hzp, hsp, hbp⟩ := info_parts info_ps
  obtain ⟨per, gs, dn⟩ := L
  obtain ⟨c0, c1, c2, z1, z2, q0, q1, q2, q3, q4⟩ := h.facts
  cases dn
  · have e : Lg.restart ⟨per, gs, false⟩ = (⟨per, gs, false⟩, 9) := by unfold Lg.restart; simp
    have E := Lib.hid e
    clear e
    go_enter Tryz.func127, Tryz.ntmps127
    go_wp2_with (go_at_call 101; refine (noneL h).mono ?_; rintro e w' ⟨rfl, rfl⟩)
    go_ret
    rw [E.out]
    exact ⟨rfl, h.same hu, Fr.refl _ _⟩
  · have e : Lg.restart ⟨per, gs, true⟩ = (⟨per, restartS per gs (-1), false⟩, 0) := by unfold Lg.restart; simp
    have E := Lib.hid e
    have HQ := Lib.hid q1
    have hper : 1 ≤ per ∧ per ≤ 1024 := ⟨h.ok.1, h.ok.2.1⟩
    have hHS := h.hS
    have hbH := h.hb
    have hSl := h.lt
    have hHl : ∀ x, H x → x < w.heap.size := fun x hx => hSl x (hHS x hx)
    clear e q1
    obtain ⟨h1, f1⟩ := h.setDown false
    obtain ⟨d0, d1, d2, -, -, -, -, -, -, -⟩ := h1.facts
    go_enter Tryz.func127, Tryz.ntmps127
    go_wp2_with (go_at_call 101; refine (noneL h).mono ?_; rintro e w' ⟨rfl, rfl⟩)
    generalize w.setCell ⟨b, 2, none⟩ (.bool false) = w1 at *
    clear c0 c1 c2 z1 z2 q0 d0 d1 d2
    go_loopw [3, 4, 26] (fun v due i wr => ∃ (k : Nat) (qs : List Nat) (outs : List Sg) (Hk : Nat → Prop) (d : Int), k ≤ ps.length ∧ i = .int .i64 (k : Int) ∧ due = .int .i64 d ∧ RestI S H w b A c ps per gs k v qs outs Hk wr ∧ restartS per gs (-1) = outs ++ restartS per (gs.drop k) d) (fun _ _ i _ => ps.length - (intOf i).toNat)
    case atStart => exact ⟨0, [], [], H, -1, Nat.zero_le _, rfl, rfl, ⟨f1, fun _ h => h, fun _ h => .inl h, fun x hx => h1.lt x (hHS x hx), h1.blk, h1.row, Row.nil _ _ _, h1.segs.mono (fun x _ hx => .inl hx) (fun _ _ _ h => h), rfl, rfl, fun g hg => (by cases hg)⟩, rfl⟩
    case round =>
      obtain ⟨k, qs, outs, Hk, d, hk, rfl, rfl, hI, hrs⟩ := hrel
      obtain ⟨A', c', rfl, hc', hm'⟩ := hI.val
      have HR := Lib.hid hrs
      clear hrs
      by_cases hlt : k < ps.length
      · obtain ⟨g, hg⟩ : ∃ g, gs[k]? = some g := ⟨_, List.getElem?_eq_getElem (show k < gs.length by have := HQ.out; omega)⟩
        obtain ⟨D, base, recs, safe⟩ := g
        have hdr : gs.drop k = ⟨D, base, recs, safe⟩ :: gs.drop (k + 1) := drop_of hg
        have hgl : k < gs.length := (List.getElem?_eq_some_iff.1 hg).1
        obtain ⟨p, hp⟩ : ∃ p, ps[k]? = some p := ⟨_, List.getElem?_eq_getElem hlt⟩
        obtain ⟨Sd, db, R, cR, s0, hd, hSd, hpS, hseg, hdsk⟩ := hI.segs.diskAt hI.lt (at_mid hI.ql hp) (at_mid hI.ol hg)
        obtain ⟨ga, oa, ca, hA, _, _, hca, _⟩ := hI.row.cell (k := k) (u := ptr p) (by rw [List.getElem?_map, hp]; rfl)
        rw [List.length_map] at hA
        injection hA with hA _ hcc
        subst hA
        subst hcc
        have hlt' : (k : Int) < (ps.length : Int) := by omega
        have hDup := Dk.restart_up D
        have hRS : restartS per gs (-1) = outs ++ restartK per (scan D.restart.1 d) (restartS per (gs.drop (k + 1))) := by rw [HR.out, hdr]; rfl
        have hhr : HalfAt wr := hh.fr hI.fr hSh
        have hSdh : ¬ Sd 0 := fun hx => (hSd _ hx).1.elim hSh (fun q => by have := hh.lt; have := q.1; omega)
        have hHk : ∀ x, Hk x → ¬ Sd x := fun x hx hs => (hSd x hs).2.1 hx
        have hSdl : ∀ x, Sd x → x < wr.heap.size := fun x hs => (hSd x hs).2.2
        have hca' : wr.cell? ⟨ga, oa + k, none⟩ = some (.pointer (some ⟨p, 0, none⟩)) := hca
        clear HR hdr hca
        cases hsc : scan D.restart.1 d with
        | none =>
          rw [hsc] at hRS
          have he : restartS per gs (-1) = outs := by rw [hRS]; exact List.append_nil _
          have HE := Lib.hid he
          have HC := Lib.hid hsc
          clear he hRS hsc
          go_wp2_with (first
            | (go_at_call 128; refine (restart_B hd).mono ?_; rintro e w2 ⟨rfl, ⟨db', R2, cR2, e2, hd2⟩, hf2⟩; injection e2 with e2; injection e2 with e2; injection e2 with e2; subst e2; have s02 := (cell_eq (a := ⟨p, 0, none⟩) (hf2.out p (cell_lt s0) hpS)).trans s0)
            | (go_at_call 156; refine (scanL hd2 hDup (hhr.fr hf2 hSdh) d).mono ?_; unfold ScanDid; rw [HC.out]; rintro e w3 ⟨-, rfl, hf3⟩; obtain ⟨hb3, hl3, hfin⟩ := hI.finish hHS hbH hSl hper (by omega) (w2 := w3) ((hf2.mono (fun x _ hx => ⟨(hSd x hx).1, (hSd x hx).2.1⟩)).trans' hf3 (fun _ _ h => h.elim)) (by
                have h4 := (((hdsk w2 _ hf2 ⟨_, _, _, rfl, hd2⟩).take k).fr hf3 (fun _ _ _ h => h.elim))
                rw [set_mid hI.ql hlt, set_mid hI.ol hgl, List.append_assoc, List.append_assoc, List.take_left' hI.ql, List.take_left' hI.ol] at h4
                exact h4.mono (fun x _ hx => by
                  rcases hx with (hx | hx) | hx
                  · exact .inl hx
                  · exact .inr ⟨hx.1, Nat.lt_of_lt_of_le hx.2 (Nat.le_trans hf2.size hf3.size)⟩
                  · exact .inr ⟨Nat.le_trans hI.fr.size hx.1, Nat.lt_of_lt_of_le hx.2 hf3.size⟩) (fun _ _ _ h => h)) HE.out; have y1 := hb3.cell 1 (v := .slice (some ⟨ga, oa, none⟩) ps.length c) rfl; have y1f := hb3.frozen 1))
          go_ret
          rw [E.out]
          exact ⟨rfl, hl3, hfin⟩
        | some r =>
          obtain ⟨g', wh⟩ := r
          rw [hsc] at hRS
          have hgk : g'.ok ∧ g'.up := scan_ok (Dk.ok_restart hd.ok) hDup hsc
          have hRS' : restartS per gs (-1) = outs ++ (g' :: if wh = false ∨ g'.recs.length < per then [] else restartS per (gs.drop (k + 1)) ((g'.base + g'.recs.length : Nat) : Int)) := hRS
          have HC := Lib.hid hsc
          have HRS := Lib.hid hRS'
          have HG := Lib.hid hgk
          have n1 := hgk.1.1
          have n2 := hgk.1.2.1
          have HQL := Lib.hid hI.ql
          have hpl : ps.length ≤ 256 := by have := q2; omega
          have k1 : IntKind.i64.wrap ((g'.base : Int) + (g'.recs.length : Int)) = (g'.base : Int) + (g'.recs.length : Int) := by rw [IntKind.wrap_i64]; omega
          clear hsc hRS hRS' hgk
          go_wp2_with (first
            | (go_at_call 128; refine (restart_B hd).mono ?_; rintro e w2 ⟨rfl, ⟨db', R2, cR2, e2, hd2⟩, hf2⟩; injection e2 with e2; injection e2 with e2; injection e2 with e2; subst e2; have s02 := (cell_eq (a := ⟨p, 0, none⟩) (hf2.out p (cell_lt s0) hpS)).trans s0)
            | (go_at_call 156; refine (scanL hd2 hDup (hhr.fr hf2 hSdh) d).mono ?_; unfold ScanDid; rw [HC.out]; rintro e w3 ⟨hf3, p', rfl, hs3⟩; unfold ptr; have f3 : Fr Sd wr w3 := hf2.trans' hf3 (fun x hx hd => hd.elim id (fun q => by have := q.1; omega)); have hs3' : SegAt (Up Sd wr w3) w3 p' g' := hs3.mono (fun x hx => by
                rcases hx with (hx | hx) | hx
                · exact .inl hx
                · exact .inr ⟨hx.1, Nat.lt_of_lt_of_le hx.2 hf3.size⟩
                · exact .inr ⟨Nat.le_trans hf2.size hx.1, hx.2⟩) (Up.lt hSdl f3.size); have hsg := hseg w3 p' g' f3 hs3'; have hrow4 := (hI.out.fr f3 (fun x hx hd => (hHk x hx.1 hd).elim)).below (below_new w3 (.cells #[ptr p'] TPs)))
            | (at_builtin; refine wpList_append_row rfl (.tmp 46) (.tmp 48) 130 rfl TPs ip _ 8 Tryz.underlying130 hip hzp hsp hbp rfl (.slice A' qs.length c') (qs.map ptr) rfl hrow4 ⟨w3.heap.size, 0, none⟩ (ptr p') rfl (heap_new_cell _ _ _) rfl (by rw [List.length_map, HQL.out]; unfold maxLen; omega) (by rw [List.length_map, HQL.out]; omega) (by decide) ?_; intro v5 w5 hrow5 hf5 hoth5; obtain ⟨A5, c5, rfl, hc5, hm5⟩ := hrow5.val; have hN := hI.more hHS hlt hgl hSl hbH hSd f3 hsg HG.out (below_new w3 (.cells #[ptr p'] TPs)) hf5 hrow5; rw [List.length_append, List.length_map, List.length_singleton] at hN hc5 ⊢))
          have hgN : ((outs ++ [g']) ++ gs.drop (k + 1))[k]? = some g' := by
            rw [List.append_assoc, List.getElem?_append_right (by rw [hI.ol]; omega), hI.ol, Nat.sub_self]
            rfl
          obtain ⟨p'', hp'', db5, R5, cr5, s05, s15, s25, s35, y25, y35⟩ := hN.segs.facts (d := g'.d) (base := g'.base) (recs := g'.recs) (safe := g'.safe) hgN
          have hpp : p'' = p' := by
            rw [List.append_assoc, List.getElem?_append_right (by rw [HQL.out]; omega), HQL.out, Nat.sub_self] at hp''
            injection hp'' with hp''
            exact hp''.symm
          subst hpp
          clear s05 s35 y25 y35 hp'' hgN
          refine wp_region_T #[[], [], [], [], [], [], [], [], [7], [3, 7], [3, 7]] [3, 7] (fun w' => w'.cell? ⟨p'', 1, none⟩ = some (.int .i64 (g'.base : Int)) ∧ w'.cell? ⟨p'', 2, none⟩ = some (.slice R5 g'.recs.length cr5)) 11 rfl (by kernel_rfl) ?_
          (refine wpF (i := 0) rfl (by kernel_rfl) rfl (fun _ _ _ h => h) (fun _ => by go_simp; try rfl) ?_; (try simp only [Act.put, sA, sB, sC]))
          (refine wpF (i := 1) rfl (by kernel_rfl) rfl (fun _ _ _ h => h) (fun _ => by go_simp; try rfl) ?_; (try simp only [Act.put, sA, sB, sC]))
          (refine wpF (i := 2) rfl (by kernel_rfl) rfl (fun _ _ _ h => h) (fun _ => by go_simp; try rfl) ?_; (try simp only [Act.put, sA, sB, sC]))
          (refine wpAnyT_read (i := 3) rfl (by kernel_rfl) rfl (fun _ _ _ h => h) (by kernel_rfl) (⟨s15, s25⟩) (fun w hS_ => by obtain ⟨s_1, s_2⟩ := hS_; go_simp; try rfl) ?_; (try simp only [Act.put, sA, sB, sC]))
          (refine wpF (i := 4) rfl (by kernel_rfl) rfl (fun _ _ _ h => h) (fun _ => by go_simp; try rfl) ?_; (try simp only [Act.put, sA, sB, sC]))
          (refine wpF (i := 5) rfl (by kernel_rfl) rfl (fun _ _ _ h => h) (fun _ => by go_simp; try rfl) ?_; (try simp only [Act.put, sA, sB, sC]))
          (refine wpF (i := 6) rfl (by kernel_rfl) rfl (fun _ _ _ h => h) (fun _ => by go_simp; try rfl) ?_; (try simp only [Act.put, sA, sB, sC]))
          (refine wpAnyT_read (i := 7) rfl (by kernel_rfl) rfl (fun _ _ _ h => h) (by kernel_rfl) (⟨s15, s25⟩) (fun w hS_ => by obtain ⟨s_1, s_2⟩ := hS_; go_simp; try rfl) ?_; (try simp only [Act.put, sA, sB, sC]))
          (refine wpF (i := 8) rfl (by kernel_rfl) rfl (fun _ _ _ h => h) (fun _ => by go_simp; try rfl) ?_; (try simp only [Act.put, sA, sB, sC]))
          (refine wpF (i := 9) rfl (by kernel_rfl) rfl (fun _ _ _ h => h) (fun _ => by go_simp; try rfl) ?_; (try simp only [Act.put, sA, sB, sC]))
          (refine wpF (i := 10) rfl (by kernel_rfl) rfl (fun _ _ _ h => h) (fun _ => by go_simp; try rfl) ?_; (try simp only [Act.put, sA, sB, sC]))
          refine wpAnyT_done (by kernel_rfl) ?_ _
          have b05 := hN.blk.cell 0 (v := .int .i64 (per : Int)) rfl
          have b15 := hN.blk.cell 1 (v := .slice (some ⟨ga, oa, none⟩) ps.length c) rfl
          have b15f := hN.blk.frozen 1
          go_wp2
          have e9 : (qs ++ [p'']).length = qs.length + 1 := by simp
          have hN' := hN
          rw [← e9] at hN'
          have hk9 : k + 1 ≤ 256 := by omega
          cases wh
          · clear k1
            have he : restartS per gs (-1) = outs ++ [g'] := by rw [HRS.out, if_pos (.inl rfl)]
            obtain ⟨-, hl9, hf9⟩ := hN'.finish hHS hbH hSl hper (by omega) (w2 := w5.drew.drew) ((Fr.refl _ _).drew.drew) (hN'.drew.drew.part) he
            rw [e9] at hl9 hf9
            have HL9 := Lib.hid hl9
            have HF9 := Lib.hid hf9
            clear hl9 hf9 he
            refine wp_region_T #[[], [], [], [], [], [], [], [6], [], [], [], [], [6, 11], [6, 11]] [6, 11] (fun w' => w'.cell? ⟨p'', 2, none⟩ = some (.slice R5 g'.recs.length cr5) ∧ w'.cell? ⟨b, 0, none⟩ = some (.int .i64 (per : Int))) 14 rfl (by kernel_rfl) ?_
            (refine wpF (i := 0) rfl (by kernel_rfl) rfl (fun _ _ _ h => h) (fun _ => by go_simp; try rfl) ?_; (try simp only [Act.put, sA, sB, sC]))
            (refine wpF (i := 1) rfl (by kernel_rfl) rfl (fun _ _ _ h => h) (fun _ => by go_simp; try rfl) ?_; (try simp only [Act.put, sA, sB, sC]))
            (refine wpF (i := 2) rfl (by kernel_rfl) rfl (fun _ _ _ h => h) (fun _ => by go_simp; try rfl) ?_; (try simp only [Act.put, sA, sB, sC]))
            first
            | (refine wpAnyT_skip (i := 3) rfl (by kernel_rfl) (by first | rfl | (simp [Region.wanted, yielded]; done) | (simp [Region.wanted, yielded, undef, *]; done) | fail) (fun _ _ _ h => h) (fun h_ => absurd h_ (by decide)) ?_; (try simp only [Act.put, sA, sB, sC]))
            | (refine wpF (i := 3) rfl (by kernel_rfl) (by first | rfl | (simp [Region.wanted, yielded]; done) | (simp [Region.wanted, yielded, undef, *]; done) | fail) (fun _ _ _ h => h) (fun _ => by go_simp; try rfl) ?_; (try simp only [Act.put, sA, sB, sC]))
            first
            | (refine wpAnyT_skip (i := 4) rfl (by kernel_rfl) (by first | rfl | (simp [Region.wanted, yielded]; done) | (simp [Region.wanted, yielded, undef, *]; done) | fail) (fun _ _ _ h => h) (fun h_ => absurd h_ (by decide)) ?_; (try simp only [Act.put, sA, sB, sC]))
            | (refine wpF (i := 4) rfl (by kernel_rfl) (by first | rfl | (simp [Region.wanted, yielded]; done) | (simp [Region.wanted, yielded, undef, *]; done) | fail) (fun _ _ _ h => h) (fun _ => by go_simp; try rfl) ?_; (try simp only [Act.put, sA, sB, sC]))
            first
            | (refine wpAnyT_skip (i := 5) rfl (by kernel_rfl) (by first | rfl | (simp [Region.wanted, yielded]; done) | (simp [Region.wanted, yielded, undef, *]; done) | fail) (fun _ _ _ h => h) (fun h_ => absurd h_ (by decide)) ?_; (try simp only [Act.put, sA, sB, sC]))
            | (refine wpF (i := 5) rfl (by kernel_rfl) (by first | rfl | (simp [Region.wanted, yielded]; done) | (simp [Region.wanted, yielded, undef, *]; done) | fail) (fun _ _ _ h => h) (fun _ => by go_simp; try rfl) ?_; (try simp only [Act.put, sA, sB, sC]))
            first
            | (refine wpAnyT_skip (i := 6) rfl (by kernel_rfl) (by first | rfl | (simp [Region.wanted, yielded]; done) | (simp [Region.wanted, yielded, undef, *]; done) | fail) (fun _ _ _ h => h) (fun _ => ⟨s25, b05⟩) ?_; (try simp only [Act.put, sA, sB, sC]))
            | (refine wpAnyT_read (i := 6) rfl (by kernel_rfl) (by first | rfl | (simp [Region.wanted, yielded]; done) | (simp [Region.wanted, yielded, undef, *]; done) | fail) (fun _ _ _ h => h) (by kernel_rfl) (⟨s25, b05⟩) (fun w hS_ => by obtain ⟨s_1, s_2⟩ := hS_; go_simp; try rfl) ?_; (try simp only [Act.put, sA, sB, sC]))
            first
            | (refine wpAnyT_skip (i := 7) rfl (by kernel_rfl) (by first | rfl | (simp [Region.wanted, yielded]; done) | (simp [Region.wanted, yielded, undef, *]; done) | fail) (fun _ _ _ h => h) (fun h_ => absurd h_ (by decide)) ?_; (try simp only [Act.put, sA, sB, sC]))
            | (refine wpF (i := 7) rfl (by kernel_rfl) (by first | rfl | (simp [Region.wanted, yielded]; done) | (simp [Region.wanted, yielded, undef, *]; done) | fail) (fun _ _ _ h => h) (fun _ => by go_simp; try rfl) ?_; (try simp only [Act.put, sA, sB, sC]))
            first
            | (refine wpAnyT_skip (i := 8) rfl (by kernel_rfl) (by first | rfl | (simp [Region.wanted, yielded]; done) | (simp [Region.wanted, yielded, undef, *]; done) | fail) (fun _ _ _ h => h) (fun h_ => absurd h_ (by decide)) ?_; (try simp only [Act.put, sA, sB, sC]))
            | (refine wpF (i := 8) rfl (by kernel_rfl) (by first | rfl | (simp [Region.wanted, yielded]; done) | (simp [Region.wanted, yielded, undef, *]; done) | fail) (fun _ _ _ h => h) (fun _ => by go_simp; try rfl) ?_; (try simp only [Act.put, sA, sB, sC]))
            first
            | (refine wpAnyT_skip (i := 9) rfl (by kernel_rfl) (by first | rfl | (simp [Region.wanted, yielded]; done) | (simp [Region.wanted, yielded, undef, *]; done) | fail) (fun _ _ _ h => h) (fun h_ => absurd h_ (by decide)) ?_; (try simp only [Act.put, sA, sB, sC]))
            | (refine wpF (i := 9) rfl (by kernel_rfl) (by first | rfl | (simp [Region.wanted, yielded]; done) | (simp [Region.wanted, yielded, undef, *]; done) | fail) (fun _ _ _ h => h) (fun _ => by go_simp; try rfl) ?_; (try simp only [Act.put, sA, sB, sC]))
            first
            | (refine wpAnyT_skip (i := 10) rfl (by kernel_rfl) (by first | rfl | (simp [Region.wanted, yielded]; done) | (simp [Region.wanted, yielded, undef, *]; done) | fail) (fun _ _ _ h => h) (fun h_ => absurd h_ (by decide)) ?_; (try simp only [Act.put, sA, sB, sC]))
            | (refine wpF (i := 10) rfl (by kernel_rfl) (by first | rfl | (simp [Region.wanted, yielded]; done) | (simp [Region.wanted, yielded, undef, *]; done) | fail) (fun _ _ _ h => h) (fun _ => by go_simp; try rfl) ?_; (try simp only [Act.put, sA, sB, sC]))
            first
            | (refine wpAnyT_skip (i := 11) rfl (by kernel_rfl) (by first | rfl | (simp [Region.wanted, yielded]; done) | (simp [Region.wanted, yielded, undef, *]; done) | fail) (fun _ _ _ h => h) (fun _ => ⟨s25, b05⟩) ?_; (try simp only [Act.put, sA, sB, sC]))
            | (refine wpAnyT_read (i := 11) rfl (by kernel_rfl) (by first | rfl | (simp [Region.wanted, yielded]; done) | (simp [Region.wanted, yielded, undef, *]; done) | fail) (fun _ _ _ h => h) (by kernel_rfl) (⟨s25, b05⟩) (fun w hS_ => by obtain ⟨s_1, s_2⟩ := hS_; go_simp; try rfl) ?_; (try simp only [Act.put, sA, sB, sC]))
            first
            | (refine wpAnyT_skip (i := 12) rfl (by kernel_rfl) (by first | rfl | (simp [Region.wanted, yielded]; done) | (simp [Region.wanted, yielded, undef, *]; done) | fail) (fun _ _ _ h => h) (fun h_ => absurd h_ (by decide)) ?_; (try simp only [Act.put, sA, sB, sC]))
            | (refine wpF (i := 12) rfl (by kernel_rfl) (by first | rfl | (simp [Region.wanted, yielded]; done) | (simp [Region.wanted, yielded, undef, *]; done) | fail) (fun _ _ _ h => h) (fun _ => by go_simp; try rfl) ?_; (try simp only [Act.put, sA, sB, sC]))
            (refine wpF (i := 13) rfl (by kernel_rfl) rfl (fun _ _ _ h => h) (fun _ => by go_simp; try rfl) ?_; (try simp only [Act.put, sA, sB, sC]))
            refine wpAnyT_done (by kernel_rfl) ?_ _
            go_wp2
            go_ret
            rw [E.out]
            exact ⟨rfl, HL9.out, HF9.out⟩
          · by_cases hpl2 : g'.recs.length < per
            · have hpl3 : (g'.recs.length : Int) < (per : Int) := by omega
              clear k1
              have he : restartS per gs (-1) = outs ++ [g'] := by rw [HRS.out, if_pos (.inr hpl2)]
              obtain ⟨-, hl9, hf9⟩ := hN'.finish hHS hbH hSl hper (by omega) (w2 := w5.drew.drew) ((Fr.refl _ _).drew.drew) (hN'.drew.drew.part) he
              rw [e9] at hl9 hf9
              have HL9 := Lib.hid hl9
              have HF9 := Lib.hid hf9
              clear hl9 hf9 he
              refine wp_region_T #[[], [], [], [], [], [], [], [6], [], [], [], [], [6, 11], [6, 11]] [6, 11] (fun w' => w'.cell? ⟨p'', 2, none⟩ = some (.slice R5 g'.recs.length cr5) ∧ w'.cell? ⟨b, 0, none⟩ = some (.int .i64 (per : Int))) 14 rfl (by kernel_rfl) ?_
              (refine wpF (i := 0) rfl (by kernel_rfl) rfl (fun _ _ _ h => h) (fun _ => by go_simp; try rfl) ?_; (try simp only [Act.put, sA, sB, sC]))
              (refine wpF (i := 1) rfl (by kernel_rfl) rfl (fun _ _ _ h => h) (fun _ => by go_simp; try rfl) ?_; (try simp only [Act.put, sA, sB, sC]))
              (refine wpF (i := 2) rfl (by kernel_rfl) rfl (fun _ _ _ h => h) (fun _ => by go_simp; try rfl) ?_; (try simp only [Act.put, sA, sB, sC]))
              first
              | (refine wpAnyT_skip (i := 3) rfl (by kernel_rfl) (by first | rfl | (simp [Region.wanted, yielded]; done) | (simp [Region.wanted, yielded, undef, *]; done) | fail) (fun _ _ _ h => h) (fun h_ => absurd h_ (by decide)) ?_; (try simp only [Act.put, sA, sB, sC]))
              | (refine wpF (i := 3) rfl (by kernel_rfl) (by first | rfl | (simp [Region.wanted, yielded]; done) | (simp [Region.wanted, yielded, undef, *]; done) | fail) (fun _ _ _ h => h) (fun _ => by go_simp; try rfl) ?_; (try simp only [Act.put, sA, sB, sC]))
              first
              | (refine wpAnyT_skip (i := 4) rfl (by kernel_rfl) (by first | rfl | (simp [Region.wanted, yielded]; done) | (simp [Region.wanted, yielded, undef, *]; done) | fail) (fun _ _ _ h => h) (fun h_ => absurd h_ (by decide)) ?_; (try simp only [Act.put, sA, sB, sC]))
              | (refine wpF (i := 4) rfl (by kernel_rfl) (by first | rfl | (simp [Region.wanted, yielded]; done) | (simp [Region.wanted, yielded, undef, *]; done) | fail) (fun _ _ _ h => h) (fun _ => by go_simp; try rfl) ?_; (try simp only [Act.put, sA, sB, sC]))
              first
              | (refine wpAnyT_skip (i := 5) rfl (by kernel_rfl) (by first | rfl | (simp [Region.wanted, yielded]; done) | (simp [Region.wanted, yielded, undef, *]; done) | fail) (fun _ _ _ h => h) (fun h_ => absurd h_ (by decide)) ?_; (try simp only [Act.put, sA, sB, sC]))
              | (refine wpF (i := 5) rfl (by kernel_rfl) (by first | rfl | (simp [Region.wanted, yielded]; done) | (simp [Region.wanted, yielded, undef, *]; done) | fail) (fun _ _ _ h => h) (fun _ => by go_simp; try rfl) ?_; (try simp only [Act.put, sA, sB, sC]))
              first
              | (refine wpAnyT_skip (i := 6) rfl (by kernel_rfl) (by first | rfl | (simp [Region.wanted, yielded]; done) | (simp [Region.wanted, yielded, undef, *]; done) | fail) (fun _ _ _ h => h) (fun _ => ⟨s25, b05⟩) ?_; (try simp only [Act.put, sA, sB, sC]))
              | (refine wpAnyT_read (i := 6) rfl (by kernel_rfl) (by first | rfl | (simp [Region.wanted, yielded]; done) | (simp [Region.wanted, yielded, undef, *]; done) | fail) (fun _ _ _ h => h) (by kernel_rfl) (⟨s25, b05⟩) (fun w hS_ => by obtain ⟨s_1, s_2⟩ := hS_; go_simp; try rfl) ?_; (try simp only [Act.put, sA, sB, sC]))
              first
              | (refine wpAnyT_skip (i := 7) rfl (by kernel_rfl) (by first | rfl | (simp [Region.wanted, yielded]; done) | (simp [Region.wanted, yielded, undef, *]; done) | fail) (fun _ _ _ h => h) (fun h_ => absurd h_ (by decide)) ?_; (try simp only [Act.put, sA, sB, sC]))
              | (refine wpF (i := 7) rfl (by kernel_rfl) (by first | rfl | (simp [Region.wanted, yielded]; done) | (simp [Region.wanted, yielded, undef, *]; done) | fail) (fun _ _ _ h => h) (fun _ => by go_simp; try rfl) ?_; (try simp only [Act.put, sA, sB, sC]))
              first
              | (refine wpAnyT_skip (i := 8) rfl (by kernel_rfl) (by first | rfl | (simp [Region.wanted, yielded]; done) | (simp [Region.wanted, yielded, undef, *]; done) | fail) (fun _ _ _ h => h) (fun h_ => absurd h_ (by decide)) ?_; (try simp only [Act.put, sA, sB, sC]))
              | (refine wpF (i := 8) rfl (by kernel_rfl) (by first | rfl | (simp [Region.wanted, yielded]; done) | (simp [Region.wanted, yielded, undef, *]; done) | fail) (fun _ _ _ h => h) (fun _ => by go_simp; try rfl) ?_; (try simp only [Act.put, sA, sB, sC]))
              first
              | (refine wpAnyT_skip (i := 9) rfl (by kernel_rfl) (by first | rfl | (simp [Region.wanted, yielded]; done) | (simp [Region.wanted, yielded, undef, *]; done) | fail) (fun _ _ _ h => h) (fun h_ => absurd h_ (by decide)) ?_; (try simp only [Act.put, sA, sB, sC]))
              | (refine wpF (i := 9) rfl (by kernel_rfl) (by first | rfl | (simp [Region.wanted, yielded]; done) | (simp [Region.wanted, yielded, undef, *]; done) | fail) (fun _ _ _ h => h) (fun _ => by go_simp; try rfl) ?_; (try simp only [Act.put, sA, sB, sC]))
              first
              | (refine wpAnyT_skip (i := 10) rfl (by kernel_rfl) (by first | rfl | (simp [Region.wanted, yielded]; done) | (simp [Region.wanted, yielded, undef, *]; done) | fail) (fun _ _ _ h => h) (fun h_ => absurd h_ (by decide)) ?_; (try simp only [Act.put, sA, sB, sC]))
              | (refine wpF (i := 10) rfl (by kernel_rfl) (by first | rfl | (simp [Region.wanted, yielded]; done) | (simp [Region.wanted, yielded, undef, *]; done) | fail) (fun _ _ _ h => h) (fun _ => by go_simp; try rfl) ?_; (try simp only [Act.put, sA, sB, sC]))
              first
              | (refine wpAnyT_skip (i := 11) rfl (by kernel_rfl) (by first | rfl | (simp [Region.wanted, yielded]; done) | (simp [Region.wanted, yielded, undef, *]; done) | fail) (fun _ _ _ h => h) (fun _ => ⟨s25, b05⟩) ?_; (try simp only [Act.put, sA, sB, sC]))
              | (refine wpAnyT_read (i := 11) rfl (by kernel_rfl) (by first | rfl | (simp [Region.wanted, yielded]; done) | (simp [Region.wanted, yielded, undef, *]; done) | fail) (fun _ _ _ h => h) (by kernel_rfl) (⟨s25, b05⟩) (fun w hS_ => by obtain ⟨s_1, s_2⟩ := hS_; go_simp; try rfl) ?_; (try simp only [Act.put, sA, sB, sC]))
              first
              | (refine wpAnyT_skip (i := 12) rfl (by kernel_rfl) (by first | rfl | (simp [Region.wanted, yielded]; done) | (simp [Region.wanted, yielded, undef, *]; done) | fail) (fun _ _ _ h => h) (fun h_ => absurd h_ (by decide)) ?_; (try simp only [Act.put, sA, sB, sC]))
              | (refine wpF (i := 12) rfl (by kernel_rfl) (by first | rfl | (simp [Region.wanted, yielded]; done) | (simp [Region.wanted, yielded, undef, *]; done) | fail) (fun _ _ _ h => h) (fun _ => by go_simp; try rfl) ?_; (try simp only [Act.put, sA, sB, sC]))
              (refine wpF (i := 13) rfl (by kernel_rfl) rfl (fun _ _ _ h => h) (fun _ => by go_simp; try rfl) ?_; (try simp only [Act.put, sA, sB, sC]))
              refine wpAnyT_done (by kernel_rfl) ?_ _
              go_wp2
              go_ret
              rw [E.out]
              exact ⟨rfl, HL9.out, HF9.out⟩
            · have hpl3 : ¬ (g'.recs.length : Int) < (per : Int) := by omega
              have he : restartS per gs (-1) = (outs ++ [g']) ++ restartS per (gs.drop (k + 1)) ((g'.base : Int) + (g'.recs.length : Int)) := by
                rw [HRS.out, if_neg (by rintro (h | h); cases h; exact hpl2 h), List.append_assoc]
                rfl
              have HE := Lib.hid he
              clear k1 he
              refine wp_region_T #[[], [], [], [], [], [], [], [6], [], [], [], [], [6, 11], [6, 11]] [6, 11] (fun w' => w'.cell? ⟨p'', 2, none⟩ = some (.slice R5 g'.recs.length cr5) ∧ w'.cell? ⟨b, 0, none⟩ = some (.int .i64 (per : Int))) 14 rfl (by kernel_rfl) ?_
              (refine wpF (i := 0) rfl (by kernel_rfl) rfl (fun _ _ _ h => h) (fun _ => by go_simp; try rfl) ?_; (try simp only [Act.put, sA, sB, sC]))
              (refine wpF (i := 1) rfl (by kernel_rfl) rfl (fun _ _ _ h => h) (fun _ => by go_simp; try rfl) ?_; (try simp only [Act.put, sA, sB, sC]))
              (refine wpF (i := 2) rfl (by kernel_rfl) rfl (fun _ _ _ h => h) (fun _ => by go_simp; try rfl) ?_; (try simp only [Act.put, sA, sB, sC]))
              first
              | (refine wpAnyT_skip (i := 3) rfl (by kernel_rfl) (by first | rfl | (simp [Region.wanted, yielded]; done) | (simp [Region.wanted, yielded, undef, *]; done) | fail) (fun _ _ _ h => h) (fun h_ => absurd h_ (by decide)) ?_; (try simp only [Act.put, sA, sB, sC]))
              | (refine wpF (i := 3) rfl (by kernel_rfl) (by first | rfl | (simp [Region.wanted, yielded]; done) | (simp [Region.wanted, yielded, undef, *]; done) | fail) (fun _ _ _ h => h) (fun _ => by go_simp; try rfl) ?_; (try simp only [Act.put, sA, sB, sC]))
              first
              | (refine wpAnyT_skip (i := 4) rfl (by kernel_rfl) (by first | rfl | (simp [Region.wanted, yielded]; done) | (simp [Region.wanted, yielded, undef, *]; done) | fail) (fun _ _ _ h => h) (fun h_ => absurd h_ (by decide)) ?_; (try simp only [Act.put, sA, sB, sC]))
              | (refine wpF (i := 4) rfl (by kernel_rfl) (by first | rfl | (simp [Region.wanted, yielded]; done) | (simp [Region.wanted, yielded, undef, *]; done) | fail) (fun _ _ _ h => h) (fun _ => by go_simp; try rfl) ?_; (try simp only [Act.put, sA, sB, sC]))
              first
              | (refine wpAnyT_skip (i := 5) rfl (by kernel_rfl) (by first | rfl | (simp [Region.wanted, yielded]; done) | (simp [Region.wanted, yielded, undef, *]; done) | fail) (fun _ _ _ h => h) (fun h_ => absurd h_ (by decide)) ?_; (try simp only [Act.put, sA, sB, sC]))
              | (refine wpF (i := 5) rfl (by kernel_rfl) (by first | rfl | (simp [Region.wanted, yielded]; done) | (simp [Region.wanted, yielded, undef, *]; done) | fail) (fun _ _ _ h => h) (fun _ => by go_simp; try rfl) ?_; (try simp only [Act.put, sA, sB, sC]))
              first
              | (refine wpAnyT_skip (i := 6) rfl (by kernel_rfl) (by first | rfl | (simp [Region.wanted, yielded]; done) | (simp [Region.wanted, yielded, undef, *]; done) | fail) (fun _ _ _ h => h) (fun _ => ⟨s25, b05⟩) ?_; (try simp only [Act.put, sA, sB, sC]))
              | (refine wpAnyT_read (i := 6) rfl (by kernel_rfl) (by first | rfl | (simp [Region.wanted, yielded]; done) | (simp [Region.wanted, yielded, undef, *]; done) | fail) (fun _ _ _ h => h) (by kernel_rfl) (⟨s25, b05⟩) (fun w hS_ => by obtain ⟨s_1, s_2⟩ := hS_; go_simp; try rfl) ?_; (try simp only [Act.put, sA, sB, sC]))
              first
              | (refine wpAnyT_skip (i := 7) rfl (by kernel_rfl) (by first | rfl | (simp [Region.wanted, yielded]; done) | (simp [Region.wanted, yielded, undef, *]; done) | fail) (fun _ _ _ h => h) (fun h_ => absurd h_ (by decide)) ?_; (try simp only [Act.put, sA, sB, sC]))
              | (refine wpF (i := 7) rfl (by kernel_rfl) (by first | rfl | (simp [Region.wanted, yielded]; done) | (simp [Region.wanted, yielded, undef, *]; done) | fail) (fun _ _ _ h => h) (fun _ => by go_simp; try rfl) ?_; (try simp only [Act.put, sA, sB, sC]))
              first
              | (refine wpAnyT_skip (i := 8) rfl (by kernel_rfl) (by first | rfl | (simp [Region.wanted, yielded]; done) | (simp [Region.wanted, yielded, undef, *]; done) | fail) (fun _ _ _ h => h) (fun h_ => absurd h_ (by decide)) ?_; (try simp only [Act.put, sA, sB, sC]))
              | (refine wpF (i := 8) rfl (by kernel_rfl) (by first | rfl | (simp [Region.wanted, yielded]; done) | (simp [Region.wanted, yielded, undef, *]; done) | fail) (fun _ _ _ h => h) (fun _ => by go_simp; try rfl) ?_; (try simp only [Act.put, sA, sB, sC]))
              first
              | (refine wpAnyT_skip (i := 9) rfl (by kernel_rfl) (by first | rfl | (simp [Region.wanted, yielded]; done) | (simp [Region.wanted, yielded, undef, *]; done) | fail) (fun _ _ _ h => h) (fun h_ => absurd h_ (by decide)) ?_; (try simp only [Act.put, sA, sB, sC]))
              | (refine wpF (i := 9) rfl (by kernel_rfl) (by first | rfl | (simp [Region.wanted, yielded]; done) | (simp [Region.wanted, yielded, undef, *]; done) | fail) (fun _ _ _ h => h) (fun _ => by go_simp; try rfl) ?_; (try simp only [Act.put, sA, sB, sC]))
              first
              | (refine wpAnyT_skip (i := 10) rfl (by kernel_rfl) (by first | rfl | (simp [Region.wanted, yielded]; done) | (simp [Region.wanted, yielded, undef, *]; done) | fail) (fun _ _ _ h => h) (fun h_ => absurd h_ (by decide)) ?_; (try simp only [Act.put, sA, sB, sC]))
              | (refine wpF (i := 10) rfl (by kernel_rfl) (by first | rfl | (simp [Region.wanted, yielded]; done) | (simp [Region.wanted, yielded, undef, *]; done) | fail) (fun _ _ _ h => h) (fun _ => by go_simp; try rfl) ?_; (try simp only [Act.put, sA, sB, sC]))
              first
              | (refine wpAnyT_skip (i := 11) rfl (by kernel_rfl) (by first | rfl | (simp [Region.wanted, yielded]; done) | (simp [Region.wanted, yielded, undef, *]; done) | fail) (fun _ _ _ h => h) (fun _ => ⟨s25, b05⟩) ?_; (try simp only [Act.put, sA, sB, sC]))
              | (refine wpAnyT_read (i := 11) rfl (by kernel_rfl) (by first | rfl | (simp [Region.wanted, yielded]; done) | (simp [Region.wanted, yielded, undef, *]; done) | fail) (fun _ _ _ h => h) (by kernel_rfl) (⟨s25, b05⟩) (fun w hS_ => by obtain ⟨s_1, s_2⟩ := hS_; go_simp; try rfl) ?_; (try simp only [Act.put, sA, sB, sC]))
              first
              | (refine wpAnyT_skip (i := 12) rfl (by kernel_rfl) (by first | rfl | (simp [Region.wanted, yielded]; done) | (simp [Region.wanted, yielded, undef, *]; done) | fail) (fun _ _ _ h => h) (fun h_ => absurd h_ (by decide)) ?_; (try simp only [Act.put, sA, sB, sC]))
              | (refine wpF (i := 12) rfl (by kernel_rfl) (by first | rfl | (simp [Region.wanted, yielded]; done) | (simp [Region.wanted, yielded, undef, *]; done) | fail) (fun _ _ _ h => h) (fun _ => by go_simp; try rfl) ?_; (try simp only [Act.put, sA, sB, sC]))
              (refine wpF (i := 13) rfl (by kernel_rfl) rfl (fun _ _ _ h => h) (fun _ => by go_simp; try rfl) ?_; (try simp only [Act.put, sA, sB, sC]))
              refine wpAnyT_done (by kernel_rfl) ?_ _
              go_wp2
              go_roundw
              case rel => exact ⟨k + 1, qs ++ [p''], outs ++ [g'], _, _, by omega, by go_num, rfl, hN.drew.drew, HE.out⟩
              case measure => simp [intOf]; omega
      · obtain rfl : k = ps.length := by omega
        have e0 : gs.drop ps.length = [] := List.drop_of_length_le (by rw [HQ.out]; omega)
        have he : restartS per gs (-1) = outs := by rw [HR.out, e0]; exact List.append_nil _
        obtain ⟨hb2, hl2, hf2⟩ := hI.finish hHS hbH hSl hper (by omega) (w2 := wr) (Fr.refl _ _) hI.part he
        have y1 := hb2.cell 1 (v := .slice A ps.length c) rfl
        have y1f := hb2.frozen 1
        clear he
        go_wp2
        go_ret
        rw [E.out]
        exact ⟨rfl, hl2, hf2⟩
end
end Go.Proofs.YtediidajdpdeiaaGreatDoor

/- The log's Records (layer 7): the iterator, handed a function literal that never stops it. -/
namespace Go.Proofs.YtediidajdpdeiaaGreatDoor
open Go.RowKit CrcM
set_option maxRecDepth 100000

/-- records with their numbers -/
def numR : Nat → List (List UInt8) → List (Nat × List UInt8)
  | _, [] => []
  | n, r :: t => (n, r) :: numR (n + 1) t
def numS (gs : List Sg) : List (Nat × List UInt8) := gs.flatMap fun g => numR g.base g.recs
theorem length_numR : ∀ (rs : List (List UInt8)) (n : Nat), (numR n rs).length = rs.length
  | [], _ => rfl
  | r :: t, n => by simp [numR, length_numR t]
theorem numR_at : ∀ (rs : List (List UInt8)) (n i : Nat) (r : List UInt8), rs[i]? = some r → (numR n rs)[i]? = some (n + i, r)
  | [], _, _, _, h => by simp at h
  | x :: t, n, 0, r, h => by
    injection h with h
    subst h
    rfl
  | x :: t, n, i + 1, r, h => by
    have := numR_at t (n + 1) i r (by simpa using h)
    simp only [numR, List.getElem?_cons_succ]
    rw [this]
    congr 2
    omega
theorem numS_at {gs : List Sg} {k i : Nat} {g : Sg} {r : List UInt8} (hg : gs[k]? = some g) (hr : g.recs[i]? = some r) : (numS gs)[(numS (gs.take k)).length + i]? = some (g.base + i, r) := by
  have e : gs = gs.take k ++ g :: gs.drop (k + 1) := by
    conv => lhs; rw [← List.take_append_drop k gs]
    rw [drop_of hg]
  have h1 : numS gs = numS (gs.take k) ++ (numR g.base g.recs ++ numS (gs.drop (k + 1))) := by
    conv => lhs; rw [e]
    simp [numS]
  have h2 := (List.getElem?_eq_some_iff.1 hr).1
  rw [h1, List.getElem?_append_right (by omega), Nat.add_sub_cancel_left, List.getElem?_append_left (by rw [length_numR]; exact h2)]
  exact numR_at _ _ _ _ hr
theorem numS_succ {gs : List Sg} {k : Nat} {g : Sg} (hg : gs[k]? = some g) : (numS (gs.take (k + 1))).length = (numS (gs.take k)).length + g.recs.length := by
  rw [List.take_add_one, hg]
  simp [numS, length_numR]

theorem LogO.recsAt {S H : Nat → Prop} {w : World} {b : Nat} {A : Option Addr} {c : Nat} {ps : List Nat} {per : Nat} {gs : List Sg} {dn : Bool} (h : LogO S H w b A c ps ⟨per, gs, dn⟩) {k p : Nat} {g : Sg} (hp : ps[k]? = some p) (hg : gs[k]? = some g) :
    ∃ (R : Option Addr) (cr : Nat) (vals : List Value), S p ∧ w.cell? ⟨p, 1, none⟩ = some (.int .i64 (g.base : Int)) ∧ w.cell? ⟨p, 2, none⟩ = some (.slice R g.recs.length cr) ∧ Row S w TBs (.slice R g.recs.length cr) vals ∧ Recs w vals g.recs := by
  obtain ⟨Fi, hF, hs, hup⟩ := h.segs.at hp hg
  obtain ⟨⟨Sd, Sh, db, Rd, cR, rv, vals, h1, h2, h3, h4, h5, h6, h7, h8⟩, hlt⟩ := hs
  obtain ⟨R, cr, rfl, _⟩ := h7.val
  have hvl := h8.1
  rw [hvl] at h5 h7
  exact ⟨R, cr, vals, (hF p (h2 p h4)).1, h5.cell 1 rfl, h5.cell 2 rfl, h7.mono (fun x _ hx => (hF x (h2 x hx)).1), h8⟩

section
variable {S H S' : Nat → Prop} {w : World} {b : Nat} {A : Option Addr} {c : Nat} {ps : List Nat} {per : Nat} {gs : List Sg} {dn : Bool}
end
end Go.Proofs.YtediidajdpdeiaaGreatDoor

/- The log's Segments (layer 7): the walk. -/
namespace Go.Proofs.YtediidajdpdeiaaGreatDoor
open Go.RowKit CrcM
set_option maxRecDepth 100000

/-- copies of the segments' disks, each for itself, none in Ro -/
def DisksAt (B : Nat) (Ro : Nat → Prop) (w : World) (vals : List Value) (gs : List Sg) : Prop := vals.length = gs.length ∧ ∀ (k : Nat) (g : Sg), gs[k]? = some g → ∃ (Sd : Nat → Prop) (db : Nat) (A : Option Addr) (c : Nat), vals[k]? = some (.pointer (some ⟨db, 0, none⟩)) ∧ DiskAt Sd w db A c g.d ∧ ∀ x, Sd x → B ≤ x ∧ ¬ Ro x
theorem DisksAt.fr {B : Nat} {Ro S' : Nat → Prop} {w w' : World} {vals : List Value} {gs : List Sg} (h : DisksAt B Ro w vals gs) (f : Fr S' w w') (hd : ∀ x, S' x → B ≤ x → Ro x) : DisksAt B Ro w' vals gs :=
  ⟨h.1, fun k g hg => by
    obtain ⟨Sd, db, A, c, h1, h2, h3⟩ := h.2 k g hg
    exact ⟨Sd, db, A, c, h1, h2.fr f (fun x hx hy => ((h3 x hx).2 (hd x hy (h3 x hx).1)).elim), h3⟩⟩

section
variable {S H : Nat → Prop} {w : World} {b : Nat} {A : Option Addr} {c : Nat} {ps : List Nat} {L : Lg}
end
end Go.Proofs.YtediidajdpdeiaaGreatDoor
