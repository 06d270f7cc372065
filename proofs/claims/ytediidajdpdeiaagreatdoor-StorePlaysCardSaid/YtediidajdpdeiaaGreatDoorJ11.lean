/- A store's slots in memory (layer 8): a map, read whole. -/
import Derived.Test.YtediidajdpdeiaaGreatDoorJ9
import Derived.Test.YtediidajdpdeiaaGreatDoorJ10
import Derived.Maps.RangeWalk
import Derived.Maps.Ext
import Derived.WalkSpells

namespace Go.Proofs.YtediidajdpdeiaaGreatDoor
open Go.RowKit CrcM
set_option maxRecDepth 100000

abbrev THd : TypeId := 105
abbrev TMp : TypeId := 98
abbrev TIn : TypeId := 3

/-- an element of the map, taken as it stands -/
def heldR (v : Value) : Option (DataW Value × List MemPlace) := some (.held v, [])
def litN (k : Nat) : Lit := .int .i64 (k : Int)
def mapD (E : List (Nat × Value)) : DataW Value := .map (E.map fun p => (litN p.1, DataW.held p.2))

theorem litN_key (k : Nat) : WideAt.IsKeyLit (litN k) := trivial
theorem litN_before (a b : Nat) : (litN a).before (litN b) = decide (a < b) := by
  simp [litN, Lit.before]
theorem litN_same (a b : Nat) : (litN a).sameKey (litN b) = decide (a = b) := by
  simp only [litN, Lit.sameKey, true_and]
  exact decide_eq_decide.2 (by omega)
theorem mapD_put (E : List (Nat × Value)) (k : Nat) (v : Value) : (mapD E).put (litN k) (.held v) = mapD (putN k v E) := by
  have h1 : ∀ l : List (Nat × Value), (l.map fun p => (litN p.1, DataW.held (H := Value) p.2)).filter (Go.ChangeMaps.notKey (litN k)) = (delN k l).map fun p => (litN p.1, DataW.held p.2) := by
    intro l
    induction l with
    | nil => rfl
    | cons y r ih =>
      unfold delN at *
      simp only [List.map_cons, List.filter_cons, Go.ChangeMaps.notKey, litN_same]
      by_cases h : y.1 = k
      · simp [h]; simpa [Go.ChangeMaps.notKey] using ih
      · simp [h]; simpa [Go.ChangeMaps.notKey] using ih
  have h2 : ∀ (x : Nat × Value) (l : List (Nat × Value)), DataW.insert (litN x.1, DataW.held x.2) (l.map fun p => (litN p.1, DataW.held (H := Value) p.2)) = (insN x l).map fun p => (litN p.1, DataW.held p.2) := by
    intro x l
    induction l with
    | nil => rfl
    | cons y r ih =>
      unfold insN
      simp only [List.map_cons, DataW.insert, litN_before]
      by_cases h : x.1 < y.1
      · simp [h]
      · simp [h, ih]
  unfold mapD
  rw [DataW.put_eq]
  unfold Go.ChangeMaps.putKey
  rw [h1, h2 (k, v)]
  rfl
theorem mapD_del (E : List (Nat × Value)) (k : Nat) : (mapD E).del (litN k) = mapD (delN k E) := by
  unfold mapD
  rw [DataW.del_eq]
  unfold Go.ChangeMaps.delKey
  congr 1
  induction E with
  | nil => rfl
  | cons y r ih =>
    unfold delN at *
    simp only [List.map_cons, List.filter_cons, Go.ChangeMaps.notKey, litN_same]
    by_cases h : y.1 = k
    · simp [h]; simpa [Go.ChangeMaps.notKey] using ih
    · simp [h]; simpa [Go.ChangeMaps.notKey] using ih
theorem mapD_has (E : List (Nat × Value)) (k : Nat) : Go.Maps.has (mapD E) (litN k) = (getN k E).isSome := by
  unfold mapD getN
  rw [Go.Maps.has_eq]
  induction E with
  | nil => rfl
  | cons y r ih =>
    simp only [List.map_cons, List.any_cons, List.find?_cons, litN_same]
    by_cases h : y.1 = k
    · simp [h]
    · simpa [h] using ih
theorem mapD_at (E : List (Nat × Value)) (k : Nat) (z : DataW Value) : (mapD E).atKey (litN k) z = match getN k E with
    | some v => .held v
    | none => z := by
  unfold mapD getN DataW.atKey
  simp only
  induction E with
  | nil => rfl
  | cons y r ih =>
    simp only [List.map_cons, List.find?_cons, litN_same]
    by_cases h : y.1 = k
    · simp [h]
    · simpa [h] using ih
theorem mapD_size (E : List (Nat × Value)) : Go.Maps.size (mapD E) = E.length := by simp [mapD, Go.Maps.size_eq]

theorem intKey : Go.Maps.Keyed Tryz.prog TIn := Go.Maps.int_keyed (P := Tryz.prog) (k := TIn) (q := .i64) Tryz.underlying3
theorem keyOf_nat (k : Nat) (hk : k ≤ 4611686018427387904) : keyOf Tryz.prog TIn (.int .i64 (k : Int)) = some (litN k) :=
  Go.Maps.keyOf_int_mk (q := .i64) Tryz.underlying3 (by simp [Lit.wf, IntKind.min, IntKind.max, IntKind.signed, IntKind.bits]; omega)

/-- what an element of the map is -/
def HeldV [Hole] (w : World) (h : Hd) (v : Value) : Prop := ∃ A c, v = .agg #[.int .i64 (h.ballot : Int), .slice A h.value.length c] ∧ h.value.length ≤ c ∧ c ≤ maxLen ∧ Own Any w A h.value
theorem HeldV.bk [Hole] {w w' : World} {h : Hd} {v : Value} (q : HeldV w h v) (k : BK w w') : HeldV w' h v := by
  obtain ⟨A, c, h1, h2, h3, h4⟩ := q
  refine ⟨A, c, h1, h2, h3, fun j x hx => ?_⟩
  obtain ⟨ad, e, hc, hb, hs⟩ := h4 j x hx
  exact ⟨ad, e, (cell_eq (by rw [add_block]; exact k _ hb)).trans hc, hb.eq (k _ hb), hs⟩

/-- a store's slots, with the values that stand for them in the map -/
abbrev Held3 := List (Nat × (Hd × Value))
def valsOf (Z : Held3) : List (Nat × Value) := Z.map (onN Prod.snd)
def slotsOf (Z : Held3) : Slots := Z.map (onN Prod.fst)
/-- BLOCK b IS THE MAP OF THESE SLOTS -/
def SlotsAt [Hole] (w : World) (b : Nat) (M : Slots) : Prop :=
  ∃ Z : Held3, w.ownsMap Tryz.prog TIn heldR b Z.length (mapD (valsOf Z)) ∧ slotsOf Z = M ∧ (∀ z ∈ Z, HeldV w z.2.1 z.2.2) ∧ ∀ z ∈ Z, z.1 ≤ 4611686018427387904

section
variable [Hole] {w w' : World} {b : Nat} {M : Slots}
omit [Hole] in
theorem ownsMap_same {n : Nat} {D : DataW Value} (h : w.ownsMap Tryz.prog TIn heldR b n D) (e : w'.heap[b]? = w.heap[b]?) : w'.ownsMap Tryz.prog TIn heldR b n D := by
  obtain ⟨es, clock, hb, r⟩ := h
  exact ⟨es, clock, e.trans hb, r⟩
omit [Hole] in
/-- the bound on the entries is their number -/
theorem ownsMap_tight {n : Nat} {E : List (Nat × Value)} (h : w.ownsMap Tryz.prog TIn heldR b n (mapD E)) : w.ownsMap Tryz.prog TIn heldR b E.length (mapD E) := by
  obtain ⟨es, clock, hb, F, _, hD⟩ := h
  refine ⟨es, clock, hb, F, ?_, hD⟩
  have h1 := mapD_size E
  rw [hD] at h1
  simp only [Go.Maps.size_eq, length_sorted, List.length_map, Array.length_toList] at h1
  omega
theorem SlotsAt.lt (h : SlotsAt w b M) : b < w.heap.size := by
  obtain ⟨Z, h1, -⟩ := h
  exact h1.lt
theorem SlotsAt.notB (h : SlotsAt w b M) : ¬ IsB w b := by
  obtain ⟨Z, ⟨es, clock, hb, -⟩, -⟩ := h
  rintro ⟨cs, fz, h⟩
  rw [hb] at h
  cases h
theorem SlotsAt.keep (h : SlotsAt w b M) (e : w'.heap[b]? = w.heap[b]?) (k : BK w w') : SlotsAt w' b M := by
  obtain ⟨Z, h1, h2, h3, h4⟩ := h
  exact ⟨Z, ownsMap_same h1 e, h2, fun z hz => (h3 z hz).bk k, h4⟩
theorem SlotsAt.fr {S : Nat → Prop} (h : SlotsAt w b M) (f : Fr S w w') (hs : ¬ S b) : SlotsAt w' b M := h.keep (f.out b h.lt hs) f.byt
theorem SlotsAt.below (h : SlotsAt w b M) (hb : Below w.heap.size w w') : SlotsAt w' b M := h.fr (S := Non) (Fr.of_below hb) (fun h => h)
theorem SlotsAt.made (w : World) : SlotsAt (w.alloc (.map #[] 0)) w.heap.size [] := ⟨[], World.ownsMap_made _ _ _ _, rfl, by intro z hz; exact absurd hz (List.not_mem_nil), by intro z hz; exact absurd hz (List.not_mem_nil)⟩
omit [Hole] in
theorem Fr.turned (h : w.mapTurned w' b) : Fr (fun x => x = b) w w' := by
  obtain ⟨es, clock, es', clock', hb, rfl⟩ := h
  refine ⟨rfl, rfl, rfl, by simp [Go.ChangeMaps.setBlock], fun x _ hx => Go.ChangeMaps.heap_setBlock_other hb _ (fun e => hx e), fun x hx => Go.ChangeMaps.heap_setBlock_other hb _ (fun e => ?_)⟩
  obtain ⟨cs, fz, hx⟩ := hx
  rw [e, hb] at hx
  cases hx

/-- 'm[k] = v' -/
theorem SlotsAt.put (h : SlotsAt w b M) (hM : M.length ≤ 1048576) (k : Nat) (hk : k ≤ 4611686018427387904) {hd : Hd} {v : Value} (hv : HeldV w hd v) :
    ∃ w', (Instr.mapUpdate TMp (.map (some b)) (.int .i64 (k : Int)) v).run Tryz.prog w = .ok () w' ∧ SlotsAt w' b (putN k hd M) ∧ Fr (fun x => x = b) w w' := by
  obtain ⟨Z, h1, rfl, h3, h4⟩ := h
  have hl : Z.length < maxLen := by
    unfold slotsOf at hM
    rw [List.length_map] at hM
    unfold maxLen
    omega
  obtain ⟨w', hrun, ho, ht⟩ := h1.store intKey Tryz.underlying98 hl (keyOf_nat k hk) (d := .held v) (ps := []) rfl
  have hf := Fr.turned ht
  rw [show (mapD (valsOf Z)).put (litN k) (.held v) = mapD (valsOf (putN k (hd, v) Z)) from by rw [mapD_put]; unfold valsOf; rw [putN_map]] at ho
  have ho' := ownsMap_tight ho
  rw [show (valsOf (putN k (hd, v) Z)).length = (putN k (hd, v) Z).length from by unfold valsOf; rw [List.length_map]] at ho'
  refine ⟨w', hrun, ⟨putN k (hd, v) Z, ho', ?_, fun z hz => ?_, fun z hz => ?_⟩, hf⟩
  · unfold slotsOf
    rw [putN_map]
  · rcases mem_putN.1 hz with rfl | ⟨hz, _⟩
    · exact hv.bk hf.byt
    · exact (h3 z hz).bk hf.byt
  · rcases mem_putN.1 hz with rfl | ⟨hz, _⟩
    · exact hk
    · exact h4 z hz
omit [Hole] in
theorem zeroH (w : World) : (zeroValue THd).run Tryz.prog w = .ok (.agg #[.int .i64 0, .slice none 0 0]) w := by kernel_rfl
/-- 'v, ok := m[k]' -/
theorem SlotsAt.look (h : SlotsAt w b M) (k : Nat) (hk : k ≤ 4611686018427387904) : ∃ v, (Instr.lookup TMp (.map (some b)) (.int .i64 (k : Int)) true).run Tryz.prog w = .ok (.tuple #[v, .bool (getN k M).isSome]) w ∧
    (match getN k M with
      | some hd => HeldV w hd v
      | none => v = .agg #[.int .i64 0, .slice none 0 0]) := by
  obtain ⟨Z, h1, rfl, h3, h4⟩ := h
  have hz := zeroH w
  obtain ⟨v, ps, hrun, hv⟩ := h1.look_ok intKey Tryz.underlying98 hz (zd := .held (.agg #[.int .i64 0, .slice none 0 0])) (zp := []) rfl (keyOf_nat k hk)
  rw [mapD_has, mapD_at] at *
  unfold valsOf slotsOf at *
  rw [getN_map] at hrun hv ⊢
  unfold heldR at hv
  injection hv with hv
  injection hv with hv _
  cases hg : getN k Z with
  | none =>
    rw [hg] at hrun hv
    simp only [Option.map_none] at hv
    injection hv with hv
    exact ⟨v, hrun, hv⟩
  | some q =>
    rw [hg] at hrun hv
    simp only [Option.map_some] at hv
    injection hv with hv
    have := h3 _ (getN_some hg)
    exact ⟨v, hrun, by rw [hv]; exact this⟩
/-- 'm[k]' of a slot that has something -/
theorem SlotsAt.has (h : SlotsAt w b M) (k : Nat) (hk : k ≤ 4611686018427387904) {hd : Hd} (hg : getN k M = some hd) : ∃ v, (Instr.lookup TMp (.map (some b)) (.int .i64 (k : Int)) false).run Tryz.prog w = .ok v w ∧ HeldV w hd v := by
  obtain ⟨Z, h1, rfl, h3, h4⟩ := h
  obtain ⟨v, ps, hrun, hv⟩ := h1.lookup intKey Tryz.underlying98 (zeroH w) (zd := .held (.agg #[.int .i64 0, .slice none 0 0])) (zp := []) rfl (keyOf_nat k hk)
  rw [mapD_at] at hv
  unfold valsOf slotsOf at *
  rw [getN_map] at hv hg
  unfold heldR at hv
  injection hv with hv
  injection hv with hv _
  cases hq : getN k Z with
  | none => rw [hq] at hg; cases hg
  | some q =>
    rw [hq] at hv hg
    simp only [Option.map_some] at hv hg
    injection hv with hv
    injection hg with hg
    have := h3 _ (getN_some hq)
    exact ⟨v, hrun, by rw [hv, ← hg]; exact this⟩
/-- 'len(m)' -/
theorem SlotsAt.len (h : SlotsAt w b M) (ty : TypeId) : (Builtin.len_ #[TMp] ty #[.map (some b)]).run Tryz.prog w = .ok (.int .i64 (M.length : Int)) w := by
  obtain ⟨Z, h1, rfl, h3, h4⟩ := h
  rw [h1.len Tryz.underlying98 ty, mapD_size]
  unfold valsOf slotsOf
  rw [List.length_map, List.length_map]
end
end Go.Proofs.YtediidajdpdeiaaGreatDoor

/- A store in memory (layer 8): what its blocks say; what it tells. -/
namespace Go.Proofs.YtediidajdpdeiaaGreatDoor
open Go.RowKit CrcM
set_option maxRecDepth 100000

abbrev TSo : TypeId := 100

/-- numbers within what a store takes -/
structure St.ok (s : St) : Prop where
  pr : s.promised ≤ 1099511627776
  ba : s.base ≤ 1099511627776
  few : s.slots.length ≤ 1048575
  rise : Rise s.slots
  all : ∀ p ∈ s.slots, p.1 ≤ 1099511627776 ∧ p.2.ballot ≤ 1099511627776 ∧ p.2.value.length ≤ 32768
theorem St.ok_new : St.new.ok := ⟨by decide, by decide, by decide, List.Pairwise.nil, fun p hp => by cases hp⟩

/-- block b is a store: all of it laid open -/
structure SoO [Hole] (S S1 S2 : Nat → Prop) (w : World) (b lb db mb : Nat) (s : So) : Prop where
  blk : Blk w b TSo #[.int .i64 (s.per : Int), ptr lb, ptr db, .int .i64 (s.st.promised : Int), .int .i64 (s.st.base : Int), .map (some mb)]
  log : LogAt S1 w lb s.log
  snap : ∃ A c, DiskAt S2 w db A c s.snap
  map : SlotsAt w mb s.st.slots
  h1 : ∀ x, S1 x → S x
  h2 : ∀ x, S2 x → S x
  hb : S b
  hm : S mb
  d12 : ∀ x, S1 x → ¬ S2 x
  d1 : ¬ S1 b ∧ ¬ S1 mb
  d2 : ¬ S2 b ∧ ¬ S2 mb
  lt : ∀ x, S x → x < w.heap.size
  per : 1 ≤ s.per ∧ s.per ≤ 1024
  ok : s.st.ok
def SoAt [Hole] (S : Nat → Prop) (w : World) (b : Nat) (s : So) : Prop := ∃ S1 S2 lb db mb, SoO S S1 S2 w b lb db mb s
def IsSo [Hole] (S : Nat → Prop) (w : World) (p : Value) (s : So) : Prop := ∃ b, p = ptr b ∧ SoAt S w b s

section
variable [Hole] {S S1 S2 S' : Nat → Prop} {w w' : World} {b lb db mb : Nat} {s : So}
theorem SoO.ne (h : SoO S S1 S2 w b lb db mb s) : b ≠ mb := by
  intro e
  obtain ⟨Z, ⟨es, clock, hb, -⟩, -⟩ := h.map
  have := h.blk
  unfold Blk at this
  rw [e, hb] at this
  cases this
theorem SoO.fr (h : SoO S S1 S2 w b lb db mb s) (f : Fr S' w w') (hd : ∀ x, S x → S' x → IsB w x) : SoO S S1 S2 w' b lb db mb s := by
  obtain ⟨A, c, hs⟩ := h.snap
  exact ⟨h.blk.fr f (fun hx => h.blk.notB (by decide) (hd _ h.hb hx)), h.log.fr f (fun x p q => hd x (h.h1 x p) q), ⟨A, c, hs.fr f (fun x p q => hd x (h.h2 x p) q)⟩, h.map.fr f (fun hx => h.map.notB (hd _ h.hm hx)), h.h1, h.h2, h.hb, h.hm, h.d12, h.d1, h.d2, fun x hx => Nat.lt_of_lt_of_le (h.lt x hx) f.size, h.per, h.ok⟩
theorem SoO.below (h : SoO S S1 S2 w b lb db mb s) (hb : Below w.heap.size w w') : SoO S S1 S2 w' b lb db mb s := h.fr (S' := Non) (Fr.of_below hb) (fun _ _ h => h.elim)
theorem SoO.mono (h : SoO S S1 S2 w b lb db mb s) (hs : ∀ x, S x → S' x) (hl : ∀ x, S' x → x < w.heap.size) : SoO S' S1 S2 w b lb db mb s :=
  ⟨h.blk, h.log, h.snap, h.map, fun x hx => hs x (h.h1 x hx), fun x hx => hs x (h.h2 x hx), hs _ h.hb, hs _ h.hm, h.d12, h.d1, h.d2, hl, h.per, h.ok⟩
theorem SoO.same (h : SoO S S1 S2 w b lb db mb s) : IsSo (Up S w w) w (.pointer (some ⟨b, 0, none⟩)) s :=
  ⟨b, rfl, S1, S2, lb, db, mb, h.mono (fun _ => .inl) (fun x hx => hx.elim (h.lt x) (fun h => h.2))⟩
theorem SoO.is (h : SoO S S1 S2 w b lb db mb s) : IsSo S w (.pointer (some ⟨b, 0, none⟩)) s := ⟨b, rfl, S1, S2, lb, db, mb, h⟩
/-- what a walk wants to know of a store -/
theorem SoO.facts (h : SoO S S1 S2 w b lb db mb s) :
    w.cell? ⟨b, 0, none⟩ = some (.int .i64 (s.per : Int)) ∧ w.cell? ⟨b, 1, none⟩ = some (.pointer (some ⟨lb, 0, none⟩)) ∧ w.cell? ⟨b, 2, none⟩ = some (.pointer (some ⟨db, 0, none⟩)) ∧
    w.cell? ⟨b, 3, none⟩ = some (.int .i64 (s.st.promised : Int)) ∧ w.cell? ⟨b, 4, none⟩ = some (.int .i64 (s.st.base : Int)) ∧ w.cell? ⟨b, 5, none⟩ = some (.map (some mb)) ∧
    w.frozen? ⟨b, 1, none⟩ = false ∧ w.frozen? ⟨b, 3, none⟩ = false ∧ w.frozen? ⟨b, 4, none⟩ = false :=
  ⟨h.blk.cell 0 rfl, h.blk.cell 1 rfl, h.blk.cell 2 rfl, h.blk.cell 3 rfl, h.blk.cell 4 rfl, h.blk.cell 5 rfl, h.blk.frozen 1, h.blk.frozen 3, h.blk.frozen 4⟩
/-- the log turns -/
theorem SoO.turnLog (h : SoO S S1 S2 w b lb db mb s) {L' : Lg} (hl : IsLog (Up S1 w w') w' (.pointer (some ⟨lb, 0, none⟩)) L') (f : Fr S1 w w') :
    SoO (Up S w w') (Up S1 w w') S2 w' b lb db mb ⟨s.per, L', s.snap, s.st⟩ ∧ Fr S w w' := by
  obtain ⟨lb', e, hl⟩ := hl
  injection e with e
  injection e with e
  injection e with e
  subst e
  obtain ⟨A, c, hs⟩ := h.snap
  have hlt : ∀ x, S x → ¬ Nw w w' x := fun x hx hn => by have := h.lt x hx; have := hn.1; omega
  refine ⟨⟨h.blk.fr f h.d1.1, hl, ⟨A, c, hs.fr f (fun x p q => (h.d12 x q p).elim)⟩, h.map.fr f h.d1.2, fun x hx => hx.imp_left (h.h1 x), fun x hx => .inl (h.h2 x hx), .inl h.hb, .inl h.hm, fun x hx hy => hx.elim (fun hx => h.d12 x hx hy) (fun q => hlt x (h.h2 x hy) q), ⟨fun hx => hx.elim h.d1.1 (hlt _ h.hb), fun hx => hx.elim h.d1.2 (hlt _ h.hm)⟩, h.d2, Up.lt h.lt f.size, h.per, h.ok⟩, f.mono (fun x _ hx => h.h1 x hx)⟩
/-- the snapshot's disk turns -/
theorem SoO.turnSnap (h : SoO S S1 S2 w b lb db mb s) {D' : Dk} (hl : IsDisk (Up S2 w w') w' (.pointer (some ⟨db, 0, none⟩)) D') (f : Fr S2 w w') :
    SoO (Up S w w') S1 (Up S2 w w') w' b lb db mb ⟨s.per, s.log, D', s.st⟩ ∧ Fr S w w' := by
  obtain ⟨db', A', c', e, hl⟩ := hl
  injection e with e
  injection e with e
  injection e with e
  subst e
  have hlt : ∀ x, S x → ¬ Nw w w' x := fun x hx hn => by have := h.lt x hx; have := hn.1; omega
  refine ⟨⟨h.blk.fr f h.d2.1, h.log.fr f (fun x p q => (h.d12 x p q).elim), ⟨A', c', hl⟩, h.map.fr f h.d2.2, fun x hx => .inl (h.h1 x hx), fun x hx => hx.imp_left (h.h2 x), .inl h.hb, .inl h.hm, fun x hx hy => hy.elim (fun hy => h.d12 x hx hy) (fun q => hlt x (h.h1 x hx) q), h.d1, ⟨fun hx => hx.elim h.d2.1 (hlt _ h.hb), fun hx => hx.elim h.d2.2 (hlt _ h.hm)⟩, Up.lt h.lt f.size, h.per, h.ok⟩, f.mono (fun x _ hx => h.h2 x hx)⟩
/-- the map turns -/
theorem SoO.turnMap (h : SoO S S1 S2 w b lb db mb s) {M' : Slots} (hl : SlotsAt w' mb M') (f : Fr (fun x => x = mb) w w') (hok : St.ok ⟨s.st.promised, s.st.base, M'⟩) :
    SoO (Up S w w') S1 S2 w' b lb db mb ⟨s.per, s.log, s.snap, ⟨s.st.promised, s.st.base, M'⟩⟩ ∧ Fr S w w' := by
  obtain ⟨A, c, hs⟩ := h.snap
  exact ⟨⟨h.blk.fr f h.ne, h.log.fr f (fun x p q => (h.d1.2 (q ▸ p)).elim), ⟨A, c, hs.fr f (fun x p q => (h.d2.2 (q ▸ p)).elim)⟩, hl, fun x hx => .inl (h.h1 x hx), fun x hx => .inl (h.h2 x hx), .inl h.hb, .inl h.hm, h.d12, h.d1, h.d2, Up.lt h.lt f.size, h.per, hok⟩, f.mono (fun x _ e => e ▸ h.hm)⟩
/-- the promise is written -/
theorem SoO.setPr (h : SoO S S1 S2 w b lb db mb s) (n : Nat) (hn : n ≤ 1099511627776) :
    SoO S S1 S2 (w.setCell ⟨b, 3, none⟩ (.int .i64 (n : Int))) b lb db mb ⟨s.per, s.log, s.snap, ⟨n, s.st.base, s.st.slots⟩⟩ ∧ Fr S w (w.setCell ⟨b, 3, none⟩ (.int .i64 (n : Int))) := by
  have hnb : ¬ IsB w b := h.blk.notB (by decide)
  have f : Fr (fun x => x = b) w (w.setCell ⟨b, 3, none⟩ (.int .i64 (n : Int))) := (Fr.refl (fun x => x = b) _).setCell (p := ⟨b, 3, none⟩) (.inl rfl) hnb _
  obtain ⟨A, c, hs⟩ := h.snap
  exact ⟨⟨by simpa using h.blk.set 3 (.int .i64 (n : Int)), h.log.fr f (fun x p q => (h.d1.1 (q ▸ p)).elim), ⟨A, c, hs.fr f (fun x p q => (h.d2.1 (q ▸ p)).elim)⟩, h.map.fr f (fun e => h.ne e.symm), h.h1, h.h2, h.hb, h.hm, h.d12, h.d1, h.d2, by simpa [World.setCell] using h.lt, h.per, ⟨hn, h.ok.ba, h.ok.few, h.ok.rise, h.ok.all⟩⟩, f.mono (fun x _ e => e ▸ h.hb)⟩
/-- the base is written -/
theorem SoO.setBa (h : SoO S S1 S2 w b lb db mb s) (n : Nat) (hn : n ≤ 1099511627776) :
    SoO S S1 S2 (w.setCell ⟨b, 4, none⟩ (.int .i64 (n : Int))) b lb db mb ⟨s.per, s.log, s.snap, ⟨s.st.promised, n, s.st.slots⟩⟩ ∧ Fr S w (w.setCell ⟨b, 4, none⟩ (.int .i64 (n : Int))) := by
  have hnb : ¬ IsB w b := h.blk.notB (by decide)
  have f : Fr (fun x => x = b) w (w.setCell ⟨b, 4, none⟩ (.int .i64 (n : Int))) := (Fr.refl (fun x => x = b) _).setCell (p := ⟨b, 4, none⟩) (.inl rfl) hnb _
  obtain ⟨A, c, hs⟩ := h.snap
  exact ⟨⟨by simpa using h.blk.set 4 (.int .i64 (n : Int)), h.log.fr f (fun x p q => (h.d1.1 (q ▸ p)).elim), ⟨A, c, hs.fr f (fun x p q => (h.d2.1 (q ▸ p)).elim)⟩, h.map.fr f (fun e => h.ne e.symm), h.h1, h.h2, h.hb, h.hm, h.d12, h.d1, h.d2, by simpa [World.setCell] using h.lt, h.per, ⟨h.ok.pr, hn, h.ok.few, h.ok.rise, h.ok.all⟩⟩, f.mono (fun x _ e => e ▸ h.hb)⟩
/-- another log is laid in -/
theorem SoO.setLog (h : SoO S S1 S2 w b lb db mb s) {lb' : Nat} {S1' : Nat → Prop} {L' : Lg} (hl : LogAt S1' w lb' L') (hS : ∀ x, S1' x → S x) (hd : ∀ x, S1' x → ¬ S2 x ∧ x ≠ b ∧ x ≠ mb) :
    SoO S S1' S2 (w.setCell ⟨b, 1, none⟩ (.pointer (some ⟨lb', 0, none⟩))) b lb' db mb ⟨s.per, L', s.snap, s.st⟩ ∧ Fr S w (w.setCell ⟨b, 1, none⟩ (.pointer (some ⟨lb', 0, none⟩))) := by
  have hnb : ¬ IsB w b := h.blk.notB (by decide)
  have f : Fr (fun x => x = b) w (w.setCell ⟨b, 1, none⟩ (.pointer (some ⟨lb', 0, none⟩))) := (Fr.refl (fun x => x = b) _).setCell (p := ⟨b, 1, none⟩) (.inl rfl) hnb _
  obtain ⟨A, c, hs⟩ := h.snap
  exact ⟨⟨by simpa [ptr] using h.blk.set 1 (.pointer (some ⟨lb', 0, none⟩)), hl.fr f (fun x p q => ((hd x p).2.1 q).elim), ⟨A, c, hs.fr f (fun x p q => (h.d2.1 (q ▸ p)).elim)⟩, h.map.fr f (fun e => h.ne e.symm), hS, h.h2, h.hb, h.hm, fun x hx => (hd x hx).1, ⟨fun hx => (hd b hx).2.1 rfl, fun hx => (hd mb hx).2.2 rfl⟩, h.d2, by simpa [World.setCell] using h.lt, h.per, h.ok⟩, f.mono (fun x _ e => e ▸ h.hb)⟩

theorem noneS (h : SoO S S1 S2 w b lb db mb s) : Calls Tryz.prog 49 #[.pointer (some ⟨b, 0, none⟩)] w fun e w' => e = .returned (.bool false) ∧ w = w' := by
  obtain ⟨c0, c1, c2, c3, c4, c5, z1, z3, z4⟩ := h.facts
  have hnil := fun (w : World) => run_eql_map_nil (P := Tryz.prog) w TMp TIn THd (some mb) Tryz.underlying98
  go_enter Tryz.func49, Tryz.ntmps49
  go_wp2
  go_ret
  exact ⟨rfl, rfl⟩
theorem logDown (h : SoO S S1 S2 w b lb db mb s) : Calls Tryz.prog 74 #[.pointer (some ⟨lb, 0, none⟩)] w fun e w' => e = .returned (.bool s.log.down) ∧ w = w' := by
  obtain ⟨_, H, A, c, ps, hl⟩ := h.log
  exact downL hl
omit [Hole] in
/-- what is asked of a store, before anything is written -/
def askC (s : So) (nums : List Int) : Int := if s.log.down then 10 else if nums.all (fun n => decide (numOk n)) then 0 else 2
theorem askedS (h : SoO S S1 S2 w b lb db mb s) (A : Option Addr) (nums : List Int) (c : Nat) (hn : ∀ (j : Nat) (n : Int), nums[j]? = some n → ∃ g o, A = some ⟨g, o, none⟩ ∧ w.cell? ⟨g, o + j, none⟩ = some (.int .i64 n)) (hl : nums.length ≤ 1048576) :
    Calls Tryz.prog 53 #[.pointer (some ⟨b, 0, none⟩), .slice A nums.length c] w fun e w' => e = .returned (.int .i64 (askC s nums)) ∧ w = w' := by
  obtain ⟨c0, c1, c2, c3, c4, c5, z1, z3, z4⟩ := h.facts
  have hD := logDown h
  cases hdn : s.log.down
  · rw [hdn] at hD
    have HA := Lib.hid (show askC s nums = if nums.all (fun n => decide (numOk n)) then 0 else 2 by unfold askC; rw [hdn]; rfl)
    clear hdn
    go_enter Tryz.func53, Tryz.ntmps53
    go_wp2_with (first
      | (go_at_call 49; refine (noneS h).mono ?_; rintro e w' ⟨rfl, rfl⟩)
      | (go_at_call 74; refine hD.mono ?_; rintro e w' ⟨rfl, rfl⟩))
    clear c0 c1 c2 c3 c4 c5 z1 z3 z4
    go_loopw [18] (fun i wr => ∃ j : Nat, j ≤ nums.length ∧ i = .int .i64 (j : Int) ∧ (nums.take j).all (fun n => decide (numOk n)) = true ∧ wr = w) (fun i _ => nums.length - (intOf i).toNat)
    case atStart => exact ⟨0, Nat.zero_le _, rfl, rfl, rfl⟩
    case round =>
      obtain ⟨j, hj, rfl, hall, rfl⟩ := hrel
      by_cases hlt : j < nums.length
      · obtain ⟨n, hjn⟩ : ∃ n, nums[j]? = some n := ⟨_, List.getElem?_eq_getElem hlt⟩
        obtain ⟨g, o, rfl, hcn⟩ := hn j n hjn
        have hlt' : (j : Int) < (nums.length : Int) := by omega
        have HT := Lib.hid (show nums.take (j + 1) = nums.take j ++ [n] by rw [List.take_add_one, hjn]; rfl)
        have HM := Lib.hid (List.mem_of_getElem? hjn)
        by_cases hok : 0 ≤ n ∧ n ≤ 1099511627776
        · have h1 : ¬ n < 0 := by omega
          have h2 : ¬ (1099511627776 : Int) < n := by omega
          clear hjn
          go_wp2
          go_roundw
          case rel => exact ⟨j + 1, by omega, by go_num, by rw [HT.out, List.all_append, hall]; simp only [List.all_cons, List.all_nil, Bool.and_true, Bool.true_and]; exact decide_eq_true hok, trivial⟩
          case measure => simp [intOf]; omega
        · have hbad : askC s nums = 2 := by
            rw [HA.out, if_neg]
            intro hh
            have := List.all_eq_true.1 hh n HM.out
            exact hok (of_decide_eq_true this)
          have HB := Lib.hid hbad
          clear HA hbad hjn
          by_cases h1 : n < 0
          · go_wp2
            go_ret
            exact ⟨by rw [HB.out]; rfl, rfl⟩
          · have h2 : (1099511627776 : Int) < n := by omega
            go_wp2
            go_ret
            exact ⟨by rw [HB.out]; rfl, rfl⟩
      · obtain rfl : j = nums.length := by omega
        rw [List.take_of_length_le (Nat.le_refl _)] at hall
        have hgood : askC s nums = 0 := by rw [HA.out, if_pos hall]
        have HB := Lib.hid hgood
        clear HA hgood
        go_wp2
        go_ret
        exact ⟨by rw [HB.out]; rfl, rfl⟩
  · rw [hdn] at hD
    have ha : askC s nums = 10 := by unfold askC; rw [hdn]; rfl
    rw [ha]
    clear hdn ha
    go_enter Tryz.func53, Tryz.ntmps53
    go_wp2_with (first
      | (go_at_call 49; refine (noneS h).mono ?_; rintro e w' ⟨rfl, rfl⟩)
      | (go_at_call 74; refine hD.mono ?_; rintro e w' ⟨rfl, rfl⟩))
    go_ret
    exact ⟨rfl, rfl⟩
end
end Go.Proofs.YtediidajdpdeiaaGreatDoor

/- A store's small functions (layer 8): the walks. -/
namespace Go.Proofs.YtediidajdpdeiaaGreatDoor
open Go.RowKit CrcM
set_option maxRecDepth 100000

/-- WHAT a change of a store leaves -/
def SoDid [Hole] (S : Nat → Prop) (w : World) (p : Value) (r : So × Int) (e : Ending) (w' : World) : Prop :=
  e = .returned (.int .i64 r.2) ∧ IsSo (Up S w w') w' p r.1 ∧ Fr S w w'

section
variable {S S1 S2 : Nat → Prop} {w : World} {b lb db mb : Nat} {s : So}
theorem upS (h : SoO S S1 S2 w b lb db mb s) : Calls Tryz.prog 75 #[.pointer (some ⟨b, 0, none⟩)] w fun e w' => e = .returned (.bool (!s.log.down)) ∧ w = w' := by
  have ha := askedS h none [] 0 (fun j n hj => by simp at hj) (by simp)
  cases hdn : s.log.down
  · rw [show askC s [] = 0 from by unfold askC; rw [hdn]; rfl] at ha
    clear hdn
    go_enter Tryz.func75, Tryz.ntmps75
    go_wp2_with (go_at_call 53; refine ha.mono ?_; rintro e w' ⟨rfl, rfl⟩)
    go_ret
    exact ⟨rfl, rfl⟩
  · rw [show askC s [] = 10 from by unfold askC; rw [hdn]; rfl] at ha
    clear hdn
    go_enter Tryz.func75, Tryz.ntmps75
    go_wp2_with (go_at_call 53; refine ha.mono ?_; rintro e w' ⟨rfl, rfl⟩)
    go_ret
    exact ⟨rfl, rfl⟩
theorem downS (h : SoO S S1 S2 w b lb db mb s) : Calls Tryz.prog 13 #[.pointer (some ⟨b, 0, none⟩)] w fun e w' => e = .returned (.bool s.log.down) ∧ w = w' := by
  obtain ⟨c0, c1, c2, c3, c4, c5, z1, z3, z4⟩ := h.facts
  go_enter Tryz.func13, Tryz.ntmps13
  go_wp2_with (first
    | (go_at_call 49; refine (noneS h).mono ?_; rintro e w' ⟨rfl, rfl⟩)
    | (go_at_call 74; refine (logDown h).mono ?_; rintro e w' ⟨rfl, rfl⟩))
  go_ret
  exact ⟨rfl, rfl⟩
theorem baseS (h : SoO S S1 S2 w b lb db mb s) : Calls Tryz.prog 16 #[.pointer (some ⟨b, 0, none⟩)] w fun e w' => e = .returned (.int .i64 (if s.log.down then 0 else (s.st.base : Int))) ∧ w = w' := by
  obtain ⟨c0, c1, c2, c3, c4, c5, z1, z3, z4⟩ := h.facts
  have hu := upS h
  cases hdn : s.log.down
  all_goals
    rw [hdn] at hu
    go_enter Tryz.func16, Tryz.ntmps16
    go_wp2_with (go_at_call 75; refine hu.mono ?_; rintro e w' ⟨rfl, rfl⟩)
    go_ret
    exact ⟨rfl, rfl⟩
theorem promisedS (h : SoO S S1 S2 w b lb db mb s) : Calls Tryz.prog 14 #[.pointer (some ⟨b, 0, none⟩)] w fun e w' => e = .returned (.int .i64 (if s.log.down then 0 else (s.st.promised : Int))) ∧ w = w' := by
  obtain ⟨c0, c1, c2, c3, c4, c5, z1, z3, z4⟩ := h.facts
  have hu := upS h
  cases hdn : s.log.down
  all_goals
    rw [hdn] at hu
    go_enter Tryz.func14, Tryz.ntmps14
    go_wp2_with (go_at_call 75; refine hu.mono ?_; rintro e w' ⟨rfl, rfl⟩)
    go_ret
    exact ⟨rfl, rfl⟩
theorem syncS (h : SoO S S1 S2 w b lb db mb s) : Calls Tryz.prog 65 #[.pointer (some ⟨b, 0, none⟩)] w (SoDid S w (.pointer (some ⟨b, 0, none⟩)) s.sync) := by
  obtain ⟨c0, c1, c2, c3, c4, c5, z1, z3, z4⟩ := h.facts
  obtain ⟨hu, H, A, c, ps, hl⟩ := h.log
  have hs := syncL hl hu
  go_enter Tryz.func65, Tryz.ntmps65
  go_wp2_with (first
    | (go_at_call 49; refine (noneS h).mono ?_; rintro e w' ⟨rfl, rfl⟩)
    | (go_at_call 57; refine hs.mono ?_; rintro e w1 ⟨rfl, hl1, hf1⟩))
  go_ret
  obtain ⟨h1, f1⟩ := h.turnLog hl1 hf1
  exact ⟨rfl, h1.is, f1⟩
theorem IsSo.up2 {w1 w2 : World} {p : Value} {s : So} (h : IsSo (Up (Up S w w1) w1 w2) w2 p s) (h1 : w.heap.size ≤ w1.heap.size) (h2 : w1.heap.size ≤ w2.heap.size) (hl : ∀ x, S x → x < w.heap.size) : IsSo (Up S w w2) w2 p s := by
  obtain ⟨b, rfl, S1, S2, lb, db, mb, h⟩ := h
  exact ⟨b, rfl, S1, S2, lb, db, mb, h.mono (fun x hx => by
    rcases hx with (hx | hx) | hx
    · exact .inl hx
    · exact .inr ⟨hx.1, Nat.lt_of_lt_of_le hx.2 h2⟩
    · exact .inr ⟨Nat.le_trans h1 hx.1, hx.2⟩) (Up.lt hl (Nat.le_trans h1 h2))⟩
theorem Up.fr2 {w1 w2 : World} (f1 : Fr S w w1) (f2 : Fr (Up S w w1) w1 w2) : Fr S w w2 := f1.trans' f2 (fun x hx hy => hy.elim id (fun q => by have := q.1; omega))
theorem crashS (h : SoO S S1 S2 w b lb db mb s) (keep flip : Int) (hk63 : keep ≤ 9223372036854775807) (hf63 : flip ≤ 9223372036854775807) (hk0 : -9223372036854775808 ≤ keep) (hf0 : -9223372036854775808 ≤ flip) :
    Calls Tryz.prog 70 #[.pointer (some ⟨b, 0, none⟩), .int .i64 keep, .int .i64 flip] w (SoDid S w (.pointer (some ⟨b, 0, none⟩)) (s.crash keep flip)) := by
  obtain ⟨c0, c1, c2, c3, c4, c5, z1, z3, z4⟩ := h.facts
  obtain ⟨hu, H, A, c, ps, hl⟩ := h.log
  have hs := crashL hl hu keep flip hk63 hf63 hk0 hf0
  by_cases h0 : (s.log.crash keep flip).2 = 0
  · have HE := Lib.hid (show s.crash keep flip = (⟨s.per, (s.log.crash keep flip).1, (s.snap.crash keep flip).1, s.st⟩, 0) from by unfold So.crash; rw [if_pos h0])
    unfold LogDid at hs
    rw [h0] at hs
    clear h0
    go_enter Tryz.func70, Tryz.ntmps70
    go_wp2_with (first
      | (go_at_call 49; refine (noneS h).mono ?_; rintro e w' ⟨rfl, rfl⟩)
      | (go_at_call 124; refine hs.mono ?_; rintro e w1 ⟨rfl, hl1, hf1⟩; obtain ⟨h1, f1⟩ := h.turnLog hl1 hf1; obtain ⟨d0, d1, d2, d3, d4, d5, -, -, -⟩ := h1.facts; obtain ⟨A2, c2', hsn⟩ := h1.snap)
      | (go_at_call 125; refine (crash_B hsn keep flip hk63 hf63 hk0 hf0).mono ?_; rintro e w2 ⟨rfl, hd2, hf2⟩; obtain ⟨h2, f2⟩ := h1.turnSnap hd2 hf2))
    go_ret
    rw [HE.out]
    exact ⟨rfl, h2.is.up2 f1.size f2.size h.lt, Up.fr2 f1 f2⟩
  · have HE := Lib.hid (show s.crash keep flip = (⟨s.per, (s.log.crash keep flip).1, s.snap, s.st⟩, (s.log.crash keep flip).2) from by unfold So.crash; rw [if_neg h0])
    have h0' : ((s.log.crash keep flip).2 != 0) = true := by simpa using h0
    generalize s.log.crash keep flip = q at *
    clear h0
    go_enter Tryz.func70, Tryz.ntmps70
    go_wp2_with (first
      | (go_at_call 49; refine (noneS h).mono ?_; rintro e w' ⟨rfl, rfl⟩)
      | (go_at_call 124; refine hs.mono ?_; rintro e w1 ⟨rfl, hl1, hf1⟩; obtain ⟨h1, f1⟩ := h.turnLog hl1 hf1))
    go_ret
    rw [HE.out]
    exact ⟨rfl, h1.is, f1⟩
end
end Go.Proofs.YtediidajdpdeiaaGreatDoor

/- A store's slots as they are told (layer 8): Slots, Get; the walks. -/
namespace Go.Proofs.YtediidajdpdeiaaGreatDoor
open Go.RowKit CrcM
set_option maxRecDepth 100000

theorem top_is {M : Slots} {n : Nat} (h1 : ∀ p ∈ M, p.1 + 1 ≤ n) (h2 : n = 0 ∨ ∃ p ∈ M, n = p.1 + 1) : So.top M = n := by
  have key : ∀ (l : Slots) (a : Nat), (∀ p ∈ l, p.1 + 1 ≤ l.foldl (fun n p => max n (p.1 + 1)) a) ∧ a ≤ l.foldl (fun n p => max n (p.1 + 1)) a ∧ (l.foldl (fun n p => max n (p.1 + 1)) a = a ∨ ∃ p ∈ l, l.foldl (fun n p => max n (p.1 + 1)) a = p.1 + 1) := by
    intro l
    induction l with
    | nil => intro a; exact ⟨fun p hp => (List.not_mem_nil hp).elim, Nat.le_refl _, .inl rfl⟩
    | cons y r ih =>
      intro a
      obtain ⟨i1, i2, i3⟩ := ih (max a (y.1 + 1))
      simp only [List.foldl_cons]
      refine ⟨fun p hp => ?_, by omega, ?_⟩
      · rcases List.mem_cons.1 hp with rfl | hp
        · omega
        · exact i1 p hp
      · rcases i3 with e | ⟨p, hp, e⟩
        · rw [e]
          by_cases h : a < y.1 + 1
          · exact .inr ⟨y, List.mem_cons_self .., by omega⟩
          · exact .inl (by omega)
        · exact .inr ⟨p, List.mem_cons_of_mem _ hp, e⟩
  obtain ⟨k1, -, k3⟩ := key M 0
  unfold So.top
  generalize M.foldl (fun n p => max n (p.1 + 1)) 0 = t at *
  rcases h2 with rfl | ⟨p, hp, rfl⟩
  · rcases k3 with e | ⟨q, hq, e⟩
    · exact e
    · have := h1 q hq
      omega
  · have := k1 p hp
    rcases k3 with e | ⟨q, hq, e⟩
    · omega
    · have := h1 q hq
      omega

/-- every key to come is one of the map's -/
theorem left_of {Z : Held3} {kl : Lit} (h : Go.Maps.has (mapD (valsOf Z)) kl = true) : ∃ z ∈ Z, litN z.1 = kl := by
  unfold mapD valsOf at h
  rw [Go.Maps.has_eq] at h
  obtain ⟨p, hp, hk⟩ := List.any_eq_true.1 h
  obtain ⟨q, hq, rfl⟩ := List.mem_map.1 hp
  obtain ⟨z, hz, rfl⟩ := List.mem_map.1 hq
  exact ⟨z, hz, WideAt.sameKey_eq hk⟩
/-- what comes out of the step -/
theorem key_of {x : Int} {kl : Lit} (h : keyOf Tryz.prog TIn (.int .i64 x) = some kl) {k : Nat} (e : litN k = kl) : x = (k : Int) := by
  obtain ⟨y, e1, e2, -⟩ := Go.Maps.keyOf_int_inv (q := .i64) Tryz.underlying3 h
  injection e1 with _ e1
  rw [e2, ← e1] at e
  unfold litN at e
  injection e with _ e
  exact e.symm

section
variable {S S1 S2 : Nat → Prop} {w : World} {b lb db mb : Nat} {s : So}
set_option maxHeartbeats 1000000 in
theorem slotsS (h : SoO S S1 S2 w b lb db mb s) : Calls Tryz.prog 15 #[.pointer (some ⟨b, 0, none⟩)] w (Told w (.int .i64 (if s.log.down then 0 else (So.top s.st.slots : Int)))) := by
  obtain ⟨c0, c1, c2, c3, c4, c5, z1, z3, z4⟩ := h.facts
  have hu := upS h
  cases hdn : s.log.down
  · rw [hdn] at hu
    obtain ⟨Z, hown, hZ, -, hbd⟩ := h.map
    have invK : ∀ key kl, keyOf Tryz.prog TIn key = some kl → ∃ x : Int, key = Value.int .i64 x := fun key kl hk => by
      obtain ⟨x, e, -⟩ := Go.Maps.keyOf_int_inv (q := .i64) Tryz.underlying3 hk
      exact ⟨x, e⟩
    have HB := Lib.hid hbd
    have HZ := Lib.hid hZ
    clear hdn hbd hZ
    go_enter Tryz.func15, Tryz.ntmps15
    go_wp2_with (first
      | (go_at_call 75; refine hu.mono ?_; rintro e w' ⟨rfl, rfl⟩)
      | (at_range; refine wpList_range_own _ rfl _ TMp rfl TIn THd intKey Tryz.underlying98 heldR mb Z.length _ rfl hown ?_; intro w0 hrg0 hg0 hs0))
    try go_frame
    have hb0 : Below w.heap.size w w0 := ⟨hg0.os, hg0.tape, hg0.output, hg0.size, fun x hx => hg0.block x hx (by simp)⟩
    generalize hr : w.heap.size = r at *
    have HR := Lib.hid hr
    clear hr
    go_loopw [3] (fun nv wr => ∃ (left : Lit → Bool) (cnt n : Nat), wr.ranges Tryz.prog TIn heldR mb r Z.length (mapD (valsOf Z)) left cnt ∧ nv = .int .i64 (n : Int) ∧ n ≤ 4611686018427387905 ∧ (∀ kl, left kl = true → ∃ z ∈ Z, litN z.1 = kl) ∧ (∀ z ∈ Z, left (litN z.1) = false → z.1 + 1 ≤ n) ∧ (n = 0 ∨ ∃ z ∈ Z, n = z.1 + 1) ∧ Below r w wr) (fun _ wr => wr.rangeLeft mb r)
    case atStart => exact ⟨_, _, 0, hrg0, rfl, by omega, fun kl hk => left_of hk, fun z hz hl => (by
        have : Go.Maps.has (mapD (valsOf Z)) (litN z.1) = true := by
          unfold mapD valsOf
          rw [Go.Maps.has_eq]
          exact List.any_eq_true.2 ⟨(litN z.1, .held z.2.2), List.mem_map.2 ⟨(z.1, z.2.2), List.mem_map.2 ⟨z, hz, rfl⟩, rfl⟩, WideAt.sameKey_self (litN_key _)⟩
        rw [this] at hl; cases hl), .inl rfl, hb0⟩
    case round =>
      obtain ⟨left, cnt, n, hrg, rfl, hn, hlk, hA, hB, hbw⟩ := hrel
      have hmeas := hrg.left_eq
      clear hrg0 hown
      go_wp2_with (first
        | (at_next; refine wpList_next_ranges _ rfl _ rfl TIn intKey heldR (Value.int .i64) id invK (fun v y _ => ⟨v, rfl⟩) mb r Z.length _ left cnt rfl hrg ?_ ?_))
      · intro hc0 hl0
        have htop : So.top s.st.slots = n := by
          rw [← HZ.out]
          refine top_is (fun p hp => ?_) ?_
          · obtain ⟨z, hz, rfl⟩ := List.mem_map.1 hp
            exact hA z hz (hl0 _)
          · rcases hB with h | ⟨z, hz, h⟩
            · exact .inl h
            · exact .inr ⟨onN Prod.fst z, List.mem_map.2 ⟨z, hz, rfl⟩, h⟩
        have HT := Lib.hid htop
        clear htop
        go_wp2
        go_ret
        exact ⟨by rw [HT.out]; rfl, by rw [HR.out]; exact hbw⟩
      · intro x c kl y ps w' cnt' hkey hlx hR hat hrg' hlt hg hs hen
        obtain ⟨z, hz, rfl⟩ := hlk kl hlx
        obtain rfl := key_of hkey rfl
        have hzb := HB.out z hz
        have hb' : Below r w w' := hbw.trans ⟨hg.os, hg.tape, hg.output, hg.size, fun x hx => hg.block x (Nat.lt_of_lt_of_le hx (HR.out ▸ hbw.size)) (fun e => by injection e with e; omega)⟩
        have hm' := hrg'.left_eq
        have k1 : IntKind.i64.wrap ((z.1 : Int) + 1) = (z.1 : Int) + 1 := by rw [IntKind.wrap_i64]; omega
        have HS := Lib.hid hs
        clear hR hat hs hkey
        have hA' : ∀ n' : Nat, n ≤ n' → z.1 + 1 ≤ n' → ∀ u ∈ Z, (left (litN u.1) && !(litN u.1).sameKey (litN z.1)) = false → u.1 + 1 ≤ n' := by
          intro n' h1 h2 u hu hl
          rw [litN_same] at hl
          by_cases e : u.1 = z.1
          · omega
          · simp only [e, decide_false, Bool.not_false, Bool.and_true] at hl
            exact Nat.le_trans (hA u hu hl) h1
        by_cases hnz : (n : Int) < (z.1 : Int) + 1
        · go_wp2
          go_roundw
          case rel => exact ⟨_, cnt', z.1 + 1, hrg', by go_num, by omega, fun kl hk => hlk kl (by simp only [Bool.and_eq_true] at hk; exact hk.1), hA' _ (by omega) (Nat.le_refl _), .inr ⟨z, hz, rfl⟩, hb'⟩
          case measure => rw [hm', hmeas]; exact hlt
        · go_wp2
          go_roundw
          case rel => exact ⟨_, cnt', n, hrg', rfl, hn, fun kl hk => hlk kl (by simp only [Bool.and_eq_true] at hk; exact hk.1), hA' _ (Nat.le_refl _) (by omega), hB, hb'⟩
          case measure => rw [hm', hmeas]; exact hlt
  · rw [hdn] at hu
    go_enter Tryz.func15, Tryz.ntmps15
    go_wp2_with (go_at_call 75; refine hu.mono ?_; rintro e w' ⟨rfl, rfl⟩)
    go_ret
    exact ⟨rfl, Below.refl _ _⟩
end
end Go.Proofs.YtediidajdpdeiaaGreatDoor

/- A store's Get and New (layer 8): the walks. -/
namespace Go.Proofs.YtediidajdpdeiaaGreatDoor
open Go.RowKit CrcM
set_option maxRecDepth 100000

section
variable {S S1 S2 : Nat → Prop} {w : World} {b lb db mb : Nat} {s : So}
/-- WHAT Get leaves -/
def GetDid (w : World) (o : Option Hd) (e : Ending) (w' : World) : Prop := ∃ A c, e = .returned (.tuple #[.int .i64 ((o.getD ⟨0, []⟩).ballot : Int), .slice A (o.getD ⟨0, []⟩).value.length c, .bool o.isSome]) ∧ Own (New w) w' A (o.getD ⟨0, []⟩).value ∧ (o.getD ⟨0, []⟩).value.length ≤ c ∧ c ≤ maxLen ∧ Below w.heap.size w w'
theorem getS (h : SoO S S1 S2 w b lb db mb s) (k : Nat) (hk : k ≤ 4611686018427387904) : Calls Tryz.prog 77 #[.pointer (some ⟨b, 0, none⟩), .int .i64 (k : Int)] w (GetDid w (if s.log.down then none else getN k s.st.slots)) := by
  obtain ⟨c0, c1, c2, c3, c4, c5, z1, z3, z4⟩ := h.facts
  have hu := upS h
  cases hdn : s.log.down
  · rw [hdn] at hu
    simp only [Bool.false_eq_true, if_false]
    obtain ⟨v, hlook, hv⟩ := h.map.look k hk
    have hall := h.ok.all
    have hv' : ∃ A c, v = .agg #[.int .i64 (((getN k s.st.slots).getD ⟨0, []⟩).ballot : Int), .slice A ((getN k s.st.slots).getD ⟨0, []⟩).value.length c] ∧ Own Ever w A ((getN k s.st.slots).getD ⟨0, []⟩).value ∧ ((getN k s.st.slots).getD ⟨0, []⟩).value.length ≤ 32768 := by
      cases hg : getN k s.st.slots with
      | none =>
        rw [hg] at hv
        exact ⟨none, 0, hv, Own.nil _ _ _, by simp⟩
      | some hd =>
        rw [hg] at hv
        obtain ⟨A, c, e, -, -, ho⟩ := hv
        exact ⟨A, c, e, ho, (hall _ (getN_some hg)).2.2⟩
    unfold GetDid
    generalize (getN k s.st.slots).getD ⟨0, []⟩ = hd at *
    generalize (getN k s.st.slots).isSome = ok at *
    obtain ⟨A, c, rfl, ho, hl⟩ := hv'
    obtain ⟨bl, val⟩ := hd
    simp only at ho hl hlook ⊢
    clear hv hall
    have B1 := Blk.new w THd #[.int .i64 (bl : Int), .slice A val.length c]
    have f0 := B1.cell 0 (v := .int .i64 (bl : Int)) rfl
    have f1 := B1.cell 1 (v := .slice A val.length c) rfl
    have hb1 := below_new w (.cells #[.int .i64 (bl : Int), .slice A val.length c] THd)
    have hcl := clone_B Non A val c (w.alloc (.cells #[.int .i64 (bl : Int), .slice A val.length c] THd)).drew (((ho.rd Non).fr (Fr.of_below hb1)).drew) (by omega)
    clear hdn
    go_enter Tryz.func77, Tryz.ntmps77
    go_wp2_with (go_at_call 75; refine hu.mono ?_; rintro e w' ⟨rfl, rfl⟩)
    change Code.wp _ _ _ _ (w.alloc (.cells #[.int .i64 (bl : Int), .slice A val.length c] THd))
    refine wp_region_T #[[], [], [], [], [3], [], [1, 3], [1, 3], [1, 3]] [1, 3] (fun w' => w'.cell? ⟨w.heap.size, 0, none⟩ = some (.int .i64 (bl : Int)) ∧ w'.cell? ⟨w.heap.size, 1, none⟩ = some (.slice A val.length c)) 9 rfl (by kernel_rfl) ?_
    (refine wpF (i := 0) rfl (by kernel_rfl) rfl (fun _ _ _ h => h) (fun _ => by go_simp; try rfl) ?_; (try simp only [Act.put, sA, sB, sC]))
    (refine wpAnyT_read (i := 1) rfl (by kernel_rfl) rfl (fun _ _ _ h => h) (by kernel_rfl) (⟨f0, f1⟩) (fun w hS_ => by obtain ⟨s_1, s_2⟩ := hS_; go_simp; try rfl) ?_; (try simp only [Act.put, sA, sB, sC]))
    (refine wpF (i := 2) rfl (by kernel_rfl) rfl (fun _ _ _ h => h) (fun _ => by go_simp; try rfl) ?_; (try simp only [Act.put, sA, sB, sC]))
    (refine wpAnyT_read (i := 3) rfl (by kernel_rfl) rfl (fun _ _ _ h => h) (by kernel_rfl) (⟨f0, f1⟩) (fun w hS_ => by obtain ⟨s_1, s_2⟩ := hS_; go_simp; try rfl) ?_; (try simp only [Act.put, sA, sB, sC]))
    (refine wpF (i := 5) rfl (by kernel_rfl) rfl (fun _ _ _ h => h) (fun _ => by go_simp; try rfl) ?_; (try simp only [Act.put, sA, sB, sC]))
    refine wpAnyT_one (i := 4) rfl (by kernel_rfl) rfl ?_
    intro K_ hK_
    go_wp2_with ((go_at_call 56; refine hcl.mono ?_; rintro e w2 ⟨A2, c2, rfl, ho2, hc2, hm2, hb2⟩))
    refine hK_ _ _ ?_ ?_
    · exact fun _ _ => ⟨(hb2.cell (p := ⟨w.heap.size, 0, none⟩) (cell_lt f0)).trans f0, (hb2.cell (p := ⟨w.heap.size, 1, none⟩) (cell_lt f1)).trans f1⟩
    clear hK_ K_
    (try simp only [Act.put, sA, sB, sC])
    (refine wpF (i := 6) rfl (by kernel_rfl) rfl (fun _ _ _ h => h) (fun _ => by go_simp; try rfl) ?_; (try simp only [Act.put, sA, sB, sC]))
    (refine wpF (i := 7) rfl (by kernel_rfl) rfl (fun _ _ _ h => h) (fun _ => by go_simp; try rfl) ?_; (try simp only [Act.put, sA, sB, sC]))
    (refine wpF (i := 8) rfl (by kernel_rfl) rfl (fun _ _ _ h => h) (fun _ => by go_simp; try rfl) ?_; (try simp only [Act.put, sA, sB, sC]))
    refine wpAnyT_done (by kernel_rfl) ?_ _
    go_wp2
    go_ret3
    have hbw := hb1.drew.trans (hb2.mono hb1.size)
    exact ⟨A2, c2, rfl, (Own.of_row' ho2).mono (fun x hx => Nat.le_trans hb1.size hx), hc2, hm2, hbw⟩
  · rw [hdn] at hu
    go_enter Tryz.func77, Tryz.ntmps77
    go_wp2_with (go_at_call 75; refine hu.mono ?_; rintro e w' ⟨rfl, rfl⟩)
    go_ret3
    exact ⟨none, 0, rfl, Own.nil _ _ _, Nat.le_refl _, Nat.zero_le _, Below.refl _ _⟩
end

/-- WHAT New leaves -/
def NewDid (w : World) (per : Int) (e : Ending) (w' : World) : Prop := ∃ p, e = .returned (.tuple #[p, .int .i64 0]) ∧ IsSo (Nw w w') w' p (So.new per.toNat) ∧ Below w.heap.size w w'
theorem So.made {w w1 w2 : World} {n lb db : Nat} {Ad : Option Addr} {cd : Nat} (hp : 1 ≤ (n : Int) ∧ (n : Int) ≤ 1024) (hl1 : LogAt (Nw w w1) w1 lb (Lg.new n)) (hb1 : Below w.heap.size w w1) (hd2 : DiskAt (Nw w1 w2) w2 db Ad cd Dk.new) (hb2 : Below w1.heap.size w1 w2) :
    NewDid w (n : Int) (.returned (.tuple #[.pointer (some ⟨w2.heap.size + 1, 0, none⟩), .int .i64 0])) ((w2.alloc (.map #[] 0)).alloc (.cells #[.int .i64 (n : Int), .pointer (some ⟨lb, 0, none⟩), .pointer (some ⟨db, 0, none⟩), .int .i64 0, .int .i64 0, .map (some w2.heap.size)] TSo)) := by
  have b3 := below_new w2 (.map #[] 0)
  have b4 := below_new (w2.alloc (.map #[] 0)) (.cells #[.int .i64 (n : Int), .pointer (some ⟨lb, 0, none⟩), .pointer (some ⟨db, 0, none⟩), .int .i64 0, .int .i64 0, .map (some w2.heap.size)] TSo)
  have B := Blk.new (w2.alloc (.map #[] 0)) TSo #[.int .i64 (n : Int), .pointer (some ⟨lb, 0, none⟩), .pointer (some ⟨db, 0, none⟩), .int .i64 0, .int .i64 0, .map (some w2.heap.size)]
  have hm := (SlotsAt.made w2).below b4
  have e3 : (w2.alloc (.map #[] 0)).heap.size = w2.heap.size + 1 := by simp
  have e4 : ((w2.alloc (.map #[] 0)).alloc (.cells #[.int .i64 (n : Int), .pointer (some ⟨lb, 0, none⟩), .pointer (some ⟨db, 0, none⟩), .int .i64 0, .int .i64 0, .map (some w2.heap.size)] TSo)).heap.size = w2.heap.size + 2 := by simp
  have b24 := b3.trans (b4.mono b3.size)
  have b14 := hb2.trans (b24.mono hb2.size)
  have hw := hb1.size
  have hw2 := hb2.size
  rw [e3] at B
  generalize (w2.alloc (.map #[] 0)).alloc (.cells #[.int .i64 (n : Int), .pointer (some ⟨lb, 0, none⟩), .pointer (some ⟨db, 0, none⟩), .int .i64 0, .int .i64 0, .map (some w2.heap.size)] TSo) = w4 at *
  refine ⟨_, rfl, ⟨w2.heap.size + 1, rfl, Nw w w1, Nw w1 w2, lb, db, w2.heap.size, B, hl1.below b14, ⟨Ad, cd, hd2.below b24⟩, hm, fun x hx => ⟨hx.1, by have := hx.2; omega⟩, fun x hx => ⟨by have := hx.1; omega, by have := hx.2; omega⟩, ⟨by omega, by omega⟩, ⟨by omega, by omega⟩, fun x hx hy => by have := hx.2; have := hy.1; omega, ⟨fun hx => by have := hx.2; omega, fun hx => by have := hx.2; omega⟩, ⟨fun hx => by have := hx.2; omega, fun hx => by have := hx.2; omega⟩, fun x hx => hx.2, ?_, St.ok_new⟩, hb1.trans (b14.mono hb1.size)⟩
  show 1 ≤ ((n : Int)).toNat ∧ ((n : Int)).toNat ≤ 1024
  omega
theorem newS (w : World) (per : Int) : Calls Tryz.prog 7 #[.int .i64 per] w fun e w' =>
    if 1 ≤ per ∧ per ≤ 1024 then NewDid w per e w' else e = .returned (.tuple #[.pointer none, .int .i64 2]) ∧ w' = w := by
  by_cases hp : 1 ≤ per ∧ per ≤ 1024
  · simp only [if_pos hp]
    have hmm := @run_makeMap Tryz.prog
    go_enter Tryz.func7, Tryz.ntmps7
    go_wp2_with (first
      | (go_at_call 46; refine (newL w per).mono ?_; rintro e w1 h1; rw [if_pos hp] at h1; obtain ⟨p1, rfl, ⟨lb, rfl, hl1⟩, hb1⟩ := h1; unfold ptr)
      | (go_at_call 47; refine (new_B _).mono ?_; rintro e w2 ⟨_, rfl, ⟨db, Ad, cd, rfl, hd2⟩, hb2⟩))
    go_ret2
    obtain ⟨n, rfl⟩ : ∃ n : Nat, per = n := ⟨per.toNat, by omega⟩
    exact So.made hp hl1 hb1 hd2 hb2
  · simp only [if_neg hp]
    go_enter Tryz.func7, Tryz.ntmps7
    go_wp2_with (first
      | (go_at_call 46; refine (newL w per).mono ?_; rintro e w1 h1; rw [if_neg hp] at h1; obtain ⟨rfl, rfl⟩ := h1))
    go_ret2
    exact ⟨rfl, rfl⟩
end Go.Proofs.YtediidajdpdeiaaGreatDoor

/- A store's Promise (layer 8): the walk. -/
namespace Go.Proofs.YtediidajdpdeiaaGreatDoor
open Go.RowKit CrcM
set_option maxRecDepth 100000

theorem LogAt.hole [Hole] {S : Nat → Prop} {w : World} {b : Nat} {L : Lg} (h : LogAt S w b L) : ∀ x, w.heap.size ≤ x → Any x := by
  obtain ⟨_, _, _, _, _, h⟩ := h
  exact h.hole

section
variable [Hole] {S S1 S2 : Nat → Prop} {w w' : World} {b lb db mb : Nat} {s : So}
theorem SoO.append (h : SoO S S1 S2 w b lb db mb s) (hh : HalfAt w) (hlen : s.log.len ≤ 4611686018427387904) (B : Option Addr) (rec : List UInt8) (cb : Nat) (hr : Own Ever w B rec) (hrl : rec.length ≤ 70368744177664) :
    Calls Tryz.prog 55 #[.pointer (some ⟨lb, 0, none⟩), .slice B rec.length cb] w fun e w' => e = .returned (.tuple #[.int .i64 ((s.log.append rec).2.1 : Int), .int .i64 (s.log.append rec).2.2]) ∧
      SoO (Up S w w') (Up S1 w w') S2 w' b lb db mb ⟨s.per, (s.log.append rec).1, s.snap, s.st⟩ ∧ Fr S w w' := by
  obtain ⟨hu, H, A, c, ps, hl⟩ := id h.log
  refine (appendL hl hu hh hlen B rec cb (hr.rd S1) hrl).mono ?_
  rintro e w' ⟨h1, h2, h3⟩
  obtain ⟨h4, h5⟩ := h.turnLog h2 h3
  exact ⟨h1, h4, h5⟩
/-- after nothing but new blocks -/
theorem SoO.did (h : SoO S S1 S2 w b lb db mb s) (hb : Below w.heap.size w w') (n : Int) : SoDid S w (.pointer (some ⟨b, 0, none⟩)) (s, n) (.returned (.int .i64 n)) w' :=
  ⟨rfl, ((h.below hb).mono (fun _ hx => .inl hx) (Up.lt h.lt hb.size)).is, Fr.of_below hb⟩
theorem SoDid.from {w1 : World} {p : Value} {r : So × Int} {e : Ending} (hb : Below w.heap.size w w1) (hl : ∀ x, S x → x < w.heap.size) (h : SoDid S w1 p r e w') : SoDid S w p r e w' := by
  obtain ⟨h1, ⟨b, rfl, S1, S2, lb, db, mb, h2⟩, h3⟩ := h
  have hs := h3.size
  refine ⟨h1, ⟨b, rfl, S1, S2, lb, db, mb, h2.mono (fun x hx => hx.imp_right (fun q => ⟨Nat.le_trans hb.size q.1, q.2⟩)) (Up.lt hl (Nat.le_trans hb.size hs))⟩, (Fr.of_below hb).trans' h3 (fun _ _ h => h)⟩

omit [Hole] in
theorem ask1 (s : So) (n : Int) : askC s [n] = if s.log.down then 10 else if numOk n then 0 else 2 := by
  unfold askC
  simp only [List.all_cons, List.all_nil, Bool.and_true, decide_eq_true_eq]
omit [Hole] in
theorem int_cells {w : World} {xs : List Int} : ∀ (j : Nat) (n : Int), xs[j]? = some n → (w.alloc (.cells (xs.map (Value.int .i64)).toArray TIn)).cell? ⟨w.heap.size, 0 + j, none⟩ = some (.int .i64 n) := by
  intro j n hj
  have := (Blk.new w TIn (xs.map (Value.int .i64)).toArray).cell j (v := .int .i64 n) (by simp [hj])
  rw [Nat.zero_add]
  exact this

theorem promiseS (h : SoO S S1 S2 w b lb db mb s) (hh : HalfAt w) (hlen : s.log.len ≤ 4611686018427387904) (n : Int) :
    Calls Tryz.prog 62 #[.pointer (some ⟨b, 0, none⟩), .int .i64 n] w (SoDid S w (.pointer (some ⟨b, 0, none⟩)) (s.promise n)) := by
  have hb1 := below_new w (.cells #[.int .i64 n] TIn)
  have h1 := h.below hb1
  obtain ⟨c0, c1, c2, c3, c4, c5, z1, z3, z4⟩ := h1.facts
  have ha := askedS h1 (some ⟨w.heap.size, 0, none⟩) [n] 1 (fun j m hj => ⟨_, _, rfl, int_cells (xs := [n]) j m hj⟩) (by simp)
  rw [List.length_singleton, ask1] at ha
  have hpr := h.ok.pr
  cases hdn : s.log.down
  · rw [hdn] at ha
    by_cases hn : numOk n
    · have hn' := hn
      unfold numOk at hn'
      obtain ⟨k, rfl⟩ : ∃ k : Nat, n = k := ⟨n.toNat, by omega⟩
      simp only [Bool.false_eq_true, if_false, if_pos hn] at ha
      by_cases h2 : (k : Int) < (s.st.promised : Int)
      · have HE := Lib.hid (show s.promise k = (s, 16) from by unfold So.promise; rw [hdn, if_neg (by simp), if_neg (by simpa using hn), if_pos h2])
        clear hdn hn
        go_enter Tryz.func62, Tryz.ntmps62
        go_wp2_with (go_at_call 53; refine ha.mono ?_; rintro e w' ⟨rfl, rfl⟩)
        go_ret
        rw [HE.out]
        exact h.did hb1 16
      · by_cases h3 : (k : Int) = (s.st.promised : Int)
        · have HE := Lib.hid (show s.promise k = (s, 0) from by unfold So.promise; rw [hdn, if_neg (by simp), if_neg (by simpa using hn), if_neg h2, if_pos h3])
          have h3' : ((k : Int) == (s.st.promised : Int)) = true := by simpa using h3
          clear hdn hn h3
          go_enter Tryz.func62, Tryz.ntmps62
          go_wp2_with (go_at_call 53; refine ha.mono ?_; rintro e w' ⟨rfl, rfl⟩)
          go_ret
          rw [HE.out]
          exact h.did hb1 0
        · have he : s.promise k = s.put (Rc.prom k).enc ⟨k, s.st.base, s.st.slots⟩ := by
            unfold So.promise
            rw [hdn, if_neg (by simp), if_neg (by simpa using hn), if_neg h2, if_neg h3, Int.toNat_natCast]
          have h3' : ((k : Int) == (s.st.promised : Int)) = false := by simpa using h3
          have hb2 := below_new (w.alloc (.cells #[.int .i64 (k : Int)] TIn)) (.cells #[.int .u8 1] TB)
          have h2w := h1.below hb2
          have hO : Own Ever ((w.alloc (.cells #[.int .i64 (k : Int)] TIn)).alloc (.cells #[.int .u8 1] TB)) (some ⟨w.heap.size + 1, 0, none⟩) [1] := by
            have := Own.of_cells Ever (heap_alloc_new (w.alloc (.cells #[.int .i64 (k : Int)] TIn)) (.cells #[.int .u8 1] TB)) (l := [1]) trivial rfl
            simpa using this
          have hbw := hb1.trans (hb2.mono hb1.size)
          have hhw := hh.below hbw hh.lt
          obtain ⟨rec, hrec⟩ : ∃ r, [1] ++ numB k = r := ⟨_, rfl⟩
          have henc : (Rc.prom k).enc = rec := hrec
          have hrl : rec.length ≤ 11 := by have := numB_10 (n := k) (by omega); rw [← hrec, List.length_append]; simp; omega
          have hnum := Num_B ((w.alloc (.cells #[.int .i64 (k : Int)] TIn)).alloc (.cells #[.int .u8 1] TB)) ((w.alloc (.cells #[.int .i64 (k : Int)] TIn)).alloc (.cells #[.int .u8 1] TB)) (Below.refl _ _) (some ⟨w.heap.size + 1, 0, none⟩) 1 [1] (hO.rd Non) (by simp) k (by omega)
          rw [hrec] at hnum
          rw [henc] at he
          rw [List.length_singleton] at hnum
          have HL := Lib.hid hlen
          clear hdn hn h3 hrec henc hlen
          by_cases hc : (s.log.append rec).2.2 = 0
          · have HE := Lib.hid (show s.promise k = (⟨s.per, (s.log.append rec).1, s.snap, ⟨k, s.st.base, s.st.slots⟩⟩, 0) from by rw [he]; unfold So.put; rw [if_pos hc])
            have HC := Lib.hid hc
            clear he hc
            go_enter Tryz.func62, Tryz.ntmps62
            go_wp2_with (first
              | (go_at_call 53; refine ha.mono ?_; rintro e w' ⟨rfl, rfl⟩)
              | (go_at_call 54; refine hnum.mono ?_; rintro e w3 ⟨v3, rfl, ho3, hb3⟩; obtain ⟨A3, c3, rfl, hc3, hm3⟩ := own_val ho3; have hO3 : Own Ever w3 A3 rec := (Own.of_row ho3 rfl).mono (fun _ _ => trivial); have h3w := h2w.below hb3; obtain ⟨d0, d1, d2, d3, d4, d5, -, -, -⟩ := h3w.facts; have hap := h3w.append (hhw.below hb3 hhw.lt) HL.out A3 rec c3 hO3 (by omega); rw [HC.out] at hap)
              | (go_at_call 55; refine hap.mono ?_; rintro e w4 ⟨rfl, h4, hf4⟩; obtain ⟨e0, e1, e2, e3, e4, e5, -, y3, -⟩ := h4.facts))
            go_ret
            rw [HE.out]
            obtain ⟨h5, f5⟩ := h4.setPr k (by omega)
            have hsz : (w4.setCell ⟨b, 3, none⟩ (.int .i64 (k : Int))).heap.size = w4.heap.size := by simp [World.setCell]
            refine SoDid.from (hbw.trans (hb3.mono hbw.size)) h.lt ⟨rfl, (h5.mono (fun x hx => hx.imp_right (fun q => ⟨q.1, by rw [hsz]; exact q.2⟩)) (fun x hx => h5.lt x (hx.imp_right (fun q => ⟨q.1, by rw [hsz] at q; exact q.2⟩)))).is, Up.fr2 hf4 f5⟩
          · have HE := Lib.hid (show s.promise k = (⟨s.per, (s.log.append rec).1, s.snap, s.st⟩, (s.log.append rec).2.2) from by rw [he]; unfold So.put; rw [if_neg hc])
            have hc' : ((s.log.append rec).2.2 != 0) = true := by simpa using hc
            clear he hc
            go_enter Tryz.func62, Tryz.ntmps62
            go_wp2_with (first
              | (go_at_call 53; refine ha.mono ?_; rintro e w' ⟨rfl, rfl⟩)
              | (go_at_call 54; refine hnum.mono ?_; rintro e w3 ⟨v3, rfl, ho3, hb3⟩; obtain ⟨A3, c3, rfl, hc3, hm3⟩ := own_val ho3; have hO3 : Own Ever w3 A3 rec := (Own.of_row ho3 rfl).mono (fun _ _ => trivial); have h3w := h2w.below hb3; obtain ⟨d0, d1, d2, d3, d4, d5, -, -, -⟩ := h3w.facts; have hap := h3w.append (hhw.below hb3 hhw.lt) HL.out A3 rec c3 hO3 (by omega))
              | (go_at_call 55; refine hap.mono ?_; rintro e w4 ⟨rfl, h4, hf4⟩))
            go_ret
            rw [HE.out]
            exact SoDid.from (hbw.trans (hb3.mono hbw.size)) h.lt ⟨rfl, h4.is, hf4⟩
    · have HE := Lib.hid (show s.promise n = (s, 2) from by unfold So.promise; rw [hdn, if_neg (by simp), if_pos hn])
      simp only [Bool.false_eq_true, if_false, if_neg hn] at ha
      clear hdn hn
      go_enter Tryz.func62, Tryz.ntmps62
      go_wp2_with (go_at_call 53; refine ha.mono ?_; rintro e w' ⟨rfl, rfl⟩)
      go_ret
      rw [HE.out]
      exact h.did hb1 2
  · have HE := Lib.hid (show s.promise n = (s, 10) from by unfold So.promise; rw [hdn, if_pos rfl])
    rw [hdn] at ha
    simp only [if_true] at ha
    clear hdn
    go_enter Tryz.func62, Tryz.ntmps62
    go_wp2_with (go_at_call 53; refine ha.mono ?_; rintro e w' ⟨rfl, rfl⟩)
    go_ret
    rw [HE.out]
    exact h.did hb1 10
end
end Go.Proofs.YtediidajdpdeiaaGreatDoor

/- A store's base rises (layer 8): the walk of rise. -/
namespace Go.Proofs.YtediidajdpdeiaaGreatDoor
open Go.RowKit CrcM
set_option maxRecDepth 100000

theorem St.ok.rise' {s : St} (h : s.ok) {n : Nat} (hn : n ≤ 1099511627776) : (s.rise n).ok := by
  have hb := h.ba
  refine ⟨h.pr, ?_, Nat.le_trans (List.length_filter_le _ _) h.few, h.rise.filter _, fun p hp => h.all p (List.mem_filter.1 hp).1⟩
  show max s.base n ≤ _
  omega
theorem Fr.next {S : Nat → Prop} {w1 wr w' : World} {r : Nat} (f : Fr S w1 wr) (hg : wr.grownBy w' (some r)) (hr : w1.heap.size ≤ r) : Fr S w1 w' :=
  ⟨hg.os.trans f.os, hg.tape.trans f.tape, hg.output.trans f.output, Nat.le_trans f.size hg.size, fun x hx hn => (hg.block x (Nat.lt_of_lt_of_le hx f.size) (fun e => by injection e with e; omega)).trans (f.out x hx hn), fun x hx => (hg.block x (Nat.lt_of_lt_of_le hx.lt f.size) (fun e => by injection e with e; have := hx.lt; omega)).trans (f.byt x hx)⟩
/-- those slots that stay, and those that are still to come -/
def stays (B : Nat) (left : Lit → Bool) (z : Nat × (Hd × Value)) : Bool := decide (B ≤ z.1) || left (litN z.1)
theorem stays_del {B : Nat} {left : Lit → Bool} {Z : Held3} {k : Nat} (hk : k < B) : delN k (valsOf (Z.filter (stays B left))) = valsOf (Z.filter (stays B (fun u => left u && !u.sameKey (litN k)))) := by
  unfold valsOf
  rw [← delN_map]
  congr 1
  unfold delN
  rw [List.filter_filter]
  apply List.filter_congr
  intro z _
  unfold stays
  simp only [litN_same]
  by_cases h1 : z.1 = k
  · have : ¬ B ≤ z.1 := by omega
    simp [h1]
    omega
  · simp [h1]
theorem stays_keep {B : Nat} {left : Lit → Bool} {Z : Held3} {k : Nat} (hk : B ≤ k) : Z.filter (stays B left) = Z.filter (stays B (fun u => left u && !u.sameKey (litN k))) := by
  apply List.filter_congr
  intro z _
  unfold stays
  simp only [litN_same]
  by_cases h1 : z.1 = k
  · have : B ≤ z.1 := by omega
    simp [this]
  · simp [h1]
theorem stays_all {B : Nat} {left : Lit → Bool} {Z : Held3} (h : ∀ z ∈ Z, left (litN z.1) = true) : Z.filter (stays B left) = Z := by
  apply List.filter_eq_self.2
  intro z hz
  unfold stays
  rw [h z hz]
  simp
theorem stays_end {B : Nat} {left : Lit → Bool} {Z : Held3} (h : ∀ kl, left kl = false) : slotsOf (Z.filter (stays B left)) = (slotsOf Z).filter (fun p => decide (B ≤ p.1)) := by
  unfold slotsOf
  rw [List.filter_map]
  congr 1
  apply List.filter_congr
  intro z _
  show (decide (B ≤ z.1) || left (litN z.1)) = decide (B ≤ z.1)
  rw [h, Bool.or_false]
theorem has_all {Z : Held3} : ∀ z ∈ Z, Go.Maps.has (mapD (valsOf Z)) (litN z.1) = true := by
  intro z hz
  unfold mapD valsOf
  rw [Go.Maps.has_eq]
  exact List.any_eq_true.2 ⟨(litN z.1, .held z.2.2), List.mem_map.2 ⟨(z.1, z.2.2), List.mem_map.2 ⟨z, hz, rfl⟩, rfl⟩, WideAt.sameKey_self (litN_key _)⟩
theorem invInt : ∀ key kl, keyOf Tryz.prog TIn key = some kl → ∃ x : Int, key = Value.int .i64 x := fun key kl hk => by
  obtain ⟨x, e, -⟩ := Go.Maps.keyOf_int_inv (q := .i64) Tryz.underlying3 hk
  exact ⟨x, e⟩

section
variable {S S1 S2 : Nat → Prop} {w w' : World} {b lb db mb : Nat} {s : So}
/-- WHAT rise leaves -/
def RiseDid (S S1 S2 : Nat → Prop) (w : World) (b lb db mb : Nat) (s : So) (n : Nat) (e : Ending) (w' : World) : Prop :=
  e = .returned (.tuple #[]) ∧ SoO (Up S w w') S1 S2 w' b lb db mb ⟨s.per, s.log, s.snap, s.st.rise n⟩ ∧ Fr (fun x => x = b ∨ x = mb) w w'
set_option maxHeartbeats 1000000 in
theorem riseS (h : SoO S S1 S2 w b lb db mb s) (n : Nat) (hn : n ≤ 1099511627776) :
    Calls Tryz.prog 123 #[.pointer (some ⟨b, 0, none⟩), .int .i64 (n : Int)] w (RiseDid S S1 S2 w b lb db mb s n) := by
  obtain ⟨c0, c1, c2, c3, c4, c5, z1, z3, z4⟩ := h.facts
  have hba := h.ok.ba
  have hok' := h.ok.rise' hn
  obtain ⟨B, hB⟩ : ∃ B, max s.st.base n = B := ⟨_, rfl⟩
  have hB2 : B ≤ 1099511627776 := by omega
  obtain ⟨h1, f1⟩ := h.setBa B hB2
  have fb : Fr (fun x => x = b ∨ x = mb) w (w.setCell ⟨b, 4, none⟩ (.int .i64 (B : Int))) := (Fr.refl (fun x => x = b ∨ x = mb) _).setCell (p := ⟨b, 4, none⟩) (.inl (.inl rfl)) (h.blk.notB (by decide)) _
  obtain ⟨Z, hown, hZ, hheld, hbd⟩ := h1.map
  have hst : s.st.rise n = ⟨s.st.promised, B, s.st.slots.filter (fun p => decide (B ≤ p.1))⟩ := by unfold St.rise; rw [hB]
  have HS := Lib.hid hst
  have HZ := Lib.hid hZ
  have HB := Lib.hid hbd
  have HH := Lib.hid hheld
  rw [hst] at hok'
  have hB1 := h1.blk
  have hsz1 : (w.setCell ⟨b, 4, none⟩ (.int .i64 (B : Int))).heap.size = w.heap.size := by simp [World.setCell]
  have hnem := h.ne
  have e5 := hB1.cell 5 (v := .map (some mb)) rfl
  have hcase : (s.st.base < n ∧ n = B) ∨ (¬ s.st.base < n ∧ s.st.base = B) := by omega
  clear hst hZ hB hbd hheld
  rcases hcase with ⟨hbn, hbe⟩ | ⟨hbn, hbe⟩
  all_goals
    have hbi : ((s.st.base : Nat) : Int) < (n : Int) ↔ s.st.base < n := by omega
    have HBE := Lib.hid hbe
    first
    | (have hbi' : (s.st.base : Int) < (n : Int) := by omega)
    | (have hbi' : ¬ (s.st.base : Int) < (n : Int) := by omega)
    have hbe' := HBE.out
    clear hbn hbi hbe hbe'
    go_enter Tryz.func123, Tryz.ntmps123
    go_wp2_with (first
      | (at_range; rw [HBE.out]; refine wpList_range_own _ rfl _ TMp rfl TIn THd intKey Tryz.underlying98 heldR mb Z.length _ rfl hown ?_; intro w0 hrg0 hg0 hs0))
    rw [hsz1] at hrg0
    have hb0 : Below w.heap.size (w.setCell ⟨b, 4, none⟩ (.int .i64 (B : Int))) w0 := ⟨hg0.os, hg0.tape, hg0.output, hg0.size, fun x hx => hg0.block x (by rw [hsz1]; exact hx) (by simp)⟩
    clear c0 c1 c2 c3 c4 c5 z1 z3 z4 hg0 hs0
    generalize w.setCell ⟨b, 4, none⟩ (.int .i64 (B : Int)) = w1 at *
    rw [← hsz1] at hb0
    have hf0 : Fr (fun x => x = mb) w1 w0 := Fr.of_below hb0
    go_loopw [4] (fun _ wr => ∃ (left : Lit → Bool) (cnt : Nat), wr.ranges Tryz.prog TIn heldR mb w.heap.size Z.length (mapD (valsOf (Z.filter (stays B left)))) left cnt ∧ (∀ kl, left kl = true → ∃ z ∈ Z, litN z.1 = kl) ∧ Fr (fun x => x = mb) w1 wr) (fun _ wr => wr.rangeLeft mb w.heap.size)
    case atStart => exact ⟨_, _, by rw [stays_all has_all]; exact hrg0, fun kl hk => left_of hk, hf0⟩
    case round =>
      obtain ⟨left, cnt, hrg, hlk, hf⟩ := hrel
      have hmeas := hrg.left_eq
      clear hrg0 hown hf0 hb0
      go_wp2_with (first
        | (at_next; refine wpList_next_ranges _ rfl _ rfl TIn intKey heldR (Value.int .i64) id invInt (fun v y _ => ⟨v, rfl⟩) mb w.heap.size Z.length _ left cnt rfl hrg ?_ ?_))
      · intro hc0 hl0
        go_wp2
        refine bodyPost_end (results_none rfl _ _ _) rfl ?_
        have hB' := hB1.fr hf hnem
        have ho := ownsMap_tight hrg.owns
        rw [show (valsOf (Z.filter (stays B left))).length = (Z.filter (stays B left)).length from by unfold valsOf; rw [List.length_map]] at ho
        have hsl : SlotsAt wr mb (s.st.slots.filter (fun p => decide (B ≤ p.1))) := by
          rw [← HZ.out, ← stays_end hl0]
          exact ⟨_, ho, rfl, fun z hz => (HH.out z (List.mem_filter.1 hz).1).bk hf.byt, fun z hz => HB.out z (List.mem_filter.1 hz).1⟩
        obtain ⟨h2, f2⟩ := h1.turnMap hsl hf hok'
        refine ⟨rfl, ?_, fb.trans' hf (fun _ _ e => .inr e)⟩
        rw [HS.out]
        exact h2.mono (fun x hx => hx.imp_right (fun q => ⟨by have := q.1; omega, q.2⟩)) (fun x hx => h2.lt x (hx.imp_right (fun q => ⟨by have := q.1; omega, q.2⟩)))
      · intro x c kl y ps w2 cnt' hkey hlx hR hat hrg' hlt hg hs hen
        obtain ⟨z, hz, rfl⟩ := hlk kl hlx
        obtain rfl := key_of hkey rfl
        have hzb := HB.out z hz
        have hf2 := hf.next hg (by omega)
        have hm' := hrg'.left_eq
        have hB2w := hB1.fr hf2 hnem
        have g4 := hB2w.cell 4 (v := .int .i64 (B : Int)) rfl
        have g5 := hB2w.cell 5 (v := .map (some mb)) rfl
        have hlk' : ∀ kl, (left kl && !kl.sameKey (litN z.1)) = true → ∃ z ∈ Z, litN z.1 = kl := fun kl hk => hlk kl (by simp only [Bool.and_eq_true] at hk; exact hk.1)
        clear hR hat hs hkey e5
        by_cases hzB : (z.1 : Int) < (B : Int)
        · go_wp2_with (first
            | (at_delete; refine wpList_delete_ranges _ rfl _ _ TMp TIn rfl THd intKey Tryz.underlying98 heldR mb w.heap.size Z.length _ _ cnt' rfl hrg' (.int .i64 (z.1 : Int)) (litN z.1) rfl (keyOf_nat z.1 hzb) ?_; intro w3 cnt3 hrg3 hle3 hturn3))
          simp only [Act.put]
          go_roundw
          case rel =>
            rw [Maps.strike_twice, mapD_del, stays_del (by omega)] at hrg3
            exact ⟨_, cnt3, hrg3, hlk', hf2.trans' (Fr.turned hturn3) (fun _ _ h => h)⟩
          case measure => rw [hrg3.left_eq, hmeas]; omega
        · rw [stays_keep (show B ≤ z.1 by omega)] at hrg'
          go_wp2
          go_roundw
          case rel => exact ⟨_, cnt', hrg', hlk', hf2⟩
          case measure => rw [hm', hmeas]; exact hlt
end
end Go.Proofs.YtediidajdpdeiaaGreatDoor
