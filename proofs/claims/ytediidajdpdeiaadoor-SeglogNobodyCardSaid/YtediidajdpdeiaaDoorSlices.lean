/- append, copy, slices.Clone and slices.Grow at lists of bytes, as laws for walks. -/
import Derived.Test.YtediidajdpdeiaaDoorBase
import Derived.WalkSpells
import Derived.WalkLawsBesides
import Derived.Lib.AppendZerosOnto
namespace Go.Proofs.YtediidajdpdeiaaDoor
open Go.RowKit

section
variable {P : Program} {w w' W : World}

theorem wpList_ran {ops : Array Oper} {rest : List Oper} {o : Oper} {a : Act} {Q : Exit → Act → World → Prop} (hgd : o.guard = none) {v : Value}
    (h : (execOp a.eval o).run P w = .ok (.value v) w') (k : wpList P ops Q rest (a.put o.dst v) w') : wpList P ops Q (o :: rest) a w := by
  refine wpList_plain hgd fun K hK => ?_
  unfold Oper.wp
  rw [h]
  exact hK _ _ k

theorem run_builtin2 {o : Oper} {a : Act} (b : Builtin) (x y : Operand) (t u : TypeId) {vx vy r : Value} (f : Array TypeId → TypeId → Array Value → Sem Value)
    (ho : o.op = .call { callee := .builtin b, args := #[x, y], argTypes := #[t, u] }) (hx : a.eval x = vx) (hy : a.eval y = vy)
    (hb : ∀ cs vs, builtin b #[t, u] o.type cs vs = (do pure (.value (← f #[t, u] o.type vs)))) (h : (f #[t, u] o.type #[vx, vy]).run P w = .ok r w') :
    (execOp a.eval o).run P w = .ok (.value r) w' := by
  unfold execOp
  simp only [ho, resolve, invoke, Sem.run_bind, Sem.run_pure, Result.andThen_ok, List.map_toArray, List.map_cons, List.map_nil, hx, hy, hb, h]

theorem run_append_zero (t ty e : TypeId) (i : TypeInfo) (ht : P.underlying t = some (.slice e)) (hi : P.info? e = some i)
    (A B : Option Addr) (n c d : Nat) (hn : n ≤ c) : (Builtin.append_ #[t, t] ty #[.slice A n c, .slice B 0 d]).run P w = .ok (.slice A n c) w := by
  have h0 : n + 0 ≤ c := by omega
  cases A <;> cases B <;> simp [Builtin.append_, run_underlying ht, sizeOf, typeInfo, hi, Builtin.lenOf, Builtin.firstCells, hn, loadCells, loadCellsFrom, storeCells]

theorem run_append_rd (base : Nat) (t ty e : TypeId) (i : TypeInfo) (z : Value) (size bytes : Nat) (ht : P.underlying t = some (.slice e)) (hi : P.info? e = some i) (hz : i.zero = some z)
    (hsize : i.size = size) (hby : i.bytes = bytes) (hzs : z.cells.size = size) (hsz : 0 < size)
    (v : Value) (n : Nat) (xs : List Value) (hown : w.ownsRow base e size v n xs)
    (A : Option Addr) (m c : Nat) (news : List Value) (hl : news.length = m * size) (hr : ∀ j u, news[j]? = some u → ∃ ad, A = some ad ∧ w.cell? (ad.add j) = some u) (h1 : ∀ u ∈ news, u.oneCell' = true)
    (h63 : n + m ≤ maxLen) (hbytes : (n + m) * bytes ≤ 140737488355328) (hbase : base ≤ w.heap.size) :
    ∃ v' w', (Builtin.append_ #[t, t] ty #[v, .slice A m c]).run P w = .ok v' w' ∧ w'.ownsRow base e size v' (n + m) (xs ++ news) ∧ w.grownBy w' v.ownBlock ∧
      (v'.ownBlock = v.ownBlock ∨ v'.ownBlock = some w.heap.size) := by
  rcases Nat.eq_zero_or_pos m with h0 | h0
  · subst h0
    have hn : news = [] := List.eq_nil_of_length_eq_zero (by simpa using hl)
    subst hn
    rcases hown.2 with ⟨rfl, rfl⟩ | ⟨g, cap, cur, rfl, _, _, hnc, _⟩
    · exact ⟨_, w, run_append_zero t ty e i ht hi _ _ _ _ _ (Nat.le_refl _), by simpa using hown, ⟨rfl, rfl, rfl, Nat.le_refl _, fun _ _ _ => rfl⟩, .inl rfl⟩
    · exact ⟨_, w, run_append_zero t ty e i ht hi _ _ _ _ _ hnc, by simpa using hown, ⟨rfl, rfl, rfl, Nat.le_refl _, fun _ _ _ => rfl⟩, .inl rfl⟩
  · have hpos : 0 < news.length := by rw [hl]; exact Nat.mul_pos h0 hsz
    obtain ⟨ad, rfl, _⟩ := hr 0 _ (List.getElem?_eq_getElem hpos)
    have hc : ∀ j u, news[j]? = some u → w.cell? (ad.add j) = some u := by
      intro j u hu
      obtain ⟨ad', e, h⟩ := hr j u hu
      injection e with e
      rw [e]; exact h
    obtain ⟨v', w', hrun, h2, h3, _, h5⟩ := run_append_own_at (P := P) w base t ty e i z size bytes ht hi hz hsize hby hzs hsz v n xs hown ad m c news hl hc h1 h63 hbytes hbase
    exact ⟨v', w', hrun, h2, h3, h5⟩

theorem Fr.grown {S : Nat → Prop} {row : Option Nat} (h : Fr S W w) (hg : w.grownBy w' row) (hr : ∀ k, row = some k → W.heap.size ≤ k) : Fr S W w' :=
  ⟨hg.os.trans h.os, hg.tape.trans h.tape, hg.output.trans h.output, Nat.le_trans h.size hg.size,
    fun b hb hn => (hg.block b (Nat.lt_of_lt_of_le hb h.size) (fun e => by have := hr b e.symm; omega)).trans (h.out b hb hn),
    fun b hb => (hg.block b (Nat.lt_of_lt_of_le hb.lt h.size) (fun e => by have := hr b e.symm; have := hb.lt; omega)).trans (h.byt b hb)⟩

/-- what an append of bytes onto a row of one's own leaves -/
theorem wpList_appB {ops : Array Oper} {rest : List Oper} {o : Oper} {a : Act} {Q : Exit → Act → World → Prop} (hgd : o.guard = none) (s x : Operand) (t : TypeId)
    (ho : o.op = .call { callee := .builtin .append, args := #[s, x], argTypes := #[t, t] }) {P : Program}
    (i : TypeInfo) (ht : P.underlying t = some (.slice TB)) (hi : P.info? TB = some i) (hz : i.zero = some (.int .u8 0)) (hsize : i.size = 1) (hby : i.bytes = 1)
    (base : Nat) (v : Value) (n : Nat) (xs : List UInt8) (hs : a.eval s = v) (hown : w.ownsRow base TB 1 v n (xs.map byteV))
    (S : Nat → Prop) (A : Option Addr) (m c : Nat) (l : List UInt8) (hx : a.eval x = .slice A m c) (hl : l.length = m) (hr : Rd S w A l)
    (hbytes : n + m ≤ 140737488355328) (hbase : base ≤ w.heap.size)
    (h : ∀ v' w', w'.ownsRow base TB 1 v' (n + m) ((xs ++ l).map byteV) → w.grownBy w' v.ownBlock → (v'.ownBlock = v.ownBlock ∨ v'.ownBlock = some w.heap.size) → wpList P ops Q rest (a.put o.dst v') w') :
    wpList P ops Q (o :: rest) a w := by
  obtain ⟨v', w', hrun, h2, h3, h5⟩ := run_append_rd (P := P) (w := w) base t o.type TB i (.int .u8 0) 1 1 ht hi hz hsize hby rfl (by omega) v n (xs.map byteV) hown A m c (l.map byteV) (by simp [hl])
    (fun j u hu => by
      rw [List.getElem?_map] at hu
      cases hj : l[j]? with
      | none => rw [hj] at hu; cases hu
      | some y =>
        rw [hj] at hu
        obtain ⟨ad, e, hc, _⟩ := hr j y hj
        injection hu with hu
        exact ⟨ad, e, by rw [← hu]; exact hc⟩) byteV_one (by simp only [maxLen]; omega) (by omega) hbase
  rw [← List.map_append] at h2
  exact wpList_ran hgd (run_builtin2 .append s x t t Builtin.append_ ho hs hx (fun _ _ => rfl) hrun) (h v' w' h2 h3 h5)
end

/-- copy of bytes into a row: the whole source fits -/
theorem wpList_copyB {P : Program} {w : World} {ops : Array Oper} {rest : List Oper} {o : Oper} {a : Act} {Q : Exit → Act → World → Prop} (hgd : o.guard = none) (s x : Operand) (t : TypeId)
    (ho : o.op = .call { callee := .builtin .copy, args := #[s, x], argTypes := #[t, t] })
    (i : TypeInfo) (ht : P.underlying t = some (.slice TB)) (hi : P.info? TB = some i) (hsize : i.size = 1)
    (X : Option Addr) (dl dc : Nat) (hs : a.eval s = .slice X dl dc) (g off : Nat) (cur : Array Value) (fr : w.heap[g]? = some (.cells cur TB (0, 0)))
    (S : Nat → Prop) (A : Option Addr) (m c : Nat) (l : List UInt8) (hx : a.eval x = .slice A m c) (hl : l.length = m) (hr : Rd S w A l)
    (hX : 0 < m → X = some ⟨g, off, none⟩) (hdl : dl = m) (hfit : off + m ≤ cur.size)
    (h : wpList P ops Q rest (a.put o.dst (goInt m)) (w.setRow g (cur.toList.take off ++ l.map byteV ++ cur.toList.drop (off + m)).toArray)) :
    wpList P ops Q (o :: rest) a w := by
  subst hdl
  have hrun : (Builtin.copy_ #[t, t] o.type #[.slice X dl dc, .slice A dl c]).run P w = .ok (goInt dl) (w.setRow g (cur.toList.take off ++ l.map byteV ++ cur.toList.drop (off + dl)).toArray) := by
    rcases Nat.eq_zero_or_pos dl with h0 | h0
    · subst h0
      obtain rfl := List.eq_nil_of_length_eq_zero hl
      have e : (cur.toList.take off ++ ([] : List UInt8).map byteV ++ cur.toList.drop (off + 0)).toArray = cur := by simp
      rw [e, setRow_self w g cur TB (0, 0) fr]
      cases X <;> cases A <;> simp [Builtin.copy_, run_underlying ht, Builtin.lenOf, Builtin.firstCells, sizeOf, typeInfo, hi, storeCells, loadCells, loadCellsFrom]
    · obtain rfl := hX h0
      have hpos : 0 < l.length := by omega
      obtain ⟨ad, rfl, _⟩ := hr 0 _ (List.getElem?_eq_getElem hpos)
      have := run_copy_row (P := P) w t t o.type TB g off dl dc ad dl c cur TB (l.map byteV) ht (by rw [hi]; simp [hsize]) fr (by simp [hl]) (hr.cells rfl) (by simp [hl]; omega) byteV_one
      simpa [hl] using this
  exact wpList_ran hgd (run_builtin2 .copy s x t t Builtin.copy_ ho hs hx (fun _ _ => rfl) hrun) h

theorem run_copy_zero {P : Program} (t ty : TypeId) (i : TypeInfo) (ht : P.underlying t = some (.slice TB)) (hi : P.info? TB = some i) (X A : Option Addr) (c d : Nat) (w : World) :
    (Builtin.copy_ #[t, t] ty #[.slice X 0 c, .slice A 0 d]).run P w = .ok (.int .i64 0) w := by
  cases X <;> cases A <;> simp [Builtin.copy_, run_underlying ht, Builtin.lenOf, Builtin.firstCells, sizeOf, typeInfo, hi, storeCells, loadCells, loadCellsFrom, goInt]

theorem Fr.setRow {S : Nat → Prop} {W w : World} (h : Fr S W w) (g : Nat) (hg : W.heap.size ≤ g) (cs : Array Value) : Fr S W (w.setRow g cs) :=
  ⟨h.os, h.tape, h.output, by have := h.size; simpa [World.setRow] using this,
    fun b hb hn => (setRow_other w g b cs (by omega)).trans (h.out b hb hn),
    fun b hb => (setRow_other w g b cs (by have := hb.lt; omega)).trans (h.byt b hb)⟩

/-- a row whose first cells are bytes -/
theorem Own.of_cells {w : World} {g : Nat} {cs : Array Value} {fz : Nat × Nat} {l : List UInt8} (S : Nat → Prop) (h : w.heap[g]? = some (.cells cs TB fz)) (hs : S g) (hl : cs.toList.take l.length = l.map byteV) :
    Own S w (some ⟨g, 0, none⟩) l := by
  intro j x hx
  have hlt : j < l.length := (List.getElem?_eq_some_iff.1 hx).1
  refine ⟨_, rfl, ?_, ⟨cs, fz, h⟩, hs⟩
  have e : (cs.toList.take l.length)[j]? = some (byteV x) := by rw [hl, List.getElem?_map, hx]; rfl
  rw [List.getElem?_take, if_pos hlt] at e
  rw [add_mk, Nat.zero_add]
  simp only [World.cell?, h]
  simpa using e

theorem info_u8 : (Tryd.prog.info? TB).map (fun i => (i.zero, i.size, i.bytes)) = some (some (.int .u8 0), 1, 1) := by kernel_rfl

/-- a row of no bytes, just made -/
theorem ownsB_none (w : World) : (w.alloc (.cells #[] TB)).ownsRow w.heap.size TB 1 (.slice (some ⟨w.heap.size, 0, none⟩) 0 0) 0 (([] : List UInt8).map byteV) :=
  World.ownsRow_made w #[] 0 (Nat.le_refl _) (by simp [maxLen]) (by simp)

theorem own_val {w : World} {base n : Nat} {v : Value} {xs : List Value} {e : TypeId} {sz : Nat} (h : w.ownsRow base e sz v n xs) : ∃ A c, v = .slice A n c ∧ n ≤ c ∧ c ≤ maxLen := by
  rcases h.2 with ⟨rfl, rfl⟩ | ⟨g, cap, cur, rfl, _, _, hc, hm, _⟩
  · exact ⟨_, _, rfl, Nat.le_refl _, Nat.zero_le _⟩
  · exact ⟨_, _, rfl, hc, hm⟩

/-- WHAT slices.Clone LEAVES: a new row of the same bytes, nil for nil -/
def Cloned (w : World) (l : List UInt8) (e : Ending) (w' : World) : Prop :=
  ∃ A' c', e = .returned (.slice A' l.length c') ∧ w'.ownsRow w.heap.size TB 1 (.slice A' l.length c') l.length (l.map byteV) ∧ l.length ≤ c' ∧ c' ≤ maxLen ∧ Below w.heap.size w w'

theorem Rd.none_ {S : Nat → Prop} {w : World} {l : List UInt8} (h : Rd S w none l) : l = [] := by
  cases l with
  | nil => rfl
  | cons x l => obtain ⟨ad, e, _⟩ := h 0 x rfl; cases e

theorem cloned_of {w w1 : World} (l : List UInt8) {v1 : Value} (hown : w1.ownsRow w.heap.size TB 1 v1 l.length (l.map byteV))
    (hg : (w.alloc (.cells #[] TB)).grownBy w1 (some w.heap.size)) : Cloned w l (.returned v1) w1 := by
  obtain ⟨A', c', rfl, hc, hm⟩ := own_val hown
  exact ⟨A', c', rfl, hown, hc, hm, ((Below.refl _ _).alloc (Nat.le_refl _) _).grown hg (by simp) (by rintro k ⟨⟩; exact Nat.le_refl _)⟩

theorem Own.of_row' {w w' : World} {A : Option Addr} {c : Nat} {l : List UInt8} (h : w'.ownsRow w.heap.size TB 1 (.slice A l.length c) l.length (l.map byteV)) : Own (New w) w' A l := Own.of_row h rfl

theorem clone_B (S : Nat → Prop) (A : Option Addr) (l : List UInt8) (c : Nat) (w : World) (hr : Rd S w A l) (hl : l.length ≤ 70368744177664) :
    Calls Tryd.prog 80 #[.slice A l.length c] w (Cloned w l) := by
  obtain ⟨i, hi, hz, hs, hb⟩ := info_parts info_u8
  rcases A with _ | ad
  · obtain rfl := hr.none_
    have hnil := fun (w : World) => Lib.run_eql_slice_nil w (P := Tryd.prog) 22 TB none 0 c 0 0 Tryd.underlying22
    show Calls _ _ #[.slice none 0 c] w _
    go_enter Tryd.func80, Tryd.ntmps80
    go_wp2
    go_ret
    exact ⟨_, _, rfl, World.ownsRow_nil _ _ _ _, Nat.le_refl _, Nat.zero_le _, Below.refl _ _⟩
  · have hnil := fun (w : World) => Lib.run_eql_slice_nil w (P := Tryd.prog) 22 TB (some ad) l.length c 0 0 Tryd.underlying22
    go_enter Tryd.func80, Tryd.ntmps80
    go_wp2_with (at_builtin
                 refine wpList_appB rfl (.tmp 5) (.tmp 6) 22 rfl i Tryd.underlying22 hi hz hs hb w.heap.size _ 0 [] rfl (ownsB_none w) Non (some ad) l.length c l rfl rfl (((hr.mono (fun _ _ h => h.elim)).fr ((Fr.refl _ _).alloc _))) (by omega) (by simp) ?_
                 intro v1 w1 hown hgrow hat)
    go_ret
    exact cloned_of l (by simpa using hown) hgrow

/-- WHAT slices.Grow LEAVES of a slice without room, for m bytes more, m at least one: a new row, whose first bytes are the slice's, and which has room. -/
def Grew (w : World) (l : List UInt8) (m : Nat) (e : Ending) (w' : World) : Prop :=
  ∃ c cur, e = .returned (.slice (some ⟨w.heap.size, 0, none⟩) l.length c) ∧ l.length + m ≤ c ∧ c ≤ maxLen ∧ cur.size = c ∧ cur.toList.take l.length = l.map byteV ∧ w' = w.drew.alloc (.cells cur TB)

set_option maxRecDepth 100000 in
theorem grow_B (S : Nat → Prop) (A : Option Addr) (l : List UInt8) (m : Nat) (w : World) (hr : Rd S w A l) (hm : 0 < m) (hl : l.length + m ≤ 70368744177664) :
    Calls Tryd.prog 116 #[.slice A l.length l.length, .int .i64 m] w (Grew w l m) := by
  obtain ⟨i, hi, hz, hs, hb⟩ := info_parts info_u8
  have hf : (Builtin.firstCells i.size l.length (.slice A l.length l.length)).run Tryd.prog w.drew = .ok (l.map byteV).toArray w.drew := by
    rcases A with _ | ad
    · obtain rfl := hr.none_
      simp [Builtin.firstCells]
    · exact run_firstCells_some (P := Tryd.prog) w.drew i.size l.length ad l.length l.length (l.map byteV) (by simp [hs]) (by simpa using hr.cells rfl)
  have hc1 := grownCap_ge w (l.length + m) l.length TB
  have hc2 := grownCap_le_maxLen w (l.length + m) l.length TB (by simp only [maxLen]; omega)
  have hrun := Lib.run_append_grow_zeros (P := Tryd.prog) w 22 3 22 TB i _ .i64 .i64 Tryd.underlying22 Tryd.underlying3 hi hz A l.length l.length (l.map byteV) hf m hm (by omega) (by omega) (by omega) (by rw [hb]; omega) (growslice_fits (by omega) (by rw [hb]; omega))
  go_enter Tryd.func116, Tryd.ntmps116
  go_wp2_with (at_builtin
               refine wpList_ran rfl (run_builtin2 .append (.tmp 20) (.tmp 21) 22 3 Builtin.append_ rfl rfl rfl (fun _ _ => rfl) hrun) ?_)
  go_ret
  refine ⟨_, _, rfl, hc1, hc2, ?_, ?_, rfl⟩
  · simp [size_zeroCells]; omega
  · simp [List.take_append]

theorem grow_zero (A : Option Addr) (n : Nat) (w : World) (hn : n ≤ 70368744177664) :
    Calls Tryd.prog 116 #[.slice A n n, .int .i64 0] w fun e w' => e = .returned (.slice A n n) ∧ w = w' := by
  go_enter Tryd.func116, Tryd.ntmps116
  go_wp2
  go_ret
  exact ⟨rfl, rfl⟩
end Go.Proofs.YtediidajdpdeiaaDoor
