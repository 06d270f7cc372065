/- append at rows of any type of one cell; blocks that are known whole across appends. -/
import Derived.Test.YtediidajdpdeiaaDoorSlices
namespace Go.Proofs.YtediidajdpdeiaaDoor
open Go.RowKit

/-- what an append onto a row of one's own leaves, elements of one cell -/
theorem wpList_app1 {P : Program} {w : World} {ops : Array Oper} {rest : List Oper} {o : Oper} {a : Act} {Q : Exit → Act → World → Prop} (hgd : o.guard = none) (s x : Operand) (t : TypeId)
    (ho : o.op = .call { callee := .builtin .append, args := #[s, x], argTypes := #[t, t] })
    (e : TypeId) (i : TypeInfo) (z : Value) (bytes : Nat) (ht : P.underlying t = some (.slice e)) (hi : P.info? e = some i) (hz : i.zero = some z) (hsize : i.size = 1) (hby : i.bytes = bytes) (hzs : z.cells.size = 1)
    (base : Nat) (v : Value) (n : Nat) (xs : List Value) (hs : a.eval s = v) (hown : w.ownsRow base e 1 v n xs)
    (A : Option Addr) (m c : Nat) (news : List Value) (hx : a.eval x = .slice A m c) (hl : news.length = m) (hr : ∀ j u, news[j]? = some u → ∃ ad, A = some ad ∧ w.cell? (ad.add j) = some u) (h1 : ∀ u ∈ news, u.oneCell' = true)
    (h63 : n + m ≤ maxLen) (hbytes : (n + m) * bytes ≤ 140737488355328) (hbase : base ≤ w.heap.size)
    (h : ∀ v' w', w'.ownsRow base e 1 v' (n + m) (xs ++ news) → w.grownBy w' v.ownBlock → (v'.ownBlock = v.ownBlock ∨ v'.ownBlock = some w.heap.size) → wpList P ops Q rest (a.put o.dst v') w') :
    wpList P ops Q (o :: rest) a w := by
  obtain ⟨v', w', hrun, h2, h3, h5⟩ := run_append_rd (P := P) (w := w) base t o.type e i z 1 bytes ht hi hz hsize hby hzs (by omega) v n xs hown A m c news (by omega) hr h1 h63 hbytes hbase
  exact wpList_ran hgd (run_builtin2 .append s x t t Builtin.append_ ho hs hx (fun _ _ => rfl) hrun) (h v' w' h2 h3 h5)

section
variable {w w' : World} {b : Nat} {t : TypeId} {cs : Array Value}
theorem Blk.below (h : Blk w b t cs) (hb : Below w.heap.size w w') : Blk w' b t cs := h.eq (hb.block b h.lt)
theorem Blk.grown (h : Blk w b t cs) {row : Option Nat} (hg : w.grownBy w' row) (hn : row ≠ some b) : Blk w' b t cs := h.eq (hg.block b h.lt (fun e => hn e.symm))
/-- rows of two types are two rows -/
theorem ownsRow_apart {base base' n n' sz sz' : Nat} {e e' : TypeId} {v v' : Value} {xs xs' : List Value} (h : w.ownsRow base e sz v n xs) (h' : w.ownsRow base' e' sz' v' n' xs') (hne : e ≠ e') : v.ownBlock = none ∨ v.ownBlock ≠ v'.ownBlock := by
  rcases h.2 with ⟨rfl, _⟩ | ⟨g, cap, cur, rfl, _, hg, _⟩
  · exact .inl rfl
  · right
    rcases h'.2 with ⟨rfl, _⟩ | ⟨g', cap', cur', rfl, _, hg', _⟩
    · simp [Value.ownBlock]
    · intro e1
      simp only [Value.ownBlock, Option.some.injEq] at e1
      subst e1
      rw [hg] at hg'
      injection hg' with hg'
      injection hg' with _ h2
      exact hne h2
/-- a row lies as it lay behind what leaves old blocks alone -/
theorem ownsRow_below {base n sz : Nat} {e : TypeId} {v : Value} {xs : List Value} (h : w.ownsRow base e sz v n xs) (hb : Below w.heap.size w w') : w'.ownsRow base e sz v n xs := by
  refine ⟨h.1, h.2.imp_right ?_⟩
  rintro ⟨g, cap, cur, h1, h2, h3, h4⟩
  exact ⟨g, cap, cur, h1, h2, (hb.block g (Array.getElem?_eq_some_iff.1 h3).1).trans h3, h4⟩
theorem row_ne {base n sz b : Nat} {e : TypeId} {v : Value} {xs : List Value} (h : w.ownsRow base e sz v n xs) (hb : b < base) : v.ownBlock ≠ some b := fun e => by have := (h.lt b e).1; omega
end
section
variable {w w' : World} {S : Nat → Prop} {A : Option Addr} {l : List UInt8}
theorem Own.same (h : Own S w A l) (hk : ∀ b, IsB w b → w'.heap[b]? = w.heap[b]?) : Own S w' A l := fun j x hx => by
  obtain ⟨ad, e, hc, hb, hs⟩ := h j x hx
  have he := hk _ hb
  exact ⟨ad, e, (cell_eq (by rw [add_block]; exact he)).trans hc, hb.eq he, hs⟩
theorem Own.alloc (h : Own S w A l) (o : Obj) : Own S (w.alloc o) A l := h.same fun _ hb => Below.heap_alloc _ _ _ hb.lt
theorem Own.grownI (h : Own S w A l) {row : Option Nat} (hg : w.grownBy w' row) (hr : ∀ j, row = some j → ¬ IsB w j) : Own S w' A l := h.same fun b hb => hg.block b hb.lt fun e => hr b e.symm hb
theorem Own.setCellI (h : Own S w A l) {p : Addr} (hp : ¬ IsB w p.block) (u : Value) : Own S (w.setCell p u) A l := h.same fun b hb => Below.heap_setCell _ _ _ _ (by rintro rfl; exact hp hb)
theorem row_notB {base n sz : Nat} {e : TypeId} {v : Value} {xs : List Value} (h : w.ownsRow base e sz v n xs) (he : e ≠ TB) : ∀ j, v.ownBlock = some j → ¬ IsB w j := by
  intro j hj
  rcases h.2 with ⟨rfl, _⟩ | ⟨g, cap, cur, rfl, _, hg, _⟩
  · simp [Value.ownBlock] at hj
  · simp only [Value.ownBlock, Option.some.injEq] at hj
    subst hj
    exact Blk.notB (t := e) (cs := cur) hg he
end
theorem one_cell (u : Value) (h : u.oneCell' = true) : ∀ x ∈ ([u] : List Value), x.oneCell' = true := by
  intro x hx
  rw [List.mem_singleton] at hx
  rw [hx]; exact h
theorem one_new (w : World) (u : Value) (t : TypeId) : ∀ j x, ([u] : List Value)[j]? = some x → ∃ ad, (some ⟨w.heap.size, 0, none⟩ : Option Addr) = some ad ∧ (w.alloc (.cells #[u] t)).cell? (ad.add j) = some x := by
  intro j x hx
  match j, hx with
  | 0, hx => injection hx with hx; subst hx; exact ⟨_, rfl, (Blk.new w t #[u]).cell 0 rfl⟩
  | j + 1, hx => simp at hx
end Go.Proofs.YtediidajdpdeiaaDoor
