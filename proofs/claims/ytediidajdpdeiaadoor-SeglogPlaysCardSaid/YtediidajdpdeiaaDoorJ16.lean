/- The log as the laws see it: all that is owned is newer than the law's beginning. -/
import Derived.Test.YtediidajdpdeiaaDoorJ14
import Derived.Test.YtediidajdpdeiaaDoorJ15
import Derived.Test.YtediidajdpdeiaaDoorJ12
import Derived.Test.YtediidajdpdeiaaDoorJ6

namespace Go.Proofs.YtediidajdpdeiaaDoor
open Go.RowKit CrcM
set_option maxRecDepth 100000

/-- a log that was made since W, of whose memory nothing has turned; X is kept apart from it -/
def LiveG (W w : World) (b : Nat) (L : Lg) (X : Nat → Prop) : Prop := ∃ S, LogAt S w b L ∧ (∀ x, S x → W.heap.size ≤ x) ∧ Below W.heap.size W w ∧ ∀ x, X x → ¬ S x ∧ x < w.heap.size
/-- what is kept apart is as it was -/
def XK (X : Nat → Prop) (w w' : World) : Prop := ∀ x, X x → w'.heap[x]? = w.heap[x]?
theorem XK.trans {X : Nat → Prop} {a b c : World} (h : XK X a b) (k : XK X b c) : XK X a c := fun x hx => (k x hx).trans (h x hx)
theorem XK.refl (X : Nat → Prop) (w : World) : XK X w w := fun _ _ => rfl

section
variable {W w w' : World} {b : Nat} {L : Lg} {X : Nat → Prop}
theorem LiveG.below (h : LiveG W w b L X) : Below W.heap.size W w := by
  obtain ⟨S, _, _, hb, _⟩ := h
  exact hb
theorem LiveG.ltX (h : LiveG W w b L X) : ∀ x, X x → x < w.heap.size := fun x hx => by
  obtain ⟨S, _, _, _, hX⟩ := h
  exact (hX x hx).2
theorem LiveG.sub {X' : Nat → Prop} (h : LiveG W w b L X) (hs : ∀ x, X' x → X x) : LiveG W w b L X' := by
  obtain ⟨S, hd, hS, hb, hX⟩ := h
  exact ⟨S, hd, hS, hb, fun x hx => hX x (hs x hx)⟩
/-- what is new is kept apart too -/
theorem LiveG.mono (h : LiveG W w b L X) (f : Below w.heap.size w w') : LiveG W w' b L (Up X w w') := by
  obtain ⟨S, hd, hS, hb, hX⟩ := h
  refine ⟨S, hd.below f, hS, hb.trans (f.mono hb.size), fun x hx => ?_⟩
  rcases hx with hx | hx
  · exact ⟨(hX x hx).1, Nat.lt_of_lt_of_le (hX x hx).2 f.size⟩
  · refine ⟨fun hs => ?_, hx.2⟩
    obtain ⟨_, H, A, c, ps, hl⟩ := hd
    have := hl.lt x hs
    have := hx.1
    omega
theorem LiveG.mono' (h : LiveG W w b L X) (f : Below w.heap.size w w') : LiveG W w' b L X := (h.mono f).sub fun _ hx => .inl hx
theorem LiveG.turned {S : Nat → Prop} (hS : ∀ x, S x → W.heap.size ≤ x) (hb : Below W.heap.size W w) (hX : ∀ x, X x → ¬ S x ∧ x < w.heap.size) {L' : Lg} (hi : IsLog (Up S w w') w' (.pointer (some ⟨b, 0, none⟩)) L') (hf : Fr S w w') : LiveG W w' b L' X ∧ XK X w w' ∧ BK w w' := by
  obtain ⟨b', e, h⟩ := hi
  injection e with e
  injection e with e
  injection e with e
  subst e
  exact ⟨⟨_, h, fun x hx => hx.elim (hS x) (fun h => Nat.le_trans hb.size h.1), ⟨hf.os.trans hb.os, hf.tape.trans hb.tape, hf.output.trans hb.output, Nat.le_trans hb.size hf.size,
    fun k hk => (hf.out k (Nat.lt_of_lt_of_le hk hb.size) fun hh => by have := hS k hh; omega).trans (hb.block k hk)⟩, fun x hx => ⟨fun hs => hs.elim (hX x hx).1 (fun q => by have := (hX x hx).2; have := q.1; omega), Nat.lt_of_lt_of_le (hX x hx).2 hf.size⟩⟩, fun x hx => hf.out x (hX x hx).2 (hX x hx).1, hf.byt⟩
end

/-- WHAT a change of a live log leaves -/
def LiveGDid (W w : World) (b : Nat) (X : Nat → Prop) (r : Lg × Int) (e : Ending) (w' : World) : Prop := e = .returned (.int .i64 r.2) ∧ LiveG W w' b r.1 X ∧ XK X w w' ∧ BK w w'
def LiveGApp (W w : World) (b : Nat) (X : Nat → Prop) (r : Lg × Nat × Int) (e : Ending) (w' : World) : Prop := e = .returned (.tuple #[.int .i64 (r.2.1 : Int), .int .i64 r.2.2]) ∧ LiveG W w' b r.1 X ∧ XK X w w' ∧ BK w w'

section
variable {W w : World} {b : Nat} {L : Lg} {X : Nat → Prop}
theorem append_G (h : LiveG W w b L X) (hh : HalfAt W) (hlen : L.len ≤ 4611686018427387904) (B : Option Addr) (rec : List UInt8) (cb : Nat) (hr : Arg W w B rec) (hrl : rec.length ≤ 70368744177664) :
    Calls Tryd.prog 35 #[.pointer (some ⟨b, 0, none⟩), .slice B rec.length cb] w (LiveGApp W w b X (L.append rec)) := by
  obtain ⟨S, ⟨hu, H, A, c, ps, h⟩, hS, hb, hX⟩ := h
  exact (appendL h hu (hh.below hb hh.lt) hlen B rec cb (hr S hS) hrl).mono fun e w' ⟨h1, h2, h3⟩ => ⟨h1, LiveG.turned hS hb hX h2 h3⟩
theorem sync_G (h : LiveG W w b L X) : Calls Tryd.prog 46 #[.pointer (some ⟨b, 0, none⟩)] w (LiveGDid W w b X L.sync) := by
  obtain ⟨S, ⟨hu, H, A, c, ps, h⟩, hS, hb, hX⟩ := h
  exact (syncL h hu).mono fun e w' ⟨h1, h2, h3⟩ => ⟨h1, LiveG.turned hS hb hX h2 h3⟩
theorem drop_G (h : LiveG W w b L X) (n : Int) : Calls Tryd.prog 47 #[.pointer (some ⟨b, 0, none⟩), .int .i64 n] w (LiveGDid W w b X (L.drop n)) := by
  obtain ⟨S, ⟨hu, H, A, c, ps, h⟩, hS, hb, hX⟩ := h
  exact (dropL h hu n).mono fun e w' ⟨h1, h2, h3⟩ => ⟨h1, LiveG.turned hS hb hX h2 h3⟩
theorem crash_G (h : LiveG W w b L X) (keep flip : Int) (h1 : keep ≤ 9223372036854775807) (h2 : flip ≤ 9223372036854775807) (h3 : -9223372036854775808 ≤ keep) (h4 : -9223372036854775808 ≤ flip) :
    Calls Tryd.prog 43 #[.pointer (some ⟨b, 0, none⟩), .int .i64 keep, .int .i64 flip] w (LiveGDid W w b X (L.crash keep flip)) := by
  obtain ⟨S, ⟨hu, H, A, c, ps, h⟩, hS, hb, hX⟩ := h
  exact (crashL h hu keep flip h1 h2 h3 h4).mono fun e w' ⟨h1, h2, h3⟩ => ⟨h1, LiveG.turned hS hb hX h2 h3⟩
theorem restart_G (h : LiveG W w b L X) (hh : HalfAt W) : Calls Tryd.prog 44 #[.pointer (some ⟨b, 0, none⟩)] w (LiveGDid W w b X L.restart) := by
  obtain ⟨S, ⟨hu, H, A, c, ps, h⟩, hS, hb, hX⟩ := h
  exact (restartL h hu (hh.below hb hh.lt) (fun hx => by have := hS _ hx; have := hh.lt; omega)).mono fun e w' ⟨h1, h2, h3⟩ => ⟨h1, LiveG.turned hS hb hX h2 h3⟩
def LiveGTold (W w : World) (b : Nat) (L : Lg) (X : Nat → Prop) (v : Value) (e : Ending) (w' : World) : Prop := e = .returned v ∧ LiveG W w' b L X ∧ Below w.heap.size w w'
theorem len_G (h : LiveG W w b L X) : Calls Tryd.prog 37 #[.pointer (some ⟨b, 0, none⟩)] w (LiveGTold W w b L X (.int .i64 (L.len : Int))) := by
  obtain ⟨S, ⟨hu, H, A, c, ps, hl⟩, -⟩ := id h
  exact (lenL hl).mono fun e w' ⟨h1, h2⟩ => ⟨h1, h.mono' h2, h2⟩
theorem base_G (h : LiveG W w b L X) : Calls Tryd.prog 39 #[.pointer (some ⟨b, 0, none⟩)] w (LiveGTold W w b L X (.int .i64 (L.base : Int))) := by
  obtain ⟨S, ⟨hu, H, A, c, ps, hl⟩, -⟩ := id h
  exact (baseL hl).mono fun e w' ⟨h1, h2⟩ => ⟨h1, h.mono' h2, h2⟩
theorem safe_G (h : LiveG W w b L X) : Calls Tryd.prog 38 #[.pointer (some ⟨b, 0, none⟩)] w (LiveGTold W w b L X (.int .i64 (L.safe : Int))) := by
  obtain ⟨S, ⟨hu, H, A, c, ps, hl⟩, -⟩ := id h
  exact (safeL hl).mono fun e w' ⟨h1, h2⟩ => ⟨h1, h.mono' h2, h2⟩
theorem down_G (h : LiveG W w b L X) : Calls Tryd.prog 48 #[.pointer (some ⟨b, 0, none⟩)] w fun e w' => e = .returned (.bool L.down) ∧ w = w' := by
  obtain ⟨S, ⟨hu, H, A, c, ps, hl⟩, -⟩ := h
  exact downL hl
/-- how many disks Segments tells -/
def SegsLen (W w : World) (b : Nat) (L : Lg) (X : Nat → Prop) (e : Ending) (w' : World) : Prop := ∃ A c, e = .returned (.slice A L.segs.length c) ∧ LiveG W w' b L X ∧ Below w.heap.size w w'
theorem segments_G (h : LiveG W w b L X) : Calls Tryd.prog 36 #[.pointer (some ⟨b, 0, none⟩)] w (SegsLen W w b L X) := by
  obtain ⟨S, ⟨hu, H, A, c, ps, hl⟩, -⟩ := id h
  refine (segmentsL hl).mono ?_
  rintro e w' ⟨v, vals, Ro, rfl, hr, hd, hb⟩
  obtain ⟨A', c', rfl, -⟩ := hr.val
  exact ⟨A', c', by rw [hd.1], h.mono' hb, hb⟩
theorem new_G (hb : Below W.heap.size W w) (per : Int) (h1 : 1 ≤ per) (h2 : per ≤ 1024) : Calls Tryd.prog 34 #[.int .i64 per] w fun e w' => ∃ b, e = .returned (.tuple #[.pointer (some ⟨b, 0, none⟩), .int .i64 0]) ∧ LiveG W w' b (Lg.new per.toNat) (fun x => x < w.heap.size) ∧ Below w.heap.size w w' := by
  refine (newL w per).mono ?_
  rintro e w' h
  rw [if_pos ⟨h1, h2⟩] at h
  obtain ⟨p, rfl, ⟨b, rfl, hl⟩, hb'⟩ := h
  exact ⟨b, rfl, ⟨_, hl, fun x hx => Nat.le_trans hb.size hx.1, hb.trans (hb'.mono hb.size), fun x hx => ⟨fun hs => by have := hs.1; omega, Nat.lt_of_lt_of_le hx hb'.size⟩⟩, hb'⟩
end
end Go.Proofs.YtediidajdpdeiaaDoor

/- The document's log: all bytes of a disk; the walk (layer 7). -/
namespace Go.Proofs.YtediidajdpdeiaaDoor
open Go.RowKit CrcM
set_option maxRecDepth 100000

theorem oper_appB {P : Program} {w : World} {o : Oper} {a : Act} {K : Act → World → Prop} {Q : Exit → Act → World → Prop} (s x : Operand) (t : TypeId)
    (ho : o.op = .call { callee := .builtin .append, args := #[s, x], argTypes := #[t, t] })
    (i : TypeInfo) (ht : P.underlying t = some (.slice TB)) (hi : P.info? TB = some i) (hz : i.zero = some (.int .u8 0)) (hsize : i.size = 1) (hby : i.bytes = 1)
    (base : Nat) (v : Value) (n : Nat) (xs : List UInt8) (hs : a.eval s = v) (hown : w.ownsRow base TB 1 v n (xs.map byteV))
    (S : Nat → Prop) (A : Option Addr) (m c : Nat) (l : List UInt8) (hx : a.eval x = .slice A m c) (hl : l.length = m) (hr : Rd S w A l)
    (hbytes : n + m ≤ 140737488355328) (hbase : base ≤ w.heap.size)
    (h : ∀ v' w', w'.ownsRow base TB 1 v' (n + m) ((xs ++ l).map byteV) → w.grownBy w' v.ownBlock → K (a.put o.dst v') w') : o.wp P a w K Q := by
  obtain ⟨v', w', hrun, h2, h3, _⟩ := run_append_rd (P := P) (w := w) base t o.type TB i (.int .u8 0) 1 1 ht hi hz hsize hby rfl (by omega) v n (xs.map byteV) hown A m c (l.map byteV) (by simp [hl])
    (fun j u hu => by
      rw [List.getElem?_map] at hu
      cases hj : l[j]? with
      | none => rw [hj] at hu; cases hu
      | some y =>
        rw [hj] at hu
        obtain ⟨ad, e, hc, _⟩ := hr j y hj
        injection hu with hu
        exact ⟨ad, e, by rw [← hu]; exact hc⟩) byteV_one (by simp only [maxLen]; omega) (by omega) hbase
  rw [← List.map_append] at h2
  have hr2 := run_builtin2 .append s x t t Builtin.append_ ho hs hx (fun _ _ => rfl) hrun
  unfold Oper.wp
  rw [hr2]
  exact h v' w' h2 h3

theorem refAll_B {S : Nat → Prop} {w : World} {b : Nat} {A1 A2 : Option Addr} {c1 c2 : Nat} {R : Rk} (h : RefAt S w b A1 c1 A2 c2 R) (hsm : R.kept.length + R.rest.length ≤ 4194304) :
    Calls Tryd.prog 102 #[.pointer (some ⟨b, 0, none⟩)] w (Cloned w R.all) := by
  obtain ⟨i, hi, hz, hs, hby⟩ := info_parts info_u8
  obtain ⟨kept, rest, dn⟩ := R
  obtain ⟨d0, d1, d2, z0, z1, z2, hb, hc1, hc2, hok⟩ := h.facts
  have r1 := h.own1
  have r2 := h.own2
  simp only at r1 r2 hsm
  obtain ⟨m, hm⟩ : ∃ m, kept.length = m := ⟨_, rfl⟩
  obtain ⟨n, hn⟩ : ∃ n, rest.length = n := ⟨_, rfl⟩
  have HM := Lib.hid hm
  have HN := Lib.hid hn
  rw [hm] at d0 hsm hc1
  rw [hn] at d1 hsm hc2
  clear hm hn
  go_enter Tryd.func102, Tryd.ntmps102
  go_wp2
  refine wp_region_T #[[], [], [], [], [], [4], [], [], [], [], [4, 9], [4, 9]] [4, 9] (fun w' => w'.cell? ⟨b, 0, none⟩ = some (.slice A1 m c1) ∧ w'.cell? ⟨b, 1, none⟩ = some (.slice A2 n c2)) 12 rfl (by kernel_rfl) ?_
  (refine wpAnyT_free (i := 1) rfl (by kernel_rfl) rfl (fun _ _ _ h => h) (by kernel_rfl) (fun _ => by go_simp; try rfl) ?_; (try simp only [Act.put, List.setIfInBounds_toArray, List.set_cons_zero, List.set_cons_succ]))
  (refine wpAnyT_free (i := 2) rfl (by kernel_rfl) rfl (fun _ _ _ h => h) (by kernel_rfl) (fun _ => by go_simp; try rfl) ?_; (try simp only [Act.put, List.setIfInBounds_toArray, List.set_cons_zero, List.set_cons_succ]))
  (refine wpAnyT_free (i := 3) rfl (by kernel_rfl) rfl (fun _ _ _ h => h) (by kernel_rfl) (fun _ => by go_simp; try rfl) ?_; (try simp only [Act.put, List.setIfInBounds_toArray, List.set_cons_zero, List.set_cons_succ]))
  (refine wpAnyT_read (i := 4) rfl (by kernel_rfl) rfl (fun _ _ _ h => h) (by kernel_rfl) (⟨d0, d1⟩) (fun w hS_ => by obtain ⟨s_1, s_2⟩ := hS_; go_simp; try rfl) ?_; (try simp only [Act.put, List.setIfInBounds_toArray, List.set_cons_zero, List.set_cons_succ]))
  (refine wpAnyT_free (i := 6) rfl (by kernel_rfl) rfl (fun _ _ _ h => h) (by kernel_rfl) (fun _ => by go_simp; try rfl) ?_; (try simp only [Act.put, List.setIfInBounds_toArray, List.set_cons_zero, List.set_cons_succ]))
  (refine wpAnyT_free (i := 7) rfl (by kernel_rfl) rfl (fun _ _ _ h => h) (by kernel_rfl) (fun _ => by go_simp; try rfl) ?_; (try simp only [Act.put, List.setIfInBounds_toArray, List.set_cons_zero, List.set_cons_succ]))
  (refine wpAnyT_free (i := 8) rfl (by kernel_rfl) rfl (fun _ _ _ h => h) (by kernel_rfl) (fun _ => by go_simp; try rfl) ?_; (try simp only [Act.put, List.setIfInBounds_toArray, List.set_cons_zero, List.set_cons_succ]))
  (refine wpAnyT_read (i := 9) rfl (by kernel_rfl) rfl (fun _ _ _ h => h) (by kernel_rfl) (⟨d0, d1⟩) (fun w hS_ => by obtain ⟨s_1, s_2⟩ := hS_; go_simp; try rfl) ?_; (try simp only [Act.put, List.setIfInBounds_toArray, List.set_cons_zero, List.set_cons_succ]))
  refine wpAnyT_one (i := 0) rfl (by kernel_rfl) rfl ?_
  intro K_ hK_
  go_wp2
  refine hK_ _ _ ?_ ?_
  · exact fun _ _ => ⟨((below_new w _).cell (p := ⟨b, 0, none⟩) (cell_lt d0)).trans d0, ((below_new w _).cell (p := ⟨b, 1, none⟩) (cell_lt d1)).trans d1⟩
  clear hK_ K_
  (try simp only [Act.put, List.setIfInBounds_toArray, List.set_cons_zero, List.set_cons_succ])
  refine wpAnyT_one (i := 5) rfl (by kernel_rfl) rfl ?_
  intro K_ hK_
  refine oper_appB (.tmp 3) (.tmp 7) 22 rfl i Tryd.underlying22 hi hz hs hby w.heap.size (.slice (some ⟨w.heap.size, 0, none⟩) 0 0) 0 [] rfl (ownsB_none w) Non A1 m c1 kept rfl HM.out ((r1.rd Non).fr (Fr.of_below (below_new w _).drew)) (by omega) (by simp) ?_; intro v1 w1 ho1 hg1; rw [Nat.zero_add, List.nil_append] at ho1; obtain ⟨A3, c3, rfl, hc3, hm3⟩ := own_val ho1; have hb1 : Below w.heap.size w w1 := ((below_new w (.cells #[] TB)).drew).grown hg1 (by simp) (fun j hj => by injection hj with hj; subst hj; exact Nat.le_refl _)
  refine hK_ _ _ ?_ ?_
  · exact fun _ _ => ⟨(hb1.cell (p := ⟨b, 0, none⟩) (cell_lt d0)).trans d0, (hb1.cell (p := ⟨b, 1, none⟩) (cell_lt d1)).trans d1⟩
  clear hK_ K_
  (try simp only [Act.put, List.setIfInBounds_toArray, List.set_cons_zero, List.set_cons_succ])
  refine wpAnyT_sink (i := 10) rfl (by kernel_rfl) rfl (by kernel_rfl) ?_
  intro K_ hK_
  refine oper_appB (.tmp 8) (.tmp 12) 22 rfl i Tryd.underlying22 hi hz hs hby w.heap.size (.slice A3 m c3) m kept rfl ho1 Non A2 n c2 rest rfl HN.out ((r2.rd Non).fr (Fr.of_below hb1)) (by omega) hb1.size ?_; intro v2 w2 ho2 hg2; obtain ⟨A4, c4, rfl, hc4, hm4⟩ := own_val ho2; have hb2 : Below w.heap.size w w2 := hb1.grown hg2 hb1.size (fun j hj => (ho1.lt j hj).1)
  (try (refine hK_ _ _ ?_; clear hK_ K_))
  (try simp only [Act.put, List.setIfInBounds_toArray, List.set_cons_zero, List.set_cons_succ])
  (refine wpAnyT_free (i := 11) rfl (by kernel_rfl) rfl (fun _ _ _ h => h) (by kernel_rfl) (fun _ => by go_simp; try rfl) ?_; (try simp only [Act.put, List.setIfInBounds_toArray, List.set_cons_zero, List.set_cons_succ]))
  refine wpAnyT_done (by kernel_rfl) ?_ _
  go_wp2
  go_ret
  have e : m + n = (kept ++ rest).length := by rw [List.length_append, HM.out, HN.out]
  rw [e] at ho2 hc4 ⊢
  exact ⟨A4, c4, rfl, ho2, hc4, hm4, hb2⟩
end Go.Proofs.YtediidajdpdeiaaDoor

/- A disk and the document's disk side by side, in plain words. -/
namespace Go.Proofs.YtediidajdpdeiaaDoor
open Go.RowKit

/-- the document's disk of a disk -/
def Dk.ref (D : Dk) : Rk := ⟨D.all.take D.kept, D.all.drop D.kept, D.down⟩
theorem ref_new : Dk.new.ref = Rk.new := rfl
theorem ref_append {D : Dk} (h : D.ok) (l : List UInt8) : (D.append l).1.ref = (D.ref.append l).1 ∧ (D.append l).2 = (D.ref.append l).2 := by
  obtain ⟨dn, all, kept⟩ := D
  obtain ⟨h1, h2⟩ := h
  simp only at h1 h2
  cases dn
  · have e : (all.take kept).length + (all.drop kept).length + l.length = all.length + l.length := by rw [List.length_take, List.length_drop]; omega
    by_cases hf : 4194304 < all.length + l.length
    · have hf' : 4194304 < (all.take kept).length + (all.drop kept).length + l.length := by omega
      have eD : Dk.append ⟨false, all, kept⟩ l = (⟨false, all, kept⟩, 7) := by simp [Dk.append, hf]
      have eR : Rk.append ⟨all.take kept, all.drop kept, false⟩ l = (⟨all.take kept, all.drop kept, false⟩, 7) := by unfold Rk.append; rw [if_neg (by simp), if_pos hf']
      show (Dk.append ⟨false, all, kept⟩ l).1.ref = (Rk.append ⟨all.take kept, all.drop kept, false⟩ l).1 ∧ _ = (Rk.append ⟨all.take kept, all.drop kept, false⟩ l).2
      rw [eD, eR]
      exact ⟨rfl, rfl⟩
    · have hf' : ¬ 4194304 < (all.take kept).length + (all.drop kept).length + l.length := by omega
      have e1 : kept - all.length = 0 := by omega
      have eD : Dk.append ⟨false, all, kept⟩ l = (⟨false, all ++ l, kept⟩, 0) := by simp [Dk.append, hf]
      have eR : Rk.append ⟨all.take kept, all.drop kept, false⟩ l = (⟨all.take kept, all.drop kept ++ l, false⟩, 0) := by unfold Rk.append; rw [if_neg (by simp), if_neg hf']
      show (Dk.append ⟨false, all, kept⟩ l).1.ref = (Rk.append ⟨all.take kept, all.drop kept, false⟩ l).1 ∧ _ = (Rk.append ⟨all.take kept, all.drop kept, false⟩ l).2
      rw [eD, eR]
      refine ⟨?_, rfl⟩
      simp [Dk.ref, List.take_append, List.drop_append, e1]
  · simp [Dk.append, Dk.ref, Rk.append]
theorem ref_sync {D : Dk} : D.sync.1.ref = D.ref.sync.1 ∧ D.sync.2 = D.ref.sync.2 := by
  obtain ⟨dn, all, kept⟩ := D
  cases dn <;> simp [Dk.sync, Dk.ref, Rk.sync]
theorem ref_cut {D : Dk} (n : Int) : (D.cut n).1.ref = (D.ref.cut n).1 ∧ (D.cut n).2 = (D.ref.cut n).2 := by
  obtain ⟨dn, all, kept⟩ := D
  cases dn
  · by_cases h : n < 0 ∨ (all.length : Int) < n
    · simp [Dk.cut, Dk.ref, Rk.cut, h]
    · simp [Dk.cut, Dk.ref, Rk.cut, h, List.take_take]
  · simp [Dk.cut, Dk.ref, Rk.cut]
theorem ref_swap {D : Dk} (l : List UInt8) : (D.swap l).1.ref = (D.ref.swap l).1 ∧ (D.swap l).2 = (D.ref.swap l).2 := by
  obtain ⟨dn, all, kept⟩ := D
  cases dn
  · by_cases h : 4194304 < l.length <;> simp [Dk.swap, Dk.ref, Rk.swap, h]
  · simp [Dk.swap, Dk.ref, Rk.swap]
theorem ref_crash {D : Dk} (h : D.ok) (k f : Int) : (D.crash k f).1.ref = (D.ref.crash k f).1 ∧ (D.crash k f).2 = (D.ref.crash k f).2 := by
  obtain ⟨dn, all, kept⟩ := D
  obtain ⟨h1, h2⟩ := h
  simp only at h1 h2
  cases dn
  · by_cases hk : k < 0
    · simp [Dk.crash, Dk.ref, Rk.crash, hk]
    · have e : (all.take kept).length = kept := by rw [List.length_take]; omega
      simp only [Dk.crash, Dk.ref, Rk.crash, hk]
      simp [List.take_left' e, List.drop_left' e]
  · simp [Dk.crash, Dk.ref, Rk.crash]
theorem ref_restart {D : Dk} : D.restart.1.ref = D.ref.restart.1 ∧ D.restart.2 = D.ref.restart.2 := by
  obtain ⟨dn, all, kept⟩ := D
  cases dn <;> simp [Dk.restart, Dk.ref, Rk.restart]
theorem ref_read {D : Dk} : D.read = D.ref.read := by
  obtain ⟨dn, all, kept⟩ := D
  cases dn <;> simp [Dk.read, Dk.ref, Rk.read]

end Go.Proofs.YtediidajdpdeiaaDoor

/- A log and the document's log side by side (layer 7), in plain words. -/
namespace Go.Proofs.YtediidajdpdeiaaDoor
open CrcM

def Lg.ref (L : Lg) : Rg := ⟨L.per, L.segs.map (fun g => g.d.ref), L.down⟩

theorem parse_segB {base : Nat} {recs : List (List UInt8)} (hb : base ≤ 4611686018427387904) (h : ∀ r ∈ recs, r.length ≤ 65536) : parseM (segB base recs) = ((base : Int), recs, (segB base recs).length) := by
  have hbod : ∀ b ∈ numB base :: recs, b.length ≤ 65536 := by
    intro b hb'
    rcases List.mem_cons.1 hb' with rfl | hb'
    · have := numB_10 (n := base) (by omega); omega
    · exact h b hb'
  obtain ⟨m, s', hm, hfo, hall, hj⟩ := framesOf_near hbod (Near.refl _)
  have hme : m = (numB base :: recs).length := Nat.le_antisymm hm (hj _ (Nat.le_refl _) (by rw [List.take_length]; exact List.prefix_refl _))
  have hrn : readNum (numB base) = .ok (base, (numB base).length) := by
    have := readNum_numB base hb []
    rw [List.append_nil] at this
    exact this
  rw [hme, List.take_length] at hfo
  unfold parseM segB
  rw [hfo]
  simp only [hrn, if_true]
theorem parse_nil : parseM [] = (-1, [], 0) := by
  have : framesOf [] = ([], 0) := by
    have hn : next [] ((0 : Nat) : Int) = .error 4 := next_end []
    unfold framesOf
    rw [framesF, hn]
  unfold parseM
  rw [this]
theorem ref_all (D : Dk) : D.ref.all = D.all := List.take_append_drop _ _

theorem Sg.inv.parse {per n : Nat} {g : Sg} (h : g.inv per n) (hd : g.d.down = false) (hn : n ≤ 4611686018427387904) : parseM g.d.all = ((g.base : Int), g.recs, g.d.all.length) := by
  rw [h.inv0.full hd]
  exact parse_segB (by have := h.inv0.top; omega) (fun r hr => by have := h.inv0.short r hr; omega)
theorem Sg.inv.parseKept {per n : Nat} {g : Sg} (h : g.inv per n) (hn : n ≤ 4611686018427387904) : (parseM g.d.ref.kept).2.1 = g.recs.take g.safe := by
  show (parseM (g.d.all.take g.d.kept)).2.1 = _
  rcases h.inv0.kept with ⟨h1, h2⟩ | ⟨h1, h2⟩
  · have e : g.d.all.take g.d.kept = segB g.base (g.recs.take g.safe) := by
      rw [h1]
      exact (List.prefix_iff_eq_take.1 h2).symm
    rw [e, parse_segB (by have := h.inv0.top; omega) (fun r hr => by have := h.inv0.short r (List.mem_of_mem_take hr); omega)]
  · rw [h1, h2, List.take_zero, List.take_zero, parse_nil]
end Go.Proofs.YtediidajdpdeiaaDoor

/- The document's log (layer 7): what it tells; the walks. -/
namespace Go.Proofs.YtediidajdpdeiaaDoor
open Go.RowKit CrcM
set_option maxRecDepth 100000

/-- what is read of a disk of a log that is up -/
theorem parse_up {w : World} {g : Sg} {per n : Nat} (hi : g.inv per n) (hn : n ≤ 4611686018427387904) (hd : g.d.down = false) {A : Option Addr} {c : Nat} (hc : g.d.ref.all.length ≤ c) (hl : g.d.ref.all.length ≤ 4194304) (hO : Rd Non w A g.d.ref.all) :
    Calls Tryd.prog 101 #[.slice A g.d.ref.all.length c] w (ParseDid w ((g.base : Int), g.recs, g.d.all.length)) := by
  have := parse_B w A g.d.ref.all c hO hc (by omega)
  rw [ref_all, hi.parse hd hn] at this
  rw [ref_all]
  exact this

section
variable {S H : Nat → Prop} {w : World} {b : Nat} {A : Option Addr} {c : Nat} {ps : List Nat} {L : Lg} {n : Nat}
theorem refBase_B (h : RlogO S H w b A c ps L.ref) (hinv : L.inv n) (hn : n ≤ 1048576) : Calls Tryd.prog 53 #[.pointer (some ⟨b, 0, none⟩)] w (Told w (.int .i64 (L.base : Int))) := by
  have hdn := hinv.down
  have hsg := hinv.segs
  obtain ⟨per, gs, dn⟩ := L
  obtain ⟨c0, c1, c2, z1, z2, q1, q2, q3, q4⟩ := h.facts
  cases dn
  · cases gs with
    | nil =>
      obtain rfl := List.eq_nil_of_length_eq_zero q1
      go_enter Tryd.func53, Tryd.ntmps53
      go_wp2
      go_ret
      exact ⟨rfl, Below.refl _ _⟩
    | cons g gs =>
      have hgi := hsg g (List.mem_cons_self ..)
      have hgd := hdn g (List.mem_cons_self ..)
      simp only at hgi hgd
      have hpl : 0 < ps.length := by rw [q1]; simp
      obtain ⟨p, hp⟩ : ∃ p, ps[0]? = some p := ⟨_, List.getElem?_eq_getElem hpl⟩
      obtain ⟨ga, oa, rfl, ca⟩ := h.ptrAt hp
      obtain ⟨Sd, A1, c1', A2, c2', href, hSd, -⟩ := h.disk (k := 0) hp (R := g.d.ref) rfl
      have hsm := h.small g.d.ref (List.mem_cons_self ..)
      have hal := refAll_B href hsm
      have hl4 : g.d.all.length ≤ 4194304 := by rw [← ref_all, Rk.all, List.length_append]; exact hsm
      have k1 : ((ps.length : Int) == 0) = false := by rw [beq_eq_false_iff_ne]; omega
      have k2 : (0 : Int) < (ps.length : Int) := by omega
      have ca' : w.cell? ⟨ga, oa, none⟩ = some (.pointer (some ⟨p, 0, none⟩)) := ca
      clear q1 hp href ca
      go_enter Tryd.func53, Tryd.ntmps53
      go_wp2_with (first
        | (go_at_call 102; refine hal.mono ?_; rintro e w1 ⟨A3, c3, rfl, ho3, hc3, hm3, hb3⟩; have hO3 := (Own.of_row' ho3).mono (S' := fun _ => True) (fun _ _ => trivial); have hpa := parse_up hgi (by omega) hgd hc3 (by rw [ref_all]; exact hl4) ((Own.of_row' ho3).rd Non); clear hal)
        | (go_at_call 101; refine hpa.mono ?_; rintro e w2 ⟨R, cr, vals, rfl, -, -, hb4⟩; clear hpa))
      go_ret
      exact ⟨rfl, hb3.trans (hb4.mono hb3.size)⟩
  · go_enter Tryd.func53, Tryd.ntmps53
    go_wp2
    go_ret
    exact ⟨rfl, Below.refl _ _⟩
end
end Go.Proofs.YtediidajdpdeiaaDoor

/- The document's log (layer 7): Len, Safe; the walks. -/
namespace Go.Proofs.YtediidajdpdeiaaDoor
open Go.RowKit CrcM
set_option maxRecDepth 100000

/-- what is read of what a disk keeps -/
theorem parse_kept {w : World} {g : Sg} {per n : Nat} (hi : g.inv per n) (hn : n ≤ 4611686018427387904) {A : Option Addr} {c : Nat} (hr : Rd Non w A g.d.ref.kept) (hc : g.d.ref.kept.length ≤ c) (hl : g.d.ref.kept.length ≤ 4194304) :
    Calls Tryd.prog 101 #[.slice A g.d.ref.kept.length c] w (fun e w' => ∃ (x y : Int) (R : Option Addr) (cr : Nat), e = .returned (.tuple #[.int .i64 x, .slice R g.safe cr, .int .i64 y]) ∧ Below w.heap.size w w') := by
  refine (parse_B w A g.d.ref.kept c hr hc (by omega)).mono ?_
  rintro e w' ⟨R, cr, vals, rfl, -, -, hb⟩
  have := hi.inv0.safe
  rw [hi.parseKept hn, List.length_take, Nat.min_eq_left this]
  exact ⟨_, _, R, cr, rfl, hb⟩
section
variable {S H : Nat → Prop} {w : World} {b : Nat} {A : Option Addr} {c : Nat} {ps : List Nat} {L : Lg} {n : Nat}
theorem refLen_B (h : RlogO S H w b A c ps L.ref) (hinv : L.inv n) (hn : n ≤ 1048576) : Calls Tryd.prog 54 #[.pointer (some ⟨b, 0, none⟩)] w (Told w (.int .i64 (L.len : Int))) := by
  have hdn := hinv.down
  have hsg := hinv.segs
  obtain ⟨per, gs, dn⟩ := L
  obtain ⟨c0, c1, c2, z1, z2, q1, q2, q3, q4⟩ := h.facts
  cases dn
  · cases hgl : gs.getLast? with
    | none =>
      obtain rfl := List.getLast?_eq_none_iff.1 hgl
      obtain rfl := List.eq_nil_of_length_eq_zero q1
      go_enter Tryd.func54, Tryd.ntmps54
      go_wp2
      go_ret
      exact ⟨rfl, Below.refl _ _⟩
    | some g =>
      have hm := List.mem_of_getLast? hgl
      have hgi := hsg g hm
      have hgd := hdn g hm
      simp only at hgi hgd
      have hlen : Lg.len ⟨per, gs, false⟩ = g.base + g.recs.length := by simp [Lg.len, hgl]
      have hgtop := hgi.inv0.top
      rw [List.getLast?_eq_getElem?] at hgl
      have hlt := (List.getElem?_eq_some_iff.1 hgl).1
      have hpl : ps.length = gs.length := by rw [q1]; simp
      rw [← hpl] at hgl
      obtain ⟨p, hp⟩ : ∃ p, ps[ps.length - 1]? = some p := ⟨_, List.getElem?_eq_getElem (by omega)⟩
      have hpos : 0 < ps.length := by omega
      obtain ⟨ga, oa, rfl, ca⟩ := h.ptrAt hp
      obtain ⟨Sd, A1, c1', A2, c2', href, hSd, -⟩ := h.disk hp (R := g.d.ref) (by rw [List.getElem?_map, hgl]; rfl)
      have hsm := h.small g.d.ref (List.mem_map.2 ⟨g, hm, rfl⟩)
      have hal := refAll_B (href.fr (Fr.refl Non w).drew (fun _ _ h => h.elim)) hsm
      have hl4 : g.d.all.length ≤ 4194304 := by rw [← ref_all, Rk.all, List.length_append]; exact hsm
      have k1 : ((ps.length : Int) == 0) = false := by rw [beq_eq_false_iff_ne]; omega
      have k2 : IntKind.i64.wrap ((ps.length : Int) - 1) = (ps.length : Int) - 1 := by rw [IntKind.wrap_i64]; omega
      have k3 : ((ps.length : Int) - 1).toNat = ps.length - 1 := by omega
      have k4 : (0 : Int) ≤ (ps.length : Int) - 1 := by omega
      have k5 : 1 ≤ (ps.length : Int) := by omega
      have k6 : (ps.length : Int) - 1 < (ps.length : Int) := by omega
      have k7 : IntKind.i64.wrap ((g.base : Int) + (g.recs.length : Int)) = ((g.base + g.recs.length : Nat) : Int) := by rw [IntKind.wrap_i64]; omega
      rw [hlen]
      clear q1 hp href hpl hgl hlt hlen
      go_enter Tryd.func54, Tryd.ntmps54
      go_wp2
      refine wp_region_T #[[], [], [], [], [], [], [], [], [7], [7], [3, 7], [3, 7], [3, 7, 11], [3, 7, 11], [3, 7, 11], [3, 7, 11], [3, 7, 11], [3, 7, 11], [3, 7, 11], [3, 7, 11], [3, 7, 11]] [3, 7, 11] (fun w' => w'.cell? ⟨b, 1, none⟩ = some (.slice (some ⟨ga, oa, none⟩) ps.length c) ∧ w'.cell? ⟨ga, oa + (ps.length - 1), none⟩ = some (.pointer (some ⟨p, 0, none⟩))) 21 rfl (by kernel_rfl) ?_
      (refine wpAnyT_free (i := 0) rfl (by kernel_rfl) rfl (fun _ _ _ h => h) (by kernel_rfl) (fun _ => by go_simp; try rfl) ?_; (try simp only [Act.put, List.setIfInBounds_toArray, List.set_cons_zero, List.set_cons_succ]))
      (refine wpAnyT_free (i := 1) rfl (by kernel_rfl) rfl (fun _ _ _ h => h) (by kernel_rfl) (fun _ => by go_simp; try rfl) ?_; (try simp only [Act.put, List.setIfInBounds_toArray, List.set_cons_zero, List.set_cons_succ]))
      (refine wpAnyT_free (i := 2) rfl (by kernel_rfl) rfl (fun _ _ _ h => h) (by kernel_rfl) (fun _ => by go_simp; try rfl) ?_; (try simp only [Act.put, List.setIfInBounds_toArray, List.set_cons_zero, List.set_cons_succ]))
      (refine wpAnyT_read (i := 3) rfl (by kernel_rfl) rfl (fun _ _ _ h => h) (by kernel_rfl) (⟨c1, ca⟩) (fun w hS_ => by obtain ⟨s_1, s_2⟩ := hS_; go_simp; try rfl) ?_; (try simp only [Act.put, List.setIfInBounds_toArray, List.set_cons_zero, List.set_cons_succ]))
      (refine wpAnyT_free (i := 4) rfl (by kernel_rfl) rfl (fun _ _ _ h => h) (by kernel_rfl) (fun _ => by go_simp; try rfl) ?_; (try simp only [Act.put, List.setIfInBounds_toArray, List.set_cons_zero, List.set_cons_succ]))
      (refine wpAnyT_free (i := 5) rfl (by kernel_rfl) rfl (fun _ _ _ h => h) (by kernel_rfl) (fun _ => by go_simp; try rfl) ?_; (try simp only [Act.put, List.setIfInBounds_toArray, List.set_cons_zero, List.set_cons_succ]))
      (refine wpAnyT_free (i := 6) rfl (by kernel_rfl) rfl (fun _ _ _ h => h) (by kernel_rfl) (fun _ => by go_simp; try rfl) ?_; (try simp only [Act.put, List.setIfInBounds_toArray, List.set_cons_zero, List.set_cons_succ]))
      (refine wpAnyT_read (i := 7) rfl (by kernel_rfl) rfl (fun _ _ _ h => h) (by kernel_rfl) (⟨c1, ca⟩) (fun w hS_ => by obtain ⟨s_1, s_2⟩ := hS_; go_simp; try rfl) ?_; (try simp only [Act.put, List.setIfInBounds_toArray, List.set_cons_zero, List.set_cons_succ]))
      (refine wpAnyT_free (i := 8) rfl (by kernel_rfl) rfl (fun _ _ _ h => h) (by kernel_rfl) (fun _ => by go_simp; try rfl) ?_; (try simp only [Act.put, List.setIfInBounds_toArray, List.set_cons_zero, List.set_cons_succ]))
      (refine wpAnyT_free (i := 9) rfl (by kernel_rfl) rfl (fun _ _ _ h => h) (by kernel_rfl) (fun _ => by go_simp; try rfl) ?_; (try simp only [Act.put, List.setIfInBounds_toArray, List.set_cons_zero, List.set_cons_succ]))
      (refine wpAnyT_free (i := 10) rfl (by kernel_rfl) rfl (fun _ _ _ h => h) (by kernel_rfl) (fun _ => by go_simp; try rfl) ?_; (try simp only [Act.put, List.setIfInBounds_toArray, List.set_cons_zero, List.set_cons_succ]))
      (refine wpAnyT_read (i := 11) rfl (by kernel_rfl) rfl (fun _ _ _ h => h) (by kernel_rfl) (⟨c1, ca⟩) (fun w hS_ => by obtain ⟨s_1, s_2⟩ := hS_; go_simp; try rfl) ?_; (try simp only [Act.put, List.setIfInBounds_toArray, List.set_cons_zero, List.set_cons_succ]))
      refine wpAnyT_sink (i := 12) rfl (by kernel_rfl) rfl (by kernel_rfl) ?_
      intro K_ hK_
      go_wp2_with ((go_at_call 102; refine hal.mono ?_; rintro e w1 ⟨A3, c3, rfl, ho3, hc3, hm3, hb3⟩; have hO3 := (Own.of_row' ho3).mono (S' := fun _ => True) (fun _ _ => trivial); have hpa := parse_up hgi (by omega) hgd hc3 (by rw [ref_all]; exact hl4) ((Own.of_row' ho3).rd Non); clear hal))
      (try (refine hK_ _ _ ?_; clear hK_ K_))
      (try simp only [Act.put, List.setIfInBounds_toArray, List.set_cons_zero, List.set_cons_succ])
      refine wpAnyT_sink (i := 13) rfl (by kernel_rfl) rfl (by kernel_rfl) ?_
      intro K_ hK_
      go_wp2_with ((go_at_call 101; refine hpa.mono ?_; rintro e w2 ⟨R, cr, vals, rfl, -, -, hb4⟩; clear hpa))
      (try (refine hK_ _ _ ?_; clear hK_ K_))
      (try simp only [Act.put, List.setIfInBounds_toArray, List.set_cons_zero, List.set_cons_succ])
      (refine wpAnyT_free (i := 14) rfl (by kernel_rfl) rfl (fun _ _ _ h => h) (by kernel_rfl) (fun _ => by go_simp; try rfl) ?_; (try simp only [Act.put, List.setIfInBounds_toArray, List.set_cons_zero, List.set_cons_succ]))
      (refine wpAnyT_free (i := 15) rfl (by kernel_rfl) rfl (fun _ _ _ h => h) (by kernel_rfl) (fun _ => by go_simp; try rfl) ?_; (try simp only [Act.put, List.setIfInBounds_toArray, List.set_cons_zero, List.set_cons_succ]))
      (refine wpAnyT_free (i := 16) rfl (by kernel_rfl) rfl (fun _ _ _ h => h) (by kernel_rfl) (fun _ => by go_simp; try rfl) ?_; (try simp only [Act.put, List.setIfInBounds_toArray, List.set_cons_zero, List.set_cons_succ]))
      (refine wpAnyT_free (i := 17) rfl (by kernel_rfl) rfl (fun _ _ _ h => h) (by kernel_rfl) (fun _ => by go_simp; try rfl) ?_; (try simp only [Act.put, List.setIfInBounds_toArray, List.set_cons_zero, List.set_cons_succ]))
      (refine wpAnyT_free (i := 18) rfl (by kernel_rfl) rfl (fun _ _ _ h => h) (by kernel_rfl) (fun _ => by go_simp; try rfl) ?_; (try simp only [Act.put, List.setIfInBounds_toArray, List.set_cons_zero, List.set_cons_succ]))
      (refine wpAnyT_free (i := 19) rfl (by kernel_rfl) rfl (fun _ _ _ h => h) (by kernel_rfl) (fun _ => by go_simp; try rfl) ?_; (try simp only [Act.put, List.setIfInBounds_toArray, List.set_cons_zero, List.set_cons_succ]))
      (refine wpAnyT_free (i := 20) rfl (by kernel_rfl) rfl (fun _ _ _ h => h) (by kernel_rfl) (fun _ => by go_simp; try rfl) ?_; (try simp only [Act.put, List.setIfInBounds_toArray, List.set_cons_zero, List.set_cons_succ]))
      refine wpAnyT_done (by kernel_rfl) ?_ _
      go_wp2
      go_ret
      have hbz := hb3.trans (hb4.mono hb3.size)
      exact ⟨rfl, hbz.os, hbz.tape, hbz.output, hbz.size, hbz.block⟩
  · go_enter Tryd.func54, Tryd.ntmps54
    go_wp2
    go_ret
    exact ⟨rfl, Below.refl _ _⟩

theorem refSafe_B (h : RlogO S H w b A c ps L.ref) (hinv : L.inv n) (hn : n ≤ 1048576) : Calls Tryd.prog 55 #[.pointer (some ⟨b, 0, none⟩)] w (Told w (.int .i64 (L.safe : Int))) := by
  have hbs := refBase_B h hinv hn
  have hdn := hinv.down
  have hsg := hinv.segs
  obtain ⟨per, gs, dn⟩ := L
  cases dn
  · have hsf : Lg.safe ⟨per, gs, false⟩ = safeS gs (Lg.base ⟨per, gs, false⟩) := rfl
    have hb7 : Lg.base ⟨per, gs, false⟩ ≤ 1048576 := by
      unfold Lg.base
      simp only [Bool.false_eq_true, if_false]
      cases gs with
      | nil => exact Nat.zero_le _
      | cons g gs => have := (hsg g (List.mem_cons_self ..)).inv0.top; simp only [List.head?_cons]; omega
    rw [hsf]
    generalize Lg.base ⟨per, gs, false⟩ = bs at hbs hb7 ⊢
    have hpl : ps.length = gs.length := by have := h.disks.len; rw [this]; simp [Lg.ref]
    have hpl4 : ps.length ≤ 256 := h.facts.2.2.2.2.2.2.1
    have HPL := Lib.hid hpl
    clear hpl hsf
    simp only at hdn hsg
    go_enter Tryd.func55, Tryd.ntmps55
    go_wp2_with (go_at_call 53; refine hbs.mono ?_; rintro e w1 ⟨rfl, hb1⟩)
    go_loopw [3, 4] (fun nv iv wr => ∃ (k m : Nat), nv = .int .i64 (m : Int) ∧ iv = .int .i64 (k : Int) ∧ k ≤ ps.length ∧ Below w.heap.size w wr ∧ safeS (gs.drop k) m = safeS gs bs) (fun _ iv _ => ps.length - (intOf iv).toNat)
    case atStart => exact ⟨0, bs, rfl, rfl, Nat.zero_le _, hb1, rfl⟩
    case round =>
      obtain ⟨k, m, rfl, rfl, hkl, hb, hs⟩ := hrel
      have hr := h.below hb
      obtain ⟨c0, c1, c2, z1, z2, q1, q2, q3, q4⟩ := hr.facts
      clear q1
      by_cases hlt : k < ps.length
      · obtain ⟨g, hg⟩ : ∃ g, gs[k]? = some g := ⟨_, List.getElem?_eq_getElem (by rw [← HPL.out]; exact hlt)⟩
        obtain ⟨p, hp⟩ : ∃ p, ps[k]? = some p := ⟨_, List.getElem?_eq_getElem hlt⟩
        have hm := List.mem_of_getElem? hg
        have hgi := hsg g hm
        have hgd := hdn g hm
        have hgtop := hgi.inv0.top
        have hgsf := hgi.inv0.safe
        obtain ⟨ga, oa, rfl, ca⟩ := hr.ptrAt hp
        obtain ⟨Sd, A1, c1', A2, c2', href, hSd, -⟩ := hr.disk hp (R := g.d.ref) (by show (gs.map (fun g => g.d.ref))[k]? = _; rw [List.getElem?_map, hg]; rfl)
        have hsm := hr.small g.d.ref (List.mem_map.2 ⟨g, hm, rfl⟩)
        have hal := refAll_B href hsm
        have hl5 : g.d.ref.all.length ≤ 4194304 := by rw [Rk.all, List.length_append]; exact hsm
        have d0 : wr.cell? ⟨p, 0, none⟩ = some (.slice A1 g.d.ref.kept.length c1') := href.blk.cell 0 rfl
        have hcc1 := href.cap1
        have hown := href.own1
        have e : gs.drop k = g :: gs.drop (k + 1) := by
          rw [List.drop_eq_getElem_cons (by rw [← HPL.out]; exact hlt)]
          rw [List.getElem?_eq_getElem (by rw [← HPL.out]; exact hlt)] at hg
          injection hg with hg
          rw [hg]
        rw [e, safeS] at hs
        have k2 : (k : Int) < (ps.length : Int) := by omega
        have k7 : IntKind.i64.wrap ((g.base : Int) + (g.safe : Int)) = ((g.base + g.safe : Nat) : Int) := by rw [IntKind.wrap_i64]; omega
        have k8 : IntKind.i64.wrap ((k : Int) + 1) = ((k + 1 : Nat) : Int) := by rw [IntKind.wrap_i64]; omega
        clear href hp hg hm e
        by_cases hsl : g.safe < g.recs.length
        · rw [if_pos hsl] at hs
          have k9 : (g.safe : Int) < (g.recs.length : Int) := by omega
          go_wp2_with (first
            | (go_at_call 102; refine hal.mono ?_; rintro e w2 ⟨A3, c3, rfl, ho3, hc3, hm3, hb3⟩; have hpa := parse_up hgi (by omega) hgd hc3 hl5 ((Own.of_row' ho3).rd _); clear hal)
            | (go_at_call 101; refine hpa.mono ?_; rintro e w3 ⟨R, cr, vals, rfl, -, -, hb4⟩; clear hpa; have hb5 := hb3.trans (hb4.mono hb3.size); have d0' := (hb5.cell (p := ⟨p, 0, none⟩) (cell_lt d0)).trans d0; have c1'' := (hb5.cell (p := ⟨b, 1, none⟩) (cell_lt c1)).trans c1; have ca'' := (hb5.cell (p := ⟨ga, oa + k, none⟩) (cell_lt ca)).trans ca; have hpk := parse_kept hgi (by omega) ((hown.rd Non).fr (Fr.of_below hb5)) hcc1 (by omega))
            | (go_at_call 101; refine hpk.mono ?_; rintro e w4 ⟨x4, y4, R4, cr4, rfl, hb6⟩; clear hpk))
          go_ret
          exact ⟨by rw [← hs]; rfl, hb.trans ((hb5.trans (hb6.mono hb5.size)).mono hb.size)⟩
        · rw [if_neg hsl] at hs
          have k9 : ¬ (g.safe : Int) < (g.recs.length : Int) := by omega
          go_wp2_with (first
            | (go_at_call 102; refine hal.mono ?_; rintro e w2 ⟨A3, c3, rfl, ho3, hc3, hm3, hb3⟩; have hpa := parse_up hgi (by omega) hgd hc3 hl5 ((Own.of_row' ho3).rd _); clear hal)
            | (go_at_call 101; refine hpa.mono ?_; rintro e w3 ⟨R, cr, vals, rfl, -, -, hb4⟩; clear hpa; have hb5 := hb3.trans (hb4.mono hb3.size); have d0' := (hb5.cell (p := ⟨p, 0, none⟩) (cell_lt d0)).trans d0; have c1'' := (hb5.cell (p := ⟨b, 1, none⟩) (cell_lt c1)).trans c1; have ca'' := (hb5.cell (p := ⟨ga, oa + k, none⟩) (cell_lt ca)).trans ca; have hpk := parse_kept hgi (by omega) ((hown.rd Non).fr (Fr.of_below hb5)) hcc1 (by omega))
            | (go_at_call 101; refine hpk.mono ?_; rintro e w4 ⟨x4, y4, R4, cr4, rfl, hb6⟩; clear hpk))
          go_roundw
          case rel => exact ⟨k + 1, g.base + g.safe, rfl, rfl, hlt, hb.trans ((hb5.trans (hb6.mono hb5.size)).mono hb.size), hs⟩
          case measure => simp [intOf]; omega
      · have e : gs.drop k = [] := List.drop_eq_nil_iff.2 (by rw [← HPL.out]; omega)
        rw [e, safeS] at hs
        have k2 : ¬ (k : Int) < (ps.length : Int) := by omega
        go_wp2
        go_ret
        exact ⟨by rw [← hs]; rfl, hb⟩
  · have hb0 : Lg.base ⟨per, gs, true⟩ = 0 := rfl
    have hs0 : Lg.safe ⟨per, gs, true⟩ = 0 := rfl
    rw [hb0] at hbs
    rw [hs0]
    go_enter Tryd.func55, Tryd.ntmps55
    go_wp2_with (go_at_call 53; refine hbs.mono ?_; rintro e w1 ⟨rfl, hb1⟩; obtain ⟨c0, c1, c2, z1, z2, q1, q2, q3, q4⟩ := (h.below hb1).facts; clear q1)
    go_loopw [3, 4] (fun nv iv wr => nv = .int .i64 ((0 : Nat) : Int) ∧ iv = .int .i64 0 ∧ wr = w1) (fun _ iv _ => 0)
    case atStart => exact ⟨rfl, rfl, rfl⟩
    case round =>
      obtain ⟨rfl, rfl, rfl⟩ := hrel
      by_cases hz : (0 : Int) < (ps.length : Int)
      · go_wp2
        go_ret
        exact ⟨rfl, hb1⟩
      · go_wp2
        go_ret
        exact ⟨rfl, hb1⟩
end
end Go.Proofs.YtediidajdpdeiaaDoor

/- The document's log (layer 7): Records; the walk. -/
namespace Go.Proofs.YtediidajdpdeiaaDoor
open Go.RowKit CrcM
set_option maxRecDepth 100000

theorem own_below {w w' : World} {base n : Nat} {v : Value} {xs : List Value} {e : TypeId} {sz : Nat} (h : w.ownsRow base e sz v n xs) (hb : Below w.heap.size w w') : w'.ownsRow base e sz v n xs := by
  refine ⟨h.1, ?_⟩
  rcases h.2 with h2 | ⟨g, cap, cur, hv, hg0, hg, hr⟩
  · exact .inl h2
  · exact .inr ⟨g, cap, cur, hv, hg0, (hb.block g (Array.getElem?_eq_some_iff.1 hg).1).trans hg, hr⟩
theorem own_grown {w : World} {base n : Nat} {v : Value} {xs : List Value} {e : TypeId} {sz : Nat} (h : w.ownsRow base e sz v n xs) {g : Nat} (hg : v.ownBlock = some g) : base ≤ g := by
  rcases h.2 with ⟨rfl, -⟩ | ⟨g', cap, cur, rfl, hg0, -⟩
  · cases hg
  · injection hg with hg
    have hg : g' = g := hg
    omega
theorem own_notB {w : World} {base n : Nat} {v : Value} {xs : List Value} {e : TypeId} {sz : Nat} (h : w.ownsRow base e sz v n xs) (he : e ≠ TB) {g : Nat} (hg : v.ownBlock = some g) : ¬ IsB w g := by
  rintro ⟨cs, fz, hh⟩
  rcases h.2 with ⟨rfl, -⟩ | ⟨g', cap, cur, rfl, hg0, hg1, -⟩
  · cases hg
  · injection hg with hg
    have hg : g' = g := hg
    subst hg
    rw [hg1] at hh
    injection hh with hh
    injection hh with _ hh
    exact he hh
/-- append of a whole list to a row of one's own -/
theorem wpList_append_rd {P : Program} {w : World} {ops : Array Oper} {rest : List Oper} {o : Oper} {a : Act} {Q : Exit → Act → World → Prop} (hgd : o.guard = none) (s x : Operand) (t : TypeId)
    (ho : o.op = .call { callee := .builtin .append, args := #[s, x], argTypes := #[t, t] })
    (e : TypeId) (i : TypeInfo) (z : Value) (bytes : Nat) (ht : P.underlying t = some (.slice e)) (hi : P.info? e = some i) (hz : i.zero = some z) (hsize : i.size = 1) (hby : i.bytes = bytes) (hzs : z.cells.size = 1)
    (base : Nat) (v : Value) (n : Nat) (xs : List Value) (hs : a.eval s = v) (hown : w.ownsRow base e 1 v n xs)
    (S : Nat → Prop) (A : Option Addr) (m c : Nat) (news : List Value) (hx : a.eval x = .slice A m c) (hm : m = news.length) (hr : Row S w e (.slice A news.length c) news) (h1 : ∀ u ∈ news, u.oneCell' = true)
    (h63 : n + m ≤ maxLen) (hbytes : (n + m) * bytes ≤ 140737488355328) (hbase : base ≤ w.heap.size)
    (hk : ∀ v' w', w'.ownsRow base e 1 v' (n + m) (xs ++ news) → w.grownBy w' v.ownBlock → wpList P ops Q rest (a.put o.dst v') w') :
    wpList P ops Q (o :: rest) a w := by
  subst hm
  obtain ⟨v', w', hrun, h2, h3, h4⟩ := run_append_rd (P := P) (w := w) base t o.type e i z 1 bytes ht hi hz hsize hby hzs (by omega) v n xs hown A news.length c news (by simp)
    (fun j u hu => by
      obtain ⟨g, o', c', h1, h2, h3, h4, -⟩ := hr.cell hu
      injection h1 with h1
      exact ⟨_, h1, by rw [add_mk]; exact h4⟩) h1 h63 hbytes hbase
  exact wpList_ran hgd (run_builtin2 .append s x t t Builtin.append_ ho hs hx (fun _ _ => rfl) hrun) (hk v' w' h2 h3)
theorem Recs.app {w : World} {v1 v2 : List Value} {r1 r2 : List (List UInt8)} (h1 : Recs w v1 r1) (h2 : Recs w v2 r2) : Recs w (v1 ++ v2) (r1 ++ r2) := by
  refine ⟨by rw [List.length_append, List.length_append, h1.1, h2.1], fun i r hr => ?_⟩
  by_cases hi : i < r1.length
  · rw [List.getElem?_append_left hi] at hr
    rw [List.getElem?_append_left (by rw [h1.1]; exact hi)]
    exact h1.2 i r hr
  · rw [List.getElem?_append_right (by omega)] at hr
    rw [List.getElem?_append_right (by rw [h1.1]; omega), h1.1]
    exact h2.2 _ r hr
theorem Recs.one {w : World} {vals : List Value} {recs : List (List UInt8)} (h : Recs w vals recs) : ∀ u ∈ vals, u.oneCell' = true := by
  intro u hu
  obtain ⟨i, hi⟩ := List.mem_iff_getElem?.1 hu
  have hlt := (List.getElem?_eq_some_iff.1 hi).1
  obtain ⟨r, hr⟩ : ∃ r, recs[i]? = some r := ⟨_, List.getElem?_eq_getElem (by rw [← h.1]; exact hlt)⟩
  obtain ⟨A, c, h1, -⟩ := h.2 i r hr
  rw [hi] at h1
  injection h1 with h1
  rw [h1]
  rfl

/-- WHAT Records leaves -/
def RecsDid (w : World) (recs : List (List UInt8)) (e : Ending) (w' : World) : Prop :=
  ∃ R cr vals, e = .returned (.slice R recs.length cr) ∧ Row (fun x => w.heap.size ≤ x) w' TBs (.slice R recs.length cr) vals ∧ Recs w' vals recs ∧ Below w.heap.size w w'

section
variable {S H : Nat → Prop} {w : World} {b : Nat} {A : Option Addr} {c : Nat} {ps : List Nat} {L : Lg} {n : Nat}
theorem refRecords_B (h : RlogO S H w b A c ps L.ref) (hinv : L.inv n) (hn : n ≤ 1048576) : Calls Tryd.prog 52 #[.pointer (some ⟨b, 0, none⟩)] w (RecsDid w L.recs) := by
  obtain ⟨ib, hib, hzb, hsb, hbb⟩ := info_parts info_bs
  have hdn := hinv.down
  have hsg := hinv.segs
  have hper := hinv.per2
  obtain ⟨per, gs, dn⟩ := L
  cases dn
  · have hsf : Lg.recs ⟨per, gs, false⟩ = gs.flatMap (·.recs) := rfl
    rw [hsf]
    have hpl : ps.length = gs.length := by have := h.disks.len; rw [this]; simp [Lg.ref]
    have hpl4 : ps.length ≤ 256 := h.facts.2.2.2.2.2.2.1
    have HPL := Lib.hid hpl
    clear hpl hsf
    simp only at hdn hsg hper
    go_enter Tryd.func52, Tryd.ntmps52
    go_wp2
    go_loopw [3, 4] (fun ov iv wr => ∃ (k : Nat) (R : Option Addr) (m cr : Nat) (vals : List Value), ov = .slice R m cr ∧ iv = .int .i64 (k : Int) ∧ k ≤ ps.length ∧ Below w.heap.size w wr ∧ wr.ownsRow w.heap.size TBs 1 (.slice R m cr) m vals ∧ m ≤ k * 1024 ∧ Recs wr vals ((gs.take k).flatMap (·.recs))) (fun _ iv _ => ps.length - (intOf iv).toNat)
    case atStart => exact ⟨0, none, 0, 0, [], rfl, rfl, Nat.zero_le _, Below.refl _ _, World.ownsRow_nil _ _ _ _, by omega, Recs.nil _⟩
    case round =>
      obtain ⟨k, R, m, cr, vals, rfl, rfl, hkl, hb, hown, hmk, hrec⟩ := hrel
      have hr := h.below hb
      obtain ⟨c0, c1, c2, z1, z2, q1, q2, q3, q4⟩ := hr.facts
      clear q1
      by_cases hlt : k < ps.length
      · obtain ⟨g, hg⟩ : ∃ g, gs[k]? = some g := ⟨_, List.getElem?_eq_getElem (by rw [← HPL.out]; exact hlt)⟩
        obtain ⟨p, hp⟩ : ∃ p, ps[k]? = some p := ⟨_, List.getElem?_eq_getElem hlt⟩
        have hm := List.mem_of_getElem? hg
        have hgi := hsg g hm
        have hgd := hdn g hm
        have hfew := hgi.inv0.few
        obtain ⟨ga, oa, rfl, ca⟩ := hr.ptrAt hp
        obtain ⟨Sd, A1, c1', A2, c2', href, hSd, -⟩ := hr.disk hp (R := g.d.ref) (by show (gs.map (fun g => g.d.ref))[k]? = _; rw [List.getElem?_map, hg]; rfl)
        have hsm := hr.small g.d.ref (List.mem_map.2 ⟨g, hm, rfl⟩)
        have hal := refAll_B href hsm
        have hl5 : g.d.ref.all.length ≤ 4194304 := by rw [Rk.all, List.length_append]; exact hsm
        have e : (gs.take (k + 1)).flatMap (·.recs) = (gs.take k).flatMap (·.recs) ++ g.recs := by
          rw [List.take_add_one, hg, Option.toList_some, List.flatMap_append]
          simp
        have k2 : (k : Int) < (ps.length : Int) := by omega
        have k8 : IntKind.i64.wrap ((k : Int) + 1) = ((k + 1 : Nat) : Int) := by rw [IntKind.wrap_i64]; omega
        have m1 : m + g.recs.length ≤ (k + 1) * 1024 := by rw [Nat.succ_mul]; omega
        have m2 : m + g.recs.length ≤ maxLen := by unfold maxLen; omega
        have m3 : (m + g.recs.length) * 24 ≤ 140737488355328 := by omega
        have E := Lib.hid e
        clear href hp hg hm e
        go_wp2_with (first
          | (go_at_call 102; refine hal.mono ?_; rintro e w2 ⟨A3, c3, rfl, ho3, hc3, hm3, hb3⟩; have hpa := parse_up hgi (by omega) hgd hc3 hl5 ((Own.of_row' ho3).rd _); clear hal)
          | (go_at_call 101; refine hpa.mono ?_; rintro e w3 ⟨R3, cr3, vals3, rfl, hrow3, hrec3, hb4⟩; clear hpa; have hb5 := hb3.trans (hb4.mono hb3.size); have ho5 := own_below hown hb5; have hl3 := hrec3.1; simp only at hl3 hrow3; rw [← hl3] at hrow3)
          | (at_builtin; refine wpList_append_rd rfl (.tmp 37) (.tmp 38) 45 rfl TBs ib _ 24 Tryd.underlying45 hib hzb hsb hbb rfl w.heap.size (.slice R m cr) m vals rfl ho5 _ R3 g.recs.length cr3 vals3 rfl hl3.symm hrow3 hrec3.one m2 m3 (Nat.le_trans hb.size hb5.size) ?_; intro v6 w6 ho6 hg6; obtain ⟨A6, c6, rfl, hc6, hm6⟩ := own_val ho6))
        have hb6 : Below w.heap.size w w6 := (hb.trans (hb5.mono hb.size)).grown hg6 (Nat.le_trans hb.size hb5.size) (fun j hj => own_grown ho5 hj)
        have hf6 : Fr (fun x => Value.ownBlock (.slice R m cr) = some x) w3 w6 := ⟨hg6.os, hg6.tape, hg6.output, hg6.size, fun x hx hn => hg6.block x hx (fun e => hn e.symm), fun x hx => hg6.block x hx.lt (fun e => own_notB ho5 (by decide) e.symm hx)⟩
        go_roundw
        case rel => exact ⟨k + 1, A6, m + g.recs.length, c6, _, rfl, rfl, hlt, hb6, ho6, m1, by rw [E.out]; exact (((hrec.fr (S' := Non) (Fr.of_below hb5)).app hrec3).fr hf6)⟩
        case measure => simp [intOf]; omega
      · have k2 : ¬ (k : Int) < (ps.length : Int) := by omega
        go_wp2
        go_ret
        have e : gs.take k = gs := List.take_of_length_le (by rw [← HPL.out]; omega)
        rw [e] at hrec
        have hv : vals.length = m := by simpa using hown.1
        obtain rfl : m = (gs.flatMap (·.recs)).length := hv.symm.trans hrec.1
        exact ⟨R, cr, vals, rfl, Row.of_own hown (fun g hg => own_grown hown hg), hrec, hb⟩
  · go_enter Tryd.func52, Tryd.ntmps52
    obtain ⟨c0, c1, c2, z1, z2, q1, q2, q3, q4⟩ := h.facts
    clear q1
    go_wp2
    go_loopw [3, 4] (fun ov iv wr => ov = .slice none 0 0 ∧ iv = .int .i64 0 ∧ wr = w) (fun _ iv _ => 0)
    case atStart => exact ⟨rfl, rfl, rfl⟩
    case round =>
      obtain ⟨rfl, rfl, rfl⟩ := hrel
      by_cases hz : (0 : Int) < (ps.length : Int)
      · go_wp2
        go_ret
        exact ⟨none, 0, [], rfl, Row.nil _ _ _, Recs.nil _, Below.refl _ _⟩
      · go_wp2
        go_ret
        exact ⟨none, 0, [], rfl, Row.nil _ _ _, Recs.nil _, Below.refl _ _⟩
end
end Go.Proofs.YtediidajdpdeiaaDoor
