/- The document's log: all bytes of a disk; the walk (layer 7). -/
import Derived.Test.YtediidajdpdeiaaGreatDoorJ8
import Derived.Test.YtediidajdpdeiaaGreatDoorJ4
import Derived.Test.YtediidajdpdeiaaGreatDoorJ10
import Derived.Test.YtediidajdpdeiaaGreatDoorJ11

namespace Go.Proofs.YtediidajdpdeiaaGreatDoor
open Go.RowKit CrcM
set_option maxRecDepth 100000

theorem oper_appB {P : Program} {w : World} {o : Oper} {a : Act} {K : Act → World → Prop} {Q : Exit → Act → World → Prop} (s x : Operand) (t : TypeId)
    (ho : o.op = .call { callee := .builtin .append, args := #[s, x], argTypes := #[t, t] })
    (i : TypeInfo) (ht : P.underlying t = some (.slice TB)) (hi : P.info? TB = some i) (hz : i.zero = some (.int .u8 0)) (hsize : i.size = 1) (hby : i.bytes = 1)
    (base : Nat) (v : Value) (n : Nat) (xs : List UInt8) (hs : a.eval s = v) (hown : w.ownsRow base TB 1 v n (xs.map byteV))
    (S : Nat → Prop) (A : Option Addr) (m c : Nat) (l : List UInt8) (hx : a.eval x = .slice A m c) (hl : l.length = m) (hr : Rd S w A l)
    (hbytes : n + m ≤ 140737488355328) (hbase : base ≤ w.heap.size)
    (h : ∀ v' w', w'.ownsRow base TB 1 v' (n + m) ((xs ++ l).map byteV) → w.grownBy w' v.ownBlock → K (a.put o.dst v') w') : o.wp P a w K Q := by
  obtain ⟨v', w', hrun, h2, h3, _⟩ := run_append_rd (P := P) (w := w) base t o.type TB i (.int .u8 0) 1 1 ht hi hz hsize hby rfl (by omega) v n (xs.map byteV) hown A m c (l.map byteV) (by simp [hl])
    (fun j u hu => by
      rw [List.getElem?_map] at hu
      cases hj : l[j]? with
      | none => rw [hj] at hu; cases hu
      | some y =>
        rw [hj] at hu
        obtain ⟨ad, e, hc, _⟩ := hr j y hj
        injection hu with hu
        exact ⟨ad, e, by rw [← hu]; exact hc⟩) byteV_one (by simp only [maxLen]; omega) (by omega) hbase
  rw [← List.map_append] at h2
  have hr2 := run_builtin2 .append s x t t Builtin.append_ ho hs hx (fun _ _ => rfl) hrun
  unfold Oper.wp
  rw [hr2]
  exact h v' w' h2 h3

theorem refAll_B {S : Nat → Prop} {w : World} {b : Nat} {A1 A2 : Option Addr} {c1 c2 : Nat} {R : Rk} (h : RefAt S w b A1 c1 A2 c2 R) (hsm : R.kept.length + R.rest.length ≤ 4194304) :
    Calls Tryz.prog 80 #[.pointer (some ⟨b, 0, none⟩)] w (Cloned w R.all) := by
  obtain ⟨i, hi, hz, hs, hby⟩ := info_parts info_u8
  obtain ⟨kept, rest, dn⟩ := R
  obtain ⟨d0, d1, d2, z0, z1, z2, hb, hc1, hc2, hok⟩ := h.facts
  have r1 := h.own1
  have r2 := h.own2
  simp only at r1 r2 hsm
  obtain ⟨m, hm⟩ : ∃ m, kept.length = m := ⟨_, rfl⟩
  obtain ⟨n, hn⟩ : ∃ n, rest.length = n := ⟨_, rfl⟩
  have HM := Lib.hid hm
  have HN := Lib.hid hn
  rw [hm] at d0 hsm hc1
  rw [hn] at d1 hsm hc2
  clear hm hn
  go_enter Tryz.func80, Tryz.ntmps80
  go_wp2
  refine wp_region_T #[[], [], [], [], [], [4], [], [], [], [], [4, 9], [4, 9]] [4, 9] (fun w' => w'.cell? ⟨b, 0, none⟩ = some (.slice A1 m c1) ∧ w'.cell? ⟨b, 1, none⟩ = some (.slice A2 n c2)) 12 rfl (by kernel_rfl) ?_
  (refine wpF (i := 1) rfl (by kernel_rfl) rfl (fun _ _ _ h => h) (fun _ => by go_simp; try rfl) ?_; (try simp only [Act.put, sA, sB, sC]))
  (refine wpF (i := 2) rfl (by kernel_rfl) rfl (fun _ _ _ h => h) (fun _ => by go_simp; try rfl) ?_; (try simp only [Act.put, sA, sB, sC]))
  (refine wpF (i := 3) rfl (by kernel_rfl) rfl (fun _ _ _ h => h) (fun _ => by go_simp; try rfl) ?_; (try simp only [Act.put, sA, sB, sC]))
  (refine wpAnyT_read (i := 4) rfl (by kernel_rfl) rfl (fun _ _ _ h => h) (by kernel_rfl) (⟨d0, d1⟩) (fun w hS_ => by obtain ⟨s_1, s_2⟩ := hS_; go_simp; try rfl) ?_; (try simp only [Act.put, sA, sB, sC]))
  (refine wpF (i := 6) rfl (by kernel_rfl) rfl (fun _ _ _ h => h) (fun _ => by go_simp; try rfl) ?_; (try simp only [Act.put, sA, sB, sC]))
  (refine wpF (i := 7) rfl (by kernel_rfl) rfl (fun _ _ _ h => h) (fun _ => by go_simp; try rfl) ?_; (try simp only [Act.put, sA, sB, sC]))
  (refine wpF (i := 8) rfl (by kernel_rfl) rfl (fun _ _ _ h => h) (fun _ => by go_simp; try rfl) ?_; (try simp only [Act.put, sA, sB, sC]))
  (refine wpAnyT_read (i := 9) rfl (by kernel_rfl) rfl (fun _ _ _ h => h) (by kernel_rfl) (⟨d0, d1⟩) (fun w hS_ => by obtain ⟨s_1, s_2⟩ := hS_; go_simp; try rfl) ?_; (try simp only [Act.put, sA, sB, sC]))
  refine wpAnyT_one (i := 0) rfl (by kernel_rfl) rfl ?_
  intro K_ hK_
  go_wp2
  refine hK_ _ _ ?_ ?_
  · exact fun _ _ => ⟨((below_new w _).cell (p := ⟨b, 0, none⟩) (cell_lt d0)).trans d0, ((below_new w _).cell (p := ⟨b, 1, none⟩) (cell_lt d1)).trans d1⟩
  clear hK_ K_
  (try simp only [Act.put, sA, sB, sC])
  refine wpAnyT_one (i := 5) rfl (by kernel_rfl) rfl ?_
  intro K_ hK_
  refine oper_appB (.tmp 3) (.tmp 7) 30 rfl i Tryz.underlying30 hi hz hs hby w.heap.size (.slice (some ⟨w.heap.size, 0, none⟩) 0 0) 0 [] rfl (ownsB_none w) Non A1 m c1 kept rfl HM.out ((r1.rd Non).fr (Fr.of_below (below_new w _).drew)) (by omega) (by simp) ?_; intro v1 w1 ho1 hg1; rw [Nat.zero_add, List.nil_append] at ho1; obtain ⟨A3, c3, rfl, hc3, hm3⟩ := own_val ho1; have hb1 : Below w.heap.size w w1 := ((below_new w (.cells #[] TB)).drew).grown hg1 (by simp) (fun j hj => by injection hj with hj; subst hj; exact Nat.le_refl _)
  refine hK_ _ _ ?_ ?_
  · exact fun _ _ => ⟨(hb1.cell (p := ⟨b, 0, none⟩) (cell_lt d0)).trans d0, (hb1.cell (p := ⟨b, 1, none⟩) (cell_lt d1)).trans d1⟩
  clear hK_ K_
  (try simp only [Act.put, sA, sB, sC])
  refine wpAnyT_sink (i := 10) rfl (by kernel_rfl) rfl (by kernel_rfl) ?_
  intro K_ hK_
  refine oper_appB (.tmp 8) (.tmp 12) 30 rfl i Tryz.underlying30 hi hz hs hby w.heap.size (.slice A3 m c3) m kept rfl ho1 Non A2 n c2 rest rfl HN.out ((r2.rd Non).fr (Fr.of_below hb1)) (by omega) hb1.size ?_; intro v2 w2 ho2 hg2; obtain ⟨A4, c4, rfl, hc4, hm4⟩ := own_val ho2; have hb2 : Below w.heap.size w w2 := hb1.grown hg2 hb1.size (fun j hj => (ho1.lt j hj).1)
  (try (refine hK_ _ _ ?_; clear hK_ K_))
  (try simp only [Act.put, sA, sB, sC])
  (refine wpF (i := 11) rfl (by kernel_rfl) rfl (fun _ _ _ h => h) (fun _ => by go_simp; try rfl) ?_; (try simp only [Act.put, sA, sB, sC]))
  refine wpAnyT_done (by kernel_rfl) ?_ _
  go_wp2
  go_ret
  have e : m + n = (kept ++ rest).length := by rw [List.length_append, HM.out, HN.out]
  rw [e] at ho2 hc4 ⊢
  exact ⟨A4, c4, rfl, ho2, hc4, hm4, hb2⟩
end Go.Proofs.YtediidajdpdeiaaGreatDoor

/- A disk and the document's disk side by side, in plain words. -/
namespace Go.Proofs.YtediidajdpdeiaaGreatDoor
open Go.RowKit

/-- the document's disk of a disk -/
def Dk.ref (D : Dk) : Rk := ⟨D.all.take D.kept, D.all.drop D.kept, D.down⟩
theorem ref_append {D : Dk} (h : D.ok) (l : List UInt8) : (D.append l).1.ref = (D.ref.append l).1 ∧ (D.append l).2 = (D.ref.append l).2 := by
  obtain ⟨dn, all, kept⟩ := D
  obtain ⟨h1, h2⟩ := h
  simp only at h1 h2
  cases dn
  · have e : (all.take kept).length + (all.drop kept).length + l.length = all.length + l.length := by rw [List.length_take, List.length_drop]; omega
    by_cases hf : 4194304 < all.length + l.length
    · have hf' : 4194304 < (all.take kept).length + (all.drop kept).length + l.length := by omega
      have eD : Dk.append ⟨false, all, kept⟩ l = (⟨false, all, kept⟩, 7) := by simp [Dk.append, hf]
      have eR : Rk.append ⟨all.take kept, all.drop kept, false⟩ l = (⟨all.take kept, all.drop kept, false⟩, 7) := by unfold Rk.append; rw [if_neg (by simp), if_pos hf']
      show (Dk.append ⟨false, all, kept⟩ l).1.ref = (Rk.append ⟨all.take kept, all.drop kept, false⟩ l).1 ∧ _ = (Rk.append ⟨all.take kept, all.drop kept, false⟩ l).2
      rw [eD, eR]
      exact ⟨rfl, rfl⟩
    · have hf' : ¬ 4194304 < (all.take kept).length + (all.drop kept).length + l.length := by omega
      have e1 : kept - all.length = 0 := by omega
      have eD : Dk.append ⟨false, all, kept⟩ l = (⟨false, all ++ l, kept⟩, 0) := by simp [Dk.append, hf]
      have eR : Rk.append ⟨all.take kept, all.drop kept, false⟩ l = (⟨all.take kept, all.drop kept ++ l, false⟩, 0) := by unfold Rk.append; rw [if_neg (by simp), if_neg hf']
      show (Dk.append ⟨false, all, kept⟩ l).1.ref = (Rk.append ⟨all.take kept, all.drop kept, false⟩ l).1 ∧ _ = (Rk.append ⟨all.take kept, all.drop kept, false⟩ l).2
      rw [eD, eR]
      refine ⟨?_, rfl⟩
      simp [Dk.ref, List.take_append, List.drop_append, e1]
  · simp [Dk.append, Dk.ref, Rk.append]
theorem ref_sync {D : Dk} : D.sync.1.ref = D.ref.sync.1 ∧ D.sync.2 = D.ref.sync.2 := by
  obtain ⟨dn, all, kept⟩ := D
  cases dn <;> simp [Dk.sync, Dk.ref, Rk.sync]
theorem ref_cut {D : Dk} (n : Int) : (D.cut n).1.ref = (D.ref.cut n).1 ∧ (D.cut n).2 = (D.ref.cut n).2 := by
  obtain ⟨dn, all, kept⟩ := D
  cases dn
  · by_cases h : n < 0 ∨ (all.length : Int) < n
    · simp [Dk.cut, Dk.ref, Rk.cut, h]
    · simp [Dk.cut, Dk.ref, Rk.cut, h, List.take_take]
  · simp [Dk.cut, Dk.ref, Rk.cut]
theorem ref_crash {D : Dk} (h : D.ok) (k f : Int) : (D.crash k f).1.ref = (D.ref.crash k f).1 ∧ (D.crash k f).2 = (D.ref.crash k f).2 := by
  obtain ⟨dn, all, kept⟩ := D
  obtain ⟨h1, h2⟩ := h
  simp only at h1 h2
  cases dn
  · by_cases hk : k < 0
    · simp [Dk.crash, Dk.ref, Rk.crash, hk]
    · have e : (all.take kept).length = kept := by rw [List.length_take]; omega
      simp only [Dk.crash, Dk.ref, Rk.crash, hk]
      simp [List.take_left' e, List.drop_left' e]
  · simp [Dk.crash, Dk.ref, Rk.crash]
theorem ref_restart {D : Dk} : D.restart.1.ref = D.ref.restart.1 ∧ D.restart.2 = D.ref.restart.2 := by
  obtain ⟨dn, all, kept⟩ := D
  cases dn <;> simp [Dk.restart, Dk.ref, Rk.restart]
end Go.Proofs.YtediidajdpdeiaaGreatDoor

/- A log and the document's log side by side (layer 7), in plain words. -/
namespace Go.Proofs.YtediidajdpdeiaaGreatDoor
open CrcM

def Lg.ref (L : Lg) : Rg := ⟨L.per, L.segs.map (fun g => g.d.ref), L.down⟩

theorem parse_segB {base : Nat} {recs : List (List UInt8)} (hb : base ≤ 4611686018427387904) (h : ∀ r ∈ recs, r.length ≤ 65536) : parseM (segB base recs) = ((base : Int), recs, (segB base recs).length) := by
  have hbod : ∀ b ∈ numB base :: recs, b.length ≤ 65536 := by
    intro b hb'
    rcases List.mem_cons.1 hb' with rfl | hb'
    · have := numB_10 (n := base) (by omega); omega
    · exact h b hb'
  obtain ⟨m, s', hm, hfo, hall, hj⟩ := framesOf_near hbod (Near.refl _)
  have hme : m = (numB base :: recs).length := Nat.le_antisymm hm (hj _ (Nat.le_refl _) (by rw [List.take_length]; exact List.prefix_refl _))
  have hrn : readNum (numB base) = .ok (base, (numB base).length) := by
    have := readNum_numB base hb []
    rw [List.append_nil] at this
    exact this
  rw [hme, List.take_length] at hfo
  unfold parseM segB
  rw [hfo]
  simp only [hrn, if_true]
theorem ref_all (D : Dk) : D.ref.all = D.all := List.take_append_drop _ _

theorem Sg.inv.parse {per n : Nat} {g : Sg} (h : g.inv per n) (hd : g.d.down = false) (hn : n ≤ 4611686018427387904) : parseM g.d.all = ((g.base : Int), g.recs, g.d.all.length) := by
  rw [h.inv0.full hd]
  exact parse_segB (by have := h.inv0.top; omega) (fun r hr => by have := h.inv0.short r hr; omega)
end Go.Proofs.YtediidajdpdeiaaGreatDoor

/- The document's log (layer 7): what it tells; the walks. -/
namespace Go.Proofs.YtediidajdpdeiaaGreatDoor
open Go.RowKit CrcM
set_option maxRecDepth 100000

/-- what is read of a disk of a log that is up -/
theorem parse_up {w : World} {g : Sg} {per n : Nat} (hi : g.inv per n) (hn : n ≤ 4611686018427387904) (hd : g.d.down = false) {A : Option Addr} {c : Nat} (hc : g.d.ref.all.length ≤ c) (hl : g.d.ref.all.length ≤ 4194304) (hO : Rd Non w A g.d.ref.all) :
    Calls Tryz.prog 79 #[.slice A g.d.ref.all.length c] w (ParseDid w ((g.base : Int), g.recs, g.d.all.length)) := by
  have := parse_B w A g.d.ref.all c hO hc (by omega)
  rw [ref_all, hi.parse hd hn] at this
  rw [ref_all]
  exact this

section
variable {S H : Nat → Prop} {w : World} {b : Nat} {A : Option Addr} {c : Nat} {ps : List Nat} {L : Lg} {n : Nat}
end
end Go.Proofs.YtediidajdpdeiaaGreatDoor

/- The document's log (layer 7): Len, Safe; the walks. -/
namespace Go.Proofs.YtediidajdpdeiaaGreatDoor
open Go.RowKit CrcM
set_option maxRecDepth 100000

section
variable {S H : Nat → Prop} {w : World} {b : Nat} {A : Option Addr} {c : Nat} {ps : List Nat} {L : Lg} {n : Nat}
theorem refLen_B (h : RlogO S H w b A c ps L.ref) (hinv : L.inv n) (hn : n ≤ 1048576) : Calls Tryz.prog 23 #[.pointer (some ⟨b, 0, none⟩)] w (Told w (.int .i64 (L.len : Int))) := by
  have hdn := hinv.down
  have hsg := hinv.segs
  obtain ⟨per, gs, dn⟩ := L
  obtain ⟨c0, c1, c2, z1, z2, q1, q2, q3, q4⟩ := h.facts
  cases dn
  · cases hgl : gs.getLast? with
    | none =>
      obtain rfl := List.getLast?_eq_none_iff.1 hgl
      obtain rfl := List.eq_nil_of_length_eq_zero q1
      go_enter Tryz.func23, Tryz.ntmps23
      go_wp2
      go_ret
      exact ⟨rfl, Below.refl _ _⟩
    | some g =>
      have hm := List.mem_of_getLast? hgl
      have hgi := hsg g hm
      have hgd := hdn g hm
      simp only at hgi hgd
      have hlen : Lg.len ⟨per, gs, false⟩ = g.base + g.recs.length := by simp [Lg.len, hgl]
      have hgtop := hgi.inv0.top
      rw [List.getLast?_eq_getElem?] at hgl
      have hlt := (List.getElem?_eq_some_iff.1 hgl).1
      have hpl : ps.length = gs.length := by rw [q1]; simp
      rw [← hpl] at hgl
      obtain ⟨p, hp⟩ : ∃ p, ps[ps.length - 1]? = some p := ⟨_, List.getElem?_eq_getElem (by omega)⟩
      have hpos : 0 < ps.length := by omega
      obtain ⟨ga, oa, rfl, ca⟩ := h.ptrAt hp
      obtain ⟨Sd, A1, c1', A2, c2', href, hSd, -⟩ := h.disk hp (R := g.d.ref) (by rw [List.getElem?_map, hgl]; rfl)
      have hsm := h.small g.d.ref (List.mem_map.2 ⟨g, hm, rfl⟩)
      have hal := refAll_B (href.fr (Fr.refl Non w).drew (fun _ _ h => h.elim)) hsm
      have hl4 : g.d.all.length ≤ 4194304 := by rw [← ref_all, Rk.all, List.length_append]; exact hsm
      have k1 : ((ps.length : Int) == 0) = false := by rw [beq_eq_false_iff_ne]; omega
      have k2 : IntKind.i64.wrap ((ps.length : Int) - 1) = (ps.length : Int) - 1 := by rw [IntKind.wrap_i64]; omega
      have k3 : ((ps.length : Int) - 1).toNat = ps.length - 1 := by omega
      have k4 : (0 : Int) ≤ (ps.length : Int) - 1 := by omega
      have k5 : 1 ≤ (ps.length : Int) := by omega
      have k6 : (ps.length : Int) - 1 < (ps.length : Int) := by omega
      have k7 : IntKind.i64.wrap ((g.base : Int) + (g.recs.length : Int)) = ((g.base + g.recs.length : Nat) : Int) := by rw [IntKind.wrap_i64]; omega
      rw [hlen]
      clear q1 hp href hpl hgl hlt hlen
      go_enter Tryz.func23, Tryz.ntmps23
      go_wp2
      refine wp_region_T #[[], [], [], [], [], [], [], [], [7], [7], [3, 7], [3, 7], [3, 7, 11], [3, 7, 11], [3, 7, 11], [3, 7, 11], [3, 7, 11], [3, 7, 11], [3, 7, 11], [3, 7, 11], [3, 7, 11]] [3, 7, 11] (fun w' => w'.cell? ⟨b, 1, none⟩ = some (.slice (some ⟨ga, oa, none⟩) ps.length c) ∧ w'.cell? ⟨ga, oa + (ps.length - 1), none⟩ = some (.pointer (some ⟨p, 0, none⟩))) 21 rfl (by kernel_rfl) ?_
      (refine wpF (i := 0) rfl (by kernel_rfl) rfl (fun _ _ _ h => h) (fun _ => by go_simp; try rfl) ?_; (try simp only [Act.put, sA, sB, sC]))
      (refine wpF (i := 1) rfl (by kernel_rfl) rfl (fun _ _ _ h => h) (fun _ => by go_simp; try rfl) ?_; (try simp only [Act.put, sA, sB, sC]))
      (refine wpF (i := 2) rfl (by kernel_rfl) rfl (fun _ _ _ h => h) (fun _ => by go_simp; try rfl) ?_; (try simp only [Act.put, sA, sB, sC]))
      (refine wpAnyT_read (i := 3) rfl (by kernel_rfl) rfl (fun _ _ _ h => h) (by kernel_rfl) (⟨c1, ca⟩) (fun w hS_ => by obtain ⟨s_1, s_2⟩ := hS_; go_simp; try rfl) ?_; (try simp only [Act.put, sA, sB, sC]))
      (refine wpF (i := 4) rfl (by kernel_rfl) rfl (fun _ _ _ h => h) (fun _ => by go_simp; try rfl) ?_; (try simp only [Act.put, sA, sB, sC]))
      (refine wpF (i := 5) rfl (by kernel_rfl) rfl (fun _ _ _ h => h) (fun _ => by go_simp; try rfl) ?_; (try simp only [Act.put, sA, sB, sC]))
      (refine wpF (i := 6) rfl (by kernel_rfl) rfl (fun _ _ _ h => h) (fun _ => by go_simp; try rfl) ?_; (try simp only [Act.put, sA, sB, sC]))
      (refine wpAnyT_read (i := 7) rfl (by kernel_rfl) rfl (fun _ _ _ h => h) (by kernel_rfl) (⟨c1, ca⟩) (fun w hS_ => by obtain ⟨s_1, s_2⟩ := hS_; go_simp; try rfl) ?_; (try simp only [Act.put, sA, sB, sC]))
      (refine wpF (i := 8) rfl (by kernel_rfl) rfl (fun _ _ _ h => h) (fun _ => by go_simp; try rfl) ?_; (try simp only [Act.put, sA, sB, sC]))
      (refine wpF (i := 9) rfl (by kernel_rfl) rfl (fun _ _ _ h => h) (fun _ => by go_simp; try rfl) ?_; (try simp only [Act.put, sA, sB, sC]))
      (refine wpF (i := 10) rfl (by kernel_rfl) rfl (fun _ _ _ h => h) (fun _ => by go_simp; try rfl) ?_; (try simp only [Act.put, sA, sB, sC]))
      (refine wpAnyT_read (i := 11) rfl (by kernel_rfl) rfl (fun _ _ _ h => h) (by kernel_rfl) (⟨c1, ca⟩) (fun w hS_ => by obtain ⟨s_1, s_2⟩ := hS_; go_simp; try rfl) ?_; (try simp only [Act.put, sA, sB, sC]))
      refine wpAnyT_sink (i := 12) rfl (by kernel_rfl) rfl (by kernel_rfl) ?_
      intro K_ hK_
      go_wp2_with ((go_at_call 80; refine hal.mono ?_; rintro e w1 ⟨A3, c3, rfl, ho3, hc3, hm3, hb3⟩; have hO3 := (Own.of_row' ho3).mono (S' := fun _ => True) (fun _ _ => trivial); have hpa := parse_up hgi (by omega) hgd hc3 (by rw [ref_all]; exact hl4) ((Own.of_row' ho3).rd Non); clear hal))
      (try (refine hK_ _ _ ?_; clear hK_ K_))
      (try simp only [Act.put, sA, sB, sC])
      refine wpAnyT_sink (i := 13) rfl (by kernel_rfl) rfl (by kernel_rfl) ?_
      intro K_ hK_
      go_wp2_with ((go_at_call 79; refine hpa.mono ?_; rintro e w2 ⟨R, cr, vals, rfl, -, -, hb4⟩; clear hpa))
      (try (refine hK_ _ _ ?_; clear hK_ K_))
      (try simp only [Act.put, sA, sB, sC])
      (refine wpF (i := 14) rfl (by kernel_rfl) rfl (fun _ _ _ h => h) (fun _ => by go_simp; try rfl) ?_; (try simp only [Act.put, sA, sB, sC]))
      (refine wpF (i := 15) rfl (by kernel_rfl) rfl (fun _ _ _ h => h) (fun _ => by go_simp; try rfl) ?_; (try simp only [Act.put, sA, sB, sC]))
      (refine wpF (i := 16) rfl (by kernel_rfl) rfl (fun _ _ _ h => h) (fun _ => by go_simp; try rfl) ?_; (try simp only [Act.put, sA, sB, sC]))
      (refine wpF (i := 17) rfl (by kernel_rfl) rfl (fun _ _ _ h => h) (fun _ => by go_simp; try rfl) ?_; (try simp only [Act.put, sA, sB, sC]))
      (refine wpF (i := 18) rfl (by kernel_rfl) rfl (fun _ _ _ h => h) (fun _ => by go_simp; try rfl) ?_; (try simp only [Act.put, sA, sB, sC]))
      (refine wpF (i := 19) rfl (by kernel_rfl) rfl (fun _ _ _ h => h) (fun _ => by go_simp; try rfl) ?_; (try simp only [Act.put, sA, sB, sC]))
      (refine wpF (i := 20) rfl (by kernel_rfl) rfl (fun _ _ _ h => h) (fun _ => by go_simp; try rfl) ?_; (try simp only [Act.put, sA, sB, sC]))
      refine wpAnyT_done (by kernel_rfl) ?_ _
      go_wp2
      go_ret
      have hbz := hb3.trans (hb4.mono hb3.size)
      exact ⟨rfl, hbz.os, hbz.tape, hbz.output, hbz.size, hbz.block⟩
  · go_enter Tryz.func23, Tryz.ntmps23
    go_wp2
    go_ret
    exact ⟨rfl, Below.refl _ _⟩

end
end Go.Proofs.YtediidajdpdeiaaGreatDoor

/- The document's log (layer 7): Records; the walk. -/
namespace Go.Proofs.YtediidajdpdeiaaGreatDoor
open Go.RowKit CrcM
set_option maxRecDepth 100000

theorem own_below {w w' : World} {base n : Nat} {v : Value} {xs : List Value} {e : TypeId} {sz : Nat} (h : w.ownsRow base e sz v n xs) (hb : Below w.heap.size w w') : w'.ownsRow base e sz v n xs := by
  refine ⟨h.1, ?_⟩
  rcases h.2 with h2 | ⟨g, cap, cur, hv, hg0, hg, hr⟩
  · exact .inl h2
  · exact .inr ⟨g, cap, cur, hv, hg0, (hb.block g (Array.getElem?_eq_some_iff.1 hg).1).trans hg, hr⟩
theorem own_grown {w : World} {base n : Nat} {v : Value} {xs : List Value} {e : TypeId} {sz : Nat} (h : w.ownsRow base e sz v n xs) {g : Nat} (hg : v.ownBlock = some g) : base ≤ g := by
  rcases h.2 with ⟨rfl, -⟩ | ⟨g', cap, cur, rfl, hg0, -⟩
  · cases hg
  · injection hg with hg
    have hg : g' = g := hg
    omega
theorem own_notB {w : World} {base n : Nat} {v : Value} {xs : List Value} {e : TypeId} {sz : Nat} (h : w.ownsRow base e sz v n xs) (he : e ≠ TB) {g : Nat} (hg : v.ownBlock = some g) : ¬ IsB w g := by
  rintro ⟨cs, fz, hh⟩
  rcases h.2 with ⟨rfl, -⟩ | ⟨g', cap, cur, rfl, hg0, hg1, -⟩
  · cases hg
  · injection hg with hg
    have hg : g' = g := hg
    subst hg
    rw [hg1] at hh
    injection hh with hh
    injection hh with _ hh
    exact he hh
/-- append of a whole list to a row of one's own -/
theorem wpList_append_rd {P : Program} {w : World} {ops : Array Oper} {rest : List Oper} {o : Oper} {a : Act} {Q : Exit → Act → World → Prop} (hgd : o.guard = none) (s x : Operand) (t : TypeId)
    (ho : o.op = .call { callee := .builtin .append, args := #[s, x], argTypes := #[t, t] })
    (e : TypeId) (i : TypeInfo) (z : Value) (bytes : Nat) (ht : P.underlying t = some (.slice e)) (hi : P.info? e = some i) (hz : i.zero = some z) (hsize : i.size = 1) (hby : i.bytes = bytes) (hzs : z.cells.size = 1)
    (base : Nat) (v : Value) (n : Nat) (xs : List Value) (hs : a.eval s = v) (hown : w.ownsRow base e 1 v n xs)
    (S : Nat → Prop) (A : Option Addr) (m c : Nat) (news : List Value) (hx : a.eval x = .slice A m c) (hm : m = news.length) (hr : Row S w e (.slice A news.length c) news) (h1 : ∀ u ∈ news, u.oneCell' = true)
    (h63 : n + m ≤ maxLen) (hbytes : (n + m) * bytes ≤ 140737488355328) (hbase : base ≤ w.heap.size)
    (hk : ∀ v' w', w'.ownsRow base e 1 v' (n + m) (xs ++ news) → w.grownBy w' v.ownBlock → wpList P ops Q rest (a.put o.dst v') w') :
    wpList P ops Q (o :: rest) a w := by
  subst hm
  obtain ⟨v', w', hrun, h2, h3, h4⟩ := run_append_rd (P := P) (w := w) base t o.type e i z 1 bytes ht hi hz hsize hby hzs (by omega) v n xs hown A news.length c news (by simp)
    (fun j u hu => by
      obtain ⟨g, o', c', h1, h2, h3, h4, -⟩ := hr.cell hu
      injection h1 with h1
      exact ⟨_, h1, by rw [add_mk]; exact h4⟩) h1 h63 hbytes hbase
  exact wpList_ran hgd (run_builtin2 .append s x t t Builtin.append_ ho hs hx (fun _ _ => rfl) hrun) (hk v' w' h2 h3)
theorem Recs.app {w : World} {v1 v2 : List Value} {r1 r2 : List (List UInt8)} (h1 : Recs w v1 r1) (h2 : Recs w v2 r2) : Recs w (v1 ++ v2) (r1 ++ r2) := by
  refine ⟨by rw [List.length_append, List.length_append, h1.1, h2.1], fun i r hr => ?_⟩
  by_cases hi : i < r1.length
  · rw [List.getElem?_append_left hi] at hr
    rw [List.getElem?_append_left (by rw [h1.1]; exact hi)]
    exact h1.2 i r hr
  · rw [List.getElem?_append_right (by omega)] at hr
    rw [List.getElem?_append_right (by rw [h1.1]; omega), h1.1]
    exact h2.2 _ r hr
theorem Recs.one {w : World} {vals : List Value} {recs : List (List UInt8)} (h : Recs w vals recs) : ∀ u ∈ vals, u.oneCell' = true := by
  intro u hu
  obtain ⟨i, hi⟩ := List.mem_iff_getElem?.1 hu
  have hlt := (List.getElem?_eq_some_iff.1 hi).1
  obtain ⟨r, hr⟩ : ∃ r, recs[i]? = some r := ⟨_, List.getElem?_eq_getElem (by rw [← h.1]; exact hlt)⟩
  obtain ⟨A, c, h1, -⟩ := h.2 i r hr
  rw [hi] at h1
  injection h1 with h1
  rw [h1]
  rfl

/-- WHAT Records leaves -/
def RecsDid (w : World) (recs : List (List UInt8)) (e : Ending) (w' : World) : Prop :=
  ∃ R cr vals, e = .returned (.slice R recs.length cr) ∧ Row (fun x => w.heap.size ≤ x) w' TBs (.slice R recs.length cr) vals ∧ Recs w' vals recs ∧ Below w.heap.size w w'

section
variable {S H : Nat → Prop} {w : World} {b : Nat} {A : Option Addr} {c : Nat} {ps : List Nat} {L : Lg} {n : Nat}
theorem refRecords_B (h : RlogO S H w b A c ps L.ref) (hinv : L.inv n) (hn : n ≤ 1048576) : Calls Tryz.prog 135 #[.pointer (some ⟨b, 0, none⟩)] w (RecsDid w L.recs) := by
  obtain ⟨ib, hib, hzb, hsb, hbb⟩ := info_parts info_bs
  have hdn := hinv.down
  have hsg := hinv.segs
  have hper := hinv.per2
  obtain ⟨per, gs, dn⟩ := L
  cases dn
  · have hsf : Lg.recs ⟨per, gs, false⟩ = gs.flatMap (·.recs) := rfl
    rw [hsf]
    have hpl : ps.length = gs.length := by have := h.disks.len; rw [this]; simp [Lg.ref]
    have hpl4 : ps.length ≤ 256 := h.facts.2.2.2.2.2.2.1
    have HPL := Lib.hid hpl
    clear hpl hsf
    simp only at hdn hsg hper
    go_enter Tryz.func135, Tryz.ntmps135
    go_wp2
    go_loopw [3, 4] (fun ov iv wr => ∃ (k : Nat) (R : Option Addr) (m cr : Nat) (vals : List Value), ov = .slice R m cr ∧ iv = .int .i64 (k : Int) ∧ k ≤ ps.length ∧ Below w.heap.size w wr ∧ wr.ownsRow w.heap.size TBs 1 (.slice R m cr) m vals ∧ m ≤ k * 1024 ∧ Recs wr vals ((gs.take k).flatMap (·.recs))) (fun _ iv _ => ps.length - (intOf iv).toNat)
    case atStart => exact ⟨0, none, 0, 0, [], rfl, rfl, Nat.zero_le _, Below.refl _ _, World.ownsRow_nil _ _ _ _, by omega, Recs.nil _⟩
    case round =>
      obtain ⟨k, R, m, cr, vals, rfl, rfl, hkl, hb, hown, hmk, hrec⟩ := hrel
      have hr := h.below hb
      obtain ⟨c0, c1, c2, z1, z2, q1, q2, q3, q4⟩ := hr.facts
      clear q1
      by_cases hlt : k < ps.length
      · obtain ⟨g, hg⟩ : ∃ g, gs[k]? = some g := ⟨_, List.getElem?_eq_getElem (by rw [← HPL.out]; exact hlt)⟩
        obtain ⟨p, hp⟩ : ∃ p, ps[k]? = some p := ⟨_, List.getElem?_eq_getElem hlt⟩
        have hm := List.mem_of_getElem? hg
        have hgi := hsg g hm
        have hgd := hdn g hm
        have hfew := hgi.inv0.few
        obtain ⟨ga, oa, rfl, ca⟩ := hr.ptrAt hp
        obtain ⟨Sd, A1, c1', A2, c2', href, hSd, -⟩ := hr.disk hp (R := g.d.ref) (by show (gs.map (fun g => g.d.ref))[k]? = _; rw [List.getElem?_map, hg]; rfl)
        have hsm := hr.small g.d.ref (List.mem_map.2 ⟨g, hm, rfl⟩)
        have hal := refAll_B href hsm
        have hl5 : g.d.ref.all.length ≤ 4194304 := by rw [Rk.all, List.length_append]; exact hsm
        have e : (gs.take (k + 1)).flatMap (·.recs) = (gs.take k).flatMap (·.recs) ++ g.recs := by
          rw [List.take_add_one, hg, Option.toList_some, List.flatMap_append]
          simp
        have k2 : (k : Int) < (ps.length : Int) := by omega
        have k8 : IntKind.i64.wrap ((k : Int) + 1) = ((k + 1 : Nat) : Int) := by rw [IntKind.wrap_i64]; omega
        have m1 : m + g.recs.length ≤ (k + 1) * 1024 := by rw [Nat.succ_mul]; omega
        have m2 : m + g.recs.length ≤ maxLen := by unfold maxLen; omega
        have m3 : (m + g.recs.length) * 24 ≤ 140737488355328 := by omega
        have E := Lib.hid e
        clear href hp hg hm e
        go_wp2_with (first
          | (go_at_call 80; refine hal.mono ?_; rintro e w2 ⟨A3, c3, rfl, ho3, hc3, hm3, hb3⟩; have hpa := parse_up hgi (by omega) hgd hc3 hl5 ((Own.of_row' ho3).rd _); clear hal)
          | (go_at_call 79; refine hpa.mono ?_; rintro e w3 ⟨R3, cr3, vals3, rfl, hrow3, hrec3, hb4⟩; clear hpa; have hb5 := hb3.trans (hb4.mono hb3.size); have ho5 := own_below hown hb5; have hl3 := hrec3.1; simp only at hl3 hrow3; rw [← hl3] at hrow3)
          | (at_builtin; refine wpList_append_rd rfl (.tmp 37) (.tmp 38) 70 rfl TBs ib _ 24 Tryz.underlying70 hib hzb hsb hbb rfl w.heap.size (.slice R m cr) m vals rfl ho5 _ R3 g.recs.length cr3 vals3 rfl hl3.symm hrow3 hrec3.one m2 m3 (Nat.le_trans hb.size hb5.size) ?_; intro v6 w6 ho6 hg6; obtain ⟨A6, c6, rfl, hc6, hm6⟩ := own_val ho6))
        have hb6 : Below w.heap.size w w6 := (hb.trans (hb5.mono hb.size)).grown hg6 (Nat.le_trans hb.size hb5.size) (fun j hj => own_grown ho5 hj)
        have hf6 : Fr (fun x => Value.ownBlock (.slice R m cr) = some x) w3 w6 := ⟨hg6.os, hg6.tape, hg6.output, hg6.size, fun x hx hn => hg6.block x hx (fun e => hn e.symm), fun x hx => hg6.block x hx.lt (fun e => own_notB ho5 (by decide) e.symm hx)⟩
        go_roundw
        case rel => exact ⟨k + 1, A6, m + g.recs.length, c6, _, rfl, rfl, hlt, hb6, ho6, m1, by rw [E.out]; exact (((hrec.fr (S' := Non) (Fr.of_below hb5)).app hrec3).fr hf6)⟩
        case measure => simp [intOf]; omega
      · have k2 : ¬ (k : Int) < (ps.length : Int) := by omega
        go_wp2
        go_ret
        have e : gs.take k = gs := List.take_of_length_le (by rw [← HPL.out]; omega)
        rw [e] at hrec
        have hv : vals.length = m := by simpa using hown.1
        obtain rfl : m = (gs.flatMap (·.recs)).length := hv.symm.trans hrec.1
        exact ⟨R, cr, vals, rfl, Row.of_own hown (fun g hg => own_grown hown hg), hrec, hb⟩
  · go_enter Tryz.func135, Tryz.ntmps135
    obtain ⟨c0, c1, c2, z1, z2, q1, q2, q3, q4⟩ := h.facts
    clear q1
    go_wp2
    go_loopw [3, 4] (fun ov iv wr => ov = .slice none 0 0 ∧ iv = .int .i64 0 ∧ wr = w) (fun _ iv _ => 0)
    case atStart => exact ⟨rfl, rfl, rfl⟩
    case round =>
      obtain ⟨rfl, rfl, rfl⟩ := hrel
      by_cases hz : (0 : Int) < (ps.length : Int)
      · go_wp2
        go_ret
        exact ⟨none, 0, [], rfl, Row.nil _ _ _, Recs.nil _, Below.refl _ _⟩
      · go_wp2
        go_ret
        exact ⟨none, 0, [], rfl, Row.nil _ _ _, Recs.nil _, Below.refl _ _⟩
end
end Go.Proofs.YtediidajdpdeiaaGreatDoor

/- A store's Accept (layer 8): the walk. -/
namespace Go.Proofs.YtediidajdpdeiaaGreatDoor
open Go.RowKit CrcM
set_option maxRecDepth 100000

theorem length_insN {α : Type} (x : Nat × α) : ∀ l : List (Nat × α), (insN x l).length = l.length + 1
  | [] => rfl
  | y :: r => by
    unfold insN
    split
    · rfl
    · rw [List.length_cons, length_insN x r]; rfl
theorem length_putN {α : Type} (k : Nat) (x : α) (l : List (Nat × α)) : (putN k x l).length ≤ l.length + 1 := by
  unfold putN
  rw [length_insN]
  have : (delN k l).length ≤ l.length := List.length_filter_le _ _
  omega
theorem St.ok.put {s : St} (h : s.ok) {p k n : Nat} {v : List UInt8} (hp : p ≤ 1099511627776) (hk : k ≤ 1099511627776) (hn : n ≤ 1099511627776) (hv : v.length ≤ 32768) (hf : s.slots.length < 1048575) : St.ok ⟨p, s.base, putN k ⟨n, v⟩ s.slots⟩ := by
  refine ⟨hp, h.ba, Nat.le_trans (length_putN _ _ _) hf, h.rise.put _ _, fun q hq => ?_⟩
  rcases mem_putN.1 hq with rfl | ⟨hq, _⟩
  · exact ⟨hk, hn, hv⟩
  · exact h.all q hq
theorem ask2 (s : So) (n m : Int) : askC s [n, m] = if s.log.down then 10 else if numOk n ∧ numOk m then 0 else 2 := by
  unfold askC
  simp only [List.all_cons, List.all_nil, Bool.and_true, Bool.and_eq_true, decide_eq_true_eq]
/-- 'm[k] = v' within a region -/
theorem oper_mapPut [Hole] {w : World} {o : Oper} {a : Act} {K : Act → World → Prop} {Q : Exit → Act → World → Prop} (m x v : Operand) (ho : o.op = Op.mapUpdate TMp m x v) {b : Nat} {M : Slots} (hm : a.eval m = .map (some b)) (h : SlotsAt w b M) (hM : M.length ≤ 1048576)
    {k : Nat} (hx : a.eval x = .int .i64 (k : Int)) (hk : k ≤ 4611686018427387904) {hd : Hd} {val : Value} (hv : a.eval v = val) (hval : HeldV w hd val)
    (hK : ∀ w', SlotsAt w' b (putN k hd M) → Fr (fun x => x = b) w w' → K (a.put o.dst undef) w') : o.wp Tryz.prog a w K Q := by
  obtain ⟨w', hrun, h1, h2⟩ := h.put hM k hk hval
  unfold Oper.wp
  simp [execOp, ho, hm, hx, hv, hrun, Result.andThen]
  exact hK w' h1 h2

section
variable [Hole] {S S1 S2 : Nat → Prop} {w w' : World} {b lb db mb : Nat} {s : So}
set_option maxHeartbeats 2000000 in
theorem acceptS (h : SoO S S1 S2 w b lb db mb s) (hh : HalfAt w) (hlen : s.log.len ≤ 4611686018427387904) (hfew : s.st.slots.length < 1048575) (slot n : Int) (B : Option Addr) (v : List UInt8) (cb : Nat) (hv : Rd S w B v) (hvl : v.length ≤ 70368744177664) :
    Calls Tryz.prog 10 #[.pointer (some ⟨b, 0, none⟩), .int .i64 slot, .int .i64 n, .slice B v.length cb] w (SoDid S w (.pointer (some ⟨b, 0, none⟩)) (s.accept slot n v)) := by
  obtain ⟨iu, hiu, hzu, hsu, hbu⟩ := info_parts info_u8
  have hhole := Lib.hid h.log.hole
  have hb1 := below_new w (.cells #[.int .i64 slot, .int .i64 n] TIn)
  have h1 := h.below hb1
  obtain ⟨c0, c1, c2, c3, c4, c5, z1, z3, z4⟩ := h1.facts
  have ha := askedS h1 (some ⟨w.heap.size, 0, none⟩) [slot, n] 2 (fun j m hj => ⟨_, _, rfl, int_cells (xs := [slot, n]) j m hj⟩) (by simp)
  rw [show [slot, n].length = 2 from rfl, ask2] at ha
  cases hdn : s.log.down
  · rw [hdn] at ha
    by_cases hn : numOk slot ∧ numOk n
    · have hn' := hn
      unfold numOk at hn'
      obtain ⟨k, rfl⟩ : ∃ k : Nat, slot = k := ⟨slot.toNat, by omega⟩
      obtain ⟨m, rfl⟩ : ∃ k : Nat, n = k := ⟨n.toNat, by omega⟩
      simp only [Bool.false_eq_true, if_false, if_pos hn] at ha
      obtain ⟨v0, hlook, hv0⟩ := h1.map.look k (by omega)
      have hsh : ∃ (x : Int) (A0 : Option Addr) (l0 c0 : Nat), v0 = .agg #[.int .i64 x, .slice A0 l0 c0] := by
        cases hg : getN k s.st.slots with
        | none => rw [hg] at hv0; exact ⟨_, _, _, _, hv0⟩
        | some hd => rw [hg] at hv0; obtain ⟨A, c, e, -⟩ := hv0; exact ⟨_, _, _, _, e⟩
      obtain ⟨x0, A0, l0, cc0, rfl⟩ := hsh
      have hb2 := below_new (w.alloc (.cells #[.int .i64 (k : Int), .int .i64 (m : Int)] TIn)) (.cells #[.int .i64 x0, .slice A0 l0 cc0] THd)
      have h2 := h1.below hb2
      obtain ⟨d0, d1, d2, d3, d4, d5, -, -, -⟩ := h2.facts
      have hml := fun ty => h2.map.len ty
      have hbw2 := hb1.trans (hb2.mono hb1.size)
      have he0 : s.accept k m v = if (m : Int) < s.st.promised ∨ (k : Int) < s.st.base then (s, 16) else if 32768 < v.length then (s, 3) else if getN k s.st.slots = none ∧ s.st.slots.length = 1024 then (s, 7)
          else s.put (Rc.acc k m v).enc ⟨m, s.st.base, putN k ⟨m, v⟩ s.st.slots⟩ := by
        unfold So.accept
        rw [hdn, if_neg (by simp), if_neg (by simpa using hn.1), if_neg (by simpa using hn.2), Int.toNat_natCast, Int.toNat_natCast]
      clear hdn hn hv0
      by_cases q1 : (m : Int) < (s.st.promised : Int)
      · have HE := Lib.hid (show s.accept k m v = (s, 16) from by rw [he0, if_pos (.inl q1)])
        clear he0
        go_enter Tryz.func10, Tryz.ntmps10
        go_wp2_with (go_at_call 53; refine ha.mono ?_; rintro e w' ⟨rfl, rfl⟩)
        go_ret
        rw [HE.out]
        exact h.did hbw2 16
      by_cases q2 : (k : Int) < (s.st.base : Int)
      · have HE := Lib.hid (show s.accept k m v = (s, 16) from by rw [he0, if_pos (.inr q2)])
        clear he0
        go_enter Tryz.func10, Tryz.ntmps10
        go_wp2_with (go_at_call 53; refine ha.mono ?_; rintro e w' ⟨rfl, rfl⟩)
        go_ret
        rw [HE.out]
        exact h.did hbw2 16
      rw [if_neg (by omega)] at he0
      by_cases q3 : (32768 : Int) < (v.length : Int)
      · have HE := Lib.hid (show s.accept k m v = (s, 3) from by rw [he0, if_pos (by omega)])
        clear he0
        go_enter Tryz.func10, Tryz.ntmps10
        go_wp2_with (go_at_call 53; refine ha.mono ?_; rintro e w' ⟨rfl, rfl⟩)
        go_ret
        rw [HE.out]
        exact h.did hbw2 3
      rw [if_neg (by omega)] at he0
      by_cases q4 : getN k s.st.slots = none ∧ s.st.slots.length = 1024
      · have HE := Lib.hid (show s.accept k m v = (s, 7) from by rw [he0, if_pos q4])
        obtain ⟨q4, q5⟩ := q4
        rw [q4] at hlook
        have q5' : ((s.st.slots.length : Int) == 1024) = true := by rw [q5]; rfl
        clear he0 q4 q5
        go_enter Tryz.func10, Tryz.ntmps10
        go_wp2_with (go_at_call 53; refine ha.mono ?_; rintro e w' ⟨rfl, rfl⟩)
        go_ret
        rw [HE.out]
        exact h.did hbw2 7
      rw [if_neg q4] at he0
      have hq : (∃ hd, getN k s.st.slots = some hd) ∨ (getN k s.st.slots = none ∧ ((s.st.slots.length : Int) == 1024) = false) := by
        cases hg : getN k s.st.slots with
        | some hd => exact .inl ⟨hd, rfl⟩
        | none => exact .inr ⟨rfl, by rw [beq_eq_false_iff_ne]; intro e; exact q4 ⟨hg, by omega⟩⟩
      obtain ⟨r1, hr1⟩ : ∃ r, [2] ++ numB k = r := ⟨_, rfl⟩
      obtain ⟨r2, hr2⟩ : ∃ r, r1 ++ numB m = r := ⟨_, rfl⟩
      obtain ⟨rec, hre⟩ : ∃ r, r2 ++ v = r := ⟨_, rfl⟩
      have henc : (Rc.acc k m v).enc = rec := by
        rw [← hre, ← hr2, ← hr1, List.append_assoc, List.append_assoc]
        rfl
      have hrl : rec.length = r2.length + v.length := by rw [← hre, List.length_append]
      have hl1 : r1.length ≤ 11 := by have := numB_10 (n := k) (by omega); rw [← hr1, List.length_append]; simp; omega
      have hl2 : r2.length ≤ 21 := by have := numB_10 (n := m) (by omega); rw [← hr2, List.length_append]; omega
      have hb3 := below_new ((w.alloc (.cells #[.int .i64 (k : Int), .int .i64 (m : Int)] TIn)).alloc (.cells #[.int .i64 x0, .slice A0 l0 cc0] THd)) (.cells #[.int .u8 2] TB)
      have hbw3 := hbw2.trans (hb3.mono hbw2.size)
      have hO : Own Ever (((w.alloc (.cells #[.int .i64 (k : Int), .int .i64 (m : Int)] TIn)).alloc (.cells #[.int .i64 x0, .slice A0 l0 cc0] THd)).alloc (.cells #[.int .u8 2] TB)) (some ⟨w.heap.size + 1 + 1, 0, none⟩) [2] := by
        have := Own.of_cells Ever (heap_alloc_new ((w.alloc (.cells #[.int .i64 (k : Int), .int .i64 (m : Int)] TIn)).alloc (.cells #[.int .i64 x0, .slice A0 l0 cc0] THd)) (.cells #[.int .u8 2] TB)) (l := [2]) trivial rfl
        simpa using this
      have hnum1 := Num_B (((w.alloc (.cells #[.int .i64 (k : Int), .int .i64 (m : Int)] TIn)).alloc (.cells #[.int .i64 x0, .slice A0 l0 cc0] THd)).alloc (.cells #[.int .u8 2] TB)) (((w.alloc (.cells #[.int .i64 (k : Int), .int .i64 (m : Int)] TIn)).alloc (.cells #[.int .i64 x0, .slice A0 l0 cc0] THd)).alloc (.cells #[.int .u8 2] TB)) (Below.refl _ _) (some ⟨w.heap.size + 1 + 1, 0, none⟩) 1 [2] (hO.rd Non) (by simp) k (by omega)
      rw [List.length_singleton, hr1] at hnum1
      rw [henc] at he0
      obtain ⟨-, l1, -⟩ := h.facts
      have HL := Lib.hid hlen
      have HR2 := Lib.hid hr2
      have HRE := Lib.hid hre
      have HRL := Lib.hid hrl
      clear hr1 hr2 hre henc hrl hlen q4
      rcases hq with ⟨hd0, hq⟩ | ⟨hq, hq5⟩
      all_goals
        rw [hq] at hlook
        simp only [Option.isSome_some, Option.isSome_none] at hlook
        clear hq
        by_cases hc : (s.log.append rec).2.2 = 0
        · have HE := Lib.hid (show s.accept k m v = (⟨s.per, (s.log.append rec).1, s.snap, ⟨m, s.st.base, putN k ⟨m, v⟩ s.st.slots⟩⟩, 0) from by rw [he0]; unfold So.put; rw [if_pos hc])
          have HC := Lib.hid hc
          clear he0 hc
          go_enter Tryz.func10, Tryz.ntmps10
          go_wp2_with (first
            | (go_at_call 53; refine ha.mono ?_; rintro e w' ⟨rfl, rfl⟩)
            | (go_at_call 54; refine hnum1.mono ?_; rintro e w4 ⟨v4, rfl, ho4, hb4⟩; obtain ⟨A4, c4', rfl, hc4, hm4⟩ := own_val ho4; have hO4 : Own Ever w4 A4 r1 := (Own.of_row ho4 rfl).mono (fun _ _ => trivial); have hnum2 := Num_B w4 w4 (Below.refl _ _) A4 c4' r1 (hO4.rd Non) (by omega) m (by omega); rw [HR2.out] at hnum2; clear hnum1)
            | (go_at_call 54; refine hnum2.mono ?_; rintro e w5 ⟨v5, rfl, ho5, hb5⟩; obtain ⟨A5, c5', rfl, hc5, hm5⟩ := own_val ho5; clear hnum2))
          have hbw4 := hbw3.trans (hb4.mono hbw3.size)
          have hbw5 := hbw4.trans (hb5.mono hbw4.size)
          have f1 := (hbw5.cell (p := ⟨b, 1, none⟩) (cell_lt l1)).trans l1
          have hv5 : Rd Non w5 B v := (hv.mono (fun _ _ h => h.elim)).fr (Fr.of_below hbw5)
          have hbs4 := hbw4.size
          refine wp_region_T #[[], [], [], [], [], [], [], [3], [3], [3], [3], [3], [3]] [3] (fun w' => w'.cell? ⟨b, 1, none⟩ = some (.pointer (some ⟨lb, 0, none⟩)) ∧ True) 13 rfl (by kernel_rfl) ?_
          (refine wpF (i := 0) rfl (by kernel_rfl) rfl (fun _ _ _ h => h) (fun _ => by go_simp; try rfl) ?_; (try simp only [Act.put, sA, sB, sC]))
          (refine wpF (i := 1) rfl (by kernel_rfl) rfl (fun _ _ _ h => h) (fun _ => by go_simp; try rfl) ?_; (try simp only [Act.put, sA, sB, sC]))
          (refine wpF (i := 2) rfl (by kernel_rfl) rfl (fun _ _ _ h => h) (fun _ => by go_simp; try rfl) ?_; (try simp only [Act.put, sA, sB, sC]))
          (refine wpAnyT_read (i := 3) rfl (by kernel_rfl) rfl (fun _ _ _ h => h) (by kernel_rfl) (⟨f1, trivial⟩) (fun w hS_ => by obtain ⟨s_1, s_2⟩ := hS_; go_simp; try rfl) ?_; (try simp only [Act.put, sA, sB, sC]))
          (refine wpF (i := 4) rfl (by kernel_rfl) rfl (fun _ _ _ h => h) (fun _ => by go_simp; try rfl) ?_; (try simp only [Act.put, sA, sB, sC]))
          (refine wpF (i := 5) rfl (by kernel_rfl) rfl (fun _ _ _ h => h) (fun _ => by go_simp; try rfl) ?_; (try simp only [Act.put, sA, sB, sC]))
          refine wpAnyT_one (i := 6) rfl (by kernel_rfl) rfl ?_
          intro K_ hK_
          refine oper_appB (.tmp 80) (.tmp 81) 30 rfl iu Tryz.underlying30 hiu hzu hsu hbu w4.heap.size (.slice A5 r2.length c5') r2.length r2 rfl ho5.drew Non B v.length cb v rfl rfl hv5.drew (by omega) hb5.size ?_; intro v6 w6 ho6 hg6; obtain ⟨A6, c6, rfl, hc6, hm6⟩ := own_val ho6; have hb6 : Below w.heap.size w w6 := hbw5.drew.grown hg6 hbw5.size (fun j hj => by have := own_grown ho5 hj; omega)
          refine hK_ _ _ ?_ ?_
          · exact fun _ _ => ⟨(hb6.cell (p := ⟨b, 1, none⟩) (cell_lt l1)).trans l1, trivial⟩
          clear hK_ K_
          (try simp only [Act.put, sA, sB, sC])
          refine wpAnyT_sink (i := 7) rfl (by kernel_rfl) rfl (by kernel_rfl) ?_
          intro K_ hK_
          have hO6 : Own Ever w6 A6 rec := (Own.of_row (l := rec) (by rw [HRE.out] at ho6; exact ho6) HRL.out.symm).mono (fun _ _ => trivial); have hap := (h.below hb6).append (hh.below hb6 hh.lt) HL.out A6 rec c6 hO6 (by rw [HRL.out]; omega); rw [HRL.out] at hap; rw [HC.out] at hap; go_wp2_with (go_at_call 55; refine hap.mono ?_; rintro e w7 ⟨rfl, h7, f7⟩)
          (try (refine hK_ _ _ ?_; clear hK_ K_))
          (try simp only [Act.put, sA, sB, sC])
          (refine wpF (i := 8) rfl (by kernel_rfl) rfl (fun _ _ _ h => h) (fun _ => by go_simp; try rfl) ?_; (try simp only [Act.put, sA, sB, sC]))
          (refine wpF (i := 9) rfl (by kernel_rfl) rfl (fun _ _ _ h => h) (fun _ => by go_simp; try rfl) ?_; (try simp only [Act.put, sA, sB, sC]))
          (refine wpF (i := 10) rfl (by kernel_rfl) rfl (fun _ _ _ h => h) (fun _ => by go_simp; try rfl) ?_; (try simp only [Act.put, sA, sB, sC]))
          (refine wpF (i := 11) rfl (by kernel_rfl) rfl (fun _ _ _ h => h) (fun _ => by go_simp; try rfl) ?_; (try simp only [Act.put, sA, sB, sC]))
          (refine wpF (i := 12) rfl (by kernel_rfl) rfl (fun _ _ _ h => h) (fun _ => by go_simp; try rfl) ?_; (try simp only [Act.put, sA, sB, sC]))
          refine wpAnyT_done (by kernel_rfl) ?_ _
          obtain ⟨h8, f8⟩ := h7.setPr m (by omega)
          obtain ⟨g0, g1, g2, g3, g4, g5, -, gz3, -⟩ := h7.facts
          have f68 := Up.fr2 f7 f8
          have hv8 : Rd S (w7.setCell ⟨b, 3, none⟩ (.int .i64 (m : Int))) B v := (hv.fr (Fr.of_below hb6)).fr f68
          have e5 := h8.blk.cell 5 (v := .map (some mb)) rfl
          go_wp2
          have hsz8 : (w7.setCell ⟨b, 3, none⟩ (.int .i64 (m : Int))).heap.size = w7.heap.size := by simp [World.setCell]
          generalize w7.setCell ⟨b, 3, none⟩ (.int .i64 (m : Int)) = w8 at *
          have hcl := clone_B S B v cb w8.drew hv8.drew hvl
          refine wp_region_T #[[], [], [], [], [], [], [], [], [], [3]] [3] (fun w' => w'.cell? ⟨b, 5, none⟩ = some (.map (some mb)) ∧ True) 10 rfl (by kernel_rfl) ?_
          (refine wpF (i := 0) rfl (by kernel_rfl) rfl (fun _ _ _ h => h) (fun _ => by go_simp; try rfl) ?_; (try simp only [Act.put, sA, sB, sC]))
          (refine wpF (i := 1) rfl (by kernel_rfl) rfl (fun _ _ _ h => h) (fun _ => by go_simp; try rfl) ?_; (try simp only [Act.put, sA, sB, sC]))
          (refine wpF (i := 2) rfl (by kernel_rfl) rfl (fun _ _ _ h => h) (fun _ => by go_simp; try rfl) ?_; (try simp only [Act.put, sA, sB, sC]))
          (refine wpAnyT_read (i := 3) rfl (by kernel_rfl) rfl (fun _ _ _ h => h) (by kernel_rfl) (⟨e5, trivial⟩) (fun w hS_ => by obtain ⟨s_1, s_2⟩ := hS_; go_simp; try rfl) ?_; (try simp only [Act.put, sA, sB, sC]))
          (refine wpF (i := 4) rfl (by kernel_rfl) rfl (fun _ _ _ h => h) (fun _ => by go_simp; try rfl) ?_; (try simp only [Act.put, sA, sB, sC]))
          (refine wpF (i := 5) rfl (by kernel_rfl) rfl (fun _ _ _ h => h) (fun _ => by go_simp; try rfl) ?_; (try simp only [Act.put, sA, sB, sC]))
          (refine wpF (i := 6) rfl (by kernel_rfl) rfl (fun _ _ _ h => h) (fun _ => by go_simp; try rfl) ?_; (try simp only [Act.put, sA, sB, sC]))
          refine wpAnyT_one (i := 7) rfl (by kernel_rfl) rfl ?_
          intro K_ hK_
          go_wp2_with ((go_at_call 56; refine hcl.mono ?_; rintro e w9 ⟨A9, c9, rfl, ho9, hc9, hm9, hb9⟩; have hb9' : Below w8.heap.size w8 w9 := ⟨hb9.os, hb9.tape, hb9.output, hb9.size, hb9.block⟩; have h9 := h8.below hb9'))
          refine hK_ _ _ ?_ ?_
          · exact fun _ _ => ⟨(hb9'.cell (p := ⟨b, 5, none⟩) (cell_lt e5)).trans e5, trivial⟩
          clear hK_ K_
          (try simp only [Act.put, sA, sB, sC])
          (refine wpF (i := 8) rfl (by kernel_rfl) rfl (fun _ _ _ h => h) (fun _ => by go_simp; try rfl) ?_; (try simp only [Act.put, sA, sB, sC]))
          refine wpAnyT_sink (i := 9) rfl (by kernel_rfl) rfl (by kernel_rfl) ?_
          intro K_ hK_
          refine oper_mapPut (.tmp 96) (.tmp 97) (.tmp 101) rfl (M := s.st.slots) rfl h9.map (by omega) (k := k) rfl (by omega) (hd := ⟨m, v⟩) rfl ⟨A9, c9, rfl, hc9, hm9, (Own.of_row' ho9).mono (fun x hx => hhole.out x (Nat.le_trans (Nat.le_trans hb6.size f68.size) hx))⟩ ?_; intro w10 hm10 f10
          (try (refine hK_ _ _ ?_; clear hK_ K_))
          (try simp only [Act.put])
          refine wpAnyT_done (by kernel_rfl) ?_ _
          go_wp2
          go_ret
          rw [HE.out]
          obtain ⟨h10, f10'⟩ := h9.turnMap hm10 f10 (h.ok.put (p := m) (by omega) (by omega) (by omega) (by omega) hfew)
          refine SoDid.from hb6 h.lt ⟨rfl, ?_, (f68.trans' (Fr.of_below (S := Non) hb9') (fun _ _ h => h.elim)).trans' f10' (fun x hx hh => hh.elim id (fun q => by have := q.1; omega))⟩
          exact (h10.mono (fun x hx => by
            rcases hx with (hx | hx) | hx
            · exact .inl hx
            · exact .inr ⟨hx.1, Nat.lt_of_lt_of_le hx.2 (by have := hb9'.size; have := f10.size; omega)⟩
            · exact .inr ⟨Nat.le_trans (by have := f7.size; have := hb9'.size; omega) hx.1, hx.2⟩) (fun x hx => by
            rcases hx with hx | hx
            · exact Nat.lt_of_lt_of_le (h.lt x hx) (Nat.le_trans hb6.size (by have := f68.size; have := hb9'.size; have := f10.size; omega))
            · exact hx.2)).is
        · have HE := Lib.hid (show s.accept k m v = (⟨s.per, (s.log.append rec).1, s.snap, s.st⟩, (s.log.append rec).2.2) from by rw [he0]; unfold So.put; rw [if_neg hc])
          have hc' : ((s.log.append rec).2.2 != 0) = true := by simpa using hc
          clear he0 hc
          go_enter Tryz.func10, Tryz.ntmps10
          go_wp2_with (first
            | (go_at_call 53; refine ha.mono ?_; rintro e w' ⟨rfl, rfl⟩)
            | (go_at_call 54; refine hnum1.mono ?_; rintro e w4 ⟨v4, rfl, ho4, hb4⟩; obtain ⟨A4, c4', rfl, hc4, hm4⟩ := own_val ho4; have hO4 : Own Ever w4 A4 r1 := (Own.of_row ho4 rfl).mono (fun _ _ => trivial); have hnum2 := Num_B w4 w4 (Below.refl _ _) A4 c4' r1 (hO4.rd Non) (by omega) m (by omega); rw [HR2.out] at hnum2; clear hnum1)
            | (go_at_call 54; refine hnum2.mono ?_; rintro e w5 ⟨v5, rfl, ho5, hb5⟩; obtain ⟨A5, c5', rfl, hc5, hm5⟩ := own_val ho5; clear hnum2))
          have hbw4 := hbw3.trans (hb4.mono hbw3.size)
          have hbw5 := hbw4.trans (hb5.mono hbw4.size)
          have f1 := (hbw5.cell (p := ⟨b, 1, none⟩) (cell_lt l1)).trans l1
          have hv5 : Rd Non w5 B v := (hv.mono (fun _ _ h => h.elim)).fr (Fr.of_below hbw5)
          have hbs4 := hbw4.size
          refine wp_region_T #[[], [], [], [], [], [], [], [3], [3], [3], [3], [3], [3]] [3] (fun w' => w'.cell? ⟨b, 1, none⟩ = some (.pointer (some ⟨lb, 0, none⟩)) ∧ True) 13 rfl (by kernel_rfl) ?_
          (refine wpF (i := 0) rfl (by kernel_rfl) rfl (fun _ _ _ h => h) (fun _ => by go_simp; try rfl) ?_; (try simp only [Act.put, sA, sB, sC]))
          (refine wpF (i := 1) rfl (by kernel_rfl) rfl (fun _ _ _ h => h) (fun _ => by go_simp; try rfl) ?_; (try simp only [Act.put, sA, sB, sC]))
          (refine wpF (i := 2) rfl (by kernel_rfl) rfl (fun _ _ _ h => h) (fun _ => by go_simp; try rfl) ?_; (try simp only [Act.put, sA, sB, sC]))
          (refine wpAnyT_read (i := 3) rfl (by kernel_rfl) rfl (fun _ _ _ h => h) (by kernel_rfl) (⟨f1, trivial⟩) (fun w hS_ => by obtain ⟨s_1, s_2⟩ := hS_; go_simp; try rfl) ?_; (try simp only [Act.put, sA, sB, sC]))
          (refine wpF (i := 4) rfl (by kernel_rfl) rfl (fun _ _ _ h => h) (fun _ => by go_simp; try rfl) ?_; (try simp only [Act.put, sA, sB, sC]))
          (refine wpF (i := 5) rfl (by kernel_rfl) rfl (fun _ _ _ h => h) (fun _ => by go_simp; try rfl) ?_; (try simp only [Act.put, sA, sB, sC]))
          refine wpAnyT_one (i := 6) rfl (by kernel_rfl) rfl ?_
          intro K_ hK_
          refine oper_appB (.tmp 80) (.tmp 81) 30 rfl iu Tryz.underlying30 hiu hzu hsu hbu w4.heap.size (.slice A5 r2.length c5') r2.length r2 rfl ho5.drew Non B v.length cb v rfl rfl hv5.drew (by omega) hb5.size ?_; intro v6 w6 ho6 hg6; obtain ⟨A6, c6, rfl, hc6, hm6⟩ := own_val ho6; have hb6 : Below w.heap.size w w6 := hbw5.drew.grown hg6 hbw5.size (fun j hj => by have := own_grown ho5 hj; omega)
          refine hK_ _ _ ?_ ?_
          · exact fun _ _ => ⟨(hb6.cell (p := ⟨b, 1, none⟩) (cell_lt l1)).trans l1, trivial⟩
          clear hK_ K_
          (try simp only [Act.put, sA, sB, sC])
          refine wpAnyT_sink (i := 7) rfl (by kernel_rfl) rfl (by kernel_rfl) ?_
          intro K_ hK_
          have hO6 : Own Ever w6 A6 rec := (Own.of_row (l := rec) (by rw [HRE.out] at ho6; exact ho6) HRL.out.symm).mono (fun _ _ => trivial); have hap := (h.below hb6).append (hh.below hb6 hh.lt) HL.out A6 rec c6 hO6 (by rw [HRL.out]; omega); rw [HRL.out] at hap; go_wp2_with (go_at_call 55; refine hap.mono ?_; rintro e w7 ⟨rfl, h7, f7⟩)
          (try (refine hK_ _ _ ?_; clear hK_ K_))
          (try simp only [Act.put, sA, sB, sC])
          (refine wpF (i := 8) rfl (by kernel_rfl) rfl (fun _ _ _ h => h) (fun _ => by go_simp; try rfl) ?_; (try simp only [Act.put, sA, sB, sC]))
          (refine wpF (i := 9) rfl (by kernel_rfl) rfl (fun _ _ _ h => h) (fun _ => by go_simp; try rfl) ?_; (try simp only [Act.put, sA, sB, sC]))
          (refine wpF (i := 10) rfl (by kernel_rfl) rfl (fun _ _ _ h => h) (fun _ => by go_simp; try rfl) ?_; (try simp only [Act.put, sA, sB, sC]))
          (refine wpF (i := 11) rfl (by kernel_rfl) rfl (fun _ _ _ h => h) (fun _ => by go_simp; try rfl) ?_; (try simp only [Act.put, sA, sB, sC]))
          (refine wpF (i := 12) rfl (by kernel_rfl) rfl (fun _ _ _ h => h) (fun _ => by go_simp; try rfl) ?_; (try simp only [Act.put, sA, sB, sC]))
          refine wpAnyT_done (by kernel_rfl) ?_ _
          go_wp2
          go_ret
          rw [HE.out]
          exact SoDid.from hb6 h.lt ⟨rfl, h7.is, f7⟩
    · have HE := Lib.hid (show s.accept slot n v = (s, 2) from by
        unfold So.accept
        rw [hdn, if_neg (by simp)]
        by_cases h1 : numOk slot
        · rw [if_neg (by simpa using h1), if_pos (fun h2 => hn ⟨h1, h2⟩)]
        · rw [if_pos h1])
      simp only [Bool.false_eq_true, if_false, if_neg hn] at ha
      clear hdn hn
      go_enter Tryz.func10, Tryz.ntmps10
      go_wp2_with (go_at_call 53; refine ha.mono ?_; rintro e w' ⟨rfl, rfl⟩)
      go_ret
      rw [HE.out]
      exact h.did hb1 2
  · have HE := Lib.hid (show s.accept slot n v = (s, 10) from by unfold So.accept; rw [hdn, if_pos rfl])
    rw [hdn] at ha
    simp only [if_true] at ha
    clear hdn
    go_enter Tryz.func10, Tryz.ntmps10
    go_wp2_with (go_at_call 53; refine ha.mono ?_; rintro e w' ⟨rfl, rfl⟩)
    go_ret
    rw [HE.out]
    exact h.did hb1 10
end
end Go.Proofs.YtediidajdpdeiaaGreatDoor

/- A store's reader of numbers (layer 8): the walks of eye.num and of its clone. -/
namespace Go.Proofs.YtediidajdpdeiaaGreatDoor
open Go.RowKit CrcM
set_option maxRecDepth 100000

abbrev TEy : TypeId := 178

/-- WHAT num leaves of a reader -/
def NumEye (w : World) (eb n : Nat) (rest : List UInt8) (e : Ending) (w' : World) : Prop :=
  e = .returned (.int .i64 (n : Int)) ∧ ∃ A c, w' = w.setCell ⟨eb, 0, none⟩ (.slice A rest.length c) ∧ Own Ever w A rest ∧ rest.length ≤ c ∧ c ≤ maxLen
theorem eyeNum_B {w : World} {eb : Nat} {A : Option Addr} {c n : Nat} {rest l : List UInt8} (hb : Blk w eb TEy #[.slice A l.length c]) (hl : l = numB n ++ rest) (hn : n ≤ 4611686018427387904) (ho : Own Ever w A l) (hc : l.length ≤ c) (hm : c ≤ maxLen) :
    Calls Tryz.prog 131 #[.pointer (some ⟨eb, 0, none⟩)] w (NumEye w eb n rest) := by
  have hr : readNum l = .ok (n, (numB n).length) := by rw [hl]; exact readNum_numB n hn rest
  have hRN := ReadNum_B w A c l (ho.rd Non) (by omega)
  unfold ReadDid at hRN
  rw [hr] at hRN
  simp only at hRN
  have f0 := hb.cell 0 (v := .slice A l.length c) rfl
  have z0 := hb.frozen 0
  obtain ⟨k, hk⟩ : ∃ k, (numB n).length = k := ⟨_, rfl⟩
  have hkl : k ≤ l.length := by rw [hl, List.length_append]; omega
  have hrest : l.drop k = rest := by rw [hl, ← hk]; exact List.drop_left' rfl
  have hrl : l.length - k = rest.length := by rw [← hrest, List.length_drop]
  have hO := ho.drop k c hc
  rw [hrest] at hO
  rw [hk] at hRN
  have k1 : (0 : Int) ≤ (k : Int) := by omega
  have k2 : (k : Int) ≤ (l.length : Int) := by omega
  have HR := Lib.hid hrl
  clear hrl hr hl hrest hk
  unfold maxLen at hm
  by_cases hck : c = k
  · rw [if_pos hck] at hO
    subst hck
    go_enter Tryz.func131, Tryz.ntmps131
    go_wp2_with (go_at_call 160; refine hRN.mono ?_; rintro e w' ⟨rfl, rfl⟩)
    go_ret
    have hr := HR.out
    have h0 : rest.length = 0 := by omega
    refine ⟨rfl, A, 0, ?_, hO, ?_, ?_⟩
    · rw [h0]
    · omega
    · exact Nat.zero_le _
  · rw [if_neg hck] at hO
    go_enter Tryz.func131, Tryz.ntmps131
    go_wp2_with (go_at_call 160; refine hRN.mono ?_; rintro e w' ⟨rfl, rfl⟩)
    go_ret
    have hr := HR.out
    refine ⟨rfl, Option.map (fun x => x.add k) A, c - k, ?_, hO, ?_, ?_⟩
    · rw [hr]
    · omega
    · have : c - k ≤ c := Nat.sub_le _ _
      unfold maxLen
      omega
/-- a clone of what is left -/
theorem cloneEye_B (S : Nat → Prop) (A : Option Addr) (l : List UInt8) (c : Nat) (w : World) (hr : Rd S w A l) (hl : l.length ≤ 70368744177664) :
    Calls Tryz.prog 132 #[.slice A l.length c] w (Cloned w l) := by
  obtain ⟨i, hi, hz, hs, hb⟩ := info_parts info_u8
  rcases A with _ | ad
  · obtain rfl := hr.none_
    have hnil := fun (w : World) => Lib.run_eql_slice_nil w (P := Tryz.prog) TEy TB none 0 c 0 0 Tryz.underlying178
    show Calls _ _ #[.slice none 0 c] w _
    go_enter Tryz.func132, Tryz.ntmps132
    go_wp2
    go_ret
    exact ⟨_, _, rfl, World.ownsRow_nil _ _ _ _, Nat.le_refl _, Nat.zero_le _, Below.refl _ _⟩
  · have hnil := fun (w : World) => Lib.run_eql_slice_nil w (P := Tryz.prog) TEy TB (some ad) l.length c 0 0 Tryz.underlying178
    go_enter Tryz.func132, Tryz.ntmps132
    go_wp2_with (at_builtin
                 refine wpList_appB rfl (.tmp 5) (.tmp 6) TEy rfl i Tryz.underlying178 hi hz hs hb w.heap.size _ 0 [] rfl (ownsB_none w) Non (some ad) l.length c l rfl rfl (((hr.mono (fun _ _ h => h.elim)).fr ((Fr.refl _ _).alloc _))) (by omega) (by simp) ?_
                 intro v1 w1 hown hgrow hat)
    go_ret
    exact cloned_of l (by simpa using hown) hgrow
end Go.Proofs.YtediidajdpdeiaaGreatDoor
