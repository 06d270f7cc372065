/- The document's log (layer 7): Append; the walk (printed by gen_refapp.py from XRef07g.base). -/
import Derived.Test.YtediidajdpdeiaaGreatDoorJ15
import Derived.Test.YtediidajdpdeiaaGreatDoorJ6

namespace Go.Proofs.YtediidajdpdeiaaGreatDoor
open Go.RowKit CrcM
set_option maxRecDepth 100000

theorem info_pr : (Tryz.prog.info? TPr).map (fun i => (i.zero, i.size, i.bytes)) = some (some (.pointer none), 1, 8) := by kernel_rfl

/-- WHAT Append leaves of the document's log -/
def RappDid (S : Nat → Prop) (w : World) (p : Value) (r : Lg × Nat × Int) (e : Ending) (w' : World) : Prop :=
  e = .returned (.tuple #[.int .i64 (r.2.1 : Int), .int .i64 r.2.2]) ∧ IsRlog (Up S w w') w' p r.1.ref ∧ Fr S w w'

theorem append_room {per : Nat} {gs : List Sg} {m : Nat} {rec : List UInt8} (hinv : Lg.inv m ⟨per, gs, false⟩) (hm : m ≤ 1048576) (hr : rec.length ≤ 400) (hf : ¬ ((⟨per, gs, false⟩ : Lg).full = true ∧ gs.length = 256)) {rm : List Sg} (hrm : (⟨per, gs, false⟩ : Lg).room = rm) {g : Sg} (hg : rm[rm.length - 1]? = some g) :
    Lg.append ⟨per, gs, false⟩ rec = (⟨per, rm.set (rm.length - 1) ⟨(g.d.append (frame rec)).1, g.base, g.recs ++ [rec], g.safe⟩, false⟩, Lg.len ⟨per, gs, false⟩, 0) ∧ (g.d.append (frame rec)).2 = 0 ∧ (g.d.append (frame rec)).1.all.length ≤ 4194304 := by
  have h1 := Lg.append_eq (rec := rec) (by omega) hf hrm hg
  rcases hinv.append rfl (by omega) rec hr with ⟨h2, h3, -⟩ | ⟨L', h2, -⟩
  · exact (hf ⟨h2, h3⟩).elim
  · have h2' := h2
    rw [h1] at h2
    split at h2
    · rename_i hz
      injection h2 with h3 h4
      injection h4 with h4 h5
      refine ⟨?_, hz, ?_⟩
      · rw [h1, if_pos hz, h4]
      · unfold Dk.append at hz ⊢
        split at hz
        · exact absurd hz (by show ¬ (10 : Int) = 0; omega)
        · split at hz
          · exact absurd hz (by show ¬ (7 : Int) = 0; omega)
          · rename_i hd hl
            rw [if_neg hd, if_neg hl]
            simp only [List.length_append]
            omega
    · rename_i hz
      injection h2 with h3 h4
      injection h4 with h4 h5
      exact (hz h5).elim

theorem Own.nw {W w : World} {A : Option Addr} {l : List UInt8} (h : Own (New W) w A l) : Own (Nw W w) w A l := fun j x hx => by
  obtain ⟨ad, e, hc, hb, h1⟩ := h j x hx
  exact ⟨ad, e, hc, hb, h1, hb.lt⟩

theorem cell_after (w : World) (o : Obj) (v : Value) (t : TypeId) : ((w.alloc o).alloc (.cells #[v] t)).cell? ⟨w.heap.size + 1, 0, none⟩ = some v := by
  have h := heap_new_cell (w.alloc o) v t
  rwa [show (w.alloc o).heap.size = w.heap.size + 1 by simp] at h
/-- a disk of the document's with a head on it, laid in blocks of its own -/
theorem RefB.fresh {w5 w6 : World} {A : Option Addr} {c : Nat} {hd : List UInt8} (hb : Below w5.heap.size w5 w6) (ho : Own (New w5) w6 A hd) (hc : hd.length ≤ c) (hl : hd.length ≤ 22) :
    RefB (Nw w5 (w6.alloc (.cells #[.slice none 0 0, .slice A hd.length c, .bool false] 187))) (w6.alloc (.cells #[.slice none 0 0, .slice A hd.length c, .bool false] 187)) w6.heap.size ⟨[], hd, false⟩ := by
  refine ⟨none, 0, A, c, Blk.new w6 _ _, Own.nil _ _ _, Own.nw (ho.fr (S' := Non) (Fr.of_below (below_new w6 _))), ⟨hb.size, ?_⟩, fun x hx => hx.2, Nat.zero_le _, hc, ?_⟩
  · simp
  · unfold Rk.ok
    simp only [List.length_nil]
    omega

section
variable {S H : Nat → Prop} {w : World} {b : Nat} {A : Option Addr} {c : Nat} {ps : List Nat}
theorem RlogO.asRef {per k : Nat} {rm : List Sg} {g : Sg} (h : RlogO S H w b A c ps ⟨per, (rm.map (fun g => g.d.ref)).set k g.d.ref, false⟩) : RlogO S H w b A c ps (Lg.ref ⟨per, rm.set k g, false⟩) := by
  unfold Lg.ref
  simp only
  rw [List.map_set]
  exact h
/-- one disk more -/
theorem RlogO.grow {per : Nat} {ds : List Rk} {dn : Bool} (h : RlogO S H w b A c ps ⟨per, ds, dn⟩) (hn : ds.length < 256) {w5 w6 w7 : World} {p : Nat} {R : Rk}
    (hb : Below w.heap.size w w5) (hs : RefB (Nw w w5) w5 p R) (hg : R.kept.length + R.rest.length ≤ 4194304) (h6 : Below w5.heap.size w5 w6) (f : Fr H w6 w7) (hoth : ∀ x, x < w6.heap.size → (Value.slice A ps.length c).ownBlock ≠ some x → w7.heap[x]? = w6.heap[x]?)
    {A' : Option Addr} {c' : Nat} (hrow : Row (Up H w6 w7) w7 TPr (.slice A' (ps.length + 1) c') (ps.map ptr ++ [ptr p])) :
    RlogO (Up S w w7) (Up H w6 w7) (w7.setCell ⟨b, 1, none⟩ (.slice A' (ps.length + 1) c')) b A' c' (ps ++ [p]) ⟨per, ds ++ [R], dn⟩ ∧ Fr S w (w7.setCell ⟨b, 1, none⟩ (.slice A' (ps.length + 1) c')) := by
  have hH : ∀ x, H x → x < w.heap.size := fun x hx => h.lt x (h.hS x hx)
  have hb6 : Below w.heap.size w w6 := hb.trans (h6.mono hb.size)
  have f7 : Fr S w w7 := (Fr.of_below hb6).trans' f (fun x _ hx => h.hS x hx)
  have b6 : Blk w6 b TRl _ := h.blk.eq (hb6.block b h.blk.lt)
  have b7 : Blk w7 b TRl _ := b6.eq (hoth b b6.lt ((h.row.fr (S' := Non) (Fr.of_below hb6) (fun _ _ h => h.elim)).ownNe b6 (by decide)))
  have hnb : ¬ IsB w7 b := b7.notB (by decide)
  have f1 : Fr (fun x => x = b) w7 (w7.setCell ⟨b, 1, none⟩ (.slice A' (ps.length + 1) c')) := (Fr.refl (fun x => x = b) _).setCell (p := ⟨b, 1, none⟩) (.inl (show b = b from rfl)) hnb _
  have hsz : (w7.setCell ⟨b, 1, none⟩ (.slice A' (ps.length + 1) c')).heap.size = w7.heap.size := by simp [World.setCell]
  have s5 : Refs (Up S w w5) H w5 (ps ++ [p]) (ds ++ [R]) := h.disks.snoc (S' := Non) (Fr.of_below hb) (fun _ _ _ h => h.elim) hH hs
  have s7 : Refs (Up S w w5) H w7 (ps ++ [p]) (ds ++ [R]) := (s5.fr (S' := Non) (Fr.of_below h6) (fun _ _ _ h => h.elim)).fr f (fun x _ hx hy => (hx hy).elim)
  have l5 : ∀ x, Up S w w5 x → x < w5.heap.size := Up.lt h.lt hb.size
  have s8 : Refs (Up S w w7) (Up H w6 w7) (w7.setCell ⟨b, 1, none⟩ (.slice A' (ps.length + 1) c')) (ps ++ [p]) (ds ++ [R]) := (s7.fr f1 (fun x _ hx e => (hx (e ▸ h.hb)).elim)).mono
    (fun x _ hx => hx.imp_right (fun k => ⟨k.1, Nat.lt_of_lt_of_le k.2 (Nat.le_trans h6.size f.size)⟩))
    (fun x _ hx hy => hy.elim id (fun k => by have := l5 x hx; have := h6.size; omega))
  refine ⟨⟨?_, .inl h.hb, ?_, ?_, s8, fun x hx => by rw [hsz]; exact Up.lt h.lt f7.size x hx, h.per, by simp; omega, ?_⟩, f7.trans' f1 (fun x _ e => h.hS x (e ▸ h.hb))⟩
  · intro x hx
    rcases hx with hx | hx
    · exact .inl (h.hS x hx)
    · exact .inr ⟨Nat.le_trans hb6.size hx.1, hx.2⟩
  · rw [List.length_append, List.length_singleton]
    simpa using b7.set 1 (.slice A' (ps.length + 1) c')
  · rw [List.length_append, List.length_singleton, List.map_append]
    exact hrow.otherBlk b7 (by decide) f1
  · intro x hx
    rcases List.mem_append.1 hx with hx | hx
    · exact h.small x hx
    · rw [List.mem_singleton] at hx; rw [hx]; exact hg

set_option maxHeartbeats 1000000 in
theorem refLogAppend_B {L : Lg} {m : Nat} (h : RlogO S H w b A c ps L.ref) (hinv : L.inv m) (hm : m ≤ 1048576) (B : Option Addr) (rec : List UInt8) (cb : Nat) (hr : Rd S w B rec) (hrl : rec.length ≤ 400) (hcb : rec.length ≤ cb) (hcm : cb ≤ maxLen) :
    Calls Tryz.prog 119 #[.pointer (some ⟨b, 0, none⟩), .slice B rec.length cb] w (RappDid S w (.pointer (some ⟨b, 0, none⟩)) (L.append rec)) := by
  obtain ⟨ip, hip, hzp, hsp, hbp⟩ := info_parts info_pr
  have hF := refFrame_B w B rec cb rec.length (hr.mono (fun _ _ h => h.elim)) rfl hcb hcm
  simp only [if_pos (show rec.length ≤ 65536 by omega)] at hF
  have hsg := hinv.segs
  have hdn := hinv.down
  have hper2 := hinv.per2
  have hleq := hinv.len_le
  obtain ⟨per, gs, dn⟩ := L
  obtain ⟨c0, c1, c2, z1, z2, q1, q2, q3, q4⟩ := h.facts
  cases dn
  · have hgl : ps.length = gs.length := by rw [q1]; simp
    simp only at hsg hdn hper2
    have hfl : (frame rec).length ≤ 35184372088832 := by rw [length_frame]; omega
    have hLen : ∀ w1, Below w.heap.size w w1 → Calls Tryz.prog 23 #[.pointer (some ⟨b, 0, none⟩)] w1 (Told w1 (.int .i64 (Lg.len ⟨per, gs, false⟩ : Int))) := fun w1 hb => refLen_B (h.below hb) hinv (by omega)
    clear q1
    cases hg : gs[gs.length - 1]? with
    | none =>
      obtain rfl : gs = [] := by
        rw [← getLast_at] at hg
        exact List.getLast?_eq_none_iff.1 hg
      replace hgl : ps.length = 0 := hgl
      have k1 : ((ps.length : Int) == 0) = true := by rw [beq_iff_eq]; omega
      have k6 : ((ps.length : Int) == 256) = false := by rw [beq_eq_false_iff_ne]; omega
      have hrm : (⟨per, [], false⟩ : Lg).room = [] ++ [Sg.new (Lg.len ⟨per, [], false⟩)] := rfl
      have hnf : ¬ ((⟨per, [], false⟩ : Lg).full = true ∧ ([] : List Sg).length = 256) := fun h => by simp at h
      generalize hlen : Lg.len ⟨per, [], false⟩ = len at *
      have hnew := Sg.new_is len (by omega)
      rw [hnew] at hrm
      obtain ⟨E, hz0, hal⟩ := append_room hinv hm hrl hnf hrm (g := ⟨⟨false, headB len, 0⟩, len, [], 0⟩) rfl
      rw [hlen] at E
      have HE := Lib.hid E
      have hrl9 : ([] ++ [(⟨⟨false, headB len, 0⟩, len, [], 0⟩ : Sg)]).length = ps.length + 1 := by rw [hgl]; rfl
      have hg256 : (([] : List Sg).map (fun g => g.d.ref)).length < 256 := by simp
      clear E hrm hnf hnew hg hlen hgl
      go_enter Tryz.func119, Tryz.ntmps119
      go_wp2_with (first
        | (go_at_call 153; refine hF.mono ?_; rintro e w1 ⟨A1, c1r, rfl, ho1, hc1, hm1, hb1⟩; have hl1 := hLen w1 hb1; clear hF hLen)
        | (go_at_call 23; refine hl1.mono ?_; rintro e w2 ⟨rfl, hb2⟩; have hbl := hb1.trans (hb2.mono hb1.size); obtain ⟨d0, d1, d2, y1, y2, -, -, -, -⟩ := (h.below hbl).facts; clear hl1))
      have hFl : Own Any w2 A1 (frame rec) := (Own.mono ho1 (fun _ _ => trivial)).fr (S' := Non) (Fr.of_below hb2)
      have hnum := refNum_B w2 none 0 [] (Rd.nil _ _ _) (by simp) len (by omega)
      go_wp2_with (first
        | (go_at_call 118; refine hnum.mono ?_; rintro e w5 ⟨v5, rfl, ho5, hb5⟩; rw [List.nil_append] at ho5; obtain ⟨A5, c5, rfl, hc5, hm5⟩ := own_val ho5; have hFr := refFrame_B w5 A5 (numB len) c5 (numB len).length ((Own.of_row' ho5).rd _) rfl hc5 hm5; simp only [if_pos (show (numB len).length ≤ 65536 by have := numB_10 (n := len) (by omega); omega)] at hFr; clear hnum)
        | (go_at_call 153; refine hFr.mono ?_; rintro e w6 ⟨A6, c6, rfl, ho6, hc6, hm6, hb6⟩; clear hFr; have hb15 := hbl.trans (hb5.mono hbl.size); have h5 := h.below hb15; have h6 := h5.below hb6; have hn7 := below_new w6 (.cells #[.slice none 0 0, .slice A6 (frame (numB len)).length c6, .bool false] 187); have h7 := h6.below hn7; obtain ⟨b0, b1, b2, b3, b4, -, -, -, -⟩ := h7.facts; obtain ⟨a0, a1, a2, a3, a4, -, -, -, -⟩ := h6.facts; have hb57 := hb6.trans (hn7.mono hb6.size); have hs7 := RefB.fresh hb6 ho6 hc6 (headB_22 (base := len) (by omega)); have hk7 : (⟨[], headB len, false⟩ : Rk).kept.length + (⟨[], headB len, false⟩ : Rk).rest.length ≤ 4194304 := by have := headB_22 (base := len) (by omega); simp only [List.length_nil]; omega)
        | (at_builtin; refine wpList_append_row rfl (.tmp 86) (.tmp 90) 38 rfl TPr ip _ 8 Tryz.underlying38 hip hzp hsp hbp rfl (.slice A ps.length c) (ps.map ptr) rfl ((h7.row).below (below_new _ _)) ⟨w6.heap.size + 1, 0, none⟩ (ptr w6.heap.size) rfl (cell_after w6 _ _ _) rfl (by rw [List.length_map]; unfold maxLen; omega) (by rw [List.length_map]; omega) (by decide) ?_; intro v8 w8 hrow8 hf8 hoth8; obtain ⟨A8, c8, rfl, hc8, hm8⟩ := hrow8.val; rw [List.length_append, List.length_map, List.length_singleton] at hrow8 hc8 ⊢; have hbk8 := (hoth8 b (Nat.lt_of_lt_of_le h7.blk.lt (below_new (w6.alloc (.cells #[.slice none 0 0, .slice A6 (frame (numB len)).length c6, .bool false] 187)) _).size) (((h7.row).below (below_new (w6.alloc (.cells #[.slice none 0 0, .slice A6 (frame (numB len)).length c6, .bool false] 187)) (.cells #[ptr w6.heap.size] TPr))).ownNe (h7.blk.eq ((below_new (w6.alloc (.cells #[.slice none 0 0, .slice A6 (frame (numB len)).length c6, .bool false] 187)) (.cells #[ptr w6.heap.size] TPr)).block b h7.blk.lt)) (by decide))).trans ((below_new (w6.alloc (.cells #[.slice none 0 0, .slice A6 (frame (numB len)).length c6, .bool false] 187)) (.cells #[ptr w6.heap.size] TPr)).block b h7.blk.lt); have z8 := (frozen_eq (a := ⟨b, 1, none⟩) hbk8).trans b3; have e8 := (cell_eq (a := ⟨b, 1, none⟩) hbk8).trans b1; obtain ⟨H9, ho9, F9⟩ : ∃ H9, RlogO _ H9 _ _ _ _ _ _ ∧ Fr _ _ _ := ⟨_, h5.grow hg256 hb57 hs7 hk7 (below_new (w6.alloc (.cells #[.slice none 0 0, .slice A6 (frame (numB len)).length c6, .bool false] 187)) (.cells #[ptr w6.heap.size] TPr)) hf8 hoth8 hrow8⟩))
      have hsz9 : (w8.setCell ⟨b, 1, none⟩ (.slice A8 (ps.length + 1) c8)).heap.size = w8.heap.size := by simp [World.setCell]
      generalize (w8.setCell ⟨b, 1, none⟩ (.slice A8 (ps.length + 1) c8)) = w9 at *
      have hbs := hb15.size
      have hS9 : ∀ x, Up S w5 w8 x → Up S w w9 x := fun x hx => hx.imp_right (fun k => ⟨by omega, by omega⟩)
      have hf9 : Fr S w w9 := (Fr.of_below hb15).trans' F9 (fun _ _ h => h)
      have hF9 : Own Any w9 A1 (frame rec) := (hFl.fr (S' := Non) (Fr.of_below hb5)).fr F9
      have hps9 : (ps ++ [w6.heap.size]).length = ps.length + 1 := by rw [List.length_append, List.length_singleton]
      have hok9 : (⟨false, headB len, 0⟩ : Dk).ok := ⟨Nat.zero_le _, by have := headB_22 (base := len) (by omega); simp only; omega⟩
      have hg9 : ([] ++ [(⟨⟨false, headB len, 0⟩, len, [], 0⟩ : Sg)])[ps.length + 1 - 1]? = some (⟨⟨false, headB len, 0⟩, len, [], 0⟩ : Sg) := by rw [← hrl9]; simp
      have ho9' : RlogO (Up S w5 w8) H9 w9 b A8 c8 (ps ++ [w6.heap.size]) ⟨per, ([] ++ [(⟨⟨false, headB len, 0⟩, len, [], 0⟩ : Sg)]).map (fun g : Sg => g.d.ref), false⟩ := by
        rw [List.map_append]
        exact ho9
      clear ho9 F9 hs7 hk7 hn7
      obtain ⟨nn, hnn⟩ : ∃ nn, ps.length + 1 = nn := ⟨_, rfl⟩
      rw [hnn] at hps9 hg9 hrl9
      have hnp : 1 ≤ nn := by omega
      have hn2 : nn ≤ 256 := by have := ho9'.few; rw [List.length_map, hrl9] at this; exact this
      have c19 : w9.cell? ⟨b, 1, none⟩ = some (.slice A8 nn c8) := by rw [← hps9]; exact ho9'.facts.2.1
      obtain ⟨p9, hp9⟩ : ∃ p, (ps ++ [w6.heap.size])[nn - 1]? = some p := ⟨_, List.getElem?_eq_getElem (by omega)⟩
      obtain ⟨g9b, o9b, hA9, c9b⟩ := ho9'.ptrAt hp9
      subst hA9
      obtain ⟨Sd, e1, e2, e3, e4, hd9, hSd, hup9⟩ := (ho9'.below (Below.refl _ _).drew).disk hp9 (R := Dk.ref ⟨false, headB len, 0⟩) (by rw [List.getElem?_map, hg9]; rfl)
      have hA := refAppend_B hd9 A1 (frame rec) c1r hfl (Own.rd (w := w9.drew) hF9 Sd)
      have hz1 := (ref_append hok9 (frame rec)).2.symm.trans hz0
      have r1 := (ref_append hok9 (frame rec)).1
      generalize hRR : Rk.append (Dk.ref ⟨false, headB len, 0⟩) (frame rec) = RR at hA hz1 r1
      have n2 : IntKind.i64.wrap ((nn : Int) - 1) = (nn : Int) - 1 := by rw [IntKind.wrap_i64]; omega
      have n3 : ((nn : Int) - 1).toNat = nn - 1 := by omega
      have n4 : (0 : Int) ≤ (nn : Int) - 1 := by omega
      have n5 : 1 ≤ (nn : Int) := by omega
      have n6 : (nn : Int) - 1 < (nn : Int) := by omega
      have HZ := Lib.hid hz1
      have HR := Lib.hid r1
      have HN := Lib.hid hrl9
      clear hp9 hg9 hd9 hz1 r1 hRR hrl9
      refine wp_region_T #[[], [], [], [], [], [], [], [], [7], [7], [3, 7], [3, 7], [], [3, 7, 11], [3, 7, 11]] [3, 7, 11] (fun w' => w'.cell? ⟨b, 1, none⟩ = some (.slice (some ⟨g9b, o9b, none⟩) nn c8) ∧ w'.cell? ⟨g9b, o9b + (nn - 1), none⟩ = some (.pointer (some ⟨p9, 0, none⟩))) 15 rfl (by kernel_rfl) ?_
      (refine wpF (i := 0) rfl (by kernel_rfl) rfl (fun _ _ _ h => h) (fun _ => by go_simp; try rfl) ?_; (try simp only [Act.put, sA, sB, sC]))
      (refine wpF (i := 1) rfl (by kernel_rfl) rfl (fun _ _ _ h => h) (fun _ => by go_simp; try rfl) ?_; (try simp only [Act.put, sA, sB, sC]))
      (refine wpF (i := 2) rfl (by kernel_rfl) rfl (fun _ _ _ h => h) (fun _ => by go_simp; try rfl) ?_; (try simp only [Act.put, sA, sB, sC]))
      (refine wpAnyT_read (i := 3) rfl (by kernel_rfl) rfl (fun _ _ _ h => h) (by kernel_rfl) (⟨c19, c9b⟩) (fun w hS_ => by obtain ⟨s_1, s_2⟩ := hS_; go_simp; try rfl) ?_; (try simp only [Act.put, sA, sB, sC]))
      (refine wpF (i := 4) rfl (by kernel_rfl) rfl (fun _ _ _ h => h) (fun _ => by go_simp; try rfl) ?_; (try simp only [Act.put, sA, sB, sC]))
      (refine wpF (i := 5) rfl (by kernel_rfl) rfl (fun _ _ _ h => h) (fun _ => by go_simp; try rfl) ?_; (try simp only [Act.put, sA, sB, sC]))
      (refine wpF (i := 6) rfl (by kernel_rfl) rfl (fun _ _ _ h => h) (fun _ => by go_simp; try rfl) ?_; (try simp only [Act.put, sA, sB, sC]))
      (refine wpAnyT_read (i := 7) rfl (by kernel_rfl) rfl (fun _ _ _ h => h) (by kernel_rfl) (⟨c19, c9b⟩) (fun w hS_ => by obtain ⟨s_1, s_2⟩ := hS_; go_simp; try rfl) ?_; (try simp only [Act.put, sA, sB, sC]))
      (refine wpF (i := 8) rfl (by kernel_rfl) rfl (fun _ _ _ h => h) (fun _ => by go_simp; try rfl) ?_; (try simp only [Act.put, sA, sB, sC]))
      (refine wpF (i := 9) rfl (by kernel_rfl) rfl (fun _ _ _ h => h) (fun _ => by go_simp; try rfl) ?_; (try simp only [Act.put, sA, sB, sC]))
      (refine wpF (i := 10) rfl (by kernel_rfl) rfl (fun _ _ _ h => h) (fun _ => by go_simp; try rfl) ?_; (try simp only [Act.put, sA, sB, sC]))
      (refine wpAnyT_read (i := 11) rfl (by kernel_rfl) rfl (fun _ _ _ h => h) (by kernel_rfl) (⟨c19, c9b⟩) (fun w hS_ => by obtain ⟨s_1, s_2⟩ := hS_; go_simp; try rfl) ?_; (try simp only [Act.put, sA, sB, sC]))
      (refine wpF (i := 12) rfl (by kernel_rfl) rfl (fun _ _ _ h => h) (fun _ => by go_simp; try rfl) ?_; (try simp only [Act.put, sA, sB, sC]))
      refine wpAnyT_sink (i := 13) rfl (by kernel_rfl) rfl (by kernel_rfl) ?_
      intro K_ hK_
      go_wp2_with ((go_at_call 154; refine hA.mono ?_; rintro e w10 ⟨rfl, hd10, hf10⟩; rw [HZ.out]))
      (try (refine hK_ _ _ ?_; clear hK_ K_))
      (try simp only [Act.put, sA, sB, sC])
      (refine wpF (i := 14) rfl (by kernel_rfl) rfl (fun _ _ _ h => h) (fun _ => by go_simp; try rfl) ?_; (try simp only [Act.put, sA, sB, sC]))
      refine wpAnyT_done (by kernel_rfl) ?_ _
      go_wp2
      go_ret2
      unfold RappDid
      rw [HE.out]
      rw [← HR.out] at hd10
      have ho10 := hup9 w10 _ hf10 hd10 (by rw [ref_total]; exact hal)
      have hs10 := hf10.size
      have hsd : w9.drew.heap.size = w9.heap.size := rfl
      rw [HN.out]
      refine ⟨rfl, ⟨_, b, _, _, _, rfl, ho10.asRef.mono (fun x hx => ?_) (fun x hx => ?_)⟩, hf9.drew.trans' hf10 (fun x hb hx => (hS9 x (hSd x hx)).elim id (fun h => by have := h.1; omega))⟩
      · rcases hx with hx | hx
        · exact (hS9 x hx).imp_right (fun k => ⟨k.1, by have := k.2; omega⟩)
        · exact .inr ⟨by have := hf9.size; have := hx.1; omega, hx.2⟩
      · exact hx.elim (fun hx => by have := h.lt x hx; have := hf9.size; omega) (fun k => k.2)
    | some g =>
      have hm' := List.mem_of_getElem? hg
      have hgi := hsg g hm'
      have hgd := hdn g hm'
      have hlt := (List.getElem?_eq_some_iff.1 hg).1
      have hpos : 0 < ps.length := by omega
      have hfull : (⟨per, gs, false⟩ : Lg).full = decide (g.recs.length = per) := by
        unfold Lg.full
        simp only
        rw [getLast_at, hg]
      obtain ⟨p, hp⟩ : ∃ p, ps[ps.length - 1]? = some p := ⟨_, List.getElem?_eq_getElem (by omega)⟩
      obtain ⟨ga, oa, rfl, ca⟩ := h.ptrAt hp
      have hsm := h.small g.d.ref (List.mem_map.2 ⟨g, hm', rfl⟩)
      have hall : ∀ w1, Below w.heap.size w w1 → Calls Tryz.prog 80 #[.pointer (some ⟨p, 0, none⟩)] w1 (Cloned w1 g.d.ref.all) := fun w1 hb1 => by
        obtain ⟨Sd, A1, c1', A2, c2', href, hSd, -⟩ := (h.below hb1).disk hp (R := g.d.ref) (by show (gs.map (fun g => g.d.ref))[ps.length - 1]? = _; rw [List.getElem?_map, hgl, hg]; rfl)
        exact refAll_B href hsm
      have hl5 : g.d.ref.all.length ≤ 4194304 := by rw [Rk.all, List.length_append]; exact hsm
      have k1 : ((ps.length : Int) == 0) = false := by rw [beq_eq_false_iff_ne]; omega
      have j2 : IntKind.i64.wrap ((ps.length : Int) - 1) = (ps.length : Int) - 1 := by rw [IntKind.wrap_i64]; omega
      have j3 : ((ps.length : Int) - 1).toNat = ps.length - 1 := by omega
      have j4 : (0 : Int) ≤ (ps.length : Int) - 1 := by omega
      have j5 : 1 ≤ (ps.length : Int) := by omega
      have j6 : (ps.length : Int) - 1 < (ps.length : Int) := by omega
      by_cases hfu : g.recs.length = per
      · have k5 : ((g.recs.length : Int) == (per : Int)) = true := by rw [beq_iff_eq]; omega
        by_cases h256 : gs.length = 256
        · have E : Lg.append ⟨per, gs, false⟩ rec = (⟨per, gs, false⟩, 0, 7) := by
            unfold Lg.append
            simp only [Bool.false_eq_true, if_false]
            rw [if_neg (by omega), if_pos ⟨by rw [hfull]; exact decide_eq_true hfu, h256⟩]
          have k6 : ((ps.length : Int) == 256) = true := by rw [beq_iff_eq]; omega
          have HE := Lib.hid E
          clear E hfull hg hgl h256 hp hlt
          go_enter Tryz.func119, Tryz.ntmps119
          go_wp2_with (first
            | (go_at_call 153; refine hF.mono ?_; rintro e w1 ⟨A1, c1r, rfl, ho1, hc1, hm1, hb1⟩; have hl1 := hLen w1 hb1; clear hF hLen)
            | (go_at_call 23; refine hl1.mono ?_; rintro e w2 ⟨rfl, hb2⟩; have hb12 := hb1.trans (hb2.mono hb1.size); obtain ⟨d0, d1, d2, y1, y2, -, -, -, -⟩ := (h.below hb12).facts; have cb := (hb12.cell (p := ⟨ga, oa + (ps.length - 1), none⟩) (cell_lt ca)).trans ca; clear hl1))
          have hac := hall w2.drew hb12.drew
          refine wp_region_T #[[], [], [], [], [], [], [], [], [7], [7], [3, 7], [3, 7], [3, 7, 11], [3, 7, 11], [3, 7, 11], [3, 7, 11], [3, 7, 11], [3, 7, 11], [3, 7, 11], [3, 7, 11], [3, 7, 11]] [3, 7, 11] (fun w' => w'.cell? ⟨b, 1, none⟩ = some (.slice (some ⟨ga, oa, none⟩) ps.length c) ∧ w'.cell? ⟨ga, oa + (ps.length - 1), none⟩ = some (.pointer (some ⟨p, 0, none⟩))) 21 rfl (by kernel_rfl) ?_
          (refine wpF (i := 0) rfl (by kernel_rfl) rfl (fun _ _ _ h => h) (fun _ => by go_simp; try rfl) ?_; (try simp only [Act.put, sA, sB, sC]))
          (refine wpF (i := 1) rfl (by kernel_rfl) rfl (fun _ _ _ h => h) (fun _ => by go_simp; try rfl) ?_; (try simp only [Act.put, sA, sB, sC]))
          (refine wpF (i := 2) rfl (by kernel_rfl) rfl (fun _ _ _ h => h) (fun _ => by go_simp; try rfl) ?_; (try simp only [Act.put, sA, sB, sC]))
          (refine wpAnyT_read (i := 3) rfl (by kernel_rfl) rfl (fun _ _ _ h => h) (by kernel_rfl) (⟨d1, cb⟩) (fun w hS_ => by obtain ⟨s_1, s_2⟩ := hS_; go_simp; try rfl) ?_; (try simp only [Act.put, sA, sB, sC]))
          (refine wpF (i := 4) rfl (by kernel_rfl) rfl (fun _ _ _ h => h) (fun _ => by go_simp; try rfl) ?_; (try simp only [Act.put, sA, sB, sC]))
          (refine wpF (i := 5) rfl (by kernel_rfl) rfl (fun _ _ _ h => h) (fun _ => by go_simp; try rfl) ?_; (try simp only [Act.put, sA, sB, sC]))
          (refine wpF (i := 6) rfl (by kernel_rfl) rfl (fun _ _ _ h => h) (fun _ => by go_simp; try rfl) ?_; (try simp only [Act.put, sA, sB, sC]))
          (refine wpAnyT_read (i := 7) rfl (by kernel_rfl) rfl (fun _ _ _ h => h) (by kernel_rfl) (⟨d1, cb⟩) (fun w hS_ => by obtain ⟨s_1, s_2⟩ := hS_; go_simp; try rfl) ?_; (try simp only [Act.put, sA, sB, sC]))
          (refine wpF (i := 8) rfl (by kernel_rfl) rfl (fun _ _ _ h => h) (fun _ => by go_simp; try rfl) ?_; (try simp only [Act.put, sA, sB, sC]))
          (refine wpF (i := 9) rfl (by kernel_rfl) rfl (fun _ _ _ h => h) (fun _ => by go_simp; try rfl) ?_; (try simp only [Act.put, sA, sB, sC]))
          (refine wpF (i := 10) rfl (by kernel_rfl) rfl (fun _ _ _ h => h) (fun _ => by go_simp; try rfl) ?_; (try simp only [Act.put, sA, sB, sC]))
          (refine wpAnyT_read (i := 11) rfl (by kernel_rfl) rfl (fun _ _ _ h => h) (by kernel_rfl) (⟨d1, cb⟩) (fun w hS_ => by obtain ⟨s_1, s_2⟩ := hS_; go_simp; try rfl) ?_; (try simp only [Act.put, sA, sB, sC]))
          refine wpAnyT_sink (i := 12) rfl (by kernel_rfl) rfl (by kernel_rfl) ?_
          intro K_ hK_
          go_wp2_with ((go_at_call 80; refine hac.mono ?_; rintro e w3 ⟨A3, c3, rfl, ho3, hc3, hm3, hb3⟩; have hpa := parse_up hgi (by omega) hgd hc3 hl5 ((Own.of_row' ho3).rd _); clear hac))
          (try (refine hK_ _ _ ?_; clear hK_ K_))
          (try simp only [Act.put, sA, sB, sC])
          refine wpAnyT_sink (i := 13) rfl (by kernel_rfl) rfl (by kernel_rfl) ?_
          intro K_ hK_
          go_wp2_with ((go_at_call 79; refine hpa.mono ?_; rintro e w4 ⟨R4, cr4, vals4, rfl, -, -, hb34⟩; clear hpa))
          (try (refine hK_ _ _ ?_; clear hK_ K_))
          (try simp only [Act.put, sA, sB, sC])
          (refine wpF (i := 14) rfl (by kernel_rfl) rfl (fun _ _ _ h => h) (fun _ => by go_simp; try rfl) ?_; (try simp only [Act.put, sA, sB, sC]))
          (refine wpF (i := 15) rfl (by kernel_rfl) rfl (fun _ _ _ h => h) (fun _ => by go_simp; try rfl) ?_; (try simp only [Act.put, sA, sB, sC]))
          (refine wpF (i := 16) rfl (by kernel_rfl) rfl (fun _ _ _ h => h) (fun _ => by go_simp; try rfl) ?_; (try simp only [Act.put, sA, sB, sC]))
          (refine wpF (i := 17) rfl (by kernel_rfl) rfl (fun _ _ _ h => h) (fun _ => by go_simp; try rfl) ?_; (try simp only [Act.put, sA, sB, sC]))
          (refine wpF (i := 18) rfl (by kernel_rfl) rfl (fun _ _ _ h => h) (fun _ => by go_simp; try rfl) ?_; (try simp only [Act.put, sA, sB, sC]))
          (refine wpF (i := 19) rfl (by kernel_rfl) rfl (fun _ _ _ h => h) (fun _ => by go_simp; try rfl) ?_; (try simp only [Act.put, sA, sB, sC]))
          (refine wpF (i := 20) rfl (by kernel_rfl) rfl (fun _ _ _ h => h) (fun _ => by go_simp; try rfl) ?_; (try simp only [Act.put, sA, sB, sC]))
          refine wpAnyT_done (by kernel_rfl) ?_ _
          have hb4 : Below w.heap.size w w4 := (hb12.drew.trans (hb3.mono hb12.drew.size)).trans (hb34.mono (hb12.drew.trans (hb3.mono hb12.drew.size)).size)
          obtain ⟨x0, x1, x2, x3, x4, -, -, -, -⟩ := (h.below hb4).facts
          go_wp2
          go_ret2
          have hb6 : Below w.heap.size w w4 := hb4
          unfold RappDid
          rw [HE.out]
          exact ⟨rfl, ⟨_, _, _, _, _, rfl, (h.below hb6).mono (fun _ => .inl) (Up.lt h.lt hb6.size)⟩, Fr.of_below hb6⟩
        · have hrm : (⟨per, gs, false⟩ : Lg).room = gs ++ [Sg.new (Lg.len ⟨per, gs, false⟩)] := by unfold Lg.room; rw [hfull, if_pos (decide_eq_true hfu)]
          have hnf : ¬ ((⟨per, gs, false⟩ : Lg).full = true ∧ gs.length = 256) := fun h => h256 h.2
          generalize hlen : Lg.len ⟨per, gs, false⟩ = len at *
          have hnew := Sg.new_is len (by omega)
          rw [hnew] at hrm
          obtain ⟨E, hz0, hal⟩ := append_room hinv hm hrl hnf hrm (g := ⟨⟨false, headB len, 0⟩, len, [], 0⟩) (by simp)
          rw [hlen] at E
          have HE := Lib.hid E
          have k6 : ((ps.length : Int) == 256) = false := by rw [beq_eq_false_iff_ne]; omega
          have hrl9 : (gs ++ [(⟨⟨false, headB len, 0⟩, len, [], 0⟩ : Sg)]).length = ps.length + 1 := by rw [List.length_append, List.length_singleton, hgl]
          have hg256 : (gs.map (fun g => g.d.ref)).length < 256 := by rw [List.length_map]; omega
          have HG := Lib.hid hgl
          clear E hfull hg h256 hp hlt hrm hnf hnew hlen hgl
          go_enter Tryz.func119, Tryz.ntmps119
          go_wp2_with (first
            | (go_at_call 153; refine hF.mono ?_; rintro e w1 ⟨A1, c1r, rfl, ho1, hc1, hm1, hb1⟩; have hl1 := hLen w1 hb1; clear hF hLen)
            | (go_at_call 23; refine hl1.mono ?_; rintro e w2 ⟨rfl, hb2⟩; have hb12 := hb1.trans (hb2.mono hb1.size); obtain ⟨d0, d1, d2, y1, y2, -, -, -, -⟩ := (h.below hb12).facts; have cb := (hb12.cell (p := ⟨ga, oa + (ps.length - 1), none⟩) (cell_lt ca)).trans ca; clear hl1))
          have hac := hall w2.drew hb12.drew
          refine wp_region_T #[[], [], [], [], [], [], [], [], [7], [7], [3, 7], [3, 7], [3, 7, 11], [3, 7, 11], [3, 7, 11], [3, 7, 11], [3, 7, 11], [3, 7, 11], [3, 7, 11], [3, 7, 11], [3, 7, 11]] [3, 7, 11] (fun w' => w'.cell? ⟨b, 1, none⟩ = some (.slice (some ⟨ga, oa, none⟩) ps.length c) ∧ w'.cell? ⟨ga, oa + (ps.length - 1), none⟩ = some (.pointer (some ⟨p, 0, none⟩))) 21 rfl (by kernel_rfl) ?_
          (refine wpF (i := 0) rfl (by kernel_rfl) rfl (fun _ _ _ h => h) (fun _ => by go_simp; try rfl) ?_; (try simp only [Act.put, sA, sB, sC]))
          (refine wpF (i := 1) rfl (by kernel_rfl) rfl (fun _ _ _ h => h) (fun _ => by go_simp; try rfl) ?_; (try simp only [Act.put, sA, sB, sC]))
          (refine wpF (i := 2) rfl (by kernel_rfl) rfl (fun _ _ _ h => h) (fun _ => by go_simp; try rfl) ?_; (try simp only [Act.put, sA, sB, sC]))
          (refine wpAnyT_read (i := 3) rfl (by kernel_rfl) rfl (fun _ _ _ h => h) (by kernel_rfl) (⟨d1, cb⟩) (fun w hS_ => by obtain ⟨s_1, s_2⟩ := hS_; go_simp; try rfl) ?_; (try simp only [Act.put, sA, sB, sC]))
          (refine wpF (i := 4) rfl (by kernel_rfl) rfl (fun _ _ _ h => h) (fun _ => by go_simp; try rfl) ?_; (try simp only [Act.put, sA, sB, sC]))
          (refine wpF (i := 5) rfl (by kernel_rfl) rfl (fun _ _ _ h => h) (fun _ => by go_simp; try rfl) ?_; (try simp only [Act.put, sA, sB, sC]))
          (refine wpF (i := 6) rfl (by kernel_rfl) rfl (fun _ _ _ h => h) (fun _ => by go_simp; try rfl) ?_; (try simp only [Act.put, sA, sB, sC]))
          (refine wpAnyT_read (i := 7) rfl (by kernel_rfl) rfl (fun _ _ _ h => h) (by kernel_rfl) (⟨d1, cb⟩) (fun w hS_ => by obtain ⟨s_1, s_2⟩ := hS_; go_simp; try rfl) ?_; (try simp only [Act.put, sA, sB, sC]))
          (refine wpF (i := 8) rfl (by kernel_rfl) rfl (fun _ _ _ h => h) (fun _ => by go_simp; try rfl) ?_; (try simp only [Act.put, sA, sB, sC]))
          (refine wpF (i := 9) rfl (by kernel_rfl) rfl (fun _ _ _ h => h) (fun _ => by go_simp; try rfl) ?_; (try simp only [Act.put, sA, sB, sC]))
          (refine wpF (i := 10) rfl (by kernel_rfl) rfl (fun _ _ _ h => h) (fun _ => by go_simp; try rfl) ?_; (try simp only [Act.put, sA, sB, sC]))
          (refine wpAnyT_read (i := 11) rfl (by kernel_rfl) rfl (fun _ _ _ h => h) (by kernel_rfl) (⟨d1, cb⟩) (fun w hS_ => by obtain ⟨s_1, s_2⟩ := hS_; go_simp; try rfl) ?_; (try simp only [Act.put, sA, sB, sC]))
          refine wpAnyT_sink (i := 12) rfl (by kernel_rfl) rfl (by kernel_rfl) ?_
          intro K_ hK_
          go_wp2_with ((go_at_call 80; refine hac.mono ?_; rintro e w3 ⟨A3, c3, rfl, ho3, hc3, hm3, hb3⟩; have hpa := parse_up hgi (by omega) hgd hc3 hl5 ((Own.of_row' ho3).rd _); clear hac))
          (try (refine hK_ _ _ ?_; clear hK_ K_))
          (try simp only [Act.put, sA, sB, sC])
          refine wpAnyT_sink (i := 13) rfl (by kernel_rfl) rfl (by kernel_rfl) ?_
          intro K_ hK_
          go_wp2_with ((go_at_call 79; refine hpa.mono ?_; rintro e w4 ⟨R4, cr4, vals4, rfl, -, -, hb34⟩; clear hpa))
          (try (refine hK_ _ _ ?_; clear hK_ K_))
          (try simp only [Act.put, sA, sB, sC])
          (refine wpF (i := 14) rfl (by kernel_rfl) rfl (fun _ _ _ h => h) (fun _ => by go_simp; try rfl) ?_; (try simp only [Act.put, sA, sB, sC]))
          (refine wpF (i := 15) rfl (by kernel_rfl) rfl (fun _ _ _ h => h) (fun _ => by go_simp; try rfl) ?_; (try simp only [Act.put, sA, sB, sC]))
          (refine wpF (i := 16) rfl (by kernel_rfl) rfl (fun _ _ _ h => h) (fun _ => by go_simp; try rfl) ?_; (try simp only [Act.put, sA, sB, sC]))
          (refine wpF (i := 17) rfl (by kernel_rfl) rfl (fun _ _ _ h => h) (fun _ => by go_simp; try rfl) ?_; (try simp only [Act.put, sA, sB, sC]))
          (refine wpF (i := 18) rfl (by kernel_rfl) rfl (fun _ _ _ h => h) (fun _ => by go_simp; try rfl) ?_; (try simp only [Act.put, sA, sB, sC]))
          (refine wpF (i := 19) rfl (by kernel_rfl) rfl (fun _ _ _ h => h) (fun _ => by go_simp; try rfl) ?_; (try simp only [Act.put, sA, sB, sC]))
          (refine wpF (i := 20) rfl (by kernel_rfl) rfl (fun _ _ _ h => h) (fun _ => by go_simp; try rfl) ?_; (try simp only [Act.put, sA, sB, sC]))
          refine wpAnyT_done (by kernel_rfl) ?_ _
          have hb4 : Below w.heap.size w w4 := (hb12.drew.trans (hb3.mono hb12.drew.size)).trans (hb34.mono (hb12.drew.trans (hb3.mono hb12.drew.size)).size)
          obtain ⟨x0, x1, x2, x3, x4, -, -, -, -⟩ := (h.below hb4).facts
          have hbl := hb4
          have hFl : Own Any w4 A1 (frame rec) := (Own.mono ho1 (fun _ _ => trivial)).fr (S' := Non) (Fr.of_below (Below.mono (show Below w1.heap.size w1 w4 from ((hb2.drew.trans (hb3.mono hb2.size)).trans (hb34.mono (hb2.drew.trans (hb3.mono hb2.size)).size))) (Nat.le_refl _)))
          have hnum := refNum_B w4 none 0 [] (Rd.nil _ _ _) (by simp) len (by omega)
          go_wp2_with (first
            | (go_at_call 118; refine hnum.mono ?_; rintro e w5 ⟨v5, rfl, ho5, hb5⟩; rw [List.nil_append] at ho5; obtain ⟨A5, c5, rfl, hc5, hm5⟩ := own_val ho5; have hFr := refFrame_B w5 A5 (numB len) c5 (numB len).length ((Own.of_row' ho5).rd _) rfl hc5 hm5; simp only [if_pos (show (numB len).length ≤ 65536 by have := numB_10 (n := len) (by omega); omega)] at hFr; clear hnum)
            | (go_at_call 153; refine hFr.mono ?_; rintro e w6 ⟨A6, c6, rfl, ho6, hc6, hm6, hb6⟩; clear hFr; have hb15 := hbl.trans (hb5.mono hbl.size); have h5 := h.below hb15; have h6 := h5.below hb6; have hn7 := below_new w6 (.cells #[.slice none 0 0, .slice A6 (frame (numB len)).length c6, .bool false] 187); have h7 := h6.below hn7; obtain ⟨b0, b1, b2, b3, b4, -, -, -, -⟩ := h7.facts; obtain ⟨a0, a1, a2, a3, a4, -, -, -, -⟩ := h6.facts; have hb57 := hb6.trans (hn7.mono hb6.size); have hs7 := RefB.fresh hb6 ho6 hc6 (headB_22 (base := len) (by omega)); have hk7 : (⟨[], headB len, false⟩ : Rk).kept.length + (⟨[], headB len, false⟩ : Rk).rest.length ≤ 4194304 := by have := headB_22 (base := len) (by omega); simp only [List.length_nil]; omega)
            | (at_builtin; refine wpList_append_row rfl (.tmp 86) (.tmp 90) 38 rfl TPr ip _ 8 Tryz.underlying38 hip hzp hsp hbp rfl (.slice (some ⟨ga, oa, none⟩) ps.length c) (ps.map ptr) rfl ((h7.row).below (below_new _ _)) ⟨w6.heap.size + 1, 0, none⟩ (ptr w6.heap.size) rfl (cell_after w6 _ _ _) rfl (by rw [List.length_map]; unfold maxLen; omega) (by rw [List.length_map]; omega) (by decide) ?_; intro v8 w8 hrow8 hf8 hoth8; obtain ⟨A8, c8, rfl, hc8, hm8⟩ := hrow8.val; rw [List.length_append, List.length_map, List.length_singleton] at hrow8 hc8 ⊢; have hbk8 := (hoth8 b (Nat.lt_of_lt_of_le h7.blk.lt (below_new (w6.alloc (.cells #[.slice none 0 0, .slice A6 (frame (numB len)).length c6, .bool false] 187)) _).size) (((h7.row).below (below_new (w6.alloc (.cells #[.slice none 0 0, .slice A6 (frame (numB len)).length c6, .bool false] 187)) (.cells #[ptr w6.heap.size] TPr))).ownNe (h7.blk.eq ((below_new (w6.alloc (.cells #[.slice none 0 0, .slice A6 (frame (numB len)).length c6, .bool false] 187)) (.cells #[ptr w6.heap.size] TPr)).block b h7.blk.lt)) (by decide))).trans ((below_new (w6.alloc (.cells #[.slice none 0 0, .slice A6 (frame (numB len)).length c6, .bool false] 187)) (.cells #[ptr w6.heap.size] TPr)).block b h7.blk.lt); have z8 := (frozen_eq (a := ⟨b, 1, none⟩) hbk8).trans b3; have e8 := (cell_eq (a := ⟨b, 1, none⟩) hbk8).trans b1; obtain ⟨H9, ho9, F9⟩ : ∃ H9, RlogO _ H9 _ _ _ _ _ _ ∧ Fr _ _ _ := ⟨_, h5.grow hg256 hb57 hs7 hk7 (below_new (w6.alloc (.cells #[.slice none 0 0, .slice A6 (frame (numB len)).length c6, .bool false] 187)) (.cells #[ptr w6.heap.size] TPr)) hf8 hoth8 hrow8⟩))
          have hsz9 : (w8.setCell ⟨b, 1, none⟩ (.slice A8 (ps.length + 1) c8)).heap.size = w8.heap.size := by simp [World.setCell]
          generalize (w8.setCell ⟨b, 1, none⟩ (.slice A8 (ps.length + 1) c8)) = w9 at *
          have hbs := hb15.size
          have hS9 : ∀ x, Up S w5 w8 x → Up S w w9 x := fun x hx => hx.imp_right (fun k => ⟨by omega, by omega⟩)
          have hf9 : Fr S w w9 := (Fr.of_below hb15).trans' F9 (fun _ _ h => h)
          have hF9 : Own Any w9 A1 (frame rec) := (hFl.fr (S' := Non) (Fr.of_below hb5)).fr F9
          have hps9 : (ps ++ [w6.heap.size]).length = ps.length + 1 := by rw [List.length_append, List.length_singleton]
          have hok9 : (⟨false, headB len, 0⟩ : Dk).ok := ⟨Nat.zero_le _, by have := headB_22 (base := len) (by omega); simp only; omega⟩
          have hg9 : (gs ++ [(⟨⟨false, headB len, 0⟩, len, [], 0⟩ : Sg)])[ps.length + 1 - 1]? = some (⟨⟨false, headB len, 0⟩, len, [], 0⟩ : Sg) := by rw [← hrl9]; simp
          have ho9' : RlogO (Up S w5 w8) H9 w9 b A8 c8 (ps ++ [w6.heap.size]) ⟨per, (gs ++ [(⟨⟨false, headB len, 0⟩, len, [], 0⟩ : Sg)]).map (fun g : Sg => g.d.ref), false⟩ := by
            rw [List.map_append]
            exact ho9
          clear ho9 F9 hs7 hk7 hn7
          obtain ⟨nn, hnn⟩ : ∃ nn, ps.length + 1 = nn := ⟨_, rfl⟩
          rw [hnn] at hps9 hg9 hrl9
          have hnp : 1 ≤ nn := by omega
          have hn2 : nn ≤ 256 := by have := ho9'.few; rw [List.length_map, hrl9] at this; exact this
          have c19 : w9.cell? ⟨b, 1, none⟩ = some (.slice A8 nn c8) := by rw [← hps9]; exact ho9'.facts.2.1
          obtain ⟨p9, hp9⟩ : ∃ p, (ps ++ [w6.heap.size])[nn - 1]? = some p := ⟨_, List.getElem?_eq_getElem (by omega)⟩
          obtain ⟨g9b, o9b, hA9, c9b⟩ := ho9'.ptrAt hp9
          subst hA9
          obtain ⟨Sd, e1, e2, e3, e4, hd9, hSd, hup9⟩ := (ho9'.below (Below.refl _ _).drew).disk hp9 (R := Dk.ref ⟨false, headB len, 0⟩) (by rw [List.getElem?_map, hg9]; rfl)
          have hA := refAppend_B hd9 A1 (frame rec) c1r hfl (Own.rd (w := w9.drew) hF9 Sd)
          have hz1 := (ref_append hok9 (frame rec)).2.symm.trans hz0
          have r1 := (ref_append hok9 (frame rec)).1
          generalize hRR : Rk.append (Dk.ref ⟨false, headB len, 0⟩) (frame rec) = RR at hA hz1 r1
          have n2 : IntKind.i64.wrap ((nn : Int) - 1) = (nn : Int) - 1 := by rw [IntKind.wrap_i64]; omega
          have n3 : ((nn : Int) - 1).toNat = nn - 1 := by omega
          have n4 : (0 : Int) ≤ (nn : Int) - 1 := by omega
          have n5 : 1 ≤ (nn : Int) := by omega
          have n6 : (nn : Int) - 1 < (nn : Int) := by omega
          have HZ := Lib.hid hz1
          have HR := Lib.hid r1
          have HN := Lib.hid hrl9
          clear hp9 hg9 hd9 hz1 r1 hRR hrl9
          refine wp_region_T #[[], [], [], [], [], [], [], [], [7], [7], [3, 7], [3, 7], [], [3, 7, 11], [3, 7, 11]] [3, 7, 11] (fun w' => w'.cell? ⟨b, 1, none⟩ = some (.slice (some ⟨g9b, o9b, none⟩) nn c8) ∧ w'.cell? ⟨g9b, o9b + (nn - 1), none⟩ = some (.pointer (some ⟨p9, 0, none⟩))) 15 rfl (by kernel_rfl) ?_
          (refine wpF (i := 0) rfl (by kernel_rfl) rfl (fun _ _ _ h => h) (fun _ => by go_simp; try rfl) ?_; (try simp only [Act.put, sA, sB, sC]))
          (refine wpF (i := 1) rfl (by kernel_rfl) rfl (fun _ _ _ h => h) (fun _ => by go_simp; try rfl) ?_; (try simp only [Act.put, sA, sB, sC]))
          (refine wpF (i := 2) rfl (by kernel_rfl) rfl (fun _ _ _ h => h) (fun _ => by go_simp; try rfl) ?_; (try simp only [Act.put, sA, sB, sC]))
          (refine wpAnyT_read (i := 3) rfl (by kernel_rfl) rfl (fun _ _ _ h => h) (by kernel_rfl) (⟨c19, c9b⟩) (fun w hS_ => by obtain ⟨s_1, s_2⟩ := hS_; go_simp; try rfl) ?_; (try simp only [Act.put, sA, sB, sC]))
          (refine wpF (i := 4) rfl (by kernel_rfl) rfl (fun _ _ _ h => h) (fun _ => by go_simp; try rfl) ?_; (try simp only [Act.put, sA, sB, sC]))
          (refine wpF (i := 5) rfl (by kernel_rfl) rfl (fun _ _ _ h => h) (fun _ => by go_simp; try rfl) ?_; (try simp only [Act.put, sA, sB, sC]))
          (refine wpF (i := 6) rfl (by kernel_rfl) rfl (fun _ _ _ h => h) (fun _ => by go_simp; try rfl) ?_; (try simp only [Act.put, sA, sB, sC]))
          (refine wpAnyT_read (i := 7) rfl (by kernel_rfl) rfl (fun _ _ _ h => h) (by kernel_rfl) (⟨c19, c9b⟩) (fun w hS_ => by obtain ⟨s_1, s_2⟩ := hS_; go_simp; try rfl) ?_; (try simp only [Act.put, sA, sB, sC]))
          (refine wpF (i := 8) rfl (by kernel_rfl) rfl (fun _ _ _ h => h) (fun _ => by go_simp; try rfl) ?_; (try simp only [Act.put, sA, sB, sC]))
          (refine wpF (i := 9) rfl (by kernel_rfl) rfl (fun _ _ _ h => h) (fun _ => by go_simp; try rfl) ?_; (try simp only [Act.put, sA, sB, sC]))
          (refine wpF (i := 10) rfl (by kernel_rfl) rfl (fun _ _ _ h => h) (fun _ => by go_simp; try rfl) ?_; (try simp only [Act.put, sA, sB, sC]))
          (refine wpAnyT_read (i := 11) rfl (by kernel_rfl) rfl (fun _ _ _ h => h) (by kernel_rfl) (⟨c19, c9b⟩) (fun w hS_ => by obtain ⟨s_1, s_2⟩ := hS_; go_simp; try rfl) ?_; (try simp only [Act.put, sA, sB, sC]))
          (refine wpF (i := 12) rfl (by kernel_rfl) rfl (fun _ _ _ h => h) (fun _ => by go_simp; try rfl) ?_; (try simp only [Act.put, sA, sB, sC]))
          refine wpAnyT_sink (i := 13) rfl (by kernel_rfl) rfl (by kernel_rfl) ?_
          intro K_ hK_
          go_wp2_with ((go_at_call 154; refine hA.mono ?_; rintro e w10 ⟨rfl, hd10, hf10⟩; rw [HZ.out]))
          (try (refine hK_ _ _ ?_; clear hK_ K_))
          (try simp only [Act.put, sA, sB, sC])
          (refine wpF (i := 14) rfl (by kernel_rfl) rfl (fun _ _ _ h => h) (fun _ => by go_simp; try rfl) ?_; (try simp only [Act.put, sA, sB, sC]))
          refine wpAnyT_done (by kernel_rfl) ?_ _
          go_wp2
          go_ret2
          unfold RappDid
          rw [HE.out]
          rw [← HR.out] at hd10
          have ho10 := hup9 w10 _ hf10 hd10 (by rw [ref_total]; exact hal)
          have hs10 := hf10.size
          have hsd : w9.drew.heap.size = w9.heap.size := rfl
          rw [HN.out]
          refine ⟨rfl, ⟨_, b, _, _, _, rfl, ho10.asRef.mono (fun x hx => ?_) (fun x hx => ?_)⟩, hf9.drew.trans' hf10 (fun x hb hx => (hS9 x (hSd x hx)).elim id (fun h => by have := h.1; omega))⟩
          · rcases hx with hx | hx
            · exact (hS9 x hx).imp_right (fun k => ⟨k.1, by have := k.2; omega⟩)
            · exact .inr ⟨by have := hf9.size; have := hx.1; omega, hx.2⟩
          · exact hx.elim (fun hx => by have := h.lt x hx; have := hf9.size; omega) (fun k => k.2)
      · have hrm : (⟨per, gs, false⟩ : Lg).room = gs := by
          unfold Lg.room
          rw [hfull, if_neg (by simpa using hfu)]
        have hnf : ¬ ((⟨per, gs, false⟩ : Lg).full = true ∧ gs.length = 256) := by
          rw [hfull]
          intro h
          exact hfu (by simpa using h.1)
        have k5 : ((g.recs.length : Int) == (per : Int)) = false := by rw [beq_eq_false_iff_ne]; omega
        obtain ⟨E, hz0, hal⟩ := append_room hinv hm hrl hnf hrm hg
        generalize hlen : Lg.len ⟨per, gs, false⟩ = len at *
        have hn256 := hinv
        have HE := Lib.hid E
        have hok9 : g.d.ok := hgi.dok (by rw [← ref_total]; exact hsm)
        have HG := Lib.hid hgl
        have hp' := hp
        clear E hfull hlt hrm hnf hlen hgl hn256
        go_enter Tryz.func119, Tryz.ntmps119
        go_wp2_with (first
          | (go_at_call 153; refine hF.mono ?_; rintro e w1 ⟨A1, c1r, rfl, ho1, hc1, hm1, hb1⟩; have hl1 := hLen w1 hb1; clear hF hLen)
          | (go_at_call 23; refine hl1.mono ?_; rintro e w2 ⟨rfl, hb2⟩; have hb12 := hb1.trans (hb2.mono hb1.size); obtain ⟨d0, d1, d2, y1, y2, -, -, -, -⟩ := (h.below hb12).facts; have cb := (hb12.cell (p := ⟨ga, oa + (ps.length - 1), none⟩) (cell_lt ca)).trans ca; clear hl1))
        have hac := hall w2.drew hb12.drew
        refine wp_region_T #[[], [], [], [], [], [], [], [], [7], [7], [3, 7], [3, 7], [3, 7, 11], [3, 7, 11], [3, 7, 11], [3, 7, 11], [3, 7, 11], [3, 7, 11], [3, 7, 11], [3, 7, 11], [3, 7, 11]] [3, 7, 11] (fun w' => w'.cell? ⟨b, 1, none⟩ = some (.slice (some ⟨ga, oa, none⟩) ps.length c) ∧ w'.cell? ⟨ga, oa + (ps.length - 1), none⟩ = some (.pointer (some ⟨p, 0, none⟩))) 21 rfl (by kernel_rfl) ?_
        (refine wpF (i := 0) rfl (by kernel_rfl) rfl (fun _ _ _ h => h) (fun _ => by go_simp; try rfl) ?_; (try simp only [Act.put, sA, sB, sC]))
        (refine wpF (i := 1) rfl (by kernel_rfl) rfl (fun _ _ _ h => h) (fun _ => by go_simp; try rfl) ?_; (try simp only [Act.put, sA, sB, sC]))
        (refine wpF (i := 2) rfl (by kernel_rfl) rfl (fun _ _ _ h => h) (fun _ => by go_simp; try rfl) ?_; (try simp only [Act.put, sA, sB, sC]))
        (refine wpAnyT_read (i := 3) rfl (by kernel_rfl) rfl (fun _ _ _ h => h) (by kernel_rfl) (⟨d1, cb⟩) (fun w hS_ => by obtain ⟨s_1, s_2⟩ := hS_; go_simp; try rfl) ?_; (try simp only [Act.put, sA, sB, sC]))
        (refine wpF (i := 4) rfl (by kernel_rfl) rfl (fun _ _ _ h => h) (fun _ => by go_simp; try rfl) ?_; (try simp only [Act.put, sA, sB, sC]))
        (refine wpF (i := 5) rfl (by kernel_rfl) rfl (fun _ _ _ h => h) (fun _ => by go_simp; try rfl) ?_; (try simp only [Act.put, sA, sB, sC]))
        (refine wpF (i := 6) rfl (by kernel_rfl) rfl (fun _ _ _ h => h) (fun _ => by go_simp; try rfl) ?_; (try simp only [Act.put, sA, sB, sC]))
        (refine wpAnyT_read (i := 7) rfl (by kernel_rfl) rfl (fun _ _ _ h => h) (by kernel_rfl) (⟨d1, cb⟩) (fun w hS_ => by obtain ⟨s_1, s_2⟩ := hS_; go_simp; try rfl) ?_; (try simp only [Act.put, sA, sB, sC]))
        (refine wpF (i := 8) rfl (by kernel_rfl) rfl (fun _ _ _ h => h) (fun _ => by go_simp; try rfl) ?_; (try simp only [Act.put, sA, sB, sC]))
        (refine wpF (i := 9) rfl (by kernel_rfl) rfl (fun _ _ _ h => h) (fun _ => by go_simp; try rfl) ?_; (try simp only [Act.put, sA, sB, sC]))
        (refine wpF (i := 10) rfl (by kernel_rfl) rfl (fun _ _ _ h => h) (fun _ => by go_simp; try rfl) ?_; (try simp only [Act.put, sA, sB, sC]))
        (refine wpAnyT_read (i := 11) rfl (by kernel_rfl) rfl (fun _ _ _ h => h) (by kernel_rfl) (⟨d1, cb⟩) (fun w hS_ => by obtain ⟨s_1, s_2⟩ := hS_; go_simp; try rfl) ?_; (try simp only [Act.put, sA, sB, sC]))
        refine wpAnyT_sink (i := 12) rfl (by kernel_rfl) rfl (by kernel_rfl) ?_
        intro K_ hK_
        go_wp2_with ((go_at_call 80; refine hac.mono ?_; rintro e w3 ⟨A3, c3, rfl, ho3, hc3, hm3, hb3⟩; have hpa := parse_up hgi (by omega) hgd hc3 hl5 ((Own.of_row' ho3).rd _); clear hac))
        (try (refine hK_ _ _ ?_; clear hK_ K_))
        (try simp only [Act.put, sA, sB, sC])
        refine wpAnyT_sink (i := 13) rfl (by kernel_rfl) rfl (by kernel_rfl) ?_
        intro K_ hK_
        go_wp2_with ((go_at_call 79; refine hpa.mono ?_; rintro e w4 ⟨R4, cr4, vals4, rfl, -, -, hb34⟩; clear hpa))
        (try (refine hK_ _ _ ?_; clear hK_ K_))
        (try simp only [Act.put, sA, sB, sC])
        (refine wpF (i := 14) rfl (by kernel_rfl) rfl (fun _ _ _ h => h) (fun _ => by go_simp; try rfl) ?_; (try simp only [Act.put, sA, sB, sC]))
        (refine wpF (i := 15) rfl (by kernel_rfl) rfl (fun _ _ _ h => h) (fun _ => by go_simp; try rfl) ?_; (try simp only [Act.put, sA, sB, sC]))
        (refine wpF (i := 16) rfl (by kernel_rfl) rfl (fun _ _ _ h => h) (fun _ => by go_simp; try rfl) ?_; (try simp only [Act.put, sA, sB, sC]))
        (refine wpF (i := 17) rfl (by kernel_rfl) rfl (fun _ _ _ h => h) (fun _ => by go_simp; try rfl) ?_; (try simp only [Act.put, sA, sB, sC]))
        (refine wpF (i := 18) rfl (by kernel_rfl) rfl (fun _ _ _ h => h) (fun _ => by go_simp; try rfl) ?_; (try simp only [Act.put, sA, sB, sC]))
        (refine wpF (i := 19) rfl (by kernel_rfl) rfl (fun _ _ _ h => h) (fun _ => by go_simp; try rfl) ?_; (try simp only [Act.put, sA, sB, sC]))
        (refine wpF (i := 20) rfl (by kernel_rfl) rfl (fun _ _ _ h => h) (fun _ => by go_simp; try rfl) ?_; (try simp only [Act.put, sA, sB, sC]))
        refine wpAnyT_done (by kernel_rfl) ?_ _
        have hb4 : Below w.heap.size w w4 := (hb12.drew.trans (hb3.mono hb12.drew.size)).trans (hb34.mono (hb12.drew.trans (hb3.mono hb12.drew.size)).size)
        obtain ⟨x0, x1, x2, x3, x4, -, -, -, -⟩ := (h.below hb4).facts
        have hFl : Own Any w4 A1 (frame rec) := (Own.mono ho1 (fun _ _ => trivial)).fr (S' := Non) (Fr.of_below (Below.mono (show Below w1.heap.size w1 w4 from ((hb2.drew.trans (hb3.mono hb2.size)).trans (hb34.mono (hb2.drew.trans (hb3.mono hb2.size)).size))) (Nat.le_refl _)))
        go_wp2
        have ho9' : RlogO (Up S w w4) H w4 b (some ⟨ga, oa, none⟩) c ps ⟨per, gs.map (fun g : Sg => g.d.ref), false⟩ := (h.below hb4).mono (fun _ => .inl) (Up.lt h.lt hb4.size)
        have hf9 : Fr S w w4 := Fr.of_below hb4
        generalize w4 = w9 at *
        have hF9 := hFl
        have hS9 : ∀ x, Up S w w9 x → Up S w w9 x := fun x hx => hx
        obtain ⟨nn, hnn⟩ : ∃ nn, ps.length = nn := ⟨_, rfl⟩
        have hrl9 : gs.length = nn := HG.out.symm.trans hnn
        have hg9 : gs[nn - 1]? = some g := by rw [← hrl9]; exact hg
        have hnp : 1 ≤ nn := by omega
        have hn2 : nn ≤ 256 := by omega
        have c19 : w9.cell? ⟨b, 1, none⟩ = some (.slice (some ⟨ga, oa, none⟩) nn c) := by rw [← hnn]; exact ho9'.facts.2.1
        obtain ⟨p9, hp9⟩ : ∃ p, ps[nn - 1]? = some p := ⟨_, List.getElem?_eq_getElem (by omega)⟩
        obtain ⟨g9b, o9b, hA9, c9b⟩ := ho9'.ptrAt hp9
        simp only [Option.some.injEq, Addr.mk.injEq, and_true] at hA9
        obtain ⟨rfl, rfl⟩ := hA9
        obtain ⟨Sd, e1, e2, e3, e4, hd9, hSd, hup9⟩ := (ho9'.below (Below.refl _ _).drew).disk hp9 (R := Dk.ref g.d) (by rw [List.getElem?_map, hg9]; rfl)
        have hA := refAppend_B hd9 A1 (frame rec) c1r hfl (Own.rd (w := w9.drew) hF9 Sd)
        have hz1 := (ref_append hok9 (frame rec)).2.symm.trans hz0
        have r1 := (ref_append hok9 (frame rec)).1
        generalize hRR : Rk.append (Dk.ref g.d) (frame rec) = RR at hA hz1 r1
        have n2 : IntKind.i64.wrap ((nn : Int) - 1) = (nn : Int) - 1 := by rw [IntKind.wrap_i64]; omega
        have n3 : ((nn : Int) - 1).toNat = nn - 1 := by omega
        have n4 : (0 : Int) ≤ (nn : Int) - 1 := by omega
        have n5 : 1 ≤ (nn : Int) := by omega
        have n6 : (nn : Int) - 1 < (nn : Int) := by omega
        have HZ := Lib.hid hz1
        have HR := Lib.hid r1
        have HN := Lib.hid hrl9
        clear hp9 hg9 hd9 hz1 r1 hRR hrl9
        refine wp_region_T #[[], [], [], [], [], [], [], [], [7], [7], [3, 7], [3, 7], [], [3, 7, 11], [3, 7, 11]] [3, 7, 11] (fun w' => w'.cell? ⟨b, 1, none⟩ = some (.slice (some ⟨ga, oa, none⟩) nn c) ∧ w'.cell? ⟨ga, oa + (nn - 1), none⟩ = some (.pointer (some ⟨p9, 0, none⟩))) 15 rfl (by kernel_rfl) ?_
        (refine wpF (i := 0) rfl (by kernel_rfl) rfl (fun _ _ _ h => h) (fun _ => by go_simp; try rfl) ?_; (try simp only [Act.put, sA, sB, sC]))
        (refine wpF (i := 1) rfl (by kernel_rfl) rfl (fun _ _ _ h => h) (fun _ => by go_simp; try rfl) ?_; (try simp only [Act.put, sA, sB, sC]))
        (refine wpF (i := 2) rfl (by kernel_rfl) rfl (fun _ _ _ h => h) (fun _ => by go_simp; try rfl) ?_; (try simp only [Act.put, sA, sB, sC]))
        (refine wpAnyT_read (i := 3) rfl (by kernel_rfl) rfl (fun _ _ _ h => h) (by kernel_rfl) (⟨c19, c9b⟩) (fun w hS_ => by obtain ⟨s_1, s_2⟩ := hS_; go_simp; try rfl) ?_; (try simp only [Act.put, sA, sB, sC]))
        (refine wpF (i := 4) rfl (by kernel_rfl) rfl (fun _ _ _ h => h) (fun _ => by go_simp; try rfl) ?_; (try simp only [Act.put, sA, sB, sC]))
        (refine wpF (i := 5) rfl (by kernel_rfl) rfl (fun _ _ _ h => h) (fun _ => by go_simp; try rfl) ?_; (try simp only [Act.put, sA, sB, sC]))
        (refine wpF (i := 6) rfl (by kernel_rfl) rfl (fun _ _ _ h => h) (fun _ => by go_simp; try rfl) ?_; (try simp only [Act.put, sA, sB, sC]))
        (refine wpAnyT_read (i := 7) rfl (by kernel_rfl) rfl (fun _ _ _ h => h) (by kernel_rfl) (⟨c19, c9b⟩) (fun w hS_ => by obtain ⟨s_1, s_2⟩ := hS_; go_simp; try rfl) ?_; (try simp only [Act.put, sA, sB, sC]))
        (refine wpF (i := 8) rfl (by kernel_rfl) rfl (fun _ _ _ h => h) (fun _ => by go_simp; try rfl) ?_; (try simp only [Act.put, sA, sB, sC]))
        (refine wpF (i := 9) rfl (by kernel_rfl) rfl (fun _ _ _ h => h) (fun _ => by go_simp; try rfl) ?_; (try simp only [Act.put, sA, sB, sC]))
        (refine wpF (i := 10) rfl (by kernel_rfl) rfl (fun _ _ _ h => h) (fun _ => by go_simp; try rfl) ?_; (try simp only [Act.put, sA, sB, sC]))
        (refine wpAnyT_read (i := 11) rfl (by kernel_rfl) rfl (fun _ _ _ h => h) (by kernel_rfl) (⟨c19, c9b⟩) (fun w hS_ => by obtain ⟨s_1, s_2⟩ := hS_; go_simp; try rfl) ?_; (try simp only [Act.put, sA, sB, sC]))
        (refine wpF (i := 12) rfl (by kernel_rfl) rfl (fun _ _ _ h => h) (fun _ => by go_simp; try rfl) ?_; (try simp only [Act.put, sA, sB, sC]))
        refine wpAnyT_sink (i := 13) rfl (by kernel_rfl) rfl (by kernel_rfl) ?_
        intro K_ hK_
        go_wp2_with ((go_at_call 154; refine hA.mono ?_; rintro e w10 ⟨rfl, hd10, hf10⟩; rw [HZ.out]))
        (try (refine hK_ _ _ ?_; clear hK_ K_))
        (try simp only [Act.put, sA, sB, sC])
        (refine wpF (i := 14) rfl (by kernel_rfl) rfl (fun _ _ _ h => h) (fun _ => by go_simp; try rfl) ?_; (try simp only [Act.put, sA, sB, sC]))
        refine wpAnyT_done (by kernel_rfl) ?_ _
        go_wp2
        go_ret2
        unfold RappDid
        rw [HE.out]
        rw [← HR.out] at hd10
        have ho10 := hup9 w10 _ hf10 hd10 (by rw [ref_total]; exact hal)
        have hs10 := hf10.size
        have hsd : w9.drew.heap.size = w9.heap.size := rfl
        rw [HN.out]
        refine ⟨rfl, ⟨_, b, _, _, _, rfl, ho10.asRef.mono (fun x hx => ?_) (fun x hx => ?_)⟩, hf9.drew.trans' hf10 (fun x hb hx => (hS9 x (hSd x hx)).elim id (fun h => by have := h.1; omega))⟩
        · rcases hx with hx | hx
          · exact (hS9 x hx).imp_right (fun k => ⟨k.1, by have := k.2; omega⟩)
          · exact .inr ⟨by have := hf9.size; have := hx.1; omega, hx.2⟩
        · exact hx.elim (fun hx => by have := h.lt x hx; have := hf9.size; omega) (fun k => k.2)
  · have e : Lg.append ⟨per, gs, true⟩ rec = (⟨per, gs, true⟩, 0, 10) := by unfold Lg.append; simp
    have E := Lib.hid e
    clear e hF q1
    go_enter Tryz.func119, Tryz.ntmps119
    go_wp2
    go_ret2
    unfold RappDid
    rw [E.out]
    exact ⟨rfl, h.same, Fr.refl _ _⟩
end
end Go.Proofs.YtediidajdpdeiaaGreatDoor
