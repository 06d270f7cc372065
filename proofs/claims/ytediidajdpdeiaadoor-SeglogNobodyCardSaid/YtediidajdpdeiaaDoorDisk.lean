/- The disk's functions do what the plain functions say: the walks. -/
import Derived.Test.YtediidajdpdeiaaDoorSlices
import Derived.Test.YtediidajdpdeiaaDoorDiskM
import Derived.Test.YtediidajdpdeiaaDoorRegion
import Derived.Lib.Hide
namespace Go.Proofs.YtediidajdpdeiaaDoor
open Go.RowKit
set_option maxRecDepth 100000

/-- block b is a disk -/
structure DiskAt (S : Nat → Prop) (w : World) (b : Nat) (A : Option Addr) (c : Nat) (D : Dk) : Prop where
  blk : Blk w b 139 #[.bool true, .bool D.down, .slice A D.all.length c, .int .i64 (D.kept : Int)]
  own : Own S w A D.all
  inS : S b
  lt : ∀ x, S x → x < w.heap.size
  cap : D.all.length ≤ c
  ok : D.ok

def IsDisk (S : Nat → Prop) (w : World) (p : Value) (D : Dk) : Prop := ∃ b A c, p = .pointer (some ⟨b, 0, none⟩) ∧ DiskAt S w b A c D

section
variable {S S' : Nat → Prop} {w w' : World} {b : Nat} {A : Option Addr} {c : Nat} {D : Dk} {p : Value}

theorem DiskAt.fr (h : DiskAt S w b A c D) (f : Fr S' w w') (hd : ∀ x, S x → S' x → IsB w x) : DiskAt S w' b A c D :=
  ⟨h.blk.fr f fun hs => h.blk.notB (by decide) (hd _ h.inS hs), h.own.fr f, h.inS, fun x hx => Nat.lt_of_lt_of_le (h.lt x hx) f.size, h.cap, h.ok⟩
theorem IsDisk.fr (h : IsDisk S w p D) (f : Fr S' w w') (hd : ∀ x, S x → S' x → IsB w x) : IsDisk S w' p D := by
  obtain ⟨b, A, c, rfl, h⟩ := h
  exact ⟨b, A, c, rfl, h.fr f hd⟩
theorem DiskAt.lt2 (h : DiskAt S w b A c D) : D.all.length ≤ 4194304 := h.ok.2
end

/-- what a walk wants to know of a disk -/
theorem DiskAt.facts {S : Nat → Prop} {w : World} {b : Nat} {A : Option Addr} {c : Nat} {dn : Bool} {all : List UInt8} {kept : Nat} (h : DiskAt S w b A c ⟨dn, all, kept⟩) :
    w.cell? ⟨b, 0, none⟩ = some (.bool true) ∧ w.cell? ⟨b, 1, none⟩ = some (.bool dn) ∧ w.cell? ⟨b, 2, none⟩ = some (.slice A all.length c) ∧ w.cell? ⟨b, 3, none⟩ = some (.int .i64 (kept : Int)) ∧
    w.frozen? ⟨b, 1, none⟩ = false ∧ w.frozen? ⟨b, 2, none⟩ = false ∧ w.frozen? ⟨b, 3, none⟩ = false ∧ b < w.heap.size ∧ all.length ≤ c ∧ kept ≤ all.length ∧ all.length ≤ 4194304 :=
  ⟨h.blk.cell 0 rfl, h.blk.cell 1 rfl, h.blk.cell 2 rfl, h.blk.cell 3 rfl, h.blk.frozen 1, h.blk.frozen 2, h.blk.frozen 3, h.blk.lt, h.cap, h.ok.1, h.ok.2⟩

theorem none_at {S : Nat → Prop} {w : World} {b : Nat} {A : Option Addr} {c : Nat} {D : Dk} (h : DiskAt S w b A c D) :
    Calls Tryd.prog 103 #[.pointer (some ⟨b, 0, none⟩)] w fun e w' => e = .returned (.bool false) ∧ w = w' := by
  have c0 := h.blk.cell 0 rfl
  go_enter Tryd.func103, Tryd.ntmps103
  go_wp2
  go_ret
  exact ⟨rfl, rfl⟩

theorem asked_at {S : Nat → Prop} {w : World} {b : Nat} {A : Option Addr} {c : Nat} {D : Dk} (h : DiskAt S w b A c D) :
    Calls Tryd.prog 117 #[.pointer (some ⟨b, 0, none⟩)] w fun e w' => e = .returned (.int .i64 (if D.down then 10 else 0)) ∧ w = w' := by
  have c1 := h.blk.cell 1 rfl
  obtain ⟨dn, all, kept⟩ := D
  cases dn
  all_goals
    go_enter Tryd.func117, Tryd.ntmps117
    go_wp2_with (go_at_call 103; refine (none_at h).mono ?_; rintro e w' ⟨rfl, rfl⟩)
    go_ret
    exact ⟨rfl, rfl⟩

/-- WHAT a change of a disk leaves -/
def DiskDid (S : Nat → Prop) (w : World) (p : Value) (r : Dk × Int) (e : Ending) (w' : World) : Prop :=
  e = .returned (.int .i64 r.2) ∧ IsDisk (Up S w w') w' p r.1 ∧ Fr S w w'

theorem DiskAt.notB {S : Nat → Prop} {w : World} {b : Nat} {A : Option Addr} {c : Nat} {D : Dk} (h : DiskAt S w b A c D) : ¬ IsB w b := h.blk.notB (by decide)

/-- nothing was done -/
theorem DiskAt.same {S : Nat → Prop} {w : World} {b : Nat} {A : Option Addr} {c : Nat} {D : Dk} (h : DiskAt S w b A c D) : IsDisk (Up S w w) w (.pointer (some ⟨b, 0, none⟩)) D :=
  ⟨b, A, c, rfl, h.blk, h.own.mono fun _ => .inl, .inl h.inS, fun x hx => hx.elim (h.lt x) (fun h => h.2), h.cap, h.ok⟩

/-- the struct has turned, and there are new blocks -/
theorem DiskAt.turned {S : Nat → Prop} {w w' : World} {b : Nat} {A : Option Addr} {c : Nat} {D : Dk} (h : DiskAt S w b A c D) (f : Fr S w w') {A' : Option Addr} {c' : Nat} {D' : Dk}
    (hb : Blk w' b 139 #[.bool true, .bool D'.down, .slice A' D'.all.length c', .int .i64 (D'.kept : Int)]) (ho : Own (Up S w w') w' A' D'.all) (hc : D'.all.length ≤ c') (hok : D'.ok) :
    IsDisk (Up S w w') w' (.pointer (some ⟨b, 0, none⟩)) D' :=
  ⟨b, A', c', rfl, hb, ho, .inl h.inS, fun x hx => hx.elim (fun hx => Nat.lt_of_lt_of_le (h.lt x hx) f.size) (fun h => h.2), hc, hok⟩

theorem DiskAt.below {S : Nat → Prop} {w w1 : World} {b : Nat} {A : Option Addr} {c : Nat} {D : Dk} (h : DiskAt S w b A c D) (hb : Below w.heap.size w w1) : DiskAt S w1 b A c D :=
  h.fr (S' := Non) (Fr.of_below hb) (fun _ _ h => h.elim)

theorem DiskAt.drew {S : Nat → Prop} {w : World} {b : Nat} {A : Option Addr} {c : Nat} {D : Dk} (h : DiskAt S w b A c D) : DiskAt S w.drew b A c D := ⟨h.blk, h.own, h.inS, h.lt, h.cap, h.ok⟩

theorem append_B {S : Nat → Prop} {w : World} {b : Nat} {A : Option Addr} {c : Nat} {D : Dk} (h : DiskAt S w b A c D) (B : Option Addr) (l : List UInt8) (cb : Nat) (hl : l.length ≤ 70368744177664) (hr : Rd S w B l) :
    Calls Tryd.prog 85 #[.pointer (some ⟨b, 0, none⟩), .slice B l.length cb] w (DiskDid S w (.pointer (some ⟨b, 0, none⟩)) (D.append l)) := by
  have hok' := Dk.ok_append h.ok l
  obtain ⟨dn, all, kept⟩ := D
  obtain ⟨c0, c1, c2, c3, z1, z2, z3, hb, hcap, hk, hall⟩ := h.facts
  obtain ⟨i, hi, hz, hs, hby⟩ := info_parts info_u8
  cases dn
  · by_cases hf : 4194304 < all.length + l.length
    · have e : (Dk.append ⟨false, all, kept⟩ l) = (⟨false, all, kept⟩, 7) := by simp [Dk.append, hf]
      have H := Lib.hid e
      clear e hok'
      go_enter Tryd.func85, Tryd.ntmps85
      go_wp2_with (go_at_call 117; refine (asked_at h).mono ?_; rintro e w' ⟨rfl, rfl⟩)
      go_ret
      rw [H.out]
      exact ⟨rfl, h.same, Fr.refl _ _⟩
    · have e : (Dk.append ⟨false, all, kept⟩ l) = (⟨false, all ++ l, kept⟩, 0) := by simp [Dk.append, hf]
      have H := Lib.hid e
      rw [e] at hok'
      clear e
      rcases Nat.eq_zero_or_pos l.length with h0 | h0
      · obtain rfl := List.eq_nil_of_length_eq_zero h0
        clear h0 hf hl
        have hcz := run_copy_zero (P := Tryd.prog) 22 3 i Tryd.underlying22 hi A B 0 cb
        show Calls _ _ #[_, .slice B 0 cb] w _
        go_enter Tryd.func85, Tryd.ntmps85
        go_wp2_with (first
          | (go_at_call 117; refine (asked_at h).mono ?_; rintro e w' ⟨rfl, rfl⟩)
          | (go_at_call 116; refine (grow_zero A all.length _ (by omega)).mono ?_; rintro e w' ⟨rfl, rfl⟩))
        go_ret
        rw [H.out]
        have F0 : Fr S w (w.setCell ⟨b, 2, none⟩ (.slice A all.length all.length)) := (Fr.refl S w).setCell (p := ⟨b, 2, none⟩) (.inl h.inS) h.notB _
        exact ⟨rfl, h.turned F0 (by simpa using h.blk.set 2 _) (by simpa using (h.own.fr F0).mono fun _ => .inl) (by simp) hok', F0⟩
      · go_enter Tryd.func85, Tryd.ntmps85
        go_wp2_with (first
          | (go_at_call 117; refine (asked_at h).mono ?_; rintro e w' ⟨rfl, rfl⟩)
          | (with_reducible refine wpList_copyB rfl (.tmp 49) (.tmp 50) 22 rfl i Tryd.underlying22 hi hs _ _ _ rfl w.heap.size all.length cur ?fr S B _ _ l rfl rfl ?hr ?hX ?hdl ?hfit ?_)
          | (go_at_call 116; refine (grow_B S A all l.length _ (h.own.rd S) h0 (by omega)).mono ?_; rintro e w' ⟨cg, cur, rfl, hc1, hc2, hcs, hct, rfl⟩))
        all_goals have F0 : Fr S w (((w.setCell ⟨b, 2, none⟩ (.slice (some ⟨w.heap.size, 0, none⟩) (all.length + l.length) cg)).alloc (.cells cur TB)).drew) := (((Fr.refl S w).setCell (p := ⟨b, 2, none⟩) (.inl h.inS) h.notB _).alloc _).drew
        case hr => exact hr.fr F0
        case hdl => rfl
        case hfit => omega
        case fr => exact (Blk.new' _ TB cur (by simp)).drew
        go_ret
        rw [H.out]
        have e2 := List.append_assoc (all.map byteV) (l.map byteV) (cur.toList.drop (all.length + l.length))
        have hrow := setRow_heap _ w.heap.size cur (all.map byteV ++ (l.map byteV ++ cur.toList.drop (all.length + l.length))).toArray TB (0, 0) ((Blk.new' (w.setCell ⟨b, 2, none⟩ (.slice (some ⟨w.heap.size, 0, none⟩) (all.length + l.length) cg)) TB cur (by simp)).drew)
        have F1 := F0.setRow w.heap.size (Nat.le_refl _) (all.map byteV ++ (l.map byteV ++ cur.toList.drop (all.length + l.length))).toArray
        refine ⟨rfl, h.turned F1 ?_ (Own.of_cells _ hrow (.inr ⟨Nat.le_refl _, by simp [World.setRow]⟩) ?_) (by simp; omega) hok', F1⟩
        · exact ((by simpa using (((h.blk.set 2 _).alloc _).drew).setRow _ _ (by omega)))
        · rw [← e2, List.toList_toArray, ← List.map_append, List.take_append_of_le_length (by simp), List.take_of_length_le (by simp)]
  · have e : (Dk.append ⟨true, all, kept⟩ l) = (⟨true, all, kept⟩, 10) := by simp [Dk.append]
    have H := Lib.hid e
    clear e hok'
    go_enter Tryd.func85, Tryd.ntmps85
    go_wp2_with (go_at_call 117; refine (asked_at h).mono ?_; rintro e w' ⟨rfl, rfl⟩)
    go_ret
    rw [H.out]
    exact ⟨rfl, h.same, Fr.refl _ _⟩

theorem sync_B {S : Nat → Prop} {w : World} {b : Nat} {A : Option Addr} {c : Nat} {D : Dk} (h : DiskAt S w b A c D) :
    Calls Tryd.prog 94 #[.pointer (some ⟨b, 0, none⟩)] w (DiskDid S w (.pointer (some ⟨b, 0, none⟩)) D.sync) := by
  have hok' := Dk.ok_sync h.ok
  obtain ⟨dn, all, kept⟩ := D
  obtain ⟨c0, c1, c2, c3, z1, z2, z3, hb, hcap, hk, hall⟩ := h.facts
  cases dn
  all_goals
    go_enter Tryd.func94, Tryd.ntmps94
    go_wp2_with (go_at_call 117; refine (asked_at h).mono ?_; rintro e w' ⟨rfl, rfl⟩)
    go_ret
  · have F0 : Fr S w (w.setCell ⟨b, 3, none⟩ (.int .i64 (all.length : Int))) := (Fr.refl S w).setCell (p := ⟨b, 3, none⟩) (.inl h.inS) h.notB _
    exact ⟨rfl, h.turned F0 (D' := ⟨false, all, all.length⟩) (by simpa using h.blk.set 3 _) ((h.own.fr F0).mono fun _ => .inl) hcap hok', F0⟩
  · exact ⟨rfl, h.same, Fr.refl _ _⟩

theorem restart_B {S : Nat → Prop} {w : World} {b : Nat} {A : Option Addr} {c : Nat} {D : Dk} (h : DiskAt S w b A c D) :
    Calls Tryd.prog 92 #[.pointer (some ⟨b, 0, none⟩)] w (DiskDid S w (.pointer (some ⟨b, 0, none⟩)) D.restart) := by
  have hok' := Dk.ok_restart h.ok
  obtain ⟨dn, all, kept⟩ := D
  obtain ⟨c0, c1, c2, c3, z1, z2, z3, hb, hcap, hk, hall⟩ := h.facts
  cases dn
  all_goals
    go_enter Tryd.func92, Tryd.ntmps92
    go_wp2_with (go_at_call 103; refine (none_at h).mono ?_; rintro e w' ⟨rfl, rfl⟩)
    go_ret
  · exact ⟨rfl, h.same, Fr.refl _ _⟩
  · have F0 : Fr S w ((w.setCell ⟨b, 1, none⟩ (.bool false)).setCell ⟨b, 3, none⟩ (.int .i64 (all.length : Int))) :=
      ((Fr.refl S w).setCell (p := ⟨b, 1, none⟩) (.inl h.inS) h.notB _).setCell (p := ⟨b, 3, none⟩) (.inl h.inS) h.notB _
    exact ⟨rfl, h.turned F0 (D' := ⟨false, all, all.length⟩) (by simpa using (h.blk.set 1 _).set 3 _) ((h.own.fr F0).mono fun _ => .inl) hcap hok', F0⟩

/-- WHAT Read leaves -/
def DiskRead (w : World) (D : Dk) (e : Ending) (w' : World) : Prop :=
  ∃ A' c', e = .returned (.tuple #[.slice A' D.read.1.length c', .int .i64 D.read.2]) ∧ Own (New w) w' A' D.read.1 ∧ D.read.1.length ≤ c' ∧ c' ≤ maxLen ∧ Below w.heap.size w w'

theorem read_B {S : Nat → Prop} {w : World} {b : Nat} {A : Option Addr} {c : Nat} {D : Dk} (h : DiskAt S w b A c D) :
    Calls Tryd.prog 119 #[.pointer (some ⟨b, 0, none⟩)] w (DiskRead w D) := by
  obtain ⟨dn, all, kept⟩ := D
  obtain ⟨c0, c1, c2, c3, z1, z2, z3, hb, hcap, hk, hall⟩ := h.facts
  cases dn
  all_goals
    go_enter Tryd.func119, Tryd.ntmps119
    go_wp2_with (first
      | (go_at_call 117; refine (asked_at h).mono ?_; rintro e w' ⟨rfl, rfl⟩)
      | (go_at_call 80; refine (clone_B S A all c _ (h.own.rd S) (by omega)).mono ?_; rintro e w' ⟨A', c', rfl, hor, hc', hm', hbel⟩; have ho := Own.of_row' hor))
    go_ret2
  · exact ⟨_, _, rfl, ho, hc', hm', hbel⟩
  · exact ⟨none, 0, rfl, Own.nil _ _ _, Nat.le_refl _, Nat.zero_le _, Below.refl _ _⟩

theorem cut_B {S : Nat → Prop} {w : World} {b : Nat} {A : Option Addr} {c : Nat} {D : Dk} (h : DiskAt S w b A c D) (n : Int) :
    Calls Tryd.prog 121 #[.pointer (some ⟨b, 0, none⟩), .int .i64 n] w (DiskDid S w (.pointer (some ⟨b, 0, none⟩)) (D.cut n)) := by
  have hok' := Dk.ok_cut h.ok n
  obtain ⟨dn, all, kept⟩ := D
  obtain ⟨c0, c1, c2, c3, z1, z2, z3, hb, hcap, hk, hall⟩ := h.facts
  cases dn
  · by_cases hn : n < 0 ∨ (all.length : Int) < n
    · have e : (Dk.cut ⟨false, all, kept⟩ n) = (⟨false, all, kept⟩, 2) := by simp [Dk.cut, hn]
      have H := Lib.hid e
      clear e hok'
      go_enter Tryd.func121, Tryd.ntmps121
      go_wp2_with (go_at_call 117; refine (asked_at h).mono ?_; rintro e w' ⟨rfl, rfl⟩)
      all_goals
        go_ret
        rw [H.out]
        exact ⟨rfl, h.same, Fr.refl _ _⟩
    · have e : (Dk.cut ⟨false, all, kept⟩ n) = (⟨false, all.take n.toNat, n.toNat⟩, 0) := by simp [Dk.cut, hn]
      have H := Lib.hid e
      rw [e] at hok'
      clear e
      obtain ⟨m, rfl⟩ : ∃ m : Nat, n = m := ⟨n.toNat, by omega⟩
      rw [Int.toNat_natCast] at H hok'
      have hm : m ≤ all.length := by omega
      go_enter Tryd.func121, Tryd.ntmps121
      go_wp2_with (go_at_call 117; refine (asked_at h).mono ?_; rintro e w' ⟨rfl, rfl⟩)
      go_ret
      rw [H.out]
      have F0 : Fr S w ((w.setCell ⟨b, 2, none⟩ (.slice A m m)).setCell ⟨b, 3, none⟩ (.int .i64 (m : Int))) :=
        ((Fr.refl S w).setCell (p := ⟨b, 2, none⟩) (.inl h.inS) h.notB _).setCell (p := ⟨b, 3, none⟩) (.inl h.inS) h.notB _
      have em : (all.take m).length = m := by rw [List.length_take]; omega
      exact ⟨rfl, h.turned F0 (c' := m) (D' := ⟨false, all.take m, m⟩) (by simpa [em] using (h.blk.set 2 (.slice A m m)).set 3 (.int .i64 (m : Int))) (((h.own.fr F0).take m).mono fun _ => .inl) (by simp only; omega) hok', F0⟩
  · have e : (Dk.cut ⟨true, all, kept⟩ n) = (⟨true, all, kept⟩, 10) := by simp [Dk.cut]
    have H := Lib.hid e
    clear e hok'
    go_enter Tryd.func121, Tryd.ntmps121
    go_wp2_with (go_at_call 117; refine (asked_at h).mono ?_; rintro e w' ⟨rfl, rfl⟩)
    go_ret
    rw [H.out]
    exact ⟨rfl, h.same, Fr.refl _ _⟩

theorem swap_B {S : Nat → Prop} {w : World} {b : Nat} {A : Option Addr} {c : Nat} {D : Dk} (h : DiskAt S w b A c D) (B : Option Addr) (l : List UInt8) (cb : Nat) (hl : l.length ≤ 70368744177664) (hr : Rd S w B l) :
    Calls Tryd.prog 114 #[.pointer (some ⟨b, 0, none⟩), .slice B l.length cb] w (DiskDid S w (.pointer (some ⟨b, 0, none⟩)) (D.swap l)) := by
  have hok' := Dk.ok_swap h.ok l
  obtain ⟨dn, all, kept⟩ := D
  obtain ⟨c0, c1, c2, c3, z1, z2, z3, hb, hcap, hk, hall⟩ := h.facts
  cases dn
  · by_cases hn : 4194304 < l.length
    · have e : (Dk.swap ⟨false, all, kept⟩ l) = (⟨false, all, kept⟩, 7) := by simp [Dk.swap, hn]
      have H := Lib.hid e
      clear e hok'
      go_enter Tryd.func114, Tryd.ntmps114
      go_wp2_with (go_at_call 117; refine (asked_at h).mono ?_; rintro e w' ⟨rfl, rfl⟩)
      go_ret
      rw [H.out]
      exact ⟨rfl, h.same, Fr.refl _ _⟩
    · have e : (Dk.swap ⟨false, all, kept⟩ l) = (⟨false, l, l.length⟩, 0) := by simp [Dk.swap, hn]
      have H := Lib.hid e
      rw [e] at hok'
      clear e
      go_enter Tryd.func114, Tryd.ntmps114
      go_wp2_with (first
        | (go_at_call 117; refine (asked_at h).mono ?_; rintro e w' ⟨rfl, rfl⟩)
        | (go_at_call 80; refine (clone_B S B l cb _ hr (by omega)).mono ?_; rintro e w1 ⟨A', c', rfl, hor, hc', hm', hbel⟩; have ho := Own.of_row' hor; have h1 := h.below hbel; obtain ⟨d0, d1, d2, d3, y1, y2, y3, hb1, -⟩ := h1.facts))
      go_ret
      rw [H.out]
      have F0 : Fr S w ((w1.setCell ⟨b, 2, none⟩ (.slice A' l.length c')).setCell ⟨b, 3, none⟩ (.int .i64 (l.length : Int))) :=
        ((Fr.of_below hbel).setCell (p := ⟨b, 2, none⟩) (.inl h.inS) h.notB _).setCell (p := ⟨b, 3, none⟩) (.inl h.inS) h.notB _
      have F1 : Fr S w1 ((w1.setCell ⟨b, 2, none⟩ (.slice A' l.length c')).setCell ⟨b, 3, none⟩ (.int .i64 (l.length : Int))) :=
        ((Fr.refl S w1).setCell (p := ⟨b, 2, none⟩) (.inl h.inS) h1.notB _).setCell (p := ⟨b, 3, none⟩) (.inl h.inS) h1.notB _
      exact ⟨rfl, h.turned F0 (D' := ⟨false, l, l.length⟩) (by simpa using (h1.blk.set 2 _).set 3 _) ((ho.fr F1).up fun x hx => .inr hx) hc' hok', F0⟩
  · have e : (Dk.swap ⟨true, all, kept⟩ l) = (⟨true, all, kept⟩, 10) := by simp [Dk.swap]
    have H := Lib.hid e
    clear e hok'
    go_enter Tryd.func114, Tryd.ntmps114
    go_wp2_with (go_at_call 117; refine (asked_at h).mono ?_; rintro e w' ⟨rfl, rfl⟩)
    go_ret
    rw [H.out]
    exact ⟨rfl, h.same, Fr.refl _ _⟩

theorem size_B {S : Nat → Prop} {w : World} {b : Nat} {A : Option Addr} {c : Nat} {D : Dk} (h : DiskAt S w b A c D) :
    Calls Tryd.prog 57 #[.pointer (some ⟨b, 0, none⟩)] w fun e w' => e = .returned (.int .i64 (D.all.length : Int)) ∧ w = w' := by
  obtain ⟨dn, all, kept⟩ := D
  obtain ⟨c0, c1, c2, c3, z1, z2, z3, hb, hcap, hk, hall⟩ := h.facts
  go_enter Tryd.func57, Tryd.ntmps57
  go_wp2_with (go_at_call 103; refine (none_at h).mono ?_; rintro e w' ⟨rfl, rfl⟩)
  go_ret
  exact ⟨rfl, rfl⟩

theorem new_B (w : World) : Calls Tryd.prog 84 #[] w fun e w' => ∃ p, e = .returned p ∧ IsDisk (Nw w w') w' p Dk.new ∧ Below w.heap.size w w' := by
  go_enter Tryd.func84, Tryd.ntmps84
  go_wp2
  go_ret
  exact ⟨_, rfl, ⟨_, _, _, rfl, Blk.new _ _ _, Own.nil _ _ _, ⟨Nat.le_refl _, by simp⟩, fun x hx => hx.2, Nat.le_refl _, Dk.ok_new⟩, (Below.refl _ _).alloc (Nat.le_refl _) _⟩

/-- WHAT Kept leaves -/
def BytesNew (w : World) (l : List UInt8) (e : Ending) (w' : World) : Prop :=
  ∃ A' c', e = .returned (.slice A' l.length c') ∧ Own (New w) w' A' l ∧ l.length ≤ c' ∧ c' ≤ maxLen ∧ Below w.heap.size w w'

theorem kept_B {S : Nat → Prop} {w : World} {b : Nat} {A : Option Addr} {c : Nat} {D : Dk} (h : DiskAt S w b A c D) :
    Calls Tryd.prog 56 #[.pointer (some ⟨b, 0, none⟩)] w (BytesNew w (D.all.take D.kept)) := by
  obtain ⟨dn, all, kept⟩ := D
  obtain ⟨c0, c1, c2, c3, z1, z2, z3, hb, hcap, hk, hall⟩ := h.facts
  have em : (all.take kept).length = kept := by rw [List.length_take]; omega
  have hcl := fun w (hr : Rd S w A all) => clone_B S A (all.take kept) kept w (hr.take kept) (by omega)
  rw [em] at hcl
  have k0 : (0 : Int) ≤ (kept : Int) := by omega
  have k1 : (kept : Int) ≤ (c : Int) := by omega
  have k2 : (kept : Int) ≤ (kept : Int) := by omega
  go_enter Tryd.func56, Tryd.ntmps56
  go_wp2_with (go_at_call 103; refine (none_at h).mono ?_; rintro e w' ⟨rfl, rfl⟩)
  go_region_held3 (fun w' => w'.cell? ⟨b, 2, none⟩ = some (.slice A all.length c) ∧ w'.cell? ⟨b, 3, none⟩ = some (.int .i64 (kept : Int))) (go_keep)
    ((go_at_call 80; refine (hcl _ (h.own.rd S).drew).mono ?_; rintro e w1 ⟨A', c', rfl, hor, hc', hm', hbel⟩; have ho := Own.of_row' hor; have h1 := h.drew.below hbel; obtain ⟨d0, d1, d2, d3, y1, y2, y3, hb1, -⟩ := h1.facts))
  go_wp2
  go_ret
  exact ⟨A', c', by rw [em]; rfl, ho, hc', hm', ⟨hbel.os, hbel.tape, hbel.output, hbel.size, hbel.block⟩⟩

end Go.Proofs.YtediidajdpdeiaaDoor
