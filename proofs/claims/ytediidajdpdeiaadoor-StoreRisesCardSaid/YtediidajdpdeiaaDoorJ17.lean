/- A store reads its snapshot (layer 8): the walk of load. -/
import Derived.Test.YtediidajdpdeiaaDoorJ16
import Derived.Test.YtediidajdpdeiaaDoorJ9
import Derived.Test.YtediidajdpdeiaaDoorJ10
import Derived.Test.YtediidajdpdeiaaDoorJ3
import Derived.Stop.RegionWithIn
import Derived.Test.YtediidajdpdeiaaDoorJ0
import Derived.Test.YtediidajdpdeiaaDoorJ12

namespace Go.Proofs.YtediidajdpdeiaaDoor
open Go.RowKit CrcM
set_option maxRecDepth 100000

/-- block eb is a reader that has these bytes before it -/
def EyeAt (w : World) (eb : Nat) (l : List UInt8) : Prop := ∃ A c, Blk w eb TEy #[.slice A l.length c] ∧ Own Ever w A l ∧ l.length ≤ c ∧ c ≤ maxLen
theorem EyeAt.fr {S : Nat → Prop} {w w' : World} {eb : Nat} {l : List UInt8} (h : EyeAt w eb l) (f : Fr S w w') (hs : ¬ S eb) : EyeAt w' eb l := by
  obtain ⟨A, c, h1, h2, h3, h4⟩ := h
  exact ⟨A, c, h1.fr f hs, h2.fr f, h3, h4⟩
theorem EyeAt.num {w : World} {eb n : Nat} {l rest : List UInt8} (h : EyeAt w eb l) (hl : l = numB n ++ rest) (hn : n ≤ 4611686018427387904) :
    Calls Tryd.prog 109 #[.pointer (some ⟨eb, 0, none⟩)] w fun e w' => e = .returned (.int .i64 (n : Int)) ∧ EyeAt w' eb rest ∧ Fr (fun x => x = eb) w w' := by
  obtain ⟨A, c, h1, h2, h3, h4⟩ := h
  refine (eyeNum_B h1 hl hn h2 h3 h4).mono ?_
  rintro e w' ⟨rfl, A', c', rfl, k1, k2, k3⟩
  have hnb : ¬ IsB w eb := h1.notB (by decide)
  have f : Fr (fun x => x = eb) w (w.setCell ⟨eb, 0, none⟩ (.slice A' rest.length c')) := (Fr.refl (fun x => x = eb) _).setCell (p := ⟨eb, 0, none⟩) (.inl rfl) hnb _
  exact ⟨rfl, ⟨A', c', by simpa using h1.set 0 (.slice A' rest.length c'), k1.fr f, k2, k3⟩, f⟩

theorem EyeAt.cut {w : World} {eb c' : Nat} {cs : Array Value} {A' : Option Addr} {more : List UInt8} (h : Blk w eb TEy cs) (hs : cs.size = 1) (ho : Own Ever w A' more) (h1 : more.length ≤ c') (h2 : c' ≤ maxLen) :
    EyeAt (w.setCell ⟨eb, 0, none⟩ (.slice A' more.length c')) eb more ∧ Fr (fun x => x = eb) w (w.setCell ⟨eb, 0, none⟩ (.slice A' more.length c')) := by
  have hnb : ¬ IsB w eb := h.notB (by decide)
  have f : Fr (fun x => x = eb) w (w.setCell ⟨eb, 0, none⟩ (.slice A' more.length c')) := (Fr.refl (fun x => x = eb) _).setCell (p := ⟨eb, 0, none⟩) (.inl rfl) hnb _
  refine ⟨⟨A', c', ?_, ho.fr f, h1, h2⟩, f⟩
  have := h.set 0 (.slice A' more.length c')
  have e : cs.setIfInBounds 0 (.slice A' more.length c') = #[.slice A' more.length c'] := by
    obtain ⟨l⟩ := cs
    match l, hs with
    | [x], _ => rfl
  rw [e] at this
  exact this

theorem insN_end {α : Type} {x : Nat × α} : ∀ {l : List (Nat × α)}, (∀ y ∈ l, y.1 < x.1) → insN x l = l ++ [x]
  | [], _ => rfl
  | y :: r, h => by
    have := h y (List.mem_cons_self ..)
    unfold insN
    rw [if_neg (by omega), insN_end (fun z hz => h z (List.mem_cons_of_mem _ hz))]
    rfl
theorem putN_take {M : Slots} (h : Rise M) {k : Nat} {p : Nat × Hd} (hp : M[k]? = some p) : putN p.1 p.2 (M.take k) = M.take (k + 1) := by
  have hlt : ∀ y ∈ M.take k, y.1 < p.1 := by
    intro y hy
    obtain ⟨i, hi⟩ := List.mem_iff_getElem?.1 hy
    rw [List.getElem?_take] at hi
    split at hi
    · rename_i hik
      obtain ⟨h1, e1⟩ := List.getElem?_eq_some_iff.1 hi
      obtain ⟨h2, e2⟩ := List.getElem?_eq_some_iff.1 hp
      have := (List.pairwise_iff_getElem.1 h) i k h1 h2 hik
      rw [e1, e2] at this
      exact this
    · cases hi
  have hd : delN p.1 (M.take k) = M.take k := by
    unfold delN
    apply List.filter_eq_self.2
    intro y hy
    have := hlt y hy
    exact decide_eq_true (by omega)
  unfold putN
  rw [hd, insN_end hlt, List.take_add_one, hp]
  rfl

theorem St.ok.take {st : St} (h : st.ok) (k : Nat) : St.ok ⟨st.promised, st.base, st.slots.take k⟩ :=
  ⟨h.pr, h.ba, by have := h.few; simp only [List.length_take]; omega, h.rise.sublist (List.take_sublist _ _), fun p hp => h.all p (List.mem_of_mem_take hp)⟩
section
variable {S S1 S2 : Nat → Prop} {w w' : World} {b lb db mb : Nat} {s : So}
/-- the map turns, no block joins -/
theorem SoO.turnMap' (h : SoO S S1 S2 w b lb db mb s) {M' : Slots} (hl : SlotsAt w' mb M') (f : Fr (fun x => x = mb) w w') (hok : St.ok ⟨s.st.promised, s.st.base, M'⟩) :
    SoO S S1 S2 w' b lb db mb ⟨s.per, s.log, s.snap, ⟨s.st.promised, s.st.base, M'⟩⟩ := by
  obtain ⟨A, c, hs⟩ := h.snap
  exact ⟨h.blk.fr f h.ne, h.log.fr f (fun x p q => (h.d1.2 (q ▸ p)).elim), ⟨A, c, hs.fr f (fun x p q => (h.d2.2 (q ▸ p)).elim)⟩, hl, h.h1, h.h2, h.hb, h.hm, h.d12, h.d1, h.d2, fun x hx => Nat.lt_of_lt_of_le (h.lt x hx) f.size, h.per, hok⟩
theorem SoO.eye (h : SoO S S1 S2 w b lb db mb s) {eb : Nat} (f : Fr (fun x => x = eb) w w') (he : ¬ S eb) : SoO S S1 S2 w' b lb db mb s := h.fr f (fun _ hx e => (he (e ▸ hx)).elim)

/-- WHAT load leaves -/
def LoadDid (S S1 S2 : Nat → Prop) (w : World) (b lb db mb : Nat) (s : So) (st : St) (e : Ending) (w' : World) : Prop :=
  e = .returned (.tuple #[]) ∧ SoO S S1 S2 w' b lb db mb ⟨s.per, s.log, s.snap, st⟩ ∧ Fr S w w'

set_option maxHeartbeats 2000000 in
theorem loadS (h : SoO S S1 S2 w b lb db mb s) (hh : HalfAt w) (hst : s.st = St.new) (hup : s.snap.down = false) {st : St} (hok : st.ok) (hsnap : (st = St.new ∧ ∃ r : Int, r ≠ 0 ∧ next s.snap.all ((0 : Nat) : Int) = .error r) ∨ (s.snap.all = frame (snapB st) ∧ (snapB st).length ≤ 65536)) :
    Calls Tryd.prog 108 #[.pointer (some ⟨b, 0, none⟩)] w (LoadDid S S1 S2 w b lb db mb s st) := by
  obtain ⟨c0, c1, c2, c3, c4, c5, z1, z3, z4⟩ := h.facts
  obtain ⟨Ad, cd, hd⟩ := h.snap
  have hrd := read_B hd
  have hrv : s.snap.read = (s.snap.all, 0) := by unfold Dk.read; rw [hup]; rfl
  unfold DiskRead at hrd
  rw [hrv] at hrd
  simp only at hrd
  have hal := hd.ok
  have hrest : (⟨s.per, s.log, s.snap, St.new⟩ : So) = s := by rw [← hst]
  rcases hsnap with ⟨rfl, r, hr0, hne⟩ | ⟨hall, hbody⟩
  · have HN := Lib.hid hne
    have hr0' : (r != 0) = true := by simpa using hr0
    clear hne hr0
    go_enter Tryd.func108, Tryd.ntmps108
    go_wp2_with (first
      | (go_at_call 119; refine hrd.mono ?_; rintro e w1 ⟨A1, c1', rfl, ho1, hc1, hm1, hb1⟩; have hnx := next_B w1 (hh.below hb1 hh.lt) A1 s.snap.all c1' s.snap.all.length (ho1.rd Non) rfl hc1 hm1 0; unfold NextDid at hnx; rw [show ((0 : Int)) = ((0 : Nat) : Int) from rfl, HN.out] at hnx; simp only at hnx)
      | (go_at_call 28; refine hnx.mono ?_; rintro e w2 ⟨rfl, hb2⟩))
    refine bodyPost_ret (results_none rfl _ _ _) rfl ?_
    have hbw := hb1.trans (hb2.mono hb1.size)
    exact ⟨rfl, by rw [hrest]; exact h.below hbw, Fr.of_below hbw⟩
  · obtain ⟨body, hbo⟩ : ∃ l, snapB st = l := ⟨_, rfl⟩
    have hne : next s.snap.all ((0 : Nat) : Int) = .ok (body, (frame body).length) := by
      have := next_frame [] body [] (by rw [← hbo]; exact hbody)
      simp only [List.nil_append, List.append_nil, List.length_nil, Nat.zero_add] at this
      rw [hall, hbo]
      exact this
    obtain ⟨flat, hfl⟩ : ∃ l, (st.slots.map slotB).flatten = l := ⟨_, rfl⟩
    have hb0 : body = numB st.promised ++ (numB st.base ++ (numB st.slots.length ++ flat)) := by rw [← hbo, ← hfl]; rfl
    have hpr := hok.pr
    have hba := hok.ba
    have hfw := hok.few
    have hri := hok.rise
    have hbd := hok.all
    rw [hbo] at hbody
    have hsl : s.st.slots = [] := by rw [hst]; rfl
    have HN := Lib.hid hne
    have HF := Lib.hid hfl
    have HB := Lib.hid hb0
    have HS := Lib.hid hsl
    have HR := Lib.hid hri
    have HD := Lib.hid hbd
    clear hne hfl hb0 hbo hall hst hrest hsl hri hbd
    go_enter Tryd.func108, Tryd.ntmps108
    go_wp2_with (first
      | (go_at_call 119; refine hrd.mono ?_; rintro e w1 ⟨A1, c1', rfl, ho1, hc1, hm1, hb1⟩; have hnx := next_B w1 (hh.below hb1 hh.lt) A1 s.snap.all c1' s.snap.all.length (ho1.rd Non) rfl hc1 hm1 0; unfold NextDid at hnx; rw [show ((0 : Int)) = ((0 : Nat) : Int) from rfl, HN.out] at hnx; simp only at hnx)
      | (go_at_call 28; refine hnx.mono ?_; rintro e w2 ⟨A2, c2', rfl, ho2, hc2, hm2, hb2⟩; have hbw2 := hb1.trans (hb2.mono hb1.size); have hb3 := hbw2.trans ((below_new w2 (.cells #[.slice A2 body.length c2'] TEy)).mono hbw2.size); have hSe : ¬ S w2.heap.size := fun hx => (by have := h.lt _ hx; have := hbw2.size; omega); have hE3 : EyeAt (w2.alloc (.cells #[.slice A2 body.length c2'] TEy)) w2.heap.size body := ⟨A2, c2', Blk.new _ _ _, (ho2.mono (fun _ _ => trivial)).fr (S' := Non) (Fr.of_below (below_new _ _)), hc2, hm2⟩; have hn1 := hE3.num HB.out (by omega))
      | (go_at_call 109; refine hn1.mono ?_; rintro e w4 ⟨rfl, hE4, f4⟩; have h4 := (h.below hb3).eye f4 hSe; obtain ⟨h5, f5⟩ := h4.setPr st.promised hpr; have hE5 := hE4.fr f5 hSe; have hn2 := hE5.num rfl (by omega); obtain ⟨-, -, -, x3, -, -, -, xz3, -⟩ := h4.facts; clear hn1)
      | (go_at_call 109; refine hn2.mono ?_; rintro e w6 ⟨rfl, hE6, f6⟩; have h6 := h5.eye f6 hSe; obtain ⟨h7, f7⟩ := h6.setBa st.base hba; have hE7 := hE6.fr f7 hSe; have hn3 := hE7.num rfl (by omega); obtain ⟨-, -, -, -, y4, -, -, -, yz4⟩ := h6.facts; clear hn2)
      | (go_at_call 109; refine hn3.mono ?_; rintro e w8 ⟨rfl, hE8, f8⟩; have h8 := h7.eye f8 hSe; clear hn3))
    try simp only at h8
    rw [HS.out] at h8
    have hE' : ∀ {a c : World}, Fr (fun x => x = w2.heap.size) a c → w.heap.size ≤ a.heap.size → Fr (fun x => S x ∨ x = w2.heap.size) a c := fun f _ => f.mono (fun _ _ e => .inr e)
    have hw2 := hbw2.size
    have hf8 : Fr S w w8 := by
      have g3 : Fr S w (w2.alloc (.cells #[.slice A2 body.length c2'] TEy)) := Fr.of_below hb3
      have g4 := g3.trans' f4 (fun x hx e => by omega)
      have g5 := g4.trans' f5 (fun _ _ h => h)
      have g6 := g5.trans' f6 (fun x hx e => by omega)
      have g7 := g6.trans' f7 (fun _ _ h => h)
      exact g7.trans' f8 (fun x hx e => by omega)
    clear x3 xz3 y4 yz4 f4 f5 f6 f7 f8 h4 h5 h6 h7 hE3 hE4 hE5 hE6 hE7 hE' c0 c1 c2 c3 c4 c5 z1 z3 z4
    go_loopw [37] (fun i wr => ∃ k : Nat, k ≤ st.slots.length ∧ i = .int .i64 (k : Int) ∧ SoO S S1 S2 wr b lb db mb ⟨s.per, s.log, s.snap, ⟨st.promised, st.base, st.slots.take k⟩⟩ ∧ EyeAt wr w2.heap.size ((st.slots.drop k).map slotB).flatten ∧ Fr S w wr) (fun i _ => st.slots.length - (intOf i).toNat)
    case atStart => exact ⟨0, Nat.zero_le _, rfl, h8, by rw [List.drop_zero, HF.out]; exact hE8, hf8⟩
    case round =>
      obtain ⟨k, hk, rfl, hs, hE, hf⟩ := hrel
      clear h8 hE8 hf8
      by_cases hlt : k < st.slots.length
      · obtain ⟨⟨key, ⟨bal, val⟩⟩, hp⟩ : ∃ p, st.slots[k]? = some p := ⟨_, List.getElem?_eq_getElem hlt⟩
        obtain ⟨b1, b2, b3⟩ := HD.out _ (List.mem_of_getElem? hp)
        simp only at b1 b2 b3
        have hdr : st.slots.drop k = (key, ⟨bal, val⟩) :: st.slots.drop (k + 1) := drop_of hp
        obtain ⟨more, hmo⟩ : ∃ l, ((st.slots.drop (k + 1)).map slotB).flatten = l := ⟨_, rfl⟩
        have hfl : ((st.slots.drop k).map slotB).flatten = numB key ++ (numB bal ++ (numB val.length ++ (val ++ more))) := by
          rw [hdr, List.map_cons, List.flatten_cons, hmo]
          unfold slotB
          simp only [List.append_assoc]
        have hpt := putN_take HR.out hp
        rw [hfl] at hE
        have hn1 := hE.num rfl (by omega)
        have HP := Lib.hid hpt
        have HM := Lib.hid hmo
        have hlt' : (k : Int) < (st.slots.length : Int) := by omega
        clear hdr hmo hfl hpt hp
        go_wp2_with (first
          | (go_at_call 109; refine hn1.mono ?_; rintro e w3 ⟨rfl, hE3, f3⟩; have hn2 := hE3.num rfl (by omega); clear hn1)
          | (go_at_call 109; refine hn2.mono ?_; rintro e w4 ⟨rfl, hE4, f4⟩; have hn3 := hE4.num rfl (by omega); clear hn2)
          | (go_at_call 109; refine hn3.mono ?_; rintro e w5 ⟨rfl, hE5, f5⟩; clear hn3))
        have hs5 := ((hs.eye f3 hSe).eye f4 hSe).eye f5 hSe
        have hf5 : Fr S w w5 := ((hf.trans' f3 (fun x hx e => by omega)).trans' f4 (fun x hx e => by omega)).trans' f5 (fun x hx e => by omega)
        obtain ⟨A5, c5, hB5, hO5, hc5, hm5⟩ := hE5
        have e0 := hB5.cell 0 (v := .slice A5 (val ++ more).length c5) rfl
        obtain ⟨-, -, -, -, -, d5, -, -, -⟩ := hs5.facts
        rw [List.length_append] at hc5 e0
        unfold maxLen at hm5
        have q1 : (0 : Int) ≤ (val.length : Int) := by omega
        have q2 : (val.length : Int) ≤ (c5 : Int) := by omega
        have hOv : Own Ever w5 A5 val := by
          have := hO5.take val.length
          rw [List.take_left' rfl] at this
          exact this
        have hcl := cloneEye_B Non A5 val c5 w5.drew (hOv.rd Non).drew (by omega)
        have htl : (st.slots.take k).length ≤ 1048576 := by rw [List.length_take]; omega
        have hB5' := hB5
        refine wp_region_T #[[], [], [], [], [], [], [], [], [6], [6], [6], [3, 6]] [3, 6] (fun w' => w'.cell? ⟨b, 5, none⟩ = some (.map (some mb)) ∧ w'.cell? ⟨w2.heap.size, 0, none⟩ = some (.slice A5 (val.length + more.length) c5)) 12 rfl (by kernel_rfl) ?_
        (refine wpAnyT_free (i := 0) rfl (by kernel_rfl) rfl (fun _ _ _ h => h) (by kernel_rfl) (fun _ => by go_simp; try rfl) ?_; (try simp only [Act.put, List.setIfInBounds_toArray, List.set_cons_zero, List.set_cons_succ]))
        (refine wpAnyT_free (i := 1) rfl (by kernel_rfl) rfl (fun _ _ _ h => h) (by kernel_rfl) (fun _ => by go_simp; try rfl) ?_; (try simp only [Act.put, List.setIfInBounds_toArray, List.set_cons_zero, List.set_cons_succ]))
        (refine wpAnyT_free (i := 2) rfl (by kernel_rfl) rfl (fun _ _ _ h => h) (by kernel_rfl) (fun _ => by go_simp; try rfl) ?_; (try simp only [Act.put, List.setIfInBounds_toArray, List.set_cons_zero, List.set_cons_succ]))
        (refine wpAnyT_read (i := 3) rfl (by kernel_rfl) rfl (fun _ _ _ h => h) (by kernel_rfl) (⟨d5, e0⟩) (fun w hS_ => by obtain ⟨s_1, s_2⟩ := hS_; go_simp; try rfl) ?_; (try simp only [Act.put, List.setIfInBounds_toArray, List.set_cons_zero, List.set_cons_succ]))
        (refine wpAnyT_free (i := 4) rfl (by kernel_rfl) rfl (fun _ _ _ h => h) (by kernel_rfl) (fun _ => by go_simp; try rfl) ?_; (try simp only [Act.put, List.setIfInBounds_toArray, List.set_cons_zero, List.set_cons_succ]))
        (refine wpAnyT_free (i := 5) rfl (by kernel_rfl) rfl (fun _ _ _ h => h) (by kernel_rfl) (fun _ => by go_simp; try rfl) ?_; (try simp only [Act.put, List.setIfInBounds_toArray, List.set_cons_zero, List.set_cons_succ]))
        (refine wpAnyT_read (i := 6) rfl (by kernel_rfl) rfl (fun _ _ _ h => h) (by kernel_rfl) (⟨d5, e0⟩) (fun w hS_ => by obtain ⟨s_1, s_2⟩ := hS_; go_simp; try rfl) ?_; (try simp only [Act.put, List.setIfInBounds_toArray, List.set_cons_zero, List.set_cons_succ]))
        (refine wpAnyT_free (i := 7) rfl (by kernel_rfl) rfl (fun _ _ _ h => h) (by kernel_rfl) (fun _ => by go_simp; try rfl) ?_; (try simp only [Act.put, List.setIfInBounds_toArray, List.set_cons_zero, List.set_cons_succ]))
        (refine wpAnyT_free (i := 8) rfl (by kernel_rfl) rfl (fun _ _ _ h => h) (by kernel_rfl) (fun _ => by go_simp; try rfl) ?_; (try simp only [Act.put, List.setIfInBounds_toArray, List.set_cons_zero, List.set_cons_succ]))
        refine wpAnyT_one (i := 9) rfl (by kernel_rfl) rfl ?_
        intro K_ hK_
        go_wp2_with ((go_at_call 111; refine hcl.mono ?_; rintro e w6 ⟨A6, c6, rfl, ho6, hc6, hm6, hb6⟩; have hb6' : Below w5.heap.size w5 w6 := ⟨hb6.os, hb6.tape, hb6.output, hb6.size, hb6.block⟩; have hs6 := hs5.below hb6'; replace d5 := (hb6'.cell (p := ⟨b, 5, none⟩) (cell_lt d5)).trans d5; replace e0 := (hb6'.cell (p := ⟨w2.heap.size, 0, none⟩) (cell_lt e0)).trans e0; clear hcl))
        refine hK_ _ _ ?_ ?_
        · exact fun _ _ => ⟨d5, e0⟩
        clear hK_ K_
        (try simp only [Act.put, List.setIfInBounds_toArray, List.set_cons_zero, List.set_cons_succ])
        (refine wpAnyT_free (i := 10) rfl (by kernel_rfl) rfl (fun _ _ _ h => h) (by kernel_rfl) (fun _ => by go_simp; try rfl) ?_; (try simp only [Act.put, List.setIfInBounds_toArray, List.set_cons_zero, List.set_cons_succ]))
        refine wpAnyT_sink (i := 11) rfl (by kernel_rfl) rfl (by kernel_rfl) ?_
        intro K_ hK_
        refine oper_mapPut (.tmp 45) (.tmp 46) (.tmp 52) rfl (M := st.slots.take k) rfl hs6.map htl (k := key) rfl (by omega) (hd := ⟨bal, val⟩) rfl ⟨A6, c6, rfl, hc6, hm6, (Own.of_row' ho6).mono (fun _ _ => trivial)⟩ ?_; intro w7 hm7 f7
        (try (refine hK_ _ _ ?_; clear hK_ K_))
        (try simp only [Act.put])
        refine wpAnyT_done (by kernel_rfl) ?_ _
        rw [HP.out] at hm7
        have hs7 := hs6.turnMap' hm7 f7 (St.ok.take hok (k + 1))
        have hem : w2.heap.size ≠ mb := fun e => hSe (by rw [e]; exact hs6.hm)
        have hB7 := (hB5.below' hb6').fr f7 hem
        have z7 := hB7.frozen 0
        have e7 := hB7.cell 0 (v := .slice A5 (val ++ more).length c5) rfl
        rw [List.length_append] at e7
        have hf7 : Fr S w w7 := (hf5.trans' (Fr.of_below (S := Non) hb6') (fun _ _ h => h.elim)).trans' f7 (fun x _ e => e ▸ hs6.hm)
        have hO7 := ((hO5.drop val.length c5 (by rw [List.length_append]; exact hc5)).fr (S' := Non) (Fr.of_below hb6')).fr f7
        rw [List.drop_left' rfl] at hO7
        have q3 : (val.length : Int) ≤ ((val.length : Int) + (more.length : Int)) := by omega
        have q4 : val.length + more.length - val.length = more.length := by omega
        have hnb7 : ¬ IsB w7 w2.heap.size := hB7.notB (by decide)
        clear d5 e0 hB5 hB5' hO5 hOv
        by_cases hck : c5 = val.length
        · rw [if_pos hck] at hO7
          subst hck
          have hm0 : more.length = 0 := by omega
          go_wp2
          obtain ⟨hE8, f8⟩ := EyeAt.cut hB7 rfl hO7 (c' := 0) (by omega) (Nat.zero_le _)
          rw [hm0] at hE8 f8
          refine ⟨⟨k + 1, by omega, by go_num, hs7.eye f8 hSe, by rw [HM.out]; exact hE8, hf7.trans' f8 (fun x hx e => by omega)⟩, by simp [intOf]; omega⟩
        · rw [if_neg hck] at hO7
          go_wp2
          obtain ⟨hE8, f8⟩ := EyeAt.cut hB7 rfl hO7 (c' := c5 - val.length) (by omega) (by unfold maxLen; omega)
          refine ⟨⟨k + 1, by omega, by go_num, hs7.eye f8 hSe, by rw [HM.out]; exact hE8, hf7.trans' f8 (fun x hx e => by omega)⟩, by simp [intOf]; omega⟩
      · obtain rfl : k = st.slots.length := by omega
        rw [List.take_of_length_le (Nat.le_refl _)] at hs
        go_wp2
        refine bodyPost_end (results_none rfl _ _ _) rfl ?_
        exact ⟨rfl, hs, hf⟩
end
end Go.Proofs.YtediidajdpdeiaaDoor

/- The log's Records, ranged over by a loop (layer 8): the iterator's word. -/
namespace Go.Proofs.YtediidajdpdeiaaDoor
open Go.RowKit Go.Shelf CrcM
attribute [local go_sem] Oper.semAt_some
set_option maxRecDepth 100000

/-- what a round is handed -/
def RecGv (gs : List Sg) (k : Nat) (v : Array Value) (W : World) : Prop :=
  ∃ num r A c, (numS gs)[k]? = some (num, r) ∧ v = #[.int .i64 (num : Int), .slice A r.length c] ∧ Own (fun _ => True) W A r ∧ r.length ≤ c ∧ c ≤ maxLen
theorem RecGv.own_ (gs : List Sg) (v : Array Value) (B : Nat) : OwnFrom B fun k W => RecGv gs k v W := by
  intro k W W' row hs hg hr
  obtain ⟨num, r, A, c, h1, h2, h3, h4⟩ := hs
  refine ⟨num, r, A, c, h1, h2, ?_, h4⟩
  intro j x hx
  obtain ⟨ad, e, hc, ⟨cs, fz, hb⟩, _⟩ := h3 j x hx
  refine ⟨ad, e, cell_kept hc hg (fun r e => (hr r e).2), ⟨cs, fz, ?_⟩, trivial⟩
  refine (hg.block _ (Array.getElem?_eq_some_iff.1 hb).1 ?_).trans hb
  intro e
  obtain ⟨o, ho, hcs⟩ := (hr _ e.symm).2
  rw [hb] at ho
  injection ho with ho
  rw [← ho] at hcs
  cases hcs

theorem yield_out {e : Ending} {J Jx : Prop} (h : (e = .returned (.bool true) ∧ J) ∨ (e = .returned (.bool false) ∧ Jx)) : ∃ bb, e = .returned (.bool bb) ∧ ((bb = true ∧ J) ∨ (bb = false ∧ Jx)) := by
  rcases h with ⟨h1, h2⟩ | ⟨h1, h2⟩
  · exact ⟨true, h1, .inl ⟨rfl, h2⟩⟩
  · exact ⟨false, h1, .inr ⟨rfl, h2⟩⟩
theorem wpIn_scopeW {n : Nat} {P : Program} {c : Code} {Q : Exit → Act → World → Prop} {a : Act} {w : World} (h : c.wpIn Fence.wide n P (Exit.noGoto Q) a w) : (Code.scope c).wpIn Fence.wide n P Q a w :=
  wpIn_wide.2 (wp_scope_straight (wpIn_wide.1 h))

section
variable {S H S' : Nat → Prop} {w0 : World} {b : Nat} {A : Option Addr} {c : Nat} {ps : List Nat} {per : Nat} {gs : List Sg}
set_option maxHeartbeats 2000000 in
theorem records_iterates (h : LogO S H w0 b A c ps ⟨per, gs, false⟩) (hd : ∀ x, S x → ¬ S' x) (bx : Nat) (I : Nat → World → Prop) (hI : ∀ k W, I k W → Fr S' w0 W ∧ W.cell? ⟨bx, 0, none⟩ = some (.pointer (some ⟨b, 0, none⟩))) (w : World) :
    Iterates Tryd.prog 118 #[.pointer (some ⟨bx, 0, none⟩)] (RecGv gs) I (fun k => k = (numS gs).length) w := by
  intro n l J Jx W hW hJI hJ hY h0
  obtain ⟨hf0, hbx0⟩ := hI 0 _ (hJI 0 _ h0)
  have hlog0 := h.fr hf0 (fun x p q => (hd x p q).elim)
  obtain ⟨c0, c1, c2, z1, z2, q0, q1, q2, q3, q4⟩ := hlog0.facts
  have HQ := Lib.hid q1
  clear q1
  refine callsIn_of_wp Tryd.func118 rfl trivial ?_ rfl
  simp only [Tryd.ntmps118, List.size_toArray, List.length_cons, List.length_nil, Nat.reduceAdd, Nat.reduceSub, Array.replicate_succ, Array.replicate_zero, List.push_toArray, List.append_toArray, List.nil_append, List.cons_append]
  refine wpIn_scopeW ?_
  gi_wp2_with (refine ⟨trivial, fun h_ => (by cases h_), ?_⟩; gi_at_call 82; refine (callsIn_wide.2 (askedL hlog0)).mono ?_; rintro e w' ⟨rfl, rfl⟩)
  refine wpIn_label ?_
  gi_wp2
  clear c0 c1 c2 z1 z2 q0
  gi_loopw [15] (fun i wr => ∃ k : Nat, k ≤ ps.length ∧ i = .int .i64 (k : Int) ∧ J (numS (gs.take k)).length wr) (fun i _ => ps.length - (intOf i).toNat)
  case atStart => exact ⟨0, Nat.zero_le _, rfl, h0⟩
  case round =>
    obtain ⟨k, hk, rfl, hJk⟩ := hrel
    by_cases hlt : k < ps.length
    · obtain ⟨g, hg⟩ : ∃ g, gs[k]? = some g := ⟨_, List.getElem?_eq_getElem (show k < gs.length by have := HQ.out; omega)⟩
      obtain ⟨p, hp⟩ : ∃ p, ps[k]? = some p := ⟨_, List.getElem?_eq_getElem hlt⟩
      obtain ⟨R, cr, vals, hSp, s1, s2, hrow, hrec⟩ := h.recsAt hp hg
      have hok := h.ok.2.2.2 _ (List.mem_of_getElem? hg)
      have n1 := hok.1
      have n2 := hok.2.1
      have n3 := hok.2.2.2
      obtain ⟨ga, oa, ca, hA, hSg, _, hca, _⟩ := h.row.cell (k := k) (u := ptr p) (by rw [List.getElem?_map, hp]; rfl)
      rw [List.length_map] at hA
      injection hA with hA1 hA2 hA3
      subst hA1
      subst hA3
      clear hA2
      have f1 := (hI _ _ (hJI _ _ hJk)).1
      have a1 : wr.cell? ⟨ga, oa + k, none⟩ = some (.pointer (some ⟨p, 0, none⟩)) := (cell_eq (a := ⟨ga, oa + k, none⟩) (f1.out ga (cell_lt hca) (hd _ (h.hS _ hSg)))).trans hca
      have a2 : wr.cell? ⟨p, 2, none⟩ = some (.slice R g.recs.length cr) := (cell_eq (a := ⟨p, 2, none⟩) (f1.out p (cell_lt s2) (hd _ hSp))).trans s2
      have HS := Lib.hid (numS_succ hg)
      have hlt' : (k : Int) < (ps.length : Int) := by omega
      have HG := Lib.hid hg
      have hcap := hrow.val
      clear hok hca f1 hg hp
      gi_wp2
      clear a1 a2
      gi_loopw [24] (fun i wr => ∃ j : Nat, j ≤ g.recs.length ∧ i = .int .i64 (j : Int) ∧ J ((numS (gs.take k)).length + j) wr) (fun i _ => g.recs.length - (intOf i).toNat)
      case atStart => exact ⟨0, Nat.zero_le _, rfl, hJk⟩
      case round =>
        obtain ⟨j, hj, rfl, hJj⟩ := hrel
        by_cases hjl : j < g.recs.length
        · obtain ⟨r, hr⟩ : ∃ r, g.recs[j]? = some r := ⟨_, List.getElem?_eq_getElem hjl⟩
          obtain ⟨A', c', hv, hc', hm', ho⟩ := hrec.2 j r hr
          have hrl := n3 r (List.mem_of_getElem? hr)
          obtain ⟨gr, or_, cr', hR, hSgr, _, hcr, _⟩ := hrow.cell hv
          injection hR with hR1 hR2 hR3
          subst hR1
          clear hR2 hR3
          have f2 := (hI _ _ (hJI _ _ hJj)).1
          have b1 : wr.cell? ⟨gr, or_ + j, none⟩ = some (.slice A' r.length c') := (cell_eq (a := ⟨gr, or_ + j, none⟩) (f2.out gr (cell_lt hcr) (hd _ hSgr))).trans hcr
          have b2 : wr.cell? ⟨p, 1, none⟩ = some (.int .i64 (g.base : Int)) := (cell_eq (a := ⟨p, 1, none⟩) (f2.out p (cell_lt s1) (hd _ hSp))).trans s1
          have ho2 : Own Any wr A' r := ho.fr f2
          have HN := Lib.hid (numS_at HG.out hr)
          have hjl' : (j : Int) < (g.recs.length : Int) := by omega
          have k1 : IntKind.i64.wrap ((g.base : Int) + (j : Int)) = (g.base : Int) + (j : Int) := by rw [IntKind.wrap_i64]; omega
          clear hcr f2 hr hv
          gi_wp2
          gi_region_with (first
            | (refine ⟨trivial, fun h_ => (by cases h_), ?_⟩; gi_at_call 80; refine (callsIn_wide.2 (clone_B Non A' r c' _ (ho2.rd _).drew (by omega))).mono ?_; rintro e w4 ⟨A4, c4, rfl, hor4, hc4, hm4, hb4⟩; have b4 := (hb4.cell (p := ⟨p, 1, none⟩) (cell_lt b2)).trans b2; have hJ4 := OwnFrom.below hJ hJj (show Below wr.heap.size wr w4 from ⟨hb4.os, hb4.tape, hb4.output, hb4.size, hb4.block⟩); obtain ⟨fn, tmps, asg, bdy, hy, hRn⟩ := hY ((numS (gs.take k)).length + j) #[.int .i64 ((g.base : Int) + (j : Int)), .slice A4 r.length c4] w4 hJ4 ⟨g.base + j, r, A4, c4, HN.out, rfl, (Own.of_row' hor4).mono (fun _ _ => trivial), hc4, hm4⟩)
            | (refine ⟨fun h_ => (by cases h_), hRn.mono ?_⟩; rintro e W3 h3; obtain ⟨bb, rfl, hbb⟩ := yield_out h3))
          all_goals
            rcases hbb with ⟨rfl, hJ3⟩ | ⟨rfl, hJx3⟩
            · gi_wp2
              go_roundw
              case rel => exact ⟨j + 1, by omega, by go_num, hJ3⟩
              case measure => simp [intOf]; omega
            · gi_wp2
              refine bodyPost_end (results_none rfl _ _ _) rfl ?_
              exact ⟨⟨_, rfl⟩, .inr ⟨_, hJx3⟩⟩
        · obtain rfl : j = g.recs.length := by omega
          gi_wp2
          go_roundw
          case rel => exact ⟨k + 1, by omega, by go_num, by rw [HS.out]; exact hJj⟩
          case measure => simp [intOf]; omega
    · obtain rfl : k = ps.length := by omega
      rw [List.take_of_length_le (by rw [HQ.out]; omega)] at hJk
      gi_wp2
      rw [Exit.noGoto_normal]
      refine bodyPost_end (results_none rfl _ _ _) rfl ?_
      exact ⟨⟨_, rfl⟩, .inl ⟨_, rfl, hJk⟩⟩
end
end Go.Proofs.YtediidajdpdeiaaDoor

/- A function value is not nil. -/
namespace Go.Proofs.YtediidajdpdeiaaDoor
open Go.RowKit

theorem run_equalIn_func_nil {P : Program} {t : TypeId} {ps rs : Array TypeId} {vd : Bool} (h : P.underlying t = some (.func ps rs vd)) (d : Nat) (f : Fn) (a c : Array Value) (w : World) :
    (Op.equalIn (d + 1) t (.func f a c) .nilFunc).run P w = .ok false w := by
  simp [Op.equalIn, run_underlying h]
theorem run_eql_func_nil {P : Program} {t : TypeId} {ps rs : Array TypeId} {vd : Bool} (h : P.underlying t = some (.func ps rs vd)) (f : Fn) (a c : Array Value) (w : World) :
    (binOp .eql t (.func f a c) .nilFunc).run P w = .ok (.bool false) w := by
  simp only [binOp]
  simp [show Op.equal t (.func f a c) .nilFunc = Op.equalIn (9999 + 1) t (.func f a c) .nilFunc from rfl, run_equalIn_func_nil h]
theorem run_neq_func_nil {P : Program} {t : TypeId} {ps rs : Array TypeId} {vd : Bool} (h : P.underlying t = some (.func ps rs vd)) (f : Fn) (a c : Array Value) (w : World) :
    (binOp .neq t (.func f a c) .nilFunc).run P w = .ok (.bool true) w := by
  simp only [binOp]
  simp [show Op.equal t (.func f a c) .nilFunc = Op.equalIn (9999 + 1) t (.func f a c) .nilFunc from rfl, run_equalIn_func_nil h]

end Go.Proofs.YtediidajdpdeiaaDoor

/- The laws' own helper 'all' (layer 7): all records of a log, and their numbers. -/
namespace Go.Proofs.YtediidajdpdeiaaDoor
open Go.RowKit CrcM
set_option maxRecDepth 100000

theorem numS_num {per : Nat} : ∀ {gs : List Sg} {n num : Nat} {r : List UInt8}, Chain per gs → (numS gs)[n]? = some (num, r) → num = headS gs + n ∧ (recsS gs)[n]? = some r
  | [], n, num, r, _, h => by simp [numS] at h
  | g :: t, n, num, r, hc, h => by
    have hR : ∀ (rs : List (List UInt8)) (b n num : Nat) (r : List UInt8), (numR b rs)[n]? = some (num, r) → num = b + n ∧ rs[n]? = some r := by
      intro rs
      induction rs with
      | nil => intro b n num r h; simp [numR] at h
      | cons x rs ih =>
        intro b n num r h
        cases n with
        | zero =>
          simp only [numR, List.getElem?_cons_zero, Option.some.injEq, Prod.mk.injEq] at h
          exact ⟨by omega, by rw [List.getElem?_cons_zero, h.2]⟩
        | succ n =>
          simp only [numR, List.getElem?_cons_succ] at h
          have := ih (b + 1) n num r h
          exact ⟨by omega, by rw [List.getElem?_cons_succ]; exact this.2⟩
    have e : numS (g :: t) = numR g.base g.recs ++ numS t := by simp [numS]
    have e2 : recsS (g :: t) = g.recs ++ recsS t := by simp [recsS]
    rw [e] at h
    rw [e2]
    by_cases hn : n < g.recs.length
    · rw [List.getElem?_append_left (by rw [length_numR]; exact hn)] at h
      rw [List.getElem?_append_left hn]
      exact hR _ _ _ _ _ h
    · rw [List.getElem?_append_right (by rw [length_numR]; omega), length_numR] at h
      rw [List.getElem?_append_right (by omega)]
      have ih := numS_num hc.tail h
      refine ⟨?_, ih.2⟩
      cases t with
      | nil => simp [numS] at h
      | cons y t =>
        have := hc.2.1
        simp only [headS] at ih ⊢
        omega
theorem length_numS (gs : List Sg) : (numS gs).length = (recsS gs).length := by
  induction gs with
  | nil => rfl
  | cons g t ih =>
    have e : numS (g :: t) = numR g.base g.recs ++ numS t := by simp [numS]
    have e2 : recsS (g :: t) = g.recs ++ recsS t := by simp [recsS]
    rw [e, e2, List.length_append, List.length_append, length_numR, ih]

theorem recs_B (w : World) (b : Nat) : Calls Tryd.prog 89 #[.pointer (some ⟨b, 0, none⟩)] w fun e w' => e = .returned (.func (.func 118) #[] #[.pointer (some ⟨w.heap.size, 0, none⟩)]) ∧ w.alloc (.cells #[.pointer (some ⟨b, 0, none⟩)] 52) = w' := by
  go_enter Tryd.func89, Tryd.ntmps89
  go_wp2
  go_ret
  exact ⟨rfl, rfl⟩

/-- what is known where n records have come -/
structure AllR (w4 : World) (nb b : Nat) (recs : List (List UInt8)) (n : Nat) (W : World) : Prop where
  fr : Fr (fun x => nb ≤ x) w4 W
  lt : nb + 4 ≤ w4.heap.size
  b0 : Blk W nb 52 #[.pointer (some ⟨b, 0, none⟩)]
  b1 : ∃ v vals, Blk W (nb + 1) 45 #[v] ∧ Row (fun x => nb + 3 < x) W TBs v vals ∧ Recs W vals (recs.take n)
  b2 : Blk W (nb + 2) 4 #[.bool true]
  b3 : Blk W (nb + 3) 52 #[.pointer (some ⟨b, 0, none⟩)]
theorem AllR.below {w4 W W' : World} {nb b n : Nat} {recs : List (List UInt8)} (h : AllR w4 nb b recs n W) (hb : Below W.heap.size W W') : AllR w4 nb b recs n W' := by
  obtain ⟨v, vals, h1, h2, h3⟩ := h.b1
  exact ⟨h.fr.trans' (Fr.of_below (S := Non) hb) (fun _ _ h => h.elim), h.lt, h.b0.below' hb, ⟨v, vals, h1.below' hb, h2.below hb, h3.fr (Fr.of_below (S := Non) hb)⟩, h.b2.below' hb, h.b3.below' hb⟩

section
variable {S H : Nat → Prop} {w4 : World} {b nb : Nat} {A : Option Addr} {c : Nat} {ps : List Nat} {L : Lg}
set_option maxHeartbeats 1000000 in
theorem lit_all (h : LogO S H w4 b A c ps L) (hS : ∀ x, S x → ¬ nb ≤ x) {n m : Nat} (hinv : L.inv m) (hm : m ≤ 1048576) (hd : L.down = false) {W : World} (hJ : AllR w4 nb b L.recs n W) {num : Nat} {r : List UInt8} {A' : Option Addr} {c' : Nat} (hn : (numS L.segs)[n]? = some (num, r)) (ho : Own Any W A' r) (hc' : r.length ≤ c') (hm' : c' ≤ maxLen) :
    Calls Tryd.prog 90 #[.int .i64 (num : Int), .slice A' r.length c', .pointer (some ⟨nb + 2, 0, none⟩), .pointer (some ⟨nb, 0, none⟩), .pointer (some ⟨nb + 1, 0, none⟩)] W fun e W' => e = .returned (.bool true) ∧ AllR w4 nb b L.recs (n + 1) W' := by
  obtain ⟨ib, hib, hzb, hsb, hbb⟩ := info_parts info_bs
  obtain ⟨hnum, hrec⟩ := numS_num hinv.chain hn
  rw [← L.base_eq hd] at hnum
  rw [← L.recs_eq hd] at hrec
  have hlen := hinv.len hd
  have hle := hinv.len_le
  have hnl : n < L.recs.length := (List.getElem?_eq_some_iff.1 hrec).1
  have hlW : LogO S H W b A c ps L := h.fr hJ.fr (fun x hx hy => (hS x hx hy).elim)
  obtain ⟨v, vals, i1, irow, irec⟩ := hJ.b1
  obtain ⟨R, cr, rfl, -⟩ := irow.val
  have hvl : vals.length = n := by rw [irec.1, List.length_take]; omega
  have hB := baseL (hlW.below (w' := W.drew) ((Below.refl _ W).drew))
  have e0 := hJ.b0.cell 0 (v := .pointer (some ⟨b, 0, none⟩)) rfl
  have e1 := i1.cell 0 (v := .slice R vals.length cr) rfl
  have e1f := i1.frozen 0
  have e2 := hJ.b2.cell 0 (v := .bool true) rfl
  have e2f := hJ.b2.frozen 0
  have k1 : IntKind.i64.wrap ((L.base : Int) + (vals.length : Int)) = (num : Int) := by rw [IntKind.wrap_i64]; omega
  have k2 : ((num : Int) == (num : Int)) = true := beq_self_eq_true _
  have HV := Lib.hid hvl
  have HR := Lib.hid hrec
  have HV4 : vals.length + 1 ≤ maxLen := by unfold maxLen; omega
  have HV5 : (vals.length + 1) * 24 ≤ 140737488355328 := by omega
  clear hn hnum hlen hle hrec hvl
  go_enter Tryd.func90, Tryd.ntmps90
  go_wp2
  refine wp_region_T #[[], [0], [0], [0], [0, 3], [0], [0, 5], [0, 3, 5], [0, 3, 5], [0, 3, 5], [0, 3, 5]] [0, 3, 5] (fun w' => w'.cell? ⟨nb + 2, 0, none⟩ = some (.bool true) ∧ w'.cell? ⟨nb, 0, none⟩ = some (.pointer (some ⟨b, 0, none⟩)) ∧ w'.cell? ⟨nb + 1, 0, none⟩ = some (.slice R vals.length cr)) 11 rfl (by kernel_rfl) ?_
  (refine wpAnyT_read (i := 0) rfl (by kernel_rfl) rfl (fun _ _ _ h => h) (by kernel_rfl) (⟨e2, e0, e1⟩) (fun w hS_ => by obtain ⟨s_1, s_2, s_3⟩ := hS_; go_simp; try rfl) ?_; (try simp only [Act.put, List.setIfInBounds_toArray, List.set_cons_zero, List.set_cons_succ]))
  (refine wpAnyT_free (i := 1) rfl (by kernel_rfl) rfl (fun _ _ _ h => h) (by kernel_rfl) (fun _ => by go_simp; try rfl) ?_; (try simp only [Act.put, List.setIfInBounds_toArray, List.set_cons_zero, List.set_cons_succ]))
  first
  | (refine wpAnyT_skip (i := 2) rfl (by kernel_rfl) rfl (fun _ _ _ h => h) (fun h_ => absurd h_ (by decide)) ?_; (try simp only [Act.put, List.setIfInBounds_toArray, List.set_cons_zero, List.set_cons_succ]))
  | (refine wpAnyT_free (i := 2) rfl (by kernel_rfl) rfl (fun _ _ _ h => h) (by kernel_rfl) (fun _ => by go_simp; try rfl) ?_; (try simp only [Act.put, List.setIfInBounds_toArray, List.set_cons_zero, List.set_cons_succ]))
  | (refine wpAnyT_skip (i := 2) rfl (by kernel_rfl) (by first | (simp [Region.wanted, yielded]; done) | (simp [Region.wanted, yielded, undef, *]; done)) (fun _ _ _ h => h) (fun h_ => absurd h_ (by decide)) ?_; (try simp only [Act.put, List.setIfInBounds_toArray, List.set_cons_zero, List.set_cons_succ]))
  | (refine wpAnyT_free (i := 2) rfl (by kernel_rfl) (by first | (simp [Region.wanted, yielded]; done) | (simp [Region.wanted, yielded, undef, *]; done)) (fun _ _ _ h => h) (by kernel_rfl) (fun _ => by go_simp; try rfl) ?_; (try simp only [Act.put, List.setIfInBounds_toArray, List.set_cons_zero, List.set_cons_succ]))
  first
  | (refine wpAnyT_skip (i := 3) rfl (by kernel_rfl) rfl (fun _ _ _ h => h) (fun _ => ⟨e2, e0, e1⟩) ?_; (try simp only [Act.put, List.setIfInBounds_toArray, List.set_cons_zero, List.set_cons_succ]))
  | (refine wpAnyT_read (i := 3) rfl (by kernel_rfl) rfl (fun _ _ _ h => h) (by kernel_rfl) (⟨e2, e0, e1⟩) (fun w hS_ => by obtain ⟨s_1, s_2, s_3⟩ := hS_; go_simp; try rfl) ?_; (try simp only [Act.put, List.setIfInBounds_toArray, List.set_cons_zero, List.set_cons_succ]))
  | (refine wpAnyT_skip (i := 3) rfl (by kernel_rfl) (by first | (simp [Region.wanted, yielded]; done) | (simp [Region.wanted, yielded, undef, *]; done)) (fun _ _ _ h => h) (fun _ => ⟨e2, e0, e1⟩) ?_; (try simp only [Act.put, List.setIfInBounds_toArray, List.set_cons_zero, List.set_cons_succ]))
  | (refine wpAnyT_read (i := 3) rfl (by kernel_rfl) (by first | (simp [Region.wanted, yielded]; done) | (simp [Region.wanted, yielded, undef, *]; done)) (fun _ _ _ h => h) (by kernel_rfl) (⟨e2, e0, e1⟩) (fun w hS_ => by obtain ⟨s_1, s_2, s_3⟩ := hS_; go_simp; try rfl) ?_; (try simp only [Act.put, List.setIfInBounds_toArray, List.set_cons_zero, List.set_cons_succ]))
  first
  | (refine wpAnyT_skip (i := 5) rfl (by kernel_rfl) rfl (fun _ _ _ h => h) (fun _ => ⟨e2, e0, e1⟩) ?_; (try simp only [Act.put, List.setIfInBounds_toArray, List.set_cons_zero, List.set_cons_succ]))
  | (refine wpAnyT_read (i := 5) rfl (by kernel_rfl) rfl (fun _ _ _ h => h) (by kernel_rfl) (⟨e2, e0, e1⟩) (fun w hS_ => by obtain ⟨s_1, s_2, s_3⟩ := hS_; go_simp; try rfl) ?_; (try simp only [Act.put, List.setIfInBounds_toArray, List.set_cons_zero, List.set_cons_succ]))
  | (refine wpAnyT_skip (i := 5) rfl (by kernel_rfl) (by first | (simp [Region.wanted, yielded]; done) | (simp [Region.wanted, yielded, undef, *]; done)) (fun _ _ _ h => h) (fun _ => ⟨e2, e0, e1⟩) ?_; (try simp only [Act.put, List.setIfInBounds_toArray, List.set_cons_zero, List.set_cons_succ]))
  | (refine wpAnyT_read (i := 5) rfl (by kernel_rfl) (by first | (simp [Region.wanted, yielded]; done) | (simp [Region.wanted, yielded, undef, *]; done)) (fun _ _ _ h => h) (by kernel_rfl) (⟨e2, e0, e1⟩) (fun w hS_ => by obtain ⟨s_1, s_2, s_3⟩ := hS_; go_simp; try rfl) ?_; (try simp only [Act.put, List.setIfInBounds_toArray, List.set_cons_zero, List.set_cons_succ]))
  first
  | (refine wpAnyT_skip (i := 6) rfl (by kernel_rfl) rfl (fun _ _ _ h => h) (fun h_ => absurd h_ (by decide)) ?_; (try simp only [Act.put, List.setIfInBounds_toArray, List.set_cons_zero, List.set_cons_succ]))
  | (refine wpAnyT_free (i := 6) rfl (by kernel_rfl) rfl (fun _ _ _ h => h) (by kernel_rfl) (fun _ => by go_simp; try rfl) ?_; (try simp only [Act.put, List.setIfInBounds_toArray, List.set_cons_zero, List.set_cons_succ]))
  | (refine wpAnyT_skip (i := 6) rfl (by kernel_rfl) (by first | (simp [Region.wanted, yielded]; done) | (simp [Region.wanted, yielded, undef, *]; done)) (fun _ _ _ h => h) (fun h_ => absurd h_ (by decide)) ?_; (try simp only [Act.put, List.setIfInBounds_toArray, List.set_cons_zero, List.set_cons_succ]))
  | (refine wpAnyT_free (i := 6) rfl (by kernel_rfl) (by first | (simp [Region.wanted, yielded]; done) | (simp [Region.wanted, yielded, undef, *]; done)) (fun _ _ _ h => h) (by kernel_rfl) (fun _ => by go_simp; try rfl) ?_; (try simp only [Act.put, List.setIfInBounds_toArray, List.set_cons_zero, List.set_cons_succ]))
  first
  | (refine wpAnyT_skip (i := 4) rfl (by kernel_rfl) rfl (fun _ _ _ h => h) (fun h_ => absurd h_ (by decide)) ?_; (try simp only [Act.put, List.setIfInBounds_toArray, List.set_cons_zero, List.set_cons_succ]))
  | (refine wpAnyT_one (i := 4) rfl (by kernel_rfl) rfl ?_
     intro K_ hK_
     go_wp2_with ((go_at_call 39; refine hB.mono ?_; rintro e W2 ⟨rfl, hb2⟩; have y1 := (hb2.cell (p := ⟨nb + 1, 0, none⟩) (cell_lt e1)).trans e1; have y2 := (hb2.cell (p := ⟨nb + 2, 0, none⟩) (cell_lt e2)).trans e2; have y2f := (hb2.frozen (p := ⟨nb + 2, 0, none⟩) (cell_lt e2)).trans e2f))
     refine hK_ _ _ ?_ ?_
     · exact fun _ _ => ⟨y2, (hb2.cell (p := ⟨nb, 0, none⟩) (cell_lt e0)).trans e0, y1⟩
     clear hK_ K_
     (try simp only [Act.put, List.setIfInBounds_toArray, List.set_cons_zero, List.set_cons_succ]))
  | (refine wpAnyT_skip (i := 4) rfl (by kernel_rfl) (by first | (simp [Region.wanted, yielded]; done) | (simp [Region.wanted, yielded, undef, *]; done)) (fun _ _ _ h => h) (fun h_ => absurd h_ (by decide)) ?_; (try simp only [Act.put, List.setIfInBounds_toArray, List.set_cons_zero, List.set_cons_succ]))
  | (refine wpAnyT_one (i := 4) rfl (by kernel_rfl) (by first | (simp [Region.wanted, yielded]; done) | (simp [Region.wanted, yielded, undef, *]; done)) ?_
     intro K_ hK_
     go_wp2_with ((go_at_call 39; refine hB.mono ?_; rintro e W2 ⟨rfl, hb2⟩; have y1 := (hb2.cell (p := ⟨nb + 1, 0, none⟩) (cell_lt e1)).trans e1; have y2 := (hb2.cell (p := ⟨nb + 2, 0, none⟩) (cell_lt e2)).trans e2; have y2f := (hb2.frozen (p := ⟨nb + 2, 0, none⟩) (cell_lt e2)).trans e2f))
     refine hK_ _ _ ?_ ?_
     · exact fun _ _ => ⟨y2, (hb2.cell (p := ⟨nb, 0, none⟩) (cell_lt e0)).trans e0, y1⟩
     clear hK_ K_
     (try simp only [Act.put, List.setIfInBounds_toArray, List.set_cons_zero, List.set_cons_succ]))
  first
  | (refine wpAnyT_skip (i := 7) rfl (by kernel_rfl) rfl (fun _ _ _ h => h) (fun h_ => absurd h_ (by decide)) ?_; (try simp only [Act.put, List.setIfInBounds_toArray, List.set_cons_zero, List.set_cons_succ]))
  | (refine wpAnyT_free (i := 7) rfl (by kernel_rfl) rfl (fun _ _ _ h => h) (by kernel_rfl) (fun _ => by go_simp; try rfl) ?_; (try simp only [Act.put, List.setIfInBounds_toArray, List.set_cons_zero, List.set_cons_succ]))
  | (refine wpAnyT_skip (i := 7) rfl (by kernel_rfl) (by first | (simp [Region.wanted, yielded]; done) | (simp [Region.wanted, yielded, undef, *]; done)) (fun _ _ _ h => h) (fun h_ => absurd h_ (by decide)) ?_; (try simp only [Act.put, List.setIfInBounds_toArray, List.set_cons_zero, List.set_cons_succ]))
  | (refine wpAnyT_free (i := 7) rfl (by kernel_rfl) (by first | (simp [Region.wanted, yielded]; done) | (simp [Region.wanted, yielded, undef, *]; done)) (fun _ _ _ h => h) (by kernel_rfl) (fun _ => by go_simp; try rfl) ?_; (try simp only [Act.put, List.setIfInBounds_toArray, List.set_cons_zero, List.set_cons_succ]))
  first
  | (refine wpAnyT_skip (i := 8) rfl (by kernel_rfl) rfl (fun _ _ _ h => h) (fun h_ => absurd h_ (by decide)) ?_; (try simp only [Act.put, List.setIfInBounds_toArray, List.set_cons_zero, List.set_cons_succ]))
  | (refine wpAnyT_free (i := 8) rfl (by kernel_rfl) rfl (fun _ _ _ h => h) (by kernel_rfl) (fun _ => by go_simp; try rfl) ?_; (try simp only [Act.put, List.setIfInBounds_toArray, List.set_cons_zero, List.set_cons_succ]))
  | (refine wpAnyT_skip (i := 8) rfl (by kernel_rfl) (by first | (simp [Region.wanted, yielded]; done) | (simp [Region.wanted, yielded, undef, *]; done)) (fun _ _ _ h => h) (fun h_ => absurd h_ (by decide)) ?_; (try simp only [Act.put, List.setIfInBounds_toArray, List.set_cons_zero, List.set_cons_succ]))
  | (refine wpAnyT_free (i := 8) rfl (by kernel_rfl) (by first | (simp [Region.wanted, yielded]; done) | (simp [Region.wanted, yielded, undef, *]; done)) (fun _ _ _ h => h) (by kernel_rfl) (fun _ => by go_simp; try rfl) ?_; (try simp only [Act.put, List.setIfInBounds_toArray, List.set_cons_zero, List.set_cons_succ]))
  (refine wpAnyT_free (i := 9) rfl (by kernel_rfl) rfl (fun _ _ _ h => h) (by kernel_rfl) (fun _ => by go_simp; try rfl) ?_; (try simp only [Act.put, List.setIfInBounds_toArray, List.set_cons_zero, List.set_cons_succ]))
  refine wpAnyT_sink (i := 10) rfl (by kernel_rfl) rfl (by kernel_rfl) ?_
  intro K_ hK_
  go_wp2
  (try (refine hK_ _ _ ?_; clear hK_ K_))
  (try simp only [Act.put, List.setIfInBounds_toArray, List.set_cons_zero, List.set_cons_succ])
  refine wpAnyT_done (by kernel_rfl) ?_ _
  have hb2' : Below W.heap.size W W2 := ⟨hb2.os, hb2.tape, hb2.output, hb2.size, hb2.block⟩
  have b2 := hJ.b2.below' hb2'
  have hnb : ¬ IsB W (nb + 2) := hJ.b2.notB (by decide)
  have f3 : Fr (fun x => x = nb + 2) W (W2.setCell ⟨nb + 2, 0, none⟩ (.bool true)) := Fr.setCell (S := fun x => x = nb + 2) (Fr.of_below hb2') (p := ⟨nb + 2, 0, none⟩) (.inl rfl) hnb _
  have v0 := hJ.b0.fr f3 (by omega)
  have v1 := i1.fr f3 (by omega)
  have v2 : Blk (W2.setCell ⟨nb + 2, 0, none⟩ (.bool true)) (nb + 2) 4 #[.bool true] := b2.set 0 _
  have v3 := hJ.b3.fr f3 (by omega)
  have vrow := irow.fr f3 (fun x hx e => by omega)
  have vrec := irec.fr f3
  have ho3 := ho.fr f3
  have hf3 : Fr (fun x => nb ≤ x) w4 (W2.setCell ⟨nb + 2, 0, none⟩ (.bool true)) := hJ.fr.trans' f3 (fun x _ e => by omega)
  have hlt := hJ.lt
  generalize W2.setCell ⟨nb + 2, 0, none⟩ (.bool true) = W3 at *
  clear y1 y2 y2f e0 e1 e1f e2 e2f hb2 hb2' b2 hB irow irec i1 f3
  have e1 := v1.cell 0 (v := .slice R vals.length cr) rfl
  have e1f := v1.frozen 0
  have hlt3 : nb + 3 < W3.heap.size := v3.lt
  go_wp2_with (at_builtin; refine wpList_append_row rfl (.tmp 18) (.tmp 20) 45 rfl TBs ib _ 24 Tryd.underlying45 hib hzb hsb hbb rfl (.slice R vals.length cr) vals rfl (vrow.below (below_new _ _)) ⟨W3.heap.size, 0, none⟩ (.slice A' r.length c') rfl (heap_new_cell _ _ _) rfl HV4 HV5 (by decide) ?_; intro v5 w5 hrow5 hf5 hoth5; obtain ⟨A5, c5, rfl, hc5, hm5⟩ := hrow5.val; rw [List.length_append, List.length_singleton] at hrow5 hc5 ⊢; have hk5 : ∀ j, j ≤ nb + 3 → j < W3.heap.size → w5.heap[j]? = W3.heap[j]? := fun j hj hlt => (hoth5 j (Nat.lt_of_lt_of_le hlt (below_new W3 (.cells #[.slice A' r.length c'] TBs)).size) ((vrow.below (below_new W3 (.cells #[.slice A' r.length c'] TBs))).ownGt hj)).trans ((below_new W3 (.cells #[.slice A' r.length c'] TBs)).block j hlt); have u1 := v1.eq (hk5 _ (by omega) v1.lt); have u1c := u1.cell 0 (v := .slice R vals.length cr) rfl; have u1f := u1.frozen 0)
  go_ret
  have hbn := below_new W3 (.cells #[.slice A' r.length c'] TBs)
  have f6 : Fr (fun x => x = nb + 1) w5 (w5.setCell ⟨nb + 1, 0, none⟩ (.slice A5 (vals.length + 1) c5)) := Fr.setCell (S := fun x => x = nb + 1) (Fr.refl _ _) (p := ⟨nb + 1, 0, none⟩) (.inl rfl) (u1.notB (by decide)) _
  have hrow6 : Row (fun x => nb + 3 < x) w5 TBs (.slice A5 (vals.length + 1) c5) (vals ++ [.slice A' r.length c']) := hrow5.mono fun x _ hx => hx.elim id (fun hx => by have := Nat.le_trans hbn.size hx.1; show nb + 3 < x; omega)
  have g : ∀ {j : Nat} {ty : TypeId} {cs : Array Value}, Blk W3 j ty cs → j ≤ nb + 3 → j ≠ nb + 1 → Blk (w5.setCell ⟨nb + 1, 0, none⟩ (.slice A5 (vals.length + 1) c5)) j ty cs := fun hb hj hne => (hb.eq (hk5 _ hj hb.lt)).fr f6 hne
  have htk : L.recs.take (n + 1) = L.recs.take n ++ [r] := by rw [List.take_add_one, HR.out]; rfl
  refine ⟨rfl, ((hf3.trans' (Fr.of_below (S := Non) hbn) (fun _ _ h => h.elim)).trans' hf5 (fun x _ hx => by have hx : nb + 3 < x := hx; omega)).trans' f6 (fun x _ e => by omega), hlt, g v0 (by omega) (by omega), ⟨_, _, u1.set 0 _, hrow6.otherBlk u1 (by decide) f6, ?_⟩, g v2 (by omega) (by omega), g v3 (by omega) (by omega)⟩
  rw [htk]
  exact (((vrec.fr (Fr.of_below (S := Non) hbn)).fr hf5).snoc hc' hm' ((ho3.fr (Fr.of_below (S := Non) hbn)).fr hf5)).fr f6
end

/-- WHAT all leaves: the records, in a new row -/
def AllDid (W w : World) (b : Nat) (L : Lg) (X : Nat → Prop) (e : Ending) (w' : World) : Prop :=
  ∃ A c vals, e = .returned (.tuple #[.slice A L.recs.length c, .bool true]) ∧ Row (fun x => w.heap.size ≤ x) w' TBs (.slice A L.recs.length c) vals ∧ Recs w' vals L.recs ∧ LiveG W w' b L (Up X w w') ∧ Below w.heap.size w w'

theorem all_G {W w : World} {b : Nat} {L : Lg} {X : Nat → Prop} (h : LiveG W w b L X) {m : Nat} (hinv : L.inv m) (hm : m ≤ 1048576) :
    Calls Tryd.prog 40 #[.pointer (some ⟨b, 0, none⟩)] w (AllDid W w b L X) := by
  obtain ⟨S, ⟨hu, H, A, c, ps, hl⟩, hS, hb, -⟩ := id h
  have z0 : Blk ((((w.alloc (.cells #[.pointer (some ⟨b, 0, none⟩)] 52)).alloc (.cells #[.slice none 0 0] 45)).alloc (.cells #[.bool true] 4)).alloc (.cells #[.pointer (some ⟨b, 0, none⟩)] 52)) w.heap.size 52 #[.pointer (some ⟨b, 0, none⟩)] := (((Blk.new _ _ _).alloc _).alloc _).alloc _
  have z1 : Blk ((((w.alloc (.cells #[.pointer (some ⟨b, 0, none⟩)] 52)).alloc (.cells #[.slice none 0 0] 45)).alloc (.cells #[.bool true] 4)).alloc (.cells #[.pointer (some ⟨b, 0, none⟩)] 52)) (w.heap.size + 1) 45 #[.slice none 0 0] := ((Blk.new' _ _ _ (by simp)).alloc _).alloc _
  have z2 : Blk ((((w.alloc (.cells #[.pointer (some ⟨b, 0, none⟩)] 52)).alloc (.cells #[.slice none 0 0] 45)).alloc (.cells #[.bool true] 4)).alloc (.cells #[.pointer (some ⟨b, 0, none⟩)] 52)) (w.heap.size + 2) 4 #[.bool true] := (Blk.new' _ _ _ (by simp)).alloc _
  have z3 : Blk ((((w.alloc (.cells #[.pointer (some ⟨b, 0, none⟩)] 52)).alloc (.cells #[.slice none 0 0] 45)).alloc (.cells #[.bool true] 4)).alloc (.cells #[.pointer (some ⟨b, 0, none⟩)] 52)) (w.heap.size + 3) 52 #[.pointer (some ⟨b, 0, none⟩)] := Blk.new' _ _ _ (by simp)
  have hb4 : Below w.heap.size w ((((w.alloc (.cells #[.pointer (some ⟨b, 0, none⟩)] 52)).alloc (.cells #[.slice none 0 0] 45)).alloc (.cells #[.bool true] 4)).alloc (.cells #[.pointer (some ⟨b, 0, none⟩)] 52)) := ((((Below.refl _ w).alloc (Nat.le_refl _) _).alloc (by simp) _).alloc (by simp; omega) _).alloc (by simp; omega) _
  have hsz4 : w.heap.size + 4 ≤ ((((w.alloc (.cells #[.pointer (some ⟨b, 0, none⟩)] 52)).alloc (.cells #[.slice none 0 0] 45)).alloc (.cells #[.bool true] 4)).alloc (.cells #[.pointer (some ⟨b, 0, none⟩)] 52)).heap.size := by simp
  have hSn : ∀ x, S x → ¬ w.heap.size ≤ x := fun x hx => by have := hl.lt x hx; omega
  have eg := enters_of Tryd.func90 (by kernel_rfl) rfl
  have kf := fun (f : Fn) (a c : Array Value) (w : World) => run_eql_func_nil (P := Tryd.prog) (t := 48) Tryd.underlying48 f a c w
  go_enter Tryd.func40, Tryd.ntmps40
  go_wp2_with (go_at_call 89; refine (recs_B _ _).mono ?_; rintro e w' ⟨rfl, rfl⟩)
  generalize (((w.alloc (.cells #[.pointer (some ⟨b, 0, none⟩)] 52)).alloc (.cells #[.slice none 0 0] 45)).alloc (.cells #[.bool true] 4)).alloc (.cells #[.pointer (some ⟨b, 0, none⟩)] 52) = w4 at *
  have h4 := hl.below hb4
  have hJ0 : AllR w4 w.heap.size b L.recs 0 w4 := ⟨Fr.refl _ _, hsz4, z0, ⟨_, [], z1, Row.nil _ _ _, by rw [List.take_zero]; exact Recs.nil _⟩, z2, z3⟩
  have hlen : L.recs.take (if L.down then 0 else (numS L.segs).length) = L.recs := by
    cases hd : L.down
    · rw [L.recs_eq hd, length_numS]
      exact List.take_of_length_le (Nat.le_refl _)
    · have : L.recs = [] := by unfold Lg.recs; rw [hd]; rfl
      rw [this]
      rfl
  have hR : Calls Tryd.prog 118 #[.func (.func 90) #[] #[.pointer (some ⟨w.heap.size + 2, 0, none⟩), .pointer (some ⟨w.heap.size, 0, none⟩), .pointer (some ⟨w.heap.size + 1, 0, none⟩)], .pointer (some ⟨w.heap.size + 3, 0, none⟩)] w4 fun e W' => e = .returned (.tuple #[]) ∧ AllR w4 w.heap.size b L.recs (if L.down then 0 else (numS L.segs).length) W' :=
    records_calls (S' := fun x => w.heap.size ≤ x) h4 (w.heap.size + 3) 90 _ eg hSn (AllR w4 w.heap.size b L.recs) (fun n W hJ => ⟨hJ.fr, hJ.b3.cell 0 rfl⟩) (fun n W W' hJ hb => hJ.below hb) (fun hd n W num r A' c' hJ hn ho hc hm' => lit_all h4 hSn hinv hm hd hJ hn ho hc hm') hJ0
  refine hR.mono ?_
  rintro e W5 ⟨rfl, hJ5⟩
  obtain ⟨v, vals, i1, irow, irec⟩ := hJ5.b1
  rw [hlen] at irec
  obtain ⟨R, cr, rfl, -⟩ := irow.val
  have hvl : vals.length = L.recs.length := irec.1
  rw [hvl] at i1 irow
  have e1 := i1.cell 0 (v := .slice R L.recs.length cr) rfl
  have e2 := hJ5.b2.cell 0 (v := .bool true) rfl
  have hb5 : Below w.heap.size w W5 := hb4.trans ⟨hJ5.fr.os, hJ5.fr.tape, hJ5.fr.output, hJ5.fr.size, fun k hk => hJ5.fr.out k (Nat.lt_of_lt_of_le hk (by omega)) (fun hx => by have hx : w.heap.size ≤ k := hx; omega)⟩
  have hPost : AllDid W w b L X (.returned (.tuple #[.slice R L.recs.length cr, .bool true])) W5.drew := ⟨R, cr, vals, rfl, irow.mono (fun x _ hx => by have hx : w.heap.size + 3 < x := hx; omega), irec, h.mono hb5.drew, hb5.drew⟩
  clear hlen hR hJ0 hvl z0 z1 z2 z3
  go_wp2
  refine wp_region_T #[[], [], [0], [0, 1]] [0, 1] (fun w' => w'.cell? ⟨w.heap.size + 1, 0, none⟩ = some (.slice R L.recs.length cr) ∧ w'.cell? ⟨w.heap.size + 2, 0, none⟩ = some (.bool true)) 4 rfl (by kernel_rfl) ?_
  (refine wpAnyT_read (i := 0) rfl (by kernel_rfl) rfl (fun _ _ _ h => h) (by kernel_rfl) (⟨e1, e2⟩) (fun w hS_ => by obtain ⟨s_1, s_2⟩ := hS_; go_simp; try rfl) ?_; (try simp only [Act.put, List.setIfInBounds_toArray, List.set_cons_zero, List.set_cons_succ]))
  (refine wpAnyT_read (i := 1) rfl (by kernel_rfl) rfl (fun _ _ _ h => h) (by kernel_rfl) (⟨e1, e2⟩) (fun w hS_ => by obtain ⟨s_1, s_2⟩ := hS_; go_simp; try rfl) ?_; (try simp only [Act.put, List.setIfInBounds_toArray, List.set_cons_zero, List.set_cons_succ]))
  (refine wpAnyT_free (i := 2) rfl (by kernel_rfl) rfl (fun _ _ _ h => h) (by kernel_rfl) (fun _ => by go_simp; try rfl) ?_; (try simp only [Act.put, List.setIfInBounds_toArray, List.set_cons_zero, List.set_cons_succ]))
  (refine wpAnyT_free (i := 3) rfl (by kernel_rfl) rfl (fun _ _ _ h => h) (by kernel_rfl) (fun _ => by go_simp; try rfl) ?_; (try simp only [Act.put, List.setIfInBounds_toArray, List.set_cons_zero, List.set_cons_succ]))
  refine wpAnyT_done (by kernel_rfl) ?_ _
  go_wp2
  go_ret2
  exact hPost
end Go.Proofs.YtediidajdpdeiaaDoor
