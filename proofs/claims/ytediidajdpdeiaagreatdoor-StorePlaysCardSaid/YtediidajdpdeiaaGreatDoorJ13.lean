/- A store reads its snapshot (layer 8): the walk of load. -/
import Derived.Test.YtediidajdpdeiaaGreatDoorJ12
import Derived.Test.YtediidajdpdeiaaGreatDoorJ9
import Derived.Test.YtediidajdpdeiaaGreatDoorJ5
import Derived.Stop.RegionWithIn
import Derived.Test.YtediidajdpdeiaaGreatDoorJ0
import Derived.Test.YtediidajdpdeiaaGreatDoorJ10
import Derived.Test.YtediidajdpdeiaaGreatDoorRows
import Derived.Test.YtediidajdpdeiaaGreatDoorTie
import Derived.JoinedCond
import Derived.Lib.SmallJoins
import Derived.Lib.LaidTab
import Derived.Lay
import Derived.LaidOnce
import Derived.SevenTiedAt
import Derived.Lib.ConvBytes

namespace Go.Proofs.YtediidajdpdeiaaGreatDoor
open Go.RowKit CrcM
set_option maxRecDepth 100000

/-- block eb is a reader that has these bytes before it -/
def EyeAt (w : World) (eb : Nat) (l : List UInt8) : Prop := ∃ A c, Blk w eb TEy #[.slice A l.length c] ∧ Own Ever w A l ∧ l.length ≤ c ∧ c ≤ maxLen
theorem EyeAt.fr {S : Nat → Prop} {w w' : World} {eb : Nat} {l : List UInt8} (h : EyeAt w eb l) (f : Fr S w w') (hs : ¬ S eb) : EyeAt w' eb l := by
  obtain ⟨A, c, h1, h2, h3, h4⟩ := h
  exact ⟨A, c, h1.fr f hs, h2.fr f, h3, h4⟩
theorem EyeAt.num {w : World} {eb n : Nat} {l rest : List UInt8} (h : EyeAt w eb l) (hl : l = numB n ++ rest) (hn : n ≤ 4611686018427387904) :
    Calls Tryz.prog 131 #[.pointer (some ⟨eb, 0, none⟩)] w fun e w' => e = .returned (.int .i64 (n : Int)) ∧ EyeAt w' eb rest ∧ Fr (fun x => x = eb) w w' := by
  obtain ⟨A, c, h1, h2, h3, h4⟩ := h
  refine (eyeNum_B h1 hl hn h2 h3 h4).mono ?_
  rintro e w' ⟨rfl, A', c', rfl, k1, k2, k3⟩
  have hnb : ¬ IsB w eb := h1.notB (by decide)
  have f : Fr (fun x => x = eb) w (w.setCell ⟨eb, 0, none⟩ (.slice A' rest.length c')) := (Fr.refl (fun x => x = eb) _).setCell (p := ⟨eb, 0, none⟩) (.inl rfl) hnb _
  exact ⟨rfl, ⟨A', c', by simpa using h1.set 0 (.slice A' rest.length c'), k1.fr f, k2, k3⟩, f⟩

theorem EyeAt.cut {w : World} {eb c' : Nat} {cs : Array Value} {A' : Option Addr} {more : List UInt8} (h : Blk w eb TEy cs) (hs : cs.size = 1) (ho : Own Ever w A' more) (h1 : more.length ≤ c') (h2 : c' ≤ maxLen) :
    EyeAt (w.setCell ⟨eb, 0, none⟩ (.slice A' more.length c')) eb more ∧ Fr (fun x => x = eb) w (w.setCell ⟨eb, 0, none⟩ (.slice A' more.length c')) := by
  have hnb : ¬ IsB w eb := h.notB (by decide)
  have f : Fr (fun x => x = eb) w (w.setCell ⟨eb, 0, none⟩ (.slice A' more.length c')) := (Fr.refl (fun x => x = eb) _).setCell (p := ⟨eb, 0, none⟩) (.inl rfl) hnb _
  refine ⟨⟨A', c', ?_, ho.fr f, h1, h2⟩, f⟩
  have := h.set 0 (.slice A' more.length c')
  have e : cs.setIfInBounds 0 (.slice A' more.length c') = #[.slice A' more.length c'] := by
    obtain ⟨l⟩ := cs
    match l, hs with
    | [x], _ => rfl
  rw [e] at this
  exact this

theorem insN_end {α : Type} {x : Nat × α} : ∀ {l : List (Nat × α)}, (∀ y ∈ l, y.1 < x.1) → insN x l = l ++ [x]
  | [], _ => rfl
  | y :: r, h => by
    have := h y (List.mem_cons_self ..)
    unfold insN
    rw [if_neg (by omega), insN_end (fun z hz => h z (List.mem_cons_of_mem _ hz))]
    rfl
theorem putN_take {M : Slots} (h : Rise M) {k : Nat} {p : Nat × Hd} (hp : M[k]? = some p) : putN p.1 p.2 (M.take k) = M.take (k + 1) := by
  have hlt : ∀ y ∈ M.take k, y.1 < p.1 := by
    intro y hy
    obtain ⟨i, hi⟩ := List.mem_iff_getElem?.1 hy
    rw [List.getElem?_take] at hi
    split at hi
    · rename_i hik
      obtain ⟨h1, e1⟩ := List.getElem?_eq_some_iff.1 hi
      obtain ⟨h2, e2⟩ := List.getElem?_eq_some_iff.1 hp
      have := (List.pairwise_iff_getElem.1 h) i k h1 h2 hik
      rw [e1, e2] at this
      exact this
    · cases hi
  have hd : delN p.1 (M.take k) = M.take k := by
    unfold delN
    apply List.filter_eq_self.2
    intro y hy
    have := hlt y hy
    exact decide_eq_true (by omega)
  unfold putN
  rw [hd, insN_end hlt, List.take_add_one, hp]
  rfl

theorem St.ok.take {st : St} (h : st.ok) (k : Nat) : St.ok ⟨st.promised, st.base, st.slots.take k⟩ :=
  ⟨h.pr, h.ba, by have := h.few; simp only [List.length_take]; omega, h.rise.sublist (List.take_sublist _ _), fun p hp => h.all p (List.mem_of_mem_take hp)⟩
section
variable {S S1 S2 : Nat → Prop} {w w' : World} {b lb db mb : Nat} {s : So}
/-- the map turns, no block joins -/
theorem SoO.turnMap' (h : SoO S S1 S2 w b lb db mb s) {M' : Slots} (hl : SlotsAt w' mb M') (f : Fr (fun x => x = mb) w w') (hok : St.ok ⟨s.st.promised, s.st.base, M'⟩) :
    SoO S S1 S2 w' b lb db mb ⟨s.per, s.log, s.snap, ⟨s.st.promised, s.st.base, M'⟩⟩ := by
  obtain ⟨A, c, hs⟩ := h.snap
  exact ⟨h.blk.fr f h.ne, h.log.fr f (fun x p q => (h.d1.2 (q ▸ p)).elim), ⟨A, c, hs.fr f (fun x p q => (h.d2.2 (q ▸ p)).elim)⟩, hl, h.h1, h.h2, h.hb, h.hm, h.d12, h.d1, h.d2, fun x hx => Nat.lt_of_lt_of_le (h.lt x hx) f.size, h.per, hok⟩
theorem SoO.eye (h : SoO S S1 S2 w b lb db mb s) {eb : Nat} (f : Fr (fun x => x = eb) w w') (he : ¬ S eb) : SoO S S1 S2 w' b lb db mb s := h.fr f (fun _ hx e => (he (e ▸ hx)).elim)

/-- WHAT load leaves -/
def LoadDid (S S1 S2 : Nat → Prop) (w : World) (b lb db mb : Nat) (s : So) (st : St) (e : Ending) (w' : World) : Prop :=
  e = .returned (.tuple #[]) ∧ SoO S S1 S2 w' b lb db mb ⟨s.per, s.log, s.snap, st⟩ ∧ Fr S w w'

set_option maxHeartbeats 2000000 in
theorem loadS (h : SoO S S1 S2 w b lb db mb s) (hh : HalfAt w) (hst : s.st = St.new) (hup : s.snap.down = false) {st : St} (hok : st.ok) (hsnap : (st = St.new ∧ ∃ r : Int, r ≠ 0 ∧ next s.snap.all ((0 : Nat) : Int) = .error r) ∨ (s.snap.all = frame (snapB st) ∧ (snapB st).length ≤ 65536)) :
    Calls Tryz.prog 129 #[.pointer (some ⟨b, 0, none⟩)] w (LoadDid S S1 S2 w b lb db mb s st) := by
  obtain ⟨c0, c1, c2, c3, c4, c5, z1, z3, z4⟩ := h.facts
  obtain ⟨Ad, cd, hd⟩ := h.snap
  have hrd := read_B hd
  have hrv : s.snap.read = (s.snap.all, 0) := by unfold Dk.read; rw [hup]; rfl
  unfold DiskRead at hrd
  rw [hrv] at hrd
  simp only at hrd
  have hal := hd.ok
  have hrest : (⟨s.per, s.log, s.snap, St.new⟩ : So) = s := by rw [← hst]
  rcases hsnap with ⟨rfl, r, hr0, hne⟩ | ⟨hall, hbody⟩
  · have HN := Lib.hid hne
    have hr0' : (r != 0) = true := by simpa using hr0
    clear hne hr0
    go_enter Tryz.func129, Tryz.ntmps129
    go_wp2_with (first
      | (go_at_call 157; refine hrd.mono ?_; rintro e w1 ⟨A1, c1', rfl, ho1, hc1, hm1, hb1⟩; have hnx := next_B w1 (hh.below hb1 hh.lt) A1 s.snap.all c1' s.snap.all.length (ho1.rd Non) rfl hc1 hm1 0; unfold NextDid at hnx; rw [show ((0 : Int)) = ((0 : Nat) : Int) from rfl, HN.out] at hnx; simp only at hnx)
      | (go_at_call 158; refine hnx.mono ?_; rintro e w2 ⟨rfl, hb2⟩))
    refine bodyPost_ret (results_none rfl _ _ _) rfl ?_
    have hbw := hb1.trans (hb2.mono hb1.size)
    exact ⟨rfl, by rw [hrest]; exact h.below hbw, Fr.of_below hbw⟩
  · obtain ⟨body, hbo⟩ : ∃ l, snapB st = l := ⟨_, rfl⟩
    have hne : next s.snap.all ((0 : Nat) : Int) = .ok (body, (frame body).length) := by
      have := next_frame [] body [] (by rw [← hbo]; exact hbody)
      simp only [List.nil_append, List.append_nil, List.length_nil, Nat.zero_add] at this
      rw [hall, hbo]
      exact this
    obtain ⟨flat, hfl⟩ : ∃ l, (st.slots.map slotB).flatten = l := ⟨_, rfl⟩
    have hb0 : body = numB st.promised ++ (numB st.base ++ (numB st.slots.length ++ flat)) := by rw [← hbo, ← hfl]; rfl
    have hpr := hok.pr
    have hba := hok.ba
    have hfw := hok.few
    have hri := hok.rise
    have hbd := hok.all
    rw [hbo] at hbody
    have hsl : s.st.slots = [] := by rw [hst]; rfl
    have HN := Lib.hid hne
    have HF := Lib.hid hfl
    have HB := Lib.hid hb0
    have HS := Lib.hid hsl
    have HR := Lib.hid hri
    have HD := Lib.hid hbd
    clear hne hfl hb0 hbo hall hst hrest hsl hri hbd
    go_enter Tryz.func129, Tryz.ntmps129
    go_wp2_with (first
      | (go_at_call 157; refine hrd.mono ?_; rintro e w1 ⟨A1, c1', rfl, ho1, hc1, hm1, hb1⟩; have hnx := next_B w1 (hh.below hb1 hh.lt) A1 s.snap.all c1' s.snap.all.length (ho1.rd Non) rfl hc1 hm1 0; unfold NextDid at hnx; rw [show ((0 : Int)) = ((0 : Nat) : Int) from rfl, HN.out] at hnx; simp only at hnx)
      | (go_at_call 158; refine hnx.mono ?_; rintro e w2 ⟨A2, c2', rfl, ho2, hc2, hm2, hb2⟩; have hbw2 := hb1.trans (hb2.mono hb1.size); have hb3 := hbw2.trans ((below_new w2 (.cells #[.slice A2 body.length c2'] TEy)).mono hbw2.size); have hSe : ¬ S w2.heap.size := fun hx => (by have := h.lt _ hx; have := hbw2.size; omega); have hE3 : EyeAt (w2.alloc (.cells #[.slice A2 body.length c2'] TEy)) w2.heap.size body := ⟨A2, c2', Blk.new _ _ _, (ho2.mono (fun _ _ => trivial)).fr (S' := Non) (Fr.of_below (below_new _ _)), hc2, hm2⟩; have hn1 := hE3.num HB.out (by omega))
      | (go_at_call 131; refine hn1.mono ?_; rintro e w4 ⟨rfl, hE4, f4⟩; have h4 := (h.below hb3).eye f4 hSe; obtain ⟨h5, f5⟩ := h4.setPr st.promised hpr; have hE5 := hE4.fr f5 hSe; have hn2 := hE5.num rfl (by omega); obtain ⟨-, -, -, x3, -, -, -, xz3, -⟩ := h4.facts; clear hn1)
      | (go_at_call 131; refine hn2.mono ?_; rintro e w6 ⟨rfl, hE6, f6⟩; have h6 := h5.eye f6 hSe; obtain ⟨h7, f7⟩ := h6.setBa st.base hba; have hE7 := hE6.fr f7 hSe; have hn3 := hE7.num rfl (by omega); obtain ⟨-, -, -, -, y4, -, -, -, yz4⟩ := h6.facts; clear hn2)
      | (go_at_call 131; refine hn3.mono ?_; rintro e w8 ⟨rfl, hE8, f8⟩; have h8 := h7.eye f8 hSe; clear hn3))
    try simp only at h8
    rw [HS.out] at h8
    have hE' : ∀ {a c : World}, Fr (fun x => x = w2.heap.size) a c → w.heap.size ≤ a.heap.size → Fr (fun x => S x ∨ x = w2.heap.size) a c := fun f _ => f.mono (fun _ _ e => .inr e)
    have hw2 := hbw2.size
    have hf8 : Fr S w w8 := by
      have g3 : Fr S w (w2.alloc (.cells #[.slice A2 body.length c2'] TEy)) := Fr.of_below hb3
      have g4 := g3.trans' f4 (fun x hx e => by omega)
      have g5 := g4.trans' f5 (fun _ _ h => h)
      have g6 := g5.trans' f6 (fun x hx e => by omega)
      have g7 := g6.trans' f7 (fun _ _ h => h)
      exact g7.trans' f8 (fun x hx e => by omega)
    clear x3 xz3 y4 yz4 f4 f5 f6 f7 f8 h4 h5 h6 h7 hE3 hE4 hE5 hE6 hE7 hE' c0 c1 c2 c3 c4 c5 z1 z3 z4
    go_loopw [37] (fun i wr => ∃ k : Nat, k ≤ st.slots.length ∧ i = .int .i64 (k : Int) ∧ SoO S S1 S2 wr b lb db mb ⟨s.per, s.log, s.snap, ⟨st.promised, st.base, st.slots.take k⟩⟩ ∧ EyeAt wr w2.heap.size ((st.slots.drop k).map slotB).flatten ∧ Fr S w wr) (fun i _ => st.slots.length - (intOf i).toNat)
    case atStart => exact ⟨0, Nat.zero_le _, rfl, h8, by rw [List.drop_zero, HF.out]; exact hE8, hf8⟩
    case round =>
      obtain ⟨k, hk, rfl, hs, hE, hf⟩ := hrel
      clear h8 hE8 hf8
      by_cases hlt : k < st.slots.length
      · obtain ⟨⟨key, ⟨bal, val⟩⟩, hp⟩ : ∃ p, st.slots[k]? = some p := ⟨_, List.getElem?_eq_getElem hlt⟩
        obtain ⟨b1, b2, b3⟩ := HD.out _ (List.mem_of_getElem? hp)
        simp only at b1 b2 b3
        have hdr : st.slots.drop k = (key, ⟨bal, val⟩) :: st.slots.drop (k + 1) := drop_of hp
        obtain ⟨more, hmo⟩ : ∃ l, ((st.slots.drop (k + 1)).map slotB).flatten = l := ⟨_, rfl⟩
        have hfl : ((st.slots.drop k).map slotB).flatten = numB key ++ (numB bal ++ (numB val.length ++ (val ++ more))) := by
          rw [hdr, List.map_cons, List.flatten_cons, hmo]
          unfold slotB
          simp only [List.append_assoc]
        have hpt := putN_take HR.out hp
        rw [hfl] at hE
        have hn1 := hE.num rfl (by omega)
        have HP := Lib.hid hpt
        have HM := Lib.hid hmo
        have hlt' : (k : Int) < (st.slots.length : Int) := by omega
        clear hdr hmo hfl hpt hp
        go_wp2_with (first
          | (go_at_call 131; refine hn1.mono ?_; rintro e w3 ⟨rfl, hE3, f3⟩; have hn2 := hE3.num rfl (by omega); clear hn1)
          | (go_at_call 131; refine hn2.mono ?_; rintro e w4 ⟨rfl, hE4, f4⟩; have hn3 := hE4.num rfl (by omega); clear hn2)
          | (go_at_call 131; refine hn3.mono ?_; rintro e w5 ⟨rfl, hE5, f5⟩; clear hn3))
        have hs5 := ((hs.eye f3 hSe).eye f4 hSe).eye f5 hSe
        have hf5 : Fr S w w5 := ((hf.trans' f3 (fun x hx e => by omega)).trans' f4 (fun x hx e => by omega)).trans' f5 (fun x hx e => by omega)
        obtain ⟨A5, c5, hB5, hO5, hc5, hm5⟩ := hE5
        have e0 := hB5.cell 0 (v := .slice A5 (val ++ more).length c5) rfl
        obtain ⟨-, -, -, -, -, d5, -, -, -⟩ := hs5.facts
        rw [List.length_append] at hc5 e0
        unfold maxLen at hm5
        have q1 : (0 : Int) ≤ (val.length : Int) := by omega
        have q2 : (val.length : Int) ≤ (c5 : Int) := by omega
        have hOv : Own Ever w5 A5 val := by
          have := hO5.take val.length
          rw [List.take_left' rfl] at this
          exact this
        have hcl := cloneEye_B Non A5 val c5 w5.drew (hOv.rd Non).drew (by omega)
        have htl : (st.slots.take k).length ≤ 1048576 := by rw [List.length_take]; omega
        have hB5' := hB5
        refine wp_region_T #[[], [], [], [], [], [], [], [], [6], [6], [6], [3, 6]] [3, 6] (fun w' => w'.cell? ⟨b, 5, none⟩ = some (.map (some mb)) ∧ w'.cell? ⟨w2.heap.size, 0, none⟩ = some (.slice A5 (val.length + more.length) c5)) 12 rfl (by kernel_rfl) ?_
        (refine wpF (i := 0) rfl (by kernel_rfl) rfl (fun _ _ _ h => h) (fun _ => by go_simp; try rfl) ?_; (try simp only [Act.put, sA, sB, sC]))
        (refine wpF (i := 1) rfl (by kernel_rfl) rfl (fun _ _ _ h => h) (fun _ => by go_simp; try rfl) ?_; (try simp only [Act.put, sA, sB, sC]))
        (refine wpF (i := 2) rfl (by kernel_rfl) rfl (fun _ _ _ h => h) (fun _ => by go_simp; try rfl) ?_; (try simp only [Act.put, sA, sB, sC]))
        (refine wpAnyT_read (i := 3) rfl (by kernel_rfl) rfl (fun _ _ _ h => h) (by kernel_rfl) (⟨d5, e0⟩) (fun w hS_ => by obtain ⟨s_1, s_2⟩ := hS_; go_simp; try rfl) ?_; (try simp only [Act.put, sA, sB, sC]))
        (refine wpF (i := 4) rfl (by kernel_rfl) rfl (fun _ _ _ h => h) (fun _ => by go_simp; try rfl) ?_; (try simp only [Act.put, sA, sB, sC]))
        (refine wpF (i := 5) rfl (by kernel_rfl) rfl (fun _ _ _ h => h) (fun _ => by go_simp; try rfl) ?_; (try simp only [Act.put, sA, sB, sC]))
        (refine wpAnyT_read (i := 6) rfl (by kernel_rfl) rfl (fun _ _ _ h => h) (by kernel_rfl) (⟨d5, e0⟩) (fun w hS_ => by obtain ⟨s_1, s_2⟩ := hS_; go_simp; try rfl) ?_; (try simp only [Act.put, sA, sB, sC]))
        (refine wpF (i := 7) rfl (by kernel_rfl) rfl (fun _ _ _ h => h) (fun _ => by go_simp; try rfl) ?_; (try simp only [Act.put, sA, sB, sC]))
        (refine wpF (i := 8) rfl (by kernel_rfl) rfl (fun _ _ _ h => h) (fun _ => by go_simp; try rfl) ?_; (try simp only [Act.put, sA, sB, sC]))
        refine wpAnyT_one (i := 9) rfl (by kernel_rfl) rfl ?_
        intro K_ hK_
        go_wp2_with ((go_at_call 132; refine hcl.mono ?_; rintro e w6 ⟨A6, c6, rfl, ho6, hc6, hm6, hb6⟩; have hb6' : Below w5.heap.size w5 w6 := ⟨hb6.os, hb6.tape, hb6.output, hb6.size, hb6.block⟩; have hs6 := hs5.below hb6'; replace d5 := (hb6'.cell (p := ⟨b, 5, none⟩) (cell_lt d5)).trans d5; replace e0 := (hb6'.cell (p := ⟨w2.heap.size, 0, none⟩) (cell_lt e0)).trans e0; clear hcl))
        refine hK_ _ _ ?_ ?_
        · exact fun _ _ => ⟨d5, e0⟩
        clear hK_ K_
        (try simp only [Act.put, sA, sB, sC])
        (refine wpF (i := 10) rfl (by kernel_rfl) rfl (fun _ _ _ h => h) (fun _ => by go_simp; try rfl) ?_; (try simp only [Act.put, sA, sB, sC]))
        refine wpAnyT_sink (i := 11) rfl (by kernel_rfl) rfl (by kernel_rfl) ?_
        intro K_ hK_
        refine oper_mapPut (.tmp 45) (.tmp 46) (.tmp 52) rfl (M := st.slots.take k) rfl hs6.map htl (k := key) rfl (by omega) (hd := ⟨bal, val⟩) rfl ⟨A6, c6, rfl, hc6, hm6, (Own.of_row' ho6).mono (fun _ _ => trivial)⟩ ?_; intro w7 hm7 f7
        (try (refine hK_ _ _ ?_; clear hK_ K_))
        (try simp only [Act.put])
        refine wpAnyT_done (by kernel_rfl) ?_ _
        rw [HP.out] at hm7
        have hs7 := hs6.turnMap' hm7 f7 (St.ok.take hok (k + 1))
        have hem : w2.heap.size ≠ mb := fun e => hSe (by rw [e]; exact hs6.hm)
        have hB7 := (hB5.below' hb6').fr f7 hem
        have z7 := hB7.frozen 0
        have e7 := hB7.cell 0 (v := .slice A5 (val ++ more).length c5) rfl
        rw [List.length_append] at e7
        have hf7 : Fr S w w7 := (hf5.trans' (Fr.of_below (S := Non) hb6') (fun _ _ h => h.elim)).trans' f7 (fun x _ e => e ▸ hs6.hm)
        have hO7 := ((hO5.drop val.length c5 (by rw [List.length_append]; exact hc5)).fr (S' := Non) (Fr.of_below hb6')).fr f7
        rw [List.drop_left' rfl] at hO7
        have q3 : (val.length : Int) ≤ ((val.length : Int) + (more.length : Int)) := by omega
        have q4 : val.length + more.length - val.length = more.length := by omega
        have hnb7 : ¬ IsB w7 w2.heap.size := hB7.notB (by decide)
        clear d5 e0 hB5 hB5' hO5 hOv
        by_cases hck : c5 = val.length
        · rw [if_pos hck] at hO7
          subst hck
          have hm0 : more.length = 0 := by omega
          go_wp2
          obtain ⟨hE8, f8⟩ := EyeAt.cut hB7 rfl hO7 (c' := 0) (by omega) (Nat.zero_le _)
          rw [hm0] at hE8 f8
          refine ⟨⟨k + 1, by omega, by go_num, hs7.eye f8 hSe, by rw [HM.out]; exact hE8, hf7.trans' f8 (fun x hx e => by omega)⟩, by simp [intOf]; omega⟩
        · rw [if_neg hck] at hO7
          go_wp2
          obtain ⟨hE8, f8⟩ := EyeAt.cut hB7 rfl hO7 (c' := c5 - val.length) (by omega) (by unfold maxLen; omega)
          refine ⟨⟨k + 1, by omega, by go_num, hs7.eye f8 hSe, by rw [HM.out]; exact hE8, hf7.trans' f8 (fun x hx e => by omega)⟩, by simp [intOf]; omega⟩
      · obtain rfl : k = st.slots.length := by omega
        rw [List.take_of_length_le (Nat.le_refl _)] at hs
        go_wp2
        refine bodyPost_end (results_none rfl _ _ _) rfl ?_
        exact ⟨rfl, hs, hf⟩
end
end Go.Proofs.YtediidajdpdeiaaGreatDoor

/- The log's Records, ranged over by a loop (layer 8): the iterator's word. -/
namespace Go.Proofs.YtediidajdpdeiaaGreatDoor
open Go.RowKit Go.Shelf CrcM
attribute [local go_sem] Oper.semAt_some
set_option maxRecDepth 100000

/-- what a round is handed -/
def RecGv (gs : List Sg) (k : Nat) (v : Array Value) (W : World) : Prop :=
  ∃ num r A c, (numS gs)[k]? = some (num, r) ∧ v = #[.int .i64 (num : Int), .slice A r.length c] ∧ Own (fun _ => True) W A r ∧ r.length ≤ c ∧ c ≤ maxLen
theorem RecGv.own_ (gs : List Sg) (v : Array Value) (B : Nat) : OwnFrom B fun k W => RecGv gs k v W := by
  intro k W W' row hs hg hr
  obtain ⟨num, r, A, c, h1, h2, h3, h4⟩ := hs
  refine ⟨num, r, A, c, h1, h2, ?_, h4⟩
  intro j x hx
  obtain ⟨ad, e, hc, ⟨cs, fz, hb⟩, _⟩ := h3 j x hx
  refine ⟨ad, e, cell_kept hc hg (fun r e => (hr r e).2), ⟨cs, fz, ?_⟩, trivial⟩
  refine (hg.block _ (Array.getElem?_eq_some_iff.1 hb).1 ?_).trans hb
  intro e
  obtain ⟨o, ho, hcs⟩ := (hr _ e.symm).2
  rw [hb] at ho
  injection ho with ho
  rw [← ho] at hcs
  cases hcs

theorem yield_out {e : Ending} {J Jx : Prop} (h : (e = .returned (.bool true) ∧ J) ∨ (e = .returned (.bool false) ∧ Jx)) : ∃ bb, e = .returned (.bool bb) ∧ ((bb = true ∧ J) ∨ (bb = false ∧ Jx)) := by
  rcases h with ⟨h1, h2⟩ | ⟨h1, h2⟩
  · exact ⟨true, h1, .inl ⟨rfl, h2⟩⟩
  · exact ⟨false, h1, .inr ⟨rfl, h2⟩⟩
theorem wpIn_scopeW {n : Nat} {P : Program} {c : Code} {Q : Exit → Act → World → Prop} {a : Act} {w : World} (h : c.wpIn Fence.wide n P (Exit.noGoto Q) a w) : (Code.scope c).wpIn Fence.wide n P Q a w :=
  wpIn_wide.2 (wp_scope_straight (wpIn_wide.1 h))

section
variable {S H S' : Nat → Prop} {w0 : World} {b : Nat} {A : Option Addr} {c : Nat} {ps : List Nat} {per : Nat} {gs : List Sg}
set_option maxHeartbeats 2000000 in
theorem records_iterates (h : LogO S H w0 b A c ps ⟨per, gs, false⟩) (hd : ∀ x, S x → ¬ S' x) (bx : Nat) (I : Nat → World → Prop) (hI : ∀ k W, I k W → Fr S' w0 W ∧ W.cell? ⟨bx, 0, none⟩ = some (.pointer (some ⟨b, 0, none⟩))) (w : World) :
    Iterates Tryz.prog 159 #[.pointer (some ⟨bx, 0, none⟩)] (RecGv gs) I (fun k => k = (numS gs).length) w := by
  intro n l J Jx W hW hJI hJ hY h0
  obtain ⟨hf0, hbx0⟩ := hI 0 _ (hJI 0 _ h0)
  have hlog0 := h.fr hf0 (fun x p q => (hd x p q).elim)
  obtain ⟨c0, c1, c2, z1, z2, q0, q1, q2, q3, q4⟩ := hlog0.facts
  have HQ := Lib.hid q1
  clear q1
  refine callsIn_of_wp Tryz.func159 rfl trivial ?_ rfl
  simp only [Tryz.ntmps159, List.size_toArray, List.length_cons, List.length_nil, Nat.reduceAdd, Nat.reduceSub, Array.replicate_succ, Array.replicate_zero, List.push_toArray, List.append_toArray, List.nil_append, List.cons_append]
  refine wpIn_scopeW ?_
  gi_wp2_with (refine ⟨trivial, fun h_ => (by cases h_), ?_⟩; gi_at_call 106; refine (callsIn_wide.2 (askedL hlog0)).mono ?_; rintro e w' ⟨rfl, rfl⟩)
  refine wpIn_label ?_
  gi_wp2
  clear c0 c1 c2 z1 z2 q0
  gi_loopw [15] (fun i wr => ∃ k : Nat, k ≤ ps.length ∧ i = .int .i64 (k : Int) ∧ J (numS (gs.take k)).length wr) (fun i _ => ps.length - (intOf i).toNat)
  case atStart => exact ⟨0, Nat.zero_le _, rfl, h0⟩
  case round =>
    obtain ⟨k, hk, rfl, hJk⟩ := hrel
    by_cases hlt : k < ps.length
    · obtain ⟨g, hg⟩ : ∃ g, gs[k]? = some g := ⟨_, List.getElem?_eq_getElem (show k < gs.length by have := HQ.out; omega)⟩
      obtain ⟨p, hp⟩ : ∃ p, ps[k]? = some p := ⟨_, List.getElem?_eq_getElem hlt⟩
      obtain ⟨R, cr, vals, hSp, s1, s2, hrow, hrec⟩ := h.recsAt hp hg
      have hok := h.ok.2.2.2 _ (List.mem_of_getElem? hg)
      have n1 := hok.1
      have n2 := hok.2.1
      have n3 := hok.2.2.2
      obtain ⟨ga, oa, ca, hA, hSg, _, hca, _⟩ := h.row.cell (k := k) (u := ptr p) (by rw [List.getElem?_map, hp]; rfl)
      rw [List.length_map] at hA
      injection hA with hA1 hA2 hA3
      subst hA1
      subst hA3
      clear hA2
      have f1 := (hI _ _ (hJI _ _ hJk)).1
      have a1 : wr.cell? ⟨ga, oa + k, none⟩ = some (.pointer (some ⟨p, 0, none⟩)) := (cell_eq (a := ⟨ga, oa + k, none⟩) (f1.out ga (cell_lt hca) (hd _ (h.hS _ hSg)))).trans hca
      have a2 : wr.cell? ⟨p, 2, none⟩ = some (.slice R g.recs.length cr) := (cell_eq (a := ⟨p, 2, none⟩) (f1.out p (cell_lt s2) (hd _ hSp))).trans s2
      have HS := Lib.hid (numS_succ hg)
      have hlt' : (k : Int) < (ps.length : Int) := by omega
      have HG := Lib.hid hg
      have hcap := hrow.val
      clear hok hca f1 hg hp
      gi_wp2
      clear a1 a2
      gi_loopw [24] (fun i wr => ∃ j : Nat, j ≤ g.recs.length ∧ i = .int .i64 (j : Int) ∧ J ((numS (gs.take k)).length + j) wr) (fun i _ => g.recs.length - (intOf i).toNat)
      case atStart => exact ⟨0, Nat.zero_le _, rfl, hJk⟩
      case round =>
        obtain ⟨j, hj, rfl, hJj⟩ := hrel
        by_cases hjl : j < g.recs.length
        · obtain ⟨r, hr⟩ : ∃ r, g.recs[j]? = some r := ⟨_, List.getElem?_eq_getElem hjl⟩
          obtain ⟨A', c', hv, hc', hm', ho⟩ := hrec.2 j r hr
          have hrl := n3 r (List.mem_of_getElem? hr)
          obtain ⟨gr, or_, cr', hR, hSgr, _, hcr, _⟩ := hrow.cell hv
          injection hR with hR1 hR2 hR3
          subst hR1
          clear hR2 hR3
          have f2 := (hI _ _ (hJI _ _ hJj)).1
          have b1 : wr.cell? ⟨gr, or_ + j, none⟩ = some (.slice A' r.length c') := (cell_eq (a := ⟨gr, or_ + j, none⟩) (f2.out gr (cell_lt hcr) (hd _ hSgr))).trans hcr
          have b2 : wr.cell? ⟨p, 1, none⟩ = some (.int .i64 (g.base : Int)) := (cell_eq (a := ⟨p, 1, none⟩) (f2.out p (cell_lt s1) (hd _ hSp))).trans s1
          have ho2 : Own Any wr A' r := ho.fr f2
          have HN := Lib.hid (numS_at HG.out hr)
          have hjl' : (j : Int) < (g.recs.length : Int) := by omega
          have k1 : IntKind.i64.wrap ((g.base : Int) + (j : Int)) = (g.base : Int) + (j : Int) := by rw [IntKind.wrap_i64]; omega
          clear hcr f2 hr hv
          gi_wp2
          gi_region_with (first
            | (refine ⟨trivial, fun h_ => (by cases h_), ?_⟩; gi_at_call 56; refine (callsIn_wide.2 (clone_B Non A' r c' _ (ho2.rd _).drew (by omega))).mono ?_; rintro e w4 ⟨A4, c4, rfl, hor4, hc4, hm4, hb4⟩; have b4 := (hb4.cell (p := ⟨p, 1, none⟩) (cell_lt b2)).trans b2; have hJ4 := OwnFrom.below hJ hJj (show Below wr.heap.size wr w4 from ⟨hb4.os, hb4.tape, hb4.output, hb4.size, hb4.block⟩); obtain ⟨fn, tmps, asg, bdy, hy, hRn⟩ := hY ((numS (gs.take k)).length + j) #[.int .i64 ((g.base : Int) + (j : Int)), .slice A4 r.length c4] w4 hJ4 ⟨g.base + j, r, A4, c4, HN.out, rfl, (Own.of_row' hor4).mono (fun _ _ => trivial), hc4, hm4⟩)
            | (refine ⟨fun h_ => (by cases h_), hRn.mono ?_⟩; rintro e W3 h3; obtain ⟨bb, rfl, hbb⟩ := yield_out h3))
          all_goals
            rcases hbb with ⟨rfl, hJ3⟩ | ⟨rfl, hJx3⟩
            · gi_wp2
              go_roundw
              case rel => exact ⟨j + 1, by omega, by go_num, hJ3⟩
              case measure => simp [intOf]; omega
            · gi_wp2
              refine bodyPost_end (results_none rfl _ _ _) rfl ?_
              exact ⟨⟨_, rfl⟩, .inr ⟨_, hJx3⟩⟩
        · obtain rfl : j = g.recs.length := by omega
          gi_wp2
          go_roundw
          case rel => exact ⟨k + 1, by omega, by go_num, by rw [HS.out]; exact hJj⟩
          case measure => simp [intOf]; omega
    · obtain rfl : k = ps.length := by omega
      rw [List.take_of_length_le (by rw [HQ.out]; omega)] at hJk
      gi_wp2
      rw [Exit.noGoto_normal]
      refine bodyPost_end (results_none rfl _ _ _) rfl ?_
      exact ⟨⟨_, rfl⟩, .inl ⟨_, rfl, hJk⟩⟩
end
end Go.Proofs.YtediidajdpdeiaaGreatDoor




/- The laws' own helper 'all' (layer 7): all records of a log, and their numbers. -/
namespace Go.Proofs.YtediidajdpdeiaaGreatDoor
open Go.RowKit CrcM
set_option maxRecDepth 100000

theorem recs_B (w : World) (b : Nat) : Calls Tryz.prog 130 #[.pointer (some ⟨b, 0, none⟩)] w fun e w' => e = .returned (.func (.func 159) #[] #[.pointer (some ⟨w.heap.size, 0, none⟩)]) ∧ w.alloc (.cells #[.pointer (some ⟨b, 0, none⟩)] 50) = w' := by
  go_enter Tryz.func130, Tryz.ntmps130
  go_wp2
  go_ret
  exact ⟨rfl, rfl⟩

/-- what is known where n records have come -/
structure AllR (w4 : World) (nb b : Nat) (recs : List (List UInt8)) (n : Nat) (W : World) : Prop where
  fr : Fr (fun x => nb ≤ x) w4 W
  lt : nb + 4 ≤ w4.heap.size
  b0 : Blk W nb 50 #[.pointer (some ⟨b, 0, none⟩)]
  b1 : ∃ v vals, Blk W (nb + 1) 70 #[v] ∧ Row (fun x => nb + 3 < x) W TBs v vals ∧ Recs W vals (recs.take n)
  b2 : Blk W (nb + 2) 4 #[.bool true]
  b3 : Blk W (nb + 3) 50 #[.pointer (some ⟨b, 0, none⟩)]
theorem AllR.below {w4 W W' : World} {nb b n : Nat} {recs : List (List UInt8)} (h : AllR w4 nb b recs n W) (hb : Below W.heap.size W W') : AllR w4 nb b recs n W' := by
  obtain ⟨v, vals, h1, h2, h3⟩ := h.b1
  exact ⟨h.fr.trans' (Fr.of_below (S := Non) hb) (fun _ _ h => h.elim), h.lt, h.b0.below' hb, ⟨v, vals, h1.below' hb, h2.below hb, h3.fr (Fr.of_below (S := Non) hb)⟩, h.b2.below' hb, h.b3.below' hb⟩

section
variable {S H : Nat → Prop} {w4 : World} {b nb : Nat} {A : Option Addr} {c : Nat} {ps : List Nat} {L : Lg}
end

end Go.Proofs.YtediidajdpdeiaaGreatDoor




/- From a walk of a law to its row and card, where the row lists the variable crc.half; little arithmetic. -/
namespace Go.Proofs.YtediidajdpdeiaaGreatDoor
open Go.RowKit Go.ChangeShapes Go.WideShapes Go.ChangeAt CrcM

theorem own_knob : ownKnob Tryz.prog.godebug = none := by kernel_rfl
theorem laid_out : laidOutB Tryz.prog = true := by kernel_rfl
theorem cells_u8 : Tryz.prog.cellsOf TB = 1 := by kernel_rfl
def i64 (n : Int) : Prop := -9223372036854775808 ≤ n ∧ n ≤ 9223372036854775807

/-- the row's condition gives the table -/
theorem halfAt_of_laid {W : World} (h : laidMetH Tryz.prog [("raceway/crc.half", Rows.laid_raceway_crc_half)] W) : HalfAt W := by
  rw [MakeChecks.laidMetH_plain _ _ _ (by kernel_rfl)] at h
  have hT : Lib.TabIs Tryz.prog W "raceway/crc.half" .u32 (halfN.map fun n : Nat => (n : Int)) :=
    Lib.tabIs_of_head (rest := []) (g := 0) (t := 198) (e := 167) (n := 16) (by kernel_rfl) (by kernel_rfl) Tryz.underlying198 Tryz.underlying167 (by kernel_rfl) (by kernel_rfl) h
  intro i hi
  have h1 := hT.cell (g := 0) (by kernel_rfl) i (by simpa [halfN] using hi)
  rw [h1]
  congr 2
  have : ∀ i : Fin 16, (halfN.map fun n : Nat => (n : Int)).getD i.val 0 = ((half i.val).toNat : Int) := by decide +kernel
  exact this ⟨i, hi⟩

theorem RdB.rd {W : World} {A : Option Addr} {l : List UInt8} (h : RdB W A l) : Rd Non W A l := fun j x hx => by
  obtain ⟨ad, e, _, hc⟩ := h j x hx
  exact ⟨ad, e, hc, .inl fun h => h.elim⟩

section
variable {H : Type} {enc : TypeId × Value → H} {W W' : World}

theorem i64_of {n : Int} (h : (Lit.int .i64 n).wf = true) : i64 n := by
  simpa [Lit.wf, IntKind.min, IntKind.max, IntKind.signed, IntKind.bits, i64] using h
theorem post_law {f : Func} {s : ChangeSpec} {args : Array Value} {ds : List (DataW H)} {before : List MemPlace}
    (hW : DataW.Whole enc Tryz.prog f.params.toList s.vars false W args.toList ds [] before) (hrt : f.resultTypes.toList = [4] ∧ f.resultTypes.size = 1)
    (hvars : s.vars = []) (hr : (f.params.toList.all fun t => Tryz.prog.readableRec t && decide (t < Tryz.prog.types.size)) = true)
    (hs : s.fn H (ds ++ []) = { results := [.lit (.bool true)], args := ds }) (hb : Below W.heap.size W W') : s.post enc Tryz.prog f false true false false W args (.bool true) W' := by
  have hW' := hW
  obtain ⟨p, q, hA, hV, rfl, _, _⟩ := hW
  rw [hvars] at hV
  obtain ⟨_, rfl⟩ := trodVars_none hV
  rw [List.append_nil] at hW'
  refine ⟨ds, [], p, [], p, [], by simpa using hW', ?_, ?_, ?_, hb.frame _, fun h => by cases h⟩
  · rw [hs, hrt.1, hrt.2]
    exact trodAll_cons_mk (shut_bool Tryz.underlying4 _) trodAll_mk0
  · rw [hs]
    exact trodAll_below laid_out _ _ _ _ hr hA hb fun x hx => by simpa using hW'.lt x hx
  · rw [hs, hvars]; rfl
end
end Go.Proofs.YtediidajdpdeiaaGreatDoor










/- Lists of records that a law holds (layer 7): what stays of them, and parts of them. -/
namespace Go.Proofs.YtediidajdpdeiaaGreatDoor
open Go.RowKit CrcM
set_option maxRecDepth 100000

/-- a list of records in X -/
def Held (X : Nat → Prop) (w : World) (A : Option Addr) (c : Nat) (recs : List (List UInt8)) : Prop := ∃ vals, Row X w TBs (.slice A recs.length c) vals ∧ Recs w vals recs

section
variable {X X' : Nat → Prop} {w w' : World} {A : Option Addr} {c : Nat} {recs : List (List UInt8)}
theorem Own.bk {S : Nat → Prop} {A : Option Addr} {l : List UInt8} (h : Own S w A l) (k : BK w w') : Own S w' A l := fun j x hx => by
  obtain ⟨ad, e, hc, hb, hs⟩ := h j x hx
  exact ⟨ad, e, (cell_eq (by rw [add_block]; exact k _ hb)).trans hc, hb.eq (k _ hb), hs⟩
theorem Recs.bk {vals : List Value} (h : Recs w vals recs) (k : BK w w') : Recs w' vals recs :=
  ⟨h.1, fun i r hr => by
    obtain ⟨A, c, h1, h2, h3, h4⟩ := h.2 i r hr
    exact ⟨A, c, h1, h2, h3, h4.bk k⟩⟩
theorem Held.xk (h : Held X w A c recs) (k : XK X w w') (kb : BK w w') : Held X w' A c recs := by
  obtain ⟨vals, h1, h2⟩ := h
  exact ⟨vals, h1.same k, h2.bk kb⟩
theorem Held.below (h : Held X w A c recs) (hb : Below w.heap.size w w') : Held X w' A c recs := by
  obtain ⟨vals, h1, h2⟩ := h
  exact ⟨vals, Row.below h1 hb, h2.fr (Fr.of_below (S := Non) hb)⟩
theorem Held.mono (h : Held X w A c recs) (hs : ∀ x, X x → X' x) : Held X' w A c recs := by
  obtain ⟨vals, h1, h2⟩ := h
  exact ⟨vals, h1.mono (fun x _ hx => hs x hx), h2⟩
theorem Held.cap (h : Held X w A c recs) : recs.length ≤ c ∧ c ≤ maxLen := by
  obtain ⟨vals, h1, h2⟩ := h
  obtain ⟨A', c', e, h3, h4⟩ := h1.val
  injection e with e1 e2 e3
  subst e3
  exact ⟨by omega, h4⟩
theorem Held.take (h : Held X w A c recs) (n : Nat) (hn : n ≤ recs.length) : ∃ vals, Row X w TBs (.slice A n c) vals ∧ Recs w vals (recs.take n) := by
  obtain ⟨vals, h1, h2⟩ := h
  have hr : Recs w (vals.take n) (recs.take n) := by
    refine ⟨by rw [List.length_take, List.length_take, h2.1], fun i r hr => ?_⟩
    rw [List.getElem?_take] at hr
    split at hr
    · rename_i hi
      obtain ⟨A, c, h3, h4⟩ := h2.2 i r hr
      exact ⟨A, c, by rw [List.getElem?_take_of_lt hi]; exact h3, h4⟩
    · cases hr
  refine ⟨vals.take n, ?_, hr⟩
  have hvl := h2.1
  rcases h1 with ⟨e, h3⟩ | ⟨g, o, c', cur, e, h3, h4, h5, h6, h7, h8⟩
  · injection e with e1 e2 e3
    subst e1 e3
    obtain rfl : n = 0 := by omega
    exact .inl ⟨rfl, rfl⟩
  · injection e with e1 e2 e3
    subst e1 e3
    refine .inr ⟨g, o, c, cur, by rw [List.length_take]; congr 1; omega, h3, h4, by rw [List.length_take]; omega, h6, h7, ?_⟩
    rw [List.length_take, Nat.min_eq_left (by omega), ← h8, List.take_take, Nat.min_eq_left (by omega)]
theorem Held.drop (h : Held X w A c recs) (n : Nat) (hn : n < recs.length) : ∃ g o, A = some ⟨g, o, none⟩ ∧ Held X w (some ⟨g, o + n, none⟩) (c - n) (recs.drop n) := by
  obtain ⟨vals, h1, h2⟩ := h
  have hvl := h2.1
  obtain ⟨g, o, c', e, h3, h4⟩ := h1.drop (n := n) (by omega)
  injection e with e1 e2 e3
  subst e1 e3
  refine ⟨g, o, rfl, vals.drop n, ?_, ?_⟩
  · rw [List.length_drop, ← hvl]
    exact h4
  · refine ⟨by rw [List.length_drop, List.length_drop, hvl], fun i r hr => ?_⟩
    rw [List.getElem?_drop] at hr
    obtain ⟨A, c, h5, h6⟩ := h2.2 _ r hr
    exact ⟨A, c, by rw [List.getElem?_drop]; exact h5, h6⟩
end

end Go.Proofs.YtediidajdpdeiaaGreatDoor

/- A store's Restart (layer 8): what is known on the way. -/
namespace Go.Proofs.YtediidajdpdeiaaGreatDoor
open Go.RowKit CrcM
set_option maxRecDepth 100000

/-- numbers within what a store takes -/
def Rc.ok : Rc → Prop
  | .prom b => b ≤ 1099511627776
  | .acc slot ballot v => slot ≤ 1099511627776 ∧ ballot ≤ 1099511627776 ∧ v.length ≤ 32768
  | .forget n => n ≤ 1099511627776

theorem DiskAt.kp {S : Nat → Prop} {w w' : World} {b : Nat} {A : Option Addr} {c : Nat} {D : Dk} (h : DiskAt S w b A c D) (hk : ∀ x, S x → w'.heap[x]? = w.heap[x]?) (hs : w.heap.size ≤ w'.heap.size) (kb : BK w w') : DiskAt S w' b A c D :=
  ⟨h.blk.eq (hk _ h.inS), h.own.bk kb, h.inS, fun x hx => Nat.lt_of_lt_of_le (h.lt x hx) hs, h.cap, h.ok⟩
theorem SegAt.kp {S : Nat → Prop} {w w' : World} {b : Nat} {g : Sg} (h : SegAt S w b g) (hk : ∀ x, S x → w'.heap[x]? = w.heap[x]?) (hs : w.heap.size ≤ w'.heap.size) (kb : BK w w') : SegAt S w' b g := by
  obtain ⟨⟨Sd, Sh, db, A, c, rv, vals, h1, h2, h3, h4, h5, h6, h7, h8⟩, hlt⟩ := h
  exact ⟨⟨Sd, Sh, db, A, c, rv, vals, h1, h2, fun x p q => (h3 x p q).eq (hk x (h1 x p)), h4, h5.eq (hk _ (h2 _ h4)), h6.kp (fun x hx => hk x (h1 x hx)) hs kb, h7.same (fun x hx => hk x (h2 x hx)), h8.bk kb⟩, fun x hx => Nat.lt_of_lt_of_le (hlt x hx) hs⟩
theorem LogAt.kp {S : Nat → Prop} {w w' : World} {b : Nat} {L : Lg} (h : LogAt S w b L) (hk : ∀ x, S x → w'.heap[x]? = w.heap[x]?) (hs : w.heap.size ≤ w'.heap.size) (kb : BK w w') : LogAt S w' b L := by
  obtain ⟨hu, H, A, c, ps, h⟩ := h
  refine ⟨hu, H, A, c, ps, h.hS, h.hb, h.blk.eq (hk _ (h.hS _ h.hb)), h.row.same (fun x hx => hk x (h.hS x hx)), ?_, fun x hx => Nat.lt_of_lt_of_le (h.lt x hx) hs, h.ok, fun _ _ => trivial⟩
  obtain ⟨F, h1, h2, h3, h4⟩ := h.segs
  exact ⟨F, fun i x hx => ⟨(h1 i x hx).1, (h1 i x hx).2.1, Nat.lt_of_lt_of_le (h1 i x hx).2.2 hs⟩, fun i j x n p q => (h2 i j x n p q).eq (hk x (h1 i x p).1), h3, fun i p g hp hg => (h4 i p g hp hg).kp (fun x hx => hk x (h1 i x hx).1) hs kb⟩
theorem BK.grown {w w' : World} {row : Option Nat} (hg : w.grownBy w' row) (hr : ∀ r, row = some r → ∃ o : Obj, w.heap[r]? = some o ∧ o.isCells = false) : BK w w' := fun b hb => by
  obtain ⟨cs, fz, hb⟩ := hb
  exact (CK.grown hg hr).2 _ _ _ _ hb

section
variable {S S1 S2 : Nat → Prop} {w w' : World} {b lb db mb : Nat} {s : So}
theorem SoO.kp (h : SoO S S1 S2 w b lb db mb s) (hk : ∀ x, S x → w'.heap[x]? = w.heap[x]?) (hs : w.heap.size ≤ w'.heap.size) (kb : BK w w') : SoO S S1 S2 w' b lb db mb s := by
  obtain ⟨A, c, hd⟩ := h.snap
  exact ⟨h.blk.eq (hk _ h.hb), h.log.kp (fun x hx => hk x (h.h1 x hx)) hs kb, ⟨A, c, hd.kp (fun x hx => hk x (h.h2 x hx)) hs kb⟩, h.map.keep (hk _ h.hm) kb, h.h1, h.h2, h.hb, h.hm, h.d12, h.d1, h.d2, fun x hx => Nat.lt_of_lt_of_le (h.lt x hx) hs, h.per, h.ok⟩

/-- what is left of a down store when its log and its disk have been brought up, and its map has been emptied -/
def So.fresh (s : So) : So := ⟨s.per, s.log.restart.1, s.snap.restart.1, St.new⟩
theorem bigB {Z : Held3} (h : ∀ z ∈ Z, z.1 ≤ 4611686018427387904) : (slotsOf Z).filter (fun p => decide (4611686018427387905 ≤ p.1)) = [] := by
  unfold slotsOf
  rw [List.filter_eq_nil_iff]
  intro p hp
  obtain ⟨z, hz, rfl⟩ := List.mem_map.1 hp
  have := h z hz
  have : ¬ 4611686018427387905 ≤ z.1 := by omega
  exact fun hd => this (of_decide_eq_true hd)
end

theorem Dk.restart_all' (D : Dk) : D.restart.1.all = D.all := by unfold Dk.restart; split <;> rfl


theorem play_len (s : St) (r : Rc) : (Rc.play s r).slots.length ≤ s.slots.length + 1 := by
  cases r with
  | prom b => exact Nat.le_succ _
  | acc k b v => exact (length_putN k ⟨b, v⟩ s.slots)
  | forget n => exact Nat.le_trans (List.length_filter_le _ _) (Nat.le_succ _)
theorem St.ok.play {s : St} (h : s.ok) {r : Rc} (hr : r.ok) (hf : s.slots.length < 1048575) : (Rc.play s r).ok := by
  have h1 := h.pr
  have h2 := h.ba
  cases r with
  | prom b =>
    have : b ≤ 1099511627776 := hr
    exact ⟨show max s.promised b ≤ _ by omega, h.ba, h.few, h.rise, h.all⟩
  | acc k b v =>
    obtain ⟨q1, q2, q3⟩ := hr
    have hp := h.put (p := max s.promised b) (k := k) (n := b) (v := v) (by omega) q1 q2 q3 hf
    exact hp
  | forget n => exact h.rise' hr
theorem plays_ok : ∀ (rcs : List Rc) (s : St), s.ok → (∀ r ∈ rcs, r.ok) → s.slots.length + rcs.length ≤ 1048575 → (rcs.foldl Rc.play s).ok ∧ (rcs.foldl Rc.play s).slots.length ≤ s.slots.length + rcs.length
  | [], s, h, _, _ => ⟨h, Nat.le_refl _⟩
  | r :: t, s, h, hr, hf => by
    have hl := play_len s r
    rw [List.length_cons] at hf
    obtain ⟨k1, k2⟩ := plays_ok t (Rc.play s r) (h.play (hr _ (List.mem_cons_self ..)) (by omega)) (fun x hx => hr x (List.mem_cons_of_mem _ hx)) (by omega)
    exact ⟨k1, by rw [List.length_cons]; exact Nat.le_trans k2 (by omega)⟩
theorem foldl_take_succ {α β : Type} (f : β → α → β) (s : β) {l : List α} {k : Nat} {x : α} (h : l[k]? = some x) : (l.take (k + 1)).foldl f s = f ((l.take k).foldl f s) x := by
  rw [List.take_add_one, h, List.foldl_append]
  rfl
/-- what has grown is left away -/
theorem SoO.shrink {S S' S1 S2 : Nat → Prop} {w w' : World} {b lb db mb : Nat} {s s' : So} (h : SoO S S1 S2 w b lb db mb s) (h' : SoO S' S1 S2 w' b lb db mb s') (hs : w.heap.size ≤ w'.heap.size) : SoO S S1 S2 w' b lb db mb s' :=
  ⟨h'.blk, h'.log, h'.snap, h'.map, h.h1, h.h2, h.hb, h.hm, h.d12, h.d1, h.d2, fun x hx => Nat.lt_of_lt_of_le (h.lt x hx) hs, h'.per, h'.ok⟩
theorem numR_snd : ∀ (n : Nat) (rs : List (List UInt8)), (numR n rs).map Prod.snd = rs
  | _, [] => rfl
  | n, r :: t => by
    unfold numR
    rw [List.map_cons, numR_snd (n + 1) t]
theorem numS_recs (gs : List Sg) : (numS gs).map Prod.snd = recsS gs := by
  unfold numS recsS
  rw [List.map_flatMap]
  congr 1
  funext g
  exact numR_snd _ _
end Go.Proofs.YtediidajdpdeiaaGreatDoor

/- The law of a store (layer 8), in plain words: what its calls do to its records, and what comes back behind a crash. -/
namespace Go.Proofs.YtediidajdpdeiaaGreatDoor
open CrcM

def Rc.lim (m : Nat) : Rc → Prop
  | .acc slot _ v => slot < m ∧ v.length ≤ 300
  | _ => True
/-- the slots lie below m, their values are short, their ballots are promised -/
structure St.lim (m : Nat) (s : St) : Prop where
  ok : s.ok
  slots : ∀ p ∈ s.slots, p.1 < m ∧ p.2.value.length ≤ 300 ∧ p.2.ballot ≤ s.promised
theorem St.lim_new (m : Nat) : St.new.lim m := ⟨St.ok_new, fun p hp => by cases hp⟩
theorem St.lim.mono {m m' : Nat} {s : St} (h : s.lim m) (hm : m ≤ m') : s.lim m' := ⟨h.ok, fun p hp => ⟨Nat.lt_of_lt_of_le (h.slots p hp).1 hm, (h.slots p hp).2⟩⟩
theorem Rc.lim.mono {m m' : Nat} {r : Rc} (h : r.lim m) (hm : m ≤ m') : r.lim m' := by
  cases r with
  | acc k b v => exact ⟨Nat.lt_of_lt_of_le h.1 hm, h.2⟩
  | prom b => trivial
  | forget n => trivial
theorem St.lim.play {m : Nat} {s : St} (h : s.lim m) {r : Rc} (hr : r.ok) (hl : r.lim m) (hf : s.slots.length < 1048575) : (Rc.play s r).lim m := by
  refine ⟨h.ok.play hr hf, ?_⟩
  cases r with
  | prom b =>
    intro p hp
    obtain ⟨h1, h2, h3⟩ := h.slots p hp
    refine ⟨h1, h2, ?_⟩
    show p.2.ballot ≤ max s.promised b
    omega
  | acc k b v =>
    intro p hp
    show p.1 < m ∧ p.2.value.length ≤ 300 ∧ p.2.ballot ≤ max s.promised b
    rcases mem_putN.1 hp with rfl | ⟨hp, _⟩
    · exact ⟨hl.1, hl.2, by show b ≤ _; omega⟩
    · obtain ⟨h1, h2, h3⟩ := h.slots p hp
      exact ⟨h1, h2, by omega⟩
  | forget n =>
    intro p hp
    exact h.slots p (List.mem_filter.1 hp).1
theorem plays_lim {m : Nat} : ∀ (rcs : List Rc) (s : St), s.lim m → (∀ r ∈ rcs, r.ok ∧ r.lim m) → s.slots.length + rcs.length ≤ 1048575 → (rcs.foldl Rc.play s).lim m ∧ (rcs.foldl Rc.play s).slots.length ≤ s.slots.length + rcs.length
  | [], s, h, _, _ => ⟨h, Nat.le_refl _⟩
  | r :: t, s, h, hr, hf => by
    have hl := play_len s r
    rw [List.length_cons] at hf
    obtain ⟨k1, k2⟩ := plays_lim t (Rc.play s r) (h.play (hr _ (List.mem_cons_self ..)).1 (hr _ (List.mem_cons_self ..)).2 (by omega)) (fun x hx => hr x (List.mem_cons_of_mem _ hx)) (by omega)
    exact ⟨k1, by rw [List.length_cons]; exact Nat.le_trans k2 (by omega)⟩

/-- THE LAW OF A STORE: its log has these records, its snapshot that state -/
structure So.inv (m n : Nat) (s : So) (st0 : St) (rcs : List Rc) : Prop where
  per : 1 ≤ s.per ∧ s.per ≤ 1024
  log : s.log.inv n
  recs : recsS s.log.segs = rcs.map Rc.enc
  up : s.log.down = false → s.st = rcs.foldl Rc.play st0
  dn : s.snap.down = s.log.down
  rok : ∀ r ∈ rcs, r.ok ∧ r.lim m
  ok0 : st0.lim m
  few : st0.slots.length + rcs.length ≤ n
  small : n ≤ 150
  snap : (s.snap.all = [] ∧ st0 = St.new) ∨ (s.snap.all = frame (snapB st0) ∧ (snapB st0).length ≤ 65536)
  kept : s.snap.kept = s.snap.all.length

/-- how many of its records are kept -/
def So.sy (s : So) : Nat := safeLen s.log.segs
section
variable {m n : Nat} {s : So} {st0 : St} {rcs : List Rc}
theorem So.inv_new {per : Nat} (h1 : 1 ≤ per) (h2 : per ≤ 1024) (m : Nat) : (So.new per).inv m 0 St.new [] :=
  ⟨⟨h1, h2⟩, Lg.inv_new h1 h2, rfl, fun _ => rfl, rfl, fun r hr => (by cases hr), St.lim_new m, Nat.le_refl _, by omega, .inl ⟨rfl, rfl⟩, rfl⟩
theorem So.inv.mono (h : s.inv m n st0 rcs) {m' n' : Nat} (hm : m ≤ m') (hn : n ≤ n') (hs : n' ≤ 150) : s.inv m' n' st0 rcs :=
  ⟨h.per, h.log.mono hn, h.recs, h.up, h.dn, fun r hr => ⟨(h.rok r hr).1, (h.rok r hr).2.mono hm⟩, h.ok0.mono hm, Nat.le_trans h.few hn, hs, h.snap, h.kept⟩
/-- the state itself -/
theorem So.inv.st (h : s.inv m n st0 rcs) (hd : s.log.down = false) : s.st.lim m ∧ s.st.slots.length ≤ n := by
  have := h.small
  have := h.few
  obtain ⟨k1, k2⟩ := plays_lim rcs st0 h.ok0 h.rok (by omega)
  rw [h.up hd]
  exact ⟨k1, by omega⟩
theorem enc_len {r : Rc} (hr : r.ok) (hl : r.lim m) : r.enc.length ≤ 400 := by
  cases r with
  | prom b =>
    have hb : b ≤ 1099511627776 := hr
    have := numB_10 (n := b) (by omega)
    show (numB b).length + 1 ≤ 400
    omega
  | acc k b v =>
    obtain ⟨q1, q2, q3⟩ := hr
    have := numB_10 (n := k) (by omega)
    have := numB_10 (n := b) (by omega)
    have := hl.2
    show (numB k ++ (numB b ++ v)).length + 1 ≤ 400
    simp only [List.length_append]
    omega
  | forget b =>
    have hb : b ≤ 1099511627776 := hr
    have := numB_10 (n := b) (by omega)
    show (numB b).length + 1 ≤ 400
    omega
theorem Lg.inv.count_le {L : Lg} (h : L.inv n) : L.segs.length ≤ (recsS L.segs).length + 1 := by
  cases hg : L.segs.getLast? with
  | none => rw [List.getLast?_eq_none_iff.1 hg]; exact Nat.zero_le _
  | some g =>
    have hc := h.chain.count hg
    have h1 := h.per1
    have h2 : g.recs.length ≤ L.per := (h.segs g (List.mem_of_getLast? hg)).inv0.few
    have h3 : L.segs.length * 1 ≤ L.segs.length * L.per := Nat.mul_le_mul_left _ h1
    have h4 : (recsS L.segs).length * 1 ≤ (recsS L.segs).length * L.per := Nat.mul_le_mul_left _ h1
    rcases Nat.lt_or_ge ((recsS L.segs).length + 1) L.segs.length with hlt | hge
    · exfalso
      have h5 : ((recsS L.segs).length + 2) * L.per ≤ L.segs.length * L.per := Nat.mul_le_mul_right _ hlt
      rw [Nat.add_mul] at h5
      omega
    · exact hge
/-- what a record that is laid down leaves -/
structure Put (m n : Nat) (s : So) (st0 : St) (rcs : List Rc) (rc : Rc) (s' : So) : Prop where
  inv : s'.inv m (n + 1) st0 (rcs ++ [rc])
  down : s'.log.down = false
  sy : s'.sy = s.sy
  st : s'.st = Rc.play s.st rc
  log : s'.log = (s.log.append rc.enc).1
theorem So.inv.put (h : s.inv m n st0 rcs) (hd : s.log.down = false) (hn : n < 150) {rc : Rc} (hr : rc.ok) (hl : rc.lim m) :
    ∃ s', s.put rc.enc (Rc.play s.st rc) = (s', 0) ∧ Put m n s st0 rcs rc s' := by
  have hrl : s.log.recs = recsS s.log.segs := Lg.recs_eq hd
  have hfew := h.few
  rcases h.log.append hd (by omega) rc.enc (enc_len hr hl) with ⟨_, h2, _⟩ | ⟨L', e, ha⟩
  · exfalso
    have h3 := h.log.count_le
    rw [h.recs, List.length_map] at h3
    omega
  · refine ⟨⟨s.per, L', s.snap, Rc.play s.st rc⟩, ?_, ?_, ha.down, ?_, rfl, by rw [e]⟩
    · unfold So.put
      rw [e]
      rfl
    · refine ⟨h.per, ha.inv, ?_, fun _ => ?_, ?_, fun r hr' => ?_, h.ok0, by rw [List.length_append]; simp only [List.length_singleton]; omega, by omega, h.snap, h.kept⟩
      · have h1 := ha.recs
        rw [Lg.recs_eq ha.down, hrl, h.recs] at h1
        rw [h1, List.map_append]
        rfl
      · rw [List.foldl_append, ← h.up hd]
        rfl
      · exact h.dn.trans (hd.trans ha.down.symm)
      · rcases List.mem_append.1 hr' with hr' | hr'
        · exact h.rok r hr'
        · obtain rfl := List.mem_singleton.1 hr'
          exact ⟨hr, hl⟩
    · have h1 := ha.inv.safe_eq ha.down
      have h2 := h.log.safe_eq hd
      rw [ha.safe, ha.base] at h1
      unfold So.sy
      show safeLen L'.segs = _
      omega
/-- what Promise leaves -/
theorem So.inv.promise (h : s.inv m n st0 rcs) (hd : s.log.down = false) (hn : n < 150) (b : Int) :
    (s.promise b = (s, (s.promise b).2) ∧ (((s.promise b).2 = 0 ∧ b = s.st.promised) ∨ ((s.promise b).2 = 16 ∧ 0 ≤ b ∧ b < s.st.promised) ∨ ((s.promise b).2 = 2 ∧ ¬ numOk b))) ∨
    ∃ k : Nat, b = k ∧ s.st.promised < k ∧ k ≤ 1099511627776 ∧ ∃ s', s.promise b = (s', 0) ∧ Put m n s st0 rcs (.prom k) s' := by
  unfold So.promise
  rw [hd]
  simp only [Bool.false_eq_true, if_false]
  by_cases hb : numOk b
  · rw [if_neg (by simpa using hb)]
    obtain ⟨h0, h1⟩ := hb
    by_cases h2 : b < s.st.promised
    · rw [if_pos h2]
      exact .inl ⟨rfl, .inr (.inl ⟨rfl, h0, h2⟩)⟩
    · rw [if_neg h2]
      by_cases h3 : b = s.st.promised
      · rw [if_pos h3]
        exact .inl ⟨rfl, .inl ⟨rfl, h3⟩⟩
      · rw [if_neg h3]
        obtain ⟨k, rfl⟩ : ∃ k : Nat, b = k := ⟨b.toNat, by omega⟩
        have hk : (Rc.prom k).ok := by show k ≤ 1099511627776; omega
        obtain ⟨s', e, hp⟩ := h.put hd hn hk trivial
        refine .inr ⟨k, rfl, by omega, by omega, s', ?_, hp⟩
        rw [← e]
        show s.put _ ⟨(k : Int).toNat, _, _⟩ = _
        congr 1
        show (⟨k, s.st.base, s.st.slots⟩ : St) = ⟨max s.st.promised k, s.st.base, s.st.slots⟩
        congr 1
        omega
  · rw [if_pos hb]
    exact .inl ⟨rfl, .inr (.inr ⟨rfl, hb⟩)⟩
/-- what Accept leaves -/
theorem So.inv.accept (h : s.inv m n st0 rcs) (hd : s.log.down = false) (hn : n < 150) (slot b : Int) (v : List UInt8) (hv : v.length ≤ 300) (hm : slot < m) :
    (s.accept slot b v = (s, (s.accept slot b v).2) ∧ ((s.accept slot b v).2 ≠ 0) ∧ (0 ≤ slot → slot < s.st.base → slot ≤ 1099511627776 → numOk b → (s.accept slot b v).2 = 16)) ∨
    ∃ k j : Nat, slot = k ∧ b = j ∧ s.st.promised ≤ j ∧ j ≤ 1099511627776 ∧ s.st.base ≤ k ∧ ∃ s', s.accept slot b v = (s', 0) ∧ Put m n s st0 rcs (.acc k j v) s' := by
  have hst := (h.st hd).2
  unfold So.accept
  rw [hd]
  simp only [Bool.false_eq_true, if_false]
  by_cases h1 : numOk slot
  · rw [if_neg (by simpa using h1)]
    by_cases h2 : numOk b
    · rw [if_neg (by simpa using h2)]
      obtain ⟨k, rfl⟩ : ∃ k : Nat, slot = k := ⟨slot.toNat, by have := h1.1; omega⟩
      obtain ⟨j, rfl⟩ : ∃ k : Nat, b = k := ⟨b.toNat, by have := h2.1; omega⟩
      by_cases h3 : (j : Int) < s.st.promised ∨ (k : Int) < s.st.base
      · rw [if_pos h3]
        exact .inl ⟨rfl, (show (16 : Int) ≠ 0 by decide), fun _ _ _ _ => rfl⟩
      · rw [if_neg h3, if_neg (by omega), if_neg (fun q => by have := q.2; have := h.small; omega)]
        have hk : (Rc.acc k j v).ok := ⟨by have := h1.2; omega, by have := h2.2; omega, by omega⟩
        obtain ⟨s', e, hp⟩ := h.put hd hn hk ⟨by omega, hv⟩
        refine .inr ⟨k, j, rfl, rfl, by omega, by have := h2.2; omega, by omega, s', ?_, hp⟩
        rw [← e]
        show s.put _ ⟨(j : Int).toNat, _, putN (k : Int).toNat _ _⟩ = _
        simp only [Int.toNat_natCast]
        congr 1
        show (⟨j, s.st.base, putN k ⟨j, v⟩ s.st.slots⟩ : St) = ⟨max s.st.promised j, s.st.base, putN k ⟨j, v⟩ s.st.slots⟩
        congr 1
        omega
    · rw [if_pos h2]
      exact .inl ⟨rfl, (show (2 : Int) ≠ 0 by decide), fun _ _ _ q => (h2 q).elim⟩
  · rw [if_pos h1]
    exact .inl ⟨rfl, (show (2 : Int) ≠ 0 by decide), fun q1 _ q3 _ => (h1 ⟨q1, q3⟩).elim⟩
/-- Accept of what is new -/
theorem So.inv.accept_ok (h : s.inv m n st0 rcs) (hd : s.log.down = false) (hn : n < 150) (k j : Nat) (v : List UInt8) (hv : v.length ≤ 300) (hm : k < m) (hk : k ≤ 1099511627776) (hj : j ≤ 1099511627776) (hp : s.st.promised ≤ j) (hb : s.st.base ≤ k) :
    ∃ s', s.accept k j v = (s', 0) ∧ Put m n s st0 rcs (.acc k j v) s' := by
  have hst := (h.st hd).2
  have hsm := h.small
  have n1 : numOk (k : Int) := ⟨by omega, by omega⟩
  have n2 : numOk (j : Int) := ⟨by omega, by omega⟩
  unfold So.accept
  rw [hd, if_neg (by simp), if_neg (by simpa using n1), if_neg (by simpa using n2), if_neg (by omega), if_neg (by omega), if_neg (fun q => by have := q.2; omega)]
  obtain ⟨s', e, hp'⟩ := h.put hd hn (rc := .acc k j v) ⟨hk, hj, by omega⟩ ⟨hm, hv⟩
  refine ⟨s', ?_, hp'⟩
  rw [← e]
  show s.put _ ⟨(j : Int).toNat, _, putN (k : Int).toNat _ _⟩ = _
  simp only [Int.toNat_natCast]
  congr 1
  show (⟨j, s.st.base, putN k ⟨j, v⟩ s.st.slots⟩ : St) = ⟨max s.st.promised j, s.st.base, putN k ⟨j, v⟩ s.st.slots⟩
  congr 1
  omega
/-- what Forget leaves -/
theorem So.inv.forget (h : s.inv m n st0 rcs) (hd : s.log.down = false) (hn : n < 150) (k : Int) (hk : numOk k) :
    (s.forget k = (s, 0) ∧ k ≤ s.st.base) ∨ ∃ j : Nat, k = j ∧ s.st.base < j ∧ ∃ s', s.forget k = (s', 0) ∧ Put m n s st0 rcs (.forget j) s' := by
  unfold So.forget
  rw [hd]
  simp only [Bool.false_eq_true, if_false]
  rw [if_neg (by simpa using hk)]
  obtain ⟨j, rfl⟩ : ∃ j : Nat, k = j := ⟨k.toNat, by have := hk.1; omega⟩
  by_cases h1 : (j : Int) ≤ s.st.base
  · rw [if_pos h1]
    exact .inl ⟨rfl, h1⟩
  · rw [if_neg h1]
    obtain ⟨s', e, hp⟩ := h.put hd hn (rc := .forget j) (show j ≤ 1099511627776 by have := hk.2; omega) trivial
    exact .inr ⟨j, rfl, by omega, s', e, hp⟩
/-- what Sync leaves -/
theorem So.inv.sync (h : s.inv m n st0 rcs) (hd : s.log.down = false) : ∃ s', s.sync = (s', 0) ∧ s'.inv m n st0 rcs ∧ s'.log.down = false ∧ s'.sy = rcs.length ∧ s'.st = s.st ∧ s'.log = s.log.sync.1 := by
  obtain ⟨L', e, i1, i2, i3, i4, i5, i6, i7⟩ := h.log.sync hd
  have hr : recsS L'.segs = rcs.map Rc.enc := by rw [← Lg.recs_eq i2, i3, Lg.recs_eq hd, h.recs]
  refine ⟨⟨s.per, L', s.snap, s.st⟩, by unfold So.sync; rw [e], ⟨h.per, i1, hr, fun _ => h.up hd, h.dn.trans (hd.trans i2.symm), h.rok, h.ok0, h.few, h.small, h.snap, h.kept⟩, i2, ?_, rfl, by rw [e]⟩
  have h1 := i1.safe_eq i2
  have h2 := i1.len i2
  rw [Lg.recs_eq i2, hr, List.length_map] at h2
  show safeLen L'.segs = _
  omega
theorem snapB_len (h : s.inv m n st0 rcs) (hd : s.log.down = false) : (snapB s.st).length ≤ 65536 := by
  obtain ⟨hl, hn⟩ := h.st hd
  have h1 := hl.ok.pr
  have h2 := hl.ok.ba
  have h3 := hl.ok.few
  have n1 := numB_10 (n := s.st.promised) (by omega)
  have n2 := numB_10 (n := s.st.base) (by omega)
  have n3 := numB_10 (n := s.st.slots.length) (by omega)
  have hf : ∀ (M : Slots), (∀ p ∈ M, p.1 ≤ 1099511627776 ∧ p.2.ballot ≤ 1099511627776 ∧ p.2.value.length ≤ 300) → (M.map slotB).flatten.length ≤ M.length * 330 := by
    intro M
    induction M with
    | nil => intro _; simp
    | cons p t ih =>
      intro hM
      have i1 := ih (fun q hq => hM q (List.mem_cons_of_mem _ hq))
      obtain ⟨q1, q2, q3⟩ := hM p (List.mem_cons_self ..)
      have k1 := numB_10 (n := p.1) (by omega)
      have k2 := numB_10 (n := p.2.ballot) (by omega)
      have k3 := numB_10 (n := p.2.value.length) (by omega)
      have k4 : (slotB p).length ≤ 330 := by
        unfold slotB
        simp only [List.length_append]
        omega
      rw [List.map_cons, List.flatten_cons, List.length_append, List.length_cons]
      omega
  have h4 := hf s.st.slots (fun p hp => ⟨(hl.ok.all p hp).1, (hl.ok.all p hp).2.1, (hl.slots p hp).2.1⟩)
  have h5 := h.small
  unfold snapB
  simp only [List.length_append]
  omega
/-- what Snapshot leaves -/
theorem So.inv.snapshot (h : s.inv m n st0 rcs) (hd : s.log.down = false) : ∃ s', s.snapshot = (s', 0) ∧ s'.inv m n s.st [] ∧ s'.log = Lg.new s.per ∧ s'.st = s.st := by
  obtain ⟨hl, hn⟩ := h.st hd
  have hb := snapB_len h hd
  have hsd : s.snap.down = false := h.dn.trans hd
  refine ⟨⟨s.per, Lg.new s.per, (s.snap.swap (frame (snapB s.st))).1, s.st⟩, ?_, ?_, rfl, rfl⟩
  · unfold So.snapshot
    rw [hd, if_neg (by simp), if_neg (by omega)]
  · have e : (s.snap.swap (frame (snapB s.st))).1 = ⟨false, frame (snapB s.st), (frame (snapB s.st)).length⟩ := by
      unfold Dk.swap
      rw [hsd, if_neg (by simp), if_neg (by rw [length_frame]; omega)]
    rw [e]
    exact ⟨h.per, Lg.inv_new h.per.1 h.per.2, rfl, fun _ => rfl, rfl, fun r hr => (by cases hr), hl, hn, h.small, .inr ⟨rfl, hb⟩, rfl⟩
/-- what Crash leaves of a store that is up -/
theorem So.inv.crash (h : s.inv m n st0 rcs) (hd : s.log.down = false) (keep flip : Int) (hk : 0 ≤ keep) :
    ∃ s', s.crash keep flip = (s', 0) ∧ s'.inv m n st0 rcs ∧ s'.log.down = true ∧ s'.sy = s.sy ∧ s'.log = (s.log.crash keep flip).1 := by
  obtain ⟨e, hi⟩ := h.log.crash hd keep flip hk
  have hsd : s.snap.down = false := h.dn.trans hd
  have e2 : (s.snap.crash keep flip).1 = ⟨true, s.snap.all, s.snap.kept⟩ := by
    unfold Dk.crash
    rw [hsd, if_neg (by simp), if_neg (by omega), h.kept, List.take_of_length_le (Nat.le_refl _), List.drop_eq_nil_of_le (Nat.le_refl _)]
    simp only
    congr 1
    unfold torn turn
    split <;> simp
  refine ⟨⟨s.per, ⟨s.log.per, s.log.segs.map (Sg.crash keep flip), true⟩, ⟨true, s.snap.all, s.snap.kept⟩, s.st⟩, ?_, ?_, rfl, ?_, by rw [e]⟩
  · unfold So.crash
    rw [e, e2]
    rfl
  · exact ⟨h.per, hi, by show recsS (s.log.segs.map _) = _; rw [recsS_map (f := Sg.crash keep flip) (fun _ => rfl)]; exact h.recs, fun q => (by cases q), rfl, h.rok, h.ok0, h.few, h.small, h.snap, h.kept⟩
  · exact safeLen_map (f := Sg.crash keep flip) (fun _ => rfl) (fun _ => rfl) _
/-- what Restart leaves: a beginning of the records, all that were kept -/
structure Rose (m n : Nat) (s : So) (st0 : St) (rcs : List Rc) (j : Nat) (s' : So) : Prop where
  inv : s'.inv m n st0 (rcs.take j)
  down : s'.log.down = false
  sy : s.sy ≤ j
  le : j ≤ rcs.length
  log : s'.log = s.log.restart.1
  per : s'.per = s.per
theorem So.inv.restart (h : s.inv m n st0 rcs) (hd : s.log.down = true) :
    ∃ j, recsS s.log.restart.1.segs = (rcs.take j).map Rc.enc ∧ Rose m n s st0 rcs j ⟨s.per, s.log.restart.1, s.snap.restart.1, (rcs.take j).foldl Rc.play st0⟩ := by
  have hsm := h.small
  obtain ⟨L', e, hr⟩ := h.log.restart hd (by omega)
  have e1 : s.log.restart.1 = L' := by rw [e]
  have hrc := hr.recs
  rw [Lg.recs_eq hr.down, h.recs] at hrc
  have hk := hr.kept
  rw [Lg.recs_eq hr.down] at hk
  have hpl := hrc.length_le
  rw [List.length_map] at hpl
  have e2 : recsS L'.segs = (rcs.take (recsS L'.segs).length).map Rc.enc := by
    rw [List.map_take]
    exact List.prefix_iff_eq_take.1 hrc
  refine ⟨(recsS L'.segs).length, by rw [e1]; exact e2, ⟨h.per, by rw [e1]; exact hr.inv, by rw [e1]; exact e2, fun _ => rfl, ?_, fun r hr' => h.rok r (List.mem_of_mem_take hr'), h.ok0, ?_, h.small, ?_, ?_⟩, by rw [e1]; exact hr.down, hk, hpl, rfl, rfl⟩
  · rw [e1, hr.down]
    exact s.snap.restart_up
  · have := h.few
    rw [List.length_take]
    omega
  · rw [Dk.restart_all']
    exact h.snap
  · have hkp := h.dn.trans hd
    unfold Dk.restart
    rw [hkp]
    rfl
theorem next_nil : ∃ r : Int, r ≠ 0 ∧ next [] ((0 : Nat) : Int) = .error r := by
  refine ⟨4, by decide, ?_⟩
  have := next_cut [] (by decide) 0 (by rw [length_frame]; decide)
  simpa using this
/-- a snapshot as Restart wants it -/
theorem So.inv.snap' (h : s.inv m n st0 rcs) : (st0 = St.new ∧ ∃ r : Int, r ≠ 0 ∧ next s.snap.all ((0 : Nat) : Int) = .error r) ∨ (s.snap.all = frame (snapB st0) ∧ (snapB st0).length ≤ 65536) := by
  rcases h.snap with ⟨h1, h2⟩ | h1
  · rw [h1]
    exact .inl ⟨h2, next_nil⟩
  · exact .inr h1
end
end Go.Proofs.YtediidajdpdeiaaGreatDoor
