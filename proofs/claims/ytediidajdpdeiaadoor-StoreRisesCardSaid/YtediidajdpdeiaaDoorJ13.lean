/- A store's Promise (layer 8): the walk. -/
import Derived.Test.YtediidajdpdeiaaDoorJ12
import Derived.Test.YtediidajdpdeiaaDoorJ4
import Derived.Test.YtediidajdpdeiaaDoorJ0

namespace Go.Proofs.YtediidajdpdeiaaDoor
open Go.RowKit CrcM
set_option maxRecDepth 100000

section
variable {S S1 S2 : Nat → Prop} {w w' : World} {b lb db mb : Nat} {s : So}
theorem SoO.append (h : SoO S S1 S2 w b lb db mb s) (hh : HalfAt w) (hlen : s.log.len ≤ 4611686018427387904) (B : Option Addr) (rec : List UInt8) (cb : Nat) (hr : Own Ever w B rec) (hrl : rec.length ≤ 70368744177664) :
    Calls Tryd.prog 35 #[.pointer (some ⟨lb, 0, none⟩), .slice B rec.length cb] w fun e w' => e = .returned (.tuple #[.int .i64 ((s.log.append rec).2.1 : Int), .int .i64 (s.log.append rec).2.2]) ∧
      SoO (Up S w w') (Up S1 w w') S2 w' b lb db mb ⟨s.per, (s.log.append rec).1, s.snap, s.st⟩ ∧ Fr S w w' := by
  obtain ⟨hu, H, A, c, ps, hl⟩ := id h.log
  refine (appendL hl hu hh hlen B rec cb (hr.rd S1) hrl).mono ?_
  rintro e w' ⟨h1, h2, h3⟩
  obtain ⟨h4, h5⟩ := h.turnLog h2 h3
  exact ⟨h1, h4, h5⟩
/-- after nothing but new blocks -/
theorem SoO.did (h : SoO S S1 S2 w b lb db mb s) (hb : Below w.heap.size w w') (n : Int) : SoDid S w (.pointer (some ⟨b, 0, none⟩)) (s, n) (.returned (.int .i64 n)) w' :=
  ⟨rfl, ((h.below hb).mono (fun _ hx => .inl hx) (Up.lt h.lt hb.size)).is, Fr.of_below hb⟩
theorem SoDid.from {w1 : World} {p : Value} {r : So × Int} {e : Ending} (hb : Below w.heap.size w w1) (hl : ∀ x, S x → x < w.heap.size) (h : SoDid S w1 p r e w') : SoDid S w p r e w' := by
  obtain ⟨h1, ⟨b, rfl, S1, S2, lb, db, mb, h2⟩, h3⟩ := h
  have hs := h3.size
  refine ⟨h1, ⟨b, rfl, S1, S2, lb, db, mb, h2.mono (fun x hx => hx.imp_right (fun q => ⟨Nat.le_trans hb.size q.1, q.2⟩)) (Up.lt hl (Nat.le_trans hb.size hs))⟩, (Fr.of_below hb).trans' h3 (fun _ _ h => h)⟩

theorem ask1 (s : So) (n : Int) : askC s [n] = if s.log.down then 10 else if numOk n then 0 else 2 := by
  unfold askC
  simp only [List.all_cons, List.all_nil, Bool.and_true, decide_eq_true_eq]
theorem int_cells {w : World} {xs : List Int} : ∀ (j : Nat) (n : Int), xs[j]? = some n → (w.alloc (.cells (xs.map (Value.int .i64)).toArray TIn)).cell? ⟨w.heap.size, 0 + j, none⟩ = some (.int .i64 n) := by
  intro j n hj
  have := (Blk.new w TIn (xs.map (Value.int .i64)).toArray).cell j (v := .int .i64 n) (by simp [hj])
  rw [Nat.zero_add]
  exact this

theorem promiseS (h : SoO S S1 S2 w b lb db mb s) (hh : HalfAt w) (hlen : s.log.len ≤ 4611686018427387904) (n : Int) :
    Calls Tryd.prog 63 #[.pointer (some ⟨b, 0, none⟩), .int .i64 n] w (SoDid S w (.pointer (some ⟨b, 0, none⟩)) (s.promise n)) := by
  have hb1 := below_new w (.cells #[.int .i64 n] TIn)
  have h1 := h.below hb1
  obtain ⟨c0, c1, c2, c3, c4, c5, z1, z3, z4⟩ := h1.facts
  have ha := askedS h1 (some ⟨w.heap.size, 0, none⟩) [n] 1 (fun j m hj => ⟨_, _, rfl, int_cells (xs := [n]) j m hj⟩) (by simp)
  rw [List.length_singleton, ask1] at ha
  have hpr := h.ok.pr
  cases hdn : s.log.down
  · rw [hdn] at ha
    by_cases hn : numOk n
    · have hn' := hn
      unfold numOk at hn'
      obtain ⟨k, rfl⟩ : ∃ k : Nat, n = k := ⟨n.toNat, by omega⟩
      simp only [Bool.false_eq_true, if_false, if_pos hn] at ha
      by_cases h2 : (k : Int) < (s.st.promised : Int)
      · have HE := Lib.hid (show s.promise k = (s, 16) from by unfold So.promise; rw [hdn, if_neg (by simp), if_neg (by simpa using hn), if_pos h2])
        clear hdn hn
        go_enter Tryd.func63, Tryd.ntmps63
        go_wp2_with (go_at_call 106; refine ha.mono ?_; rintro e w' ⟨rfl, rfl⟩)
        go_ret
        rw [HE.out]
        exact h.did hb1 16
      · by_cases h3 : (k : Int) = (s.st.promised : Int)
        · have HE := Lib.hid (show s.promise k = (s, 0) from by unfold So.promise; rw [hdn, if_neg (by simp), if_neg (by simpa using hn), if_neg h2, if_pos h3])
          have h3' : ((k : Int) == (s.st.promised : Int)) = true := by simpa using h3
          clear hdn hn h3
          go_enter Tryd.func63, Tryd.ntmps63
          go_wp2_with (go_at_call 106; refine ha.mono ?_; rintro e w' ⟨rfl, rfl⟩)
          go_ret
          rw [HE.out]
          exact h.did hb1 0
        · have he : s.promise k = s.put (Rc.prom k).enc ⟨k, s.st.base, s.st.slots⟩ := by
            unfold So.promise
            rw [hdn, if_neg (by simp), if_neg (by simpa using hn), if_neg h2, if_neg h3, Int.toNat_natCast]
          have h3' : ((k : Int) == (s.st.promised : Int)) = false := by simpa using h3
          have hb2 := below_new (w.alloc (.cells #[.int .i64 (k : Int)] TIn)) (.cells #[.int .u8 1] TB)
          have h2w := h1.below hb2
          have hO : Own Ever ((w.alloc (.cells #[.int .i64 (k : Int)] TIn)).alloc (.cells #[.int .u8 1] TB)) (some ⟨w.heap.size + 1, 0, none⟩) [1] := by
            have := Own.of_cells Ever (heap_alloc_new (w.alloc (.cells #[.int .i64 (k : Int)] TIn)) (.cells #[.int .u8 1] TB)) (l := [1]) trivial rfl
            simpa using this
          have hbw := hb1.trans (hb2.mono hb1.size)
          have hhw := hh.below hbw hh.lt
          obtain ⟨rec, hrec⟩ : ∃ r, [1] ++ numB k = r := ⟨_, rfl⟩
          have henc : (Rc.prom k).enc = rec := hrec
          have hrl : rec.length ≤ 11 := by have := numB_10 (n := k) (by omega); rw [← hrec, List.length_append]; simp; omega
          have hnum := Num_B ((w.alloc (.cells #[.int .i64 (k : Int)] TIn)).alloc (.cells #[.int .u8 1] TB)) ((w.alloc (.cells #[.int .i64 (k : Int)] TIn)).alloc (.cells #[.int .u8 1] TB)) (Below.refl _ _) (some ⟨w.heap.size + 1, 0, none⟩) 1 [1] (hO.rd Non) (by simp) k (by omega)
          rw [hrec] at hnum
          rw [henc] at he
          rw [List.length_singleton] at hnum
          have HL := Lib.hid hlen
          clear hdn hn h3 hrec henc hlen
          by_cases hc : (s.log.append rec).2.2 = 0
          · have HE := Lib.hid (show s.promise k = (⟨s.per, (s.log.append rec).1, s.snap, ⟨k, s.st.base, s.st.slots⟩⟩, 0) from by rw [he]; unfold So.put; rw [if_pos hc])
            have HC := Lib.hid hc
            clear he hc
            go_enter Tryd.func63, Tryd.ntmps63
            go_wp2_with (first
              | (go_at_call 106; refine ha.mono ?_; rintro e w' ⟨rfl, rfl⟩)
              | (go_at_call 107; refine hnum.mono ?_; rintro e w3 ⟨v3, rfl, ho3, hb3⟩; obtain ⟨A3, c3, rfl, hc3, hm3⟩ := own_val ho3; have hO3 : Own Ever w3 A3 rec := (Own.of_row ho3 rfl).mono (fun _ _ => trivial); have h3w := h2w.below hb3; obtain ⟨d0, d1, d2, d3, d4, d5, -, -, -⟩ := h3w.facts; have hap := h3w.append (hhw.below hb3 hhw.lt) HL.out A3 rec c3 hO3 (by omega); rw [HC.out] at hap)
              | (go_at_call 35; refine hap.mono ?_; rintro e w4 ⟨rfl, h4, hf4⟩; obtain ⟨e0, e1, e2, e3, e4, e5, -, y3, -⟩ := h4.facts))
            go_ret
            rw [HE.out]
            obtain ⟨h5, f5⟩ := h4.setPr k (by omega)
            have hsz : (w4.setCell ⟨b, 3, none⟩ (.int .i64 (k : Int))).heap.size = w4.heap.size := by simp [World.setCell]
            refine SoDid.from (hbw.trans (hb3.mono hbw.size)) h.lt ⟨rfl, (h5.mono (fun x hx => hx.imp_right (fun q => ⟨q.1, by rw [hsz]; exact q.2⟩)) (fun x hx => h5.lt x (hx.imp_right (fun q => ⟨q.1, by rw [hsz] at q; exact q.2⟩)))).is, Up.fr2 hf4 f5⟩
          · have HE := Lib.hid (show s.promise k = (⟨s.per, (s.log.append rec).1, s.snap, s.st⟩, (s.log.append rec).2.2) from by rw [he]; unfold So.put; rw [if_neg hc])
            have hc' : ((s.log.append rec).2.2 != 0) = true := by simpa using hc
            clear he hc
            go_enter Tryd.func63, Tryd.ntmps63
            go_wp2_with (first
              | (go_at_call 106; refine ha.mono ?_; rintro e w' ⟨rfl, rfl⟩)
              | (go_at_call 107; refine hnum.mono ?_; rintro e w3 ⟨v3, rfl, ho3, hb3⟩; obtain ⟨A3, c3, rfl, hc3, hm3⟩ := own_val ho3; have hO3 : Own Ever w3 A3 rec := (Own.of_row ho3 rfl).mono (fun _ _ => trivial); have h3w := h2w.below hb3; obtain ⟨d0, d1, d2, d3, d4, d5, -, -, -⟩ := h3w.facts; have hap := h3w.append (hhw.below hb3 hhw.lt) HL.out A3 rec c3 hO3 (by omega))
              | (go_at_call 35; refine hap.mono ?_; rintro e w4 ⟨rfl, h4, hf4⟩))
            go_ret
            rw [HE.out]
            exact SoDid.from (hbw.trans (hb3.mono hbw.size)) h.lt ⟨rfl, h4.is, hf4⟩
    · have HE := Lib.hid (show s.promise n = (s, 2) from by unfold So.promise; rw [hdn, if_neg (by simp), if_pos hn])
      simp only [Bool.false_eq_true, if_false, if_neg hn] at ha
      clear hdn hn
      go_enter Tryd.func63, Tryd.ntmps63
      go_wp2_with (go_at_call 106; refine ha.mono ?_; rintro e w' ⟨rfl, rfl⟩)
      go_ret
      rw [HE.out]
      exact h.did hb1 2
  · have HE := Lib.hid (show s.promise n = (s, 10) from by unfold So.promise; rw [hdn, if_pos rfl])
    rw [hdn] at ha
    simp only [if_true] at ha
    clear hdn
    go_enter Tryd.func63, Tryd.ntmps63
    go_wp2_with (go_at_call 106; refine ha.mono ?_; rintro e w' ⟨rfl, rfl⟩)
    go_ret
    rw [HE.out]
    exact h.did hb1 10
end
end Go.Proofs.YtediidajdpdeiaaDoor

/- A store's base rises (layer 8): the walk of rise. -/
namespace Go.Proofs.YtediidajdpdeiaaDoor
open Go.RowKit CrcM
set_option maxRecDepth 100000

theorem St.ok.rise' {s : St} (h : s.ok) {n : Nat} (hn : n ≤ 1099511627776) : (s.rise n).ok := by
  have hb := h.ba
  refine ⟨h.pr, ?_, Nat.le_trans (List.length_filter_le _ _) h.few, h.rise.filter _, fun p hp => h.all p (List.mem_filter.1 hp).1⟩
  show max s.base n ≤ _
  omega
theorem Fr.next {S : Nat → Prop} {w1 wr w' : World} {r : Nat} (f : Fr S w1 wr) (hg : wr.grownBy w' (some r)) (hr : w1.heap.size ≤ r) : Fr S w1 w' :=
  ⟨hg.os.trans f.os, hg.tape.trans f.tape, hg.output.trans f.output, Nat.le_trans f.size hg.size, fun x hx hn => (hg.block x (Nat.lt_of_lt_of_le hx f.size) (fun e => by injection e with e; omega)).trans (f.out x hx hn), fun x hx => (hg.block x (Nat.lt_of_lt_of_le hx.lt f.size) (fun e => by injection e with e; have := hx.lt; omega)).trans (f.byt x hx)⟩
/-- those slots that stay, and those that are still to come -/
def stays (B : Nat) (left : Lit → Bool) (z : Nat × (Hd × Value)) : Bool := decide (B ≤ z.1) || left (litN z.1)
theorem stays_del {B : Nat} {left : Lit → Bool} {Z : Held3} {k : Nat} (hk : k < B) : delN k (valsOf (Z.filter (stays B left))) = valsOf (Z.filter (stays B (fun u => left u && !u.sameKey (litN k)))) := by
  unfold valsOf
  rw [← delN_map]
  congr 1
  unfold delN
  rw [List.filter_filter]
  apply List.filter_congr
  intro z _
  unfold stays
  simp only [litN_same]
  by_cases h1 : z.1 = k
  · have : ¬ B ≤ z.1 := by omega
    simp [h1]
    omega
  · simp [h1]
theorem stays_keep {B : Nat} {left : Lit → Bool} {Z : Held3} {k : Nat} (hk : B ≤ k) : Z.filter (stays B left) = Z.filter (stays B (fun u => left u && !u.sameKey (litN k))) := by
  apply List.filter_congr
  intro z _
  unfold stays
  simp only [litN_same]
  by_cases h1 : z.1 = k
  · have : B ≤ z.1 := by omega
    simp [this]
  · simp [h1]
theorem stays_all {B : Nat} {left : Lit → Bool} {Z : Held3} (h : ∀ z ∈ Z, left (litN z.1) = true) : Z.filter (stays B left) = Z := by
  apply List.filter_eq_self.2
  intro z hz
  unfold stays
  rw [h z hz]
  simp
theorem stays_end {B : Nat} {left : Lit → Bool} {Z : Held3} (h : ∀ kl, left kl = false) : slotsOf (Z.filter (stays B left)) = (slotsOf Z).filter (fun p => decide (B ≤ p.1)) := by
  unfold slotsOf
  rw [List.filter_map]
  congr 1
  apply List.filter_congr
  intro z _
  show (decide (B ≤ z.1) || left (litN z.1)) = decide (B ≤ z.1)
  rw [h, Bool.or_false]
theorem has_all {Z : Held3} : ∀ z ∈ Z, Go.Maps.has (mapD (valsOf Z)) (litN z.1) = true := by
  intro z hz
  unfold mapD valsOf
  rw [Go.Maps.has_eq]
  exact List.any_eq_true.2 ⟨(litN z.1, .held z.2.2), List.mem_map.2 ⟨(z.1, z.2.2), List.mem_map.2 ⟨z, hz, rfl⟩, rfl⟩, WideAt.sameKey_self (litN_key _)⟩
theorem invInt : ∀ key kl, keyOf Tryd.prog TIn key = some kl → ∃ x : Int, key = Value.int .i64 x := fun key kl hk => by
  obtain ⟨x, e, -⟩ := Go.Maps.keyOf_int_inv (q := .i64) Tryd.underlying3 hk
  exact ⟨x, e⟩

section
variable {S S1 S2 : Nat → Prop} {w w' : World} {b lb db mb : Nat} {s : So}
/-- WHAT rise leaves -/
def RiseDid (S S1 S2 : Nat → Prop) (w : World) (b lb db mb : Nat) (s : So) (n : Nat) (e : Ending) (w' : World) : Prop :=
  e = .returned (.tuple #[]) ∧ SoO (Up S w w') S1 S2 w' b lb db mb ⟨s.per, s.log, s.snap, s.st.rise n⟩ ∧ Fr (fun x => x = b ∨ x = mb) w w'
set_option maxHeartbeats 1000000 in
theorem riseS (h : SoO S S1 S2 w b lb db mb s) (n : Nat) (hn : n ≤ 1099511627776) :
    Calls Tryd.prog 110 #[.pointer (some ⟨b, 0, none⟩), .int .i64 (n : Int)] w (RiseDid S S1 S2 w b lb db mb s n) := by
  obtain ⟨c0, c1, c2, c3, c4, c5, z1, z3, z4⟩ := h.facts
  have hba := h.ok.ba
  have hok' := h.ok.rise' hn
  obtain ⟨B, hB⟩ : ∃ B, max s.st.base n = B := ⟨_, rfl⟩
  have hB2 : B ≤ 1099511627776 := by omega
  obtain ⟨h1, f1⟩ := h.setBa B hB2
  have fb : Fr (fun x => x = b ∨ x = mb) w (w.setCell ⟨b, 4, none⟩ (.int .i64 (B : Int))) := (Fr.refl (fun x => x = b ∨ x = mb) _).setCell (p := ⟨b, 4, none⟩) (.inl (.inl rfl)) (h.blk.notB (by decide)) _
  obtain ⟨Z, hown, hZ, hheld, hbd⟩ := h1.map
  have hst : s.st.rise n = ⟨s.st.promised, B, s.st.slots.filter (fun p => decide (B ≤ p.1))⟩ := by unfold St.rise; rw [hB]
  have HS := Lib.hid hst
  have HZ := Lib.hid hZ
  have HB := Lib.hid hbd
  have HH := Lib.hid hheld
  rw [hst] at hok'
  have hB1 := h1.blk
  have hsz1 : (w.setCell ⟨b, 4, none⟩ (.int .i64 (B : Int))).heap.size = w.heap.size := by simp [World.setCell]
  have hnem := h.ne
  have e5 := hB1.cell 5 (v := .map (some mb)) rfl
  have hcase : (s.st.base < n ∧ n = B) ∨ (¬ s.st.base < n ∧ s.st.base = B) := by omega
  clear hst hZ hB hbd hheld
  rcases hcase with ⟨hbn, hbe⟩ | ⟨hbn, hbe⟩
  all_goals
    have hbi : ((s.st.base : Nat) : Int) < (n : Int) ↔ s.st.base < n := by omega
    have HBE := Lib.hid hbe
    first
    | (have hbi' : (s.st.base : Int) < (n : Int) := by omega)
    | (have hbi' : ¬ (s.st.base : Int) < (n : Int) := by omega)
    have hbe' := HBE.out
    clear hbn hbi hbe hbe'
    go_enter Tryd.func110, Tryd.ntmps110
    go_wp2_with (first
      | (at_range; rw [HBE.out]; refine wpList_range_own _ rfl _ TMp rfl TIn THd intKey Tryd.underlying110 heldR mb Z.length _ rfl hown ?_; intro w0 hrg0 hg0 hs0))
    rw [hsz1] at hrg0
    have hb0 : Below w.heap.size (w.setCell ⟨b, 4, none⟩ (.int .i64 (B : Int))) w0 := ⟨hg0.os, hg0.tape, hg0.output, hg0.size, fun x hx => hg0.block x (by rw [hsz1]; exact hx) (by simp)⟩
    clear c0 c1 c2 c3 c4 c5 z1 z3 z4 hg0 hs0
    generalize w.setCell ⟨b, 4, none⟩ (.int .i64 (B : Int)) = w1 at *
    rw [← hsz1] at hb0
    have hf0 : Fr (fun x => x = mb) w1 w0 := Fr.of_below hb0
    go_loopw [4] (fun _ wr => ∃ (left : Lit → Bool) (cnt : Nat), wr.ranges Tryd.prog TIn heldR mb w.heap.size Z.length (mapD (valsOf (Z.filter (stays B left)))) left cnt ∧ (∀ kl, left kl = true → ∃ z ∈ Z, litN z.1 = kl) ∧ Fr (fun x => x = mb) w1 wr) (fun _ wr => wr.rangeLeft mb w.heap.size)
    case atStart => exact ⟨_, _, by rw [stays_all has_all]; exact hrg0, fun kl hk => left_of hk, hf0⟩
    case round =>
      obtain ⟨left, cnt, hrg, hlk, hf⟩ := hrel
      have hmeas := hrg.left_eq
      clear hrg0 hown hf0 hb0
      go_wp2_with (first
        | (at_next; refine wpList_next_ranges _ rfl _ rfl TIn intKey heldR (Value.int .i64) id invInt (fun v y _ => ⟨v, rfl⟩) mb w.heap.size Z.length _ left cnt rfl hrg ?_ ?_))
      · intro hc0 hl0
        go_wp2
        refine bodyPost_end (results_none rfl _ _ _) rfl ?_
        have hB' := hB1.fr hf hnem
        have ho := ownsMap_tight hrg.owns
        rw [show (valsOf (Z.filter (stays B left))).length = (Z.filter (stays B left)).length from by unfold valsOf; rw [List.length_map]] at ho
        have hsl : SlotsAt wr mb (s.st.slots.filter (fun p => decide (B ≤ p.1))) := by
          rw [← HZ.out, ← stays_end hl0]
          exact ⟨_, ho, rfl, fun z hz => (HH.out z (List.mem_filter.1 hz).1).bk hf.byt, fun z hz => HB.out z (List.mem_filter.1 hz).1⟩
        obtain ⟨h2, f2⟩ := h1.turnMap hsl hf hok'
        refine ⟨rfl, ?_, fb.trans' hf (fun _ _ e => .inr e)⟩
        rw [HS.out]
        exact h2.mono (fun x hx => hx.imp_right (fun q => ⟨by have := q.1; omega, q.2⟩)) (fun x hx => h2.lt x (hx.imp_right (fun q => ⟨by have := q.1; omega, q.2⟩)))
      · intro x c kl y ps w2 cnt' hkey hlx hR hat hrg' hlt hg hs hen
        obtain ⟨z, hz, rfl⟩ := hlk kl hlx
        obtain rfl := key_of hkey rfl
        have hzb := HB.out z hz
        have hf2 := hf.next hg (by omega)
        have hm' := hrg'.left_eq
        have hB2w := hB1.fr hf2 hnem
        have g4 := hB2w.cell 4 (v := .int .i64 (B : Int)) rfl
        have g5 := hB2w.cell 5 (v := .map (some mb)) rfl
        have hlk' : ∀ kl, (left kl && !kl.sameKey (litN z.1)) = true → ∃ z ∈ Z, litN z.1 = kl := fun kl hk => hlk kl (by simp only [Bool.and_eq_true] at hk; exact hk.1)
        clear hR hat hs hkey e5
        by_cases hzB : (z.1 : Int) < (B : Int)
        · go_wp2_with (first
            | (at_delete; refine wpList_delete_ranges _ rfl _ _ TMp TIn rfl THd intKey Tryd.underlying110 heldR mb w.heap.size Z.length _ _ cnt' rfl hrg' (.int .i64 (z.1 : Int)) (litN z.1) rfl (keyOf_nat z.1 hzb) ?_; intro w3 cnt3 hrg3 hle3 hturn3))
          simp only [Act.put]
          go_roundw
          case rel =>
            rw [Maps.strike_twice, mapD_del, stays_del (by omega)] at hrg3
            exact ⟨_, cnt3, hrg3, hlk', hf2.trans' (Fr.turned hturn3) (fun _ _ h => h)⟩
          case measure => rw [hrg3.left_eq, hmeas]; omega
        · rw [stays_keep (show B ≤ z.1 by omega)] at hrg'
          go_wp2
          go_roundw
          case rel => exact ⟨_, cnt', hrg', hlk', hf2⟩
          case measure => rw [hm', hmeas]; exact hlt
end
end Go.Proofs.YtediidajdpdeiaaDoor

/- The document's disk: plain functions, and the walks. -/
namespace Go.Proofs.YtediidajdpdeiaaDoor
open Go.RowKit
set_option maxRecDepth 100000

/-- the document's disk: what is kept, what is not, is it down -/
structure Rk where
  kept : List UInt8
  rest : List UInt8
  down : Bool

namespace Rk
def new : Rk := ⟨[], [], false⟩
def append (R : Rk) (b : List UInt8) : Rk × Int := if R.down then (R, 10) else if 4194304 < R.kept.length + R.rest.length + b.length then (R, 7) else (⟨R.kept, R.rest ++ b, false⟩, 0)
def sync (R : Rk) : Rk × Int := if R.down then (R, 10) else (⟨R.kept ++ R.rest, [], false⟩, 0)
def cut (R : Rk) (n : Int) : Rk × Int := if R.down then (R, 10) else if n < 0 ∨ ((R.kept ++ R.rest).length : Int) < n then (R, 2) else (⟨(R.kept ++ R.rest).take n.toNat, [], false⟩, 0)
def swap (R : Rk) (b : List UInt8) : Rk × Int := if R.down then (R, 10) else if 4194304 < b.length then (R, 7) else (⟨b, [], false⟩, 0)
def crash (R : Rk) (keep flip : Int) : Rk × Int := if R.down then (R, 10) else if keep < 0 then (R, 2) else (⟨R.kept, torn R.rest keep flip, true⟩, 0)
def restart (R : Rk) : Rk × Int := if R.down then (⟨R.kept ++ R.rest, [], false⟩, 0) else (R, 9)
def read (R : Rk) : List UInt8 × Int := if R.down then ([], 10) else (R.kept ++ R.rest, 0)
def ok (R : Rk) : Prop := R.kept.length + R.rest.length ≤ 70368744177664
end Rk

/-- block b is a disk of the document's -/
structure RefAt (S : Nat → Prop) (w : World) (b : Nat) (A1 : Option Addr) (c1 : Nat) (A2 : Option Addr) (c2 : Nat) (R : Rk) : Prop where
  blk : Blk w b 90 #[.slice A1 R.kept.length c1, .slice A2 R.rest.length c2, .bool R.down]
  own1 : Own S w A1 R.kept
  own2 : Own S w A2 R.rest
  inS : S b
  lt : ∀ x, S x → x < w.heap.size
  cap1 : R.kept.length ≤ c1
  cap2 : R.rest.length ≤ c2
  ok : R.ok

def IsRef (S : Nat → Prop) (w : World) (p : Value) (R : Rk) : Prop := ∃ b A1 c1 A2 c2, p = .pointer (some ⟨b, 0, none⟩) ∧ RefAt S w b A1 c1 A2 c2 R

section
variable {S S' : Nat → Prop} {w w' : World} {b : Nat} {A1 A2 : Option Addr} {c1 c2 : Nat} {R : Rk} {p : Value}
theorem RefAt.fr (h : RefAt S w b A1 c1 A2 c2 R) (f : Fr S' w w') (hd : ∀ x, S x → S' x → IsB w x) : RefAt S w' b A1 c1 A2 c2 R :=
  ⟨h.blk.fr f fun hs => h.blk.notB (by decide) (hd _ h.inS hs), h.own1.fr f, h.own2.fr f, h.inS, fun x hx => Nat.lt_of_lt_of_le (h.lt x hx) f.size, h.cap1, h.cap2, h.ok⟩
theorem IsRef.fr (h : IsRef S w p R) (f : Fr S' w w') (hd : ∀ x, S x → S' x → IsB w x) : IsRef S w' p R := by
  obtain ⟨b, A1, c1, A2, c2, rfl, h⟩ := h
  exact ⟨b, A1, c1, A2, c2, rfl, h.fr f hd⟩
theorem RefAt.below (h : RefAt S w b A1 c1 A2 c2 R) (hb : Below w.heap.size w w') : RefAt S w' b A1 c1 A2 c2 R := h.fr (S' := Non) (Fr.of_below hb) (fun _ _ h => h.elim)
theorem RefAt.drew (h : RefAt S w b A1 c1 A2 c2 R) : RefAt S w.drew b A1 c1 A2 c2 R := ⟨h.blk, h.own1, h.own2, h.inS, h.lt, h.cap1, h.cap2, h.ok⟩
theorem RefAt.notB (h : RefAt S w b A1 c1 A2 c2 R) : ¬ IsB w b := h.blk.notB (by decide)
theorem RefAt.same (h : RefAt S w b A1 c1 A2 c2 R) : IsRef (Up S w w) w (.pointer (some ⟨b, 0, none⟩)) R :=
  ⟨b, A1, c1, A2, c2, rfl, h.blk, h.own1.mono fun _ => .inl, h.own2.mono fun _ => .inl, .inl h.inS, fun x hx => hx.elim (h.lt x) (fun h => h.2), h.cap1, h.cap2, h.ok⟩
theorem RefAt.up {w0 : World} (h : RefAt S w b A1 c1 A2 c2 R) : IsRef (Up S w0 w) w (.pointer (some ⟨b, 0, none⟩)) R :=
  ⟨b, A1, c1, A2, c2, rfl, h.blk, h.own1.mono fun _ => .inl, h.own2.mono fun _ => .inl, .inl h.inS, fun x hx => hx.elim (h.lt x) (fun h => h.2), h.cap1, h.cap2, h.ok⟩
theorem RefAt.turned (h : RefAt S w b A1 c1 A2 c2 R) (f : Fr S w w') {A1' A2' : Option Addr} {c1' c2' : Nat} {R' : Rk}
    (hb : Blk w' b 90 #[.slice A1' R'.kept.length c1', .slice A2' R'.rest.length c2', .bool R'.down]) (ho1 : Own (Up S w w') w' A1' R'.kept) (ho2 : Own (Up S w w') w' A2' R'.rest)
    (hc1 : R'.kept.length ≤ c1') (hc2 : R'.rest.length ≤ c2') (hok : R'.ok) : IsRef (Up S w w') w' (.pointer (some ⟨b, 0, none⟩)) R' :=
  ⟨b, A1', c1', A2', c2', rfl, hb, ho1, ho2, .inl h.inS, fun x hx => hx.elim (fun hx => Nat.lt_of_lt_of_le (h.lt x hx) f.size) (fun h => h.2), hc1, hc2, hok⟩
theorem RefAt.facts {kept rest : List UInt8} {dn : Bool} (h : RefAt S w b A1 c1 A2 c2 ⟨kept, rest, dn⟩) :
    w.cell? ⟨b, 0, none⟩ = some (.slice A1 kept.length c1) ∧ w.cell? ⟨b, 1, none⟩ = some (.slice A2 rest.length c2) ∧ w.cell? ⟨b, 2, none⟩ = some (.bool dn) ∧
    w.frozen? ⟨b, 0, none⟩ = false ∧ w.frozen? ⟨b, 1, none⟩ = false ∧ w.frozen? ⟨b, 2, none⟩ = false ∧ b < w.heap.size ∧ kept.length ≤ c1 ∧ rest.length ≤ c2 ∧ kept.length + rest.length ≤ 70368744177664 :=
  ⟨h.blk.cell 0 rfl, h.blk.cell 1 rfl, h.blk.cell 2 rfl, h.blk.frozen 0, h.blk.frozen 1, h.blk.frozen 2, h.blk.lt, h.cap1, h.cap2, h.ok⟩
end

def RefDid (S : Nat → Prop) (w : World) (p : Value) (r : Rk × Int) (e : Ending) (w' : World) : Prop := e = .returned (.int .i64 r.2) ∧ IsRef (Up S w w') w' p r.1 ∧ Fr S w w'

theorem join_B (w : World) (A B : Option Addr) (a b : List UInt8) (c d : Nat) (ha : Rd Non w A a) (hb : Rd Non w B b) (hl : a.length + b.length ≤ 140737488355328) :
    Calls Tryd.prog 134 #[.slice A a.length c, .slice B b.length d] w (Cloned w (a ++ b)) := by
  obtain ⟨i, hi, hz, hs, hby⟩ := info_parts info_u8
  obtain ⟨m, hm⟩ : ∃ m, a.length = m := ⟨_, rfl⟩
  obtain ⟨n, hn⟩ : ∃ n, b.length = n := ⟨_, rfl⟩
  have HM := Lib.hid hm
  have HN := Lib.hid hn
  rw [hm, hn] at hl ⊢
  clear hm hn
  go_enter Tryd.func134, Tryd.ntmps134
  go_wp2_with (first
    | (at_builtin
       refine wpList_appB rfl (.tmp 5) (.tmp 6) 22 rfl i Tryd.underlying22 hi hz hs hby w.heap.size (.slice (some ⟨w.heap.size, 0, none⟩) 0 0) 0 [] rfl (ownsB_none w) Non A m c a rfl HM.out (ha.fr ((Fr.refl _ _).alloc _)) (by omega) (by simp) ?_
       intro v1 w1 ho1 hg1 ha1
       rw [Nat.zero_add, List.nil_append] at ho1
       obtain ⟨A1, c1, rfl, hc1, hm1⟩ := own_val ho1
       have hb1 : Below w.heap.size w w1 := ((Below.refl _ _).alloc (Nat.le_refl _) _).grown hg1 (by simp) (fun j hj => by injection hj with hj; subst hj; exact Nat.le_refl _)
       clear hg1 ha1)
    | (at_builtin
       refine wpList_appB rfl (.tmp 7) (.tmp 8) 22 rfl i Tryd.underlying22 hi hz hs hby w.heap.size (.slice A1 m c1) m a rfl ho1 Non B n d b rfl HN.out (hb.fr (Fr.of_below hb1)) (by omega) hb1.size ?_
       intro v2 w2 ho2 hg2 ha2
       obtain ⟨A2, c2, rfl, hc2, hm2⟩ := own_val ho2
       have hb2 : Below w.heap.size w w2 := hb1.grown hg2 hb1.size (fun j hj => (ho1.lt j hj).1)
       clear hg2 ha2))
  go_ret
  have e : m + n = (a ++ b).length := by rw [List.length_append, HM.out, HN.out]
  rw [e] at ho2 hc2 ⊢
  exact ⟨A2, c2, rfl, ho2, hc2, hm2, hb2⟩

section
variable {S : Nat → Prop} {w : World} {b : Nat} {A1 A2 : Option Addr} {c1 c2 : Nat} {R : Rk}

theorem refAppend_B (h : RefAt S w b A1 c1 A2 c2 R) (B : Option Addr) (l : List UInt8) (cb : Nat) (hl : l.length ≤ 35184372088832) (hr : Rd S w B l) :
    Calls Tryd.prog 123 #[.pointer (some ⟨b, 0, none⟩), .slice B l.length cb] w (RefDid S w (.pointer (some ⟨b, 0, none⟩)) (R.append l)) := by
  obtain ⟨kept, rest, dn⟩ := R
  obtain ⟨d0, d1, d2, z0, z1, z2, hb, hc1, hc2, hok⟩ := h.facts
  cases dn
  · by_cases hf : 4194304 < kept.length + rest.length + l.length
    · have e : (Rk.append ⟨kept, rest, false⟩ l) = (⟨kept, rest, false⟩, 7) := by simp [Rk.append, hf]
      have H := Lib.hid e
      have q1 : IntKind.i64.wrap ((kept.length : Int) + (rest.length : Int)) = (kept.length : Int) + (rest.length : Int) := by rw [IntKind.wrap_i64]; omega
      have q2 : IntKind.i64.wrap ((kept.length : Int) + (rest.length : Int) + (l.length : Int)) = (kept.length : Int) + (rest.length : Int) + (l.length : Int) := by rw [IntKind.wrap_i64]; omega
      have q3 : (4194304 : Int) < (kept.length : Int) + (rest.length : Int) + (l.length : Int) := by omega
      clear e
      go_enter Tryd.func123, Tryd.ntmps123
      go_wp2
      refine wp_region_T #[[], [], [], [], [3], [], [], [], [], [8], [3, 8], [], [], [3, 8], [3, 8]] [3, 8] (fun w' => w'.cell? ⟨b, 0, none⟩ = some (.slice A1 kept.length c1) ∧ w'.cell? ⟨b, 1, none⟩ = some (.slice A2 rest.length c2)) 15 rfl (by kernel_rfl) ?_
      (refine wpAnyT_free (i := 0) rfl (by kernel_rfl) rfl (fun _ _ _ h => h) (by kernel_rfl) (fun _ => by go_simp; try rfl) ?_; (try simp only [Act.put, List.setIfInBounds_toArray, List.set_cons_zero, List.set_cons_succ]))
      (refine wpAnyT_free (i := 1) rfl (by kernel_rfl) rfl (fun _ _ _ h => h) (by kernel_rfl) (fun _ => by go_simp; try rfl) ?_; (try simp only [Act.put, List.setIfInBounds_toArray, List.set_cons_zero, List.set_cons_succ]))
      (refine wpAnyT_free (i := 2) rfl (by kernel_rfl) rfl (fun _ _ _ h => h) (by kernel_rfl) (fun _ => by go_simp; try rfl) ?_; (try simp only [Act.put, List.setIfInBounds_toArray, List.set_cons_zero, List.set_cons_succ]))
      (refine wpAnyT_read (i := 3) rfl (by kernel_rfl) rfl (fun _ _ _ h => h) (by kernel_rfl) (⟨d0, d1⟩) (fun w hS_ => by obtain ⟨s_1, s_2⟩ := hS_; go_simp; try rfl) ?_; (try simp only [Act.put, List.setIfInBounds_toArray, List.set_cons_zero, List.set_cons_succ]))
      (refine wpAnyT_free (i := 4) rfl (by kernel_rfl) rfl (fun _ _ _ h => h) (by kernel_rfl) (fun _ => by go_simp; try rfl) ?_; (try simp only [Act.put, List.setIfInBounds_toArray, List.set_cons_zero, List.set_cons_succ]))
      (refine wpAnyT_free (i := 5) rfl (by kernel_rfl) rfl (fun _ _ _ h => h) (by kernel_rfl) (fun _ => by go_simp; try rfl) ?_; (try simp only [Act.put, List.setIfInBounds_toArray, List.set_cons_zero, List.set_cons_succ]))
      (refine wpAnyT_free (i := 6) rfl (by kernel_rfl) rfl (fun _ _ _ h => h) (by kernel_rfl) (fun _ => by go_simp; try rfl) ?_; (try simp only [Act.put, List.setIfInBounds_toArray, List.set_cons_zero, List.set_cons_succ]))
      (refine wpAnyT_free (i := 7) rfl (by kernel_rfl) rfl (fun _ _ _ h => h) (by kernel_rfl) (fun _ => by go_simp; try rfl) ?_; (try simp only [Act.put, List.setIfInBounds_toArray, List.set_cons_zero, List.set_cons_succ]))
      (refine wpAnyT_read (i := 8) rfl (by kernel_rfl) rfl (fun _ _ _ h => h) (by kernel_rfl) (⟨d0, d1⟩) (fun w hS_ => by obtain ⟨s_1, s_2⟩ := hS_; go_simp; try rfl) ?_; (try simp only [Act.put, List.setIfInBounds_toArray, List.set_cons_zero, List.set_cons_succ]))
      (refine wpAnyT_free (i := 9) rfl (by kernel_rfl) rfl (fun _ _ _ h => h) (by kernel_rfl) (fun _ => by go_simp; try rfl) ?_; (try simp only [Act.put, List.setIfInBounds_toArray, List.set_cons_zero, List.set_cons_succ]))
      (refine wpAnyT_free (i := 10) rfl (by kernel_rfl) rfl (fun _ _ _ h => h) (by kernel_rfl) (fun _ => by go_simp; try rfl) ?_; (try simp only [Act.put, List.setIfInBounds_toArray, List.set_cons_zero, List.set_cons_succ]))
      (refine wpAnyT_free (i := 11) rfl (by kernel_rfl) rfl (fun _ _ _ h => h) (by kernel_rfl) (fun _ => by go_simp; try rfl) ?_; (try simp only [Act.put, List.setIfInBounds_toArray, List.set_cons_zero, List.set_cons_succ]))
      (refine wpAnyT_free (i := 12) rfl (by kernel_rfl) rfl (fun _ _ _ h => h) (by kernel_rfl) (fun _ => by go_simp; try rfl) ?_; (try simp only [Act.put, List.setIfInBounds_toArray, List.set_cons_zero, List.set_cons_succ]))
      (refine wpAnyT_free (i := 13) rfl (by kernel_rfl) rfl (fun _ _ _ h => h) (by kernel_rfl) (fun _ => by go_simp; try rfl) ?_; (try simp only [Act.put, List.setIfInBounds_toArray, List.set_cons_zero, List.set_cons_succ]))
      (refine wpAnyT_free (i := 14) rfl (by kernel_rfl) rfl (fun _ _ _ h => h) (by kernel_rfl) (fun _ => by go_simp; try rfl) ?_; (try simp only [Act.put, List.setIfInBounds_toArray, List.set_cons_zero, List.set_cons_succ]))
      refine wpAnyT_done (by kernel_rfl) ?_ _
      go_wp2
      go_ret
      rw [H.out]
      exact ⟨rfl, (h.drew).same, (Fr.refl _ _).drew⟩
    · have e : (Rk.append ⟨kept, rest, false⟩ l) = (⟨kept, rest ++ l, false⟩, 0) := by simp [Rk.append, hf]
      have H := Lib.hid e
      have q1 : IntKind.i64.wrap ((kept.length : Int) + (rest.length : Int)) = (kept.length : Int) + (rest.length : Int) := by rw [IntKind.wrap_i64]; omega
      have q2 : IntKind.i64.wrap ((kept.length : Int) + (rest.length : Int) + (l.length : Int)) = (kept.length : Int) + (rest.length : Int) + (l.length : Int) := by rw [IntKind.wrap_i64]; omega
      have q3 : ¬ (4194304 : Int) < (kept.length : Int) + (rest.length : Int) + (l.length : Int) := by omega
      clear e
      go_enter Tryd.func123, Tryd.ntmps123
      go_wp2
      refine wp_region_T #[[], [], [], [], [3], [], [], [], [], [8], [3, 8], [], [], [3, 8], [3, 8]] [3, 8] (fun w' => w'.cell? ⟨b, 0, none⟩ = some (.slice A1 kept.length c1) ∧ w'.cell? ⟨b, 1, none⟩ = some (.slice A2 rest.length c2)) 15 rfl (by kernel_rfl) ?_
      (refine wpAnyT_free (i := 0) rfl (by kernel_rfl) rfl (fun _ _ _ h => h) (by kernel_rfl) (fun _ => by go_simp; try rfl) ?_; (try simp only [Act.put, List.setIfInBounds_toArray, List.set_cons_zero, List.set_cons_succ]))
      (refine wpAnyT_free (i := 1) rfl (by kernel_rfl) rfl (fun _ _ _ h => h) (by kernel_rfl) (fun _ => by go_simp; try rfl) ?_; (try simp only [Act.put, List.setIfInBounds_toArray, List.set_cons_zero, List.set_cons_succ]))
      (refine wpAnyT_free (i := 2) rfl (by kernel_rfl) rfl (fun _ _ _ h => h) (by kernel_rfl) (fun _ => by go_simp; try rfl) ?_; (try simp only [Act.put, List.setIfInBounds_toArray, List.set_cons_zero, List.set_cons_succ]))
      (refine wpAnyT_read (i := 3) rfl (by kernel_rfl) rfl (fun _ _ _ h => h) (by kernel_rfl) (⟨d0, d1⟩) (fun w hS_ => by obtain ⟨s_1, s_2⟩ := hS_; go_simp; try rfl) ?_; (try simp only [Act.put, List.setIfInBounds_toArray, List.set_cons_zero, List.set_cons_succ]))
      (refine wpAnyT_free (i := 4) rfl (by kernel_rfl) rfl (fun _ _ _ h => h) (by kernel_rfl) (fun _ => by go_simp; try rfl) ?_; (try simp only [Act.put, List.setIfInBounds_toArray, List.set_cons_zero, List.set_cons_succ]))
      (refine wpAnyT_free (i := 5) rfl (by kernel_rfl) rfl (fun _ _ _ h => h) (by kernel_rfl) (fun _ => by go_simp; try rfl) ?_; (try simp only [Act.put, List.setIfInBounds_toArray, List.set_cons_zero, List.set_cons_succ]))
      (refine wpAnyT_free (i := 6) rfl (by kernel_rfl) rfl (fun _ _ _ h => h) (by kernel_rfl) (fun _ => by go_simp; try rfl) ?_; (try simp only [Act.put, List.setIfInBounds_toArray, List.set_cons_zero, List.set_cons_succ]))
      (refine wpAnyT_free (i := 7) rfl (by kernel_rfl) rfl (fun _ _ _ h => h) (by kernel_rfl) (fun _ => by go_simp; try rfl) ?_; (try simp only [Act.put, List.setIfInBounds_toArray, List.set_cons_zero, List.set_cons_succ]))
      (refine wpAnyT_read (i := 8) rfl (by kernel_rfl) rfl (fun _ _ _ h => h) (by kernel_rfl) (⟨d0, d1⟩) (fun w hS_ => by obtain ⟨s_1, s_2⟩ := hS_; go_simp; try rfl) ?_; (try simp only [Act.put, List.setIfInBounds_toArray, List.set_cons_zero, List.set_cons_succ]))
      (refine wpAnyT_free (i := 9) rfl (by kernel_rfl) rfl (fun _ _ _ h => h) (by kernel_rfl) (fun _ => by go_simp; try rfl) ?_; (try simp only [Act.put, List.setIfInBounds_toArray, List.set_cons_zero, List.set_cons_succ]))
      (refine wpAnyT_free (i := 10) rfl (by kernel_rfl) rfl (fun _ _ _ h => h) (by kernel_rfl) (fun _ => by go_simp; try rfl) ?_; (try simp only [Act.put, List.setIfInBounds_toArray, List.set_cons_zero, List.set_cons_succ]))
      (refine wpAnyT_free (i := 11) rfl (by kernel_rfl) rfl (fun _ _ _ h => h) (by kernel_rfl) (fun _ => by go_simp; try rfl) ?_; (try simp only [Act.put, List.setIfInBounds_toArray, List.set_cons_zero, List.set_cons_succ]))
      (refine wpAnyT_free (i := 12) rfl (by kernel_rfl) rfl (fun _ _ _ h => h) (by kernel_rfl) (fun _ => by go_simp; try rfl) ?_; (try simp only [Act.put, List.setIfInBounds_toArray, List.set_cons_zero, List.set_cons_succ]))
      (refine wpAnyT_free (i := 13) rfl (by kernel_rfl) rfl (fun _ _ _ h => h) (by kernel_rfl) (fun _ => by go_simp; try rfl) ?_; (try simp only [Act.put, List.setIfInBounds_toArray, List.set_cons_zero, List.set_cons_succ]))
      (refine wpAnyT_free (i := 14) rfl (by kernel_rfl) rfl (fun _ _ _ h => h) (by kernel_rfl) (fun _ => by go_simp; try rfl) ?_; (try simp only [Act.put, List.setIfInBounds_toArray, List.set_cons_zero, List.set_cons_succ]))
      refine wpAnyT_done (by kernel_rfl) ?_ _
      clear q1 q2
      have hj := join_B w.drew A2 B rest l c2 cb ((h.own2.rd Non).drew) ((hr.mono (fun _ _ h => h.elim)).drew) (by omega)
      have hJl : (rest ++ l).length ≤ rest.length + l.length := by rw [List.length_append]; omega
      generalize rest ++ l = J at *
      go_wp2_with (go_at_call 134; refine hj.mono ?_; rintro e w1 ⟨A3, c3, rfl, ho3, hc3, hm3, hb3⟩; have h1 := h.drew.below hb3; obtain ⟨d0', d1', d2', z0', z1', z2', hb', -⟩ := h1.facts)
      go_ret
      rw [H.out]
      have F1 : Fr S w (w1.setCell ⟨b, 1, none⟩ (.slice A3 J.length c3)) := ((Fr.refl S w).drew.trans (S' := Non) (Fr.of_below hb3) (fun _ h => h.elim)).setCell (p := ⟨b, 1, none⟩) (.inl h.inS) h.notB _
      have F2 : Fr S w1 (w1.setCell ⟨b, 1, none⟩ (.slice A3 J.length c3)) := (Fr.refl S w1).setCell (p := ⟨b, 1, none⟩) (.inl h.inS) h1.notB _
      refine ⟨rfl, h.turned F1 (A1' := A1) (c1' := c1) (A2' := A3) (c2' := c3) (R' := ⟨kept, J, false⟩) (by simpa using h1.blk.set 1 (.slice A3 J.length c3)) ((h1.own1.fr F2).mono fun _ => .inl) (((Own.of_row' ho3).fr F2).up fun x hx => .inr hx) hc1 hc3 ?_, F1⟩
      show kept.length + J.length ≤ _
      omega
  · have e : (Rk.append ⟨kept, rest, true⟩ l) = (⟨kept, rest, true⟩, 10) := by simp [Rk.append]
    have H := Lib.hid e
    clear e
    go_enter Tryd.func123, Tryd.ntmps123
    go_wp2
    go_ret
    rw [H.out]
    exact ⟨rfl, h.same, Fr.refl _ _⟩

theorem refSync_B (h : RefAt S w b A1 c1 A2 c2 R) :
    Calls Tryd.prog 124 #[.pointer (some ⟨b, 0, none⟩)] w (RefDid S w (.pointer (some ⟨b, 0, none⟩)) R.sync) := by
  obtain ⟨kept, rest, dn⟩ := R
  obtain ⟨d0, d1, d2, z0, z1, z2, hb, hc1, hc2, hok⟩ := h.facts
  cases dn
  · have e : (Rk.sync ⟨kept, rest, false⟩) = (⟨kept ++ rest, [], false⟩, 0) := by simp [Rk.sync]
    have H := Lib.hid e
    clear e
    have hj := join_B w.drew A1 A2 kept rest c1 c2 ((h.own1.rd Non).drew) ((h.own2.rd Non).drew) (by omega)
    have hJl : (kept ++ rest).length ≤ kept.length + rest.length := by rw [List.length_append]; omega
    generalize kept ++ rest = J at *
    go_enter Tryd.func124, Tryd.ntmps124
    go_wp2
    refine wp_region_T #[[], [], [], [], [], [], [], [], [], [4, 8], [4, 8], [4, 8], [4, 8]] [4, 8] (fun w' => w'.cell? ⟨b, 0, none⟩ = some (.slice A1 kept.length c1) ∧ w'.cell? ⟨b, 1, none⟩ = some (.slice A2 rest.length c2)) 13 rfl (by kernel_rfl) ?_
    (refine wpAnyT_free (i := 0) rfl (by kernel_rfl) rfl (fun _ _ _ h => h) (by kernel_rfl) (fun _ => by go_simp; try rfl) ?_; (try simp only [Act.put, List.setIfInBounds_toArray, List.set_cons_zero, List.set_cons_succ]))
    (refine wpAnyT_free (i := 1) rfl (by kernel_rfl) rfl (fun _ _ _ h => h) (by kernel_rfl) (fun _ => by go_simp; try rfl) ?_; (try simp only [Act.put, List.setIfInBounds_toArray, List.set_cons_zero, List.set_cons_succ]))
    (refine wpAnyT_free (i := 2) rfl (by kernel_rfl) rfl (fun _ _ _ h => h) (by kernel_rfl) (fun _ => by go_simp; try rfl) ?_; (try simp only [Act.put, List.setIfInBounds_toArray, List.set_cons_zero, List.set_cons_succ]))
    (refine wpAnyT_free (i := 3) rfl (by kernel_rfl) rfl (fun _ _ _ h => h) (by kernel_rfl) (fun _ => by go_simp; try rfl) ?_; (try simp only [Act.put, List.setIfInBounds_toArray, List.set_cons_zero, List.set_cons_succ]))
    (refine wpAnyT_read (i := 4) rfl (by kernel_rfl) rfl (fun _ _ _ h => h) (by kernel_rfl) (⟨d0, d1⟩) (fun w hS_ => by obtain ⟨s_1, s_2⟩ := hS_; go_simp; try rfl) ?_; (try simp only [Act.put, List.setIfInBounds_toArray, List.set_cons_zero, List.set_cons_succ]))
    (refine wpAnyT_free (i := 5) rfl (by kernel_rfl) rfl (fun _ _ _ h => h) (by kernel_rfl) (fun _ => by go_simp; try rfl) ?_; (try simp only [Act.put, List.setIfInBounds_toArray, List.set_cons_zero, List.set_cons_succ]))
    (refine wpAnyT_free (i := 6) rfl (by kernel_rfl) rfl (fun _ _ _ h => h) (by kernel_rfl) (fun _ => by go_simp; try rfl) ?_; (try simp only [Act.put, List.setIfInBounds_toArray, List.set_cons_zero, List.set_cons_succ]))
    (refine wpAnyT_free (i := 7) rfl (by kernel_rfl) rfl (fun _ _ _ h => h) (by kernel_rfl) (fun _ => by go_simp; try rfl) ?_; (try simp only [Act.put, List.setIfInBounds_toArray, List.set_cons_zero, List.set_cons_succ]))
    (refine wpAnyT_read (i := 8) rfl (by kernel_rfl) rfl (fun _ _ _ h => h) (by kernel_rfl) (⟨d0, d1⟩) (fun w hS_ => by obtain ⟨s_1, s_2⟩ := hS_; go_simp; try rfl) ?_; (try simp only [Act.put, List.setIfInBounds_toArray, List.set_cons_zero, List.set_cons_succ]))
    refine wpAnyT_sink (i := 9) rfl (by kernel_rfl) rfl (by kernel_rfl) ?_
    intro K_ hK_
    go_wp2_with ((go_at_call 134; refine hj.mono ?_; rintro e w1 ⟨A3, c3, rfl, ho3, hc3, hm3, hb3⟩; have h1 := h.drew.below hb3; obtain ⟨d0', d1', d2', z0', z1', z2', hb', -⟩ := h1.facts))
    (try (refine hK_ _ _ ?_; clear hK_ K_))
    (try simp only [Act.put, List.setIfInBounds_toArray, List.set_cons_zero, List.set_cons_succ])
    (refine wpAnyT_free (i := 10) rfl (by kernel_rfl) rfl (fun _ _ _ h => h) (by kernel_rfl) (fun _ => by go_simp; try rfl) ?_; (try simp only [Act.put, List.setIfInBounds_toArray, List.set_cons_zero, List.set_cons_succ]))
    (refine wpAnyT_free (i := 11) rfl (by kernel_rfl) rfl (fun _ _ _ h => h) (by kernel_rfl) (fun _ => by go_simp; try rfl) ?_; (try simp only [Act.put, List.setIfInBounds_toArray, List.set_cons_zero, List.set_cons_succ]))
    refine wpAnyT_sink (i := 12) rfl (by kernel_rfl) rfl (by kernel_rfl) ?_
    intro K_ hK_
    go_wp2
    (try (refine hK_ _ _ ?_; clear hK_ K_))
    (try simp only [Act.put, List.setIfInBounds_toArray, List.set_cons_zero, List.set_cons_succ])
    refine wpAnyT_done (by kernel_rfl) ?_ _
    have h2 := h1.blk.set 0 (.slice A3 J.length c3)
    have z1'' := h2.frozen 1
    go_wp2
    go_ret
    rw [H.out]
    have F1 : Fr S w ((w1.setCell ⟨b, 0, none⟩ (.slice A3 J.length c3)).setCell ⟨b, 1, none⟩ (.slice none 0 0)) := (((Fr.refl S w).drew.trans (S' := Non) (Fr.of_below hb3) (fun _ h => h.elim)).setCell (p := ⟨b, 0, none⟩) (.inl h.inS) h.notB _).setCell (p := ⟨b, 1, none⟩) (.inl h.inS) h.notB _
    have F2 : Fr S w1 ((w1.setCell ⟨b, 0, none⟩ (.slice A3 J.length c3)).setCell ⟨b, 1, none⟩ (.slice none 0 0)) := ((Fr.refl S w1).setCell (p := ⟨b, 0, none⟩) (.inl h.inS) h1.notB _).setCell (p := ⟨b, 1, none⟩) (.inl h.inS) h1.notB _
    refine ⟨rfl, h.turned F1 (A1' := A3) (c1' := c3) (A2' := none) (c2' := 0) (R' := ⟨J, [], false⟩) (by simpa using h2.set 1 (.slice none 0 0)) (((Own.of_row' ho3).fr F2).up fun x hx => .inr hx) (Own.nil _ _ _) hc3 (Nat.le_refl _) ?_, F1⟩
    show J.length + 0 ≤ _
    omega
  · have e : (Rk.sync ⟨kept, rest, true⟩) = (⟨kept, rest, true⟩, 10) := by simp [Rk.sync]
    have H := Lib.hid e
    clear e
    go_enter Tryd.func124, Tryd.ntmps124
    go_wp2
    go_ret
    rw [H.out]
    exact ⟨rfl, h.same, Fr.refl _ _⟩

theorem refRestart_B (h : RefAt S w b A1 c1 A2 c2 R) :
    Calls Tryd.prog 126 #[.pointer (some ⟨b, 0, none⟩)] w (RefDid S w (.pointer (some ⟨b, 0, none⟩)) R.restart) := by
  obtain ⟨kept, rest, dn⟩ := R
  obtain ⟨d0, d1, d2, z0, z1, z2, hb, hc1, hc2, hok⟩ := h.facts
  cases dn
  · have e : (Rk.restart ⟨kept, rest, false⟩) = (⟨kept, rest, false⟩, 9) := by simp [Rk.restart]
    have H := Lib.hid e
    clear e
    go_enter Tryd.func126, Tryd.ntmps126
    go_wp2
    go_ret
    rw [H.out]
    exact ⟨rfl, h.same, Fr.refl _ _⟩
  · have e : (Rk.restart ⟨kept, rest, true⟩) = (⟨kept ++ rest, [], false⟩, 0) := by simp [Rk.restart]
    have H := Lib.hid e
    clear e
    have F0 : Fr S w (w.setCell ⟨b, 2, none⟩ (.bool false)) := (Fr.refl S w).setCell (p := ⟨b, 2, none⟩) (.inl h.inS) h.notB _
    have h0 : RefAt S (w.setCell ⟨b, 2, none⟩ (.bool false)) b A1 c1 A2 c2 ⟨kept, rest, false⟩ :=
      ⟨by simpa using h.blk.set 2 (.bool false), h.own1.fr F0, h.own2.fr F0, h.inS, by simpa [World.setCell] using h.lt, hc1, hc2, hok⟩
    have hj := join_B (w.setCell ⟨b, 2, none⟩ (.bool false)).drew A1 A2 kept rest c1 c2 ((h0.own1.rd Non).drew) ((h0.own2.rd Non).drew) (by omega)
    have hJl : (kept ++ rest).length ≤ kept.length + rest.length := by rw [List.length_append]; omega
    generalize kept ++ rest = J at *
    go_enter Tryd.func126, Tryd.ntmps126
    go_wp2
    generalize w.setCell ⟨b, 2, none⟩ (.bool false) = w0 at *
    clear d0 d1 d2 z0 z1 z2
    obtain ⟨d0, d1, d2, z0, z1, z2, -⟩ := h0.facts
    refine wp_region_T #[[], [], [], [], [], [], [], [], [], [4, 8], [4, 8], [4, 8], [4, 8]] [4, 8] (fun w' => w'.cell? ⟨b, 0, none⟩ = some (.slice A1 kept.length c1) ∧ w'.cell? ⟨b, 1, none⟩ = some (.slice A2 rest.length c2)) 13 rfl (by kernel_rfl) ?_
    (refine wpAnyT_free (i := 0) rfl (by kernel_rfl) rfl (fun _ _ _ h => h) (by kernel_rfl) (fun _ => by go_simp; try rfl) ?_; (try simp only [Act.put, List.setIfInBounds_toArray, List.set_cons_zero, List.set_cons_succ]))
    (refine wpAnyT_free (i := 1) rfl (by kernel_rfl) rfl (fun _ _ _ h => h) (by kernel_rfl) (fun _ => by go_simp; try rfl) ?_; (try simp only [Act.put, List.setIfInBounds_toArray, List.set_cons_zero, List.set_cons_succ]))
    (refine wpAnyT_free (i := 2) rfl (by kernel_rfl) rfl (fun _ _ _ h => h) (by kernel_rfl) (fun _ => by go_simp; try rfl) ?_; (try simp only [Act.put, List.setIfInBounds_toArray, List.set_cons_zero, List.set_cons_succ]))
    (refine wpAnyT_free (i := 3) rfl (by kernel_rfl) rfl (fun _ _ _ h => h) (by kernel_rfl) (fun _ => by go_simp; try rfl) ?_; (try simp only [Act.put, List.setIfInBounds_toArray, List.set_cons_zero, List.set_cons_succ]))
    (refine wpAnyT_read (i := 4) rfl (by kernel_rfl) rfl (fun _ _ _ h => h) (by kernel_rfl) (⟨d0, d1⟩) (fun w hS_ => by obtain ⟨s_1, s_2⟩ := hS_; go_simp; try rfl) ?_; (try simp only [Act.put, List.setIfInBounds_toArray, List.set_cons_zero, List.set_cons_succ]))
    (refine wpAnyT_free (i := 5) rfl (by kernel_rfl) rfl (fun _ _ _ h => h) (by kernel_rfl) (fun _ => by go_simp; try rfl) ?_; (try simp only [Act.put, List.setIfInBounds_toArray, List.set_cons_zero, List.set_cons_succ]))
    (refine wpAnyT_free (i := 6) rfl (by kernel_rfl) rfl (fun _ _ _ h => h) (by kernel_rfl) (fun _ => by go_simp; try rfl) ?_; (try simp only [Act.put, List.setIfInBounds_toArray, List.set_cons_zero, List.set_cons_succ]))
    (refine wpAnyT_free (i := 7) rfl (by kernel_rfl) rfl (fun _ _ _ h => h) (by kernel_rfl) (fun _ => by go_simp; try rfl) ?_; (try simp only [Act.put, List.setIfInBounds_toArray, List.set_cons_zero, List.set_cons_succ]))
    (refine wpAnyT_read (i := 8) rfl (by kernel_rfl) rfl (fun _ _ _ h => h) (by kernel_rfl) (⟨d0, d1⟩) (fun w hS_ => by obtain ⟨s_1, s_2⟩ := hS_; go_simp; try rfl) ?_; (try simp only [Act.put, List.setIfInBounds_toArray, List.set_cons_zero, List.set_cons_succ]))
    refine wpAnyT_sink (i := 9) rfl (by kernel_rfl) rfl (by kernel_rfl) ?_
    intro K_ hK_
    go_wp2_with ((go_at_call 134; refine hj.mono ?_; rintro e w1 ⟨A3, c3, rfl, ho3, hc3, hm3, hb3⟩; have h1 := h0.drew.below hb3; obtain ⟨d0', d1', d2', z0', z1', z2', hb', -⟩ := h1.facts))
    (try (refine hK_ _ _ ?_; clear hK_ K_))
    (try simp only [Act.put, List.setIfInBounds_toArray, List.set_cons_zero, List.set_cons_succ])
    (refine wpAnyT_free (i := 10) rfl (by kernel_rfl) rfl (fun _ _ _ h => h) (by kernel_rfl) (fun _ => by go_simp; try rfl) ?_; (try simp only [Act.put, List.setIfInBounds_toArray, List.set_cons_zero, List.set_cons_succ]))
    (refine wpAnyT_free (i := 11) rfl (by kernel_rfl) rfl (fun _ _ _ h => h) (by kernel_rfl) (fun _ => by go_simp; try rfl) ?_; (try simp only [Act.put, List.setIfInBounds_toArray, List.set_cons_zero, List.set_cons_succ]))
    refine wpAnyT_sink (i := 12) rfl (by kernel_rfl) rfl (by kernel_rfl) ?_
    intro K_ hK_
    go_wp2
    (try (refine hK_ _ _ ?_; clear hK_ K_))
    (try simp only [Act.put, List.setIfInBounds_toArray, List.set_cons_zero, List.set_cons_succ])
    refine wpAnyT_done (by kernel_rfl) ?_ _
    have h2 := h1.blk.set 0 (.slice A3 J.length c3)
    have z1'' := h2.frozen 1
    go_wp2
    go_ret
    rw [H.out]
    have F1 : Fr S w ((w1.setCell ⟨b, 0, none⟩ (.slice A3 J.length c3)).setCell ⟨b, 1, none⟩ (.slice none 0 0)) := ((F0.drew.trans (S' := Non) (Fr.of_below hb3) (fun _ h => h.elim)).setCell (p := ⟨b, 0, none⟩) (.inl h.inS) h.notB _).setCell (p := ⟨b, 1, none⟩) (.inl h.inS) h.notB _
    have F2 : Fr S w1 ((w1.setCell ⟨b, 0, none⟩ (.slice A3 J.length c3)).setCell ⟨b, 1, none⟩ (.slice none 0 0)) := ((Fr.refl S w1).setCell (p := ⟨b, 0, none⟩) (.inl h.inS) h1.notB _).setCell (p := ⟨b, 1, none⟩) (.inl h.inS) h1.notB _
    refine ⟨rfl, h.turned F1 (A1' := A3) (c1' := c3) (A2' := none) (c2' := 0) (R' := ⟨J, [], false⟩) (by simpa using h2.set 1 (.slice none 0 0)) (((Own.of_row' ho3).fr F2).up fun x hx => .inr (Nat.le_trans F0.size hx)) (Own.nil _ _ _) hc3 (Nat.le_refl _) ?_, F1⟩
    show J.length + 0 ≤ _
    omega

theorem refCut_B (h : RefAt S w b A1 c1 A2 c2 R) (n : Int) :
    Calls Tryd.prog 127 #[.pointer (some ⟨b, 0, none⟩), .int .i64 n] w (RefDid S w (.pointer (some ⟨b, 0, none⟩)) (R.cut n)) := by
  obtain ⟨kept, rest, dn⟩ := R
  obtain ⟨d0, d1, d2, z0, z1, z2, hb, hc1, hc2, hok⟩ := h.facts
  cases dn
  · have hj := join_B w.drew A1 A2 kept rest c1 c2 ((h.own1.rd Non).drew) ((h.own2.rd Non).drew) (by omega)
    have hJl : (kept ++ rest).length ≤ kept.length + rest.length := by rw [List.length_append]; omega
    by_cases hn : n < 0 ∨ ((kept ++ rest).length : Int) < n
    · have e : (Rk.cut ⟨kept, rest, false⟩ n) = (⟨kept, rest, false⟩, 2) := by
        unfold Rk.cut; rw [if_neg (by simp), if_pos hn]
      have H := Lib.hid e
      clear e
      generalize kept ++ rest = J at *
      by_cases hn0 : n < 0
      all_goals
        have hn1 : ¬ n < 0 → (J.length : Int) < n := fun h => hn.resolve_left h
        have HN := Lib.hid hn1
        clear hn hn1
        go_enter Tryd.func127, Tryd.ntmps127
        go_wp2
        refine wp_region_T #[[], [], [], [], [], [], [], [], [3, 7], [3, 7]] [3, 7] (fun w' => w'.cell? ⟨b, 0, none⟩ = some (.slice A1 kept.length c1) ∧ w'.cell? ⟨b, 1, none⟩ = some (.slice A2 rest.length c2)) 10 rfl (by kernel_rfl) ?_
        (refine wpAnyT_free (i := 0) rfl (by kernel_rfl) rfl (fun _ _ _ h => h) (by kernel_rfl) (fun _ => by go_simp; try rfl) ?_; (try simp only [Act.put, List.setIfInBounds_toArray, List.set_cons_zero, List.set_cons_succ]))
        (refine wpAnyT_free (i := 1) rfl (by kernel_rfl) rfl (fun _ _ _ h => h) (by kernel_rfl) (fun _ => by go_simp; try rfl) ?_; (try simp only [Act.put, List.setIfInBounds_toArray, List.set_cons_zero, List.set_cons_succ]))
        (refine wpAnyT_free (i := 2) rfl (by kernel_rfl) rfl (fun _ _ _ h => h) (by kernel_rfl) (fun _ => by go_simp; try rfl) ?_; (try simp only [Act.put, List.setIfInBounds_toArray, List.set_cons_zero, List.set_cons_succ]))
        (refine wpAnyT_read (i := 3) rfl (by kernel_rfl) rfl (fun _ _ _ h => h) (by kernel_rfl) (⟨d0, d1⟩) (fun w hS_ => by obtain ⟨s_1, s_2⟩ := hS_; go_simp; try rfl) ?_; (try simp only [Act.put, List.setIfInBounds_toArray, List.set_cons_zero, List.set_cons_succ]))
        (refine wpAnyT_free (i := 4) rfl (by kernel_rfl) rfl (fun _ _ _ h => h) (by kernel_rfl) (fun _ => by go_simp; try rfl) ?_; (try simp only [Act.put, List.setIfInBounds_toArray, List.set_cons_zero, List.set_cons_succ]))
        (refine wpAnyT_free (i := 5) rfl (by kernel_rfl) rfl (fun _ _ _ h => h) (by kernel_rfl) (fun _ => by go_simp; try rfl) ?_; (try simp only [Act.put, List.setIfInBounds_toArray, List.set_cons_zero, List.set_cons_succ]))
        (refine wpAnyT_free (i := 6) rfl (by kernel_rfl) rfl (fun _ _ _ h => h) (by kernel_rfl) (fun _ => by go_simp; try rfl) ?_; (try simp only [Act.put, List.setIfInBounds_toArray, List.set_cons_zero, List.set_cons_succ]))
        (refine wpAnyT_read (i := 7) rfl (by kernel_rfl) rfl (fun _ _ _ h => h) (by kernel_rfl) (⟨d0, d1⟩) (fun w hS_ => by obtain ⟨s_1, s_2⟩ := hS_; go_simp; try rfl) ?_; (try simp only [Act.put, List.setIfInBounds_toArray, List.set_cons_zero, List.set_cons_succ]))
        refine wpAnyT_sink (i := 8) rfl (by kernel_rfl) rfl (by kernel_rfl) ?_
        intro K_ hK_
        go_wp2_with ((go_at_call 134; refine hj.mono ?_; rintro e w1 ⟨A3, c3, rfl, ho3, hc3, hm3, hb3⟩; have h1 := h.drew.below hb3))
        (try (refine hK_ _ _ ?_; clear hK_ K_))
        (try simp only [Act.put, List.setIfInBounds_toArray, List.set_cons_zero, List.set_cons_succ])
        (refine wpAnyT_free (i := 9) rfl (by kernel_rfl) rfl (fun _ _ _ h => h) (by kernel_rfl) (fun _ => by go_simp; try rfl) ?_; (try simp only [Act.put, List.setIfInBounds_toArray, List.set_cons_zero, List.set_cons_succ]))
        refine wpAnyT_done (by kernel_rfl) ?_ _
        try have hn2 := HN.out hn0
        go_wp2
        go_ret
        rw [H.out]
        exact ⟨rfl, h1.up, (Fr.refl S w).drew.trans (S' := Non) (Fr.of_below hb3) (fun _ h => h.elim)⟩
    · obtain ⟨m, rfl⟩ : ∃ m : Nat, n = m := ⟨n.toNat, by omega⟩
      have e : (Rk.cut ⟨kept, rest, false⟩ m) = (⟨(kept ++ rest).take m, [], false⟩, 0) := by
        unfold Rk.cut; rw [if_neg (by simp), if_neg hn]; rfl
      have H := Lib.hid e
      clear e
      generalize kept ++ rest = J at *
      have hm0 : (m : Int) ≤ (J.length : Int) := by omega
      have em : (J.take m).length = m := by rw [List.length_take]; omega
      have EM := Lib.hid em
      clear hn em
      go_enter Tryd.func127, Tryd.ntmps127
      go_wp2
      refine wp_region_T #[[], [], [], [], [], [], [], [], [3, 7], [3, 7]] [3, 7] (fun w' => w'.cell? ⟨b, 0, none⟩ = some (.slice A1 kept.length c1) ∧ w'.cell? ⟨b, 1, none⟩ = some (.slice A2 rest.length c2)) 10 rfl (by kernel_rfl) ?_
      (refine wpAnyT_free (i := 0) rfl (by kernel_rfl) rfl (fun _ _ _ h => h) (by kernel_rfl) (fun _ => by go_simp; try rfl) ?_; (try simp only [Act.put, List.setIfInBounds_toArray, List.set_cons_zero, List.set_cons_succ]))
      (refine wpAnyT_free (i := 1) rfl (by kernel_rfl) rfl (fun _ _ _ h => h) (by kernel_rfl) (fun _ => by go_simp; try rfl) ?_; (try simp only [Act.put, List.setIfInBounds_toArray, List.set_cons_zero, List.set_cons_succ]))
      (refine wpAnyT_free (i := 2) rfl (by kernel_rfl) rfl (fun _ _ _ h => h) (by kernel_rfl) (fun _ => by go_simp; try rfl) ?_; (try simp only [Act.put, List.setIfInBounds_toArray, List.set_cons_zero, List.set_cons_succ]))
      (refine wpAnyT_read (i := 3) rfl (by kernel_rfl) rfl (fun _ _ _ h => h) (by kernel_rfl) (⟨d0, d1⟩) (fun w hS_ => by obtain ⟨s_1, s_2⟩ := hS_; go_simp; try rfl) ?_; (try simp only [Act.put, List.setIfInBounds_toArray, List.set_cons_zero, List.set_cons_succ]))
      (refine wpAnyT_free (i := 4) rfl (by kernel_rfl) rfl (fun _ _ _ h => h) (by kernel_rfl) (fun _ => by go_simp; try rfl) ?_; (try simp only [Act.put, List.setIfInBounds_toArray, List.set_cons_zero, List.set_cons_succ]))
      (refine wpAnyT_free (i := 5) rfl (by kernel_rfl) rfl (fun _ _ _ h => h) (by kernel_rfl) (fun _ => by go_simp; try rfl) ?_; (try simp only [Act.put, List.setIfInBounds_toArray, List.set_cons_zero, List.set_cons_succ]))
      (refine wpAnyT_free (i := 6) rfl (by kernel_rfl) rfl (fun _ _ _ h => h) (by kernel_rfl) (fun _ => by go_simp; try rfl) ?_; (try simp only [Act.put, List.setIfInBounds_toArray, List.set_cons_zero, List.set_cons_succ]))
      (refine wpAnyT_read (i := 7) rfl (by kernel_rfl) rfl (fun _ _ _ h => h) (by kernel_rfl) (⟨d0, d1⟩) (fun w hS_ => by obtain ⟨s_1, s_2⟩ := hS_; go_simp; try rfl) ?_; (try simp only [Act.put, List.setIfInBounds_toArray, List.set_cons_zero, List.set_cons_succ]))
      refine wpAnyT_sink (i := 8) rfl (by kernel_rfl) rfl (by kernel_rfl) ?_
      intro K_ hK_
      go_wp2_with ((go_at_call 134; refine hj.mono ?_; rintro e w1 ⟨A3, c3, rfl, ho3, hc3, hm3, hb3⟩; have h1 := h.drew.below hb3; obtain ⟨d0', d1', d2', z0', z1', z2', hb', -⟩ := h1.facts))
      (try (refine hK_ _ _ ?_; clear hK_ K_))
      (try simp only [Act.put, List.setIfInBounds_toArray, List.set_cons_zero, List.set_cons_succ])
      (refine wpAnyT_free (i := 9) rfl (by kernel_rfl) rfl (fun _ _ _ h => h) (by kernel_rfl) (fun _ => by go_simp; try rfl) ?_; (try simp only [Act.put, List.setIfInBounds_toArray, List.set_cons_zero, List.set_cons_succ]))
      refine wpAnyT_done (by kernel_rfl) ?_ _
      have h2 := h1.blk.set 0 (.slice A3 m c3)
      have z1'' := h2.frozen 1
      have hm1 : (m : Int) ≤ (c3 : Int) := by omega
      have hm2 : (0 : Int) ≤ (m : Int) := by omega
      go_wp2
      go_ret
      rw [H.out]
      have F1 : Fr S w ((w1.setCell ⟨b, 0, none⟩ (.slice A3 m c3)).setCell ⟨b, 1, none⟩ (.slice none 0 0)) := (((Fr.refl S w).drew.trans (S' := Non) (Fr.of_below hb3) (fun _ h => h.elim)).setCell (p := ⟨b, 0, none⟩) (.inl h.inS) h.notB _).setCell (p := ⟨b, 1, none⟩) (.inl h.inS) h.notB _
      have F2 : Fr S w1 ((w1.setCell ⟨b, 0, none⟩ (.slice A3 m c3)).setCell ⟨b, 1, none⟩ (.slice none 0 0)) := ((Fr.refl S w1).setCell (p := ⟨b, 0, none⟩) (.inl h.inS) h1.notB _).setCell (p := ⟨b, 1, none⟩) (.inl h.inS) h1.notB _
      refine ⟨rfl, h.turned F1 (A1' := A3) (c1' := c3) (A2' := none) (c2' := 0) (R' := ⟨J.take m, [], false⟩) (by rw [EM.out]; simpa using h2.set 1 (.slice none 0 0)) ((((Own.of_row' ho3).take m).fr F2).up fun x hx => .inr hx) (Own.nil _ _ _) (by rw [EM.out]; omega) (Nat.le_refl _) ?_, F1⟩
      show (J.take m).length + 0 ≤ _
      rw [EM.out]; omega
  · have e : (Rk.cut ⟨kept, rest, true⟩ n) = (⟨kept, rest, true⟩, 10) := by simp [Rk.cut]
    have H := Lib.hid e
    clear e
    go_enter Tryd.func127, Tryd.ntmps127
    go_wp2
    go_ret
    rw [H.out]
    exact ⟨rfl, h.same, Fr.refl _ _⟩

/-- what stands behind the first q bits of the document's loop -/
def upto (l : List UInt8) (flip : Int) (q : Nat) : List UInt8 := if 0 ≤ flip ∧ flip < q then turn l flip.toNat else l
theorem length_upto (l : List UInt8) (flip : Int) (q : Nat) : (upto l flip q).length = l.length := by
  unfold upto; split
  · exact length_turn _ _
  · rfl
theorem upto_end (l : List UInt8) (flip : Int) : upto l flip (8 * l.length) = if 0 ≤ flip then turn l flip.toNat else l := by
  unfold upto
  by_cases h : 0 ≤ flip
  · rw [if_pos h]
    by_cases h2 : flip < (8 * l.length : Nat)
    · rw [if_pos ⟨h, h2⟩]
    · rw [if_neg (fun h => h2 h.2)]
      unfold turn
      rw [List.modify_eq_self (by omega)]
  · rw [if_neg h, if_neg (fun hh => h hh.1)]
theorem upto_no (l : List UInt8) (flip : Int) (q : Nat) (h : flip ≠ q) : upto l flip (q + 1) = upto l flip q := by
  unfold upto
  by_cases h2 : 0 ≤ flip ∧ flip < q
  · rw [if_pos h2, if_pos ⟨h2.1, by omega⟩]
  · rw [if_neg h2, if_neg (by omega)]
theorem upto_yes (l : List UInt8) (p q : Nat) (x : UInt8) (hq : q < 8) (hx : l[p]? = some x) : upto l ((8 * p + q : Nat) : Int) (8 * p + q) = l ∧ upto l ((8 * p + q : Nat) : Int) (8 * p + q + 1) = l.set p (turnByte x q) := by
  refine ⟨by unfold upto; rw [if_neg (by omega)], ?_⟩
  unfold upto turn
  rw [if_pos (by omega), Int.toNat_natCast, show (8 * p + q) / 8 = p by omega, show (8 * p + q) % 8 = q by omega]
  apply List.ext_getElem?
  intro i
  rw [List.getElem?_modify, List.getElem?_set]
  by_cases h : p = i
  · subst h
    have := (List.getElem?_eq_some_iff.1 hx).1
    rw [hx, if_pos rfl, if_pos this]
    simp
  · simp [h]
theorem ownsRow_take {w : World} {base n n' c : Nat} {A : Option Addr} {l : List UInt8} (h : w.ownsRow base TB 1 (.slice A n c) n (l.map byteV)) (hn : n' ≤ n) : w.ownsRow base TB 1 (.slice A n' c) n' ((l.take n').map byteV) := by
  have hl : (l.map byteV).length = n := by simpa using h.1
  rw [List.length_map] at hl
  refine ⟨by rw [List.length_map, List.length_take]; omega, ?_⟩
  rcases h.2 with ⟨hv, h0⟩ | ⟨g, cap, cur, hv, hb, hg, hnc, hm, hs, ht⟩
  · obtain rfl : n' = 0 := by omega
    injection hv with h1 h2 h3
    subst h1 h3
    exact .inl ⟨rfl, rfl⟩
  · injection hv with h1 h2 h3
    subst h1 h3
    refine .inr ⟨g, c, cur, rfl, hb, hg, by omega, hm, hs, ?_⟩
    rw [Nat.mul_one] at ht ⊢
    have := congrArg (List.take n') ht
    rw [List.take_take, Nat.min_eq_left hn] at this
    rw [this, List.map_take]
theorem rbits_all : ∀ (x : Fin 256) (k : Fin 8), bits .xor .u8 (x.val : Int) (2 ^ min k.val 8 % 256) = ((UInt8.ofNat x.val ^^^ UInt8.ofNat (2 ^ k.val)).toNat : Int) := by decide +kernel
theorem rbits (x : UInt8) (k : Nat) (hk : k < 8) : Value.int .u8 (bits .xor .u8 (x.toNat : Int) (2 ^ min k 8 % 256)) = byteV (turnByte x k) := by
  have := rbits_all ⟨x.toNat, x.toNat_lt⟩ ⟨k, hk⟩
  simp only [UInt8.ofNat_toNat] at this
  rw [this]; rfl
end
end Go.Proofs.YtediidajdpdeiaaDoor
