/- A log and the document's log side by side (layer 7), in memory. -/
import Derived.Test.YtediidajdpdeiaaDoorJ12
import Derived.Test.YtediidajdpdeiaaDoorJ16
import Derived.Test.YtediidajdpdeiaaDoorJ18
import Derived.Test.YtediidajdpdeiaaDoorJ0
import Derived.Test.YtediidajdpdeiaaDoorRows
import Derived.Test.YtediidajdpdeiaaDoorTie
import Derived.Test.YtediidajdpdeiaaDoorJ15
import Derived.Test.YtediidajdpdeiaaDoorJ1
import Derived.JoinedCond
import Derived.Lib.SmallJoins
import Derived.Lib.LaidTab
import Derived.Lay
import Derived.LaidOnce
import Derived.SevenTiedAt

namespace Go.Proofs.YtediidajdpdeiaaDoor
open Go.RowKit CrcM
set_option maxRecDepth 100000

/-- a log b and the document's log r, each for itself, newer than the law's beginning -/
def BothG (W w : World) (b r : Nat) (L : Lg) (R : Rg) : Prop := ∃ T H A c ps, LiveG W w b L T ∧ RlogO T H w r A c ps R ∧ ∀ x, T x → W.heap.size ≤ x

section
variable {W w w' : World} {b r : Nat} {L : Lg} {R : Rg} {X : Nat → Prop}
theorem RlogO.keep {T H : Nat → Prop} {A : Option Addr} {c : Nat} {ps : List Nat} (h : RlogO T H w r A c ps R) (hk : ∀ x, T x → w'.heap[x]? = w.heap[x]?) (hs : ∀ x, T x → x < w'.heap.size) : RlogO T H w' r A c ps R := by
  refine ⟨h.hS, h.hb, h.blk.eq (hk _ (h.hS _ h.hb)), h.row.same (fun x hx => hk x (h.hS x hx)), ?_, hs, h.per, h.few, h.small⟩
  obtain ⟨F, h1, h2, h3, h4⟩ := h.disks
  refine ⟨F, fun i x hx => ⟨(h1 i x hx).1, (h1 i x hx).2.1, hs x (h1 i x hx).1⟩, fun i j x n p q => (h2 i j x n p q).eq (hk x (h1 i x p).1), h3, fun i p g hp hg => ?_⟩
  obtain ⟨A1, c1, A2, c2, hr⟩ := h4 i p g hp hg
  have hF : ∀ x, F i x → w'.heap[x]? = w.heap[x]? := fun x hx => hk x (h1 i x hx).1
  have hO : ∀ {A : Option Addr} {l : List UInt8}, Own (F i) w A l → Own (F i) w' A l := fun h j x hx => by
    obtain ⟨ad, e, hc, hb, hS⟩ := h j x hx
    exact ⟨ad, e, (cell_eq (by rw [add_block]; exact hF _ hS)).trans hc, hb.eq (hF _ hS), hS⟩
  exact ⟨A1, c1, A2, c2, hr.blk.eq (hF _ hr.inS), hO hr.own1, hO hr.own2, hr.inS, fun x hx => hs x (h1 i x hx).1, hr.cap1, hr.cap2, hr.ok⟩
theorem BothG.below (h : BothG W w b r L R) : Below W.heap.size W w := by
  obtain ⟨T, H, A, c, ps, h1, -⟩ := h
  exact h1.below
theorem BothG.mono (h : BothG W w b r L R) (f : Below w.heap.size w w') : BothG W w' b r L R := by
  obtain ⟨T, H, A, c, ps, h1, h2, h3⟩ := h
  exact ⟨T, H, A, c, ps, h1.mono' f, h2.below f, h3⟩
/-- the log turns -/
theorem BothG.seg (h : BothG W w b r L R) {f : Nat} {args : Array Value} {q : Lg × Int} (hc : ∀ T, LiveG W w b L T → Calls Tryd.prog f args w (LiveGDid W w b T q)) :
    Calls Tryd.prog f args w fun e w' => e = .returned (.int .i64 q.2) ∧ BothG W w' b r q.1 R := by
  obtain ⟨T, H, A, c, ps, h1, h2, h3⟩ := h
  refine (hc T h1).mono ?_
  rintro e w' ⟨h4, h5, h6, h7⟩
  exact ⟨h4, T, H, A, c, ps, h5, h2.keep h6 h5.ltX, h3⟩
/-- the document's log turns -/
theorem BothG.turn (h : BothG W w b r L R) {f : Nat} {args : Array Value} {q : Rg × Int} (hc : ∀ T H A c ps, RlogO T H w r A c ps R → Calls Tryd.prog f args w (RlogDid T w (.pointer (some ⟨r, 0, none⟩)) q)) :
    Calls Tryd.prog f args w fun e w' => e = .returned (.int .i64 q.2) ∧ BothG W w' b r L q.1 := by
  obtain ⟨T, H, A, c, ps, ⟨S, hl, hS, hb, hX⟩, h2, h3⟩ := h
  refine (hc T H A c ps h2).mono ?_
  rintro e w' ⟨h4, ⟨H', r', A', c', ps', e, h5⟩, h6⟩
  injection e with e
  injection e with e
  injection e with e
  subst e
  refine ⟨h4, _, H', A', c', ps', ⟨S, hl.fr h6 (fun x hx hy => ((hX x hy).1 hx).elim), hS, ⟨h6.os.trans hb.os, h6.tape.trans hb.tape, h6.output.trans hb.output, Nat.le_trans hb.size h6.size, fun k hk => (h6.out k (Nat.lt_of_lt_of_le hk hb.size) fun hh => by have := h3 k hh; omega).trans (hb.block k hk)⟩, fun x hx => ⟨fun hs => ?_, h5.lt x hx⟩⟩, h5, fun x hx => ?_⟩
  · rcases hx with hx | hx
    · exact (hX x hx).1 hs
    · obtain ⟨_, _, _, _, _, hlo⟩ := hl
      have := hlo.lt x hs
      have := hx.1
      omega
  · rcases hx with hx | hx
    · exact h3 x hx
    · exact Nat.le_trans hb.size hx.1
/-- a call that tells of the log -/
theorem BothG.told (h : BothG W w b r L R) {f : Nat} {args : Array Value} {v : Value} (hc : ∀ T, LiveG W w b L T → Calls Tryd.prog f args w (LiveGTold W w b L T v)) :
    Calls Tryd.prog f args w fun e w' => e = .returned v ∧ BothG W w' b r L R ∧ Below w.heap.size w w' := by
  have h' := h
  obtain ⟨T, H, A, c, ps, h1, h2, h3⟩ := h
  exact (hc T h1).mono fun e w' ⟨h4, _, h5⟩ => ⟨h4, h'.mono h5, h5⟩
/-- a call that tells of the document's log -/
theorem BothG.asks (h : BothG W w b r L R) {f : Nat} {args : Array Value} {v : Value} (hc : ∀ T H A c ps, RlogO T H w r A c ps R → Calls Tryd.prog f args w (Told w v)) :
    Calls Tryd.prog f args w fun e w' => e = .returned v ∧ BothG W w' b r L R ∧ Below w.heap.size w w' := by
  have h' := h
  obtain ⟨T, H, A, c, ps, h1, h2, h3⟩ := h
  exact (hc T H A c ps h2).mono fun e w' ⟨h4, h5⟩ => ⟨h4, h'.mono h5, h5⟩
end

/-- as BothG, where no record lies in the row q, which is newer than the law's beginning and none of both logs' -/
def BothH (q : Nat) (W w : World) (b r : Nat) (L : Lg) (R : Rg) : Prop := ∃ S T H A c ps, @LogAt (holeAt q) S w b L ∧ RlogO T H w r A c ps R ∧ (∀ x, S x → W.heap.size ≤ x) ∧ (∀ x, T x → W.heap.size ≤ x) ∧ (∀ x, T x → ¬ S x) ∧ ¬ S q ∧ ¬ T q ∧ W.heap.size ≤ q ∧ q < w.heap.size ∧ Below W.heap.size W w
section
variable {q : Nat} {W w w' : World} {b r : Nat} {L : Lg} {R : Rg}
theorem BothH.below (h : BothH q W w b r L R) : Below W.heap.size W w := by
  obtain ⟨S, T, H, A, c, ps, h1, h2, h3, h4, h5, h6, h7, h8, h9, h10⟩ := h
  exact h10
theorem BothG.hold (h : BothG W w b r L R) (hb : Below w.heap.size w w') (hq : w.heap.size ≤ q) (hq' : q < w'.heap.size) : BothH q W w' b r L R := by
  obtain ⟨T, H, A, c, ps, ⟨S, ⟨hu, H1, A1, c1, ps1, hl⟩, hS, hbl, hX⟩, h2, h3⟩ := h
  exact ⟨S, T, H, A, c, ps, ⟨hu, H1, A1, c1, ps1, hl.hold hb hq hq'⟩, h2.below hb, hS, h3, fun x hx => (hX x hx).1, fun hh => by have := hl.lt q hh; omega, fun hh => by have := h2.lt q hh; omega, Nat.le_trans hbl.size hq, hq', hbl.trans (hb.mono hbl.size)⟩
theorem BothH.free (h : BothH q W w b r L R) (m : Mut q w w') : BothG W w' b r L R := by
  obtain ⟨S, T, H, A, c, ps, ⟨hu, H1, A1, c1, ps1, hl⟩, h2, h3, h4, h5, h6, h7, h8, h9, h10⟩ := h
  exact ⟨T, H, A, c, ps, ⟨S, ⟨hu, H1, A1, c1, ps1, m.log hl h6⟩, h3, ⟨m.os.trans h10.os, m.tape.trans h10.tape, m.output.trans h10.output, by rw [m.size]; exact h10.size, fun k hk => (m.out k (by omega)).trans (h10.block k hk)⟩, fun x hx => ⟨h5 x hx, by rw [m.size]; exact h2.lt x hx⟩⟩, m.rlog h2 h7, h4⟩
theorem BothH.mono (h : BothH q W w b r L R) (f : Below w.heap.size w w') : BothH q W w' b r L R := by
  obtain ⟨S, T, H, A, c, ps, ⟨hu, H1, A1, c1, ps1, hl⟩, h2, h3, h4, h5, h6, h7, h8, h9, h10⟩ := h
  exact ⟨S, T, H, A, c, ps, ⟨hu, H1, A1, c1, ps1, @LogO.below (holeAt q) S H1 w w' b A1 c1 ps1 L hl f⟩, h2.below f, h3, h4, h5, h6, h7, h8, Nat.lt_of_lt_of_le h9 f.size, h10.trans (f.mono h10.size)⟩
theorem BothH.append (h : BothH q W w b r L R) (hh : HalfAt W) (hlen : L.len ≤ 4611686018427387904) (B : Option Addr) (rec : List UInt8) (cb : Nat) (hr : Own Ever w B rec) (hrl : rec.length ≤ 70368744177664) :
    Calls Tryd.prog 35 #[.pointer (some ⟨b, 0, none⟩), .slice B rec.length cb] w fun e w' => e = .returned (.tuple #[.int .i64 ((L.append rec).2.1 : Int), .int .i64 (L.append rec).2.2]) ∧ BothH q W w' b r (L.append rec).1 R ∧ BK w w' := by
  obtain ⟨S, T, H, A, c, ps, ⟨hu, H1, A1, c1, ps1, hl⟩, h2, h3, h4, h5, h6, h7, h8, h9, h10⟩ := h
  refine (@appendL (holeAt q) S H1 w b A1 c1 ps1 L hl hu (hh.below h10 hh.lt) hlen B rec cb (hr.rd S) hrl).mono ?_
  rintro e w' ⟨k1, ⟨b', e', k2⟩, k3⟩
  injection e' with e'
  injection e' with e'
  injection e' with e'
  subst e'
  have hs := k3.size
  refine ⟨k1, ⟨_, T, H, A, c, ps, k2, h2.keep (fun x hx => k3.out x (h2.lt x hx) (h5 x hx)) (fun x hx => Nat.lt_of_lt_of_le (h2.lt x hx) hs), fun x hx => hx.elim (h3 x) (fun k => Nat.le_trans h10.size k.1), h4, fun x hx hx' => hx'.elim (h5 x hx) (fun k => by have := h2.lt x hx; have := k.1; omega), fun hx => hx.elim h6 (fun k => by have := k.1; omega), h7, h8, Nat.lt_of_lt_of_le h9 hs, ?_⟩, k3.byt⟩
  exact ⟨k3.os.trans h10.os, k3.tape.trans h10.tape, k3.output.trans h10.output, Nat.le_trans h10.size hs, fun k hk => (k3.out k (Nat.lt_of_lt_of_le hk h10.size) fun hh => by have := h3 k hh; omega).trans (h10.block k hk)⟩
theorem BothH.refAppend {L0 : Lg} {m : Nat} (h : BothH q W w b r L L0.ref) (hinv : L0.inv m) (hm : m ≤ 1048576) (B : Option Addr) (rec : List UInt8) (cb : Nat) (hr : Own Ever w B rec) (hrl : rec.length ≤ 400) (hc : rec.length ≤ cb) (hcm : cb ≤ maxLen) :
    Calls Tryd.prog 96 #[.pointer (some ⟨r, 0, none⟩), .slice B rec.length cb] w fun e w' => e = .returned (.tuple #[.int .i64 ((L0.append rec).2.1 : Int), .int .i64 (L0.append rec).2.2]) ∧ BothH q W w' b r L (L0.append rec).1.ref ∧ BK w w' := by
  obtain ⟨S, T, H, A, c, ps, ⟨hu, H1, A1, c1, ps1, hl⟩, h2, h3, h4, h5, h6, h7, h8, h9, h10⟩ := h
  refine (refLogAppend_B h2 hinv hm B rec cb (hr.rd T) hrl hc hcm).mono ?_
  rintro e w' ⟨k1, ⟨H', r', A', c', ps', e', k2⟩, k3⟩
  injection e' with e'
  injection e' with e'
  injection e' with e'
  subst e'
  have hs := k3.size
  refine ⟨k1, ⟨S, _, H', A', c', ps', ⟨hu, H1, A1, c1, ps1, @LogO.fr (holeAt q) S T H1 w w' b A1 c1 ps1 L hl k3 (fun x hx hy => ((h5 x hy) hx).elim)⟩, k2, h3, fun x hx => hx.elim (h4 x) (fun k => Nat.le_trans h10.size k.1), fun x hx hx' => hx.elim (fun hx => h5 x hx hx') (fun k => by have := @LogO.lt (holeAt q) _ _ _ _ _ _ _ _ hl x hx'; have := k.1; omega), h6, fun hx => hx.elim h7 (fun k => by have := k.1; omega), h8, Nat.lt_of_lt_of_le h9 hs, ?_⟩, k3.byt⟩
  exact ⟨k3.os.trans h10.os, k3.tape.trans h10.tape, k3.output.trans h10.output, Nat.le_trans h10.size hs, fun k hk => (k3.out k (Nat.lt_of_lt_of_le hk h10.size) fun hh => by have := h4 k hh; omega).trans (h10.block k hk)⟩
end
end Go.Proofs.YtediidajdpdeiaaDoor

/- A function value is not nil. -/
namespace Go.Proofs.YtediidajdpdeiaaDoor
open Go.RowKit

theorem run_equalIn_func_nil {P : Program} {t : TypeId} {ps rs : Array TypeId} {vd : Bool} (h : P.underlying t = some (.func ps rs vd)) (d : Nat) (f : Fn) (a c : Array Value) (w : World) :
    (Op.equalIn (d + 1) t (.func f a c) .nilFunc).run P w = .ok false w := by
  simp [Op.equalIn, run_underlying h]
theorem run_eql_func_nil {P : Program} {t : TypeId} {ps rs : Array TypeId} {vd : Bool} (h : P.underlying t = some (.func ps rs vd)) (f : Fn) (a c : Array Value) (w : World) :
    (binOp .eql t (.func f a c) .nilFunc).run P w = .ok (.bool false) w := by
  simp only [binOp]
  simp [show Op.equal t (.func f a c) .nilFunc = Op.equalIn (9999 + 1) t (.func f a c) .nilFunc from rfl, run_equalIn_func_nil h]
theorem run_neq_func_nil {P : Program} {t : TypeId} {ps rs : Array TypeId} {vd : Bool} (h : P.underlying t = some (.func ps rs vd)) (f : Fn) (a c : Array Value) (w : World) :
    (binOp .neq t (.func f a c) .nilFunc).run P w = .ok (.bool true) w := by
  simp only [binOp]
  simp [show Op.equal t (.func f a c) .nilFunc = Op.equalIn (9999 + 1) t (.func f a c) .nilFunc from rfl, run_equalIn_func_nil h]

end Go.Proofs.YtediidajdpdeiaaDoor

/- The laws' own helper 'all' (layer 7): all records of a log, and their numbers. -/
namespace Go.Proofs.YtediidajdpdeiaaDoor
open Go.RowKit CrcM
set_option maxRecDepth 100000

theorem numS_num {per : Nat} : ∀ {gs : List Sg} {n num : Nat} {r : List UInt8}, Chain per gs → (numS gs)[n]? = some (num, r) → num = headS gs + n ∧ (recsS gs)[n]? = some r
  | [], n, num, r, _, h => by simp [numS] at h
  | g :: t, n, num, r, hc, h => by
    have hR : ∀ (rs : List (List UInt8)) (b n num : Nat) (r : List UInt8), (numR b rs)[n]? = some (num, r) → num = b + n ∧ rs[n]? = some r := by
      intro rs
      induction rs with
      | nil => intro b n num r h; simp [numR] at h
      | cons x rs ih =>
        intro b n num r h
        cases n with
        | zero =>
          simp only [numR, List.getElem?_cons_zero, Option.some.injEq, Prod.mk.injEq] at h
          exact ⟨by omega, by rw [List.getElem?_cons_zero, h.2]⟩
        | succ n =>
          simp only [numR, List.getElem?_cons_succ] at h
          have := ih (b + 1) n num r h
          exact ⟨by omega, by rw [List.getElem?_cons_succ]; exact this.2⟩
    have e : numS (g :: t) = numR g.base g.recs ++ numS t := by simp [numS]
    have e2 : recsS (g :: t) = g.recs ++ recsS t := by simp [recsS]
    rw [e] at h
    rw [e2]
    by_cases hn : n < g.recs.length
    · rw [List.getElem?_append_left (by rw [length_numR]; exact hn)] at h
      rw [List.getElem?_append_left hn]
      exact hR _ _ _ _ _ h
    · rw [List.getElem?_append_right (by rw [length_numR]; omega), length_numR] at h
      rw [List.getElem?_append_right (by omega)]
      have ih := numS_num hc.tail h
      refine ⟨?_, ih.2⟩
      cases t with
      | nil => simp [numS] at h
      | cons y t =>
        have := hc.2.1
        simp only [headS] at ih ⊢
        omega
theorem length_numS (gs : List Sg) : (numS gs).length = (recsS gs).length := by
  induction gs with
  | nil => rfl
  | cons g t ih =>
    have e : numS (g :: t) = numR g.base g.recs ++ numS t := by simp [numS]
    have e2 : recsS (g :: t) = g.recs ++ recsS t := by simp [recsS]
    rw [e, e2, List.length_append, List.length_append, length_numR, ih]

theorem recs_B (w : World) (b : Nat) : Calls Tryd.prog 89 #[.pointer (some ⟨b, 0, none⟩)] w fun e w' => e = .returned (.func (.func 118) #[] #[.pointer (some ⟨w.heap.size, 0, none⟩)]) ∧ w.alloc (.cells #[.pointer (some ⟨b, 0, none⟩)] 52) = w' := by
  go_enter Tryd.func89, Tryd.ntmps89
  go_wp2
  go_ret
  exact ⟨rfl, rfl⟩

/-- what is known where n records have come -/
structure AllR (w4 : World) (nb b : Nat) (recs : List (List UInt8)) (n : Nat) (W : World) : Prop where
  fr : Fr (fun x => nb ≤ x) w4 W
  lt : nb + 4 ≤ w4.heap.size
  b0 : Blk W nb 52 #[.pointer (some ⟨b, 0, none⟩)]
  b1 : ∃ v vals, Blk W (nb + 1) 45 #[v] ∧ Row (fun x => nb + 3 < x) W TBs v vals ∧ Recs W vals (recs.take n)
  b2 : Blk W (nb + 2) 4 #[.bool true]
  b3 : Blk W (nb + 3) 52 #[.pointer (some ⟨b, 0, none⟩)]
theorem AllR.below {w4 W W' : World} {nb b n : Nat} {recs : List (List UInt8)} (h : AllR w4 nb b recs n W) (hb : Below W.heap.size W W') : AllR w4 nb b recs n W' := by
  obtain ⟨v, vals, h1, h2, h3⟩ := h.b1
  exact ⟨h.fr.trans' (Fr.of_below (S := Non) hb) (fun _ _ h => h.elim), h.lt, h.b0.below' hb, ⟨v, vals, h1.below' hb, h2.below hb, h3.fr (Fr.of_below (S := Non) hb)⟩, h.b2.below' hb, h.b3.below' hb⟩

section
variable {S H : Nat → Prop} {w4 : World} {b nb : Nat} {A : Option Addr} {c : Nat} {ps : List Nat} {L : Lg}
set_option maxHeartbeats 1000000 in
theorem lit_all (h : LogO S H w4 b A c ps L) (hS : ∀ x, S x → ¬ nb ≤ x) {n m : Nat} (hinv : L.inv m) (hm : m ≤ 1048576) (hd : L.down = false) {W : World} (hJ : AllR w4 nb b L.recs n W) {num : Nat} {r : List UInt8} {A' : Option Addr} {c' : Nat} (hn : (numS L.segs)[n]? = some (num, r)) (ho : Own Any W A' r) (hc' : r.length ≤ c') (hm' : c' ≤ maxLen) :
    Calls Tryd.prog 90 #[.int .i64 (num : Int), .slice A' r.length c', .pointer (some ⟨nb + 2, 0, none⟩), .pointer (some ⟨nb, 0, none⟩), .pointer (some ⟨nb + 1, 0, none⟩)] W fun e W' => e = .returned (.bool true) ∧ AllR w4 nb b L.recs (n + 1) W' := by
  obtain ⟨ib, hib, hzb, hsb, hbb⟩ := info_parts info_bs
  obtain ⟨hnum, hrec⟩ := numS_num hinv.chain hn
  rw [← L.base_eq hd] at hnum
  rw [← L.recs_eq hd] at hrec
  have hlen := hinv.len hd
  have hle := hinv.len_le
  have hnl : n < L.recs.length := (List.getElem?_eq_some_iff.1 hrec).1
  have hlW : LogO S H W b A c ps L := h.fr hJ.fr (fun x hx hy => (hS x hx hy).elim)
  obtain ⟨v, vals, i1, irow, irec⟩ := hJ.b1
  obtain ⟨R, cr, rfl, -⟩ := irow.val
  have hvl : vals.length = n := by rw [irec.1, List.length_take]; omega
  have hB := baseL (hlW.below (w' := W.drew) ((Below.refl _ W).drew))
  have e0 := hJ.b0.cell 0 (v := .pointer (some ⟨b, 0, none⟩)) rfl
  have e1 := i1.cell 0 (v := .slice R vals.length cr) rfl
  have e1f := i1.frozen 0
  have e2 := hJ.b2.cell 0 (v := .bool true) rfl
  have e2f := hJ.b2.frozen 0
  have k1 : IntKind.i64.wrap ((L.base : Int) + (vals.length : Int)) = (num : Int) := by rw [IntKind.wrap_i64]; omega
  have k2 : ((num : Int) == (num : Int)) = true := beq_self_eq_true _
  have HV := Lib.hid hvl
  have HR := Lib.hid hrec
  have HV4 : vals.length + 1 ≤ maxLen := by unfold maxLen; omega
  have HV5 : (vals.length + 1) * 24 ≤ 140737488355328 := by omega
  clear hn hnum hlen hle hrec hvl
  go_enter Tryd.func90, Tryd.ntmps90
  go_wp2
  refine wp_region_T #[[], [0], [0], [0], [0, 3], [0], [0, 5], [0, 3, 5], [0, 3, 5], [0, 3, 5], [0, 3, 5]] [0, 3, 5] (fun w' => w'.cell? ⟨nb + 2, 0, none⟩ = some (.bool true) ∧ w'.cell? ⟨nb, 0, none⟩ = some (.pointer (some ⟨b, 0, none⟩)) ∧ w'.cell? ⟨nb + 1, 0, none⟩ = some (.slice R vals.length cr)) 11 rfl (by kernel_rfl) ?_
  (refine wpAnyT_read (i := 0) rfl (by kernel_rfl) rfl (fun _ _ _ h => h) (by kernel_rfl) (⟨e2, e0, e1⟩) (fun w hS_ => by obtain ⟨s_1, s_2, s_3⟩ := hS_; go_simp; try rfl) ?_; (try simp only [Act.put, List.setIfInBounds_toArray, List.set_cons_zero, List.set_cons_succ]))
  (refine wpAnyT_free (i := 1) rfl (by kernel_rfl) rfl (fun _ _ _ h => h) (by kernel_rfl) (fun _ => by go_simp; try rfl) ?_; (try simp only [Act.put, List.setIfInBounds_toArray, List.set_cons_zero, List.set_cons_succ]))
  first
  | (refine wpAnyT_skip (i := 2) rfl (by kernel_rfl) ?hw_ (fun _ _ _ h => h) (fun h_ => absurd h_ (by decide)) ?_; (case hw_ => first | (simp [Region.wanted, yielded]; done) | (simp [Region.wanted, yielded, undef, *]; done)); (try simp only [Act.put, List.setIfInBounds_toArray, List.set_cons_zero, List.set_cons_succ]))
  | (refine wpAnyT_free (i := 2) rfl (by kernel_rfl) (by first | (simp [Region.wanted, yielded]; done) | (simp [Region.wanted, yielded, undef, *]; done)) (fun _ _ _ h => h) (by kernel_rfl) (fun _ => by go_simp; try rfl) ?_; (try simp only [Act.put, List.setIfInBounds_toArray, List.set_cons_zero, List.set_cons_succ]))
  first
  | (refine wpAnyT_skip (i := 3) rfl (by kernel_rfl) ?hw_ (fun _ _ _ h => h) (fun _ => ⟨e2, e0, e1⟩) ?_; (case hw_ => first | (simp [Region.wanted, yielded]; done) | (simp [Region.wanted, yielded, undef, *]; done)); (try simp only [Act.put, List.setIfInBounds_toArray, List.set_cons_zero, List.set_cons_succ]))
  | (refine wpAnyT_read (i := 3) rfl (by kernel_rfl) (by first | (simp [Region.wanted, yielded]; done) | (simp [Region.wanted, yielded, undef, *]; done)) (fun _ _ _ h => h) (by kernel_rfl) (⟨e2, e0, e1⟩) (fun w hS_ => by obtain ⟨s_1, s_2, s_3⟩ := hS_; go_simp; try rfl) ?_; (try simp only [Act.put, List.setIfInBounds_toArray, List.set_cons_zero, List.set_cons_succ]))
  first
  | (refine wpAnyT_skip (i := 5) rfl (by kernel_rfl) ?hw_ (fun _ _ _ h => h) (fun _ => ⟨e2, e0, e1⟩) ?_; (case hw_ => first | (simp [Region.wanted, yielded]; done) | (simp [Region.wanted, yielded, undef, *]; done)); (try simp only [Act.put, List.setIfInBounds_toArray, List.set_cons_zero, List.set_cons_succ]))
  | (refine wpAnyT_read (i := 5) rfl (by kernel_rfl) (by first | (simp [Region.wanted, yielded]; done) | (simp [Region.wanted, yielded, undef, *]; done)) (fun _ _ _ h => h) (by kernel_rfl) (⟨e2, e0, e1⟩) (fun w hS_ => by obtain ⟨s_1, s_2, s_3⟩ := hS_; go_simp; try rfl) ?_; (try simp only [Act.put, List.setIfInBounds_toArray, List.set_cons_zero, List.set_cons_succ]))
  first
  | (refine wpAnyT_skip (i := 6) rfl (by kernel_rfl) ?hw_ (fun _ _ _ h => h) (fun h_ => absurd h_ (by decide)) ?_; (case hw_ => first | (simp [Region.wanted, yielded]; done) | (simp [Region.wanted, yielded, undef, *]; done)); (try simp only [Act.put, List.setIfInBounds_toArray, List.set_cons_zero, List.set_cons_succ]))
  | (refine wpAnyT_free (i := 6) rfl (by kernel_rfl) (by first | (simp [Region.wanted, yielded]; done) | (simp [Region.wanted, yielded, undef, *]; done)) (fun _ _ _ h => h) (by kernel_rfl) (fun _ => by go_simp; try rfl) ?_; (try simp only [Act.put, List.setIfInBounds_toArray, List.set_cons_zero, List.set_cons_succ]))
  first
  | (refine wpAnyT_skip (i := 4) rfl (by kernel_rfl) ?hw_ (fun _ _ _ h => h) (fun h_ => absurd h_ (by decide)) ?_; (case hw_ => first | (simp [Region.wanted, yielded]; done) | (simp [Region.wanted, yielded, undef, *]; done)); (try simp only [Act.put, List.setIfInBounds_toArray, List.set_cons_zero, List.set_cons_succ]))
  | (refine wpAnyT_one (i := 4) rfl (by kernel_rfl) (by first | (simp [Region.wanted, yielded]; done) | (simp [Region.wanted, yielded, undef, *]; done)) ?_
     intro K_ hK_
     go_wp2_with ((go_at_call 39; refine hB.mono ?_; rintro e W2 ⟨rfl, hb2⟩; have y1 := (hb2.cell (p := ⟨nb + 1, 0, none⟩) (cell_lt e1)).trans e1; have y2 := (hb2.cell (p := ⟨nb + 2, 0, none⟩) (cell_lt e2)).trans e2; have y2f := (hb2.frozen (p := ⟨nb + 2, 0, none⟩) (cell_lt e2)).trans e2f))
     refine hK_ _ _ ?_ ?_
     · exact fun _ _ => ⟨y2, (hb2.cell (p := ⟨nb, 0, none⟩) (cell_lt e0)).trans e0, y1⟩
     clear hK_ K_
     (try simp only [Act.put, List.setIfInBounds_toArray, List.set_cons_zero, List.set_cons_succ]))
  first
  | (refine wpAnyT_skip (i := 7) rfl (by kernel_rfl) ?hw_ (fun _ _ _ h => h) (fun h_ => absurd h_ (by decide)) ?_; (case hw_ => first | (simp [Region.wanted, yielded]; done) | (simp [Region.wanted, yielded, undef, *]; done)); (try simp only [Act.put, List.setIfInBounds_toArray, List.set_cons_zero, List.set_cons_succ]))
  | (refine wpAnyT_free (i := 7) rfl (by kernel_rfl) (by first | (simp [Region.wanted, yielded]; done) | (simp [Region.wanted, yielded, undef, *]; done)) (fun _ _ _ h => h) (by kernel_rfl) (fun _ => by go_simp; try rfl) ?_; (try simp only [Act.put, List.setIfInBounds_toArray, List.set_cons_zero, List.set_cons_succ]))
  first
  | (refine wpAnyT_skip (i := 8) rfl (by kernel_rfl) ?hw_ (fun _ _ _ h => h) (fun h_ => absurd h_ (by decide)) ?_; (case hw_ => first | (simp [Region.wanted, yielded]; done) | (simp [Region.wanted, yielded, undef, *]; done)); (try simp only [Act.put, List.setIfInBounds_toArray, List.set_cons_zero, List.set_cons_succ]))
  | (refine wpAnyT_free (i := 8) rfl (by kernel_rfl) (by first | (simp [Region.wanted, yielded]; done) | (simp [Region.wanted, yielded, undef, *]; done)) (fun _ _ _ h => h) (by kernel_rfl) (fun _ => by go_simp; try rfl) ?_; (try simp only [Act.put, List.setIfInBounds_toArray, List.set_cons_zero, List.set_cons_succ]))
  (refine wpAnyT_free (i := 9) rfl (by kernel_rfl) rfl (fun _ _ _ h => h) (by kernel_rfl) (fun _ => by go_simp; try rfl) ?_; (try simp only [Act.put, List.setIfInBounds_toArray, List.set_cons_zero, List.set_cons_succ]))
  refine wpAnyT_sink (i := 10) rfl (by kernel_rfl) rfl (by kernel_rfl) ?_
  intro K_ hK_
  go_wp2
  (try (refine hK_ _ _ ?_; clear hK_ K_))
  (try simp only [Act.put, List.setIfInBounds_toArray, List.set_cons_zero, List.set_cons_succ])
  refine wpAnyT_done (by kernel_rfl) ?_ _
  have hb2' : Below W.heap.size W W2 := ⟨hb2.os, hb2.tape, hb2.output, hb2.size, hb2.block⟩
  have b2 := hJ.b2.below' hb2'
  have hnb : ¬ IsB W (nb + 2) := hJ.b2.notB (by decide)
  have f3 : Fr (fun x => x = nb + 2) W (W2.setCell ⟨nb + 2, 0, none⟩ (.bool true)) := Fr.setCell (S := fun x => x = nb + 2) (Fr.of_below hb2') (p := ⟨nb + 2, 0, none⟩) (.inl rfl) hnb _
  have v0 := hJ.b0.fr f3 (by omega)
  have v1 := i1.fr f3 (by omega)
  have v2 : Blk (W2.setCell ⟨nb + 2, 0, none⟩ (.bool true)) (nb + 2) 4 #[.bool true] := b2.set 0 _
  have v3 := hJ.b3.fr f3 (by omega)
  have vrow := irow.fr f3 (fun x hx e => by omega)
  have vrec := irec.fr f3
  have ho3 := ho.fr f3
  have hf3 : Fr (fun x => nb ≤ x) w4 (W2.setCell ⟨nb + 2, 0, none⟩ (.bool true)) := hJ.fr.trans' f3 (fun x _ e => by omega)
  have hlt := hJ.lt
  generalize W2.setCell ⟨nb + 2, 0, none⟩ (.bool true) = W3 at *
  clear y1 y2 y2f e0 e1 e1f e2 e2f hb2 hb2' b2 hB irow irec i1 f3
  have e1 := v1.cell 0 (v := .slice R vals.length cr) rfl
  have e1f := v1.frozen 0
  have hlt3 : nb + 3 < W3.heap.size := v3.lt
  go_wp2_with (at_builtin; refine wpList_append_row rfl (.tmp 18) (.tmp 20) 45 rfl TBs ib _ 24 Tryd.underlying45 hib hzb hsb hbb rfl (.slice R vals.length cr) vals rfl (vrow.below (below_new _ _)) ⟨W3.heap.size, 0, none⟩ (.slice A' r.length c') rfl (heap_new_cell _ _ _) rfl HV4 HV5 (by decide) ?_; intro v5 w5 hrow5 hf5 hoth5; obtain ⟨A5, c5, rfl, hc5, hm5⟩ := hrow5.val; rw [List.length_append, List.length_singleton] at hrow5 hc5 ⊢; have hk5 : ∀ j, j ≤ nb + 3 → j < W3.heap.size → w5.heap[j]? = W3.heap[j]? := fun j hj hlt => (hoth5 j (Nat.lt_of_lt_of_le hlt (below_new W3 (.cells #[.slice A' r.length c'] TBs)).size) ((vrow.below (below_new W3 (.cells #[.slice A' r.length c'] TBs))).ownGt hj)).trans ((below_new W3 (.cells #[.slice A' r.length c'] TBs)).block j hlt); have u1 := v1.eq (hk5 _ (by omega) v1.lt); have u1c := u1.cell 0 (v := .slice R vals.length cr) rfl; have u1f := u1.frozen 0)
  go_ret
  have hbn := below_new W3 (.cells #[.slice A' r.length c'] TBs)
  have f6 : Fr (fun x => x = nb + 1) w5 (w5.setCell ⟨nb + 1, 0, none⟩ (.slice A5 (vals.length + 1) c5)) := Fr.setCell (S := fun x => x = nb + 1) (Fr.refl _ _) (p := ⟨nb + 1, 0, none⟩) (.inl rfl) (u1.notB (by decide)) _
  have hrow6 : Row (fun x => nb + 3 < x) w5 TBs (.slice A5 (vals.length + 1) c5) (vals ++ [.slice A' r.length c']) := hrow5.mono fun x _ hx => hx.elim id (fun hx => by have := Nat.le_trans hbn.size hx.1; show nb + 3 < x; omega)
  have g : ∀ {j : Nat} {ty : TypeId} {cs : Array Value}, Blk W3 j ty cs → j ≤ nb + 3 → j ≠ nb + 1 → Blk (w5.setCell ⟨nb + 1, 0, none⟩ (.slice A5 (vals.length + 1) c5)) j ty cs := fun hb hj hne => (hb.eq (hk5 _ hj hb.lt)).fr f6 hne
  have htk : L.recs.take (n + 1) = L.recs.take n ++ [r] := by rw [List.take_add_one, HR.out]; rfl
  refine ⟨rfl, ((hf3.trans' (Fr.of_below (S := Non) hbn) (fun _ _ h => h.elim)).trans' hf5 (fun x _ hx => by have hx : nb + 3 < x := hx; omega)).trans' f6 (fun x _ e => by omega), hlt, g v0 (by omega) (by omega), ⟨_, _, u1.set 0 _, hrow6.otherBlk u1 (by decide) f6, ?_⟩, g v2 (by omega) (by omega), g v3 (by omega) (by omega)⟩
  rw [htk]
  exact (((vrec.fr (Fr.of_below (S := Non) hbn)).fr hf5).snoc hc' hm' ((ho3.fr (Fr.of_below (S := Non) hbn)).fr hf5)).fr f6
end

/-- WHAT all leaves: the records, in a new row -/
def AllDid (W w : World) (b : Nat) (L : Lg) (X : Nat → Prop) (e : Ending) (w' : World) : Prop :=
  ∃ A c vals, e = .returned (.tuple #[.slice A L.recs.length c, .bool true]) ∧ Row (fun x => w.heap.size ≤ x) w' TBs (.slice A L.recs.length c) vals ∧ Recs w' vals L.recs ∧ LiveG W w' b L (Up X w w') ∧ Below w.heap.size w w'

theorem all_G {W w : World} {b : Nat} {L : Lg} {X : Nat → Prop} (h : LiveG W w b L X) {m : Nat} (hinv : L.inv m) (hm : m ≤ 1048576) :
    Calls Tryd.prog 40 #[.pointer (some ⟨b, 0, none⟩)] w (AllDid W w b L X) := by
  obtain ⟨S, ⟨hu, H, A, c, ps, hl⟩, hS, hb, -⟩ := id h
  have z0 : Blk ((((w.alloc (.cells #[.pointer (some ⟨b, 0, none⟩)] 52)).alloc (.cells #[.slice none 0 0] 45)).alloc (.cells #[.bool true] 4)).alloc (.cells #[.pointer (some ⟨b, 0, none⟩)] 52)) w.heap.size 52 #[.pointer (some ⟨b, 0, none⟩)] := (((Blk.new _ _ _).alloc _).alloc _).alloc _
  have z1 : Blk ((((w.alloc (.cells #[.pointer (some ⟨b, 0, none⟩)] 52)).alloc (.cells #[.slice none 0 0] 45)).alloc (.cells #[.bool true] 4)).alloc (.cells #[.pointer (some ⟨b, 0, none⟩)] 52)) (w.heap.size + 1) 45 #[.slice none 0 0] := ((Blk.new' _ _ _ (by simp)).alloc _).alloc _
  have z2 : Blk ((((w.alloc (.cells #[.pointer (some ⟨b, 0, none⟩)] 52)).alloc (.cells #[.slice none 0 0] 45)).alloc (.cells #[.bool true] 4)).alloc (.cells #[.pointer (some ⟨b, 0, none⟩)] 52)) (w.heap.size + 2) 4 #[.bool true] := (Blk.new' _ _ _ (by simp)).alloc _
  have z3 : Blk ((((w.alloc (.cells #[.pointer (some ⟨b, 0, none⟩)] 52)).alloc (.cells #[.slice none 0 0] 45)).alloc (.cells #[.bool true] 4)).alloc (.cells #[.pointer (some ⟨b, 0, none⟩)] 52)) (w.heap.size + 3) 52 #[.pointer (some ⟨b, 0, none⟩)] := Blk.new' _ _ _ (by simp)
  have hb4 : Below w.heap.size w ((((w.alloc (.cells #[.pointer (some ⟨b, 0, none⟩)] 52)).alloc (.cells #[.slice none 0 0] 45)).alloc (.cells #[.bool true] 4)).alloc (.cells #[.pointer (some ⟨b, 0, none⟩)] 52)) := ((((Below.refl _ w).alloc (Nat.le_refl _) _).alloc (by simp) _).alloc (by simp; omega) _).alloc (by simp; omega) _
  have hsz4 : w.heap.size + 4 ≤ ((((w.alloc (.cells #[.pointer (some ⟨b, 0, none⟩)] 52)).alloc (.cells #[.slice none 0 0] 45)).alloc (.cells #[.bool true] 4)).alloc (.cells #[.pointer (some ⟨b, 0, none⟩)] 52)).heap.size := by simp
  have hSn : ∀ x, S x → ¬ w.heap.size ≤ x := fun x hx => by have := hl.lt x hx; omega
  have eg := enters_of Tryd.func90 (by kernel_rfl) rfl
  have kf := fun (f : Fn) (a c : Array Value) (w : World) => run_eql_func_nil (P := Tryd.prog) (t := 48) Tryd.underlying48 f a c w
  go_enter Tryd.func40, Tryd.ntmps40
  go_wp2_with (go_at_call 89; refine (recs_B _ _).mono ?_; rintro e w' ⟨rfl, rfl⟩)
  generalize (((w.alloc (.cells #[.pointer (some ⟨b, 0, none⟩)] 52)).alloc (.cells #[.slice none 0 0] 45)).alloc (.cells #[.bool true] 4)).alloc (.cells #[.pointer (some ⟨b, 0, none⟩)] 52) = w4 at *
  have h4 := hl.below hb4
  have hJ0 : AllR w4 w.heap.size b L.recs 0 w4 := ⟨Fr.refl _ _, hsz4, z0, ⟨_, [], z1, Row.nil _ _ _, by rw [List.take_zero]; exact Recs.nil _⟩, z2, z3⟩
  have hlen : L.recs.take (if L.down then 0 else (numS L.segs).length) = L.recs := by
    cases hd : L.down
    · rw [L.recs_eq hd, length_numS]
      exact List.take_of_length_le (Nat.le_refl _)
    · have : L.recs = [] := by unfold Lg.recs; rw [hd]; rfl
      rw [this]
      rfl
  have hR : Calls Tryd.prog 118 #[.func (.func 90) #[] #[.pointer (some ⟨w.heap.size + 2, 0, none⟩), .pointer (some ⟨w.heap.size, 0, none⟩), .pointer (some ⟨w.heap.size + 1, 0, none⟩)], .pointer (some ⟨w.heap.size + 3, 0, none⟩)] w4 fun e W' => e = .returned (.tuple #[]) ∧ AllR w4 w.heap.size b L.recs (if L.down then 0 else (numS L.segs).length) W' :=
    records_calls (S' := fun x => w.heap.size ≤ x) h4 (w.heap.size + 3) 90 _ eg hSn (AllR w4 w.heap.size b L.recs) (fun n W hJ => ⟨hJ.fr, hJ.b3.cell 0 rfl⟩) (fun n W W' hJ hb => hJ.below hb) (fun hd n W num r A' c' hJ hn ho hc hm' => lit_all h4 hSn hinv hm hd hJ hn ho hc hm') hJ0
  refine hR.mono ?_
  rintro e W5 ⟨rfl, hJ5⟩
  obtain ⟨v, vals, i1, irow, irec⟩ := hJ5.b1
  rw [hlen] at irec
  obtain ⟨R, cr, rfl, -⟩ := irow.val
  have hvl : vals.length = L.recs.length := irec.1
  rw [hvl] at i1 irow
  have e1 := i1.cell 0 (v := .slice R L.recs.length cr) rfl
  have e2 := hJ5.b2.cell 0 (v := .bool true) rfl
  have hb5 : Below w.heap.size w W5 := hb4.trans ⟨hJ5.fr.os, hJ5.fr.tape, hJ5.fr.output, hJ5.fr.size, fun k hk => hJ5.fr.out k (Nat.lt_of_lt_of_le hk (by omega)) (fun hx => by have hx : w.heap.size ≤ k := hx; omega)⟩
  have hPost : AllDid W w b L X (.returned (.tuple #[.slice R L.recs.length cr, .bool true])) W5.drew := ⟨R, cr, vals, rfl, irow.mono (fun x _ hx => by have hx : w.heap.size + 3 < x := hx; omega), irec, h.mono hb5.drew, hb5.drew⟩
  clear hlen hR hJ0 hvl z0 z1 z2 z3
  go_wp2
  refine wp_region_T #[[], [], [0], [0, 1]] [0, 1] (fun w' => w'.cell? ⟨w.heap.size + 1, 0, none⟩ = some (.slice R L.recs.length cr) ∧ w'.cell? ⟨w.heap.size + 2, 0, none⟩ = some (.bool true)) 4 rfl (by kernel_rfl) ?_
  (refine wpAnyT_read (i := 0) rfl (by kernel_rfl) rfl (fun _ _ _ h => h) (by kernel_rfl) (⟨e1, e2⟩) (fun w hS_ => by obtain ⟨s_1, s_2⟩ := hS_; go_simp; try rfl) ?_; (try simp only [Act.put, List.setIfInBounds_toArray, List.set_cons_zero, List.set_cons_succ]))
  (refine wpAnyT_read (i := 1) rfl (by kernel_rfl) rfl (fun _ _ _ h => h) (by kernel_rfl) (⟨e1, e2⟩) (fun w hS_ => by obtain ⟨s_1, s_2⟩ := hS_; go_simp; try rfl) ?_; (try simp only [Act.put, List.setIfInBounds_toArray, List.set_cons_zero, List.set_cons_succ]))
  (refine wpAnyT_free (i := 2) rfl (by kernel_rfl) rfl (fun _ _ _ h => h) (by kernel_rfl) (fun _ => by go_simp; try rfl) ?_; (try simp only [Act.put, List.setIfInBounds_toArray, List.set_cons_zero, List.set_cons_succ]))
  (refine wpAnyT_free (i := 3) rfl (by kernel_rfl) rfl (fun _ _ _ h => h) (by kernel_rfl) (fun _ => by go_simp; try rfl) ?_; (try simp only [Act.put, List.setIfInBounds_toArray, List.set_cons_zero, List.set_cons_succ]))
  refine wpAnyT_done (by kernel_rfl) ?_ _
  go_wp2
  go_ret2
  exact hPost
end Go.Proofs.YtediidajdpdeiaaDoor

/- The laws' own helper 'alike' (layer 7): are two lists of records the same? -/
namespace Go.Proofs.YtediidajdpdeiaaDoor
open Go.RowKit CrcM
set_option maxRecDepth 100000

theorem take_eq_step {α : Type} {xs ys : List α} {k : Nat} {x : α} (h : xs.take k = ys.take k) (ha : xs[k]? = some x) (hb : ys[k]? = some x) : xs.take (k + 1) = ys.take (k + 1) := by
  rw [List.take_add_one, List.take_add_one, h, ha, hb]

theorem alike_B {Sa Sb : Nat → Prop} (w : World) (A : Option Addr) (xs : List (List UInt8)) (ca : Nat) (va : List Value) (B : Option Addr) (ys : List (List UInt8)) (cb : Nat) (vb : List Value)
    (ha : Row Sa w TBs (.slice A xs.length ca) va) (ra : Recs w va xs) (hb : Row Sb w TBs (.slice B ys.length cb) vb) (rb : Recs w vb ys) :
    Calls Tryd.prog 45 #[.slice A xs.length ca, .slice B ys.length cb] w fun e w' => e = .returned (.bool (decide (xs = ys))) ∧ Below w.heap.size w w' := by
  have hla : xs.length ≤ 9223372036854775807 := by
    obtain ⟨A', c', h1, h2, h3⟩ := ha.val
    injection h1 with _ h4 _
    unfold maxLen at h3
    omega
  by_cases hl : xs.length = ys.length
  · have HL := Lib.hid hl
    have hl' : ((xs.length : Int) == (ys.length : Int)) = true := by rw [beq_iff_eq]; omega
    have hl2 : ¬ ¬ (xs.length : Int) = (ys.length : Int) := by omega
    go_enter Tryd.func45, Tryd.ntmps45
    go_wp2
    go_loopw [13] (fun i wr => ∃ k : Nat, k ≤ xs.length ∧ i = .int .i64 (k : Int) ∧ xs.take k = ys.take k ∧ Below w.heap.size w wr) (fun i _ => xs.length - (intOf i).toNat)
    case atStart => exact ⟨0, Nat.zero_le _, rfl, rfl, Below.refl _ _⟩
    case round =>
      obtain ⟨k, hk, rfl, heq, hb9⟩ := hrel
      have HK := Lib.hid heq
      clear heq
      by_cases hlt : k < xs.length
      · obtain ⟨x, hx⟩ : ∃ x, xs[k]? = some x := ⟨_, List.getElem?_eq_getElem hlt⟩
        obtain ⟨y, hy⟩ : ∃ y, ys[k]? = some y := ⟨_, List.getElem?_eq_getElem (by have := HL.out; omega)⟩
        obtain ⟨A1, c1, hv1, -, -, ho1⟩ := ra.2 k x hx
        obtain ⟨B1, d1, hv2, -, -, ho2⟩ := rb.2 k y hy
        obtain ⟨g1, o1, e1, hA, -, -, hc1, -⟩ := ha.cell hv1
        obtain ⟨g2, o2, e2, hB, -, -, hc2, -⟩ := hb.cell hv2
        injection hA with hA q1 q2
        injection hB with hB q3 q4
        subst hA
        subst hB
        clear q1 q2 q3 q4
        have m1 := (hb9.cell (p := ⟨g1, o1 + k, none⟩) (cell_lt hc1)).trans hc1
        have m2 := (hb9.cell (p := ⟨g2, o2 + k, none⟩) (cell_lt hc2)).trans hc2
        have s1 : (convert 22 9 (.slice A1 x.length c1)).run Tryd.prog wr.drew = .ok (.string ⟨x.toArray⟩) wr.drew := run_str (((ho1.fr (S' := Non) (Fr.of_below hb9)).rd Non).drew) c1
        have s2 : (convert 22 9 (.slice B1 y.length d1)).run Tryd.prog wr.drew = .ok (.string ⟨y.toArray⟩) wr.drew := run_str (((ho2.fr (S' := Non) (Fr.of_below hb9)).rd Non).drew) d1
        have hlt' : (k : Int) < (xs.length : Int) := by omega
        have hlt2 : (k : Int) < (ys.length : Int) := by omega
        have HX := Lib.hid hx
        have HY := Lib.hid hy
        clear hx hy hv1 hv2 hc1 hc2 ho1 ho2
        by_cases hxy : x = y
        · subst hxy
          go_wp2
          refine wp_region_T #[[], [], [], [], [3], [], [], [], [], [8], [3, 4, 8, 9]] [3, 4, 8, 9] (fun w' => w'.cell? ⟨g1, o1 + k, none⟩ = some (.slice A1 x.length c1) ∧ w'.cell? ⟨g2, o2 + k, none⟩ = some (.slice B1 x.length d1) ∧ (convert 22 9 (.slice A1 x.length c1)).run Tryd.prog w' = .ok (.string ⟨x.toArray⟩) w' ∧ (convert 22 9 (.slice B1 x.length d1)).run Tryd.prog w' = .ok (.string ⟨x.toArray⟩) w') 11 rfl (by kernel_rfl) ?_
          (refine wpAnyT_free (i := 0) rfl (by kernel_rfl) rfl (fun _ _ _ h => h) (by kernel_rfl) (fun _ => by go_simp; try rfl) ?_; (try simp only [Act.put, List.setIfInBounds_toArray, List.set_cons_zero, List.set_cons_succ]))
          (refine wpAnyT_free (i := 1) rfl (by kernel_rfl) rfl (fun _ _ _ h => h) (by kernel_rfl) (fun _ => by go_simp; try rfl) ?_; (try simp only [Act.put, List.setIfInBounds_toArray, List.set_cons_zero, List.set_cons_succ]))
          (refine wpAnyT_free (i := 2) rfl (by kernel_rfl) rfl (fun _ _ _ h => h) (by kernel_rfl) (fun _ => by go_simp; try rfl) ?_; (try simp only [Act.put, List.setIfInBounds_toArray, List.set_cons_zero, List.set_cons_succ]))
          (refine wpAnyT_read (i := 3) rfl (by kernel_rfl) rfl (fun _ _ _ h => h) (by kernel_rfl) (⟨m1, m2, s1, s2⟩) (fun w hS_ => by obtain ⟨s_1, s_2, s_3, s_4⟩ := hS_; go_simp; try rfl) ?_; (try simp only [Act.put, List.setIfInBounds_toArray, List.set_cons_zero, List.set_cons_succ]))
          (refine wpAnyT_read (i := 4) rfl (by kernel_rfl) rfl (fun _ _ _ h => h) (by kernel_rfl) (⟨m1, m2, s1, s2⟩) (fun w hS_ => by obtain ⟨s_1, s_2, s_3, s_4⟩ := hS_; go_simp; try rfl) ?_; (try simp only [Act.put, List.setIfInBounds_toArray, List.set_cons_zero, List.set_cons_succ]))
          (refine wpAnyT_free (i := 5) rfl (by kernel_rfl) rfl (fun _ _ _ h => h) (by kernel_rfl) (fun _ => by go_simp; try rfl) ?_; (try simp only [Act.put, List.setIfInBounds_toArray, List.set_cons_zero, List.set_cons_succ]))
          (refine wpAnyT_free (i := 6) rfl (by kernel_rfl) rfl (fun _ _ _ h => h) (by kernel_rfl) (fun _ => by go_simp; try rfl) ?_; (try simp only [Act.put, List.setIfInBounds_toArray, List.set_cons_zero, List.set_cons_succ]))
          (refine wpAnyT_free (i := 7) rfl (by kernel_rfl) rfl (fun _ _ _ h => h) (by kernel_rfl) (fun _ => by go_simp; try rfl) ?_; (try simp only [Act.put, List.setIfInBounds_toArray, List.set_cons_zero, List.set_cons_succ]))
          (refine wpAnyT_read (i := 8) rfl (by kernel_rfl) rfl (fun _ _ _ h => h) (by kernel_rfl) (⟨m1, m2, s1, s2⟩) (fun w hS_ => by obtain ⟨s_1, s_2, s_3, s_4⟩ := hS_; go_simp; try rfl) ?_; (try simp only [Act.put, List.setIfInBounds_toArray, List.set_cons_zero, List.set_cons_succ]))
          (refine wpAnyT_read (i := 9) rfl (by kernel_rfl) rfl (fun _ _ _ h => h) (by kernel_rfl) (⟨m1, m2, s1, s2⟩) (fun w hS_ => by obtain ⟨s_1, s_2, s_3, s_4⟩ := hS_; go_simp; try rfl) ?_; (try simp only [Act.put, List.setIfInBounds_toArray, List.set_cons_zero, List.set_cons_succ]))
          (refine wpAnyT_free (i := 10) rfl (by kernel_rfl) rfl (fun _ _ _ h => h) (by kernel_rfl) (fun _ => by go_simp; try rfl) ?_; (try simp only [Act.put, List.setIfInBounds_toArray, List.set_cons_zero, List.set_cons_succ]))
          refine wpAnyT_done (by kernel_rfl) ?_ _
          go_wp2
          go_roundw
          case rel => exact ⟨k + 1, by omega, by go_num, take_eq_step HK.out HX.out HY.out, hb9.drew⟩
          case measure => simp [intOf]; omega
        · have hne : decide (xs = ys) = false := by
            rw [decide_eq_false_iff_not]
            rintro rfl
            rw [HX.out] at HY
            have := HY.out
            injection this with this
            exact hxy this
          have HE := Lib.hid hne
          have hxy2 : (x == y) = false := beq_eq_false_iff_ne.2 hxy
          clear hne
          go_wp2
          refine wp_region_T #[[], [], [], [], [3], [], [], [], [], [8], [3, 4, 8, 9]] [3, 4, 8, 9] (fun w' => w'.cell? ⟨g1, o1 + k, none⟩ = some (.slice A1 x.length c1) ∧ w'.cell? ⟨g2, o2 + k, none⟩ = some (.slice B1 y.length d1) ∧ (convert 22 9 (.slice A1 x.length c1)).run Tryd.prog w' = .ok (.string ⟨x.toArray⟩) w' ∧ (convert 22 9 (.slice B1 y.length d1)).run Tryd.prog w' = .ok (.string ⟨y.toArray⟩) w') 11 rfl (by kernel_rfl) ?_
          (refine wpAnyT_free (i := 0) rfl (by kernel_rfl) rfl (fun _ _ _ h => h) (by kernel_rfl) (fun _ => by go_simp; try rfl) ?_; (try simp only [Act.put, List.setIfInBounds_toArray, List.set_cons_zero, List.set_cons_succ]))
          (refine wpAnyT_free (i := 1) rfl (by kernel_rfl) rfl (fun _ _ _ h => h) (by kernel_rfl) (fun _ => by go_simp; try rfl) ?_; (try simp only [Act.put, List.setIfInBounds_toArray, List.set_cons_zero, List.set_cons_succ]))
          (refine wpAnyT_free (i := 2) rfl (by kernel_rfl) rfl (fun _ _ _ h => h) (by kernel_rfl) (fun _ => by go_simp; try rfl) ?_; (try simp only [Act.put, List.setIfInBounds_toArray, List.set_cons_zero, List.set_cons_succ]))
          (refine wpAnyT_read (i := 3) rfl (by kernel_rfl) rfl (fun _ _ _ h => h) (by kernel_rfl) (⟨m1, m2, s1, s2⟩) (fun w hS_ => by obtain ⟨s_1, s_2, s_3, s_4⟩ := hS_; go_simp; try rfl) ?_; (try simp only [Act.put, List.setIfInBounds_toArray, List.set_cons_zero, List.set_cons_succ]))
          (refine wpAnyT_read (i := 4) rfl (by kernel_rfl) rfl (fun _ _ _ h => h) (by kernel_rfl) (⟨m1, m2, s1, s2⟩) (fun w hS_ => by obtain ⟨s_1, s_2, s_3, s_4⟩ := hS_; go_simp; try rfl) ?_; (try simp only [Act.put, List.setIfInBounds_toArray, List.set_cons_zero, List.set_cons_succ]))
          (refine wpAnyT_free (i := 5) rfl (by kernel_rfl) rfl (fun _ _ _ h => h) (by kernel_rfl) (fun _ => by go_simp; try rfl) ?_; (try simp only [Act.put, List.setIfInBounds_toArray, List.set_cons_zero, List.set_cons_succ]))
          (refine wpAnyT_free (i := 6) rfl (by kernel_rfl) rfl (fun _ _ _ h => h) (by kernel_rfl) (fun _ => by go_simp; try rfl) ?_; (try simp only [Act.put, List.setIfInBounds_toArray, List.set_cons_zero, List.set_cons_succ]))
          (refine wpAnyT_free (i := 7) rfl (by kernel_rfl) rfl (fun _ _ _ h => h) (by kernel_rfl) (fun _ => by go_simp; try rfl) ?_; (try simp only [Act.put, List.setIfInBounds_toArray, List.set_cons_zero, List.set_cons_succ]))
          (refine wpAnyT_read (i := 8) rfl (by kernel_rfl) rfl (fun _ _ _ h => h) (by kernel_rfl) (⟨m1, m2, s1, s2⟩) (fun w hS_ => by obtain ⟨s_1, s_2, s_3, s_4⟩ := hS_; go_simp; try rfl) ?_; (try simp only [Act.put, List.setIfInBounds_toArray, List.set_cons_zero, List.set_cons_succ]))
          (refine wpAnyT_read (i := 9) rfl (by kernel_rfl) rfl (fun _ _ _ h => h) (by kernel_rfl) (⟨m1, m2, s1, s2⟩) (fun w hS_ => by obtain ⟨s_1, s_2, s_3, s_4⟩ := hS_; go_simp; try rfl) ?_; (try simp only [Act.put, List.setIfInBounds_toArray, List.set_cons_zero, List.set_cons_succ]))
          (refine wpAnyT_free (i := 10) rfl (by kernel_rfl) rfl (fun _ _ _ h => h) (by kernel_rfl) (fun _ => by go_simp; try rfl) ?_; (try simp only [Act.put, List.setIfInBounds_toArray, List.set_cons_zero, List.set_cons_succ]))
          refine wpAnyT_done (by kernel_rfl) ?_ _
          go_wp2
          go_ret
          exact ⟨by rw [HE.out]; rfl, hb9.drew⟩
      · obtain rfl : k = xs.length := by omega
        have he : decide (xs = ys) = true := by
          rw [decide_eq_true_iff]
          have := HK.out
          rw [List.take_length, List.take_of_length_le (by rw [HL.out]; omega)] at this
          exact this
        have HE := Lib.hid he
        clear he
        go_wp2
        go_ret
        exact ⟨by rw [HE.out]; rfl, hb9⟩
  · have hne : decide (xs = ys) = false := by
      rw [decide_eq_false_iff_not]
      rintro rfl
      exact hl rfl
    have HE := Lib.hid hne
    have hl' : ((xs.length : Int) == (ys.length : Int)) = false := by rw [beq_eq_false_iff_ne]; omega
    have hl2 : ¬ (xs.length : Int) = (ys.length : Int) := by omega
    clear hne
    go_enter Tryd.func45, Tryd.ntmps45
    go_wp2
    go_ret
    exact ⟨by rw [HE.out]; rfl, Below.refl _ _⟩
end Go.Proofs.YtediidajdpdeiaaDoor

/- From a walk of a law to its row and card, where the row lists the variable crc.half; little arithmetic. -/
namespace Go.Proofs.YtediidajdpdeiaaDoor
open Go.RowKit Go.ChangeShapes Go.WideShapes Go.ChangeAt CrcM

theorem own_knob : ownKnob Tryd.prog.godebug = none := by kernel_rfl
theorem laid_out : laidOutB Tryd.prog = true := by kernel_rfl
theorem cells_u8 : Tryd.prog.cellsOf TB = 1 := by kernel_rfl
def i64 (n : Int) : Prop := -9223372036854775808 ≤ n ∧ n ≤ 9223372036854775807

theorem rem_any (n : Int) (m : Int) (hm : 0 < m) : -m < n.tmod m ∧ n.tmod m < m := by
  have h1 := Int.tmod_lt_of_pos n hm
  have h2 := Int.tmod_lt_of_pos (-n) hm
  rw [Int.neg_tmod] at h2
  exact ⟨by omega, h1⟩
/-- (n % m + m) % m lies from 0 to m -/
theorem rem_up (n : Int) (m : Int) (hm : 0 < m) : ∃ k : Nat, (n.tmod m + m).tmod m = (k : Int) ∧ (n.tmod m + m) % m = (k : Int) ∧ (k : Int) < m := by
  have h := rem_any n m hm
  have e : (n.tmod m + m).tmod m = (n.tmod m + m) % m := Int.tmod_eq_emod_of_nonneg (by omega)
  have h0 := Int.emod_nonneg (n.tmod m + m) (show m ≠ 0 by omega)
  have h1 := Int.emod_lt_of_pos (n.tmod m + m) hm
  exact ⟨((n.tmod m + m) % m).toNat, by rw [e, Int.toNat_of_nonneg h0], by rw [Int.toNat_of_nonneg h0], by rw [Int.toNat_of_nonneg h0]; exact h1⟩

/-- the row's condition gives the table -/
theorem halfAt_of_laid {W : World} (h : laidMetH Tryd.prog [("raceway/crc.half", Rows.laid_raceway_crc_half)] W) : HalfAt W := by
  rw [MakeChecks.laidMetH_plain _ _ _ (by kernel_rfl)] at h
  have hT : Lib.TabIs Tryd.prog W "raceway/crc.half" .u32 (halfN.map fun n : Nat => (n : Int)) :=
    Lib.tabIs_of_head (rest := []) (g := 0) (t := 117) (e := 24) (n := 16) (by kernel_rfl) (by kernel_rfl) Tryd.underlying117 Tryd.underlying24 (by kernel_rfl) (by kernel_rfl) h
  intro i hi
  have h1 := hT.cell (g := 0) (by kernel_rfl) i (by simpa [halfN] using hi)
  rw [h1]
  congr 2
  have : ∀ i : Fin 16, (halfN.map fun n : Nat => (n : Int)).getD i.val 0 = ((half i.val).toNat : Int) := by decide +kernel
  exact this ⟨i, hi⟩

theorem RdB.rd {W : World} {A : Option Addr} {l : List UInt8} (h : RdB W A l) : Rd Non W A l := fun j x hx => by
  obtain ⟨ad, e, _, hc⟩ := h j x hx
  exact ⟨ad, e, hc, .inl fun h => h.elim⟩

section
variable {H : Type} {enc : TypeId × Value → H} {W W' : World}

theorem i64_of {n : Int} (h : (Lit.int .i64 n).wf = true) : i64 n := by
  simpa [Lit.wf, IntKind.min, IntKind.max, IntKind.signed, IntKind.bits, i64] using h
theorem u8_of {n : Int} (h : (Lit.int .u8 n).wf = true) : ∃ x : UInt8, n = (x.toNat : Int) := by
  have h' : 0 ≤ n ∧ n ≤ 255 := by simpa [Lit.wf, IntKind.min, IntKind.max, IntKind.signed, IntKind.bits] using h
  refine ⟨UInt8.ofNat n.toNat, ?_⟩
  rw [UInt8.toNat_ofNat', Nat.mod_eq_of_lt (by omega)]
  omega

/-- lists of bytes that were there at W -/
def RdBs (W : World) (A : Option Addr) (ls : List (List UInt8)) : Prop := ∀ j l, ls[j]? = some l → ∃ g o B c, A = some ⟨g, o, none⟩ ∧ g < W.heap.size ∧ W.cell? ⟨g, o + j, none⟩ = some (.slice B l.length c) ∧ l.length ≤ c ∧ c ≤ maxLen ∧ RdB W B l

theorem post_law {f : Func} {s : ChangeSpec} {args : Array Value} {ds : List (DataW H)} {before : List MemPlace}
    (hW : DataW.Whole enc Tryd.prog f.params.toList s.vars false W args.toList ds [] before) (hrt : f.resultTypes.toList = [4] ∧ f.resultTypes.size = 1)
    (hvars : s.vars = []) (hr : (f.params.toList.all fun t => Tryd.prog.readableRec t && decide (t < Tryd.prog.types.size)) = true)
    (hs : s.fn H (ds ++ []) = { results := [.lit (.bool true)], args := ds }) (hb : Below W.heap.size W W') : s.post enc Tryd.prog f false true false false W args (.bool true) W' := by
  have hW' := hW
  obtain ⟨p, q, hA, hV, rfl, _, _⟩ := hW
  rw [hvars] at hV
  obtain ⟨_, rfl⟩ := trodVars_none hV
  rw [List.append_nil] at hW'
  refine ⟨ds, [], p, [], p, [], by simpa using hW', ?_, ?_, ?_, hb.frame _, fun h => by cases h⟩
  · rw [hs, hrt.1, hrt.2]
    exact trodAll_cons_mk (shut_bool Tryd.underlying4 _) trodAll_mk0
  · rw [hs]
    exact trodAll_below laid_out _ _ _ _ hr hA hb fun x hx => by simpa using hW'.lt x hx
  · rw [hs, hvars]; rfl
end
end Go.Proofs.YtediidajdpdeiaaDoor

/- The calls that the laws of the log play (layer 7): the walk. -/
namespace Go.Proofs.YtediidajdpdeiaaDoor
open Go.RowKit CrcM
set_option maxRecDepth 100000

/-- a call -/
structure Act07 where
  kind : Int
  n : Int
  flip : Int
  b : List UInt8

/-- calls that lie in memory, as the law was handed them -/
def ActsAt (W : World) (A : Option Addr) (acts : List Act07) : Prop := ∀ j a, acts[j]? = some a → ∃ g o B c, A = some ⟨g, o, none⟩ ∧ g < W.heap.size ∧
  W.cell? ⟨g, o + j * 4, none⟩ = some (.int .i64 a.kind) ∧ W.cell? ⟨g, o + j * 4 + 1, none⟩ = some (.int .i64 a.n) ∧ W.cell? ⟨g, o + j * 4 + 2, none⟩ = some (.int .i64 a.flip) ∧
  W.cell? ⟨g, o + j * 4 + 3, none⟩ = some (.slice B a.b.length c) ∧ a.b.length ≤ c ∧ c ≤ maxLen ∧ RdB W B a.b ∧ i64 a.kind ∧ i64 a.n ∧ i64 a.flip

/-- WHAT plays leaves: a log that is up and has the law -/
def Played (W : World) (e : Ending) (w' : World) : Prop := ∃ b L, e = .returned (.pointer (some ⟨b, 0, none⟩)) ∧ LiveG W w' b L Non ∧ L.inv 60 ∧ L.down = false

set_option maxHeartbeats 1000000 in
theorem plays_07 (W : World) (hh : HalfAt W) (per : Int) (A : Option Addr) (acts : List Act07) (c : Nat) (hA : ActsAt W A acts) (hlen : acts.length ≤ maxLen) :
    Calls Tryd.prog 42 #[.int .i64 per, .slice A acts.length c] W (Played W) := by
  unfold maxLen at hlen
  obtain ⟨kp, hp1, hp2, hp3⟩ := rem_up per 9 (by decide)
  have hpr := rem_any per 9 (by decide)
  have wz1 : IntKind.i64.wrap (per.tmod 9) = per.tmod 9 := by rw [IntKind.wrap_i64]; omega
  have wz2 : IntKind.i64.wrap (per.tmod 9 + 9) = per.tmod 9 + 9 := by rw [IntKind.wrap_i64]; omega
  have wz3 : IntKind.i64.wrap (kp : Int) = (kp : Int) := by rw [IntKind.wrap_i64]; omega
  have wz4 : IntKind.i64.wrap (1 + (kp : Int)) = 1 + (kp : Int) := by rw [IntKind.wrap_i64]; omega
  go_enter Tryd.func42, Tryd.ntmps42
  go_wp2_with (go_at_call 34; refine (new_G (Below.refl _ _) (1 + (kp : Int)) (by omega) (by omega)).mono ?_; rintro e w1 ⟨b, rfl, h1, -⟩)
  have hinv0 : (Lg.new (1 + (kp : Int)).toNat).inv 0 := Lg.inv_new (by omega) (by omega)
  have h1' := h1.sub (X' := Non) (fun _ h => h.elim)
  generalize Lg.new (1 + (kp : Int)).toNat = L0 at *
  clear wz1 wz2 wz3 wz4 hp1 hp2 hp3 hpr h1
  go_loopw [7] (fun i wr => ∃ (k : Nat) (L : Lg), k ≤ acts.length ∧ k ≤ 50 ∧ i = .int .i64 k ∧ L.inv k ∧ LiveG W wr b L Non) (fun i _ => 50 - (intOf i).toNat)
  case atStart => exact ⟨0, L0, by omega, by omega, rfl, hinv0, h1'⟩
  case round =>
    obtain ⟨k, L, hk, hk6, rfl, hinv, hL⟩ := hrel
    obtain ⟨i0, i1, i2, i3, i4⟩ := hinv.calls (by omega)
    have hlL := hinv.len_le
    by_cases hlt : k < acts.length ∧ k < 50
    · obtain ⟨hlt, hlt6⟩ := hlt
      obtain ⟨a, ha⟩ : ∃ a, acts[k]? = some a := ⟨_, List.getElem?_eq_getElem hlt⟩
      obtain ⟨g, o, B, cb, rfl, hg, e0, e1, e2, e3, hcb, hcm, hB, ik, inn, ifl⟩ := hA k a ha
      have hbel := hL.below
      have f0 : wr.cell? ⟨g, o + k * 4, none⟩ = some (.int .i64 a.kind) := (hbel.cell (p := ⟨g, o + k * 4, none⟩) hg).trans e0
      have f1 : wr.cell? ⟨g, o + k * 4 + 1, none⟩ = some (.int .i64 a.n) := (hbel.cell (p := ⟨g, o + k * 4 + 1, none⟩) hg).trans e1
      have f2 : wr.cell? ⟨g, o + k * 4 + 2, none⟩ = some (.int .i64 a.flip) := (hbel.cell (p := ⟨g, o + k * 4 + 2, none⟩) hg).trans e2
      have f3 : wr.cell? ⟨g, o + k * 4 + 3, none⟩ = some (.slice B a.b.length cb) := (hbel.cell (p := ⟨g, o + k * 4 + 3, none⟩) hg).trans e3
      clear e0 e1 e2 e3 ha
      obtain ⟨kd, n, fl, bb⟩ := a
      simp only at f0 f1 f2 f3 hcb hB ik inn ifl
      obtain ⟨l, hl⟩ : ∃ l, l = bb.take 300 := ⟨_, rfl⟩
      have l1 : l.length ≤ bb.length := by rw [hl, List.length_take]; omega
      have l2 : l.length ≤ 300 := by rw [hl, List.length_take]; omega
      have l3 : (l.length : Int) ≤ (cb : Int) := by omega
      have hr : RdB W B l := hl ▸ hB.take 300
      have hmin : ∀ w, (Builtin.min_ #[3, 3] 3 #[.int .i64 (bb.length : Int), .int .i64 300]).run Tryd.prog w = .ok (.int .i64 (l.length : Int)) w := by
        intro w
        rw [run_min_int2]
        have : (l.length : Int) = if (300 : Int) < (bb.length : Int) then 300 else (bb.length : Int) := by rw [hl, List.length_take]; split <;> omega
        rw [this]
      have i0' := i0 l (by omega)
      clear hl hB hcb hA i0
      have hL' := hL.mono' ((Below.refl wr.heap.size wr).alloc (Nat.le_refl _) (.cells #[.int .i64 kd, .int .i64 n, .int .i64 fl, .slice B bb.length cb] 69))
      have KL := Lib.hid hlt
      unfold i64 at ik inn ifl
      by_cases k0 : kd = 0
      · subst k0
        go_wp2_with (go_at_call 35; refine (append_G hL' hh (by omega) B l cb (hr.arg hL'.below) (by omega)).mono ?_; rintro e w2 ⟨rfl, h2, -⟩)
        go_roundw
        case rel => exact ⟨k + 1, _, by omega, by omega, by go_num, i0', h2⟩
        case measure => simp [intOf]; omega
      have n0 : (kd == 0) = false := by simpa using k0
      by_cases k1 : kd = 1
      · subst k1
        go_wp2_with (go_at_call 46; refine (sync_G hL').mono ?_; rintro e w2 ⟨rfl, h2, -⟩)
        go_roundw
        case rel => exact ⟨k + 1, _, by omega, by omega, by go_num, i1, h2⟩
        case measure => simp [intOf]; omega
      have n1 : (kd == 1) = false := by simpa using k1
      by_cases k2 : kd = 2
      · subst k2
        go_wp2_with (go_at_call 47; refine (drop_G hL' n).mono ?_; rintro e w2 ⟨rfl, h2, -⟩)
        go_roundw
        case rel => exact ⟨k + 1, _, by omega, by omega, by go_num, i2 n, h2⟩
        case measure => simp [intOf]; omega
      have n2 : (kd == 2) = false := by simpa using k2
      by_cases k3 : kd = 3
      · subst k3
        go_wp2_with (go_at_call 43; refine (crash_G hL' n fl inn.2 ifl.2 inn.1 ifl.1).mono ?_; rintro e w2 ⟨rfl, h2, -⟩)
        go_roundw
        case rel => exact ⟨k + 1, _, by omega, by omega, by go_num, i3 n fl, h2⟩
        case measure => simp [intOf]; omega
      have n3 : (kd == 3) = false := by simpa using k3
      by_cases k4 : kd = 4
      · subst k4
        go_wp2_with (go_at_call 44; refine (restart_G hL' hh).mono ?_; rintro e w2 ⟨rfl, h2, -⟩)
        go_roundw
        case rel => exact ⟨k + 1, _, by omega, by omega, by go_num, i4, h2⟩
        case measure => simp [intOf]; omega
      have n4 : (kd == 4) = false := by simpa using k4
      go_wp2
      go_roundw
      case rel => exact ⟨k + 1, _, by omega, by omega, by go_num, hinv.mono (by omega), hL'⟩
      case measure => simp [intOf]; omega
    · have hge : acts.length ≤ k ∨ 50 ≤ k := by omega
      have hinv' : L.inv 60 := hinv.mono (by omega)
      by_cases hk2 : k < acts.length
      all_goals
        clear hA i0 i1 i2 i3 i4
        cases hd : L.down
        · go_wp2_with (first
            | (go_at_call 48; refine (down_G hL).mono ?_; rw [hd]; rintro e w2 ⟨rfl, rfl⟩))
          go_ret
          exact ⟨b, L, rfl, hL, hinv', hd⟩
        · obtain ⟨L', hr, hR⟩ := hinv'.restart hd (by omega)
          have HR := Lib.hid hr
          clear hr
          go_wp2_with (first
            | (go_at_call 48; refine (down_G hL).mono ?_; rw [hd]; rintro e w2 ⟨rfl, rfl⟩)
            | (go_at_call 44; refine (restart_G hL hh).mono ?_; rw [HR.out]; rintro e w2 ⟨rfl, h2, -⟩))
          go_ret
          exact ⟨b, L', rfl, h2, hR.inv, hR.down⟩
end Go.Proofs.YtediidajdpdeiaaDoor

/- The chapter's example (layer 7), in plain words. -/
namespace Go.Proofs.YtediidajdpdeiaaDoor
open CrcM

def exB (k : Nat) : List UInt8 := [UInt8.ofNat (120 + k)]
def exL : Nat → Lg
  | 0 => Lg.new 2
  | k + 1 => ((exL k).append (exB k)).1
def exL3 : Lg := (exL 3).sync.1
def exL4 : Lg := (exL3.append [119]).1
def exL5 : Lg := (exL4.crash 0 0).1
def exL6 : Lg := exL5.restart.1
theorem ex_len : ∀ k : Fin 4, (exL k.val).len ≤ 4611686018427387904 := by decide +kernel
theorem ex_vals : exL3.len ≤ 4611686018427387904 ∧ exL4.len = 4 ∧ exL4.safe = 3 ∧ (exL4.crash 0 0).2 = 0 ∧ exL5.restart.2 = 0 ∧ exL6.len = 3 ∧ exL6.segs.length = 2 := by decide +kernel
end Go.Proofs.YtediidajdpdeiaaDoor
