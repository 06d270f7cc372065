/- The log as the laws see it: all that is owned is newer than the law's beginning. -/
import Derived.Test.YtediidajdpdeiaaDoorSegR
import Derived.Test.YtediidajdpdeiaaDoorSegC
import Derived.Test.YtediidajdpdeiaaDoorSegP3
import Derived.Test.YtediidajdpdeiaaDoorLive
namespace Go.Proofs.YtediidajdpdeiaaDoor
open Go.RowKit CrcM
set_option maxRecDepth 100000

/-- a log that was made since W, of whose memory nothing has turned; X is kept apart from it -/
def LiveG (W w : World) (b : Nat) (L : Lg) (X : Nat → Prop) : Prop := ∃ S, LogAt S w b L ∧ (∀ x, S x → W.heap.size ≤ x) ∧ Below W.heap.size W w ∧ ∀ x, X x → ¬ S x ∧ x < w.heap.size
/-- what is kept apart is as it was -/
def XK (X : Nat → Prop) (w w' : World) : Prop := ∀ x, X x → w'.heap[x]? = w.heap[x]?
theorem XK.trans {X : Nat → Prop} {a b c : World} (h : XK X a b) (k : XK X b c) : XK X a c := fun x hx => (k x hx).trans (h x hx)
theorem XK.refl (X : Nat → Prop) (w : World) : XK X w w := fun _ _ => rfl

section
variable {W w w' : World} {b : Nat} {L : Lg} {X : Nat → Prop}
theorem LiveG.below (h : LiveG W w b L X) : Below W.heap.size W w := by
  obtain ⟨S, _, _, hb, _⟩ := h
  exact hb
theorem LiveG.ltX (h : LiveG W w b L X) : ∀ x, X x → x < w.heap.size := fun x hx => by
  obtain ⟨S, _, _, _, hX⟩ := h
  exact (hX x hx).2
theorem LiveG.sub {X' : Nat → Prop} (h : LiveG W w b L X) (hs : ∀ x, X' x → X x) : LiveG W w b L X' := by
  obtain ⟨S, hd, hS, hb, hX⟩ := h
  exact ⟨S, hd, hS, hb, fun x hx => hX x (hs x hx)⟩
/-- what is new is kept apart too -/
theorem LiveG.mono (h : LiveG W w b L X) (f : Below w.heap.size w w') : LiveG W w' b L (Up X w w') := by
  obtain ⟨S, hd, hS, hb, hX⟩ := h
  refine ⟨S, hd.below f, hS, hb.trans (f.mono hb.size), fun x hx => ?_⟩
  rcases hx with hx | hx
  · exact ⟨(hX x hx).1, Nat.lt_of_lt_of_le (hX x hx).2 f.size⟩
  · refine ⟨fun hs => ?_, hx.2⟩
    obtain ⟨_, H, A, c, ps, hl⟩ := hd
    have := hl.lt x hs
    have := hx.1
    omega
theorem LiveG.mono' (h : LiveG W w b L X) (f : Below w.heap.size w w') : LiveG W w' b L X := (h.mono f).sub fun _ hx => .inl hx
theorem LiveG.turned {S : Nat → Prop} (hS : ∀ x, S x → W.heap.size ≤ x) (hb : Below W.heap.size W w) (hX : ∀ x, X x → ¬ S x ∧ x < w.heap.size) {L' : Lg} (hi : IsLog (Up S w w') w' (.pointer (some ⟨b, 0, none⟩)) L') (hf : Fr S w w') : LiveG W w' b L' X ∧ XK X w w' ∧ BK w w' := by
  obtain ⟨b', e, h⟩ := hi
  injection e with e
  injection e with e
  injection e with e
  subst e
  exact ⟨⟨_, h, fun x hx => hx.elim (hS x) (fun h => Nat.le_trans hb.size h.1), ⟨hf.os.trans hb.os, hf.tape.trans hb.tape, hf.output.trans hb.output, Nat.le_trans hb.size hf.size,
    fun k hk => (hf.out k (Nat.lt_of_lt_of_le hk hb.size) fun hh => by have := hS k hh; omega).trans (hb.block k hk)⟩, fun x hx => ⟨fun hs => hs.elim (hX x hx).1 (fun q => by have := (hX x hx).2; have := q.1; omega), Nat.lt_of_lt_of_le (hX x hx).2 hf.size⟩⟩, fun x hx => hf.out x (hX x hx).2 (hX x hx).1, hf.byt⟩
end

/-- WHAT a change of a live log leaves -/
def LiveGDid (W w : World) (b : Nat) (X : Nat → Prop) (r : Lg × Int) (e : Ending) (w' : World) : Prop := e = .returned (.int .i64 r.2) ∧ LiveG W w' b r.1 X ∧ XK X w w' ∧ BK w w'
def LiveGApp (W w : World) (b : Nat) (X : Nat → Prop) (r : Lg × Nat × Int) (e : Ending) (w' : World) : Prop := e = .returned (.tuple #[.int .i64 (r.2.1 : Int), .int .i64 r.2.2]) ∧ LiveG W w' b r.1 X ∧ XK X w w' ∧ BK w w'

section
variable {W w : World} {b : Nat} {L : Lg} {X : Nat → Prop}
theorem append_G (h : LiveG W w b L X) (hh : HalfAt W) (hlen : L.len ≤ 4611686018427387904) (B : Option Addr) (rec : List UInt8) (cb : Nat) (hr : Arg W w B rec) (hrl : rec.length ≤ 70368744177664) :
    Calls Tryd.prog 35 #[.pointer (some ⟨b, 0, none⟩), .slice B rec.length cb] w (LiveGApp W w b X (L.append rec)) := by
  obtain ⟨S, ⟨hu, H, A, c, ps, h⟩, hS, hb, hX⟩ := h
  exact (appendL h hu (hh.below hb hh.lt) hlen B rec cb (hr S hS) hrl).mono fun e w' ⟨h1, h2, h3⟩ => ⟨h1, LiveG.turned hS hb hX h2 h3⟩
theorem sync_G (h : LiveG W w b L X) : Calls Tryd.prog 46 #[.pointer (some ⟨b, 0, none⟩)] w (LiveGDid W w b X L.sync) := by
  obtain ⟨S, ⟨hu, H, A, c, ps, h⟩, hS, hb, hX⟩ := h
  exact (syncL h hu).mono fun e w' ⟨h1, h2, h3⟩ => ⟨h1, LiveG.turned hS hb hX h2 h3⟩
theorem drop_G (h : LiveG W w b L X) (n : Int) : Calls Tryd.prog 47 #[.pointer (some ⟨b, 0, none⟩), .int .i64 n] w (LiveGDid W w b X (L.drop n)) := by
  obtain ⟨S, ⟨hu, H, A, c, ps, h⟩, hS, hb, hX⟩ := h
  exact (dropL h hu n).mono fun e w' ⟨h1, h2, h3⟩ => ⟨h1, LiveG.turned hS hb hX h2 h3⟩
theorem crash_G (h : LiveG W w b L X) (keep flip : Int) (h1 : keep ≤ 9223372036854775807) (h2 : flip ≤ 9223372036854775807) (h3 : -9223372036854775808 ≤ keep) (h4 : -9223372036854775808 ≤ flip) :
    Calls Tryd.prog 43 #[.pointer (some ⟨b, 0, none⟩), .int .i64 keep, .int .i64 flip] w (LiveGDid W w b X (L.crash keep flip)) := by
  obtain ⟨S, ⟨hu, H, A, c, ps, h⟩, hS, hb, hX⟩ := h
  exact (crashL h hu keep flip h1 h2 h3 h4).mono fun e w' ⟨h1, h2, h3⟩ => ⟨h1, LiveG.turned hS hb hX h2 h3⟩
theorem restart_G (h : LiveG W w b L X) (hh : HalfAt W) : Calls Tryd.prog 44 #[.pointer (some ⟨b, 0, none⟩)] w (LiveGDid W w b X L.restart) := by
  obtain ⟨S, ⟨hu, H, A, c, ps, h⟩, hS, hb, hX⟩ := h
  exact (restartL h hu (hh.below hb hh.lt) (fun hx => by have := hS _ hx; have := hh.lt; omega)).mono fun e w' ⟨h1, h2, h3⟩ => ⟨h1, LiveG.turned hS hb hX h2 h3⟩
def LiveGTold (W w : World) (b : Nat) (L : Lg) (X : Nat → Prop) (v : Value) (e : Ending) (w' : World) : Prop := e = .returned v ∧ LiveG W w' b L X ∧ Below w.heap.size w w'
theorem len_G (h : LiveG W w b L X) : Calls Tryd.prog 37 #[.pointer (some ⟨b, 0, none⟩)] w (LiveGTold W w b L X (.int .i64 (L.len : Int))) := by
  obtain ⟨S, ⟨hu, H, A, c, ps, hl⟩, -⟩ := id h
  exact (lenL hl).mono fun e w' ⟨h1, h2⟩ => ⟨h1, h.mono' h2, h2⟩
theorem base_G (h : LiveG W w b L X) : Calls Tryd.prog 39 #[.pointer (some ⟨b, 0, none⟩)] w (LiveGTold W w b L X (.int .i64 (L.base : Int))) := by
  obtain ⟨S, ⟨hu, H, A, c, ps, hl⟩, -⟩ := id h
  exact (baseL hl).mono fun e w' ⟨h1, h2⟩ => ⟨h1, h.mono' h2, h2⟩
theorem safe_G (h : LiveG W w b L X) : Calls Tryd.prog 38 #[.pointer (some ⟨b, 0, none⟩)] w (LiveGTold W w b L X (.int .i64 (L.safe : Int))) := by
  obtain ⟨S, ⟨hu, H, A, c, ps, hl⟩, -⟩ := id h
  exact (safeL hl).mono fun e w' ⟨h1, h2⟩ => ⟨h1, h.mono' h2, h2⟩
theorem down_G (h : LiveG W w b L X) : Calls Tryd.prog 48 #[.pointer (some ⟨b, 0, none⟩)] w fun e w' => e = .returned (.bool L.down) ∧ w = w' := by
  obtain ⟨S, ⟨hu, H, A, c, ps, hl⟩, -⟩ := h
  exact downL hl
/-- how many disks Segments tells -/
def SegsLen (W w : World) (b : Nat) (L : Lg) (X : Nat → Prop) (e : Ending) (w' : World) : Prop := ∃ A c, e = .returned (.slice A L.segs.length c) ∧ LiveG W w' b L X ∧ Below w.heap.size w w'
theorem segments_G (h : LiveG W w b L X) : Calls Tryd.prog 36 #[.pointer (some ⟨b, 0, none⟩)] w (SegsLen W w b L X) := by
  obtain ⟨S, ⟨hu, H, A, c, ps, hl⟩, -⟩ := id h
  refine (segmentsL hl).mono ?_
  rintro e w' ⟨v, vals, Ro, rfl, hr, hd, hb⟩
  obtain ⟨A', c', rfl, -⟩ := hr.val
  exact ⟨A', c', by rw [hd.1], h.mono' hb, hb⟩
theorem new_G (hb : Below W.heap.size W w) (per : Int) (h1 : 1 ≤ per) (h2 : per ≤ 1024) : Calls Tryd.prog 34 #[.int .i64 per] w fun e w' => ∃ b, e = .returned (.tuple #[.pointer (some ⟨b, 0, none⟩), .int .i64 0]) ∧ LiveG W w' b (Lg.new per.toNat) (fun x => x < w.heap.size) ∧ Below w.heap.size w w' := by
  refine (newL w per).mono ?_
  rintro e w' h
  rw [if_pos ⟨h1, h2⟩] at h
  obtain ⟨p, rfl, ⟨b, rfl, hl⟩, hb'⟩ := h
  exact ⟨b, rfl, ⟨_, hl, fun x hx => Nat.le_trans hb.size hx.1, hb.trans (hb'.mono hb.size), fun x hx => ⟨fun hs => by have := hs.1; omega, Nat.lt_of_lt_of_le hx hb'.size⟩⟩, hb'⟩
end
end Go.Proofs.YtediidajdpdeiaaDoor
