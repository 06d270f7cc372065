/- What a log of segments is and does (layer 7), as plain functions: no program is in sight. -/
import Derived.Test.YtediidajdpdeiaaDoorDiskM
import Derived.Test.YtediidajdpdeiaaDoorNum
namespace Go.Proofs.YtediidajdpdeiaaDoor
open CrcM

structure Sg where
  d : Dk
  base : Nat
  recs : List (List UInt8)
  safe : Nat

structure Lg where
  per : Nat
  segs : List Sg
  down : Bool

/-- the frame with which a segment begins -/
def headB (base : Nat) : List UInt8 := frame (numB base)

/-- the bodies of the frames from a place on, and where they end -/
def framesF : Nat → List UInt8 → Nat → List (List UInt8) × Nat
  | 0, _, at_ => ([], at_)
  | f + 1, b, at_ => match next b at_ with
    | .error _ => ([], at_)
    | .ok (body, en) => (body :: (framesF f b en).1, (framesF f b en).2)
def framesOf (b : List UInt8) : List (List UInt8) × Nat := framesF (b.length + 1) b 0

namespace Sg
def ok (g : Sg) : Prop := g.base ≤ 4611686018427387904 ∧ g.recs.length ≤ 349525 ∧ g.safe ≤ g.recs.length ∧ (∀ r ∈ g.recs, r.length ≤ 65536)
/-- a segment of a log that is up: its disk is up, and has room for its records -/
def up (g : Sg) : Prop := g.d.down = false ∧ 12 * g.recs.length ≤ g.d.all.length
def sync (g : Sg) : Sg := ⟨g.d.sync.1, g.base, g.recs, g.recs.length⟩
def crash (keep flip : Int) (g : Sg) : Sg := ⟨(g.d.crash keep flip).1, g.base, g.recs, g.safe⟩
def new (base : Nat) : Sg := ⟨(Dk.new.append (headB base)).1, base, [], 0⟩
end Sg

/-- what a segment's disk says when it is read: the segment, and whether all its bytes are frames -/
def scan (D : Dk) (due : Int) : Option (Sg × Bool) :=
  match (framesOf D.all).1 with
  | [] => none
  | hd :: recs => match readNum hd with
    | .error _ => none
    | .ok (n, s) => if s = hd.length ∧ (due < 0 ∨ (n : Int) = due) then some (⟨(D.cut (framesOf D.all).2).1, n, recs, recs.length⟩, decide ((framesOf D.all).2 = D.all.length)) else none

def restartK (per : Nat) (r : Option (Sg × Bool)) (go : Int → List Sg) : List Sg := match r with
  | none => []
  | some (k, whole) => k :: if whole = false ∨ k.recs.length < per then [] else go ((k.base + k.recs.length : Nat) : Int)
def restartS (per : Nat) : List Sg → Int → List Sg
  | [], _ => []
  | g :: t, due => restartK per (scan g.d.restart.1 due) (restartS per t)

def safeS : List Sg → Nat → Nat
  | [], n => n
  | g :: t, _ => if g.safe < g.recs.length then g.base + g.safe else safeS t (g.base + g.safe)

def dropS : List Sg → Int → List Sg
  | a :: b :: t, n => if (b.base : Int) ≤ n then dropS (b :: t) n else a :: b :: t
  | l, _ => l

namespace Lg
def ok (L : Lg) : Prop := 1 ≤ L.per ∧ L.per ≤ 1024 ∧ L.segs.length ≤ 256 ∧ ∀ g ∈ L.segs, g.ok
def up (L : Lg) : Prop := L.down = false → ∀ g ∈ L.segs, g.up
def new (per : Nat) : Lg := ⟨per, [], false⟩
def len (L : Lg) : Nat := if L.down then 0 else match L.segs.getLast? with
  | none => 0
  | some g => g.base + g.recs.length
def base (L : Lg) : Nat := if L.down then 0 else match L.segs.head? with
  | none => 0
  | some g => g.base
def safe (L : Lg) : Nat := if L.down then 0 else safeS L.segs L.base
def recs (L : Lg) : List (List UInt8) := if L.down then [] else L.segs.flatMap (·.recs)
def full (L : Lg) : Bool := match L.segs.getLast? with
  | none => true
  | some g => decide (g.recs.length = L.per)
/-- the segments to which a record is added -/
def room (L : Lg) : List Sg := if L.full then L.segs ++ [Sg.new L.len] else L.segs
def append (L : Lg) (rec : List UInt8) : Lg × Nat × Int :=
  if L.down then (L, 0, 10) else if 65536 < rec.length then (L, 0, 3) else if L.full = true ∧ L.segs.length = 256 then (L, 0, 7)
  else match L.room.getLast? with
  | none => (L, 0, 0)
  | some g => if (g.d.append (frame rec)).2 = 0 then (⟨L.per, L.room.dropLast ++ [⟨(g.d.append (frame rec)).1, g.base, g.recs ++ [rec], g.safe⟩], false⟩, g.base + g.recs.length, 0)
    else (⟨L.per, L.room, false⟩, 0, (g.d.append (frame rec)).2)
def sync (L : Lg) : Lg × Int := if L.down then (L, 10) else (⟨L.per, L.segs.map Sg.sync, false⟩, 0)
def drop (L : Lg) (n : Int) : Lg × Int := if L.down then (L, 10) else if (L.safe : Int) < n then (L, 2) else (⟨L.per, dropS L.segs n, false⟩, 0)
def crash (L : Lg) (keep flip : Int) : Lg × Int := if L.down then (L, 10) else if keep < 0 then (L, 2) else (⟨L.per, L.segs.map (Sg.crash keep flip), true⟩, 0)
def restart (L : Lg) : Lg × Int := if L.down then (⟨L.per, restartS L.per L.segs (-1), false⟩, 0) else (L, 9)
end Lg
end Go.Proofs.YtediidajdpdeiaaDoor
