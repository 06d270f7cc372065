/- The chapter's example (layer 7), in plain words. -/
import Derived.Test.YtediidajdpdeiaaDoorSegP3
namespace Go.Proofs.YtediidajdpdeiaaDoor
open CrcM

def exB (k : Nat) : List UInt8 := [UInt8.ofNat (120 + k)]
def exL : Nat → Lg
  | 0 => Lg.new 2
  | k + 1 => ((exL k).append (exB k)).1
def exL3 : Lg := (exL 3).sync.1
def exL4 : Lg := (exL3.append [119]).1
def exL5 : Lg := (exL4.crash 0 0).1
def exL6 : Lg := exL5.restart.1
theorem ex_len : ∀ k : Fin 4, (exL k.val).len ≤ 4611686018427387904 := by decide +kernel
theorem ex_vals : exL3.len ≤ 4611686018427387904 ∧ exL4.len = 4 ∧ exL4.safe = 3 ∧ (exL4.crash 0 0).2 = 0 ∧ exL5.restart.2 = 0 ∧ exL6.len = 3 ∧ exL6.segs.length = 2 := by decide +kernel
end Go.Proofs.YtediidajdpdeiaaDoor
