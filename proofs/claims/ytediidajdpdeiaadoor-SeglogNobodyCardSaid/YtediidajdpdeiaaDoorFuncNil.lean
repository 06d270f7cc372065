/- A function value is not nil. -/
import Derived.Test.YtediidajdpdeiaaDoorBase
namespace Go.Proofs.YtediidajdpdeiaaDoor
open Go.RowKit

theorem run_equalIn_func_nil {P : Program} {t : TypeId} {ps rs : Array TypeId} {vd : Bool} (h : P.underlying t = some (.func ps rs vd)) (d : Nat) (f : Fn) (a c : Array Value) (w : World) :
    (Op.equalIn (d + 1) t (.func f a c) .nilFunc).run P w = .ok false w := by
  simp [Op.equalIn, run_underlying h]
theorem run_eql_func_nil {P : Program} {t : TypeId} {ps rs : Array TypeId} {vd : Bool} (h : P.underlying t = some (.func ps rs vd)) (f : Fn) (a c : Array Value) (w : World) :
    (binOp .eql t (.func f a c) .nilFunc).run P w = .ok (.bool false) w := by
  simp only [binOp]
  simp [show Op.equal t (.func f a c) .nilFunc = Op.equalIn (9999 + 1) t (.func f a c) .nilFunc from rfl, run_equalIn_func_nil h]
theorem run_neq_func_nil {P : Program} {t : TypeId} {ps rs : Array TypeId} {vd : Bool} (h : P.underlying t = some (.func ps rs vd)) (f : Fn) (a c : Array Value) (w : World) :
    (binOp .neq t (.func f a c) .nilFunc).run P w = .ok (.bool true) w := by
  simp only [binOp]
  simp [show Op.equal t (.func f a c) .nilFunc = Op.equalIn (9999 + 1) t (.func f a c) .nilFunc from rfl, run_equalIn_func_nil h]

end Go.Proofs.YtediidajdpdeiaaDoor
