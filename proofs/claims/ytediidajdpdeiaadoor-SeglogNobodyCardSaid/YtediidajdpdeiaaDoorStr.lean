/- Bytes as texts. -/
import Derived.Test.YtediidajdpdeiaaDoorSlices
import Derived.Lib.SlBytesConst
namespace Go.Proofs.YtediidajdpdeiaaDoor
open Go.RowKit

/-- bytes as a text -/
abbrev str (l : List UInt8) : Value := .string ⟨l.toArray⟩

theorem foldl_push_nat (l : List UInt8) : ∀ s : ByteArray, (l.map fun x => (x.toNat : Int)).foldl (fun r n => r.push (UInt8.ofNat n.toNat)) s = ⟨s.data ++ l.toArray⟩ := by
  induction l with
  | nil => intro s; simp
  | cons x l ih =>
    intro s
    rw [List.map_cons, List.foldl_cons, ih]
    congr 1
    simp [ByteArray.push]

/-- string(b) -/
theorem run_str {S : Nat → Prop} {w : World} {A : Option Addr} {l : List UInt8} (hr : Rd S w A l) (c : Nat) :
    (convert 22 9 (.slice A l.length c)).run Tryd.prog w = .ok (str l) w := by
  rw [run_convert_bytes_string (P := Tryd.prog) w 22 9 TB A l.length c Tryd.underlying22 Tryd.underlying5 Tryd.underlying9]
  rcases A with _ | ad
  · obtain rfl := hr.none_
    simp [Conv.bytesToString, str, ByteArray.empty, ByteArray.emptyWithCapacity]; rfl
  · have h1 := run_loadCells_list (P := Tryd.prog) w ad (l.map byteV) (hr.cells rfl)
    rw [List.length_map] at h1
    rw [run_bytesToString (P := Tryd.prog) w ad l.length c (l.map fun x => (x.toNat : Int)) (by rw [h1, List.map_map]; rfl), foldl_push_nat]
    simp [str, ByteArray.empty, ByteArray.emptyWithCapacity]; rfl

theorem str_eq (a b : List UInt8) : (str a = str b) ↔ a = b := by
  constructor
  · intro h
    injection h with h
    injection h with h
    simpa using h
  · rintro rfl; rfl
end Go.Proofs.YtediidajdpdeiaaDoor
