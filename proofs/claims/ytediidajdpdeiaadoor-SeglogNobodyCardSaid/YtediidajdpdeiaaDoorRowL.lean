/- From a walk of a law to its row and card, where the row lists the variable crc.half; little arithmetic. -/
import Derived.Test.YtediidajdpdeiaaDoorRows
import Derived.Test.YtediidajdpdeiaaDoorTie
import Derived.Test.YtediidajdpdeiaaDoorOpen
import Derived.Test.YtediidajdpdeiaaDoorCrc
import Derived.JoinedCond
import Derived.Lib.SmallJoins
import Derived.Lib.LaidTab
import Derived.Lay
import Derived.LaidOnce
import Derived.SevenTiedAt
namespace Go.Proofs.YtediidajdpdeiaaDoor
open Go.RowKit Go.ChangeShapes Go.WideShapes Go.ChangeAt CrcM

theorem own_knob : ownKnob Tryd.prog.godebug = none := by kernel_rfl
theorem laid_out : laidOutB Tryd.prog = true := by kernel_rfl
theorem cells_u8 : Tryd.prog.cellsOf TB = 1 := by kernel_rfl
def i64 (n : Int) : Prop := -9223372036854775808 ≤ n ∧ n ≤ 9223372036854775807

theorem rem_any (n : Int) (m : Int) (hm : 0 < m) : -m < n.tmod m ∧ n.tmod m < m := by
  have h1 := Int.tmod_lt_of_pos n hm
  have h2 := Int.tmod_lt_of_pos (-n) hm
  rw [Int.neg_tmod] at h2
  exact ⟨by omega, h1⟩
/-- (n % m + m) % m lies from 0 to m -/
theorem rem_up (n : Int) (m : Int) (hm : 0 < m) : ∃ k : Nat, (n.tmod m + m).tmod m = (k : Int) ∧ (n.tmod m + m) % m = (k : Int) ∧ (k : Int) < m := by
  have h := rem_any n m hm
  have e : (n.tmod m + m).tmod m = (n.tmod m + m) % m := Int.tmod_eq_emod_of_nonneg (by omega)
  have h0 := Int.emod_nonneg (n.tmod m + m) (show m ≠ 0 by omega)
  have h1 := Int.emod_lt_of_pos (n.tmod m + m) hm
  exact ⟨((n.tmod m + m) % m).toNat, by rw [e, Int.toNat_of_nonneg h0], by rw [Int.toNat_of_nonneg h0], by rw [Int.toNat_of_nonneg h0]; exact h1⟩

/-- the row's condition gives the table -/
theorem halfAt_of_laid {W : World} (h : laidMetH Tryd.prog [("raceway/crc.half", Rows.laid_raceway_crc_half)] W) : HalfAt W := by
  rw [MakeChecks.laidMetH_plain _ _ _ (by kernel_rfl)] at h
  have hT : Lib.TabIs Tryd.prog W "raceway/crc.half" .u32 (halfN.map fun n : Nat => (n : Int)) :=
    Lib.tabIs_of_head (rest := []) (g := 0) (t := 117) (e := 24) (n := 16) (by kernel_rfl) (by kernel_rfl) Tryd.underlying117 Tryd.underlying24 (by kernel_rfl) (by kernel_rfl) h
  intro i hi
  have h1 := hT.cell (g := 0) (by kernel_rfl) i (by simpa [halfN] using hi)
  rw [h1]
  congr 2
  have : ∀ i : Fin 16, (halfN.map fun n : Nat => (n : Int)).getD i.val 0 = ((half i.val).toNat : Int) := by decide +kernel
  exact this ⟨i, hi⟩

theorem RdB.rd {W : World} {A : Option Addr} {l : List UInt8} (h : RdB W A l) : Rd Non W A l := fun j x hx => by
  obtain ⟨ad, e, _, hc⟩ := h j x hx
  exact ⟨ad, e, hc, .inl fun h => h.elim⟩

section
variable {H : Type} {enc : TypeId × Value → H} {W W' : World}

theorem i64_of {n : Int} (h : (Lit.int .i64 n).wf = true) : i64 n := by
  simpa [Lit.wf, IntKind.min, IntKind.max, IntKind.signed, IntKind.bits, i64] using h
theorem u8_of {n : Int} (h : (Lit.int .u8 n).wf = true) : ∃ x : UInt8, n = (x.toNat : Int) := by
  have h' : 0 ≤ n ∧ n ≤ 255 := by simpa [Lit.wf, IntKind.min, IntKind.max, IntKind.signed, IntKind.bits] using h
  refine ⟨UInt8.ofNat n.toNat, ?_⟩
  rw [UInt8.toNat_ofNat', Nat.mod_eq_of_lt (by omega)]
  omega

/-- lists of bytes that were there at W -/
def RdBs (W : World) (A : Option Addr) (ls : List (List UInt8)) : Prop := ∀ j l, ls[j]? = some l → ∃ g o B c, A = some ⟨g, o, none⟩ ∧ g < W.heap.size ∧ W.cell? ⟨g, o + j, none⟩ = some (.slice B l.length c) ∧ l.length ≤ c ∧ c ≤ maxLen ∧ RdB W B l

theorem post_law {f : Func} {s : ChangeSpec} {args : Array Value} {ds : List (DataW H)} {before : List MemPlace}
    (hW : DataW.Whole enc Tryd.prog f.params.toList s.vars false W args.toList ds [] before) (hrt : f.resultTypes.toList = [4] ∧ f.resultTypes.size = 1)
    (hvars : s.vars = []) (hr : (f.params.toList.all fun t => Tryd.prog.readableRec t && decide (t < Tryd.prog.types.size)) = true)
    (hs : s.fn H (ds ++ []) = { results := [.lit (.bool true)], args := ds }) (hb : Below W.heap.size W W') : s.post enc Tryd.prog f false true false false W args (.bool true) W' := by
  have hW' := hW
  obtain ⟨p, q, hA, hV, rfl, _, _⟩ := hW
  rw [hvars] at hV
  obtain ⟨_, rfl⟩ := trodVars_none hV
  rw [List.append_nil] at hW'
  refine ⟨ds, [], p, [], p, [], by simpa using hW', ?_, ?_, ?_, hb.frame _, fun h => by cases h⟩
  · rw [hs, hrt.1, hrt.2]
    exact trodAll_cons_mk (shut_bool Tryd.underlying4 _) trodAll_mk0
  · rw [hs]
    exact trodAll_below laid_out _ _ _ _ hr hA hb fun x hx => by simpa using hW'.lt x hx
  · rw [hs, hvars]; rfl
end
end Go.Proofs.YtediidajdpdeiaaDoor
