/-
  NARROWER THAN 'FOR EVERY INPUT', by the rows' own cells (each row's printed sentence says how): StorePlays: laid · PaxosAgrees: laid · PaxosKeeps: laid · PaxosNobody: laid.
  DERIVED. THE GIVEN ROWS OF THIS SEAT. 4 by the template 'for every input the law returns true; each argument reads behind the call as it read before'; 0 by the template 'total and deterministic' (their statements: YtediidajdpdeiaaGreatDoorTotals.lean).
  GIVEN WITH THE SEED: the statements are not yours to turn. If you find one false, say at which input.
  Laid BY PROGRAM, IN A SANDBOX (cutbox-rows.mjs): the forced cells as the released guide's own fill.sh prints them over the translation 1397eb00fc750d70… (all of the seat's roots in one cut). By AI agents, Wed Nov 11 2026. No macro, syntax, notation, axiom, sorry.
-/
import Derived.Test.YtediidajdpdeiaaGreatDoorChecked
import GoSem.Claim
import GoSem.ClaimJoined
import GoSem.ClaimMapViews
import Derived.JoinedTies
import Derived.KernelRfl
namespace Go.Proofs.YtediidajdpdeiaaGreatDoor
/- THE CELL 'sum', in the pinned program and in every row, IS THE sha256 OF THE DUMP (.gsa) THAT YtediidajdpdeiaaGreatDoorProg.lean LOADS. Nothing in Lean hashes anything: it is a label: what it is worth is what the hold of that sum in a sandbox is worth. -/
noncomputable def Tryz.pinned : Pinned := { name := "ytediidajdpdeiaagreatdoor", sum := "1397eb00fc750d70dca43beefde0da6b51fe21410f73c162f471a0b60357781c", checked := Tryz.checked }
namespace Rows
def none {H : Type} : Left H := { results := [], args := [] }

/- WHAT THE LISTED PACKAGE-LEVEL VARIABLES READ AS WHEN THE CALL BEGINS. Each datum BY PROGRAM (the guide's laid-datum.mjs) off the statement by which the dump's own 'gosem.cut.vars' lays the variable. In a bare row this is a premise. The card (YtediidajdpdeiaaGreatDoorCards.lean) ties it to the program's text. -/
def laid_raceway_crc_half {H : Type} : DataW H := .agg [.lit (.int .u32 0), .lit (.int .u32 498536548), .lit (.int .u32 997073096), .lit (.int .u32 651767980), .lit (.int .u32 1994146192), .lit (.int .u32 1802195444), .lit (.int .u32 1303535960), .lit (.int .u32 1342533948), .lit (.int .u32 3988292384), .lit (.int .u32 4027552580), .lit (.int .u32 3604390888), .lit (.int .u32 3412177804), .lit (.int .u32 2607071920), .lit (.int .u32 2262029012), .lit (.int .u32 2685067896), .lit (.int .u32 3183342108)]

/-- 'racewaylaw08.StorePlays': WHATEVER THE INPUT: true; the input reads as it did. -/
def storePlaysSpec : ChangeSpec := { name := "storePlays", fn := fun _ => fun
  | [d1, d2] => { results := [.lit (.bool true)], args := [d1, d2] }
  | _ => none }
def storePlaysRow : OpenClaim := { program := "ytediidajdpdeiaagreatdoor", sum := "1397eb00fc750d70dca43beefde0da6b51fe21410f73c162f471a0b60357781c", func := "raceway/racewaylaw08.StorePlays", spec := "storePlays", inPlace := ["maps.clone"], unfollowed := true, recurses := true, named := ["raceway/crc.half"], apart := false, laid := [("raceway/crc.half", laid_raceway_crc_half)] }
def StorePlaysSaid : Prop := storePlaysRow.holds Tryz.pinned (OpenSpec.ofChange storePlaysSpec)

/-- ITS FALSE NEIGHBOUR: 'it returns false'. Refute it at one input. -/
def storePlaysWrong : ChangeSpec := { name := "storePlays", fn := fun _ => fun
  | [d1, d2] => { results := [.lit (.bool false)], args := [d1, d2] }
  | _ => none }
def StorePlaysWrongFalsely : Prop := storePlaysRow.holds Tryz.pinned (OpenSpec.ofChange storePlaysWrong)

/-- 'racewaylaw10.PaxosAgrees': WHATEVER THE INPUT: true; the input reads as it did. -/
def paxosAgreesSpec : ChangeSpec := { name := "paxosAgrees", fn := fun _ => fun
  | [d1, d2] => { results := [.lit (.bool true)], args := [d1, d2] }
  | _ => none }
def paxosAgreesRow : OpenClaim := { program := "ytediidajdpdeiaagreatdoor", sum := "1397eb00fc750d70dca43beefde0da6b51fe21410f73c162f471a0b60357781c", func := "raceway/racewaylaw10.PaxosAgrees", spec := "paxosAgrees", unfollowed := true, recurses := true, named := ["raceway/crc.half"], apart := false, laid := [("raceway/crc.half", laid_raceway_crc_half)] }
def PaxosAgreesSaid : Prop := paxosAgreesRow.holds Tryz.pinned (OpenSpec.ofChange paxosAgreesSpec)

/-- ITS FALSE NEIGHBOUR: 'it returns false'. Refute it at one input. -/
def paxosAgreesWrong : ChangeSpec := { name := "paxosAgrees", fn := fun _ => fun
  | [d1, d2] => { results := [.lit (.bool false)], args := [d1, d2] }
  | _ => none }
def PaxosAgreesWrongFalsely : Prop := paxosAgreesRow.holds Tryz.pinned (OpenSpec.ofChange paxosAgreesWrong)

/-- 'racewaylaw10.PaxosKeeps': WHATEVER THE INPUT: true; the input reads as it did. -/
def paxosKeepsSpec : ChangeSpec := { name := "paxosKeeps", fn := fun _ => fun
  | [d1, d2] => { results := [.lit (.bool true)], args := [d1, d2] }
  | _ => none }
def paxosKeepsRow : OpenClaim := { program := "ytediidajdpdeiaagreatdoor", sum := "1397eb00fc750d70dca43beefde0da6b51fe21410f73c162f471a0b60357781c", func := "raceway/racewaylaw10.PaxosKeeps", spec := "paxosKeeps", unfollowed := true, recurses := true, named := ["raceway/crc.half"], apart := false, laid := [("raceway/crc.half", laid_raceway_crc_half)] }
def PaxosKeepsSaid : Prop := paxosKeepsRow.holds Tryz.pinned (OpenSpec.ofChange paxosKeepsSpec)

/-- ITS FALSE NEIGHBOUR: 'it returns false'. Refute it at one input. -/
def paxosKeepsWrong : ChangeSpec := { name := "paxosKeeps", fn := fun _ => fun
  | [d1, d2] => { results := [.lit (.bool false)], args := [d1, d2] }
  | _ => none }
def PaxosKeepsWrongFalsely : Prop := paxosKeepsRow.holds Tryz.pinned (OpenSpec.ofChange paxosKeepsWrong)

/-- 'racewaylaw10.PaxosNobody': WHATEVER THE INPUT: true; the input reads as it did. -/
def paxosNobodySpec : ChangeSpec := { name := "paxosNobody", fn := fun _ => fun
  | [d1, d2] => { results := [.lit (.bool true)], args := [d1, d2] }
  | _ => none }
def paxosNobodyRow : OpenClaim := { program := "ytediidajdpdeiaagreatdoor", sum := "1397eb00fc750d70dca43beefde0da6b51fe21410f73c162f471a0b60357781c", func := "raceway/racewaylaw10.PaxosNobody", spec := "paxosNobody", inPlace := ["maps.clone"], unfollowed := true, recurses := true, named := ["raceway/crc.half"], apart := false, laid := [("raceway/crc.half", laid_raceway_crc_half)] }
def PaxosNobodySaid : Prop := paxosNobodyRow.holds Tryz.pinned (OpenSpec.ofChange paxosNobodySpec)

/-- ITS FALSE NEIGHBOUR: 'it returns false'. Refute it at one input. -/
def paxosNobodyWrong : ChangeSpec := { name := "paxosNobody", fn := fun _ => fun
  | [d1, d2] => { results := [.lit (.bool false)], args := [d1, d2] }
  | _ => none }
def PaxosNobodyWrongFalsely : Prop := paxosNobodyRow.holds Tryz.pinned (OpenSpec.ofChange paxosNobodyWrong)

/- THE SECOND FORM. 'bulk': how many values and letters a reading holds, each counted each time it is reached (what is shared counts as often as it is met; a slice's spare places count too). A statement '..UptoSaid' is the law's where the arguments, and the package variables that the reading takes, are together of bulk at most 1048576: NARROWER than '..Said'. Prove '..Said' where nothing that the law and all that it calls make is longer than what came in: it says more and counts as full. Else prove '..UptoSaid'. A law counts once. -/
mutual
def uptoBulk {H : Type} : DataW H → Nat
  | .lit (.string bytes) => bytes.length + 1
  | .lit _ => 1
  | .nil => 1
  | .ptr d => uptoBulk d + 1
  | .slice elems spare => uptoBulkAll elems + uptoBulkAll spare + 1
  | .agg parts => uptoBulkAll parts + 1
  | .iface _ d => uptoBulk d + 1
  | .map entries => uptoBulkEntries entries + 1
  | .held _ => 1
def uptoBulkAll {H : Type} : List (DataW H) → Nat
  | [] => 0
  | d :: r => uptoBulk d + uptoBulkAll r
def uptoBulkEntries {H : Type} : List (Lit × DataW H) → Nat
  | [] => 0
  | x :: r => uptoBulkEntry x + uptoBulkEntries r
def uptoBulkEntry {H : Type} : Lit × DataW H → Nat
  | (.string bytes, d) => bytes.length + uptoBulk d + 1
  | (_, d) => uptoBulk d + 1
 end
def uptoSmall : (H : Type) → List (DataW H) → Bool := fun _ ds => decide (uptoBulkAll ds ≤ 1048576)
def OpenSpec.upto (s : _root_.Go.ChangeSpec) : _root_.Go.OpenSpec := { _root_.Go.OpenSpec.ofChange s with cond := some uptoSmall }

/-- 'racewaylaw08.StorePlays', WHERE WHAT IT READS IS OF BULK AT MOST 1048576: true; the input reads as it did. -/
def storePlaysUptoRow : OpenClaim := { program := "ytediidajdpdeiaagreatdoor", sum := "1397eb00fc750d70dca43beefde0da6b51fe21410f73c162f471a0b60357781c", func := "raceway/racewaylaw08.StorePlays", spec := "storePlays", inPlace := ["maps.clone"], unfollowed := true, recurses := true, named := ["raceway/crc.half"], apart := false, laid := [("raceway/crc.half", laid_raceway_crc_half)], narrowed := true }
def StorePlaysUptoSaid : Prop := storePlaysUptoRow.holds Tryz.pinned (OpenSpec.upto storePlaysSpec)

/-- 'racewaylaw10.PaxosAgrees', WHERE WHAT IT READS IS OF BULK AT MOST 1048576: true; the input reads as it did. -/
def paxosAgreesUptoRow : OpenClaim := { program := "ytediidajdpdeiaagreatdoor", sum := "1397eb00fc750d70dca43beefde0da6b51fe21410f73c162f471a0b60357781c", func := "raceway/racewaylaw10.PaxosAgrees", spec := "paxosAgrees", unfollowed := true, recurses := true, named := ["raceway/crc.half"], apart := false, laid := [("raceway/crc.half", laid_raceway_crc_half)], narrowed := true }
def PaxosAgreesUptoSaid : Prop := paxosAgreesUptoRow.holds Tryz.pinned (OpenSpec.upto paxosAgreesSpec)

/-- 'racewaylaw10.PaxosKeeps', WHERE WHAT IT READS IS OF BULK AT MOST 1048576: true; the input reads as it did. -/
def paxosKeepsUptoRow : OpenClaim := { program := "ytediidajdpdeiaagreatdoor", sum := "1397eb00fc750d70dca43beefde0da6b51fe21410f73c162f471a0b60357781c", func := "raceway/racewaylaw10.PaxosKeeps", spec := "paxosKeeps", unfollowed := true, recurses := true, named := ["raceway/crc.half"], apart := false, laid := [("raceway/crc.half", laid_raceway_crc_half)], narrowed := true }
def PaxosKeepsUptoSaid : Prop := paxosKeepsUptoRow.holds Tryz.pinned (OpenSpec.upto paxosKeepsSpec)

/-- 'racewaylaw10.PaxosNobody', WHERE WHAT IT READS IS OF BULK AT MOST 1048576: true; the input reads as it did. -/
def paxosNobodyUptoRow : OpenClaim := { program := "ytediidajdpdeiaagreatdoor", sum := "1397eb00fc750d70dca43beefde0da6b51fe21410f73c162f471a0b60357781c", func := "raceway/racewaylaw10.PaxosNobody", spec := "paxosNobody", inPlace := ["maps.clone"], unfollowed := true, recurses := true, named := ["raceway/crc.half"], apart := false, laid := [("raceway/crc.half", laid_raceway_crc_half)], narrowed := true }
def PaxosNobodyUptoSaid : Prop := paxosNobodyUptoRow.holds Tryz.pinned (OpenSpec.upto paxosNobodySpec)

end Rows
end Go.Proofs.YtediidajdpdeiaaGreatDoor
