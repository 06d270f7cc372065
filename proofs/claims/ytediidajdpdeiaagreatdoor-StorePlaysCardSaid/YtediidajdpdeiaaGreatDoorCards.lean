/-
  DERIVED. GIVEN WITH THE SEED: THE CARDS: each row of YtediidajdpdeiaaGreatDoorRows.lean that lists a variable, with what it lists TIED to the program's text (the seventh form; the later family's looks); each row that meets fmt, with fmt's text TOLD by the authors' own Lean function (tested against real Go, not proved from fmt's source: count such statements apart). THE CARD IS WHAT COUNTS. Prove the row's statement (the work); the ties are given (YtediidajdpdeiaaGreatDoorTie.lean); close each card by the builder's one call (the guide's Derived/Test/ToyasCard.lean, 'card_holds'). Laid BY PROGRAM, IN A SANDBOX (cutbox-door.mjs). By AI agents, Wed Nov 11 2026. No macro, syntax, notation, axiom, sorry.
-/
import Derived.Test.YtediidajdpdeiaaGreatDoorRows
import GoSem.ClaimSeven
namespace Go.Proofs.YtediidajdpdeiaaGreatDoor
namespace Rows

/-- THE TIED CARD OF 'racewaylaw08.StorePlays'. -/
def storePlaysCard : Claim7 := { stood := { row := storePlaysRow, standIns := [], harness := (true, "a77ce86359f10c7208912fb09b235b743b5dd142be4b02c328bbbfbcc7201467"), looks := true }, kinds := [], alts := [], laidByText := true, laidKinds := [.data], laidTests := true, laidLooks := .later }
def StorePlaysCardSaid : Prop := Claim7.holds Tryz.pinned (.plain (OpenSpec.ofChange storePlaysSpec)) storePlaysCard

/-- THE TIED CARD OF 'racewaylaw10.PaxosAgrees'. -/
def paxosAgreesCard : Claim7 := { stood := { row := paxosAgreesRow, standIns := [], harness := (true, "a77ce86359f10c7208912fb09b235b743b5dd142be4b02c328bbbfbcc7201467"), looks := true }, kinds := [], alts := [], laidByText := true, laidKinds := [.data], laidTests := true, laidLooks := .later }
def PaxosAgreesCardSaid : Prop := Claim7.holds Tryz.pinned (.plain (OpenSpec.ofChange paxosAgreesSpec)) paxosAgreesCard

/-- THE TIED CARD OF 'racewaylaw10.PaxosKeeps'. -/
def paxosKeepsCard : Claim7 := { stood := { row := paxosKeepsRow, standIns := [], harness := (true, "a77ce86359f10c7208912fb09b235b743b5dd142be4b02c328bbbfbcc7201467"), looks := true }, kinds := [], alts := [], laidByText := true, laidKinds := [.data], laidTests := true, laidLooks := .later }
def PaxosKeepsCardSaid : Prop := Claim7.holds Tryz.pinned (.plain (OpenSpec.ofChange paxosKeepsSpec)) paxosKeepsCard

/-- THE TIED CARD OF 'racewaylaw10.PaxosNobody'. -/
def paxosNobodyCard : Claim7 := { stood := { row := paxosNobodyRow, standIns := [], harness := (true, "a77ce86359f10c7208912fb09b235b743b5dd142be4b02c328bbbfbcc7201467"), looks := true }, kinds := [], alts := [], laidByText := true, laidKinds := [.data], laidTests := true, laidLooks := .later }
def PaxosNobodyCardSaid : Prop := Claim7.holds Tryz.pinned (.plain (OpenSpec.ofChange paxosNobodySpec)) paxosNobodyCard

/-- THE SECOND FORM's CARD OF 'racewaylaw08.StorePlays'. -/
def storePlaysUptoCard : Claim7 := { stood := { row := storePlaysUptoRow, standIns := [], harness := (true, "a77ce86359f10c7208912fb09b235b743b5dd142be4b02c328bbbfbcc7201467"), looks := true }, kinds := [], alts := [], laidByText := true, laidKinds := [.data], laidTests := true, laidLooks := .later }
def StorePlaysUptoCardSaid : Prop := Claim7.holds Tryz.pinned (.plain (OpenSpec.upto storePlaysSpec)) storePlaysUptoCard

/-- THE SECOND FORM's CARD OF 'racewaylaw10.PaxosAgrees'. -/
def paxosAgreesUptoCard : Claim7 := { stood := { row := paxosAgreesUptoRow, standIns := [], harness := (true, "a77ce86359f10c7208912fb09b235b743b5dd142be4b02c328bbbfbcc7201467"), looks := true }, kinds := [], alts := [], laidByText := true, laidKinds := [.data], laidTests := true, laidLooks := .later }
def PaxosAgreesUptoCardSaid : Prop := Claim7.holds Tryz.pinned (.plain (OpenSpec.upto paxosAgreesSpec)) paxosAgreesUptoCard

/-- THE SECOND FORM's CARD OF 'racewaylaw10.PaxosKeeps'. -/
def paxosKeepsUptoCard : Claim7 := { stood := { row := paxosKeepsUptoRow, standIns := [], harness := (true, "a77ce86359f10c7208912fb09b235b743b5dd142be4b02c328bbbfbcc7201467"), looks := true }, kinds := [], alts := [], laidByText := true, laidKinds := [.data], laidTests := true, laidLooks := .later }
def PaxosKeepsUptoCardSaid : Prop := Claim7.holds Tryz.pinned (.plain (OpenSpec.upto paxosKeepsSpec)) paxosKeepsUptoCard

/-- THE SECOND FORM's CARD OF 'racewaylaw10.PaxosNobody'. -/
def paxosNobodyUptoCard : Claim7 := { stood := { row := paxosNobodyUptoRow, standIns := [], harness := (true, "a77ce86359f10c7208912fb09b235b743b5dd142be4b02c328bbbfbcc7201467"), looks := true }, kinds := [], alts := [], laidByText := true, laidKinds := [.data], laidTests := true, laidLooks := .later }
def PaxosNobodyUptoCardSaid : Prop := Claim7.holds Tryz.pinned (.plain (OpenSpec.upto paxosNobodySpec)) paxosNobodyUptoCard
end Rows
end Go.Proofs.YtediidajdpdeiaaGreatDoor
