/-
  DERIVED. GIVEN WITH THE SEED: THE CARDS: each row of YtediidajdpdeiaaDoorRows.lean that lists a variable, with what it lists TIED to the program's text (the seventh form; the later family's looks); each row that meets fmt, with fmt's text TOLD by the authors' own Lean function (tested against real Go, not proved from fmt's source: count such statements apart). THE CARD IS WHAT COUNTS. Prove the row's statement (the work); the ties are given (YtediidajdpdeiaaDoorTie.lean); close each card by the builder's one call (the guide's Derived/Test/ToyasCard.lean, 'card_holds'). Laid BY PROGRAM, IN A SANDBOX (cutbox-door.mjs). By AI agents, Wed Nov 11 2026. No macro, syntax, notation, axiom, sorry.
-/
import Derived.Test.YtediidajdpdeiaaDoorRows
import GoSem.ClaimSeven
namespace Go.Proofs.YtediidajdpdeiaaDoor
namespace Rows

/-- THE TIED CARD OF 'racewaylaw02.CrcSums'. -/
def crcSumsCard : Claim7 := { stood := { row := crcSumsRow, standIns := [], harness := (true, "585feb5cc1a63fc20adbe26e4268597a744f81f1d91d3686b100c946d87de601"), looks := true }, kinds := [], alts := [], laidByText := true, laidKinds := [.data], laidTests := true, laidLooks := .later }
def CrcSumsCardSaid : Prop := Claim7.holds Tryd.pinned (.plain (OpenSpec.ofChange crcSumsSpec)) crcSumsCard

/-- THE TIED CARD OF 'racewaylaw02.CrcFrames'. -/
def crcFramesCard : Claim7 := { stood := { row := crcFramesRow, standIns := [], harness := (true, "585feb5cc1a63fc20adbe26e4268597a744f81f1d91d3686b100c946d87de601"), looks := true }, kinds := [], alts := [], laidByText := true, laidKinds := [.data], laidTests := true, laidLooks := .later }
def CrcFramesCardSaid : Prop := Claim7.holds Tryd.pinned (.plain (OpenSpec.ofChange crcFramesSpec)) crcFramesCard

/-- THE TIED CARD OF 'racewaylaw02.CrcGood'. -/
def crcGoodCard : Claim7 := { stood := { row := crcGoodRow, standIns := [], harness := (true, "585feb5cc1a63fc20adbe26e4268597a744f81f1d91d3686b100c946d87de601"), looks := true }, kinds := [], alts := [], laidByText := true, laidKinds := [.data], laidTests := true, laidLooks := .later }
def CrcGoodCardSaid : Prop := Claim7.holds Tryd.pinned (.plain (OpenSpec.ofChange crcGoodSpec)) crcGoodCard

/-- THE TIED CARD OF 'racewaylaw02.CrcLong'. -/
def crcLongCard : Claim7 := { stood := { row := crcLongRow, standIns := [], harness := (true, "585feb5cc1a63fc20adbe26e4268597a744f81f1d91d3686b100c946d87de601"), looks := true }, kinds := [], alts := [], laidByText := true, laidKinds := [.data], laidTests := true, laidLooks := .later }
def CrcLongCardSaid : Prop := Claim7.holds Tryd.pinned (.plain (OpenSpec.ofChange crcLongSpec)) crcLongCard

/-- THE TIED CARD OF 'racewaylaw02.CrcBack'. -/
def crcBackCard : Claim7 := { stood := { row := crcBackRow, standIns := [], harness := (true, "585feb5cc1a63fc20adbe26e4268597a744f81f1d91d3686b100c946d87de601"), looks := true }, kinds := [], alts := [], laidByText := true, laidKinds := [.data], laidTests := true, laidLooks := .later }
def CrcBackCardSaid : Prop := Claim7.holds Tryd.pinned (.plain (OpenSpec.ofChange crcBackSpec)) crcBackCard

/-- THE TIED CARD OF 'racewaylaw02.CrcBits'. -/
def crcBitsCard : Claim7 := { stood := { row := crcBitsRow, standIns := [], harness := (true, "585feb5cc1a63fc20adbe26e4268597a744f81f1d91d3686b100c946d87de601"), looks := true }, kinds := [], alts := [], laidByText := true, laidKinds := [.data], laidTests := true, laidLooks := .later }
def CrcBitsCardSaid : Prop := Claim7.holds Tryd.pinned (.plain (OpenSpec.ofChange crcBitsSpec)) crcBitsCard

/-- THE TIED CARD OF 'racewaylaw02.CrcAll'. -/
def crcAllCard : Claim7 := { stood := { row := crcAllRow, standIns := [], harness := (true, "585feb5cc1a63fc20adbe26e4268597a744f81f1d91d3686b100c946d87de601"), looks := true }, kinds := [], alts := [], laidByText := true, laidKinds := [.data], laidTests := true, laidLooks := .later }
def CrcAllCardSaid : Prop := Claim7.holds Tryd.pinned (.plain (OpenSpec.ofChange crcAllSpec)) crcAllCard

/-- THE TIED CARD OF 'racewaylaw07.SeglogSegments'. -/
def seglogSegmentsCard : Claim7 := { stood := { row := seglogSegmentsRow, standIns := [], harness := (true, "585feb5cc1a63fc20adbe26e4268597a744f81f1d91d3686b100c946d87de601"), looks := true }, kinds := [], alts := [], laidByText := true, laidKinds := [.data], laidTests := true, laidLooks := .later }
def SeglogSegmentsCardSaid : Prop := Claim7.holds Tryd.pinned (.plain (OpenSpec.ofChange seglogSegmentsSpec)) seglogSegmentsCard

/-- THE TIED CARD OF 'racewaylaw07.SeglogPrefix'. -/
def seglogPrefixCard : Claim7 := { stood := { row := seglogPrefixRow, standIns := [], harness := (true, "585feb5cc1a63fc20adbe26e4268597a744f81f1d91d3686b100c946d87de601"), looks := true }, kinds := [], alts := [], laidByText := true, laidKinds := [.data], laidTests := true, laidLooks := .later }
def SeglogPrefixCardSaid : Prop := Claim7.holds Tryd.pinned (.plain (OpenSpec.ofChange seglogPrefixSpec)) seglogPrefixCard

/-- THE TIED CARD OF 'racewaylaw07.SeglogSynced'. -/
def seglogSyncedCard : Claim7 := { stood := { row := seglogSyncedRow, standIns := [], harness := (true, "585feb5cc1a63fc20adbe26e4268597a744f81f1d91d3686b100c946d87de601"), looks := true }, kinds := [], alts := [], laidByText := true, laidKinds := [.data], laidTests := true, laidLooks := .later }
def SeglogSyncedCardSaid : Prop := Claim7.holds Tryd.pinned (.plain (OpenSpec.ofChange seglogSyncedSpec)) seglogSyncedCard

/-- THE TIED CARD OF 'racewaylaw07.SeglogDrops'. -/
def seglogDropsCard : Claim7 := { stood := { row := seglogDropsRow, standIns := [], harness := (true, "585feb5cc1a63fc20adbe26e4268597a744f81f1d91d3686b100c946d87de601"), looks := true }, kinds := [], alts := [], laidByText := true, laidKinds := [.data], laidTests := true, laidLooks := .later }
def SeglogDropsCardSaid : Prop := Claim7.holds Tryd.pinned (.plain (OpenSpec.ofChange seglogDropsSpec)) seglogDropsCard

/-- THE TIED CARD OF 'racewaylaw07.SeglogNobody'. -/
def seglogNobodyCard : Claim7 := { stood := { row := seglogNobodyRow, standIns := [], harness := (true, "585feb5cc1a63fc20adbe26e4268597a744f81f1d91d3686b100c946d87de601"), looks := true }, kinds := [], alts := [], laidByText := true, laidKinds := [.data], laidTests := true, laidLooks := .later }
def SeglogNobodyCardSaid : Prop := Claim7.holds Tryd.pinned (.plain (OpenSpec.ofChange seglogNobodySpec)) seglogNobodyCard

/-- THE TIED CARD OF 'racewaylaw07.SeglogPlays'. -/
def seglogPlaysCard : Claim7 := { stood := { row := seglogPlaysRow, standIns := [], harness := (true, "585feb5cc1a63fc20adbe26e4268597a744f81f1d91d3686b100c946d87de601"), looks := true }, kinds := [], alts := [], laidByText := true, laidKinds := [.data], laidTests := true, laidLooks := .later }
def SeglogPlaysCardSaid : Prop := Claim7.holds Tryd.pinned (.plain (OpenSpec.ofChange seglogPlaysSpec)) seglogPlaysCard

/-- THE TIED CARD OF 'racewaylaw08.StoreKeeps'. -/
def storeKeepsCard : Claim7 := { stood := { row := storeKeepsRow, standIns := [], harness := (true, "585feb5cc1a63fc20adbe26e4268597a744f81f1d91d3686b100c946d87de601"), looks := true }, kinds := [], alts := [], laidByText := true, laidKinds := [.data], laidTests := true, laidLooks := .later }
def StoreKeepsCardSaid : Prop := Claim7.holds Tryd.pinned (.plain (OpenSpec.ofChange storeKeepsSpec)) storeKeepsCard

/-- THE TIED CARD OF 'racewaylaw08.StoreRises'. -/
def storeRisesCard : Claim7 := { stood := { row := storeRisesRow, standIns := [], harness := (true, "585feb5cc1a63fc20adbe26e4268597a744f81f1d91d3686b100c946d87de601"), looks := true }, kinds := [], alts := [], laidByText := true, laidKinds := [.data], laidTests := true, laidLooks := .later }
def StoreRisesCardSaid : Prop := Claim7.holds Tryd.pinned (.plain (OpenSpec.ofChange storeRisesSpec)) storeRisesCard

/-- THE TIED CARD OF 'racewaylaw08.StoreTorn'. -/
def storeTornCard : Claim7 := { stood := { row := storeTornRow, standIns := [], harness := (true, "585feb5cc1a63fc20adbe26e4268597a744f81f1d91d3686b100c946d87de601"), looks := true }, kinds := [], alts := [], laidByText := true, laidKinds := [.data], laidTests := true, laidLooks := .later }
def StoreTornCardSaid : Prop := Claim7.holds Tryd.pinned (.plain (OpenSpec.ofChange storeTornSpec)) storeTornCard

/-- THE TIED CARD OF 'racewaylaw08.StoreForgets'. -/
def storeForgetsCard : Claim7 := { stood := { row := storeForgetsRow, standIns := [], harness := (true, "585feb5cc1a63fc20adbe26e4268597a744f81f1d91d3686b100c946d87de601"), looks := true }, kinds := [], alts := [], laidByText := true, laidKinds := [.data], laidTests := true, laidLooks := .later }
def StoreForgetsCardSaid : Prop := Claim7.holds Tryd.pinned (.plain (OpenSpec.ofChange storeForgetsSpec)) storeForgetsCard

/-- THE TIED CARD OF 'racewaylaw08.StoreSnaps'. -/
def storeSnapsCard : Claim7 := { stood := { row := storeSnapsRow, standIns := [], harness := (true, "585feb5cc1a63fc20adbe26e4268597a744f81f1d91d3686b100c946d87de601"), looks := true }, kinds := [], alts := [], laidByText := true, laidKinds := [.data], laidTests := true, laidLooks := .later }
def StoreSnapsCardSaid : Prop := Claim7.holds Tryd.pinned (.plain (OpenSpec.ofChange storeSnapsSpec)) storeSnapsCard

/-- THE TIED CARD OF 'racewaylaw08.StoreNobody'. -/
def storeNobodyCard : Claim7 := { stood := { row := storeNobodyRow, standIns := [], harness := (true, "585feb5cc1a63fc20adbe26e4268597a744f81f1d91d3686b100c946d87de601"), looks := true }, kinds := [], alts := [], laidByText := true, laidKinds := [.data], laidTests := true, laidLooks := .later }
def StoreNobodyCardSaid : Prop := Claim7.holds Tryd.pinned (.plain (OpenSpec.ofChange storeNobodySpec)) storeNobodyCard

/-- THE SECOND FORM's CARD OF 'racewaylaw02.CrcSums'. -/
def crcSumsUptoCard : Claim7 := { stood := { row := crcSumsUptoRow, standIns := [], harness := (true, "585feb5cc1a63fc20adbe26e4268597a744f81f1d91d3686b100c946d87de601"), looks := true }, kinds := [], alts := [], laidByText := true, laidKinds := [.data], laidTests := true, laidLooks := .later }
def CrcSumsUptoCardSaid : Prop := Claim7.holds Tryd.pinned (.plain (OpenSpec.upto crcSumsSpec)) crcSumsUptoCard

/-- THE SECOND FORM's CARD OF 'racewaylaw02.CrcFrames'. -/
def crcFramesUptoCard : Claim7 := { stood := { row := crcFramesUptoRow, standIns := [], harness := (true, "585feb5cc1a63fc20adbe26e4268597a744f81f1d91d3686b100c946d87de601"), looks := true }, kinds := [], alts := [], laidByText := true, laidKinds := [.data], laidTests := true, laidLooks := .later }
def CrcFramesUptoCardSaid : Prop := Claim7.holds Tryd.pinned (.plain (OpenSpec.upto crcFramesSpec)) crcFramesUptoCard

/-- THE SECOND FORM's CARD OF 'racewaylaw02.CrcGood'. -/
def crcGoodUptoCard : Claim7 := { stood := { row := crcGoodUptoRow, standIns := [], harness := (true, "585feb5cc1a63fc20adbe26e4268597a744f81f1d91d3686b100c946d87de601"), looks := true }, kinds := [], alts := [], laidByText := true, laidKinds := [.data], laidTests := true, laidLooks := .later }
def CrcGoodUptoCardSaid : Prop := Claim7.holds Tryd.pinned (.plain (OpenSpec.upto crcGoodSpec)) crcGoodUptoCard

/-- THE SECOND FORM's CARD OF 'racewaylaw02.CrcLong'. -/
def crcLongUptoCard : Claim7 := { stood := { row := crcLongUptoRow, standIns := [], harness := (true, "585feb5cc1a63fc20adbe26e4268597a744f81f1d91d3686b100c946d87de601"), looks := true }, kinds := [], alts := [], laidByText := true, laidKinds := [.data], laidTests := true, laidLooks := .later }
def CrcLongUptoCardSaid : Prop := Claim7.holds Tryd.pinned (.plain (OpenSpec.upto crcLongSpec)) crcLongUptoCard

/-- THE SECOND FORM's CARD OF 'racewaylaw02.CrcBack'. -/
def crcBackUptoCard : Claim7 := { stood := { row := crcBackUptoRow, standIns := [], harness := (true, "585feb5cc1a63fc20adbe26e4268597a744f81f1d91d3686b100c946d87de601"), looks := true }, kinds := [], alts := [], laidByText := true, laidKinds := [.data], laidTests := true, laidLooks := .later }
def CrcBackUptoCardSaid : Prop := Claim7.holds Tryd.pinned (.plain (OpenSpec.upto crcBackSpec)) crcBackUptoCard

/-- THE SECOND FORM's CARD OF 'racewaylaw02.CrcBits'. -/
def crcBitsUptoCard : Claim7 := { stood := { row := crcBitsUptoRow, standIns := [], harness := (true, "585feb5cc1a63fc20adbe26e4268597a744f81f1d91d3686b100c946d87de601"), looks := true }, kinds := [], alts := [], laidByText := true, laidKinds := [.data], laidTests := true, laidLooks := .later }
def CrcBitsUptoCardSaid : Prop := Claim7.holds Tryd.pinned (.plain (OpenSpec.upto crcBitsSpec)) crcBitsUptoCard

/-- THE SECOND FORM's CARD OF 'racewaylaw02.CrcAll'. -/
def crcAllUptoCard : Claim7 := { stood := { row := crcAllUptoRow, standIns := [], harness := (true, "585feb5cc1a63fc20adbe26e4268597a744f81f1d91d3686b100c946d87de601"), looks := true }, kinds := [], alts := [], laidByText := true, laidKinds := [.data], laidTests := true, laidLooks := .later }
def CrcAllUptoCardSaid : Prop := Claim7.holds Tryd.pinned (.plain (OpenSpec.upto crcAllSpec)) crcAllUptoCard

/-- THE SECOND FORM's CARD OF 'racewaylaw07.SeglogSegments'. -/
def seglogSegmentsUptoCard : Claim7 := { stood := { row := seglogSegmentsUptoRow, standIns := [], harness := (true, "585feb5cc1a63fc20adbe26e4268597a744f81f1d91d3686b100c946d87de601"), looks := true }, kinds := [], alts := [], laidByText := true, laidKinds := [.data], laidTests := true, laidLooks := .later }
def SeglogSegmentsUptoCardSaid : Prop := Claim7.holds Tryd.pinned (.plain (OpenSpec.upto seglogSegmentsSpec)) seglogSegmentsUptoCard

/-- THE SECOND FORM's CARD OF 'racewaylaw07.SeglogPrefix'. -/
def seglogPrefixUptoCard : Claim7 := { stood := { row := seglogPrefixUptoRow, standIns := [], harness := (true, "585feb5cc1a63fc20adbe26e4268597a744f81f1d91d3686b100c946d87de601"), looks := true }, kinds := [], alts := [], laidByText := true, laidKinds := [.data], laidTests := true, laidLooks := .later }
def SeglogPrefixUptoCardSaid : Prop := Claim7.holds Tryd.pinned (.plain (OpenSpec.upto seglogPrefixSpec)) seglogPrefixUptoCard

/-- THE SECOND FORM's CARD OF 'racewaylaw07.SeglogSynced'. -/
def seglogSyncedUptoCard : Claim7 := { stood := { row := seglogSyncedUptoRow, standIns := [], harness := (true, "585feb5cc1a63fc20adbe26e4268597a744f81f1d91d3686b100c946d87de601"), looks := true }, kinds := [], alts := [], laidByText := true, laidKinds := [.data], laidTests := true, laidLooks := .later }
def SeglogSyncedUptoCardSaid : Prop := Claim7.holds Tryd.pinned (.plain (OpenSpec.upto seglogSyncedSpec)) seglogSyncedUptoCard

/-- THE SECOND FORM's CARD OF 'racewaylaw07.SeglogDrops'. -/
def seglogDropsUptoCard : Claim7 := { stood := { row := seglogDropsUptoRow, standIns := [], harness := (true, "585feb5cc1a63fc20adbe26e4268597a744f81f1d91d3686b100c946d87de601"), looks := true }, kinds := [], alts := [], laidByText := true, laidKinds := [.data], laidTests := true, laidLooks := .later }
def SeglogDropsUptoCardSaid : Prop := Claim7.holds Tryd.pinned (.plain (OpenSpec.upto seglogDropsSpec)) seglogDropsUptoCard

/-- THE SECOND FORM's CARD OF 'racewaylaw07.SeglogNobody'. -/
def seglogNobodyUptoCard : Claim7 := { stood := { row := seglogNobodyUptoRow, standIns := [], harness := (true, "585feb5cc1a63fc20adbe26e4268597a744f81f1d91d3686b100c946d87de601"), looks := true }, kinds := [], alts := [], laidByText := true, laidKinds := [.data], laidTests := true, laidLooks := .later }
def SeglogNobodyUptoCardSaid : Prop := Claim7.holds Tryd.pinned (.plain (OpenSpec.upto seglogNobodySpec)) seglogNobodyUptoCard

/-- THE SECOND FORM's CARD OF 'racewaylaw07.SeglogPlays'. -/
def seglogPlaysUptoCard : Claim7 := { stood := { row := seglogPlaysUptoRow, standIns := [], harness := (true, "585feb5cc1a63fc20adbe26e4268597a744f81f1d91d3686b100c946d87de601"), looks := true }, kinds := [], alts := [], laidByText := true, laidKinds := [.data], laidTests := true, laidLooks := .later }
def SeglogPlaysUptoCardSaid : Prop := Claim7.holds Tryd.pinned (.plain (OpenSpec.upto seglogPlaysSpec)) seglogPlaysUptoCard

/-- THE SECOND FORM's CARD OF 'racewaylaw08.StoreKeeps'. -/
def storeKeepsUptoCard : Claim7 := { stood := { row := storeKeepsUptoRow, standIns := [], harness := (true, "585feb5cc1a63fc20adbe26e4268597a744f81f1d91d3686b100c946d87de601"), looks := true }, kinds := [], alts := [], laidByText := true, laidKinds := [.data], laidTests := true, laidLooks := .later }
def StoreKeepsUptoCardSaid : Prop := Claim7.holds Tryd.pinned (.plain (OpenSpec.upto storeKeepsSpec)) storeKeepsUptoCard

/-- THE SECOND FORM's CARD OF 'racewaylaw08.StoreRises'. -/
def storeRisesUptoCard : Claim7 := { stood := { row := storeRisesUptoRow, standIns := [], harness := (true, "585feb5cc1a63fc20adbe26e4268597a744f81f1d91d3686b100c946d87de601"), looks := true }, kinds := [], alts := [], laidByText := true, laidKinds := [.data], laidTests := true, laidLooks := .later }
def StoreRisesUptoCardSaid : Prop := Claim7.holds Tryd.pinned (.plain (OpenSpec.upto storeRisesSpec)) storeRisesUptoCard

/-- THE SECOND FORM's CARD OF 'racewaylaw08.StoreTorn'. -/
def storeTornUptoCard : Claim7 := { stood := { row := storeTornUptoRow, standIns := [], harness := (true, "585feb5cc1a63fc20adbe26e4268597a744f81f1d91d3686b100c946d87de601"), looks := true }, kinds := [], alts := [], laidByText := true, laidKinds := [.data], laidTests := true, laidLooks := .later }
def StoreTornUptoCardSaid : Prop := Claim7.holds Tryd.pinned (.plain (OpenSpec.upto storeTornSpec)) storeTornUptoCard

/-- THE SECOND FORM's CARD OF 'racewaylaw08.StoreForgets'. -/
def storeForgetsUptoCard : Claim7 := { stood := { row := storeForgetsUptoRow, standIns := [], harness := (true, "585feb5cc1a63fc20adbe26e4268597a744f81f1d91d3686b100c946d87de601"), looks := true }, kinds := [], alts := [], laidByText := true, laidKinds := [.data], laidTests := true, laidLooks := .later }
def StoreForgetsUptoCardSaid : Prop := Claim7.holds Tryd.pinned (.plain (OpenSpec.upto storeForgetsSpec)) storeForgetsUptoCard

/-- THE SECOND FORM's CARD OF 'racewaylaw08.StoreSnaps'. -/
def storeSnapsUptoCard : Claim7 := { stood := { row := storeSnapsUptoRow, standIns := [], harness := (true, "585feb5cc1a63fc20adbe26e4268597a744f81f1d91d3686b100c946d87de601"), looks := true }, kinds := [], alts := [], laidByText := true, laidKinds := [.data], laidTests := true, laidLooks := .later }
def StoreSnapsUptoCardSaid : Prop := Claim7.holds Tryd.pinned (.plain (OpenSpec.upto storeSnapsSpec)) storeSnapsUptoCard

/-- THE SECOND FORM's CARD OF 'racewaylaw08.StoreNobody'. -/
def storeNobodyUptoCard : Claim7 := { stood := { row := storeNobodyUptoRow, standIns := [], harness := (true, "585feb5cc1a63fc20adbe26e4268597a744f81f1d91d3686b100c946d87de601"), looks := true }, kinds := [], alts := [], laidByText := true, laidKinds := [.data], laidTests := true, laidLooks := .later }
def StoreNobodyUptoCardSaid : Prop := Claim7.holds Tryd.pinned (.plain (OpenSpec.upto storeNobodySpec)) storeNobodyUptoCard
end Rows
end Go.Proofs.YtediidajdpdeiaaDoor
