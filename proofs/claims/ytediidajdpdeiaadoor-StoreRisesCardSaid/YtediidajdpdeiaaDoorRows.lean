/-
  NARROWER THAN 'FOR EVERY INPUT', by the rows' own cells (each row's printed sentence says how): CrcSums: laid · CrcFrames: laid · CrcGood: laid · CrcLong: laid · CrcBack: laid · CrcBits: laid · CrcAll: laid · SeglogSegments: laid · SeglogPrefix: laid · SeglogSynced: laid · SeglogDrops: laid · SeglogNobody: laid · SeglogPlays: laid · StoreKeeps: laid · StoreRises: laid · StoreTorn: laid · StoreForgets: laid · StoreSnaps: laid · StoreNobody: laid.
  DERIVED. THE GIVEN ROWS OF THIS SEAT. 19 by the template 'for every input the law returns true; each argument reads behind the call as it read before'; 0 by the template 'total and deterministic' (their statements: YtediidajdpdeiaaDoorTotals.lean).
  GIVEN WITH THE SEED: the statements are not yours to turn. If you find one false, say at which input.
  Laid BY PROGRAM, IN A SANDBOX (cutbox-rows.mjs): the forced cells as the released guide's own fill.sh prints them over the translation 004f87e073c5d9a3… (all of the seat's roots in one cut). By AI agents, Wed Nov 11 2026. No macro, syntax, notation, axiom, sorry.
-/
import Derived.Test.YtediidajdpdeiaaDoorChecked
import GoSem.Claim
import GoSem.ClaimJoined
import GoSem.ClaimMapViews
import Derived.JoinedTies
import Derived.KernelRfl
namespace Go.Proofs.YtediidajdpdeiaaDoor
/- THE CELL 'sum', in the pinned program and in every row, IS THE sha256 OF THE DUMP (.gsa) THAT YtediidajdpdeiaaDoorProg.lean LOADS. Nothing in Lean hashes anything: it is a label: what it is worth is what the hold of that sum in a sandbox is worth. -/
noncomputable def Tryd.pinned : Pinned := { name := "ytediidajdpdeiaadoor", sum := "004f87e073c5d9a33a810e5996d0f708bbba789d2603d5b9d7972a78d2ed1531", checked := Tryd.checked }
namespace Rows
def none {H : Type} : Left H := { results := [], args := [] }

/- WHAT THE LISTED PACKAGE-LEVEL VARIABLES READ AS WHEN THE CALL BEGINS. Each datum BY PROGRAM (the guide's laid-datum.mjs) off the statement by which the dump's own 'gosem.cut.vars' lays the variable. In a bare row this is a premise. The card (YtediidajdpdeiaaDoorCards.lean) ties it to the program's text. -/
def laid_raceway_crc_half {H : Type} : DataW H := .agg [.lit (.int .u32 0), .lit (.int .u32 498536548), .lit (.int .u32 997073096), .lit (.int .u32 651767980), .lit (.int .u32 1994146192), .lit (.int .u32 1802195444), .lit (.int .u32 1303535960), .lit (.int .u32 1342533948), .lit (.int .u32 3988292384), .lit (.int .u32 4027552580), .lit (.int .u32 3604390888), .lit (.int .u32 3412177804), .lit (.int .u32 2607071920), .lit (.int .u32 2262029012), .lit (.int .u32 2685067896), .lit (.int .u32 3183342108)]

/-- 'racewaylaw02.CrcSums': WHATEVER THE INPUT: true; the input reads as it did. -/
def crcSumsSpec : ChangeSpec := { name := "crcSums", fn := fun _ => fun
  | [d1, d2] => { results := [.lit (.bool true)], args := [d1, d2] }
  | _ => none }
def crcSumsRow : OpenClaim := { program := "ytediidajdpdeiaadoor", sum := "004f87e073c5d9a33a810e5996d0f708bbba789d2603d5b9d7972a78d2ed1531", func := "raceway/racewaylaw02.CrcSums", spec := "crcSums", unfollowed := true, recurses := true, named := ["raceway/crc.half"], apart := false, laid := [("raceway/crc.half", laid_raceway_crc_half)] }
def CrcSumsSaid : Prop := crcSumsRow.holds Tryd.pinned (OpenSpec.ofChange crcSumsSpec)

/-- ITS FALSE NEIGHBOUR: 'it returns false'. Refute it at one input. -/
def crcSumsWrong : ChangeSpec := { name := "crcSums", fn := fun _ => fun
  | [d1, d2] => { results := [.lit (.bool false)], args := [d1, d2] }
  | _ => none }
def CrcSumsWrongFalsely : Prop := crcSumsRow.holds Tryd.pinned (OpenSpec.ofChange crcSumsWrong)

/-- 'racewaylaw02.CrcFrames': WHATEVER THE INPUT: true; the input reads as it did. -/
def crcFramesSpec : ChangeSpec := { name := "crcFrames", fn := fun _ => fun
  | [d1, d2, d3] => { results := [.lit (.bool true)], args := [d1, d2, d3] }
  | _ => none }
def crcFramesRow : OpenClaim := { program := "ytediidajdpdeiaadoor", sum := "004f87e073c5d9a33a810e5996d0f708bbba789d2603d5b9d7972a78d2ed1531", func := "raceway/racewaylaw02.CrcFrames", spec := "crcFrames", unfollowed := true, recurses := true, named := ["raceway/crc.half"], apart := false, laid := [("raceway/crc.half", laid_raceway_crc_half)] }
def CrcFramesSaid : Prop := crcFramesRow.holds Tryd.pinned (OpenSpec.ofChange crcFramesSpec)

/-- ITS FALSE NEIGHBOUR: 'it returns false'. Refute it at one input. -/
def crcFramesWrong : ChangeSpec := { name := "crcFrames", fn := fun _ => fun
  | [d1, d2, d3] => { results := [.lit (.bool false)], args := [d1, d2, d3] }
  | _ => none }
def CrcFramesWrongFalsely : Prop := crcFramesRow.holds Tryd.pinned (OpenSpec.ofChange crcFramesWrong)

/-- 'racewaylaw02.CrcGood': WHATEVER THE INPUT: true; the input reads as it did. -/
def crcGoodSpec : ChangeSpec := { name := "crcGood", fn := fun _ => fun
  | [d] => { results := [.lit (.bool true)], args := [d] }
  | _ => none }
def crcGoodRow : OpenClaim := { program := "ytediidajdpdeiaadoor", sum := "004f87e073c5d9a33a810e5996d0f708bbba789d2603d5b9d7972a78d2ed1531", func := "raceway/racewaylaw02.CrcGood", spec := "crcGood", unfollowed := true, recurses := true, named := ["raceway/crc.half"], apart := false, laid := [("raceway/crc.half", laid_raceway_crc_half)] }
def CrcGoodSaid : Prop := crcGoodRow.holds Tryd.pinned (OpenSpec.ofChange crcGoodSpec)

/-- ITS FALSE NEIGHBOUR: 'it returns false'. Refute it at one input. -/
def crcGoodWrong : ChangeSpec := { name := "crcGood", fn := fun _ => fun
  | [d] => { results := [.lit (.bool false)], args := [d] }
  | _ => none }
def CrcGoodWrongFalsely : Prop := crcGoodRow.holds Tryd.pinned (OpenSpec.ofChange crcGoodWrong)

/-- 'racewaylaw02.CrcLong': WHATEVER THE INPUT: true; the input reads as it did. -/
def crcLongSpec : ChangeSpec := { name := "crcLong", fn := fun _ => fun
  | [d1, d2] => { results := [.lit (.bool true)], args := [d1, d2] }
  | _ => none }
def crcLongRow : OpenClaim := { program := "ytediidajdpdeiaadoor", sum := "004f87e073c5d9a33a810e5996d0f708bbba789d2603d5b9d7972a78d2ed1531", func := "raceway/racewaylaw02.CrcLong", spec := "crcLong", unfollowed := true, recurses := true, named := ["raceway/crc.half"], apart := false, laid := [("raceway/crc.half", laid_raceway_crc_half)] }
def CrcLongSaid : Prop := crcLongRow.holds Tryd.pinned (OpenSpec.ofChange crcLongSpec)

/-- ITS FALSE NEIGHBOUR: 'it returns false'. Refute it at one input. -/
def crcLongWrong : ChangeSpec := { name := "crcLong", fn := fun _ => fun
  | [d1, d2] => { results := [.lit (.bool false)], args := [d1, d2] }
  | _ => none }
def CrcLongWrongFalsely : Prop := crcLongRow.holds Tryd.pinned (OpenSpec.ofChange crcLongWrong)

/-- 'racewaylaw02.CrcBack': WHATEVER THE INPUT: true; the input reads as it did. -/
def crcBackSpec : ChangeSpec := { name := "crcBack", fn := fun _ => fun
  | [d1, d2, d3] => { results := [.lit (.bool true)], args := [d1, d2, d3] }
  | _ => none }
def crcBackRow : OpenClaim := { program := "ytediidajdpdeiaadoor", sum := "004f87e073c5d9a33a810e5996d0f708bbba789d2603d5b9d7972a78d2ed1531", func := "raceway/racewaylaw02.CrcBack", spec := "crcBack", unfollowed := true, recurses := true, named := ["raceway/crc.half"], apart := false, laid := [("raceway/crc.half", laid_raceway_crc_half)] }
def CrcBackSaid : Prop := crcBackRow.holds Tryd.pinned (OpenSpec.ofChange crcBackSpec)

/-- ITS FALSE NEIGHBOUR: 'it returns false'. Refute it at one input. -/
def crcBackWrong : ChangeSpec := { name := "crcBack", fn := fun _ => fun
  | [d1, d2, d3] => { results := [.lit (.bool false)], args := [d1, d2, d3] }
  | _ => none }
def CrcBackWrongFalsely : Prop := crcBackRow.holds Tryd.pinned (OpenSpec.ofChange crcBackWrong)

/-- 'racewaylaw02.CrcBits': WHATEVER THE INPUT: true; the input reads as it did. -/
def crcBitsSpec : ChangeSpec := { name := "crcBits", fn := fun _ => fun
  | [d1, d2] => { results := [.lit (.bool true)], args := [d1, d2] }
  | _ => none }
def crcBitsRow : OpenClaim := { program := "ytediidajdpdeiaadoor", sum := "004f87e073c5d9a33a810e5996d0f708bbba789d2603d5b9d7972a78d2ed1531", func := "raceway/racewaylaw02.CrcBits", spec := "crcBits", unfollowed := true, recurses := true, named := ["raceway/crc.half"], apart := false, laid := [("raceway/crc.half", laid_raceway_crc_half)] }
def CrcBitsSaid : Prop := crcBitsRow.holds Tryd.pinned (OpenSpec.ofChange crcBitsSpec)

/-- ITS FALSE NEIGHBOUR: 'it returns false'. Refute it at one input. -/
def crcBitsWrong : ChangeSpec := { name := "crcBits", fn := fun _ => fun
  | [d1, d2] => { results := [.lit (.bool false)], args := [d1, d2] }
  | _ => none }
def CrcBitsWrongFalsely : Prop := crcBitsRow.holds Tryd.pinned (OpenSpec.ofChange crcBitsWrong)

/-- 'racewaylaw02.CrcAll': WHATEVER THE INPUT: true; the input reads as it did. -/
def crcAllSpec : ChangeSpec := { name := "crcAll", fn := fun _ => fun
  | [d1, d2, d3] => { results := [.lit (.bool true)], args := [d1, d2, d3] }
  | _ => none }
def crcAllRow : OpenClaim := { program := "ytediidajdpdeiaadoor", sum := "004f87e073c5d9a33a810e5996d0f708bbba789d2603d5b9d7972a78d2ed1531", func := "raceway/racewaylaw02.CrcAll", spec := "crcAll", unfollowed := true, recurses := true, named := ["raceway/crc.half"], apart := false, laid := [("raceway/crc.half", laid_raceway_crc_half)] }
def CrcAllSaid : Prop := crcAllRow.holds Tryd.pinned (OpenSpec.ofChange crcAllSpec)

/-- ITS FALSE NEIGHBOUR: 'it returns false'. Refute it at one input. -/
def crcAllWrong : ChangeSpec := { name := "crcAll", fn := fun _ => fun
  | [d1, d2, d3] => { results := [.lit (.bool false)], args := [d1, d2, d3] }
  | _ => none }
def CrcAllWrongFalsely : Prop := crcAllRow.holds Tryd.pinned (OpenSpec.ofChange crcAllWrong)

/-- 'racewaylaw07.SeglogSegments': WHATEVER THE INPUT: true; the input reads as it did. -/
def seglogSegmentsSpec : ChangeSpec := { name := "seglogSegments", fn := fun _ => fun
  | [d1, d2] => { results := [.lit (.bool true)], args := [d1, d2] }
  | _ => none }
def seglogSegmentsRow : OpenClaim := { program := "ytediidajdpdeiaadoor", sum := "004f87e073c5d9a33a810e5996d0f708bbba789d2603d5b9d7972a78d2ed1531", func := "raceway/racewaylaw07.SeglogSegments", spec := "seglogSegments", unfollowed := true, recurses := true, named := ["raceway/crc.half"], apart := false, laid := [("raceway/crc.half", laid_raceway_crc_half)] }
def SeglogSegmentsSaid : Prop := seglogSegmentsRow.holds Tryd.pinned (OpenSpec.ofChange seglogSegmentsSpec)

/-- ITS FALSE NEIGHBOUR: 'it returns false'. Refute it at one input. -/
def seglogSegmentsWrong : ChangeSpec := { name := "seglogSegments", fn := fun _ => fun
  | [d1, d2] => { results := [.lit (.bool false)], args := [d1, d2] }
  | _ => none }
def SeglogSegmentsWrongFalsely : Prop := seglogSegmentsRow.holds Tryd.pinned (OpenSpec.ofChange seglogSegmentsWrong)

/-- 'racewaylaw07.SeglogPrefix': WHATEVER THE INPUT: true; the input reads as it did. -/
def seglogPrefixSpec : ChangeSpec := { name := "seglogPrefix", fn := fun _ => fun
  | [d1, d2, d3] => { results := [.lit (.bool true)], args := [d1, d2, d3] }
  | _ => none }
def seglogPrefixRow : OpenClaim := { program := "ytediidajdpdeiaadoor", sum := "004f87e073c5d9a33a810e5996d0f708bbba789d2603d5b9d7972a78d2ed1531", func := "raceway/racewaylaw07.SeglogPrefix", spec := "seglogPrefix", unfollowed := true, recurses := true, named := ["raceway/crc.half"], apart := false, laid := [("raceway/crc.half", laid_raceway_crc_half)] }
def SeglogPrefixSaid : Prop := seglogPrefixRow.holds Tryd.pinned (OpenSpec.ofChange seglogPrefixSpec)

/-- ITS FALSE NEIGHBOUR: 'it returns false'. Refute it at one input. -/
def seglogPrefixWrong : ChangeSpec := { name := "seglogPrefix", fn := fun _ => fun
  | [d1, d2, d3] => { results := [.lit (.bool false)], args := [d1, d2, d3] }
  | _ => none }
def SeglogPrefixWrongFalsely : Prop := seglogPrefixRow.holds Tryd.pinned (OpenSpec.ofChange seglogPrefixWrong)

/-- 'racewaylaw07.SeglogSynced': WHATEVER THE INPUT: true; the input reads as it did. -/
def seglogSyncedSpec : ChangeSpec := { name := "seglogSynced", fn := fun _ => fun
  | [d1, d2, d3] => { results := [.lit (.bool true)], args := [d1, d2, d3] }
  | _ => none }
def seglogSyncedRow : OpenClaim := { program := "ytediidajdpdeiaadoor", sum := "004f87e073c5d9a33a810e5996d0f708bbba789d2603d5b9d7972a78d2ed1531", func := "raceway/racewaylaw07.SeglogSynced", spec := "seglogSynced", unfollowed := true, recurses := true, named := ["raceway/crc.half"], apart := false, laid := [("raceway/crc.half", laid_raceway_crc_half)] }
def SeglogSyncedSaid : Prop := seglogSyncedRow.holds Tryd.pinned (OpenSpec.ofChange seglogSyncedSpec)

/-- ITS FALSE NEIGHBOUR: 'it returns false'. Refute it at one input. -/
def seglogSyncedWrong : ChangeSpec := { name := "seglogSynced", fn := fun _ => fun
  | [d1, d2, d3] => { results := [.lit (.bool false)], args := [d1, d2, d3] }
  | _ => none }
def SeglogSyncedWrongFalsely : Prop := seglogSyncedRow.holds Tryd.pinned (OpenSpec.ofChange seglogSyncedWrong)

/-- 'racewaylaw07.SeglogDrops': WHATEVER THE INPUT: true; the input reads as it did. -/
def seglogDropsSpec : ChangeSpec := { name := "seglogDrops", fn := fun _ => fun
  | [d1, d2, d3] => { results := [.lit (.bool true)], args := [d1, d2, d3] }
  | _ => none }
def seglogDropsRow : OpenClaim := { program := "ytediidajdpdeiaadoor", sum := "004f87e073c5d9a33a810e5996d0f708bbba789d2603d5b9d7972a78d2ed1531", func := "raceway/racewaylaw07.SeglogDrops", spec := "seglogDrops", unfollowed := true, recurses := true, named := ["raceway/crc.half"], apart := false, laid := [("raceway/crc.half", laid_raceway_crc_half)] }
def SeglogDropsSaid : Prop := seglogDropsRow.holds Tryd.pinned (OpenSpec.ofChange seglogDropsSpec)

/-- ITS FALSE NEIGHBOUR: 'it returns false'. Refute it at one input. -/
def seglogDropsWrong : ChangeSpec := { name := "seglogDrops", fn := fun _ => fun
  | [d1, d2, d3] => { results := [.lit (.bool false)], args := [d1, d2, d3] }
  | _ => none }
def SeglogDropsWrongFalsely : Prop := seglogDropsRow.holds Tryd.pinned (OpenSpec.ofChange seglogDropsWrong)

/-- 'racewaylaw07.SeglogNobody': WHATEVER THE INPUT: true; the input reads as it did. -/
def seglogNobodySpec : ChangeSpec := { name := "seglogNobody", fn := fun _ => fun
  | [d1, d2] => { results := [.lit (.bool true)], args := [d1, d2] }
  | _ => none }
def seglogNobodyRow : OpenClaim := { program := "ytediidajdpdeiaadoor", sum := "004f87e073c5d9a33a810e5996d0f708bbba789d2603d5b9d7972a78d2ed1531", func := "raceway/racewaylaw07.SeglogNobody", spec := "seglogNobody", unfollowed := true, recurses := true, named := ["raceway/crc.half"], apart := false, laid := [("raceway/crc.half", laid_raceway_crc_half)] }
def SeglogNobodySaid : Prop := seglogNobodyRow.holds Tryd.pinned (OpenSpec.ofChange seglogNobodySpec)

/-- ITS FALSE NEIGHBOUR: 'it returns false'. Refute it at one input. -/
def seglogNobodyWrong : ChangeSpec := { name := "seglogNobody", fn := fun _ => fun
  | [d1, d2] => { results := [.lit (.bool false)], args := [d1, d2] }
  | _ => none }
def SeglogNobodyWrongFalsely : Prop := seglogNobodyRow.holds Tryd.pinned (OpenSpec.ofChange seglogNobodyWrong)

/-- 'racewaylaw07.SeglogPlays': WHATEVER THE INPUT: true; the input reads as it did. -/
def seglogPlaysSpec : ChangeSpec := { name := "seglogPlays", fn := fun _ => fun
  | [d1, d2] => { results := [.lit (.bool true)], args := [d1, d2] }
  | _ => none }
def seglogPlaysRow : OpenClaim := { program := "ytediidajdpdeiaadoor", sum := "004f87e073c5d9a33a810e5996d0f708bbba789d2603d5b9d7972a78d2ed1531", func := "raceway/racewaylaw07.SeglogPlays", spec := "seglogPlays", unfollowed := true, recurses := true, named := ["raceway/crc.half"], apart := false, laid := [("raceway/crc.half", laid_raceway_crc_half)] }
def SeglogPlaysSaid : Prop := seglogPlaysRow.holds Tryd.pinned (OpenSpec.ofChange seglogPlaysSpec)

/-- ITS FALSE NEIGHBOUR: 'it returns false'. Refute it at one input. -/
def seglogPlaysWrong : ChangeSpec := { name := "seglogPlays", fn := fun _ => fun
  | [d1, d2] => { results := [.lit (.bool false)], args := [d1, d2] }
  | _ => none }
def SeglogPlaysWrongFalsely : Prop := seglogPlaysRow.holds Tryd.pinned (OpenSpec.ofChange seglogPlaysWrong)

/-- 'racewaylaw08.StoreKeeps': WHATEVER THE INPUT: true; the input reads as it did. -/
def storeKeepsSpec : ChangeSpec := { name := "storeKeeps", fn := fun _ => fun
  | [d1, d2, d3] => { results := [.lit (.bool true)], args := [d1, d2, d3] }
  | _ => none }
def storeKeepsRow : OpenClaim := { program := "ytediidajdpdeiaadoor", sum := "004f87e073c5d9a33a810e5996d0f708bbba789d2603d5b9d7972a78d2ed1531", func := "raceway/racewaylaw08.StoreKeeps", spec := "storeKeeps", unfollowed := true, recurses := true, named := ["raceway/crc.half"], apart := false, laid := [("raceway/crc.half", laid_raceway_crc_half)] }
def StoreKeepsSaid : Prop := storeKeepsRow.holds Tryd.pinned (OpenSpec.ofChange storeKeepsSpec)

/-- ITS FALSE NEIGHBOUR: 'it returns false'. Refute it at one input. -/
def storeKeepsWrong : ChangeSpec := { name := "storeKeeps", fn := fun _ => fun
  | [d1, d2, d3] => { results := [.lit (.bool false)], args := [d1, d2, d3] }
  | _ => none }
def StoreKeepsWrongFalsely : Prop := storeKeepsRow.holds Tryd.pinned (OpenSpec.ofChange storeKeepsWrong)

/-- 'racewaylaw08.StoreRises': WHATEVER THE INPUT: true; the input reads as it did. -/
def storeRisesSpec : ChangeSpec := { name := "storeRises", fn := fun _ => fun
  | [d1, d2, d3] => { results := [.lit (.bool true)], args := [d1, d2, d3] }
  | _ => none }
def storeRisesRow : OpenClaim := { program := "ytediidajdpdeiaadoor", sum := "004f87e073c5d9a33a810e5996d0f708bbba789d2603d5b9d7972a78d2ed1531", func := "raceway/racewaylaw08.StoreRises", spec := "storeRises", unfollowed := true, recurses := true, named := ["raceway/crc.half"], apart := false, laid := [("raceway/crc.half", laid_raceway_crc_half)] }
def StoreRisesSaid : Prop := storeRisesRow.holds Tryd.pinned (OpenSpec.ofChange storeRisesSpec)

/-- ITS FALSE NEIGHBOUR: 'it returns false'. Refute it at one input. -/
def storeRisesWrong : ChangeSpec := { name := "storeRises", fn := fun _ => fun
  | [d1, d2, d3] => { results := [.lit (.bool false)], args := [d1, d2, d3] }
  | _ => none }
def StoreRisesWrongFalsely : Prop := storeRisesRow.holds Tryd.pinned (OpenSpec.ofChange storeRisesWrong)

/-- 'racewaylaw08.StoreTorn': WHATEVER THE INPUT: true; the input reads as it did. -/
def storeTornSpec : ChangeSpec := { name := "storeTorn", fn := fun _ => fun
  | [d1, d2, d3] => { results := [.lit (.bool true)], args := [d1, d2, d3] }
  | _ => none }
def storeTornRow : OpenClaim := { program := "ytediidajdpdeiaadoor", sum := "004f87e073c5d9a33a810e5996d0f708bbba789d2603d5b9d7972a78d2ed1531", func := "raceway/racewaylaw08.StoreTorn", spec := "storeTorn", unfollowed := true, recurses := true, named := ["raceway/crc.half"], apart := false, laid := [("raceway/crc.half", laid_raceway_crc_half)] }
def StoreTornSaid : Prop := storeTornRow.holds Tryd.pinned (OpenSpec.ofChange storeTornSpec)

/-- ITS FALSE NEIGHBOUR: 'it returns false'. Refute it at one input. -/
def storeTornWrong : ChangeSpec := { name := "storeTorn", fn := fun _ => fun
  | [d1, d2, d3] => { results := [.lit (.bool false)], args := [d1, d2, d3] }
  | _ => none }
def StoreTornWrongFalsely : Prop := storeTornRow.holds Tryd.pinned (OpenSpec.ofChange storeTornWrong)

/-- 'racewaylaw08.StoreForgets': WHATEVER THE INPUT: true; the input reads as it did. -/
def storeForgetsSpec : ChangeSpec := { name := "storeForgets", fn := fun _ => fun
  | [d1, d2, d3] => { results := [.lit (.bool true)], args := [d1, d2, d3] }
  | _ => none }
def storeForgetsRow : OpenClaim := { program := "ytediidajdpdeiaadoor", sum := "004f87e073c5d9a33a810e5996d0f708bbba789d2603d5b9d7972a78d2ed1531", func := "raceway/racewaylaw08.StoreForgets", spec := "storeForgets", unfollowed := true, recurses := true, named := ["raceway/crc.half"], apart := false, laid := [("raceway/crc.half", laid_raceway_crc_half)] }
def StoreForgetsSaid : Prop := storeForgetsRow.holds Tryd.pinned (OpenSpec.ofChange storeForgetsSpec)

/-- ITS FALSE NEIGHBOUR: 'it returns false'. Refute it at one input. -/
def storeForgetsWrong : ChangeSpec := { name := "storeForgets", fn := fun _ => fun
  | [d1, d2, d3] => { results := [.lit (.bool false)], args := [d1, d2, d3] }
  | _ => none }
def StoreForgetsWrongFalsely : Prop := storeForgetsRow.holds Tryd.pinned (OpenSpec.ofChange storeForgetsWrong)

/-- 'racewaylaw08.StoreSnaps': WHATEVER THE INPUT: true; the input reads as it did. -/
def storeSnapsSpec : ChangeSpec := { name := "storeSnaps", fn := fun _ => fun
  | [d1, d2, d3] => { results := [.lit (.bool true)], args := [d1, d2, d3] }
  | _ => none }
def storeSnapsRow : OpenClaim := { program := "ytediidajdpdeiaadoor", sum := "004f87e073c5d9a33a810e5996d0f708bbba789d2603d5b9d7972a78d2ed1531", func := "raceway/racewaylaw08.StoreSnaps", spec := "storeSnaps", unfollowed := true, recurses := true, named := ["raceway/crc.half"], apart := false, laid := [("raceway/crc.half", laid_raceway_crc_half)] }
def StoreSnapsSaid : Prop := storeSnapsRow.holds Tryd.pinned (OpenSpec.ofChange storeSnapsSpec)

/-- ITS FALSE NEIGHBOUR: 'it returns false'. Refute it at one input. -/
def storeSnapsWrong : ChangeSpec := { name := "storeSnaps", fn := fun _ => fun
  | [d1, d2, d3] => { results := [.lit (.bool false)], args := [d1, d2, d3] }
  | _ => none }
def StoreSnapsWrongFalsely : Prop := storeSnapsRow.holds Tryd.pinned (OpenSpec.ofChange storeSnapsWrong)

/-- 'racewaylaw08.StoreNobody': WHATEVER THE INPUT: true; the input reads as it did. -/
def storeNobodySpec : ChangeSpec := { name := "storeNobody", fn := fun _ => fun
  | [d1, d2] => { results := [.lit (.bool true)], args := [d1, d2] }
  | _ => none }
def storeNobodyRow : OpenClaim := { program := "ytediidajdpdeiaadoor", sum := "004f87e073c5d9a33a810e5996d0f708bbba789d2603d5b9d7972a78d2ed1531", func := "raceway/racewaylaw08.StoreNobody", spec := "storeNobody", inPlace := ["maps.clone"], unfollowed := true, recurses := true, named := ["raceway/crc.half"], apart := false, laid := [("raceway/crc.half", laid_raceway_crc_half)] }
def StoreNobodySaid : Prop := storeNobodyRow.holds Tryd.pinned (OpenSpec.ofChange storeNobodySpec)

/-- ITS FALSE NEIGHBOUR: 'it returns false'. Refute it at one input. -/
def storeNobodyWrong : ChangeSpec := { name := "storeNobody", fn := fun _ => fun
  | [d1, d2] => { results := [.lit (.bool false)], args := [d1, d2] }
  | _ => none }
def StoreNobodyWrongFalsely : Prop := storeNobodyRow.holds Tryd.pinned (OpenSpec.ofChange storeNobodyWrong)

/- THE SECOND FORM. 'bulk': how many values and letters a reading holds, each counted each time it is reached (what is shared counts as often as it is met; a slice's spare places count too). A statement '..UptoSaid' is the law's where the arguments, and the package variables that the reading takes, are together of bulk at most 1048576: NARROWER than '..Said'. Prove '..Said' where nothing that the law and all that it calls make is longer than what came in: it says more and counts as full. Else prove '..UptoSaid'. A law counts once. -/
mutual
def uptoBulk {H : Type} : DataW H → Nat
  | .lit (.string bytes) => bytes.length + 1
  | .lit _ => 1
  | .nil => 1
  | .ptr d => uptoBulk d + 1
  | .slice elems spare => uptoBulkAll elems + uptoBulkAll spare + 1
  | .agg parts => uptoBulkAll parts + 1
  | .iface _ d => uptoBulk d + 1
  | .map entries => uptoBulkEntries entries + 1
  | .held _ => 1
def uptoBulkAll {H : Type} : List (DataW H) → Nat
  | [] => 0
  | d :: r => uptoBulk d + uptoBulkAll r
def uptoBulkEntries {H : Type} : List (Lit × DataW H) → Nat
  | [] => 0
  | x :: r => uptoBulkEntry x + uptoBulkEntries r
def uptoBulkEntry {H : Type} : Lit × DataW H → Nat
  | (.string bytes, d) => bytes.length + uptoBulk d + 1
  | (_, d) => uptoBulk d + 1
 end
def uptoSmall : (H : Type) → List (DataW H) → Bool := fun _ ds => decide (uptoBulkAll ds ≤ 1048576)
def OpenSpec.upto (s : _root_.Go.ChangeSpec) : _root_.Go.OpenSpec := { _root_.Go.OpenSpec.ofChange s with cond := some uptoSmall }

/-- 'racewaylaw02.CrcSums', WHERE WHAT IT READS IS OF BULK AT MOST 1048576: true; the input reads as it did. -/
def crcSumsUptoRow : OpenClaim := { program := "ytediidajdpdeiaadoor", sum := "004f87e073c5d9a33a810e5996d0f708bbba789d2603d5b9d7972a78d2ed1531", func := "raceway/racewaylaw02.CrcSums", spec := "crcSums", unfollowed := true, recurses := true, named := ["raceway/crc.half"], apart := false, laid := [("raceway/crc.half", laid_raceway_crc_half)], narrowed := true }
def CrcSumsUptoSaid : Prop := crcSumsUptoRow.holds Tryd.pinned (OpenSpec.upto crcSumsSpec)

/-- 'racewaylaw02.CrcFrames', WHERE WHAT IT READS IS OF BULK AT MOST 1048576: true; the input reads as it did. -/
def crcFramesUptoRow : OpenClaim := { program := "ytediidajdpdeiaadoor", sum := "004f87e073c5d9a33a810e5996d0f708bbba789d2603d5b9d7972a78d2ed1531", func := "raceway/racewaylaw02.CrcFrames", spec := "crcFrames", unfollowed := true, recurses := true, named := ["raceway/crc.half"], apart := false, laid := [("raceway/crc.half", laid_raceway_crc_half)], narrowed := true }
def CrcFramesUptoSaid : Prop := crcFramesUptoRow.holds Tryd.pinned (OpenSpec.upto crcFramesSpec)

/-- 'racewaylaw02.CrcGood', WHERE WHAT IT READS IS OF BULK AT MOST 1048576: true; the input reads as it did. -/
def crcGoodUptoRow : OpenClaim := { program := "ytediidajdpdeiaadoor", sum := "004f87e073c5d9a33a810e5996d0f708bbba789d2603d5b9d7972a78d2ed1531", func := "raceway/racewaylaw02.CrcGood", spec := "crcGood", unfollowed := true, recurses := true, named := ["raceway/crc.half"], apart := false, laid := [("raceway/crc.half", laid_raceway_crc_half)], narrowed := true }
def CrcGoodUptoSaid : Prop := crcGoodUptoRow.holds Tryd.pinned (OpenSpec.upto crcGoodSpec)

/-- 'racewaylaw02.CrcLong', WHERE WHAT IT READS IS OF BULK AT MOST 1048576: true; the input reads as it did. -/
def crcLongUptoRow : OpenClaim := { program := "ytediidajdpdeiaadoor", sum := "004f87e073c5d9a33a810e5996d0f708bbba789d2603d5b9d7972a78d2ed1531", func := "raceway/racewaylaw02.CrcLong", spec := "crcLong", unfollowed := true, recurses := true, named := ["raceway/crc.half"], apart := false, laid := [("raceway/crc.half", laid_raceway_crc_half)], narrowed := true }
def CrcLongUptoSaid : Prop := crcLongUptoRow.holds Tryd.pinned (OpenSpec.upto crcLongSpec)

/-- 'racewaylaw02.CrcBack', WHERE WHAT IT READS IS OF BULK AT MOST 1048576: true; the input reads as it did. -/
def crcBackUptoRow : OpenClaim := { program := "ytediidajdpdeiaadoor", sum := "004f87e073c5d9a33a810e5996d0f708bbba789d2603d5b9d7972a78d2ed1531", func := "raceway/racewaylaw02.CrcBack", spec := "crcBack", unfollowed := true, recurses := true, named := ["raceway/crc.half"], apart := false, laid := [("raceway/crc.half", laid_raceway_crc_half)], narrowed := true }
def CrcBackUptoSaid : Prop := crcBackUptoRow.holds Tryd.pinned (OpenSpec.upto crcBackSpec)

/-- 'racewaylaw02.CrcBits', WHERE WHAT IT READS IS OF BULK AT MOST 1048576: true; the input reads as it did. -/
def crcBitsUptoRow : OpenClaim := { program := "ytediidajdpdeiaadoor", sum := "004f87e073c5d9a33a810e5996d0f708bbba789d2603d5b9d7972a78d2ed1531", func := "raceway/racewaylaw02.CrcBits", spec := "crcBits", unfollowed := true, recurses := true, named := ["raceway/crc.half"], apart := false, laid := [("raceway/crc.half", laid_raceway_crc_half)], narrowed := true }
def CrcBitsUptoSaid : Prop := crcBitsUptoRow.holds Tryd.pinned (OpenSpec.upto crcBitsSpec)

/-- 'racewaylaw02.CrcAll', WHERE WHAT IT READS IS OF BULK AT MOST 1048576: true; the input reads as it did. -/
def crcAllUptoRow : OpenClaim := { program := "ytediidajdpdeiaadoor", sum := "004f87e073c5d9a33a810e5996d0f708bbba789d2603d5b9d7972a78d2ed1531", func := "raceway/racewaylaw02.CrcAll", spec := "crcAll", unfollowed := true, recurses := true, named := ["raceway/crc.half"], apart := false, laid := [("raceway/crc.half", laid_raceway_crc_half)], narrowed := true }
def CrcAllUptoSaid : Prop := crcAllUptoRow.holds Tryd.pinned (OpenSpec.upto crcAllSpec)

/-- 'racewaylaw07.SeglogSegments', WHERE WHAT IT READS IS OF BULK AT MOST 1048576: true; the input reads as it did. -/
def seglogSegmentsUptoRow : OpenClaim := { program := "ytediidajdpdeiaadoor", sum := "004f87e073c5d9a33a810e5996d0f708bbba789d2603d5b9d7972a78d2ed1531", func := "raceway/racewaylaw07.SeglogSegments", spec := "seglogSegments", unfollowed := true, recurses := true, named := ["raceway/crc.half"], apart := false, laid := [("raceway/crc.half", laid_raceway_crc_half)], narrowed := true }
def SeglogSegmentsUptoSaid : Prop := seglogSegmentsUptoRow.holds Tryd.pinned (OpenSpec.upto seglogSegmentsSpec)

/-- 'racewaylaw07.SeglogPrefix', WHERE WHAT IT READS IS OF BULK AT MOST 1048576: true; the input reads as it did. -/
def seglogPrefixUptoRow : OpenClaim := { program := "ytediidajdpdeiaadoor", sum := "004f87e073c5d9a33a810e5996d0f708bbba789d2603d5b9d7972a78d2ed1531", func := "raceway/racewaylaw07.SeglogPrefix", spec := "seglogPrefix", unfollowed := true, recurses := true, named := ["raceway/crc.half"], apart := false, laid := [("raceway/crc.half", laid_raceway_crc_half)], narrowed := true }
def SeglogPrefixUptoSaid : Prop := seglogPrefixUptoRow.holds Tryd.pinned (OpenSpec.upto seglogPrefixSpec)

/-- 'racewaylaw07.SeglogSynced', WHERE WHAT IT READS IS OF BULK AT MOST 1048576: true; the input reads as it did. -/
def seglogSyncedUptoRow : OpenClaim := { program := "ytediidajdpdeiaadoor", sum := "004f87e073c5d9a33a810e5996d0f708bbba789d2603d5b9d7972a78d2ed1531", func := "raceway/racewaylaw07.SeglogSynced", spec := "seglogSynced", unfollowed := true, recurses := true, named := ["raceway/crc.half"], apart := false, laid := [("raceway/crc.half", laid_raceway_crc_half)], narrowed := true }
def SeglogSyncedUptoSaid : Prop := seglogSyncedUptoRow.holds Tryd.pinned (OpenSpec.upto seglogSyncedSpec)

/-- 'racewaylaw07.SeglogDrops', WHERE WHAT IT READS IS OF BULK AT MOST 1048576: true; the input reads as it did. -/
def seglogDropsUptoRow : OpenClaim := { program := "ytediidajdpdeiaadoor", sum := "004f87e073c5d9a33a810e5996d0f708bbba789d2603d5b9d7972a78d2ed1531", func := "raceway/racewaylaw07.SeglogDrops", spec := "seglogDrops", unfollowed := true, recurses := true, named := ["raceway/crc.half"], apart := false, laid := [("raceway/crc.half", laid_raceway_crc_half)], narrowed := true }
def SeglogDropsUptoSaid : Prop := seglogDropsUptoRow.holds Tryd.pinned (OpenSpec.upto seglogDropsSpec)

/-- 'racewaylaw07.SeglogNobody', WHERE WHAT IT READS IS OF BULK AT MOST 1048576: true; the input reads as it did. -/
def seglogNobodyUptoRow : OpenClaim := { program := "ytediidajdpdeiaadoor", sum := "004f87e073c5d9a33a810e5996d0f708bbba789d2603d5b9d7972a78d2ed1531", func := "raceway/racewaylaw07.SeglogNobody", spec := "seglogNobody", unfollowed := true, recurses := true, named := ["raceway/crc.half"], apart := false, laid := [("raceway/crc.half", laid_raceway_crc_half)], narrowed := true }
def SeglogNobodyUptoSaid : Prop := seglogNobodyUptoRow.holds Tryd.pinned (OpenSpec.upto seglogNobodySpec)

/-- 'racewaylaw07.SeglogPlays', WHERE WHAT IT READS IS OF BULK AT MOST 1048576: true; the input reads as it did. -/
def seglogPlaysUptoRow : OpenClaim := { program := "ytediidajdpdeiaadoor", sum := "004f87e073c5d9a33a810e5996d0f708bbba789d2603d5b9d7972a78d2ed1531", func := "raceway/racewaylaw07.SeglogPlays", spec := "seglogPlays", unfollowed := true, recurses := true, named := ["raceway/crc.half"], apart := false, laid := [("raceway/crc.half", laid_raceway_crc_half)], narrowed := true }
def SeglogPlaysUptoSaid : Prop := seglogPlaysUptoRow.holds Tryd.pinned (OpenSpec.upto seglogPlaysSpec)

/-- 'racewaylaw08.StoreKeeps', WHERE WHAT IT READS IS OF BULK AT MOST 1048576: true; the input reads as it did. -/
def storeKeepsUptoRow : OpenClaim := { program := "ytediidajdpdeiaadoor", sum := "004f87e073c5d9a33a810e5996d0f708bbba789d2603d5b9d7972a78d2ed1531", func := "raceway/racewaylaw08.StoreKeeps", spec := "storeKeeps", unfollowed := true, recurses := true, named := ["raceway/crc.half"], apart := false, laid := [("raceway/crc.half", laid_raceway_crc_half)], narrowed := true }
def StoreKeepsUptoSaid : Prop := storeKeepsUptoRow.holds Tryd.pinned (OpenSpec.upto storeKeepsSpec)

/-- 'racewaylaw08.StoreRises', WHERE WHAT IT READS IS OF BULK AT MOST 1048576: true; the input reads as it did. -/
def storeRisesUptoRow : OpenClaim := { program := "ytediidajdpdeiaadoor", sum := "004f87e073c5d9a33a810e5996d0f708bbba789d2603d5b9d7972a78d2ed1531", func := "raceway/racewaylaw08.StoreRises", spec := "storeRises", unfollowed := true, recurses := true, named := ["raceway/crc.half"], apart := false, laid := [("raceway/crc.half", laid_raceway_crc_half)], narrowed := true }
def StoreRisesUptoSaid : Prop := storeRisesUptoRow.holds Tryd.pinned (OpenSpec.upto storeRisesSpec)

/-- 'racewaylaw08.StoreTorn', WHERE WHAT IT READS IS OF BULK AT MOST 1048576: true; the input reads as it did. -/
def storeTornUptoRow : OpenClaim := { program := "ytediidajdpdeiaadoor", sum := "004f87e073c5d9a33a810e5996d0f708bbba789d2603d5b9d7972a78d2ed1531", func := "raceway/racewaylaw08.StoreTorn", spec := "storeTorn", unfollowed := true, recurses := true, named := ["raceway/crc.half"], apart := false, laid := [("raceway/crc.half", laid_raceway_crc_half)], narrowed := true }
def StoreTornUptoSaid : Prop := storeTornUptoRow.holds Tryd.pinned (OpenSpec.upto storeTornSpec)

/-- 'racewaylaw08.StoreForgets', WHERE WHAT IT READS IS OF BULK AT MOST 1048576: true; the input reads as it did. -/
def storeForgetsUptoRow : OpenClaim := { program := "ytediidajdpdeiaadoor", sum := "004f87e073c5d9a33a810e5996d0f708bbba789d2603d5b9d7972a78d2ed1531", func := "raceway/racewaylaw08.StoreForgets", spec := "storeForgets", unfollowed := true, recurses := true, named := ["raceway/crc.half"], apart := false, laid := [("raceway/crc.half", laid_raceway_crc_half)], narrowed := true }
def StoreForgetsUptoSaid : Prop := storeForgetsUptoRow.holds Tryd.pinned (OpenSpec.upto storeForgetsSpec)

/-- 'racewaylaw08.StoreSnaps', WHERE WHAT IT READS IS OF BULK AT MOST 1048576: true; the input reads as it did. -/
def storeSnapsUptoRow : OpenClaim := { program := "ytediidajdpdeiaadoor", sum := "004f87e073c5d9a33a810e5996d0f708bbba789d2603d5b9d7972a78d2ed1531", func := "raceway/racewaylaw08.StoreSnaps", spec := "storeSnaps", unfollowed := true, recurses := true, named := ["raceway/crc.half"], apart := false, laid := [("raceway/crc.half", laid_raceway_crc_half)], narrowed := true }
def StoreSnapsUptoSaid : Prop := storeSnapsUptoRow.holds Tryd.pinned (OpenSpec.upto storeSnapsSpec)

/-- 'racewaylaw08.StoreNobody', WHERE WHAT IT READS IS OF BULK AT MOST 1048576: true; the input reads as it did. -/
def storeNobodyUptoRow : OpenClaim := { program := "ytediidajdpdeiaadoor", sum := "004f87e073c5d9a33a810e5996d0f708bbba789d2603d5b9d7972a78d2ed1531", func := "raceway/racewaylaw08.StoreNobody", spec := "storeNobody", inPlace := ["maps.clone"], unfollowed := true, recurses := true, named := ["raceway/crc.half"], apart := false, laid := [("raceway/crc.half", laid_raceway_crc_half)], narrowed := true }
def StoreNobodyUptoSaid : Prop := storeNobodyUptoRow.holds Tryd.pinned (OpenSpec.upto storeNobodySpec)

end Rows
end Go.Proofs.YtediidajdpdeiaaDoor
