/-
  No cell of these rows narrows 'for every input' (looked for: loops, veiled, ifaces, maps, wideKeys, modest, calm, conditions, laid).
  DERIVED. THE GIVEN ROWS OF THIS SEAT. 20 by the template 'for every input the law returns true; each argument reads behind the call as it read before'; 0 by the template 'total and deterministic' (their statements: YtbbinmplkbpcdaaTotals.lean).
  GIVEN WITH THE SEED: the statements are not yours to turn. If you find one false, say at which input.
  Laid BY PROGRAM, IN A SANDBOX (cutbox-rows.mjs): the forced cells as the released guide's own fill.sh prints them over the translation 73b3ab650f1b1c1d… (all of the seat's roots in one cut). By AI agents, Wed Nov 11 2026. No macro, syntax, notation, axiom, sorry.
-/
import Derived.Test.YtbbinmplkbpcdaaChecked
import GoSem.Claim
import GoSem.ClaimJoined
import GoSem.ClaimMapViews
import Derived.JoinedTies
import Derived.KernelRfl
namespace Go.Proofs.Ytbbinmplkbpcdaa
/- THE CELL 'sum', in the pinned program and in every row, IS THE sha256 OF THE DUMP (.gsa) THAT YtbbinmplkbpcdaaProg.lean LOADS. Nothing in Lean hashes anything: it is a label: what it is worth is what the hold of that sum in a sandbox is worth. -/
noncomputable def Try.pinned : Pinned := { name := "ytbbinmplkbpcdaa", sum := "73b3ab650f1b1c1df7642cf6f4c9acfcd6075f1815a475ffb489a58d18d1497c", checked := Try.checked }
namespace Rows
def none {H : Type} : Left H := { results := [], args := [] }

/-- 'windhoverlaw21.UploadPlays': WHATEVER THE INPUT: true; the input reads as it did. -/
def uploadPlaysSpec : ChangeSpec := { name := "uploadPlays", fn := fun _ => fun
  | [d1, d2, d3] => { results := [.lit (.bool true)], args := [d1, d2, d3] }
  | _ => none }
def uploadPlaysRow : OpenClaim := { program := "ytbbinmplkbpcdaa", sum := "73b3ab650f1b1c1df7642cf6f4c9acfcd6075f1815a475ffb489a58d18d1497c", func := "windhover/windhoverlaw21.UploadPlays", spec := "uploadPlays", unfollowed := true, recurses := true, apart := false }
def UploadPlaysSaid : Prop := uploadPlaysRow.holds Try.pinned (OpenSpec.ofChange uploadPlaysSpec)

/-- ITS FALSE NEIGHBOUR: 'it returns false'. Refute it at one input. -/
def uploadPlaysWrong : ChangeSpec := { name := "uploadPlays", fn := fun _ => fun
  | [d1, d2, d3] => { results := [.lit (.bool false)], args := [d1, d2, d3] }
  | _ => none }
def UploadPlaysWrongFalsely : Prop := uploadPlaysRow.holds Try.pinned (OpenSpec.ofChange uploadPlaysWrong)

/-- 'windhoverlaw21.UploadOnly': WHATEVER THE INPUT: true; the input reads as it did. -/
def uploadOnlySpec : ChangeSpec := { name := "uploadOnly", fn := fun _ => fun
  | [d1, d2] => { results := [.lit (.bool true)], args := [d1, d2] }
  | _ => none }
def uploadOnlyRow : OpenClaim := { program := "ytbbinmplkbpcdaa", sum := "73b3ab650f1b1c1df7642cf6f4c9acfcd6075f1815a475ffb489a58d18d1497c", func := "windhover/windhoverlaw21.UploadOnly", spec := "uploadOnly", unfollowed := true, recurses := true, apart := false }
def UploadOnlySaid : Prop := uploadOnlyRow.holds Try.pinned (OpenSpec.ofChange uploadOnlySpec)

/-- ITS FALSE NEIGHBOUR: 'it returns false'. Refute it at one input. -/
def uploadOnlyWrong : ChangeSpec := { name := "uploadOnly", fn := fun _ => fun
  | [d1, d2] => { results := [.lit (.bool false)], args := [d1, d2] }
  | _ => none }
def UploadOnlyWrongFalsely : Prop := uploadOnlyRow.holds Try.pinned (OpenSpec.ofChange uploadOnlyWrong)

/-- 'windhoverlaw21.UploadWhole': WHATEVER THE INPUT: true; the input reads as it did. -/
def uploadWholeSpec : ChangeSpec := { name := "uploadWhole", fn := fun _ => fun
  | [d1, d2] => { results := [.lit (.bool true)], args := [d1, d2] }
  | _ => none }
def uploadWholeRow : OpenClaim := { program := "ytbbinmplkbpcdaa", sum := "73b3ab650f1b1c1df7642cf6f4c9acfcd6075f1815a475ffb489a58d18d1497c", func := "windhover/windhoverlaw21.UploadWhole", spec := "uploadWhole", unfollowed := true, recurses := true, apart := false }
def UploadWholeSaid : Prop := uploadWholeRow.holds Try.pinned (OpenSpec.ofChange uploadWholeSpec)

/-- ITS FALSE NEIGHBOUR: 'it returns false'. Refute it at one input. -/
def uploadWholeWrong : ChangeSpec := { name := "uploadWhole", fn := fun _ => fun
  | [d1, d2] => { results := [.lit (.bool false)], args := [d1, d2] }
  | _ => none }
def UploadWholeWrongFalsely : Prop := uploadWholeRow.holds Try.pinned (OpenSpec.ofChange uploadWholeWrong)

/-- 'windhoverlaw21.UploadSilent': WHATEVER THE INPUT: true; the input reads as it did. -/
def uploadSilentSpec : ChangeSpec := { name := "uploadSilent", fn := fun _ => fun
  | [d1, d2, d3] => { results := [.lit (.bool true)], args := [d1, d2, d3] }
  | _ => none }
def uploadSilentRow : OpenClaim := { program := "ytbbinmplkbpcdaa", sum := "73b3ab650f1b1c1df7642cf6f4c9acfcd6075f1815a475ffb489a58d18d1497c", func := "windhover/windhoverlaw21.UploadSilent", spec := "uploadSilent", unfollowed := true, recurses := true, apart := false }
def UploadSilentSaid : Prop := uploadSilentRow.holds Try.pinned (OpenSpec.ofChange uploadSilentSpec)

/-- ITS FALSE NEIGHBOUR: 'it returns false'. Refute it at one input. -/
def uploadSilentWrong : ChangeSpec := { name := "uploadSilent", fn := fun _ => fun
  | [d1, d2, d3] => { results := [.lit (.bool false)], args := [d1, d2, d3] }
  | _ => none }
def UploadSilentWrongFalsely : Prop := uploadSilentRow.holds Try.pinned (OpenSpec.ofChange uploadSilentWrong)

/-- 'windhoverlaw21.UploadNil': WHATEVER THE INPUT: true; the input reads as it did. -/
def uploadNilSpec : ChangeSpec := { name := "uploadNil", fn := fun _ => fun
  | [d1, d2] => { results := [.lit (.bool true)], args := [d1, d2] }
  | _ => none }
def uploadNilRow : OpenClaim := { program := "ytbbinmplkbpcdaa", sum := "73b3ab650f1b1c1df7642cf6f4c9acfcd6075f1815a475ffb489a58d18d1497c", func := "windhover/windhoverlaw21.UploadNil", spec := "uploadNil", unfollowed := true, recurses := true, apart := false }
def UploadNilSaid : Prop := uploadNilRow.holds Try.pinned (OpenSpec.ofChange uploadNilSpec)

/-- ITS FALSE NEIGHBOUR: 'it returns false'. Refute it at one input. -/
def uploadNilWrong : ChangeSpec := { name := "uploadNil", fn := fun _ => fun
  | [d1, d2] => { results := [.lit (.bool false)], args := [d1, d2] }
  | _ => none }
def UploadNilWrongFalsely : Prop := uploadNilRow.holds Try.pinned (OpenSpec.ofChange uploadNilWrong)

/-- 'windhoverlaw04.FrameEncodes': WHATEVER THE INPUT: true; the input reads as it did. -/
def frameEncodesSpec : ChangeSpec := { name := "frameEncodes", fn := fun _ => fun
  | [d] => { results := [.lit (.bool true)], args := [d] }
  | _ => none }
def frameEncodesRow : OpenClaim := { program := "ytbbinmplkbpcdaa", sum := "73b3ab650f1b1c1df7642cf6f4c9acfcd6075f1815a475ffb489a58d18d1497c", func := "windhover/windhoverlaw04.FrameEncodes", spec := "frameEncodes", inPlace := ["internal/bytealg.IndexByteString", "internal/bytealg.IndexString"], named := ["internal/bytealg.MaxLen"], apart := false }
def FrameEncodesSaid : Prop := frameEncodesRow.holds Try.pinned (OpenSpec.ofChange frameEncodesSpec)

/-- ITS FALSE NEIGHBOUR: 'it returns false'. Refute it at one input. -/
def frameEncodesWrong : ChangeSpec := { name := "frameEncodes", fn := fun _ => fun
  | [d] => { results := [.lit (.bool false)], args := [d] }
  | _ => none }
def FrameEncodesWrongFalsely : Prop := frameEncodesRow.holds Try.pinned (OpenSpec.ofChange frameEncodesWrong)

/-- 'windhoverlaw04.FrameFeeds': WHATEVER THE INPUT: true; the input reads as it did. -/
def frameFeedsSpec : ChangeSpec := { name := "frameFeeds", fn := fun _ => fun
  | [d] => { results := [.lit (.bool true)], args := [d] }
  | _ => none }
def frameFeedsRow : OpenClaim := { program := "ytbbinmplkbpcdaa", sum := "73b3ab650f1b1c1df7642cf6f4c9acfcd6075f1815a475ffb489a58d18d1497c", func := "windhover/windhoverlaw04.FrameFeeds", spec := "frameFeeds", inPlace := ["internal/bytealg.IndexByteString", "internal/bytealg.IndexString"], named := ["internal/bytealg.MaxLen"], apart := false }
def FrameFeedsSaid : Prop := frameFeedsRow.holds Try.pinned (OpenSpec.ofChange frameFeedsSpec)

/-- ITS FALSE NEIGHBOUR: 'it returns false'. Refute it at one input. -/
def frameFeedsWrong : ChangeSpec := { name := "frameFeeds", fn := fun _ => fun
  | [d] => { results := [.lit (.bool false)], args := [d] }
  | _ => none }
def FrameFeedsWrongFalsely : Prop := frameFeedsRow.holds Try.pinned (OpenSpec.ofChange frameFeedsWrong)

/-- 'windhoverlaw04.FrameCuts': WHATEVER THE INPUT: true; the input reads as it did. -/
def frameCutsSpec : ChangeSpec := { name := "frameCuts", fn := fun _ => fun
  | [d] => { results := [.lit (.bool true)], args := [d] }
  | _ => none }
def frameCutsRow : OpenClaim := { program := "ytbbinmplkbpcdaa", sum := "73b3ab650f1b1c1df7642cf6f4c9acfcd6075f1815a475ffb489a58d18d1497c", func := "windhover/windhoverlaw04.FrameCuts", spec := "frameCuts", inPlace := ["internal/bytealg.IndexByteString", "internal/bytealg.IndexString"], named := ["internal/bytealg.MaxLen"], apart := false }
def FrameCutsSaid : Prop := frameCutsRow.holds Try.pinned (OpenSpec.ofChange frameCutsSpec)

/-- ITS FALSE NEIGHBOUR: 'it returns false'. Refute it at one input. -/
def frameCutsWrong : ChangeSpec := { name := "frameCuts", fn := fun _ => fun
  | [d] => { results := [.lit (.bool false)], args := [d] }
  | _ => none }
def FrameCutsWrongFalsely : Prop := frameCutsRow.holds Try.pinned (OpenSpec.ofChange frameCutsWrong)

/-- 'windhoverlaw04.FrameBack': WHATEVER THE INPUT: true; the input reads as it did. -/
def frameBackSpec : ChangeSpec := { name := "frameBack", fn := fun _ => fun
  | [d1, d2] => { results := [.lit (.bool true)], args := [d1, d2] }
  | _ => none }
def frameBackRow : OpenClaim := { program := "ytbbinmplkbpcdaa", sum := "73b3ab650f1b1c1df7642cf6f4c9acfcd6075f1815a475ffb489a58d18d1497c", func := "windhover/windhoverlaw04.FrameBack", spec := "frameBack", inPlace := ["internal/bytealg.IndexByteString", "internal/bytealg.IndexString"], named := ["internal/bytealg.MaxLen"], apart := false }
def FrameBackSaid : Prop := frameBackRow.holds Try.pinned (OpenSpec.ofChange frameBackSpec)

/-- ITS FALSE NEIGHBOUR: 'it returns false'. Refute it at one input. -/
def frameBackWrong : ChangeSpec := { name := "frameBack", fn := fun _ => fun
  | [d1, d2] => { results := [.lit (.bool false)], args := [d1, d2] }
  | _ => none }
def FrameBackWrongFalsely : Prop := frameBackRow.holds Try.pinned (OpenSpec.ofChange frameBackWrong)

/-- 'windhoverlaw04.FrameStands': WHATEVER THE INPUT: true; the input reads as it did. -/
def frameStandsSpec : ChangeSpec := { name := "frameStands", fn := fun _ => fun
  | [d] => { results := [.lit (.bool true)], args := [d] }
  | _ => none }
def frameStandsRow : OpenClaim := { program := "ytbbinmplkbpcdaa", sum := "73b3ab650f1b1c1df7642cf6f4c9acfcd6075f1815a475ffb489a58d18d1497c", func := "windhover/windhoverlaw04.FrameStands", spec := "frameStands", inPlace := ["internal/bytealg.IndexByteString", "internal/bytealg.IndexString"], named := ["internal/bytealg.MaxLen"], apart := false }
def FrameStandsSaid : Prop := frameStandsRow.holds Try.pinned (OpenSpec.ofChange frameStandsSpec)

/-- ITS FALSE NEIGHBOUR: 'it returns false'. Refute it at one input. -/
def frameStandsWrong : ChangeSpec := { name := "frameStands", fn := fun _ => fun
  | [d] => { results := [.lit (.bool false)], args := [d] }
  | _ => none }
def FrameStandsWrongFalsely : Prop := frameStandsRow.holds Try.pinned (OpenSpec.ofChange frameStandsWrong)

/-- 'windhoverlaw04.FrameTurned': WHATEVER THE INPUT: true; the input reads as it did. -/
def frameTurnedSpec : ChangeSpec := { name := "frameTurned", fn := fun _ => fun
  | [d1, d2, d3] => { results := [.lit (.bool true)], args := [d1, d2, d3] }
  | _ => none }
def frameTurnedRow : OpenClaim := { program := "ytbbinmplkbpcdaa", sum := "73b3ab650f1b1c1df7642cf6f4c9acfcd6075f1815a475ffb489a58d18d1497c", func := "windhover/windhoverlaw04.FrameTurned", spec := "frameTurned", inPlace := ["internal/bytealg.IndexByteString", "internal/bytealg.IndexString"], named := ["internal/bytealg.MaxLen"], apart := false }
def FrameTurnedSaid : Prop := frameTurnedRow.holds Try.pinned (OpenSpec.ofChange frameTurnedSpec)

/-- ITS FALSE NEIGHBOUR: 'it returns false'. Refute it at one input. -/
def frameTurnedWrong : ChangeSpec := { name := "frameTurned", fn := fun _ => fun
  | [d1, d2, d3] => { results := [.lit (.bool false)], args := [d1, d2, d3] }
  | _ => none }
def FrameTurnedWrongFalsely : Prop := frameTurnedRow.holds Try.pinned (OpenSpec.ofChange frameTurnedWrong)

/-- 'windhoverlaw04.FrameCounts': WHATEVER THE INPUT: true; the input reads as it did. -/
def frameCountsSpec : ChangeSpec := { name := "frameCounts", fn := fun _ => fun
  | [d1, d2] => { results := [.lit (.bool true)], args := [d1, d2] }
  | _ => none }
def frameCountsRow : OpenClaim := { program := "ytbbinmplkbpcdaa", sum := "73b3ab650f1b1c1df7642cf6f4c9acfcd6075f1815a475ffb489a58d18d1497c", func := "windhover/windhoverlaw04.FrameCounts", spec := "frameCounts", inPlace := ["internal/bytealg.IndexByteString", "internal/bytealg.IndexString"], named := ["internal/bytealg.MaxLen"], apart := false }
def FrameCountsSaid : Prop := frameCountsRow.holds Try.pinned (OpenSpec.ofChange frameCountsSpec)

/-- ITS FALSE NEIGHBOUR: 'it returns false'. Refute it at one input. -/
def frameCountsWrong : ChangeSpec := { name := "frameCounts", fn := fun _ => fun
  | [d1, d2] => { results := [.lit (.bool false)], args := [d1, d2] }
  | _ => none }
def FrameCountsWrongFalsely : Prop := frameCountsRow.holds Try.pinned (OpenSpec.ofChange frameCountsWrong)

/-- 'windhoverlaw04.FrameNil': WHATEVER THE INPUT: true; the input reads as it did. -/
def frameNilSpec : ChangeSpec := { name := "frameNil", fn := fun _ => fun
  | [d] => { results := [.lit (.bool true)], args := [d] }
  | _ => none }
def frameNilRow : OpenClaim := { program := "ytbbinmplkbpcdaa", sum := "73b3ab650f1b1c1df7642cf6f4c9acfcd6075f1815a475ffb489a58d18d1497c", func := "windhover/windhoverlaw04.FrameNil", spec := "frameNil", inPlace := ["internal/bytealg.IndexByteString", "internal/bytealg.IndexString"], named := ["internal/bytealg.MaxLen"], apart := false }
def FrameNilSaid : Prop := frameNilRow.holds Try.pinned (OpenSpec.ofChange frameNilSpec)

/-- ITS FALSE NEIGHBOUR: 'it returns false'. Refute it at one input. -/
def frameNilWrong : ChangeSpec := { name := "frameNil", fn := fun _ => fun
  | [d] => { results := [.lit (.bool false)], args := [d] }
  | _ => none }
def FrameNilWrongFalsely : Prop := frameNilRow.holds Try.pinned (OpenSpec.ofChange frameNilWrong)

/-- 'windhoverlaw11.SenseReads': WHATEVER THE INPUT: true; the input reads as it did. -/
def senseReadsSpec : ChangeSpec := { name := "senseReads", fn := fun _ => fun
  | [d1, d2] => { results := [.lit (.bool true)], args := [d1, d2] }
  | _ => none }
def senseReadsRow : OpenClaim := { program := "ytbbinmplkbpcdaa", sum := "73b3ab650f1b1c1df7642cf6f4c9acfcd6075f1815a475ffb489a58d18d1497c", func := "windhover/windhoverlaw11.SenseReads", spec := "senseReads", inPlace := ["internal/bytealg.IndexByteString", "internal/bytealg.IndexString"], unfollowed := true, recurses := true, named := ["internal/bytealg.MaxLen"], apart := false }
def SenseReadsSaid : Prop := senseReadsRow.holds Try.pinned (OpenSpec.ofChange senseReadsSpec)

/-- ITS FALSE NEIGHBOUR: 'it returns false'. Refute it at one input. -/
def senseReadsWrong : ChangeSpec := { name := "senseReads", fn := fun _ => fun
  | [d1, d2] => { results := [.lit (.bool false)], args := [d1, d2] }
  | _ => none }
def SenseReadsWrongFalsely : Prop := senseReadsRow.holds Try.pinned (OpenSpec.ofChange senseReadsWrong)

/-- 'windhoverlaw11.SenseWrites': WHATEVER THE INPUT: true; the input reads as it did. -/
def senseWritesSpec : ChangeSpec := { name := "senseWrites", fn := fun _ => fun
  | [d1, d2] => { results := [.lit (.bool true)], args := [d1, d2] }
  | _ => none }
def senseWritesRow : OpenClaim := { program := "ytbbinmplkbpcdaa", sum := "73b3ab650f1b1c1df7642cf6f4c9acfcd6075f1815a475ffb489a58d18d1497c", func := "windhover/windhoverlaw11.SenseWrites", spec := "senseWrites", inPlace := ["internal/bytealg.IndexByteString", "internal/bytealg.IndexString"], unfollowed := true, recurses := true, named := ["internal/bytealg.MaxLen"], apart := false }
def SenseWritesSaid : Prop := senseWritesRow.holds Try.pinned (OpenSpec.ofChange senseWritesSpec)

/-- ITS FALSE NEIGHBOUR: 'it returns false'. Refute it at one input. -/
def senseWritesWrong : ChangeSpec := { name := "senseWrites", fn := fun _ => fun
  | [d1, d2] => { results := [.lit (.bool false)], args := [d1, d2] }
  | _ => none }
def SenseWritesWrongFalsely : Prop := senseWritesRow.holds Try.pinned (OpenSpec.ofChange senseWritesWrong)

/-- 'windhoverlaw11.SenseBack': WHATEVER THE INPUT: true; the input reads as it did. -/
def senseBackSpec : ChangeSpec := { name := "senseBack", fn := fun _ => fun
  | [d1, d2, d3] => { results := [.lit (.bool true)], args := [d1, d2, d3] }
  | _ => none }
def senseBackRow : OpenClaim := { program := "ytbbinmplkbpcdaa", sum := "73b3ab650f1b1c1df7642cf6f4c9acfcd6075f1815a475ffb489a58d18d1497c", func := "windhover/windhoverlaw11.SenseBack", spec := "senseBack", inPlace := ["internal/bytealg.IndexByteString", "internal/bytealg.IndexString"], unfollowed := true, recurses := true, named := ["internal/bytealg.MaxLen"], apart := false }
def SenseBackSaid : Prop := senseBackRow.holds Try.pinned (OpenSpec.ofChange senseBackSpec)

/-- ITS FALSE NEIGHBOUR: 'it returns false'. Refute it at one input. -/
def senseBackWrong : ChangeSpec := { name := "senseBack", fn := fun _ => fun
  | [d1, d2, d3] => { results := [.lit (.bool false)], args := [d1, d2, d3] }
  | _ => none }
def SenseBackWrongFalsely : Prop := senseBackRow.holds Try.pinned (OpenSpec.ofChange senseBackWrong)

/-- 'windhoverlaw11.SenseStands': WHATEVER THE INPUT: true; the input reads as it did. -/
def senseStandsSpec : ChangeSpec := { name := "senseStands", fn := fun _ => fun
  | [d1, d2] => { results := [.lit (.bool true)], args := [d1, d2] }
  | _ => none }
def senseStandsRow : OpenClaim := { program := "ytbbinmplkbpcdaa", sum := "73b3ab650f1b1c1df7642cf6f4c9acfcd6075f1815a475ffb489a58d18d1497c", func := "windhover/windhoverlaw11.SenseStands", spec := "senseStands", inPlace := ["internal/bytealg.IndexByteString", "internal/bytealg.IndexString"], unfollowed := true, recurses := true, named := ["internal/bytealg.MaxLen"], apart := false }
def SenseStandsSaid : Prop := senseStandsRow.holds Try.pinned (OpenSpec.ofChange senseStandsSpec)

/-- ITS FALSE NEIGHBOUR: 'it returns false'. Refute it at one input. -/
def senseStandsWrong : ChangeSpec := { name := "senseStands", fn := fun _ => fun
  | [d1, d2] => { results := [.lit (.bool false)], args := [d1, d2] }
  | _ => none }
def SenseStandsWrongFalsely : Prop := senseStandsRow.holds Try.pinned (OpenSpec.ofChange senseStandsWrong)

/-- 'windhoverlaw11.SenseOthers': WHATEVER THE INPUT: true; the input reads as it did. -/
def senseOthersSpec : ChangeSpec := { name := "senseOthers", fn := fun _ => fun
  | [d1, d2, d3] => { results := [.lit (.bool true)], args := [d1, d2, d3] }
  | _ => none }
def senseOthersRow : OpenClaim := { program := "ytbbinmplkbpcdaa", sum := "73b3ab650f1b1c1df7642cf6f4c9acfcd6075f1815a475ffb489a58d18d1497c", func := "windhover/windhoverlaw11.SenseOthers", spec := "senseOthers", inPlace := ["internal/bytealg.IndexByteString", "internal/bytealg.IndexString"], unfollowed := true, recurses := true, named := ["internal/bytealg.MaxLen"], apart := false }
def SenseOthersSaid : Prop := senseOthersRow.holds Try.pinned (OpenSpec.ofChange senseOthersSpec)

/-- ITS FALSE NEIGHBOUR: 'it returns false'. Refute it at one input. -/
def senseOthersWrong : ChangeSpec := { name := "senseOthers", fn := fun _ => fun
  | [d1, d2, d3] => { results := [.lit (.bool false)], args := [d1, d2, d3] }
  | _ => none }
def SenseOthersWrongFalsely : Prop := senseOthersRow.holds Try.pinned (OpenSpec.ofChange senseOthersWrong)

/-- 'windhoverlaw11.SenseTurned': WHATEVER THE INPUT: true; the input reads as it did. -/
def senseTurnedSpec : ChangeSpec := { name := "senseTurned", fn := fun _ => fun
  | [d1, d2, d3] => { results := [.lit (.bool true)], args := [d1, d2, d3] }
  | _ => none }
def senseTurnedRow : OpenClaim := { program := "ytbbinmplkbpcdaa", sum := "73b3ab650f1b1c1df7642cf6f4c9acfcd6075f1815a475ffb489a58d18d1497c", func := "windhover/windhoverlaw11.SenseTurned", spec := "senseTurned", inPlace := ["internal/bytealg.IndexByteString", "internal/bytealg.IndexString"], unfollowed := true, recurses := true, named := ["internal/bytealg.MaxLen"], apart := false }
def SenseTurnedSaid : Prop := senseTurnedRow.holds Try.pinned (OpenSpec.ofChange senseTurnedSpec)

/-- ITS FALSE NEIGHBOUR: 'it returns false'. Refute it at one input. -/
def senseTurnedWrong : ChangeSpec := { name := "senseTurned", fn := fun _ => fun
  | [d1, d2, d3] => { results := [.lit (.bool false)], args := [d1, d2, d3] }
  | _ => none }
def SenseTurnedWrongFalsely : Prop := senseTurnedRow.holds Try.pinned (OpenSpec.ofChange senseTurnedWrong)

/-- 'windhoverlaw05.MsgsLink': WHATEVER THE INPUT: true; the input reads as it did. -/
def msgsLinkSpec : ChangeSpec := { name := "msgsLink", fn := fun _ => fun
  | [d1, d2] => { results := [.lit (.bool true)], args := [d1, d2] }
  | _ => none }
def msgsLinkRow : OpenClaim := { program := "ytbbinmplkbpcdaa", sum := "73b3ab650f1b1c1df7642cf6f4c9acfcd6075f1815a475ffb489a58d18d1497c", func := "windhover/windhoverlaw05.MsgsLink", spec := "msgsLink", inPlace := ["internal/bytealg.IndexByteString", "internal/bytealg.IndexString"], named := ["internal/bytealg.MaxLen"], apart := false }
def MsgsLinkSaid : Prop := msgsLinkRow.holds Try.pinned (OpenSpec.ofChange msgsLinkSpec)

/-- ITS FALSE NEIGHBOUR: 'it returns false'. Refute it at one input. -/
def msgsLinkWrong : ChangeSpec := { name := "msgsLink", fn := fun _ => fun
  | [d1, d2] => { results := [.lit (.bool false)], args := [d1, d2] }
  | _ => none }
def MsgsLinkWrongFalsely : Prop := msgsLinkRow.holds Try.pinned (OpenSpec.ofChange msgsLinkWrong)

/- THE SECOND FORM. 'bulk': how many values and letters a reading holds, each counted each time it is reached (what is shared counts as often as it is met; a slice's spare places count too). A statement '..UptoSaid' is the law's where the arguments, and the package variables that the reading takes, are together of bulk at most 1048576: NARROWER than '..Said'. Prove '..Said' where nothing that the law and all that it calls make is longer than what came in: it says more and counts as full. Else prove '..UptoSaid'. A law counts once. -/
mutual
def uptoBulk {H : Type} : DataW H → Nat
  | .lit (.string bytes) => bytes.length + 1
  | .lit _ => 1
  | .nil => 1
  | .ptr d => uptoBulk d + 1
  | .slice elems spare => uptoBulkAll elems + uptoBulkAll spare + 1
  | .agg parts => uptoBulkAll parts + 1
  | .iface _ d => uptoBulk d + 1
  | .map entries => uptoBulkEntries entries + 1
  | .held _ => 1
def uptoBulkAll {H : Type} : List (DataW H) → Nat
  | [] => 0
  | d :: r => uptoBulk d + uptoBulkAll r
def uptoBulkEntries {H : Type} : List (Lit × DataW H) → Nat
  | [] => 0
  | x :: r => uptoBulkEntry x + uptoBulkEntries r
def uptoBulkEntry {H : Type} : Lit × DataW H → Nat
  | (.string bytes, d) => bytes.length + uptoBulk d + 1
  | (_, d) => uptoBulk d + 1
 end
def uptoSmall : (H : Type) → List (DataW H) → Bool := fun _ ds => decide (uptoBulkAll ds ≤ 1048576)
def OpenSpec.upto (s : _root_.Go.ChangeSpec) : _root_.Go.OpenSpec := { _root_.Go.OpenSpec.ofChange s with cond := some uptoSmall }

/-- 'windhoverlaw21.UploadPlays', WHERE WHAT IT READS IS OF BULK AT MOST 1048576: true; the input reads as it did. -/
def uploadPlaysUptoRow : OpenClaim := { program := "ytbbinmplkbpcdaa", sum := "73b3ab650f1b1c1df7642cf6f4c9acfcd6075f1815a475ffb489a58d18d1497c", func := "windhover/windhoverlaw21.UploadPlays", spec := "uploadPlays", unfollowed := true, recurses := true, apart := false, narrowed := true }
def UploadPlaysUptoSaid : Prop := uploadPlaysUptoRow.holds Try.pinned (OpenSpec.upto uploadPlaysSpec)

/-- 'windhoverlaw21.UploadOnly', WHERE WHAT IT READS IS OF BULK AT MOST 1048576: true; the input reads as it did. -/
def uploadOnlyUptoRow : OpenClaim := { program := "ytbbinmplkbpcdaa", sum := "73b3ab650f1b1c1df7642cf6f4c9acfcd6075f1815a475ffb489a58d18d1497c", func := "windhover/windhoverlaw21.UploadOnly", spec := "uploadOnly", unfollowed := true, recurses := true, apart := false, narrowed := true }
def UploadOnlyUptoSaid : Prop := uploadOnlyUptoRow.holds Try.pinned (OpenSpec.upto uploadOnlySpec)

/-- 'windhoverlaw21.UploadWhole', WHERE WHAT IT READS IS OF BULK AT MOST 1048576: true; the input reads as it did. -/
def uploadWholeUptoRow : OpenClaim := { program := "ytbbinmplkbpcdaa", sum := "73b3ab650f1b1c1df7642cf6f4c9acfcd6075f1815a475ffb489a58d18d1497c", func := "windhover/windhoverlaw21.UploadWhole", spec := "uploadWhole", unfollowed := true, recurses := true, apart := false, narrowed := true }
def UploadWholeUptoSaid : Prop := uploadWholeUptoRow.holds Try.pinned (OpenSpec.upto uploadWholeSpec)

/-- 'windhoverlaw21.UploadSilent', WHERE WHAT IT READS IS OF BULK AT MOST 1048576: true; the input reads as it did. -/
def uploadSilentUptoRow : OpenClaim := { program := "ytbbinmplkbpcdaa", sum := "73b3ab650f1b1c1df7642cf6f4c9acfcd6075f1815a475ffb489a58d18d1497c", func := "windhover/windhoverlaw21.UploadSilent", spec := "uploadSilent", unfollowed := true, recurses := true, apart := false, narrowed := true }
def UploadSilentUptoSaid : Prop := uploadSilentUptoRow.holds Try.pinned (OpenSpec.upto uploadSilentSpec)

/-- 'windhoverlaw21.UploadNil', WHERE WHAT IT READS IS OF BULK AT MOST 1048576: true; the input reads as it did. -/
def uploadNilUptoRow : OpenClaim := { program := "ytbbinmplkbpcdaa", sum := "73b3ab650f1b1c1df7642cf6f4c9acfcd6075f1815a475ffb489a58d18d1497c", func := "windhover/windhoverlaw21.UploadNil", spec := "uploadNil", unfollowed := true, recurses := true, apart := false, narrowed := true }
def UploadNilUptoSaid : Prop := uploadNilUptoRow.holds Try.pinned (OpenSpec.upto uploadNilSpec)

/-- 'windhoverlaw04.FrameEncodes', WHERE WHAT IT READS IS OF BULK AT MOST 1048576: true; the input reads as it did. -/
def frameEncodesUptoRow : OpenClaim := { program := "ytbbinmplkbpcdaa", sum := "73b3ab650f1b1c1df7642cf6f4c9acfcd6075f1815a475ffb489a58d18d1497c", func := "windhover/windhoverlaw04.FrameEncodes", spec := "frameEncodes", inPlace := ["internal/bytealg.IndexByteString", "internal/bytealg.IndexString"], named := ["internal/bytealg.MaxLen"], apart := false, narrowed := true }
def FrameEncodesUptoSaid : Prop := frameEncodesUptoRow.holds Try.pinned (OpenSpec.upto frameEncodesSpec)

/-- 'windhoverlaw04.FrameFeeds', WHERE WHAT IT READS IS OF BULK AT MOST 1048576: true; the input reads as it did. -/
def frameFeedsUptoRow : OpenClaim := { program := "ytbbinmplkbpcdaa", sum := "73b3ab650f1b1c1df7642cf6f4c9acfcd6075f1815a475ffb489a58d18d1497c", func := "windhover/windhoverlaw04.FrameFeeds", spec := "frameFeeds", inPlace := ["internal/bytealg.IndexByteString", "internal/bytealg.IndexString"], named := ["internal/bytealg.MaxLen"], apart := false, narrowed := true }
def FrameFeedsUptoSaid : Prop := frameFeedsUptoRow.holds Try.pinned (OpenSpec.upto frameFeedsSpec)

/-- 'windhoverlaw04.FrameCuts', WHERE WHAT IT READS IS OF BULK AT MOST 1048576: true; the input reads as it did. -/
def frameCutsUptoRow : OpenClaim := { program := "ytbbinmplkbpcdaa", sum := "73b3ab650f1b1c1df7642cf6f4c9acfcd6075f1815a475ffb489a58d18d1497c", func := "windhover/windhoverlaw04.FrameCuts", spec := "frameCuts", inPlace := ["internal/bytealg.IndexByteString", "internal/bytealg.IndexString"], named := ["internal/bytealg.MaxLen"], apart := false, narrowed := true }
def FrameCutsUptoSaid : Prop := frameCutsUptoRow.holds Try.pinned (OpenSpec.upto frameCutsSpec)

/-- 'windhoverlaw04.FrameBack', WHERE WHAT IT READS IS OF BULK AT MOST 1048576: true; the input reads as it did. -/
def frameBackUptoRow : OpenClaim := { program := "ytbbinmplkbpcdaa", sum := "73b3ab650f1b1c1df7642cf6f4c9acfcd6075f1815a475ffb489a58d18d1497c", func := "windhover/windhoverlaw04.FrameBack", spec := "frameBack", inPlace := ["internal/bytealg.IndexByteString", "internal/bytealg.IndexString"], named := ["internal/bytealg.MaxLen"], apart := false, narrowed := true }
def FrameBackUptoSaid : Prop := frameBackUptoRow.holds Try.pinned (OpenSpec.upto frameBackSpec)

/-- 'windhoverlaw04.FrameStands', WHERE WHAT IT READS IS OF BULK AT MOST 1048576: true; the input reads as it did. -/
def frameStandsUptoRow : OpenClaim := { program := "ytbbinmplkbpcdaa", sum := "73b3ab650f1b1c1df7642cf6f4c9acfcd6075f1815a475ffb489a58d18d1497c", func := "windhover/windhoverlaw04.FrameStands", spec := "frameStands", inPlace := ["internal/bytealg.IndexByteString", "internal/bytealg.IndexString"], named := ["internal/bytealg.MaxLen"], apart := false, narrowed := true }
def FrameStandsUptoSaid : Prop := frameStandsUptoRow.holds Try.pinned (OpenSpec.upto frameStandsSpec)

/-- 'windhoverlaw04.FrameTurned', WHERE WHAT IT READS IS OF BULK AT MOST 1048576: true; the input reads as it did. -/
def frameTurnedUptoRow : OpenClaim := { program := "ytbbinmplkbpcdaa", sum := "73b3ab650f1b1c1df7642cf6f4c9acfcd6075f1815a475ffb489a58d18d1497c", func := "windhover/windhoverlaw04.FrameTurned", spec := "frameTurned", inPlace := ["internal/bytealg.IndexByteString", "internal/bytealg.IndexString"], named := ["internal/bytealg.MaxLen"], apart := false, narrowed := true }
def FrameTurnedUptoSaid : Prop := frameTurnedUptoRow.holds Try.pinned (OpenSpec.upto frameTurnedSpec)

/-- 'windhoverlaw04.FrameCounts', WHERE WHAT IT READS IS OF BULK AT MOST 1048576: true; the input reads as it did. -/
def frameCountsUptoRow : OpenClaim := { program := "ytbbinmplkbpcdaa", sum := "73b3ab650f1b1c1df7642cf6f4c9acfcd6075f1815a475ffb489a58d18d1497c", func := "windhover/windhoverlaw04.FrameCounts", spec := "frameCounts", inPlace := ["internal/bytealg.IndexByteString", "internal/bytealg.IndexString"], named := ["internal/bytealg.MaxLen"], apart := false, narrowed := true }
def FrameCountsUptoSaid : Prop := frameCountsUptoRow.holds Try.pinned (OpenSpec.upto frameCountsSpec)

/-- 'windhoverlaw04.FrameNil', WHERE WHAT IT READS IS OF BULK AT MOST 1048576: true; the input reads as it did. -/
def frameNilUptoRow : OpenClaim := { program := "ytbbinmplkbpcdaa", sum := "73b3ab650f1b1c1df7642cf6f4c9acfcd6075f1815a475ffb489a58d18d1497c", func := "windhover/windhoverlaw04.FrameNil", spec := "frameNil", inPlace := ["internal/bytealg.IndexByteString", "internal/bytealg.IndexString"], named := ["internal/bytealg.MaxLen"], apart := false, narrowed := true }
def FrameNilUptoSaid : Prop := frameNilUptoRow.holds Try.pinned (OpenSpec.upto frameNilSpec)

/-- 'windhoverlaw11.SenseReads', WHERE WHAT IT READS IS OF BULK AT MOST 1048576: true; the input reads as it did. -/
def senseReadsUptoRow : OpenClaim := { program := "ytbbinmplkbpcdaa", sum := "73b3ab650f1b1c1df7642cf6f4c9acfcd6075f1815a475ffb489a58d18d1497c", func := "windhover/windhoverlaw11.SenseReads", spec := "senseReads", inPlace := ["internal/bytealg.IndexByteString", "internal/bytealg.IndexString"], unfollowed := true, recurses := true, named := ["internal/bytealg.MaxLen"], apart := false, narrowed := true }
def SenseReadsUptoSaid : Prop := senseReadsUptoRow.holds Try.pinned (OpenSpec.upto senseReadsSpec)

/-- 'windhoverlaw11.SenseWrites', WHERE WHAT IT READS IS OF BULK AT MOST 1048576: true; the input reads as it did. -/
def senseWritesUptoRow : OpenClaim := { program := "ytbbinmplkbpcdaa", sum := "73b3ab650f1b1c1df7642cf6f4c9acfcd6075f1815a475ffb489a58d18d1497c", func := "windhover/windhoverlaw11.SenseWrites", spec := "senseWrites", inPlace := ["internal/bytealg.IndexByteString", "internal/bytealg.IndexString"], unfollowed := true, recurses := true, named := ["internal/bytealg.MaxLen"], apart := false, narrowed := true }
def SenseWritesUptoSaid : Prop := senseWritesUptoRow.holds Try.pinned (OpenSpec.upto senseWritesSpec)

/-- 'windhoverlaw11.SenseBack', WHERE WHAT IT READS IS OF BULK AT MOST 1048576: true; the input reads as it did. -/
def senseBackUptoRow : OpenClaim := { program := "ytbbinmplkbpcdaa", sum := "73b3ab650f1b1c1df7642cf6f4c9acfcd6075f1815a475ffb489a58d18d1497c", func := "windhover/windhoverlaw11.SenseBack", spec := "senseBack", inPlace := ["internal/bytealg.IndexByteString", "internal/bytealg.IndexString"], unfollowed := true, recurses := true, named := ["internal/bytealg.MaxLen"], apart := false, narrowed := true }
def SenseBackUptoSaid : Prop := senseBackUptoRow.holds Try.pinned (OpenSpec.upto senseBackSpec)

/-- 'windhoverlaw11.SenseStands', WHERE WHAT IT READS IS OF BULK AT MOST 1048576: true; the input reads as it did. -/
def senseStandsUptoRow : OpenClaim := { program := "ytbbinmplkbpcdaa", sum := "73b3ab650f1b1c1df7642cf6f4c9acfcd6075f1815a475ffb489a58d18d1497c", func := "windhover/windhoverlaw11.SenseStands", spec := "senseStands", inPlace := ["internal/bytealg.IndexByteString", "internal/bytealg.IndexString"], unfollowed := true, recurses := true, named := ["internal/bytealg.MaxLen"], apart := false, narrowed := true }
def SenseStandsUptoSaid : Prop := senseStandsUptoRow.holds Try.pinned (OpenSpec.upto senseStandsSpec)

/-- 'windhoverlaw11.SenseOthers', WHERE WHAT IT READS IS OF BULK AT MOST 1048576: true; the input reads as it did. -/
def senseOthersUptoRow : OpenClaim := { program := "ytbbinmplkbpcdaa", sum := "73b3ab650f1b1c1df7642cf6f4c9acfcd6075f1815a475ffb489a58d18d1497c", func := "windhover/windhoverlaw11.SenseOthers", spec := "senseOthers", inPlace := ["internal/bytealg.IndexByteString", "internal/bytealg.IndexString"], unfollowed := true, recurses := true, named := ["internal/bytealg.MaxLen"], apart := false, narrowed := true }
def SenseOthersUptoSaid : Prop := senseOthersUptoRow.holds Try.pinned (OpenSpec.upto senseOthersSpec)

/-- 'windhoverlaw11.SenseTurned', WHERE WHAT IT READS IS OF BULK AT MOST 1048576: true; the input reads as it did. -/
def senseTurnedUptoRow : OpenClaim := { program := "ytbbinmplkbpcdaa", sum := "73b3ab650f1b1c1df7642cf6f4c9acfcd6075f1815a475ffb489a58d18d1497c", func := "windhover/windhoverlaw11.SenseTurned", spec := "senseTurned", inPlace := ["internal/bytealg.IndexByteString", "internal/bytealg.IndexString"], unfollowed := true, recurses := true, named := ["internal/bytealg.MaxLen"], apart := false, narrowed := true }
def SenseTurnedUptoSaid : Prop := senseTurnedUptoRow.holds Try.pinned (OpenSpec.upto senseTurnedSpec)

/-- 'windhoverlaw05.MsgsLink', WHERE WHAT IT READS IS OF BULK AT MOST 1048576: true; the input reads as it did. -/
def msgsLinkUptoRow : OpenClaim := { program := "ytbbinmplkbpcdaa", sum := "73b3ab650f1b1c1df7642cf6f4c9acfcd6075f1815a475ffb489a58d18d1497c", func := "windhover/windhoverlaw05.MsgsLink", spec := "msgsLink", inPlace := ["internal/bytealg.IndexByteString", "internal/bytealg.IndexString"], named := ["internal/bytealg.MaxLen"], apart := false, narrowed := true }
def MsgsLinkUptoSaid : Prop := msgsLinkUptoRow.holds Try.pinned (OpenSpec.upto msgsLinkSpec)

end Rows
end Go.Proofs.Ytbbinmplkbpcdaa
