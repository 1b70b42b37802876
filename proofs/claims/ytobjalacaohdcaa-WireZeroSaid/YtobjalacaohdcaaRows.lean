/-
  No cell of these rows narrows 'for every input' (looked for: loops, veiled, ifaces, maps, wideKeys, modest, calm, conditions, laid).
  DERIVED. THE GIVEN ROWS OF THIS SEAT. 29 by the template 'for every input the law returns true; each argument reads behind the call as it read before'; 0 by the template 'total and deterministic' (their statements: YtobjalacaohdcaaTotals.lean).
  GIVEN WITH THE SEED: the statements are not yours to turn. If you find one false, say at which input.
  Laid BY PROGRAM, IN A SANDBOX (cutbox-rows.mjs): the forced cells as the released guide's own fill.sh prints them over the translation 66d7e2db143c4af0… (all of the seat's roots in one cut). By AI agents, Wed Nov 11 2026. No macro, syntax, notation, axiom, sorry.
-/
import Derived.Test.YtobjalacaohdcaaChecked
import GoSem.Claim
import GoSem.ClaimJoined
import GoSem.ClaimMapViews
import Derived.JoinedTies
import Derived.KernelRfl
namespace Go.Proofs.Ytobjalacaohdcaa
/- THE CELL 'sum', in the pinned program and in every row, IS THE sha256 OF THE DUMP (.gsa) THAT YtobjalacaohdcaaProg.lean LOADS. Nothing in Lean hashes anything: it is a label: what it is worth is what the hold of that sum in a sandbox is worth. -/
noncomputable def Try.pinned : Pinned := { name := "ytobjalacaohdcaa", sum := "66d7e2db143c4af049fcd4142477b07367d6a7044f34cc0a1f99557f3b0c4b9a", checked := Try.checked }
namespace Rows
def none {H : Type} : Left H := { results := [], args := [] }

/-- 'understudylaw01.WireFits': WHATEVER THE INPUT: true; the input reads as it did. -/
def wireFitsSpec : ChangeSpec := { name := "wireFits", fn := fun _ => fun
  | [d1, d2, d3] => { results := [.lit (.bool true)], args := [d1, d2, d3] }
  | _ => none }
def wireFitsRow : OpenClaim := { program := "ytobjalacaohdcaa", sum := "66d7e2db143c4af049fcd4142477b07367d6a7044f34cc0a1f99557f3b0c4b9a", func := "understudy/understudylaw01.WireFits", spec := "wireFits", apart := false }
def WireFitsSaid : Prop := wireFitsRow.holds Try.pinned (OpenSpec.ofChange wireFitsSpec)

/-- ITS FALSE NEIGHBOUR: 'it returns false'. Refute it at one input. -/
def wireFitsWrong : ChangeSpec := { name := "wireFits", fn := fun _ => fun
  | [d1, d2, d3] => { results := [.lit (.bool false)], args := [d1, d2, d3] }
  | _ => none }
def WireFitsWrongFalsely : Prop := wireFitsRow.holds Try.pinned (OpenSpec.ofChange wireFitsWrong)

/-- 'understudylaw01.WireWrites': WHATEVER THE INPUT: true; the input reads as it did. -/
def wireWritesSpec : ChangeSpec := { name := "wireWrites", fn := fun _ => fun
  | [d1, d2] => { results := [.lit (.bool true)], args := [d1, d2] }
  | _ => none }
def wireWritesRow : OpenClaim := { program := "ytobjalacaohdcaa", sum := "66d7e2db143c4af049fcd4142477b07367d6a7044f34cc0a1f99557f3b0c4b9a", func := "understudy/understudylaw01.WireWrites", spec := "wireWrites", apart := false }
def WireWritesSaid : Prop := wireWritesRow.holds Try.pinned (OpenSpec.ofChange wireWritesSpec)

/-- ITS FALSE NEIGHBOUR: 'it returns false'. Refute it at one input. -/
def wireWritesWrong : ChangeSpec := { name := "wireWrites", fn := fun _ => fun
  | [d1, d2] => { results := [.lit (.bool false)], args := [d1, d2] }
  | _ => none }
def WireWritesWrongFalsely : Prop := wireWritesRow.holds Try.pinned (OpenSpec.ofChange wireWritesWrong)

/-- 'understudylaw01.WireBack': WHATEVER THE INPUT: true; the input reads as it did. -/
def wireBackSpec : ChangeSpec := { name := "wireBack", fn := fun _ => fun
  | [d] => { results := [.lit (.bool true)], args := [d] }
  | _ => none }
def wireBackRow : OpenClaim := { program := "ytobjalacaohdcaa", sum := "66d7e2db143c4af049fcd4142477b07367d6a7044f34cc0a1f99557f3b0c4b9a", func := "understudy/understudylaw01.WireBack", spec := "wireBack", apart := false }
def WireBackSaid : Prop := wireBackRow.holds Try.pinned (OpenSpec.ofChange wireBackSpec)

/-- ITS FALSE NEIGHBOUR: 'it returns false'. Refute it at one input. -/
def wireBackWrong : ChangeSpec := { name := "wireBack", fn := fun _ => fun
  | [d] => { results := [.lit (.bool false)], args := [d] }
  | _ => none }
def WireBackWrongFalsely : Prop := wireBackRow.holds Try.pinned (OpenSpec.ofChange wireBackWrong)

/-- 'understudylaw01.WireZero': WHATEVER THE INPUT: true; the input reads as it did. -/
def wireZeroSpec : ChangeSpec := { name := "wireZero", fn := fun _ => fun
  | [d1, d2] => { results := [.lit (.bool true)], args := [d1, d2] }
  | _ => none }
def wireZeroRow : OpenClaim := { program := "ytobjalacaohdcaa", sum := "66d7e2db143c4af049fcd4142477b07367d6a7044f34cc0a1f99557f3b0c4b9a", func := "understudy/understudylaw01.WireZero", spec := "wireZero", apart := false }
def WireZeroSaid : Prop := wireZeroRow.holds Try.pinned (OpenSpec.ofChange wireZeroSpec)

/-- ITS FALSE NEIGHBOUR: 'it returns false'. Refute it at one input. -/
def wireZeroWrong : ChangeSpec := { name := "wireZero", fn := fun _ => fun
  | [d1, d2] => { results := [.lit (.bool false)], args := [d1, d2] }
  | _ => none }
def WireZeroWrongFalsely : Prop := wireZeroRow.holds Try.pinned (OpenSpec.ofChange wireZeroWrong)

/-- 'understudylaw03.SumSums': WHATEVER THE INPUT: true; the input reads as it did. -/
def sumSumsSpec : ChangeSpec := { name := "sumSums", fn := fun _ => fun
  | [d] => { results := [.lit (.bool true)], args := [d] }
  | _ => none }
def sumSumsRow : OpenClaim := { program := "ytobjalacaohdcaa", sum := "66d7e2db143c4af049fcd4142477b07367d6a7044f34cc0a1f99557f3b0c4b9a", func := "understudy/understudylaw03.SumSums", spec := "sumSums", unfollowed := true, recurses := true, apart := false }
def SumSumsSaid : Prop := sumSumsRow.holds Try.pinned (OpenSpec.ofChange sumSumsSpec)

/-- ITS FALSE NEIGHBOUR: 'it returns false'. Refute it at one input. -/
def sumSumsWrong : ChangeSpec := { name := "sumSums", fn := fun _ => fun
  | [d] => { results := [.lit (.bool false)], args := [d] }
  | _ => none }
def SumSumsWrongFalsely : Prop := sumSumsRow.holds Try.pinned (OpenSpec.ofChange sumSumsWrong)

/-- 'understudylaw03.SumWraps': WHATEVER THE INPUT: true; the input reads as it did. -/
def sumWrapsSpec : ChangeSpec := { name := "sumWraps", fn := fun _ => fun
  | [d] => { results := [.lit (.bool true)], args := [d] }
  | _ => none }
def sumWrapsRow : OpenClaim := { program := "ytobjalacaohdcaa", sum := "66d7e2db143c4af049fcd4142477b07367d6a7044f34cc0a1f99557f3b0c4b9a", func := "understudy/understudylaw03.SumWraps", spec := "sumWraps", unfollowed := true, recurses := true, apart := false }
def SumWrapsSaid : Prop := sumWrapsRow.holds Try.pinned (OpenSpec.ofChange sumWrapsSpec)

/-- ITS FALSE NEIGHBOUR: 'it returns false'. Refute it at one input. -/
def sumWrapsWrong : ChangeSpec := { name := "sumWraps", fn := fun _ => fun
  | [d] => { results := [.lit (.bool false)], args := [d] }
  | _ => none }
def SumWrapsWrongFalsely : Prop := sumWrapsRow.holds Try.pinned (OpenSpec.ofChange sumWrapsWrong)

/-- 'understudylaw03.SumOpens': WHATEVER THE INPUT: true; the input reads as it did. -/
def sumOpensSpec : ChangeSpec := { name := "sumOpens", fn := fun _ => fun
  | [d] => { results := [.lit (.bool true)], args := [d] }
  | _ => none }
def sumOpensRow : OpenClaim := { program := "ytobjalacaohdcaa", sum := "66d7e2db143c4af049fcd4142477b07367d6a7044f34cc0a1f99557f3b0c4b9a", func := "understudy/understudylaw03.SumOpens", spec := "sumOpens", inPlace := ["internal/reflectlite.TypeOf"], unfollowed := true, recurses := true, apart := false }
def SumOpensSaid : Prop := sumOpensRow.holds Try.pinned (OpenSpec.ofChange sumOpensSpec)

/-- ITS FALSE NEIGHBOUR: 'it returns false'. Refute it at one input. -/
def sumOpensWrong : ChangeSpec := { name := "sumOpens", fn := fun _ => fun
  | [d] => { results := [.lit (.bool false)], args := [d] }
  | _ => none }
def SumOpensWrongFalsely : Prop := sumOpensRow.holds Try.pinned (OpenSpec.ofChange sumOpensWrong)

/-- 'understudylaw03.SumBack': WHATEVER THE INPUT: true; the input reads as it did. -/
def sumBackSpec : ChangeSpec := { name := "sumBack", fn := fun _ => fun
  | [d1, d2, d3] => { results := [.lit (.bool true)], args := [d1, d2, d3] }
  | _ => none }
def sumBackRow : OpenClaim := { program := "ytobjalacaohdcaa", sum := "66d7e2db143c4af049fcd4142477b07367d6a7044f34cc0a1f99557f3b0c4b9a", func := "understudy/understudylaw03.SumBack", spec := "sumBack", inPlace := ["internal/reflectlite.TypeOf"], unfollowed := true, recurses := true, apart := false }
def SumBackSaid : Prop := sumBackRow.holds Try.pinned (OpenSpec.ofChange sumBackSpec)

/-- ITS FALSE NEIGHBOUR: 'it returns false'. Refute it at one input. -/
def sumBackWrong : ChangeSpec := { name := "sumBack", fn := fun _ => fun
  | [d1, d2, d3] => { results := [.lit (.bool false)], args := [d1, d2, d3] }
  | _ => none }
def SumBackWrongFalsely : Prop := sumBackRow.holds Try.pinned (OpenSpec.ofChange sumBackWrong)

/-- 'understudylaw03.SumTurned': WHATEVER THE INPUT: true; the input reads as it did. -/
def sumTurnedSpec : ChangeSpec := { name := "sumTurned", fn := fun _ => fun
  | [d1, d2] => { results := [.lit (.bool true)], args := [d1, d2] }
  | _ => none }
def sumTurnedRow : OpenClaim := { program := "ytobjalacaohdcaa", sum := "66d7e2db143c4af049fcd4142477b07367d6a7044f34cc0a1f99557f3b0c4b9a", func := "understudy/understudylaw03.SumTurned", spec := "sumTurned", inPlace := ["internal/reflectlite.TypeOf"], unfollowed := true, recurses := true, apart := false }
def SumTurnedSaid : Prop := sumTurnedRow.holds Try.pinned (OpenSpec.ofChange sumTurnedSpec)

/-- ITS FALSE NEIGHBOUR: 'it returns false'. Refute it at one input. -/
def sumTurnedWrong : ChangeSpec := { name := "sumTurned", fn := fun _ => fun
  | [d1, d2] => { results := [.lit (.bool false)], args := [d1, d2] }
  | _ => none }
def SumTurnedWrongFalsely : Prop := sumTurnedRow.holds Try.pinned (OpenSpec.ofChange sumTurnedWrong)

/-- 'understudylaw03.SumRow': WHATEVER THE INPUT: true; the input reads as it did. -/
def sumRowSpec : ChangeSpec := { name := "sumRow", fn := fun _ => fun
  | [d] => { results := [.lit (.bool true)], args := [d] }
  | _ => none }
def sumRowRow : OpenClaim := { program := "ytobjalacaohdcaa", sum := "66d7e2db143c4af049fcd4142477b07367d6a7044f34cc0a1f99557f3b0c4b9a", func := "understudy/understudylaw03.SumRow", spec := "sumRow", inPlace := ["internal/reflectlite.TypeOf"], unfollowed := true, recurses := true, apart := false }
def SumRowSaid : Prop := sumRowRow.holds Try.pinned (OpenSpec.ofChange sumRowSpec)

/-- ITS FALSE NEIGHBOUR: 'it returns false'. Refute it at one input. -/
def sumRowWrong : ChangeSpec := { name := "sumRow", fn := fun _ => fun
  | [d] => { results := [.lit (.bool false)], args := [d] }
  | _ => none }
def SumRowWrongFalsely : Prop := sumRowRow.holds Try.pinned (OpenSpec.ofChange sumRowWrong)

/-- 'understudylaw18.RecordChecks': WHATEVER THE INPUT: true; the input reads as it did. -/
def recordChecksSpec : ChangeSpec := { name := "recordChecks", fn := fun _ => fun
  | [d] => { results := [.lit (.bool true)], args := [d] }
  | _ => none }
def recordChecksRow : OpenClaim := { program := "ytobjalacaohdcaa", sum := "66d7e2db143c4af049fcd4142477b07367d6a7044f34cc0a1f99557f3b0c4b9a", func := "understudy/understudylaw18.RecordChecks", spec := "recordChecks", apart := false }
def RecordChecksSaid : Prop := recordChecksRow.holds Try.pinned (OpenSpec.ofChange recordChecksSpec)

/-- ITS FALSE NEIGHBOUR: 'it returns false'. Refute it at one input. -/
def recordChecksWrong : ChangeSpec := { name := "recordChecks", fn := fun _ => fun
  | [d] => { results := [.lit (.bool false)], args := [d] }
  | _ => none }
def RecordChecksWrongFalsely : Prop := recordChecksRow.holds Try.pinned (OpenSpec.ofChange recordChecksWrong)

/-- 'understudylaw18.RecordNotes': WHATEVER THE INPUT: true; the input reads as it did. -/
def recordNotesSpec : ChangeSpec := { name := "recordNotes", fn := fun _ => fun
  | [d] => { results := [.lit (.bool true)], args := [d] }
  | _ => none }
def recordNotesRow : OpenClaim := { program := "ytobjalacaohdcaa", sum := "66d7e2db143c4af049fcd4142477b07367d6a7044f34cc0a1f99557f3b0c4b9a", func := "understudy/understudylaw18.RecordNotes", spec := "recordNotes", inPlace := ["internal/reflectlite.TypeOf"], unfollowed := true, recurses := true, apart := false }
def RecordNotesSaid : Prop := recordNotesRow.holds Try.pinned (OpenSpec.ofChange recordNotesSpec)

/-- ITS FALSE NEIGHBOUR: 'it returns false'. Refute it at one input. -/
def recordNotesWrong : ChangeSpec := { name := "recordNotes", fn := fun _ => fun
  | [d] => { results := [.lit (.bool false)], args := [d] }
  | _ => none }
def RecordNotesWrongFalsely : Prop := recordNotesRow.holds Try.pinned (OpenSpec.ofChange recordNotesWrong)

/-- 'understudylaw18.RecordSizes': WHATEVER THE INPUT: true; the input reads as it did. -/
def recordSizesSpec : ChangeSpec := { name := "recordSizes", fn := fun _ => fun
  | [d1, d2] => { results := [.lit (.bool true)], args := [d1, d2] }
  | _ => none }
def recordSizesRow : OpenClaim := { program := "ytobjalacaohdcaa", sum := "66d7e2db143c4af049fcd4142477b07367d6a7044f34cc0a1f99557f3b0c4b9a", func := "understudy/understudylaw18.RecordSizes", spec := "recordSizes", inPlace := ["internal/reflectlite.TypeOf"], unfollowed := true, recurses := true, apart := false }
def RecordSizesSaid : Prop := recordSizesRow.holds Try.pinned (OpenSpec.ofChange recordSizesSpec)

/-- ITS FALSE NEIGHBOUR: 'it returns false'. Refute it at one input. -/
def recordSizesWrong : ChangeSpec := { name := "recordSizes", fn := fun _ => fun
  | [d1, d2] => { results := [.lit (.bool false)], args := [d1, d2] }
  | _ => none }
def RecordSizesWrongFalsely : Prop := recordSizesRow.holds Try.pinned (OpenSpec.ofChange recordSizesWrong)

/-- 'understudylaw18.RecordReads': WHATEVER THE INPUT: true; the input reads as it did. -/
def recordReadsSpec : ChangeSpec := { name := "recordReads", fn := fun _ => fun
  | [d] => { results := [.lit (.bool true)], args := [d] }
  | _ => none }
def recordReadsRow : OpenClaim := { program := "ytobjalacaohdcaa", sum := "66d7e2db143c4af049fcd4142477b07367d6a7044f34cc0a1f99557f3b0c4b9a", func := "understudy/understudylaw18.RecordReads", spec := "recordReads", apart := false }
def RecordReadsSaid : Prop := recordReadsRow.holds Try.pinned (OpenSpec.ofChange recordReadsSpec)

/-- ITS FALSE NEIGHBOUR: 'it returns false'. Refute it at one input. -/
def recordReadsWrong : ChangeSpec := { name := "recordReads", fn := fun _ => fun
  | [d] => { results := [.lit (.bool false)], args := [d] }
  | _ => none }
def RecordReadsWrongFalsely : Prop := recordReadsRow.holds Try.pinned (OpenSpec.ofChange recordReadsWrong)

/-- 'understudylaw18.RecordDecodes': WHATEVER THE INPUT: true; the input reads as it did. -/
def recordDecodesSpec : ChangeSpec := { name := "recordDecodes", fn := fun _ => fun
  | [d] => { results := [.lit (.bool true)], args := [d] }
  | _ => none }
def recordDecodesRow : OpenClaim := { program := "ytobjalacaohdcaa", sum := "66d7e2db143c4af049fcd4142477b07367d6a7044f34cc0a1f99557f3b0c4b9a", func := "understudy/understudylaw18.RecordDecodes", spec := "recordDecodes", inPlace := ["internal/reflectlite.TypeOf"], unfollowed := true, recurses := true, apart := false }
def RecordDecodesSaid : Prop := recordDecodesRow.holds Try.pinned (OpenSpec.ofChange recordDecodesSpec)

/-- ITS FALSE NEIGHBOUR: 'it returns false'. Refute it at one input. -/
def recordDecodesWrong : ChangeSpec := { name := "recordDecodes", fn := fun _ => fun
  | [d] => { results := [.lit (.bool false)], args := [d] }
  | _ => none }
def RecordDecodesWrongFalsely : Prop := recordDecodesRow.holds Try.pinned (OpenSpec.ofChange recordDecodesWrong)

/-- 'understudylaw18.RecordBack': WHATEVER THE INPUT: true; the input reads as it did. -/
def recordBackSpec : ChangeSpec := { name := "recordBack", fn := fun _ => fun
  | [d1, d2, d3] => { results := [.lit (.bool true)], args := [d1, d2, d3] }
  | _ => none }
def recordBackRow : OpenClaim := { program := "ytobjalacaohdcaa", sum := "66d7e2db143c4af049fcd4142477b07367d6a7044f34cc0a1f99557f3b0c4b9a", func := "understudy/understudylaw18.RecordBack", spec := "recordBack", inPlace := ["internal/reflectlite.TypeOf"], unfollowed := true, recurses := true, apart := false }
def RecordBackSaid : Prop := recordBackRow.holds Try.pinned (OpenSpec.ofChange recordBackSpec)

/-- ITS FALSE NEIGHBOUR: 'it returns false'. Refute it at one input. -/
def recordBackWrong : ChangeSpec := { name := "recordBack", fn := fun _ => fun
  | [d1, d2, d3] => { results := [.lit (.bool false)], args := [d1, d2, d3] }
  | _ => none }
def RecordBackWrongFalsely : Prop := recordBackRow.holds Try.pinned (OpenSpec.ofChange recordBackWrong)

/-- 'understudylaw18.RecordBytes': WHATEVER THE INPUT: true; the input reads as it did. -/
def recordBytesSpec : ChangeSpec := { name := "recordBytes", fn := fun _ => fun
  | [d] => { results := [.lit (.bool true)], args := [d] }
  | _ => none }
def recordBytesRow : OpenClaim := { program := "ytobjalacaohdcaa", sum := "66d7e2db143c4af049fcd4142477b07367d6a7044f34cc0a1f99557f3b0c4b9a", func := "understudy/understudylaw18.RecordBytes", spec := "recordBytes", inPlace := ["internal/reflectlite.TypeOf"], unfollowed := true, recurses := true, apart := false }
def RecordBytesSaid : Prop := recordBytesRow.holds Try.pinned (OpenSpec.ofChange recordBytesSpec)

/-- ITS FALSE NEIGHBOUR: 'it returns false'. Refute it at one input. -/
def recordBytesWrong : ChangeSpec := { name := "recordBytes", fn := fun _ => fun
  | [d] => { results := [.lit (.bool false)], args := [d] }
  | _ => none }
def RecordBytesWrongFalsely : Prop := recordBytesRow.holds Try.pinned (OpenSpec.ofChange recordBytesWrong)

/-- 'understudylaw19.StoreBest': WHATEVER THE INPUT: true; the input reads as it did. -/
def storeBestSpec : ChangeSpec := { name := "storeBest", fn := fun _ => fun
  | [d1, d2, d3, d4, d5, d6] => { results := [.lit (.bool true)], args := [d1, d2, d3, d4, d5, d6] }
  | _ => none }
def storeBestRow : OpenClaim := { program := "ytobjalacaohdcaa", sum := "66d7e2db143c4af049fcd4142477b07367d6a7044f34cc0a1f99557f3b0c4b9a", func := "understudy/understudylaw19.StoreBest", spec := "storeBest", apart := false }
def StoreBestSaid : Prop := storeBestRow.holds Try.pinned (OpenSpec.ofChange storeBestSpec)

/-- ITS FALSE NEIGHBOUR: 'it returns false'. Refute it at one input. -/
def storeBestWrong : ChangeSpec := { name := "storeBest", fn := fun _ => fun
  | [d1, d2, d3, d4, d5, d6] => { results := [.lit (.bool false)], args := [d1, d2, d3, d4, d5, d6] }
  | _ => none }
def StoreBestWrongFalsely : Prop := storeBestRow.holds Try.pinned (OpenSpec.ofChange storeBestWrong)

/-- 'understudylaw19.StoreBegins': WHATEVER THE INPUT: true; the input reads as it did. -/
def storeBeginsSpec : ChangeSpec := { name := "storeBegins", fn := fun _ => fun
  | [d1, d2, d3] => { results := [.lit (.bool true)], args := [d1, d2, d3] }
  | _ => none }
def storeBeginsRow : OpenClaim := { program := "ytobjalacaohdcaa", sum := "66d7e2db143c4af049fcd4142477b07367d6a7044f34cc0a1f99557f3b0c4b9a", func := "understudy/understudylaw19.StoreBegins", spec := "storeBegins", apart := false }
def StoreBeginsSaid : Prop := storeBeginsRow.holds Try.pinned (OpenSpec.ofChange storeBeginsSpec)

/-- ITS FALSE NEIGHBOUR: 'it returns false'. Refute it at one input. -/
def storeBeginsWrong : ChangeSpec := { name := "storeBegins", fn := fun _ => fun
  | [d1, d2, d3] => { results := [.lit (.bool false)], args := [d1, d2, d3] }
  | _ => none }
def StoreBeginsWrongFalsely : Prop := storeBeginsRow.holds Try.pinned (OpenSpec.ofChange storeBeginsWrong)

/-- 'understudylaw19.StoreChecksOne': WHATEVER THE INPUT: true; the input reads as it did. -/
def storeChecksOneSpec : ChangeSpec := { name := "storeChecksOne", fn := fun _ => fun
  | [d] => { results := [.lit (.bool true)], args := [d] }
  | _ => none }
def storeChecksOneRow : OpenClaim := { program := "ytobjalacaohdcaa", sum := "66d7e2db143c4af049fcd4142477b07367d6a7044f34cc0a1f99557f3b0c4b9a", func := "understudy/understudylaw19.StoreChecksOne", spec := "storeChecksOne", apart := false }
def StoreChecksOneSaid : Prop := storeChecksOneRow.holds Try.pinned (OpenSpec.ofChange storeChecksOneSpec)

/-- ITS FALSE NEIGHBOUR: 'it returns false'. Refute it at one input. -/
def storeChecksOneWrong : ChangeSpec := { name := "storeChecksOne", fn := fun _ => fun
  | [d] => { results := [.lit (.bool false)], args := [d] }
  | _ => none }
def StoreChecksOneWrongFalsely : Prop := storeChecksOneRow.holds Try.pinned (OpenSpec.ofChange storeChecksOneWrong)

/-- 'understudylaw19.StoreChecks': WHATEVER THE INPUT: true; the input reads as it did. -/
def storeChecksSpec : ChangeSpec := { name := "storeChecks", fn := fun _ => fun
  | [d1, d2, d3, d4, d5, d6] => { results := [.lit (.bool true)], args := [d1, d2, d3, d4, d5, d6] }
  | _ => none }
def storeChecksRow : OpenClaim := { program := "ytobjalacaohdcaa", sum := "66d7e2db143c4af049fcd4142477b07367d6a7044f34cc0a1f99557f3b0c4b9a", func := "understudy/understudylaw19.StoreChecks", spec := "storeChecks", apart := false }
def StoreChecksSaid : Prop := storeChecksRow.holds Try.pinned (OpenSpec.ofChange storeChecksSpec)

/-- ITS FALSE NEIGHBOUR: 'it returns false'. Refute it at one input. -/
def storeChecksWrong : ChangeSpec := { name := "storeChecks", fn := fun _ => fun
  | [d1, d2, d3, d4, d5, d6] => { results := [.lit (.bool false)], args := [d1, d2, d3, d4, d5, d6] }
  | _ => none }
def StoreChecksWrongFalsely : Prop := storeChecksRow.holds Try.pinned (OpenSpec.ofChange storeChecksWrong)

/-- 'understudylaw19.StoreRises': WHATEVER THE INPUT: true; the input reads as it did. -/
def storeRisesSpec : ChangeSpec := { name := "storeRises", fn := fun _ => fun
  | [d] => { results := [.lit (.bool true)], args := [d] }
  | _ => none }
def storeRisesRow : OpenClaim := { program := "ytobjalacaohdcaa", sum := "66d7e2db143c4af049fcd4142477b07367d6a7044f34cc0a1f99557f3b0c4b9a", func := "understudy/understudylaw19.StoreRises", spec := "storeRises", apart := false }
def StoreRisesSaid : Prop := storeRisesRow.holds Try.pinned (OpenSpec.ofChange storeRisesSpec)

/-- ITS FALSE NEIGHBOUR: 'it returns false'. Refute it at one input. -/
def storeRisesWrong : ChangeSpec := { name := "storeRises", fn := fun _ => fun
  | [d] => { results := [.lit (.bool false)], args := [d] }
  | _ => none }
def StoreRisesWrongFalsely : Prop := storeRisesRow.holds Try.pinned (OpenSpec.ofChange storeRisesWrong)

/-- 'understudylaw19.StoreZero': WHATEVER THE INPUT: true; the input reads as it did. -/
def storeZeroSpec : ChangeSpec := { name := "storeZero", fn := fun _ => fun
  | [d1, d2] => { results := [.lit (.bool true)], args := [d1, d2] }
  | _ => none }
def storeZeroRow : OpenClaim := { program := "ytobjalacaohdcaa", sum := "66d7e2db143c4af049fcd4142477b07367d6a7044f34cc0a1f99557f3b0c4b9a", func := "understudy/understudylaw19.StoreZero", spec := "storeZero", apart := false }
def StoreZeroSaid : Prop := storeZeroRow.holds Try.pinned (OpenSpec.ofChange storeZeroSpec)

/-- ITS FALSE NEIGHBOUR: 'it returns false'. Refute it at one input. -/
def storeZeroWrong : ChangeSpec := { name := "storeZero", fn := fun _ => fun
  | [d1, d2] => { results := [.lit (.bool false)], args := [d1, d2] }
  | _ => none }
def StoreZeroWrongFalsely : Prop := storeZeroRow.holds Try.pinned (OpenSpec.ofChange storeZeroWrong)

/-- 'understudylaw19.StorePlays': WHATEVER THE INPUT: true; the input reads as it did. -/
def storePlaysSpec : ChangeSpec := { name := "storePlays", fn := fun _ => fun
  | [d] => { results := [.lit (.bool true)], args := [d] }
  | _ => none }
def storePlaysRow : OpenClaim := { program := "ytobjalacaohdcaa", sum := "66d7e2db143c4af049fcd4142477b07367d6a7044f34cc0a1f99557f3b0c4b9a", func := "understudy/understudylaw19.StorePlays", spec := "storePlays", apart := false }
def StorePlaysSaid : Prop := storePlaysRow.holds Try.pinned (OpenSpec.ofChange storePlaysSpec)

/-- ITS FALSE NEIGHBOUR: 'it returns false'. Refute it at one input. -/
def storePlaysWrong : ChangeSpec := { name := "storePlays", fn := fun _ => fun
  | [d] => { results := [.lit (.bool false)], args := [d] }
  | _ => none }
def StorePlaysWrongFalsely : Prop := storePlaysRow.holds Try.pinned (OpenSpec.ofChange storePlaysWrong)

/-- 'understudylaw20.PairZero': WHATEVER THE INPUT: true; the input reads as it did. -/
def pairZeroSpec : ChangeSpec := { name := "pairZero", fn := fun _ => fun
  | [d] => { results := [.lit (.bool true)], args := [d] }
  | _ => none }
def pairZeroRow : OpenClaim := { program := "ytobjalacaohdcaa", sum := "66d7e2db143c4af049fcd4142477b07367d6a7044f34cc0a1f99557f3b0c4b9a", func := "understudy/understudylaw20.PairZero", spec := "pairZero", inPlace := ["internal/reflectlite.TypeOf"], unfollowed := true, recurses := true, apart := false }
def PairZeroSaid : Prop := pairZeroRow.holds Try.pinned (OpenSpec.ofChange pairZeroSpec)

/-- ITS FALSE NEIGHBOUR: 'it returns false'. Refute it at one input. -/
def pairZeroWrong : ChangeSpec := { name := "pairZero", fn := fun _ => fun
  | [d] => { results := [.lit (.bool false)], args := [d] }
  | _ => none }
def PairZeroWrongFalsely : Prop := pairZeroRow.holds Try.pinned (OpenSpec.ofChange pairZeroWrong)

/-- 'understudylaw20.PairOrder': WHATEVER THE INPUT: true; the input reads as it did. -/
def pairOrderSpec : ChangeSpec := { name := "pairOrder", fn := fun _ => fun
  | [d1, d2, d3] => { results := [.lit (.bool true)], args := [d1, d2, d3] }
  | _ => none }
def pairOrderRow : OpenClaim := { program := "ytobjalacaohdcaa", sum := "66d7e2db143c4af049fcd4142477b07367d6a7044f34cc0a1f99557f3b0c4b9a", func := "understudy/understudylaw20.PairOrder", spec := "pairOrder", inPlace := ["internal/reflectlite.TypeOf"], unfollowed := true, recurses := true, apart := false }
def PairOrderSaid : Prop := pairOrderRow.holds Try.pinned (OpenSpec.ofChange pairOrderSpec)

/-- ITS FALSE NEIGHBOUR: 'it returns false'. Refute it at one input. -/
def pairOrderWrong : ChangeSpec := { name := "pairOrder", fn := fun _ => fun
  | [d1, d2, d3] => { results := [.lit (.bool false)], args := [d1, d2, d3] }
  | _ => none }
def PairOrderWrongFalsely : Prop := pairOrderRow.holds Try.pinned (OpenSpec.ofChange pairOrderWrong)

/-- 'understudylaw20.PairAll': WHATEVER THE INPUT: true; the input reads as it did. -/
def pairAllSpec : ChangeSpec := { name := "pairAll", fn := fun _ => fun
  | [d1, d2] => { results := [.lit (.bool true)], args := [d1, d2] }
  | _ => none }
def pairAllRow : OpenClaim := { program := "ytobjalacaohdcaa", sum := "66d7e2db143c4af049fcd4142477b07367d6a7044f34cc0a1f99557f3b0c4b9a", func := "understudy/understudylaw20.PairAll", spec := "pairAll", inPlace := ["internal/reflectlite.TypeOf"], unfollowed := true, recurses := true, apart := false }
def PairAllSaid : Prop := pairAllRow.holds Try.pinned (OpenSpec.ofChange pairAllSpec)

/-- ITS FALSE NEIGHBOUR: 'it returns false'. Refute it at one input. -/
def pairAllWrong : ChangeSpec := { name := "pairAll", fn := fun _ => fun
  | [d1, d2] => { results := [.lit (.bool false)], args := [d1, d2] }
  | _ => none }
def PairAllWrongFalsely : Prop := pairAllRow.holds Try.pinned (OpenSpec.ofChange pairAllWrong)

/-- 'understudylaw20.PairForged': WHATEVER THE INPUT: true; the input reads as it did. -/
def pairForgedSpec : ChangeSpec := { name := "pairForged", fn := fun _ => fun
  | [d1, d2] => { results := [.lit (.bool true)], args := [d1, d2] }
  | _ => none }
def pairForgedRow : OpenClaim := { program := "ytobjalacaohdcaa", sum := "66d7e2db143c4af049fcd4142477b07367d6a7044f34cc0a1f99557f3b0c4b9a", func := "understudy/understudylaw20.PairForged", spec := "pairForged", inPlace := ["internal/reflectlite.TypeOf"], unfollowed := true, recurses := true, apart := false }
def PairForgedSaid : Prop := pairForgedRow.holds Try.pinned (OpenSpec.ofChange pairForgedSpec)

/-- ITS FALSE NEIGHBOUR: 'it returns false'. Refute it at one input. -/
def pairForgedWrong : ChangeSpec := { name := "pairForged", fn := fun _ => fun
  | [d1, d2] => { results := [.lit (.bool false)], args := [d1, d2] }
  | _ => none }
def PairForgedWrongFalsely : Prop := pairForgedRow.holds Try.pinned (OpenSpec.ofChange pairForgedWrong)

/-- 'understudytop.WholeNotes': WHATEVER THE INPUT: true; the input reads as it did. -/
def wholeNotesSpec : ChangeSpec := { name := "wholeNotes", fn := fun _ => fun
  | [d1, d2] => { results := [.lit (.bool true)], args := [d1, d2] }
  | _ => none }
def wholeNotesRow : OpenClaim := { program := "ytobjalacaohdcaa", sum := "66d7e2db143c4af049fcd4142477b07367d6a7044f34cc0a1f99557f3b0c4b9a", func := "understudy/understudytop.WholeNotes", spec := "wholeNotes", inPlace := ["internal/reflectlite.TypeOf"], unfollowed := true, recurses := true, apart := false }
def WholeNotesSaid : Prop := wholeNotesRow.holds Try.pinned (OpenSpec.ofChange wholeNotesSpec)

/-- ITS FALSE NEIGHBOUR: 'it returns false'. Refute it at one input. -/
def wholeNotesWrong : ChangeSpec := { name := "wholeNotes", fn := fun _ => fun
  | [d1, d2] => { results := [.lit (.bool false)], args := [d1, d2] }
  | _ => none }
def WholeNotesWrongFalsely : Prop := wholeNotesRow.holds Try.pinned (OpenSpec.ofChange wholeNotesWrong)

/- THE SECOND FORM. 'bulk': how many values and letters a reading holds, each counted each time it is reached (what is shared counts as often as it is met; a slice's spare places count too). A statement '..UptoSaid' is the law's where the arguments, and the package variables that the reading takes, are together of bulk at most 1048576: NARROWER than '..Said'. Prove '..Said' where nothing that the law and all that it calls make is longer than what came in: it says more and counts as full. Else prove '..UptoSaid'. A law counts once. -/
mutual
def uptoBulk {H : Type} : DataW H → Nat
  | .lit (.string bytes) => bytes.length + 1
  | .lit _ => 1
  | .nil => 1
  | .ptr d => uptoBulk d + 1
  | .slice elems spare => uptoBulkAll elems + uptoBulkAll spare + 1
  | .agg parts => uptoBulkAll parts + 1
  | .iface _ d => uptoBulk d + 1
  | .map entries => uptoBulkEntries entries + 1
  | .held _ => 1
def uptoBulkAll {H : Type} : List (DataW H) → Nat
  | [] => 0
  | d :: r => uptoBulk d + uptoBulkAll r
def uptoBulkEntries {H : Type} : List (Lit × DataW H) → Nat
  | [] => 0
  | x :: r => uptoBulkEntry x + uptoBulkEntries r
def uptoBulkEntry {H : Type} : Lit × DataW H → Nat
  | (.string bytes, d) => bytes.length + uptoBulk d + 1
  | (_, d) => uptoBulk d + 1
 end
def uptoSmall : (H : Type) → List (DataW H) → Bool := fun _ ds => decide (uptoBulkAll ds ≤ 1048576)
def OpenSpec.upto (s : _root_.Go.ChangeSpec) : _root_.Go.OpenSpec := { _root_.Go.OpenSpec.ofChange s with cond := some uptoSmall }

/-- 'understudylaw01.WireFits', WHERE WHAT IT READS IS OF BULK AT MOST 1048576: true; the input reads as it did. -/
def wireFitsUptoRow : OpenClaim := { program := "ytobjalacaohdcaa", sum := "66d7e2db143c4af049fcd4142477b07367d6a7044f34cc0a1f99557f3b0c4b9a", func := "understudy/understudylaw01.WireFits", spec := "wireFits", apart := false, narrowed := true }
def WireFitsUptoSaid : Prop := wireFitsUptoRow.holds Try.pinned (OpenSpec.upto wireFitsSpec)

/-- 'understudylaw01.WireWrites', WHERE WHAT IT READS IS OF BULK AT MOST 1048576: true; the input reads as it did. -/
def wireWritesUptoRow : OpenClaim := { program := "ytobjalacaohdcaa", sum := "66d7e2db143c4af049fcd4142477b07367d6a7044f34cc0a1f99557f3b0c4b9a", func := "understudy/understudylaw01.WireWrites", spec := "wireWrites", apart := false, narrowed := true }
def WireWritesUptoSaid : Prop := wireWritesUptoRow.holds Try.pinned (OpenSpec.upto wireWritesSpec)

/-- 'understudylaw01.WireBack', WHERE WHAT IT READS IS OF BULK AT MOST 1048576: true; the input reads as it did. -/
def wireBackUptoRow : OpenClaim := { program := "ytobjalacaohdcaa", sum := "66d7e2db143c4af049fcd4142477b07367d6a7044f34cc0a1f99557f3b0c4b9a", func := "understudy/understudylaw01.WireBack", spec := "wireBack", apart := false, narrowed := true }
def WireBackUptoSaid : Prop := wireBackUptoRow.holds Try.pinned (OpenSpec.upto wireBackSpec)

/-- 'understudylaw01.WireZero', WHERE WHAT IT READS IS OF BULK AT MOST 1048576: true; the input reads as it did. -/
def wireZeroUptoRow : OpenClaim := { program := "ytobjalacaohdcaa", sum := "66d7e2db143c4af049fcd4142477b07367d6a7044f34cc0a1f99557f3b0c4b9a", func := "understudy/understudylaw01.WireZero", spec := "wireZero", apart := false, narrowed := true }
def WireZeroUptoSaid : Prop := wireZeroUptoRow.holds Try.pinned (OpenSpec.upto wireZeroSpec)

/-- 'understudylaw03.SumSums', WHERE WHAT IT READS IS OF BULK AT MOST 1048576: true; the input reads as it did. -/
def sumSumsUptoRow : OpenClaim := { program := "ytobjalacaohdcaa", sum := "66d7e2db143c4af049fcd4142477b07367d6a7044f34cc0a1f99557f3b0c4b9a", func := "understudy/understudylaw03.SumSums", spec := "sumSums", unfollowed := true, recurses := true, apart := false, narrowed := true }
def SumSumsUptoSaid : Prop := sumSumsUptoRow.holds Try.pinned (OpenSpec.upto sumSumsSpec)

/-- 'understudylaw03.SumWraps', WHERE WHAT IT READS IS OF BULK AT MOST 1048576: true; the input reads as it did. -/
def sumWrapsUptoRow : OpenClaim := { program := "ytobjalacaohdcaa", sum := "66d7e2db143c4af049fcd4142477b07367d6a7044f34cc0a1f99557f3b0c4b9a", func := "understudy/understudylaw03.SumWraps", spec := "sumWraps", unfollowed := true, recurses := true, apart := false, narrowed := true }
def SumWrapsUptoSaid : Prop := sumWrapsUptoRow.holds Try.pinned (OpenSpec.upto sumWrapsSpec)

/-- 'understudylaw03.SumOpens', WHERE WHAT IT READS IS OF BULK AT MOST 1048576: true; the input reads as it did. -/
def sumOpensUptoRow : OpenClaim := { program := "ytobjalacaohdcaa", sum := "66d7e2db143c4af049fcd4142477b07367d6a7044f34cc0a1f99557f3b0c4b9a", func := "understudy/understudylaw03.SumOpens", spec := "sumOpens", inPlace := ["internal/reflectlite.TypeOf"], unfollowed := true, recurses := true, apart := false, narrowed := true }
def SumOpensUptoSaid : Prop := sumOpensUptoRow.holds Try.pinned (OpenSpec.upto sumOpensSpec)

/-- 'understudylaw03.SumBack', WHERE WHAT IT READS IS OF BULK AT MOST 1048576: true; the input reads as it did. -/
def sumBackUptoRow : OpenClaim := { program := "ytobjalacaohdcaa", sum := "66d7e2db143c4af049fcd4142477b07367d6a7044f34cc0a1f99557f3b0c4b9a", func := "understudy/understudylaw03.SumBack", spec := "sumBack", inPlace := ["internal/reflectlite.TypeOf"], unfollowed := true, recurses := true, apart := false, narrowed := true }
def SumBackUptoSaid : Prop := sumBackUptoRow.holds Try.pinned (OpenSpec.upto sumBackSpec)

/-- 'understudylaw03.SumTurned', WHERE WHAT IT READS IS OF BULK AT MOST 1048576: true; the input reads as it did. -/
def sumTurnedUptoRow : OpenClaim := { program := "ytobjalacaohdcaa", sum := "66d7e2db143c4af049fcd4142477b07367d6a7044f34cc0a1f99557f3b0c4b9a", func := "understudy/understudylaw03.SumTurned", spec := "sumTurned", inPlace := ["internal/reflectlite.TypeOf"], unfollowed := true, recurses := true, apart := false, narrowed := true }
def SumTurnedUptoSaid : Prop := sumTurnedUptoRow.holds Try.pinned (OpenSpec.upto sumTurnedSpec)

/-- 'understudylaw03.SumRow', WHERE WHAT IT READS IS OF BULK AT MOST 1048576: true; the input reads as it did. -/
def sumRowUptoRow : OpenClaim := { program := "ytobjalacaohdcaa", sum := "66d7e2db143c4af049fcd4142477b07367d6a7044f34cc0a1f99557f3b0c4b9a", func := "understudy/understudylaw03.SumRow", spec := "sumRow", inPlace := ["internal/reflectlite.TypeOf"], unfollowed := true, recurses := true, apart := false, narrowed := true }
def SumRowUptoSaid : Prop := sumRowUptoRow.holds Try.pinned (OpenSpec.upto sumRowSpec)

/-- 'understudylaw18.RecordChecks', WHERE WHAT IT READS IS OF BULK AT MOST 1048576: true; the input reads as it did. -/
def recordChecksUptoRow : OpenClaim := { program := "ytobjalacaohdcaa", sum := "66d7e2db143c4af049fcd4142477b07367d6a7044f34cc0a1f99557f3b0c4b9a", func := "understudy/understudylaw18.RecordChecks", spec := "recordChecks", apart := false, narrowed := true }
def RecordChecksUptoSaid : Prop := recordChecksUptoRow.holds Try.pinned (OpenSpec.upto recordChecksSpec)

/-- 'understudylaw18.RecordNotes', WHERE WHAT IT READS IS OF BULK AT MOST 1048576: true; the input reads as it did. -/
def recordNotesUptoRow : OpenClaim := { program := "ytobjalacaohdcaa", sum := "66d7e2db143c4af049fcd4142477b07367d6a7044f34cc0a1f99557f3b0c4b9a", func := "understudy/understudylaw18.RecordNotes", spec := "recordNotes", inPlace := ["internal/reflectlite.TypeOf"], unfollowed := true, recurses := true, apart := false, narrowed := true }
def RecordNotesUptoSaid : Prop := recordNotesUptoRow.holds Try.pinned (OpenSpec.upto recordNotesSpec)

/-- 'understudylaw18.RecordSizes', WHERE WHAT IT READS IS OF BULK AT MOST 1048576: true; the input reads as it did. -/
def recordSizesUptoRow : OpenClaim := { program := "ytobjalacaohdcaa", sum := "66d7e2db143c4af049fcd4142477b07367d6a7044f34cc0a1f99557f3b0c4b9a", func := "understudy/understudylaw18.RecordSizes", spec := "recordSizes", inPlace := ["internal/reflectlite.TypeOf"], unfollowed := true, recurses := true, apart := false, narrowed := true }
def RecordSizesUptoSaid : Prop := recordSizesUptoRow.holds Try.pinned (OpenSpec.upto recordSizesSpec)

/-- 'understudylaw18.RecordReads', WHERE WHAT IT READS IS OF BULK AT MOST 1048576: true; the input reads as it did. -/
def recordReadsUptoRow : OpenClaim := { program := "ytobjalacaohdcaa", sum := "66d7e2db143c4af049fcd4142477b07367d6a7044f34cc0a1f99557f3b0c4b9a", func := "understudy/understudylaw18.RecordReads", spec := "recordReads", apart := false, narrowed := true }
def RecordReadsUptoSaid : Prop := recordReadsUptoRow.holds Try.pinned (OpenSpec.upto recordReadsSpec)

/-- 'understudylaw18.RecordDecodes', WHERE WHAT IT READS IS OF BULK AT MOST 1048576: true; the input reads as it did. -/
def recordDecodesUptoRow : OpenClaim := { program := "ytobjalacaohdcaa", sum := "66d7e2db143c4af049fcd4142477b07367d6a7044f34cc0a1f99557f3b0c4b9a", func := "understudy/understudylaw18.RecordDecodes", spec := "recordDecodes", inPlace := ["internal/reflectlite.TypeOf"], unfollowed := true, recurses := true, apart := false, narrowed := true }
def RecordDecodesUptoSaid : Prop := recordDecodesUptoRow.holds Try.pinned (OpenSpec.upto recordDecodesSpec)

/-- 'understudylaw18.RecordBack', WHERE WHAT IT READS IS OF BULK AT MOST 1048576: true; the input reads as it did. -/
def recordBackUptoRow : OpenClaim := { program := "ytobjalacaohdcaa", sum := "66d7e2db143c4af049fcd4142477b07367d6a7044f34cc0a1f99557f3b0c4b9a", func := "understudy/understudylaw18.RecordBack", spec := "recordBack", inPlace := ["internal/reflectlite.TypeOf"], unfollowed := true, recurses := true, apart := false, narrowed := true }
def RecordBackUptoSaid : Prop := recordBackUptoRow.holds Try.pinned (OpenSpec.upto recordBackSpec)

/-- 'understudylaw18.RecordBytes', WHERE WHAT IT READS IS OF BULK AT MOST 1048576: true; the input reads as it did. -/
def recordBytesUptoRow : OpenClaim := { program := "ytobjalacaohdcaa", sum := "66d7e2db143c4af049fcd4142477b07367d6a7044f34cc0a1f99557f3b0c4b9a", func := "understudy/understudylaw18.RecordBytes", spec := "recordBytes", inPlace := ["internal/reflectlite.TypeOf"], unfollowed := true, recurses := true, apart := false, narrowed := true }
def RecordBytesUptoSaid : Prop := recordBytesUptoRow.holds Try.pinned (OpenSpec.upto recordBytesSpec)

/-- 'understudylaw19.StoreBest', WHERE WHAT IT READS IS OF BULK AT MOST 1048576: true; the input reads as it did. -/
def storeBestUptoRow : OpenClaim := { program := "ytobjalacaohdcaa", sum := "66d7e2db143c4af049fcd4142477b07367d6a7044f34cc0a1f99557f3b0c4b9a", func := "understudy/understudylaw19.StoreBest", spec := "storeBest", apart := false, narrowed := true }
def StoreBestUptoSaid : Prop := storeBestUptoRow.holds Try.pinned (OpenSpec.upto storeBestSpec)

/-- 'understudylaw19.StoreBegins', WHERE WHAT IT READS IS OF BULK AT MOST 1048576: true; the input reads as it did. -/
def storeBeginsUptoRow : OpenClaim := { program := "ytobjalacaohdcaa", sum := "66d7e2db143c4af049fcd4142477b07367d6a7044f34cc0a1f99557f3b0c4b9a", func := "understudy/understudylaw19.StoreBegins", spec := "storeBegins", apart := false, narrowed := true }
def StoreBeginsUptoSaid : Prop := storeBeginsUptoRow.holds Try.pinned (OpenSpec.upto storeBeginsSpec)

/-- 'understudylaw19.StoreChecksOne', WHERE WHAT IT READS IS OF BULK AT MOST 1048576: true; the input reads as it did. -/
def storeChecksOneUptoRow : OpenClaim := { program := "ytobjalacaohdcaa", sum := "66d7e2db143c4af049fcd4142477b07367d6a7044f34cc0a1f99557f3b0c4b9a", func := "understudy/understudylaw19.StoreChecksOne", spec := "storeChecksOne", apart := false, narrowed := true }
def StoreChecksOneUptoSaid : Prop := storeChecksOneUptoRow.holds Try.pinned (OpenSpec.upto storeChecksOneSpec)

/-- 'understudylaw19.StoreChecks', WHERE WHAT IT READS IS OF BULK AT MOST 1048576: true; the input reads as it did. -/
def storeChecksUptoRow : OpenClaim := { program := "ytobjalacaohdcaa", sum := "66d7e2db143c4af049fcd4142477b07367d6a7044f34cc0a1f99557f3b0c4b9a", func := "understudy/understudylaw19.StoreChecks", spec := "storeChecks", apart := false, narrowed := true }
def StoreChecksUptoSaid : Prop := storeChecksUptoRow.holds Try.pinned (OpenSpec.upto storeChecksSpec)

/-- 'understudylaw19.StoreRises', WHERE WHAT IT READS IS OF BULK AT MOST 1048576: true; the input reads as it did. -/
def storeRisesUptoRow : OpenClaim := { program := "ytobjalacaohdcaa", sum := "66d7e2db143c4af049fcd4142477b07367d6a7044f34cc0a1f99557f3b0c4b9a", func := "understudy/understudylaw19.StoreRises", spec := "storeRises", apart := false, narrowed := true }
def StoreRisesUptoSaid : Prop := storeRisesUptoRow.holds Try.pinned (OpenSpec.upto storeRisesSpec)

/-- 'understudylaw19.StoreZero', WHERE WHAT IT READS IS OF BULK AT MOST 1048576: true; the input reads as it did. -/
def storeZeroUptoRow : OpenClaim := { program := "ytobjalacaohdcaa", sum := "66d7e2db143c4af049fcd4142477b07367d6a7044f34cc0a1f99557f3b0c4b9a", func := "understudy/understudylaw19.StoreZero", spec := "storeZero", apart := false, narrowed := true }
def StoreZeroUptoSaid : Prop := storeZeroUptoRow.holds Try.pinned (OpenSpec.upto storeZeroSpec)

/-- 'understudylaw19.StorePlays', WHERE WHAT IT READS IS OF BULK AT MOST 1048576: true; the input reads as it did. -/
def storePlaysUptoRow : OpenClaim := { program := "ytobjalacaohdcaa", sum := "66d7e2db143c4af049fcd4142477b07367d6a7044f34cc0a1f99557f3b0c4b9a", func := "understudy/understudylaw19.StorePlays", spec := "storePlays", apart := false, narrowed := true }
def StorePlaysUptoSaid : Prop := storePlaysUptoRow.holds Try.pinned (OpenSpec.upto storePlaysSpec)

/-- 'understudylaw20.PairZero', WHERE WHAT IT READS IS OF BULK AT MOST 1048576: true; the input reads as it did. -/
def pairZeroUptoRow : OpenClaim := { program := "ytobjalacaohdcaa", sum := "66d7e2db143c4af049fcd4142477b07367d6a7044f34cc0a1f99557f3b0c4b9a", func := "understudy/understudylaw20.PairZero", spec := "pairZero", inPlace := ["internal/reflectlite.TypeOf"], unfollowed := true, recurses := true, apart := false, narrowed := true }
def PairZeroUptoSaid : Prop := pairZeroUptoRow.holds Try.pinned (OpenSpec.upto pairZeroSpec)

/-- 'understudylaw20.PairOrder', WHERE WHAT IT READS IS OF BULK AT MOST 1048576: true; the input reads as it did. -/
def pairOrderUptoRow : OpenClaim := { program := "ytobjalacaohdcaa", sum := "66d7e2db143c4af049fcd4142477b07367d6a7044f34cc0a1f99557f3b0c4b9a", func := "understudy/understudylaw20.PairOrder", spec := "pairOrder", inPlace := ["internal/reflectlite.TypeOf"], unfollowed := true, recurses := true, apart := false, narrowed := true }
def PairOrderUptoSaid : Prop := pairOrderUptoRow.holds Try.pinned (OpenSpec.upto pairOrderSpec)

/-- 'understudylaw20.PairAll', WHERE WHAT IT READS IS OF BULK AT MOST 1048576: true; the input reads as it did. -/
def pairAllUptoRow : OpenClaim := { program := "ytobjalacaohdcaa", sum := "66d7e2db143c4af049fcd4142477b07367d6a7044f34cc0a1f99557f3b0c4b9a", func := "understudy/understudylaw20.PairAll", spec := "pairAll", inPlace := ["internal/reflectlite.TypeOf"], unfollowed := true, recurses := true, apart := false, narrowed := true }
def PairAllUptoSaid : Prop := pairAllUptoRow.holds Try.pinned (OpenSpec.upto pairAllSpec)

/-- 'understudylaw20.PairForged', WHERE WHAT IT READS IS OF BULK AT MOST 1048576: true; the input reads as it did. -/
def pairForgedUptoRow : OpenClaim := { program := "ytobjalacaohdcaa", sum := "66d7e2db143c4af049fcd4142477b07367d6a7044f34cc0a1f99557f3b0c4b9a", func := "understudy/understudylaw20.PairForged", spec := "pairForged", inPlace := ["internal/reflectlite.TypeOf"], unfollowed := true, recurses := true, apart := false, narrowed := true }
def PairForgedUptoSaid : Prop := pairForgedUptoRow.holds Try.pinned (OpenSpec.upto pairForgedSpec)

/-- 'understudytop.WholeNotes', WHERE WHAT IT READS IS OF BULK AT MOST 1048576: true; the input reads as it did. -/
def wholeNotesUptoRow : OpenClaim := { program := "ytobjalacaohdcaa", sum := "66d7e2db143c4af049fcd4142477b07367d6a7044f34cc0a1f99557f3b0c4b9a", func := "understudy/understudytop.WholeNotes", spec := "wholeNotes", inPlace := ["internal/reflectlite.TypeOf"], unfollowed := true, recurses := true, apart := false, narrowed := true }
def WholeNotesUptoSaid : Prop := wholeNotesUptoRow.holds Try.pinned (OpenSpec.upto wholeNotesSpec)

end Rows
end Go.Proofs.Ytobjalacaohdcaa
