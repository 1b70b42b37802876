/-
  No cell of these rows narrows 'for every input' (looked for: loops, veiled, ifaces, maps, wideKeys, modest, calm, conditions, laid).
  DERIVED. THE GIVEN ROWS OF THIS SEAT. 14 by the template 'for every input the law returns true; each argument reads behind the call as it read before'; 0 by the template 'total and deterministic' (their statements: YtlehianbdamgmaaTotals.lean).
  GIVEN WITH THE SEED: the statements are not yours to turn. If you find one false, say at which input.
  Laid BY PROGRAM, IN A SANDBOX (cutbox-rows.mjs): the forced cells as the released guide's own fill.sh prints them over the translation 092f8c7a8ebaeef6… (all of the seat's roots in one cut). By AI agents, Wed Nov 11 2026. No macro, syntax, notation, axiom, sorry.
-/
import Derived.Test.YtlehianbdamgmaaChecked
import GoSem.Claim
import GoSem.ClaimJoined
import GoSem.ClaimMapViews
import Derived.JoinedTies
import Derived.KernelRfl
namespace Go.Proofs.Ytlehianbdamgmaa
/- THE CELL 'sum', in the pinned program and in every row, IS THE sha256 OF THE DUMP (.gsa) THAT YtlehianbdamgmaaProg.lean LOADS. Nothing in Lean hashes anything: it is a label: what it is worth is what the hold of that sum in a sandbox is worth. -/
noncomputable def Try.pinned : Pinned := { name := "ytlehianbdamgmaa", sum := "092f8c7a8ebaeef6287ec3872d83620821283841d25a48f455bc4e79299ecbcd", checked := Try.checked }
namespace Rows
def none {H : Type} : Left H := { results := [], args := [] }

/-- 'understudylaw19.StoreBest': WHATEVER THE INPUT: true; the input reads as it did. -/
def storeBestSpec : ChangeSpec := { name := "storeBest", fn := fun _ => fun
  | [d1, d2, d3, d4, d5, d6] => { results := [.lit (.bool true)], args := [d1, d2, d3, d4, d5, d6] }
  | _ => none }
def storeBestRow : OpenClaim := { program := "ytlehianbdamgmaa", sum := "092f8c7a8ebaeef6287ec3872d83620821283841d25a48f455bc4e79299ecbcd", func := "understudy/understudylaw19.StoreBest", spec := "storeBest", apart := false }
def StoreBestSaid : Prop := storeBestRow.holds Try.pinned (OpenSpec.ofChange storeBestSpec)

/-- ITS FALSE NEIGHBOUR: 'it returns false'. Refute it at one input. -/
def storeBestWrong : ChangeSpec := { name := "storeBest", fn := fun _ => fun
  | [d1, d2, d3, d4, d5, d6] => { results := [.lit (.bool false)], args := [d1, d2, d3, d4, d5, d6] }
  | _ => none }
def StoreBestWrongFalsely : Prop := storeBestRow.holds Try.pinned (OpenSpec.ofChange storeBestWrong)

/-- 'understudylaw19.StoreBegins': WHATEVER THE INPUT: true; the input reads as it did. -/
def storeBeginsSpec : ChangeSpec := { name := "storeBegins", fn := fun _ => fun
  | [d1, d2, d3] => { results := [.lit (.bool true)], args := [d1, d2, d3] }
  | _ => none }
def storeBeginsRow : OpenClaim := { program := "ytlehianbdamgmaa", sum := "092f8c7a8ebaeef6287ec3872d83620821283841d25a48f455bc4e79299ecbcd", func := "understudy/understudylaw19.StoreBegins", spec := "storeBegins", apart := false }
def StoreBeginsSaid : Prop := storeBeginsRow.holds Try.pinned (OpenSpec.ofChange storeBeginsSpec)

/-- ITS FALSE NEIGHBOUR: 'it returns false'. Refute it at one input. -/
def storeBeginsWrong : ChangeSpec := { name := "storeBegins", fn := fun _ => fun
  | [d1, d2, d3] => { results := [.lit (.bool false)], args := [d1, d2, d3] }
  | _ => none }
def StoreBeginsWrongFalsely : Prop := storeBeginsRow.holds Try.pinned (OpenSpec.ofChange storeBeginsWrong)

/-- 'understudylaw19.StoreChecksOne': WHATEVER THE INPUT: true; the input reads as it did. -/
def storeChecksOneSpec : ChangeSpec := { name := "storeChecksOne", fn := fun _ => fun
  | [d] => { results := [.lit (.bool true)], args := [d] }
  | _ => none }
def storeChecksOneRow : OpenClaim := { program := "ytlehianbdamgmaa", sum := "092f8c7a8ebaeef6287ec3872d83620821283841d25a48f455bc4e79299ecbcd", func := "understudy/understudylaw19.StoreChecksOne", spec := "storeChecksOne", apart := false }
def StoreChecksOneSaid : Prop := storeChecksOneRow.holds Try.pinned (OpenSpec.ofChange storeChecksOneSpec)

/-- ITS FALSE NEIGHBOUR: 'it returns false'. Refute it at one input. -/
def storeChecksOneWrong : ChangeSpec := { name := "storeChecksOne", fn := fun _ => fun
  | [d] => { results := [.lit (.bool false)], args := [d] }
  | _ => none }
def StoreChecksOneWrongFalsely : Prop := storeChecksOneRow.holds Try.pinned (OpenSpec.ofChange storeChecksOneWrong)

/-- 'understudylaw18.RecordChecks': WHATEVER THE INPUT: true; the input reads as it did. -/
def recordChecksSpec : ChangeSpec := { name := "recordChecks", fn := fun _ => fun
  | [d] => { results := [.lit (.bool true)], args := [d] }
  | _ => none }
def recordChecksRow : OpenClaim := { program := "ytlehianbdamgmaa", sum := "092f8c7a8ebaeef6287ec3872d83620821283841d25a48f455bc4e79299ecbcd", func := "understudy/understudylaw18.RecordChecks", spec := "recordChecks", apart := false }
def RecordChecksSaid : Prop := recordChecksRow.holds Try.pinned (OpenSpec.ofChange recordChecksSpec)

/-- ITS FALSE NEIGHBOUR: 'it returns false'. Refute it at one input. -/
def recordChecksWrong : ChangeSpec := { name := "recordChecks", fn := fun _ => fun
  | [d] => { results := [.lit (.bool false)], args := [d] }
  | _ => none }
def RecordChecksWrongFalsely : Prop := recordChecksRow.holds Try.pinned (OpenSpec.ofChange recordChecksWrong)

/-- 'understudylaw19.StoreChecks': WHATEVER THE INPUT: true; the input reads as it did. -/
def storeChecksSpec : ChangeSpec := { name := "storeChecks", fn := fun _ => fun
  | [d1, d2, d3, d4, d5, d6] => { results := [.lit (.bool true)], args := [d1, d2, d3, d4, d5, d6] }
  | _ => none }
def storeChecksRow : OpenClaim := { program := "ytlehianbdamgmaa", sum := "092f8c7a8ebaeef6287ec3872d83620821283841d25a48f455bc4e79299ecbcd", func := "understudy/understudylaw19.StoreChecks", spec := "storeChecks", apart := false }
def StoreChecksSaid : Prop := storeChecksRow.holds Try.pinned (OpenSpec.ofChange storeChecksSpec)

/-- ITS FALSE NEIGHBOUR: 'it returns false'. Refute it at one input. -/
def storeChecksWrong : ChangeSpec := { name := "storeChecks", fn := fun _ => fun
  | [d1, d2, d3, d4, d5, d6] => { results := [.lit (.bool false)], args := [d1, d2, d3, d4, d5, d6] }
  | _ => none }
def StoreChecksWrongFalsely : Prop := storeChecksRow.holds Try.pinned (OpenSpec.ofChange storeChecksWrong)

/-- 'understudylaw19.StoreRises': WHATEVER THE INPUT: true; the input reads as it did. -/
def storeRisesSpec : ChangeSpec := { name := "storeRises", fn := fun _ => fun
  | [d] => { results := [.lit (.bool true)], args := [d] }
  | _ => none }
def storeRisesRow : OpenClaim := { program := "ytlehianbdamgmaa", sum := "092f8c7a8ebaeef6287ec3872d83620821283841d25a48f455bc4e79299ecbcd", func := "understudy/understudylaw19.StoreRises", spec := "storeRises", apart := false }
def StoreRisesSaid : Prop := storeRisesRow.holds Try.pinned (OpenSpec.ofChange storeRisesSpec)

/-- ITS FALSE NEIGHBOUR: 'it returns false'. Refute it at one input. -/
def storeRisesWrong : ChangeSpec := { name := "storeRises", fn := fun _ => fun
  | [d] => { results := [.lit (.bool false)], args := [d] }
  | _ => none }
def StoreRisesWrongFalsely : Prop := storeRisesRow.holds Try.pinned (OpenSpec.ofChange storeRisesWrong)

/-- 'understudylaw19.StoreZero': WHATEVER THE INPUT: true; the input reads as it did. -/
def storeZeroSpec : ChangeSpec := { name := "storeZero", fn := fun _ => fun
  | [d1, d2] => { results := [.lit (.bool true)], args := [d1, d2] }
  | _ => none }
def storeZeroRow : OpenClaim := { program := "ytlehianbdamgmaa", sum := "092f8c7a8ebaeef6287ec3872d83620821283841d25a48f455bc4e79299ecbcd", func := "understudy/understudylaw19.StoreZero", spec := "storeZero", apart := false }
def StoreZeroSaid : Prop := storeZeroRow.holds Try.pinned (OpenSpec.ofChange storeZeroSpec)

/-- ITS FALSE NEIGHBOUR: 'it returns false'. Refute it at one input. -/
def storeZeroWrong : ChangeSpec := { name := "storeZero", fn := fun _ => fun
  | [d1, d2] => { results := [.lit (.bool false)], args := [d1, d2] }
  | _ => none }
def StoreZeroWrongFalsely : Prop := storeZeroRow.holds Try.pinned (OpenSpec.ofChange storeZeroWrong)

/-- 'understudylaw19.StorePlays': WHATEVER THE INPUT: true; the input reads as it did. -/
def storePlaysSpec : ChangeSpec := { name := "storePlays", fn := fun _ => fun
  | [d] => { results := [.lit (.bool true)], args := [d] }
  | _ => none }
def storePlaysRow : OpenClaim := { program := "ytlehianbdamgmaa", sum := "092f8c7a8ebaeef6287ec3872d83620821283841d25a48f455bc4e79299ecbcd", func := "understudy/understudylaw19.StorePlays", spec := "storePlays", apart := false }
def StorePlaysSaid : Prop := storePlaysRow.holds Try.pinned (OpenSpec.ofChange storePlaysSpec)

/-- ITS FALSE NEIGHBOUR: 'it returns false'. Refute it at one input. -/
def storePlaysWrong : ChangeSpec := { name := "storePlays", fn := fun _ => fun
  | [d] => { results := [.lit (.bool false)], args := [d] }
  | _ => none }
def StorePlaysWrongFalsely : Prop := storePlaysRow.holds Try.pinned (OpenSpec.ofChange storePlaysWrong)

/-- 'understudylaw18.RecordNotes': WHATEVER THE INPUT: true; the input reads as it did. -/
def recordNotesSpec : ChangeSpec := { name := "recordNotes", fn := fun _ => fun
  | [d] => { results := [.lit (.bool true)], args := [d] }
  | _ => none }
def recordNotesRow : OpenClaim := { program := "ytlehianbdamgmaa", sum := "092f8c7a8ebaeef6287ec3872d83620821283841d25a48f455bc4e79299ecbcd", func := "understudy/understudylaw18.RecordNotes", spec := "recordNotes", inPlace := ["internal/reflectlite.TypeOf"], unfollowed := true, recurses := true, apart := false }
def RecordNotesSaid : Prop := recordNotesRow.holds Try.pinned (OpenSpec.ofChange recordNotesSpec)

/-- ITS FALSE NEIGHBOUR: 'it returns false'. Refute it at one input. -/
def recordNotesWrong : ChangeSpec := { name := "recordNotes", fn := fun _ => fun
  | [d] => { results := [.lit (.bool false)], args := [d] }
  | _ => none }
def RecordNotesWrongFalsely : Prop := recordNotesRow.holds Try.pinned (OpenSpec.ofChange recordNotesWrong)

/-- 'understudylaw18.RecordSizes': WHATEVER THE INPUT: true; the input reads as it did. -/
def recordSizesSpec : ChangeSpec := { name := "recordSizes", fn := fun _ => fun
  | [d1, d2] => { results := [.lit (.bool true)], args := [d1, d2] }
  | _ => none }
def recordSizesRow : OpenClaim := { program := "ytlehianbdamgmaa", sum := "092f8c7a8ebaeef6287ec3872d83620821283841d25a48f455bc4e79299ecbcd", func := "understudy/understudylaw18.RecordSizes", spec := "recordSizes", inPlace := ["internal/reflectlite.TypeOf"], unfollowed := true, recurses := true, apart := false }
def RecordSizesSaid : Prop := recordSizesRow.holds Try.pinned (OpenSpec.ofChange recordSizesSpec)

/-- ITS FALSE NEIGHBOUR: 'it returns false'. Refute it at one input. -/
def recordSizesWrong : ChangeSpec := { name := "recordSizes", fn := fun _ => fun
  | [d1, d2] => { results := [.lit (.bool false)], args := [d1, d2] }
  | _ => none }
def RecordSizesWrongFalsely : Prop := recordSizesRow.holds Try.pinned (OpenSpec.ofChange recordSizesWrong)

/-- 'understudylaw18.RecordReads': WHATEVER THE INPUT: true; the input reads as it did. -/
def recordReadsSpec : ChangeSpec := { name := "recordReads", fn := fun _ => fun
  | [d] => { results := [.lit (.bool true)], args := [d] }
  | _ => none }
def recordReadsRow : OpenClaim := { program := "ytlehianbdamgmaa", sum := "092f8c7a8ebaeef6287ec3872d83620821283841d25a48f455bc4e79299ecbcd", func := "understudy/understudylaw18.RecordReads", spec := "recordReads", apart := false }
def RecordReadsSaid : Prop := recordReadsRow.holds Try.pinned (OpenSpec.ofChange recordReadsSpec)

/-- ITS FALSE NEIGHBOUR: 'it returns false'. Refute it at one input. -/
def recordReadsWrong : ChangeSpec := { name := "recordReads", fn := fun _ => fun
  | [d] => { results := [.lit (.bool false)], args := [d] }
  | _ => none }
def RecordReadsWrongFalsely : Prop := recordReadsRow.holds Try.pinned (OpenSpec.ofChange recordReadsWrong)

/-- 'understudylaw18.RecordDecodes': WHATEVER THE INPUT: true; the input reads as it did. -/
def recordDecodesSpec : ChangeSpec := { name := "recordDecodes", fn := fun _ => fun
  | [d] => { results := [.lit (.bool true)], args := [d] }
  | _ => none }
def recordDecodesRow : OpenClaim := { program := "ytlehianbdamgmaa", sum := "092f8c7a8ebaeef6287ec3872d83620821283841d25a48f455bc4e79299ecbcd", func := "understudy/understudylaw18.RecordDecodes", spec := "recordDecodes", inPlace := ["internal/reflectlite.TypeOf"], unfollowed := true, recurses := true, apart := false }
def RecordDecodesSaid : Prop := recordDecodesRow.holds Try.pinned (OpenSpec.ofChange recordDecodesSpec)

/-- ITS FALSE NEIGHBOUR: 'it returns false'. Refute it at one input. -/
def recordDecodesWrong : ChangeSpec := { name := "recordDecodes", fn := fun _ => fun
  | [d] => { results := [.lit (.bool false)], args := [d] }
  | _ => none }
def RecordDecodesWrongFalsely : Prop := recordDecodesRow.holds Try.pinned (OpenSpec.ofChange recordDecodesWrong)

/-- 'understudylaw18.RecordBack': WHATEVER THE INPUT: true; the input reads as it did. -/
def recordBackSpec : ChangeSpec := { name := "recordBack", fn := fun _ => fun
  | [d1, d2, d3] => { results := [.lit (.bool true)], args := [d1, d2, d3] }
  | _ => none }
def recordBackRow : OpenClaim := { program := "ytlehianbdamgmaa", sum := "092f8c7a8ebaeef6287ec3872d83620821283841d25a48f455bc4e79299ecbcd", func := "understudy/understudylaw18.RecordBack", spec := "recordBack", inPlace := ["internal/reflectlite.TypeOf"], unfollowed := true, recurses := true, apart := false }
def RecordBackSaid : Prop := recordBackRow.holds Try.pinned (OpenSpec.ofChange recordBackSpec)

/-- ITS FALSE NEIGHBOUR: 'it returns false'. Refute it at one input. -/
def recordBackWrong : ChangeSpec := { name := "recordBack", fn := fun _ => fun
  | [d1, d2, d3] => { results := [.lit (.bool false)], args := [d1, d2, d3] }
  | _ => none }
def RecordBackWrongFalsely : Prop := recordBackRow.holds Try.pinned (OpenSpec.ofChange recordBackWrong)

/-- 'understudylaw18.RecordBytes': WHATEVER THE INPUT: true; the input reads as it did. -/
def recordBytesSpec : ChangeSpec := { name := "recordBytes", fn := fun _ => fun
  | [d] => { results := [.lit (.bool true)], args := [d] }
  | _ => none }
def recordBytesRow : OpenClaim := { program := "ytlehianbdamgmaa", sum := "092f8c7a8ebaeef6287ec3872d83620821283841d25a48f455bc4e79299ecbcd", func := "understudy/understudylaw18.RecordBytes", spec := "recordBytes", inPlace := ["internal/reflectlite.TypeOf"], unfollowed := true, recurses := true, apart := false }
def RecordBytesSaid : Prop := recordBytesRow.holds Try.pinned (OpenSpec.ofChange recordBytesSpec)

/-- ITS FALSE NEIGHBOUR: 'it returns false'. Refute it at one input. -/
def recordBytesWrong : ChangeSpec := { name := "recordBytes", fn := fun _ => fun
  | [d] => { results := [.lit (.bool false)], args := [d] }
  | _ => none }
def RecordBytesWrongFalsely : Prop := recordBytesRow.holds Try.pinned (OpenSpec.ofChange recordBytesWrong)

/- THE SECOND FORM. 'bulk': how many values and letters a reading holds, each counted each time it is reached (what is shared counts as often as it is met; a slice's spare places count too). A statement '..UptoSaid' is the law's where the arguments, and the package variables that the reading takes, are together of bulk at most 1048576: NARROWER than '..Said'. Prove '..Said' where nothing that the law and all that it calls make is longer than what came in: it says more and counts as full. Else prove '..UptoSaid'. A law counts once. -/
mutual
def uptoBulk {H : Type} : DataW H → Nat
  | .lit (.string bytes) => bytes.length + 1
  | .lit _ => 1
  | .nil => 1
  | .ptr d => uptoBulk d + 1
  | .slice elems spare => uptoBulkAll elems + uptoBulkAll spare + 1
  | .agg parts => uptoBulkAll parts + 1
  | .iface _ d => uptoBulk d + 1
  | .map entries => uptoBulkEntries entries + 1
  | .held _ => 1
def uptoBulkAll {H : Type} : List (DataW H) → Nat
  | [] => 0
  | d :: r => uptoBulk d + uptoBulkAll r
def uptoBulkEntries {H : Type} : List (Lit × DataW H) → Nat
  | [] => 0
  | x :: r => uptoBulkEntry x + uptoBulkEntries r
def uptoBulkEntry {H : Type} : Lit × DataW H → Nat
  | (.string bytes, d) => bytes.length + uptoBulk d + 1
  | (_, d) => uptoBulk d + 1
 end
def uptoSmall : (H : Type) → List (DataW H) → Bool := fun _ ds => decide (uptoBulkAll ds ≤ 1048576)
def OpenSpec.upto (s : _root_.Go.ChangeSpec) : _root_.Go.OpenSpec := { _root_.Go.OpenSpec.ofChange s with cond := some uptoSmall }

/-- 'understudylaw19.StoreBest', WHERE WHAT IT READS IS OF BULK AT MOST 1048576: true; the input reads as it did. -/
def storeBestUptoRow : OpenClaim := { program := "ytlehianbdamgmaa", sum := "092f8c7a8ebaeef6287ec3872d83620821283841d25a48f455bc4e79299ecbcd", func := "understudy/understudylaw19.StoreBest", spec := "storeBest", apart := false, narrowed := true }
def StoreBestUptoSaid : Prop := storeBestUptoRow.holds Try.pinned (OpenSpec.upto storeBestSpec)

/-- 'understudylaw19.StoreBegins', WHERE WHAT IT READS IS OF BULK AT MOST 1048576: true; the input reads as it did. -/
def storeBeginsUptoRow : OpenClaim := { program := "ytlehianbdamgmaa", sum := "092f8c7a8ebaeef6287ec3872d83620821283841d25a48f455bc4e79299ecbcd", func := "understudy/understudylaw19.StoreBegins", spec := "storeBegins", apart := false, narrowed := true }
def StoreBeginsUptoSaid : Prop := storeBeginsUptoRow.holds Try.pinned (OpenSpec.upto storeBeginsSpec)

/-- 'understudylaw19.StoreChecksOne', WHERE WHAT IT READS IS OF BULK AT MOST 1048576: true; the input reads as it did. -/
def storeChecksOneUptoRow : OpenClaim := { program := "ytlehianbdamgmaa", sum := "092f8c7a8ebaeef6287ec3872d83620821283841d25a48f455bc4e79299ecbcd", func := "understudy/understudylaw19.StoreChecksOne", spec := "storeChecksOne", apart := false, narrowed := true }
def StoreChecksOneUptoSaid : Prop := storeChecksOneUptoRow.holds Try.pinned (OpenSpec.upto storeChecksOneSpec)

/-- 'understudylaw18.RecordChecks', WHERE WHAT IT READS IS OF BULK AT MOST 1048576: true; the input reads as it did. -/
def recordChecksUptoRow : OpenClaim := { program := "ytlehianbdamgmaa", sum := "092f8c7a8ebaeef6287ec3872d83620821283841d25a48f455bc4e79299ecbcd", func := "understudy/understudylaw18.RecordChecks", spec := "recordChecks", apart := false, narrowed := true }
def RecordChecksUptoSaid : Prop := recordChecksUptoRow.holds Try.pinned (OpenSpec.upto recordChecksSpec)

/-- 'understudylaw19.StoreChecks', WHERE WHAT IT READS IS OF BULK AT MOST 1048576: true; the input reads as it did. -/
def storeChecksUptoRow : OpenClaim := { program := "ytlehianbdamgmaa", sum := "092f8c7a8ebaeef6287ec3872d83620821283841d25a48f455bc4e79299ecbcd", func := "understudy/understudylaw19.StoreChecks", spec := "storeChecks", apart := false, narrowed := true }
def StoreChecksUptoSaid : Prop := storeChecksUptoRow.holds Try.pinned (OpenSpec.upto storeChecksSpec)

/-- 'understudylaw19.StoreRises', WHERE WHAT IT READS IS OF BULK AT MOST 1048576: true; the input reads as it did. -/
def storeRisesUptoRow : OpenClaim := { program := "ytlehianbdamgmaa", sum := "092f8c7a8ebaeef6287ec3872d83620821283841d25a48f455bc4e79299ecbcd", func := "understudy/understudylaw19.StoreRises", spec := "storeRises", apart := false, narrowed := true }
def StoreRisesUptoSaid : Prop := storeRisesUptoRow.holds Try.pinned (OpenSpec.upto storeRisesSpec)

/-- 'understudylaw19.StoreZero', WHERE WHAT IT READS IS OF BULK AT MOST 1048576: true; the input reads as it did. -/
def storeZeroUptoRow : OpenClaim := { program := "ytlehianbdamgmaa", sum := "092f8c7a8ebaeef6287ec3872d83620821283841d25a48f455bc4e79299ecbcd", func := "understudy/understudylaw19.StoreZero", spec := "storeZero", apart := false, narrowed := true }
def StoreZeroUptoSaid : Prop := storeZeroUptoRow.holds Try.pinned (OpenSpec.upto storeZeroSpec)

/-- 'understudylaw19.StorePlays', WHERE WHAT IT READS IS OF BULK AT MOST 1048576: true; the input reads as it did. -/
def storePlaysUptoRow : OpenClaim := { program := "ytlehianbdamgmaa", sum := "092f8c7a8ebaeef6287ec3872d83620821283841d25a48f455bc4e79299ecbcd", func := "understudy/understudylaw19.StorePlays", spec := "storePlays", apart := false, narrowed := true }
def StorePlaysUptoSaid : Prop := storePlaysUptoRow.holds Try.pinned (OpenSpec.upto storePlaysSpec)

/-- 'understudylaw18.RecordNotes', WHERE WHAT IT READS IS OF BULK AT MOST 1048576: true; the input reads as it did. -/
def recordNotesUptoRow : OpenClaim := { program := "ytlehianbdamgmaa", sum := "092f8c7a8ebaeef6287ec3872d83620821283841d25a48f455bc4e79299ecbcd", func := "understudy/understudylaw18.RecordNotes", spec := "recordNotes", inPlace := ["internal/reflectlite.TypeOf"], unfollowed := true, recurses := true, apart := false, narrowed := true }
def RecordNotesUptoSaid : Prop := recordNotesUptoRow.holds Try.pinned (OpenSpec.upto recordNotesSpec)

/-- 'understudylaw18.RecordSizes', WHERE WHAT IT READS IS OF BULK AT MOST 1048576: true; the input reads as it did. -/
def recordSizesUptoRow : OpenClaim := { program := "ytlehianbdamgmaa", sum := "092f8c7a8ebaeef6287ec3872d83620821283841d25a48f455bc4e79299ecbcd", func := "understudy/understudylaw18.RecordSizes", spec := "recordSizes", inPlace := ["internal/reflectlite.TypeOf"], unfollowed := true, recurses := true, apart := false, narrowed := true }
def RecordSizesUptoSaid : Prop := recordSizesUptoRow.holds Try.pinned (OpenSpec.upto recordSizesSpec)

/-- 'understudylaw18.RecordReads', WHERE WHAT IT READS IS OF BULK AT MOST 1048576: true; the input reads as it did. -/
def recordReadsUptoRow : OpenClaim := { program := "ytlehianbdamgmaa", sum := "092f8c7a8ebaeef6287ec3872d83620821283841d25a48f455bc4e79299ecbcd", func := "understudy/understudylaw18.RecordReads", spec := "recordReads", apart := false, narrowed := true }
def RecordReadsUptoSaid : Prop := recordReadsUptoRow.holds Try.pinned (OpenSpec.upto recordReadsSpec)

/-- 'understudylaw18.RecordDecodes', WHERE WHAT IT READS IS OF BULK AT MOST 1048576: true; the input reads as it did. -/
def recordDecodesUptoRow : OpenClaim := { program := "ytlehianbdamgmaa", sum := "092f8c7a8ebaeef6287ec3872d83620821283841d25a48f455bc4e79299ecbcd", func := "understudy/understudylaw18.RecordDecodes", spec := "recordDecodes", inPlace := ["internal/reflectlite.TypeOf"], unfollowed := true, recurses := true, apart := false, narrowed := true }
def RecordDecodesUptoSaid : Prop := recordDecodesUptoRow.holds Try.pinned (OpenSpec.upto recordDecodesSpec)

/-- 'understudylaw18.RecordBack', WHERE WHAT IT READS IS OF BULK AT MOST 1048576: true; the input reads as it did. -/
def recordBackUptoRow : OpenClaim := { program := "ytlehianbdamgmaa", sum := "092f8c7a8ebaeef6287ec3872d83620821283841d25a48f455bc4e79299ecbcd", func := "understudy/understudylaw18.RecordBack", spec := "recordBack", inPlace := ["internal/reflectlite.TypeOf"], unfollowed := true, recurses := true, apart := false, narrowed := true }
def RecordBackUptoSaid : Prop := recordBackUptoRow.holds Try.pinned (OpenSpec.upto recordBackSpec)

/-- 'understudylaw18.RecordBytes', WHERE WHAT IT READS IS OF BULK AT MOST 1048576: true; the input reads as it did. -/
def recordBytesUptoRow : OpenClaim := { program := "ytlehianbdamgmaa", sum := "092f8c7a8ebaeef6287ec3872d83620821283841d25a48f455bc4e79299ecbcd", func := "understudy/understudylaw18.RecordBytes", spec := "recordBytes", inPlace := ["internal/reflectlite.TypeOf"], unfollowed := true, recurses := true, apart := false, narrowed := true }
def RecordBytesUptoSaid : Prop := recordBytesUptoRow.holds Try.pinned (OpenSpec.upto recordBytesSpec)

end Rows
end Go.Proofs.Ytlehianbdamgmaa
