/-
  No cell of these rows narrows 'for every input' (looked for: loops, veiled, ifaces, maps, wideKeys, modest, calm, conditions, laid).
  DERIVED. THE GIVEN ROWS OF THIS SEAT. 5 by the template 'for every input the law returns true; each argument reads behind the call as it read before'; 0 by the template 'total and deterministic' (their statements: YtdilccihhelilaaTotals.lean).
  GIVEN WITH THE SEED: the statements are not yours to turn. If you find one false, say at which input.
  Laid BY PROGRAM, IN A SANDBOX (cutbox-rows.mjs): the forced cells as the released guide's own fill.sh prints them over the translation c4bb944f28a55b18… (all of the seat's roots in one cut). By AI agents, Wed Nov 11 2026. No macro, syntax, notation, axiom, sorry.
-/
import Derived.Test.YtdilccihhelilaaChecked
import GoSem.Claim
import GoSem.ClaimJoined
import GoSem.ClaimMapViews
import Derived.JoinedTies
import Derived.KernelRfl
namespace Go.Proofs.Ytdilccihhelilaa
/- THE CELL 'sum', in the pinned program and in every row, IS THE sha256 OF THE DUMP (.gsa) THAT YtdilccihhelilaaProg.lean LOADS. Nothing in Lean hashes anything: it is a label: what it is worth is what the hold of that sum in a sandbox is worth. -/
noncomputable def Try.pinned : Pinned := { name := "ytdilccihhelilaa", sum := "c4bb944f28a55b18d5f240eaf34de0c66438a2cdc15c617249a8039e5f317482", checked := Try.checked }
namespace Rows
def none {H : Type} : Left H := { results := [], args := [] }

/-- 'understudytop.WholeNotes': WHATEVER THE INPUT: true; the input reads as it did. -/
def wholeNotesSpec : ChangeSpec := { name := "wholeNotes", fn := fun _ => fun
  | [d1, d2] => { results := [.lit (.bool true)], args := [d1, d2] }
  | _ => none }
def wholeNotesRow : OpenClaim := { program := "ytdilccihhelilaa", sum := "c4bb944f28a55b18d5f240eaf34de0c66438a2cdc15c617249a8039e5f317482", func := "understudy/understudytop.WholeNotes", spec := "wholeNotes", inPlace := ["internal/reflectlite.TypeOf"], unfollowed := true, recurses := true, apart := false }
def WholeNotesSaid : Prop := wholeNotesRow.holds Try.pinned (OpenSpec.ofChange wholeNotesSpec)

/-- ITS FALSE NEIGHBOUR: 'it returns false'. Refute it at one input. -/
def wholeNotesWrong : ChangeSpec := { name := "wholeNotes", fn := fun _ => fun
  | [d1, d2] => { results := [.lit (.bool false)], args := [d1, d2] }
  | _ => none }
def WholeNotesWrongFalsely : Prop := wholeNotesRow.holds Try.pinned (OpenSpec.ofChange wholeNotesWrong)

/-- 'understudylaw20.PairZero': WHATEVER THE INPUT: true; the input reads as it did. -/
def pairZeroSpec : ChangeSpec := { name := "pairZero", fn := fun _ => fun
  | [d] => { results := [.lit (.bool true)], args := [d] }
  | _ => none }
def pairZeroRow : OpenClaim := { program := "ytdilccihhelilaa", sum := "c4bb944f28a55b18d5f240eaf34de0c66438a2cdc15c617249a8039e5f317482", func := "understudy/understudylaw20.PairZero", spec := "pairZero", inPlace := ["internal/reflectlite.TypeOf"], unfollowed := true, recurses := true, apart := false }
def PairZeroSaid : Prop := pairZeroRow.holds Try.pinned (OpenSpec.ofChange pairZeroSpec)

/-- ITS FALSE NEIGHBOUR: 'it returns false'. Refute it at one input. -/
def pairZeroWrong : ChangeSpec := { name := "pairZero", fn := fun _ => fun
  | [d] => { results := [.lit (.bool false)], args := [d] }
  | _ => none }
def PairZeroWrongFalsely : Prop := pairZeroRow.holds Try.pinned (OpenSpec.ofChange pairZeroWrong)

/-- 'understudylaw20.PairOrder': WHATEVER THE INPUT: true; the input reads as it did. -/
def pairOrderSpec : ChangeSpec := { name := "pairOrder", fn := fun _ => fun
  | [d1, d2, d3] => { results := [.lit (.bool true)], args := [d1, d2, d3] }
  | _ => none }
def pairOrderRow : OpenClaim := { program := "ytdilccihhelilaa", sum := "c4bb944f28a55b18d5f240eaf34de0c66438a2cdc15c617249a8039e5f317482", func := "understudy/understudylaw20.PairOrder", spec := "pairOrder", inPlace := ["internal/reflectlite.TypeOf"], unfollowed := true, recurses := true, apart := false }
def PairOrderSaid : Prop := pairOrderRow.holds Try.pinned (OpenSpec.ofChange pairOrderSpec)

/-- ITS FALSE NEIGHBOUR: 'it returns false'. Refute it at one input. -/
def pairOrderWrong : ChangeSpec := { name := "pairOrder", fn := fun _ => fun
  | [d1, d2, d3] => { results := [.lit (.bool false)], args := [d1, d2, d3] }
  | _ => none }
def PairOrderWrongFalsely : Prop := pairOrderRow.holds Try.pinned (OpenSpec.ofChange pairOrderWrong)

/-- 'understudylaw20.PairAll': WHATEVER THE INPUT: true; the input reads as it did. -/
def pairAllSpec : ChangeSpec := { name := "pairAll", fn := fun _ => fun
  | [d1, d2] => { results := [.lit (.bool true)], args := [d1, d2] }
  | _ => none }
def pairAllRow : OpenClaim := { program := "ytdilccihhelilaa", sum := "c4bb944f28a55b18d5f240eaf34de0c66438a2cdc15c617249a8039e5f317482", func := "understudy/understudylaw20.PairAll", spec := "pairAll", inPlace := ["internal/reflectlite.TypeOf"], unfollowed := true, recurses := true, apart := false }
def PairAllSaid : Prop := pairAllRow.holds Try.pinned (OpenSpec.ofChange pairAllSpec)

/-- ITS FALSE NEIGHBOUR: 'it returns false'. Refute it at one input. -/
def pairAllWrong : ChangeSpec := { name := "pairAll", fn := fun _ => fun
  | [d1, d2] => { results := [.lit (.bool false)], args := [d1, d2] }
  | _ => none }
def PairAllWrongFalsely : Prop := pairAllRow.holds Try.pinned (OpenSpec.ofChange pairAllWrong)

/-- 'understudylaw20.PairForged': WHATEVER THE INPUT: true; the input reads as it did. -/
def pairForgedSpec : ChangeSpec := { name := "pairForged", fn := fun _ => fun
  | [d1, d2] => { results := [.lit (.bool true)], args := [d1, d2] }
  | _ => none }
def pairForgedRow : OpenClaim := { program := "ytdilccihhelilaa", sum := "c4bb944f28a55b18d5f240eaf34de0c66438a2cdc15c617249a8039e5f317482", func := "understudy/understudylaw20.PairForged", spec := "pairForged", inPlace := ["internal/reflectlite.TypeOf"], unfollowed := true, recurses := true, apart := false }
def PairForgedSaid : Prop := pairForgedRow.holds Try.pinned (OpenSpec.ofChange pairForgedSpec)

/-- ITS FALSE NEIGHBOUR: 'it returns false'. Refute it at one input. -/
def pairForgedWrong : ChangeSpec := { name := "pairForged", fn := fun _ => fun
  | [d1, d2] => { results := [.lit (.bool false)], args := [d1, d2] }
  | _ => none }
def PairForgedWrongFalsely : Prop := pairForgedRow.holds Try.pinned (OpenSpec.ofChange pairForgedWrong)

/- THE SECOND FORM. 'bulk': how many values and letters a reading holds, each counted each time it is reached (what is shared counts as often as it is met; a slice's spare places count too). A statement '..UptoSaid' is the law's where the arguments, and the package variables that the reading takes, are together of bulk at most 1048576: NARROWER than '..Said'. Prove '..Said' where nothing that the law and all that it calls make is longer than what came in: it says more and counts as full. Else prove '..UptoSaid'. A law counts once. -/
mutual
def uptoBulk {H : Type} : DataW H → Nat
  | .lit (.string bytes) => bytes.length + 1
  | .lit _ => 1
  | .nil => 1
  | .ptr d => uptoBulk d + 1
  | .slice elems spare => uptoBulkAll elems + uptoBulkAll spare + 1
  | .agg parts => uptoBulkAll parts + 1
  | .iface _ d => uptoBulk d + 1
  | .map entries => uptoBulkEntries entries + 1
  | .held _ => 1
def uptoBulkAll {H : Type} : List (DataW H) → Nat
  | [] => 0
  | d :: r => uptoBulk d + uptoBulkAll r
def uptoBulkEntries {H : Type} : List (Lit × DataW H) → Nat
  | [] => 0
  | x :: r => uptoBulkEntry x + uptoBulkEntries r
def uptoBulkEntry {H : Type} : Lit × DataW H → Nat
  | (.string bytes, d) => bytes.length + uptoBulk d + 1
  | (_, d) => uptoBulk d + 1
 end
def uptoSmall : (H : Type) → List (DataW H) → Bool := fun _ ds => decide (uptoBulkAll ds ≤ 1048576)
def OpenSpec.upto (s : _root_.Go.ChangeSpec) : _root_.Go.OpenSpec := { _root_.Go.OpenSpec.ofChange s with cond := some uptoSmall }

/-- 'understudytop.WholeNotes', WHERE WHAT IT READS IS OF BULK AT MOST 1048576: true; the input reads as it did. -/
def wholeNotesUptoRow : OpenClaim := { program := "ytdilccihhelilaa", sum := "c4bb944f28a55b18d5f240eaf34de0c66438a2cdc15c617249a8039e5f317482", func := "understudy/understudytop.WholeNotes", spec := "wholeNotes", inPlace := ["internal/reflectlite.TypeOf"], unfollowed := true, recurses := true, apart := false, narrowed := true }
def WholeNotesUptoSaid : Prop := wholeNotesUptoRow.holds Try.pinned (OpenSpec.upto wholeNotesSpec)

/-- 'understudylaw20.PairZero', WHERE WHAT IT READS IS OF BULK AT MOST 1048576: true; the input reads as it did. -/
def pairZeroUptoRow : OpenClaim := { program := "ytdilccihhelilaa", sum := "c4bb944f28a55b18d5f240eaf34de0c66438a2cdc15c617249a8039e5f317482", func := "understudy/understudylaw20.PairZero", spec := "pairZero", inPlace := ["internal/reflectlite.TypeOf"], unfollowed := true, recurses := true, apart := false, narrowed := true }
def PairZeroUptoSaid : Prop := pairZeroUptoRow.holds Try.pinned (OpenSpec.upto pairZeroSpec)

/-- 'understudylaw20.PairOrder', WHERE WHAT IT READS IS OF BULK AT MOST 1048576: true; the input reads as it did. -/
def pairOrderUptoRow : OpenClaim := { program := "ytdilccihhelilaa", sum := "c4bb944f28a55b18d5f240eaf34de0c66438a2cdc15c617249a8039e5f317482", func := "understudy/understudylaw20.PairOrder", spec := "pairOrder", inPlace := ["internal/reflectlite.TypeOf"], unfollowed := true, recurses := true, apart := false, narrowed := true }
def PairOrderUptoSaid : Prop := pairOrderUptoRow.holds Try.pinned (OpenSpec.upto pairOrderSpec)

/-- 'understudylaw20.PairAll', WHERE WHAT IT READS IS OF BULK AT MOST 1048576: true; the input reads as it did. -/
def pairAllUptoRow : OpenClaim := { program := "ytdilccihhelilaa", sum := "c4bb944f28a55b18d5f240eaf34de0c66438a2cdc15c617249a8039e5f317482", func := "understudy/understudylaw20.PairAll", spec := "pairAll", inPlace := ["internal/reflectlite.TypeOf"], unfollowed := true, recurses := true, apart := false, narrowed := true }
def PairAllUptoSaid : Prop := pairAllUptoRow.holds Try.pinned (OpenSpec.upto pairAllSpec)

/-- 'understudylaw20.PairForged', WHERE WHAT IT READS IS OF BULK AT MOST 1048576: true; the input reads as it did. -/
def pairForgedUptoRow : OpenClaim := { program := "ytdilccihhelilaa", sum := "c4bb944f28a55b18d5f240eaf34de0c66438a2cdc15c617249a8039e5f317482", func := "understudy/understudylaw20.PairForged", spec := "pairForged", inPlace := ["internal/reflectlite.TypeOf"], unfollowed := true, recurses := true, apart := false, narrowed := true }
def PairForgedUptoSaid : Prop := pairForgedUptoRow.holds Try.pinned (OpenSpec.upto pairForgedSpec)

end Rows
end Go.Proofs.Ytdilccihhelilaa
