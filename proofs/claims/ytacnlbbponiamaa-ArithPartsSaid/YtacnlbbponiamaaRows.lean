/-
  No cell of these rows narrows 'for every input' (looked for: loops, veiled, ifaces, maps, wideKeys, modest, calm, conditions, laid).
  DERIVED. THE GIVEN ROWS OF THIS SEAT. 9 by the template 'for every input the law returns true; each argument reads behind the call as it read before'; 0 by the template 'total and deterministic' (their statements: YtacnlbbponiamaaTotals.lean).
  GIVEN WITH THE SEED: the statements are not yours to turn. If you find one false, say at which input.
  Laid BY PROGRAM, IN A SANDBOX (cutbox-rows.mjs): the forced cells as the released guide's own fill.sh prints them over the translation 4db2455e04196d08… (all of the seat's roots in one cut). By AI agents, Wed Nov 11 2026. No macro, syntax, notation, axiom, sorry.
-/
import Derived.Test.YtacnlbbponiamaaChecked
import GoSem.Claim
import GoSem.ClaimJoined
import GoSem.ClaimMapViews
import Derived.JoinedTies
import Derived.KernelRfl
namespace Go.Proofs.Ytacnlbbponiamaa
/- THE CELL 'sum', in the pinned program and in every row, IS THE sha256 OF THE DUMP (.gsa) THAT YtacnlbbponiamaaProg.lean LOADS. Nothing in Lean hashes anything: it is a label: what it is worth is what the hold of that sum in a sandbox is worth. -/
noncomputable def Try.pinned : Pinned := { name := "ytacnlbbponiamaa", sum := "4db2455e04196d08e352a2648e859d705a71843179947b58ace128af1c0338cb", checked := Try.checked }
namespace Rows
def none {H : Type} : Left H := { results := [], args := [] }

/-- 'understudylaw13.ArithInts': WHATEVER THE INPUT: true; the input reads as it did. -/
def arithIntsSpec : ChangeSpec := { name := "arithInts", fn := fun _ => fun
  | [d1, d2, d3] => { results := [.lit (.bool true)], args := [d1, d2, d3] }
  | _ => none }
def arithIntsRow : OpenClaim := { program := "ytacnlbbponiamaa", sum := "4db2455e04196d08e352a2648e859d705a71843179947b58ace128af1c0338cb", func := "understudy/understudylaw13.ArithInts", spec := "arithInts", apart := false }
def ArithIntsSaid : Prop := arithIntsRow.holds Try.pinned (OpenSpec.ofChange arithIntsSpec)

/-- ITS FALSE NEIGHBOUR: 'it returns false'. Refute it at one input. -/
def arithIntsWrong : ChangeSpec := { name := "arithInts", fn := fun _ => fun
  | [d1, d2, d3] => { results := [.lit (.bool false)], args := [d1, d2, d3] }
  | _ => none }
def ArithIntsWrongFalsely : Prop := arithIntsRow.holds Try.pinned (OpenSpec.ofChange arithIntsWrong)

/-- 'understudylaw13.ArithLongs': WHATEVER THE INPUT: true; the input reads as it did. -/
def arithLongsSpec : ChangeSpec := { name := "arithLongs", fn := fun _ => fun
  | [d1, d2, d3] => { results := [.lit (.bool true)], args := [d1, d2, d3] }
  | _ => none }
def arithLongsRow : OpenClaim := { program := "ytacnlbbponiamaa", sum := "4db2455e04196d08e352a2648e859d705a71843179947b58ace128af1c0338cb", func := "understudy/understudylaw13.ArithLongs", spec := "arithLongs", apart := false }
def ArithLongsSaid : Prop := arithLongsRow.holds Try.pinned (OpenSpec.ofChange arithLongsSpec)

/-- ITS FALSE NEIGHBOUR: 'it returns false'. Refute it at one input. -/
def arithLongsWrong : ChangeSpec := { name := "arithLongs", fn := fun _ => fun
  | [d1, d2, d3] => { results := [.lit (.bool false)], args := [d1, d2, d3] }
  | _ => none }
def ArithLongsWrongFalsely : Prop := arithLongsRow.holds Try.pinned (OpenSpec.ofChange arithLongsWrong)

/-- 'understudylaw13.ArithParts': WHATEVER THE INPUT: true; the input reads as it did. -/
def arithPartsSpec : ChangeSpec := { name := "arithParts", fn := fun _ => fun
  | [d1, d2, d3, d4] => { results := [.lit (.bool true)], args := [d1, d2, d3, d4] }
  | _ => none }
def arithPartsRow : OpenClaim := { program := "ytacnlbbponiamaa", sum := "4db2455e04196d08e352a2648e859d705a71843179947b58ace128af1c0338cb", func := "understudy/understudylaw13.ArithParts", spec := "arithParts", apart := false }
def ArithPartsSaid : Prop := arithPartsRow.holds Try.pinned (OpenSpec.ofChange arithPartsSpec)

/-- ITS FALSE NEIGHBOUR: 'it returns false'. Refute it at one input. -/
def arithPartsWrong : ChangeSpec := { name := "arithParts", fn := fun _ => fun
  | [d1, d2, d3, d4] => { results := [.lit (.bool false)], args := [d1, d2, d3, d4] }
  | _ => none }
def ArithPartsWrongFalsely : Prop := arithPartsRow.holds Try.pinned (OpenSpec.ofChange arithPartsWrong)

/-- 'understudylaw13.ArithTwice': WHATEVER THE INPUT: true; the input reads as it did. -/
def arithTwiceSpec : ChangeSpec := { name := "arithTwice", fn := fun _ => fun
  | [d1, d2, d3, d4] => { results := [.lit (.bool true)], args := [d1, d2, d3, d4] }
  | _ => none }
def arithTwiceRow : OpenClaim := { program := "ytacnlbbponiamaa", sum := "4db2455e04196d08e352a2648e859d705a71843179947b58ace128af1c0338cb", func := "understudy/understudylaw13.ArithTwice", spec := "arithTwice", apart := false }
def ArithTwiceSaid : Prop := arithTwiceRow.holds Try.pinned (OpenSpec.ofChange arithTwiceSpec)

/-- ITS FALSE NEIGHBOUR: 'it returns false'. Refute it at one input. -/
def arithTwiceWrong : ChangeSpec := { name := "arithTwice", fn := fun _ => fun
  | [d1, d2, d3, d4] => { results := [.lit (.bool false)], args := [d1, d2, d3, d4] }
  | _ => none }
def ArithTwiceWrongFalsely : Prop := arithTwiceRow.holds Try.pinned (OpenSpec.ofChange arithTwiceWrong)

/-- 'understudylaw13.ArithNarrows': WHATEVER THE INPUT: true; the input reads as it did. -/
def arithNarrowsSpec : ChangeSpec := { name := "arithNarrows", fn := fun _ => fun
  | [d1, d2, d3] => { results := [.lit (.bool true)], args := [d1, d2, d3] }
  | _ => none }
def arithNarrowsRow : OpenClaim := { program := "ytacnlbbponiamaa", sum := "4db2455e04196d08e352a2648e859d705a71843179947b58ace128af1c0338cb", func := "understudy/understudylaw13.ArithNarrows", spec := "arithNarrows", apart := false }
def ArithNarrowsSaid : Prop := arithNarrowsRow.holds Try.pinned (OpenSpec.ofChange arithNarrowsSpec)

/-- ITS FALSE NEIGHBOUR: 'it returns false'. Refute it at one input. -/
def arithNarrowsWrong : ChangeSpec := { name := "arithNarrows", fn := fun _ => fun
  | [d1, d2, d3] => { results := [.lit (.bool false)], args := [d1, d2, d3] }
  | _ => none }
def ArithNarrowsWrongFalsely : Prop := arithNarrowsRow.holds Try.pinned (OpenSpec.ofChange arithNarrowsWrong)

/-- 'understudylaw13.ArithShifts': WHATEVER THE INPUT: true; the input reads as it did. -/
def arithShiftsSpec : ChangeSpec := { name := "arithShifts", fn := fun _ => fun
  | [d1, d2, d3] => { results := [.lit (.bool true)], args := [d1, d2, d3] }
  | _ => none }
def arithShiftsRow : OpenClaim := { program := "ytacnlbbponiamaa", sum := "4db2455e04196d08e352a2648e859d705a71843179947b58ace128af1c0338cb", func := "understudy/understudylaw13.ArithShifts", spec := "arithShifts", apart := false }
def ArithShiftsSaid : Prop := arithShiftsRow.holds Try.pinned (OpenSpec.ofChange arithShiftsSpec)

/-- ITS FALSE NEIGHBOUR: 'it returns false'. Refute it at one input. -/
def arithShiftsWrong : ChangeSpec := { name := "arithShifts", fn := fun _ => fun
  | [d1, d2, d3] => { results := [.lit (.bool false)], args := [d1, d2, d3] }
  | _ => none }
def ArithShiftsWrongFalsely : Prop := arithShiftsRow.holds Try.pinned (OpenSpec.ofChange arithShiftsWrong)

/-- 'understudylaw13.ArithShiftBack': WHATEVER THE INPUT: true; the input reads as it did. -/
def arithShiftBackSpec : ChangeSpec := { name := "arithShiftBack", fn := fun _ => fun
  | [d1, d2] => { results := [.lit (.bool true)], args := [d1, d2] }
  | _ => none }
def arithShiftBackRow : OpenClaim := { program := "ytacnlbbponiamaa", sum := "4db2455e04196d08e352a2648e859d705a71843179947b58ace128af1c0338cb", func := "understudy/understudylaw13.ArithShiftBack", spec := "arithShiftBack", apart := false }
def ArithShiftBackSaid : Prop := arithShiftBackRow.holds Try.pinned (OpenSpec.ofChange arithShiftBackSpec)

/-- ITS FALSE NEIGHBOUR: 'it returns false'. Refute it at one input. -/
def arithShiftBackWrong : ChangeSpec := { name := "arithShiftBack", fn := fun _ => fun
  | [d1, d2] => { results := [.lit (.bool false)], args := [d1, d2] }
  | _ => none }
def ArithShiftBackWrongFalsely : Prop := arithShiftBackRow.holds Try.pinned (OpenSpec.ofChange arithShiftBackWrong)

/-- 'understudylaw13.ArithOpposites': WHATEVER THE INPUT: true; the input reads as it did. -/
def arithOppositesSpec : ChangeSpec := { name := "arithOpposites", fn := fun _ => fun
  | [d1, d2, d3] => { results := [.lit (.bool true)], args := [d1, d2, d3] }
  | _ => none }
def arithOppositesRow : OpenClaim := { program := "ytacnlbbponiamaa", sum := "4db2455e04196d08e352a2648e859d705a71843179947b58ace128af1c0338cb", func := "understudy/understudylaw13.ArithOpposites", spec := "arithOpposites", apart := false }
def ArithOppositesSaid : Prop := arithOppositesRow.holds Try.pinned (OpenSpec.ofChange arithOppositesSpec)

/-- ITS FALSE NEIGHBOUR: 'it returns false'. Refute it at one input. -/
def arithOppositesWrong : ChangeSpec := { name := "arithOpposites", fn := fun _ => fun
  | [d1, d2, d3] => { results := [.lit (.bool false)], args := [d1, d2, d3] }
  | _ => none }
def ArithOppositesWrongFalsely : Prop := arithOppositesRow.holds Try.pinned (OpenSpec.ofChange arithOppositesWrong)

/-- 'understudylaw13.ArithIfs': WHATEVER THE INPUT: true; the input reads as it did. -/
def arithIfsSpec : ChangeSpec := { name := "arithIfs", fn := fun _ => fun
  | [d1, d2, d3, d4, d5] => { results := [.lit (.bool true)], args := [d1, d2, d3, d4, d5] }
  | _ => none }
def arithIfsRow : OpenClaim := { program := "ytacnlbbponiamaa", sum := "4db2455e04196d08e352a2648e859d705a71843179947b58ace128af1c0338cb", func := "understudy/understudylaw13.ArithIfs", spec := "arithIfs", apart := false }
def ArithIfsSaid : Prop := arithIfsRow.holds Try.pinned (OpenSpec.ofChange arithIfsSpec)

/-- ITS FALSE NEIGHBOUR: 'it returns false'. Refute it at one input. -/
def arithIfsWrong : ChangeSpec := { name := "arithIfs", fn := fun _ => fun
  | [d1, d2, d3, d4, d5] => { results := [.lit (.bool false)], args := [d1, d2, d3, d4, d5] }
  | _ => none }
def ArithIfsWrongFalsely : Prop := arithIfsRow.holds Try.pinned (OpenSpec.ofChange arithIfsWrong)

/- THE SECOND FORM. 'bulk': how many values and letters a reading holds, each counted each time it is reached (what is shared counts as often as it is met; a slice's spare places count too). A statement '..UptoSaid' is the law's where the arguments, and the package variables that the reading takes, are together of bulk at most 1048576: NARROWER than '..Said'. Prove '..Said' where nothing that the law and all that it calls make is longer than what came in: it says more and counts as full. Else prove '..UptoSaid'. A law counts once. -/
mutual
def uptoBulk {H : Type} : DataW H → Nat
  | .lit (.string bytes) => bytes.length + 1
  | .lit _ => 1
  | .nil => 1
  | .ptr d => uptoBulk d + 1
  | .slice elems spare => uptoBulkAll elems + uptoBulkAll spare + 1
  | .agg parts => uptoBulkAll parts + 1
  | .iface _ d => uptoBulk d + 1
  | .map entries => uptoBulkEntries entries + 1
  | .held _ => 1
def uptoBulkAll {H : Type} : List (DataW H) → Nat
  | [] => 0
  | d :: r => uptoBulk d + uptoBulkAll r
def uptoBulkEntries {H : Type} : List (Lit × DataW H) → Nat
  | [] => 0
  | x :: r => uptoBulkEntry x + uptoBulkEntries r
def uptoBulkEntry {H : Type} : Lit × DataW H → Nat
  | (.string bytes, d) => bytes.length + uptoBulk d + 1
  | (_, d) => uptoBulk d + 1
 end
def uptoSmall : (H : Type) → List (DataW H) → Bool := fun _ ds => decide (uptoBulkAll ds ≤ 1048576)
def OpenSpec.upto (s : _root_.Go.ChangeSpec) : _root_.Go.OpenSpec := { _root_.Go.OpenSpec.ofChange s with cond := some uptoSmall }

/-- 'understudylaw13.ArithInts', WHERE WHAT IT READS IS OF BULK AT MOST 1048576: true; the input reads as it did. -/
def arithIntsUptoRow : OpenClaim := { program := "ytacnlbbponiamaa", sum := "4db2455e04196d08e352a2648e859d705a71843179947b58ace128af1c0338cb", func := "understudy/understudylaw13.ArithInts", spec := "arithInts", apart := false, narrowed := true }
def ArithIntsUptoSaid : Prop := arithIntsUptoRow.holds Try.pinned (OpenSpec.upto arithIntsSpec)

/-- 'understudylaw13.ArithLongs', WHERE WHAT IT READS IS OF BULK AT MOST 1048576: true; the input reads as it did. -/
def arithLongsUptoRow : OpenClaim := { program := "ytacnlbbponiamaa", sum := "4db2455e04196d08e352a2648e859d705a71843179947b58ace128af1c0338cb", func := "understudy/understudylaw13.ArithLongs", spec := "arithLongs", apart := false, narrowed := true }
def ArithLongsUptoSaid : Prop := arithLongsUptoRow.holds Try.pinned (OpenSpec.upto arithLongsSpec)

/-- 'understudylaw13.ArithParts', WHERE WHAT IT READS IS OF BULK AT MOST 1048576: true; the input reads as it did. -/
def arithPartsUptoRow : OpenClaim := { program := "ytacnlbbponiamaa", sum := "4db2455e04196d08e352a2648e859d705a71843179947b58ace128af1c0338cb", func := "understudy/understudylaw13.ArithParts", spec := "arithParts", apart := false, narrowed := true }
def ArithPartsUptoSaid : Prop := arithPartsUptoRow.holds Try.pinned (OpenSpec.upto arithPartsSpec)

/-- 'understudylaw13.ArithTwice', WHERE WHAT IT READS IS OF BULK AT MOST 1048576: true; the input reads as it did. -/
def arithTwiceUptoRow : OpenClaim := { program := "ytacnlbbponiamaa", sum := "4db2455e04196d08e352a2648e859d705a71843179947b58ace128af1c0338cb", func := "understudy/understudylaw13.ArithTwice", spec := "arithTwice", apart := false, narrowed := true }
def ArithTwiceUptoSaid : Prop := arithTwiceUptoRow.holds Try.pinned (OpenSpec.upto arithTwiceSpec)

/-- 'understudylaw13.ArithNarrows', WHERE WHAT IT READS IS OF BULK AT MOST 1048576: true; the input reads as it did. -/
def arithNarrowsUptoRow : OpenClaim := { program := "ytacnlbbponiamaa", sum := "4db2455e04196d08e352a2648e859d705a71843179947b58ace128af1c0338cb", func := "understudy/understudylaw13.ArithNarrows", spec := "arithNarrows", apart := false, narrowed := true }
def ArithNarrowsUptoSaid : Prop := arithNarrowsUptoRow.holds Try.pinned (OpenSpec.upto arithNarrowsSpec)

/-- 'understudylaw13.ArithShifts', WHERE WHAT IT READS IS OF BULK AT MOST 1048576: true; the input reads as it did. -/
def arithShiftsUptoRow : OpenClaim := { program := "ytacnlbbponiamaa", sum := "4db2455e04196d08e352a2648e859d705a71843179947b58ace128af1c0338cb", func := "understudy/understudylaw13.ArithShifts", spec := "arithShifts", apart := false, narrowed := true }
def ArithShiftsUptoSaid : Prop := arithShiftsUptoRow.holds Try.pinned (OpenSpec.upto arithShiftsSpec)

/-- 'understudylaw13.ArithShiftBack', WHERE WHAT IT READS IS OF BULK AT MOST 1048576: true; the input reads as it did. -/
def arithShiftBackUptoRow : OpenClaim := { program := "ytacnlbbponiamaa", sum := "4db2455e04196d08e352a2648e859d705a71843179947b58ace128af1c0338cb", func := "understudy/understudylaw13.ArithShiftBack", spec := "arithShiftBack", apart := false, narrowed := true }
def ArithShiftBackUptoSaid : Prop := arithShiftBackUptoRow.holds Try.pinned (OpenSpec.upto arithShiftBackSpec)

/-- 'understudylaw13.ArithOpposites', WHERE WHAT IT READS IS OF BULK AT MOST 1048576: true; the input reads as it did. -/
def arithOppositesUptoRow : OpenClaim := { program := "ytacnlbbponiamaa", sum := "4db2455e04196d08e352a2648e859d705a71843179947b58ace128af1c0338cb", func := "understudy/understudylaw13.ArithOpposites", spec := "arithOpposites", apart := false, narrowed := true }
def ArithOppositesUptoSaid : Prop := arithOppositesUptoRow.holds Try.pinned (OpenSpec.upto arithOppositesSpec)

/-- 'understudylaw13.ArithIfs', WHERE WHAT IT READS IS OF BULK AT MOST 1048576: true; the input reads as it did. -/
def arithIfsUptoRow : OpenClaim := { program := "ytacnlbbponiamaa", sum := "4db2455e04196d08e352a2648e859d705a71843179947b58ace128af1c0338cb", func := "understudy/understudylaw13.ArithIfs", spec := "arithIfs", apart := false, narrowed := true }
def ArithIfsUptoSaid : Prop := arithIfsUptoRow.holds Try.pinned (OpenSpec.upto arithIfsSpec)

end Rows
end Go.Proofs.Ytacnlbbponiamaa
