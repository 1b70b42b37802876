/-
  No cell of these rows narrows 'for every input' (looked for: loops, veiled, ifaces, maps, wideKeys, modest, calm, conditions, laid).
  DERIVED. THE GIVEN ROWS OF THIS SEAT. 21 by the template 'for every input the law returns true; each argument reads behind the call as it read before'; 0 by the template 'total and deterministic' (their statements: YtkhjffbhjmfhdaaTotals.lean).
  GIVEN WITH THE SEED: the statements are not yours to turn. If you find one false, say at which input.
  Laid BY PROGRAM, IN A SANDBOX (cutbox-rows.mjs): the forced cells as the released guide's own fill.sh prints them over the translation 3a67f04c74dc8999… (all of the seat's roots in one cut). By AI agents, Wed Nov 11 2026. No macro, syntax, notation, axiom, sorry.
-/
import Derived.Test.YtkhjffbhjmfhdaaChecked
import GoSem.Claim
import GoSem.ClaimJoined
import GoSem.ClaimMapViews
import Derived.JoinedTies
import Derived.KernelRfl
namespace Go.Proofs.Ytkhjffbhjmfhdaa
/- THE CELL 'sum', in the pinned program and in every row, IS THE sha256 OF THE DUMP (.gsa) THAT YtkhjffbhjmfhdaaProg.lean LOADS. Nothing in Lean hashes anything: it is a label: what it is worth is what the hold of that sum in a sandbox is worth. -/
noncomputable def Try.pinned : Pinned := { name := "ytkhjffbhjmfhdaa", sum := "3a67f04c74dc89999ad252b978758d45130e069e29cf04f1f15bd9c922e40314", checked := Try.checked }
namespace Rows
def none {H : Type} : Left H := { results := [], args := [] }

/-- 'understudylaw06.OpsCodes': WHATEVER THE INPUT: true; the input reads as it did. -/
def opsCodesSpec : ChangeSpec := { name := "opsCodes", fn := fun _ => fun
  | [d] => { results := [.lit (.bool true)], args := [d] }
  | _ => none }
def opsCodesRow : OpenClaim := { program := "ytkhjffbhjmfhdaa", sum := "3a67f04c74dc89999ad252b978758d45130e069e29cf04f1f15bd9c922e40314", func := "understudy/understudylaw06.OpsCodes", spec := "opsCodes", apart := false }
def OpsCodesSaid : Prop := opsCodesRow.holds Try.pinned (OpenSpec.ofChange opsCodesSpec)

/-- ITS FALSE NEIGHBOUR: 'it returns false'. Refute it at one input. -/
def opsCodesWrong : ChangeSpec := { name := "opsCodes", fn := fun _ => fun
  | [d] => { results := [.lit (.bool false)], args := [d] }
  | _ => none }
def OpsCodesWrongFalsely : Prop := opsCodesRow.holds Try.pinned (OpenSpec.ofChange opsCodesWrong)

/-- 'understudylaw06.OpsPlain': WHATEVER THE INPUT: true; the input reads as it did. -/
def opsPlainSpec : ChangeSpec := { name := "opsPlain", fn := fun _ => fun
  | [d] => { results := [.lit (.bool true)], args := [d] }
  | _ => none }
def opsPlainRow : OpenClaim := { program := "ytkhjffbhjmfhdaa", sum := "3a67f04c74dc89999ad252b978758d45130e069e29cf04f1f15bd9c922e40314", func := "understudy/understudylaw06.OpsPlain", spec := "opsPlain", apart := false }
def OpsPlainSaid : Prop := opsPlainRow.holds Try.pinned (OpenSpec.ofChange opsPlainSpec)

/-- ITS FALSE NEIGHBOUR: 'it returns false'. Refute it at one input. -/
def opsPlainWrong : ChangeSpec := { name := "opsPlain", fn := fun _ => fun
  | [d] => { results := [.lit (.bool false)], args := [d] }
  | _ => none }
def OpsPlainWrongFalsely : Prop := opsPlainRow.holds Try.pinned (OpenSpec.ofChange opsPlainWrong)

/-- 'understudylaw06.OpsTwice': WHATEVER THE INPUT: true; the input reads as it did. -/
def opsTwiceSpec : ChangeSpec := { name := "opsTwice", fn := fun _ => fun
  | [d] => { results := [.lit (.bool true)], args := [d] }
  | _ => none }
def opsTwiceRow : OpenClaim := { program := "ytkhjffbhjmfhdaa", sum := "3a67f04c74dc89999ad252b978758d45130e069e29cf04f1f15bd9c922e40314", func := "understudy/understudylaw06.OpsTwice", spec := "opsTwice", apart := false }
def OpsTwiceSaid : Prop := opsTwiceRow.holds Try.pinned (OpenSpec.ofChange opsTwiceSpec)

/-- ITS FALSE NEIGHBOUR: 'it returns false'. Refute it at one input. -/
def opsTwiceWrong : ChangeSpec := { name := "opsTwice", fn := fun _ => fun
  | [d] => { results := [.lit (.bool false)], args := [d] }
  | _ => none }
def OpsTwiceWrongFalsely : Prop := opsTwiceRow.holds Try.pinned (OpenSpec.ofChange opsTwiceWrong)

/-- 'understudylaw06.OpsEncodes': WHATEVER THE INPUT: true; the input reads as it did. -/
def opsEncodesSpec : ChangeSpec := { name := "opsEncodes", fn := fun _ => fun
  | [d] => { results := [.lit (.bool true)], args := [d] }
  | _ => none }
def opsEncodesRow : OpenClaim := { program := "ytkhjffbhjmfhdaa", sum := "3a67f04c74dc89999ad252b978758d45130e069e29cf04f1f15bd9c922e40314", func := "understudy/understudylaw06.OpsEncodes", spec := "opsEncodes", apart := false }
def OpsEncodesSaid : Prop := opsEncodesRow.holds Try.pinned (OpenSpec.ofChange opsEncodesSpec)

/-- ITS FALSE NEIGHBOUR: 'it returns false'. Refute it at one input. -/
def opsEncodesWrong : ChangeSpec := { name := "opsEncodes", fn := fun _ => fun
  | [d] => { results := [.lit (.bool false)], args := [d] }
  | _ => none }
def OpsEncodesWrongFalsely : Prop := opsEncodesRow.holds Try.pinned (OpenSpec.ofChange opsEncodesWrong)

/-- 'understudylaw06.OpsDecodes': WHATEVER THE INPUT: true; the input reads as it did. -/
def opsDecodesSpec : ChangeSpec := { name := "opsDecodes", fn := fun _ => fun
  | [d1, d2] => { results := [.lit (.bool true)], args := [d1, d2] }
  | _ => none }
def opsDecodesRow : OpenClaim := { program := "ytkhjffbhjmfhdaa", sum := "3a67f04c74dc89999ad252b978758d45130e069e29cf04f1f15bd9c922e40314", func := "understudy/understudylaw06.OpsDecodes", spec := "opsDecodes", apart := false }
def OpsDecodesSaid : Prop := opsDecodesRow.holds Try.pinned (OpenSpec.ofChange opsDecodesSpec)

/-- ITS FALSE NEIGHBOUR: 'it returns false'. Refute it at one input. -/
def opsDecodesWrong : ChangeSpec := { name := "opsDecodes", fn := fun _ => fun
  | [d1, d2] => { results := [.lit (.bool false)], args := [d1, d2] }
  | _ => none }
def OpsDecodesWrongFalsely : Prop := opsDecodesRow.holds Try.pinned (OpenSpec.ofChange opsDecodesWrong)

/-- 'understudylaw06.OpsSizes': WHATEVER THE INPUT: true; the input reads as it did. -/
def opsSizesSpec : ChangeSpec := { name := "opsSizes", fn := fun _ => fun
  | [d1, d2] => { results := [.lit (.bool true)], args := [d1, d2] }
  | _ => none }
def opsSizesRow : OpenClaim := { program := "ytkhjffbhjmfhdaa", sum := "3a67f04c74dc89999ad252b978758d45130e069e29cf04f1f15bd9c922e40314", func := "understudy/understudylaw06.OpsSizes", spec := "opsSizes", apart := false }
def OpsSizesSaid : Prop := opsSizesRow.holds Try.pinned (OpenSpec.ofChange opsSizesSpec)

/-- ITS FALSE NEIGHBOUR: 'it returns false'. Refute it at one input. -/
def opsSizesWrong : ChangeSpec := { name := "opsSizes", fn := fun _ => fun
  | [d1, d2] => { results := [.lit (.bool false)], args := [d1, d2] }
  | _ => none }
def OpsSizesWrongFalsely : Prop := opsSizesRow.holds Try.pinned (OpenSpec.ofChange opsSizesWrong)

/-- 'understudylaw06.OpsBack': WHATEVER THE INPUT: true; the input reads as it did. -/
def opsBackSpec : ChangeSpec := { name := "opsBack", fn := fun _ => fun
  | [d1, d2] => { results := [.lit (.bool true)], args := [d1, d2] }
  | _ => none }
def opsBackRow : OpenClaim := { program := "ytkhjffbhjmfhdaa", sum := "3a67f04c74dc89999ad252b978758d45130e069e29cf04f1f15bd9c922e40314", func := "understudy/understudylaw06.OpsBack", spec := "opsBack", apart := false }
def OpsBackSaid : Prop := opsBackRow.holds Try.pinned (OpenSpec.ofChange opsBackSpec)

/-- ITS FALSE NEIGHBOUR: 'it returns false'. Refute it at one input. -/
def opsBackWrong : ChangeSpec := { name := "opsBack", fn := fun _ => fun
  | [d1, d2] => { results := [.lit (.bool false)], args := [d1, d2] }
  | _ => none }
def OpsBackWrongFalsely : Prop := opsBackRow.holds Try.pinned (OpenSpec.ofChange opsBackWrong)

/-- 'understudylaw07.FlowLists': WHATEVER THE INPUT: true; the input reads as it did. -/
def flowListsSpec : ChangeSpec := { name := "flowLists", fn := fun _ => fun
  | [d] => { results := [.lit (.bool true)], args := [d] }
  | _ => none }
def flowListsRow : OpenClaim := { program := "ytkhjffbhjmfhdaa", sum := "3a67f04c74dc89999ad252b978758d45130e069e29cf04f1f15bd9c922e40314", func := "understudy/understudylaw07.FlowLists", spec := "flowLists", unfollowed := true, recurses := true, apart := false }
def FlowListsSaid : Prop := flowListsRow.holds Try.pinned (OpenSpec.ofChange flowListsSpec)

/-- ITS FALSE NEIGHBOUR: 'it returns false'. Refute it at one input. -/
def flowListsWrong : ChangeSpec := { name := "flowLists", fn := fun _ => fun
  | [d] => { results := [.lit (.bool false)], args := [d] }
  | _ => none }
def FlowListsWrongFalsely : Prop := flowListsRow.holds Try.pinned (OpenSpec.ofChange flowListsWrong)

/-- 'understudylaw07.FlowJoins': WHATEVER THE INPUT: true; the input reads as it did. -/
def flowJoinsSpec : ChangeSpec := { name := "flowJoins", fn := fun _ => fun
  | [d1, d2] => { results := [.lit (.bool true)], args := [d1, d2] }
  | _ => none }
def flowJoinsRow : OpenClaim := { program := "ytkhjffbhjmfhdaa", sum := "3a67f04c74dc89999ad252b978758d45130e069e29cf04f1f15bd9c922e40314", func := "understudy/understudylaw07.FlowJoins", spec := "flowJoins", unfollowed := true, recurses := true, apart := false }
def FlowJoinsSaid : Prop := flowJoinsRow.holds Try.pinned (OpenSpec.ofChange flowJoinsSpec)

/-- ITS FALSE NEIGHBOUR: 'it returns false'. Refute it at one input. -/
def flowJoinsWrong : ChangeSpec := { name := "flowJoins", fn := fun _ => fun
  | [d1, d2] => { results := [.lit (.bool false)], args := [d1, d2] }
  | _ => none }
def FlowJoinsWrongFalsely : Prop := flowJoinsRow.holds Try.pinned (OpenSpec.ofChange flowJoinsWrong)

/-- 'understudylaw07.FlowRow': WHATEVER THE INPUT: true; the input reads as it did. -/
def flowRowSpec : ChangeSpec := { name := "flowRow", fn := fun _ => fun
  | [d1, d2] => { results := [.lit (.bool true)], args := [d1, d2] }
  | _ => none }
def flowRowRow : OpenClaim := { program := "ytkhjffbhjmfhdaa", sum := "3a67f04c74dc89999ad252b978758d45130e069e29cf04f1f15bd9c922e40314", func := "understudy/understudylaw07.FlowRow", spec := "flowRow", unfollowed := true, recurses := true, apart := false }
def FlowRowSaid : Prop := flowRowRow.holds Try.pinned (OpenSpec.ofChange flowRowSpec)

/-- ITS FALSE NEIGHBOUR: 'it returns false'. Refute it at one input. -/
def flowRowWrong : ChangeSpec := { name := "flowRow", fn := fun _ => fun
  | [d1, d2] => { results := [.lit (.bool false)], args := [d1, d2] }
  | _ => none }
def FlowRowWrongFalsely : Prop := flowRowRow.holds Try.pinned (OpenSpec.ofChange flowRowWrong)

/-- 'understudylaw07.FlowChecks': WHATEVER THE INPUT: true; the input reads as it did. -/
def flowChecksSpec : ChangeSpec := { name := "flowChecks", fn := fun _ => fun
  | [d] => { results := [.lit (.bool true)], args := [d] }
  | _ => none }
def flowChecksRow : OpenClaim := { program := "ytkhjffbhjmfhdaa", sum := "3a67f04c74dc89999ad252b978758d45130e069e29cf04f1f15bd9c922e40314", func := "understudy/understudylaw07.FlowChecks", spec := "flowChecks", unfollowed := true, recurses := true, apart := false }
def FlowChecksSaid : Prop := flowChecksRow.holds Try.pinned (OpenSpec.ofChange flowChecksSpec)

/-- ITS FALSE NEIGHBOUR: 'it returns false'. Refute it at one input. -/
def flowChecksWrong : ChangeSpec := { name := "flowChecks", fn := fun _ => fun
  | [d] => { results := [.lit (.bool false)], args := [d] }
  | _ => none }
def FlowChecksWrongFalsely : Prop := flowChecksRow.holds Try.pinned (OpenSpec.ofChange flowChecksWrong)

/-- 'understudylaw07.FlowRight': WHATEVER THE INPUT: true; the input reads as it did. -/
def flowRightSpec : ChangeSpec := { name := "flowRight", fn := fun _ => fun
  | [d] => { results := [.lit (.bool true)], args := [d] }
  | _ => none }
def flowRightRow : OpenClaim := { program := "ytkhjffbhjmfhdaa", sum := "3a67f04c74dc89999ad252b978758d45130e069e29cf04f1f15bd9c922e40314", func := "understudy/understudylaw07.FlowRight", spec := "flowRight", unfollowed := true, recurses := true, apart := false }
def FlowRightSaid : Prop := flowRightRow.holds Try.pinned (OpenSpec.ofChange flowRightSpec)

/-- ITS FALSE NEIGHBOUR: 'it returns false'. Refute it at one input. -/
def flowRightWrong : ChangeSpec := { name := "flowRight", fn := fun _ => fun
  | [d] => { results := [.lit (.bool false)], args := [d] }
  | _ => none }
def FlowRightWrongFalsely : Prop := flowRightRow.holds Try.pinned (OpenSpec.ofChange flowRightWrong)

/-- 'understudylaw13.ArithInts': WHATEVER THE INPUT: true; the input reads as it did. -/
def arithIntsSpec : ChangeSpec := { name := "arithInts", fn := fun _ => fun
  | [d1, d2, d3] => { results := [.lit (.bool true)], args := [d1, d2, d3] }
  | _ => none }
def arithIntsRow : OpenClaim := { program := "ytkhjffbhjmfhdaa", sum := "3a67f04c74dc89999ad252b978758d45130e069e29cf04f1f15bd9c922e40314", func := "understudy/understudylaw13.ArithInts", spec := "arithInts", apart := false }
def ArithIntsSaid : Prop := arithIntsRow.holds Try.pinned (OpenSpec.ofChange arithIntsSpec)

/-- ITS FALSE NEIGHBOUR: 'it returns false'. Refute it at one input. -/
def arithIntsWrong : ChangeSpec := { name := "arithInts", fn := fun _ => fun
  | [d1, d2, d3] => { results := [.lit (.bool false)], args := [d1, d2, d3] }
  | _ => none }
def ArithIntsWrongFalsely : Prop := arithIntsRow.holds Try.pinned (OpenSpec.ofChange arithIntsWrong)

/-- 'understudylaw13.ArithLongs': WHATEVER THE INPUT: true; the input reads as it did. -/
def arithLongsSpec : ChangeSpec := { name := "arithLongs", fn := fun _ => fun
  | [d1, d2, d3] => { results := [.lit (.bool true)], args := [d1, d2, d3] }
  | _ => none }
def arithLongsRow : OpenClaim := { program := "ytkhjffbhjmfhdaa", sum := "3a67f04c74dc89999ad252b978758d45130e069e29cf04f1f15bd9c922e40314", func := "understudy/understudylaw13.ArithLongs", spec := "arithLongs", apart := false }
def ArithLongsSaid : Prop := arithLongsRow.holds Try.pinned (OpenSpec.ofChange arithLongsSpec)

/-- ITS FALSE NEIGHBOUR: 'it returns false'. Refute it at one input. -/
def arithLongsWrong : ChangeSpec := { name := "arithLongs", fn := fun _ => fun
  | [d1, d2, d3] => { results := [.lit (.bool false)], args := [d1, d2, d3] }
  | _ => none }
def ArithLongsWrongFalsely : Prop := arithLongsRow.holds Try.pinned (OpenSpec.ofChange arithLongsWrong)

/-- 'understudylaw13.ArithParts': WHATEVER THE INPUT: true; the input reads as it did. -/
def arithPartsSpec : ChangeSpec := { name := "arithParts", fn := fun _ => fun
  | [d1, d2, d3, d4] => { results := [.lit (.bool true)], args := [d1, d2, d3, d4] }
  | _ => none }
def arithPartsRow : OpenClaim := { program := "ytkhjffbhjmfhdaa", sum := "3a67f04c74dc89999ad252b978758d45130e069e29cf04f1f15bd9c922e40314", func := "understudy/understudylaw13.ArithParts", spec := "arithParts", apart := false }
def ArithPartsSaid : Prop := arithPartsRow.holds Try.pinned (OpenSpec.ofChange arithPartsSpec)

/-- ITS FALSE NEIGHBOUR: 'it returns false'. Refute it at one input. -/
def arithPartsWrong : ChangeSpec := { name := "arithParts", fn := fun _ => fun
  | [d1, d2, d3, d4] => { results := [.lit (.bool false)], args := [d1, d2, d3, d4] }
  | _ => none }
def ArithPartsWrongFalsely : Prop := arithPartsRow.holds Try.pinned (OpenSpec.ofChange arithPartsWrong)

/-- 'understudylaw13.ArithTwice': WHATEVER THE INPUT: true; the input reads as it did. -/
def arithTwiceSpec : ChangeSpec := { name := "arithTwice", fn := fun _ => fun
  | [d1, d2, d3, d4] => { results := [.lit (.bool true)], args := [d1, d2, d3, d4] }
  | _ => none }
def arithTwiceRow : OpenClaim := { program := "ytkhjffbhjmfhdaa", sum := "3a67f04c74dc89999ad252b978758d45130e069e29cf04f1f15bd9c922e40314", func := "understudy/understudylaw13.ArithTwice", spec := "arithTwice", apart := false }
def ArithTwiceSaid : Prop := arithTwiceRow.holds Try.pinned (OpenSpec.ofChange arithTwiceSpec)

/-- ITS FALSE NEIGHBOUR: 'it returns false'. Refute it at one input. -/
def arithTwiceWrong : ChangeSpec := { name := "arithTwice", fn := fun _ => fun
  | [d1, d2, d3, d4] => { results := [.lit (.bool false)], args := [d1, d2, d3, d4] }
  | _ => none }
def ArithTwiceWrongFalsely : Prop := arithTwiceRow.holds Try.pinned (OpenSpec.ofChange arithTwiceWrong)

/-- 'understudylaw13.ArithNarrows': WHATEVER THE INPUT: true; the input reads as it did. -/
def arithNarrowsSpec : ChangeSpec := { name := "arithNarrows", fn := fun _ => fun
  | [d1, d2, d3] => { results := [.lit (.bool true)], args := [d1, d2, d3] }
  | _ => none }
def arithNarrowsRow : OpenClaim := { program := "ytkhjffbhjmfhdaa", sum := "3a67f04c74dc89999ad252b978758d45130e069e29cf04f1f15bd9c922e40314", func := "understudy/understudylaw13.ArithNarrows", spec := "arithNarrows", apart := false }
def ArithNarrowsSaid : Prop := arithNarrowsRow.holds Try.pinned (OpenSpec.ofChange arithNarrowsSpec)

/-- ITS FALSE NEIGHBOUR: 'it returns false'. Refute it at one input. -/
def arithNarrowsWrong : ChangeSpec := { name := "arithNarrows", fn := fun _ => fun
  | [d1, d2, d3] => { results := [.lit (.bool false)], args := [d1, d2, d3] }
  | _ => none }
def ArithNarrowsWrongFalsely : Prop := arithNarrowsRow.holds Try.pinned (OpenSpec.ofChange arithNarrowsWrong)

/-- 'understudylaw13.ArithShifts': WHATEVER THE INPUT: true; the input reads as it did. -/
def arithShiftsSpec : ChangeSpec := { name := "arithShifts", fn := fun _ => fun
  | [d1, d2, d3] => { results := [.lit (.bool true)], args := [d1, d2, d3] }
  | _ => none }
def arithShiftsRow : OpenClaim := { program := "ytkhjffbhjmfhdaa", sum := "3a67f04c74dc89999ad252b978758d45130e069e29cf04f1f15bd9c922e40314", func := "understudy/understudylaw13.ArithShifts", spec := "arithShifts", apart := false }
def ArithShiftsSaid : Prop := arithShiftsRow.holds Try.pinned (OpenSpec.ofChange arithShiftsSpec)

/-- ITS FALSE NEIGHBOUR: 'it returns false'. Refute it at one input. -/
def arithShiftsWrong : ChangeSpec := { name := "arithShifts", fn := fun _ => fun
  | [d1, d2, d3] => { results := [.lit (.bool false)], args := [d1, d2, d3] }
  | _ => none }
def ArithShiftsWrongFalsely : Prop := arithShiftsRow.holds Try.pinned (OpenSpec.ofChange arithShiftsWrong)

/-- 'understudylaw13.ArithShiftBack': WHATEVER THE INPUT: true; the input reads as it did. -/
def arithShiftBackSpec : ChangeSpec := { name := "arithShiftBack", fn := fun _ => fun
  | [d1, d2] => { results := [.lit (.bool true)], args := [d1, d2] }
  | _ => none }
def arithShiftBackRow : OpenClaim := { program := "ytkhjffbhjmfhdaa", sum := "3a67f04c74dc89999ad252b978758d45130e069e29cf04f1f15bd9c922e40314", func := "understudy/understudylaw13.ArithShiftBack", spec := "arithShiftBack", apart := false }
def ArithShiftBackSaid : Prop := arithShiftBackRow.holds Try.pinned (OpenSpec.ofChange arithShiftBackSpec)

/-- ITS FALSE NEIGHBOUR: 'it returns false'. Refute it at one input. -/
def arithShiftBackWrong : ChangeSpec := { name := "arithShiftBack", fn := fun _ => fun
  | [d1, d2] => { results := [.lit (.bool false)], args := [d1, d2] }
  | _ => none }
def ArithShiftBackWrongFalsely : Prop := arithShiftBackRow.holds Try.pinned (OpenSpec.ofChange arithShiftBackWrong)

/-- 'understudylaw13.ArithOpposites': WHATEVER THE INPUT: true; the input reads as it did. -/
def arithOppositesSpec : ChangeSpec := { name := "arithOpposites", fn := fun _ => fun
  | [d1, d2, d3] => { results := [.lit (.bool true)], args := [d1, d2, d3] }
  | _ => none }
def arithOppositesRow : OpenClaim := { program := "ytkhjffbhjmfhdaa", sum := "3a67f04c74dc89999ad252b978758d45130e069e29cf04f1f15bd9c922e40314", func := "understudy/understudylaw13.ArithOpposites", spec := "arithOpposites", apart := false }
def ArithOppositesSaid : Prop := arithOppositesRow.holds Try.pinned (OpenSpec.ofChange arithOppositesSpec)

/-- ITS FALSE NEIGHBOUR: 'it returns false'. Refute it at one input. -/
def arithOppositesWrong : ChangeSpec := { name := "arithOpposites", fn := fun _ => fun
  | [d1, d2, d3] => { results := [.lit (.bool false)], args := [d1, d2, d3] }
  | _ => none }
def ArithOppositesWrongFalsely : Prop := arithOppositesRow.holds Try.pinned (OpenSpec.ofChange arithOppositesWrong)

/-- 'understudylaw13.ArithIfs': WHATEVER THE INPUT: true; the input reads as it did. -/
def arithIfsSpec : ChangeSpec := { name := "arithIfs", fn := fun _ => fun
  | [d1, d2, d3, d4, d5] => { results := [.lit (.bool true)], args := [d1, d2, d3, d4, d5] }
  | _ => none }
def arithIfsRow : OpenClaim := { program := "ytkhjffbhjmfhdaa", sum := "3a67f04c74dc89999ad252b978758d45130e069e29cf04f1f15bd9c922e40314", func := "understudy/understudylaw13.ArithIfs", spec := "arithIfs", apart := false }
def ArithIfsSaid : Prop := arithIfsRow.holds Try.pinned (OpenSpec.ofChange arithIfsSpec)

/-- ITS FALSE NEIGHBOUR: 'it returns false'. Refute it at one input. -/
def arithIfsWrong : ChangeSpec := { name := "arithIfs", fn := fun _ => fun
  | [d1, d2, d3, d4, d5] => { results := [.lit (.bool false)], args := [d1, d2, d3, d4, d5] }
  | _ => none }
def ArithIfsWrongFalsely : Prop := arithIfsRow.holds Try.pinned (OpenSpec.ofChange arithIfsWrong)

/- THE SECOND FORM. 'bulk': how many values and letters a reading holds, each counted each time it is reached (what is shared counts as often as it is met; a slice's spare places count too). A statement '..UptoSaid' is the law's where the arguments, and the package variables that the reading takes, are together of bulk at most 1048576: NARROWER than '..Said'. Prove '..Said' where nothing that the law and all that it calls make is longer than what came in: it says more and counts as full. Else prove '..UptoSaid'. A law counts once. -/
mutual
def uptoBulk {H : Type} : DataW H → Nat
  | .lit (.string bytes) => bytes.length + 1
  | .lit _ => 1
  | .nil => 1
  | .ptr d => uptoBulk d + 1
  | .slice elems spare => uptoBulkAll elems + uptoBulkAll spare + 1
  | .agg parts => uptoBulkAll parts + 1
  | .iface _ d => uptoBulk d + 1
  | .map entries => uptoBulkEntries entries + 1
  | .held _ => 1
def uptoBulkAll {H : Type} : List (DataW H) → Nat
  | [] => 0
  | d :: r => uptoBulk d + uptoBulkAll r
def uptoBulkEntries {H : Type} : List (Lit × DataW H) → Nat
  | [] => 0
  | x :: r => uptoBulkEntry x + uptoBulkEntries r
def uptoBulkEntry {H : Type} : Lit × DataW H → Nat
  | (.string bytes, d) => bytes.length + uptoBulk d + 1
  | (_, d) => uptoBulk d + 1
 end
def uptoSmall : (H : Type) → List (DataW H) → Bool := fun _ ds => decide (uptoBulkAll ds ≤ 1048576)
def OpenSpec.upto (s : _root_.Go.ChangeSpec) : _root_.Go.OpenSpec := { _root_.Go.OpenSpec.ofChange s with cond := some uptoSmall }

/-- 'understudylaw06.OpsCodes', WHERE WHAT IT READS IS OF BULK AT MOST 1048576: true; the input reads as it did. -/
def opsCodesUptoRow : OpenClaim := { program := "ytkhjffbhjmfhdaa", sum := "3a67f04c74dc89999ad252b978758d45130e069e29cf04f1f15bd9c922e40314", func := "understudy/understudylaw06.OpsCodes", spec := "opsCodes", apart := false, narrowed := true }
def OpsCodesUptoSaid : Prop := opsCodesUptoRow.holds Try.pinned (OpenSpec.upto opsCodesSpec)

/-- 'understudylaw06.OpsPlain', WHERE WHAT IT READS IS OF BULK AT MOST 1048576: true; the input reads as it did. -/
def opsPlainUptoRow : OpenClaim := { program := "ytkhjffbhjmfhdaa", sum := "3a67f04c74dc89999ad252b978758d45130e069e29cf04f1f15bd9c922e40314", func := "understudy/understudylaw06.OpsPlain", spec := "opsPlain", apart := false, narrowed := true }
def OpsPlainUptoSaid : Prop := opsPlainUptoRow.holds Try.pinned (OpenSpec.upto opsPlainSpec)

/-- 'understudylaw06.OpsTwice', WHERE WHAT IT READS IS OF BULK AT MOST 1048576: true; the input reads as it did. -/
def opsTwiceUptoRow : OpenClaim := { program := "ytkhjffbhjmfhdaa", sum := "3a67f04c74dc89999ad252b978758d45130e069e29cf04f1f15bd9c922e40314", func := "understudy/understudylaw06.OpsTwice", spec := "opsTwice", apart := false, narrowed := true }
def OpsTwiceUptoSaid : Prop := opsTwiceUptoRow.holds Try.pinned (OpenSpec.upto opsTwiceSpec)

/-- 'understudylaw06.OpsEncodes', WHERE WHAT IT READS IS OF BULK AT MOST 1048576: true; the input reads as it did. -/
def opsEncodesUptoRow : OpenClaim := { program := "ytkhjffbhjmfhdaa", sum := "3a67f04c74dc89999ad252b978758d45130e069e29cf04f1f15bd9c922e40314", func := "understudy/understudylaw06.OpsEncodes", spec := "opsEncodes", apart := false, narrowed := true }
def OpsEncodesUptoSaid : Prop := opsEncodesUptoRow.holds Try.pinned (OpenSpec.upto opsEncodesSpec)

/-- 'understudylaw06.OpsDecodes', WHERE WHAT IT READS IS OF BULK AT MOST 1048576: true; the input reads as it did. -/
def opsDecodesUptoRow : OpenClaim := { program := "ytkhjffbhjmfhdaa", sum := "3a67f04c74dc89999ad252b978758d45130e069e29cf04f1f15bd9c922e40314", func := "understudy/understudylaw06.OpsDecodes", spec := "opsDecodes", apart := false, narrowed := true }
def OpsDecodesUptoSaid : Prop := opsDecodesUptoRow.holds Try.pinned (OpenSpec.upto opsDecodesSpec)

/-- 'understudylaw06.OpsSizes', WHERE WHAT IT READS IS OF BULK AT MOST 1048576: true; the input reads as it did. -/
def opsSizesUptoRow : OpenClaim := { program := "ytkhjffbhjmfhdaa", sum := "3a67f04c74dc89999ad252b978758d45130e069e29cf04f1f15bd9c922e40314", func := "understudy/understudylaw06.OpsSizes", spec := "opsSizes", apart := false, narrowed := true }
def OpsSizesUptoSaid : Prop := opsSizesUptoRow.holds Try.pinned (OpenSpec.upto opsSizesSpec)

/-- 'understudylaw06.OpsBack', WHERE WHAT IT READS IS OF BULK AT MOST 1048576: true; the input reads as it did. -/
def opsBackUptoRow : OpenClaim := { program := "ytkhjffbhjmfhdaa", sum := "3a67f04c74dc89999ad252b978758d45130e069e29cf04f1f15bd9c922e40314", func := "understudy/understudylaw06.OpsBack", spec := "opsBack", apart := false, narrowed := true }
def OpsBackUptoSaid : Prop := opsBackUptoRow.holds Try.pinned (OpenSpec.upto opsBackSpec)

/-- 'understudylaw07.FlowLists', WHERE WHAT IT READS IS OF BULK AT MOST 1048576: true; the input reads as it did. -/
def flowListsUptoRow : OpenClaim := { program := "ytkhjffbhjmfhdaa", sum := "3a67f04c74dc89999ad252b978758d45130e069e29cf04f1f15bd9c922e40314", func := "understudy/understudylaw07.FlowLists", spec := "flowLists", unfollowed := true, recurses := true, apart := false, narrowed := true }
def FlowListsUptoSaid : Prop := flowListsUptoRow.holds Try.pinned (OpenSpec.upto flowListsSpec)

/-- 'understudylaw07.FlowJoins', WHERE WHAT IT READS IS OF BULK AT MOST 1048576: true; the input reads as it did. -/
def flowJoinsUptoRow : OpenClaim := { program := "ytkhjffbhjmfhdaa", sum := "3a67f04c74dc89999ad252b978758d45130e069e29cf04f1f15bd9c922e40314", func := "understudy/understudylaw07.FlowJoins", spec := "flowJoins", unfollowed := true, recurses := true, apart := false, narrowed := true }
def FlowJoinsUptoSaid : Prop := flowJoinsUptoRow.holds Try.pinned (OpenSpec.upto flowJoinsSpec)

/-- 'understudylaw07.FlowRow', WHERE WHAT IT READS IS OF BULK AT MOST 1048576: true; the input reads as it did. -/
def flowRowUptoRow : OpenClaim := { program := "ytkhjffbhjmfhdaa", sum := "3a67f04c74dc89999ad252b978758d45130e069e29cf04f1f15bd9c922e40314", func := "understudy/understudylaw07.FlowRow", spec := "flowRow", unfollowed := true, recurses := true, apart := false, narrowed := true }
def FlowRowUptoSaid : Prop := flowRowUptoRow.holds Try.pinned (OpenSpec.upto flowRowSpec)

/-- 'understudylaw07.FlowChecks', WHERE WHAT IT READS IS OF BULK AT MOST 1048576: true; the input reads as it did. -/
def flowChecksUptoRow : OpenClaim := { program := "ytkhjffbhjmfhdaa", sum := "3a67f04c74dc89999ad252b978758d45130e069e29cf04f1f15bd9c922e40314", func := "understudy/understudylaw07.FlowChecks", spec := "flowChecks", unfollowed := true, recurses := true, apart := false, narrowed := true }
def FlowChecksUptoSaid : Prop := flowChecksUptoRow.holds Try.pinned (OpenSpec.upto flowChecksSpec)

/-- 'understudylaw07.FlowRight', WHERE WHAT IT READS IS OF BULK AT MOST 1048576: true; the input reads as it did. -/
def flowRightUptoRow : OpenClaim := { program := "ytkhjffbhjmfhdaa", sum := "3a67f04c74dc89999ad252b978758d45130e069e29cf04f1f15bd9c922e40314", func := "understudy/understudylaw07.FlowRight", spec := "flowRight", unfollowed := true, recurses := true, apart := false, narrowed := true }
def FlowRightUptoSaid : Prop := flowRightUptoRow.holds Try.pinned (OpenSpec.upto flowRightSpec)

/-- 'understudylaw13.ArithInts', WHERE WHAT IT READS IS OF BULK AT MOST 1048576: true; the input reads as it did. -/
def arithIntsUptoRow : OpenClaim := { program := "ytkhjffbhjmfhdaa", sum := "3a67f04c74dc89999ad252b978758d45130e069e29cf04f1f15bd9c922e40314", func := "understudy/understudylaw13.ArithInts", spec := "arithInts", apart := false, narrowed := true }
def ArithIntsUptoSaid : Prop := arithIntsUptoRow.holds Try.pinned (OpenSpec.upto arithIntsSpec)

/-- 'understudylaw13.ArithLongs', WHERE WHAT IT READS IS OF BULK AT MOST 1048576: true; the input reads as it did. -/
def arithLongsUptoRow : OpenClaim := { program := "ytkhjffbhjmfhdaa", sum := "3a67f04c74dc89999ad252b978758d45130e069e29cf04f1f15bd9c922e40314", func := "understudy/understudylaw13.ArithLongs", spec := "arithLongs", apart := false, narrowed := true }
def ArithLongsUptoSaid : Prop := arithLongsUptoRow.holds Try.pinned (OpenSpec.upto arithLongsSpec)

/-- 'understudylaw13.ArithParts', WHERE WHAT IT READS IS OF BULK AT MOST 1048576: true; the input reads as it did. -/
def arithPartsUptoRow : OpenClaim := { program := "ytkhjffbhjmfhdaa", sum := "3a67f04c74dc89999ad252b978758d45130e069e29cf04f1f15bd9c922e40314", func := "understudy/understudylaw13.ArithParts", spec := "arithParts", apart := false, narrowed := true }
def ArithPartsUptoSaid : Prop := arithPartsUptoRow.holds Try.pinned (OpenSpec.upto arithPartsSpec)

/-- 'understudylaw13.ArithTwice', WHERE WHAT IT READS IS OF BULK AT MOST 1048576: true; the input reads as it did. -/
def arithTwiceUptoRow : OpenClaim := { program := "ytkhjffbhjmfhdaa", sum := "3a67f04c74dc89999ad252b978758d45130e069e29cf04f1f15bd9c922e40314", func := "understudy/understudylaw13.ArithTwice", spec := "arithTwice", apart := false, narrowed := true }
def ArithTwiceUptoSaid : Prop := arithTwiceUptoRow.holds Try.pinned (OpenSpec.upto arithTwiceSpec)

/-- 'understudylaw13.ArithNarrows', WHERE WHAT IT READS IS OF BULK AT MOST 1048576: true; the input reads as it did. -/
def arithNarrowsUptoRow : OpenClaim := { program := "ytkhjffbhjmfhdaa", sum := "3a67f04c74dc89999ad252b978758d45130e069e29cf04f1f15bd9c922e40314", func := "understudy/understudylaw13.ArithNarrows", spec := "arithNarrows", apart := false, narrowed := true }
def ArithNarrowsUptoSaid : Prop := arithNarrowsUptoRow.holds Try.pinned (OpenSpec.upto arithNarrowsSpec)

/-- 'understudylaw13.ArithShifts', WHERE WHAT IT READS IS OF BULK AT MOST 1048576: true; the input reads as it did. -/
def arithShiftsUptoRow : OpenClaim := { program := "ytkhjffbhjmfhdaa", sum := "3a67f04c74dc89999ad252b978758d45130e069e29cf04f1f15bd9c922e40314", func := "understudy/understudylaw13.ArithShifts", spec := "arithShifts", apart := false, narrowed := true }
def ArithShiftsUptoSaid : Prop := arithShiftsUptoRow.holds Try.pinned (OpenSpec.upto arithShiftsSpec)

/-- 'understudylaw13.ArithShiftBack', WHERE WHAT IT READS IS OF BULK AT MOST 1048576: true; the input reads as it did. -/
def arithShiftBackUptoRow : OpenClaim := { program := "ytkhjffbhjmfhdaa", sum := "3a67f04c74dc89999ad252b978758d45130e069e29cf04f1f15bd9c922e40314", func := "understudy/understudylaw13.ArithShiftBack", spec := "arithShiftBack", apart := false, narrowed := true }
def ArithShiftBackUptoSaid : Prop := arithShiftBackUptoRow.holds Try.pinned (OpenSpec.upto arithShiftBackSpec)

/-- 'understudylaw13.ArithOpposites', WHERE WHAT IT READS IS OF BULK AT MOST 1048576: true; the input reads as it did. -/
def arithOppositesUptoRow : OpenClaim := { program := "ytkhjffbhjmfhdaa", sum := "3a67f04c74dc89999ad252b978758d45130e069e29cf04f1f15bd9c922e40314", func := "understudy/understudylaw13.ArithOpposites", spec := "arithOpposites", apart := false, narrowed := true }
def ArithOppositesUptoSaid : Prop := arithOppositesUptoRow.holds Try.pinned (OpenSpec.upto arithOppositesSpec)

/-- 'understudylaw13.ArithIfs', WHERE WHAT IT READS IS OF BULK AT MOST 1048576: true; the input reads as it did. -/
def arithIfsUptoRow : OpenClaim := { program := "ytkhjffbhjmfhdaa", sum := "3a67f04c74dc89999ad252b978758d45130e069e29cf04f1f15bd9c922e40314", func := "understudy/understudylaw13.ArithIfs", spec := "arithIfs", apart := false, narrowed := true }
def ArithIfsUptoSaid : Prop := arithIfsUptoRow.holds Try.pinned (OpenSpec.upto arithIfsSpec)

end Rows
end Go.Proofs.Ytkhjffbhjmfhdaa
