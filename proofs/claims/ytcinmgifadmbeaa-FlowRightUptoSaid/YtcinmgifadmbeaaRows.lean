/-
  No cell of these rows narrows 'for every input' (looked for: loops, veiled, ifaces, maps, wideKeys, modest, calm, conditions, laid).
  DERIVED. THE GIVEN ROWS OF THIS SEAT. 12 by the template 'for every input the law returns true; each argument reads behind the call as it read before'; 0 by the template 'total and deterministic' (their statements: YtcinmgifadmbeaaTotals.lean).
  GIVEN WITH THE SEED: the statements are not yours to turn. If you find one false, say at which input.
  Laid BY PROGRAM, IN A SANDBOX (cutbox-rows.mjs): the forced cells as the released guide's own fill.sh prints them over the translation 011a8972dceb2617… (all of the seat's roots in one cut). By AI agents, Wed Nov 11 2026. No macro, syntax, notation, axiom, sorry.
-/
import Derived.Test.YtcinmgifadmbeaaChecked
import GoSem.Claim
import GoSem.ClaimJoined
import GoSem.ClaimMapViews
import Derived.JoinedTies
import Derived.KernelRfl
namespace Go.Proofs.Ytcinmgifadmbeaa
/- THE CELL 'sum', in the pinned program and in every row, IS THE sha256 OF THE DUMP (.gsa) THAT YtcinmgifadmbeaaProg.lean LOADS. Nothing in Lean hashes anything: it is a label: what it is worth is what the hold of that sum in a sandbox is worth. -/
noncomputable def Try.pinned : Pinned := { name := "ytcinmgifadmbeaa", sum := "011a8972dceb2617d3cdf97f7fa410fd6cbd3d2697165fcd50aa3c30034938e0", checked := Try.checked }
namespace Rows
def none {H : Type} : Left H := { results := [], args := [] }

/-- 'understudylaw06.OpsCodes': WHATEVER THE INPUT: true; the input reads as it did. -/
def opsCodesSpec : ChangeSpec := { name := "opsCodes", fn := fun _ => fun
  | [d] => { results := [.lit (.bool true)], args := [d] }
  | _ => none }
def opsCodesRow : OpenClaim := { program := "ytcinmgifadmbeaa", sum := "011a8972dceb2617d3cdf97f7fa410fd6cbd3d2697165fcd50aa3c30034938e0", func := "understudy/understudylaw06.OpsCodes", spec := "opsCodes", apart := false }
def OpsCodesSaid : Prop := opsCodesRow.holds Try.pinned (OpenSpec.ofChange opsCodesSpec)

/-- ITS FALSE NEIGHBOUR: 'it returns false'. Refute it at one input. -/
def opsCodesWrong : ChangeSpec := { name := "opsCodes", fn := fun _ => fun
  | [d] => { results := [.lit (.bool false)], args := [d] }
  | _ => none }
def OpsCodesWrongFalsely : Prop := opsCodesRow.holds Try.pinned (OpenSpec.ofChange opsCodesWrong)

/-- 'understudylaw06.OpsPlain': WHATEVER THE INPUT: true; the input reads as it did. -/
def opsPlainSpec : ChangeSpec := { name := "opsPlain", fn := fun _ => fun
  | [d] => { results := [.lit (.bool true)], args := [d] }
  | _ => none }
def opsPlainRow : OpenClaim := { program := "ytcinmgifadmbeaa", sum := "011a8972dceb2617d3cdf97f7fa410fd6cbd3d2697165fcd50aa3c30034938e0", func := "understudy/understudylaw06.OpsPlain", spec := "opsPlain", apart := false }
def OpsPlainSaid : Prop := opsPlainRow.holds Try.pinned (OpenSpec.ofChange opsPlainSpec)

/-- ITS FALSE NEIGHBOUR: 'it returns false'. Refute it at one input. -/
def opsPlainWrong : ChangeSpec := { name := "opsPlain", fn := fun _ => fun
  | [d] => { results := [.lit (.bool false)], args := [d] }
  | _ => none }
def OpsPlainWrongFalsely : Prop := opsPlainRow.holds Try.pinned (OpenSpec.ofChange opsPlainWrong)

/-- 'understudylaw06.OpsTwice': WHATEVER THE INPUT: true; the input reads as it did. -/
def opsTwiceSpec : ChangeSpec := { name := "opsTwice", fn := fun _ => fun
  | [d] => { results := [.lit (.bool true)], args := [d] }
  | _ => none }
def opsTwiceRow : OpenClaim := { program := "ytcinmgifadmbeaa", sum := "011a8972dceb2617d3cdf97f7fa410fd6cbd3d2697165fcd50aa3c30034938e0", func := "understudy/understudylaw06.OpsTwice", spec := "opsTwice", apart := false }
def OpsTwiceSaid : Prop := opsTwiceRow.holds Try.pinned (OpenSpec.ofChange opsTwiceSpec)

/-- ITS FALSE NEIGHBOUR: 'it returns false'. Refute it at one input. -/
def opsTwiceWrong : ChangeSpec := { name := "opsTwice", fn := fun _ => fun
  | [d] => { results := [.lit (.bool false)], args := [d] }
  | _ => none }
def OpsTwiceWrongFalsely : Prop := opsTwiceRow.holds Try.pinned (OpenSpec.ofChange opsTwiceWrong)

/-- 'understudylaw06.OpsEncodes': WHATEVER THE INPUT: true; the input reads as it did. -/
def opsEncodesSpec : ChangeSpec := { name := "opsEncodes", fn := fun _ => fun
  | [d] => { results := [.lit (.bool true)], args := [d] }
  | _ => none }
def opsEncodesRow : OpenClaim := { program := "ytcinmgifadmbeaa", sum := "011a8972dceb2617d3cdf97f7fa410fd6cbd3d2697165fcd50aa3c30034938e0", func := "understudy/understudylaw06.OpsEncodes", spec := "opsEncodes", apart := false }
def OpsEncodesSaid : Prop := opsEncodesRow.holds Try.pinned (OpenSpec.ofChange opsEncodesSpec)

/-- ITS FALSE NEIGHBOUR: 'it returns false'. Refute it at one input. -/
def opsEncodesWrong : ChangeSpec := { name := "opsEncodes", fn := fun _ => fun
  | [d] => { results := [.lit (.bool false)], args := [d] }
  | _ => none }
def OpsEncodesWrongFalsely : Prop := opsEncodesRow.holds Try.pinned (OpenSpec.ofChange opsEncodesWrong)

/-- 'understudylaw06.OpsDecodes': WHATEVER THE INPUT: true; the input reads as it did. -/
def opsDecodesSpec : ChangeSpec := { name := "opsDecodes", fn := fun _ => fun
  | [d1, d2] => { results := [.lit (.bool true)], args := [d1, d2] }
  | _ => none }
def opsDecodesRow : OpenClaim := { program := "ytcinmgifadmbeaa", sum := "011a8972dceb2617d3cdf97f7fa410fd6cbd3d2697165fcd50aa3c30034938e0", func := "understudy/understudylaw06.OpsDecodes", spec := "opsDecodes", apart := false }
def OpsDecodesSaid : Prop := opsDecodesRow.holds Try.pinned (OpenSpec.ofChange opsDecodesSpec)

/-- ITS FALSE NEIGHBOUR: 'it returns false'. Refute it at one input. -/
def opsDecodesWrong : ChangeSpec := { name := "opsDecodes", fn := fun _ => fun
  | [d1, d2] => { results := [.lit (.bool false)], args := [d1, d2] }
  | _ => none }
def OpsDecodesWrongFalsely : Prop := opsDecodesRow.holds Try.pinned (OpenSpec.ofChange opsDecodesWrong)

/-- 'understudylaw06.OpsSizes': WHATEVER THE INPUT: true; the input reads as it did. -/
def opsSizesSpec : ChangeSpec := { name := "opsSizes", fn := fun _ => fun
  | [d1, d2] => { results := [.lit (.bool true)], args := [d1, d2] }
  | _ => none }
def opsSizesRow : OpenClaim := { program := "ytcinmgifadmbeaa", sum := "011a8972dceb2617d3cdf97f7fa410fd6cbd3d2697165fcd50aa3c30034938e0", func := "understudy/understudylaw06.OpsSizes", spec := "opsSizes", apart := false }
def OpsSizesSaid : Prop := opsSizesRow.holds Try.pinned (OpenSpec.ofChange opsSizesSpec)

/-- ITS FALSE NEIGHBOUR: 'it returns false'. Refute it at one input. -/
def opsSizesWrong : ChangeSpec := { name := "opsSizes", fn := fun _ => fun
  | [d1, d2] => { results := [.lit (.bool false)], args := [d1, d2] }
  | _ => none }
def OpsSizesWrongFalsely : Prop := opsSizesRow.holds Try.pinned (OpenSpec.ofChange opsSizesWrong)

/-- 'understudylaw07.FlowLists': WHATEVER THE INPUT: true; the input reads as it did. -/
def flowListsSpec : ChangeSpec := { name := "flowLists", fn := fun _ => fun
  | [d] => { results := [.lit (.bool true)], args := [d] }
  | _ => none }
def flowListsRow : OpenClaim := { program := "ytcinmgifadmbeaa", sum := "011a8972dceb2617d3cdf97f7fa410fd6cbd3d2697165fcd50aa3c30034938e0", func := "understudy/understudylaw07.FlowLists", spec := "flowLists", unfollowed := true, recurses := true, apart := false }
def FlowListsSaid : Prop := flowListsRow.holds Try.pinned (OpenSpec.ofChange flowListsSpec)

/-- ITS FALSE NEIGHBOUR: 'it returns false'. Refute it at one input. -/
def flowListsWrong : ChangeSpec := { name := "flowLists", fn := fun _ => fun
  | [d] => { results := [.lit (.bool false)], args := [d] }
  | _ => none }
def FlowListsWrongFalsely : Prop := flowListsRow.holds Try.pinned (OpenSpec.ofChange flowListsWrong)

/-- 'understudylaw07.FlowJoins': WHATEVER THE INPUT: true; the input reads as it did. -/
def flowJoinsSpec : ChangeSpec := { name := "flowJoins", fn := fun _ => fun
  | [d1, d2] => { results := [.lit (.bool true)], args := [d1, d2] }
  | _ => none }
def flowJoinsRow : OpenClaim := { program := "ytcinmgifadmbeaa", sum := "011a8972dceb2617d3cdf97f7fa410fd6cbd3d2697165fcd50aa3c30034938e0", func := "understudy/understudylaw07.FlowJoins", spec := "flowJoins", unfollowed := true, recurses := true, apart := false }
def FlowJoinsSaid : Prop := flowJoinsRow.holds Try.pinned (OpenSpec.ofChange flowJoinsSpec)

/-- ITS FALSE NEIGHBOUR: 'it returns false'. Refute it at one input. -/
def flowJoinsWrong : ChangeSpec := { name := "flowJoins", fn := fun _ => fun
  | [d1, d2] => { results := [.lit (.bool false)], args := [d1, d2] }
  | _ => none }
def FlowJoinsWrongFalsely : Prop := flowJoinsRow.holds Try.pinned (OpenSpec.ofChange flowJoinsWrong)

/-- 'understudylaw07.FlowRow': WHATEVER THE INPUT: true; the input reads as it did. -/
def flowRowSpec : ChangeSpec := { name := "flowRow", fn := fun _ => fun
  | [d1, d2] => { results := [.lit (.bool true)], args := [d1, d2] }
  | _ => none }
def flowRowRow : OpenClaim := { program := "ytcinmgifadmbeaa", sum := "011a8972dceb2617d3cdf97f7fa410fd6cbd3d2697165fcd50aa3c30034938e0", func := "understudy/understudylaw07.FlowRow", spec := "flowRow", unfollowed := true, recurses := true, apart := false }
def FlowRowSaid : Prop := flowRowRow.holds Try.pinned (OpenSpec.ofChange flowRowSpec)

/-- ITS FALSE NEIGHBOUR: 'it returns false'. Refute it at one input. -/
def flowRowWrong : ChangeSpec := { name := "flowRow", fn := fun _ => fun
  | [d1, d2] => { results := [.lit (.bool false)], args := [d1, d2] }
  | _ => none }
def FlowRowWrongFalsely : Prop := flowRowRow.holds Try.pinned (OpenSpec.ofChange flowRowWrong)

/-- 'understudylaw06.OpsBack': WHATEVER THE INPUT: true; the input reads as it did. -/
def opsBackSpec : ChangeSpec := { name := "opsBack", fn := fun _ => fun
  | [d1, d2] => { results := [.lit (.bool true)], args := [d1, d2] }
  | _ => none }
def opsBackRow : OpenClaim := { program := "ytcinmgifadmbeaa", sum := "011a8972dceb2617d3cdf97f7fa410fd6cbd3d2697165fcd50aa3c30034938e0", func := "understudy/understudylaw06.OpsBack", spec := "opsBack", apart := false }
def OpsBackSaid : Prop := opsBackRow.holds Try.pinned (OpenSpec.ofChange opsBackSpec)

/-- ITS FALSE NEIGHBOUR: 'it returns false'. Refute it at one input. -/
def opsBackWrong : ChangeSpec := { name := "opsBack", fn := fun _ => fun
  | [d1, d2] => { results := [.lit (.bool false)], args := [d1, d2] }
  | _ => none }
def OpsBackWrongFalsely : Prop := opsBackRow.holds Try.pinned (OpenSpec.ofChange opsBackWrong)

/-- 'understudylaw07.FlowChecks': WHATEVER THE INPUT: true; the input reads as it did. -/
def flowChecksSpec : ChangeSpec := { name := "flowChecks", fn := fun _ => fun
  | [d] => { results := [.lit (.bool true)], args := [d] }
  | _ => none }
def flowChecksRow : OpenClaim := { program := "ytcinmgifadmbeaa", sum := "011a8972dceb2617d3cdf97f7fa410fd6cbd3d2697165fcd50aa3c30034938e0", func := "understudy/understudylaw07.FlowChecks", spec := "flowChecks", unfollowed := true, recurses := true, apart := false }
def FlowChecksSaid : Prop := flowChecksRow.holds Try.pinned (OpenSpec.ofChange flowChecksSpec)

/-- ITS FALSE NEIGHBOUR: 'it returns false'. Refute it at one input. -/
def flowChecksWrong : ChangeSpec := { name := "flowChecks", fn := fun _ => fun
  | [d] => { results := [.lit (.bool false)], args := [d] }
  | _ => none }
def FlowChecksWrongFalsely : Prop := flowChecksRow.holds Try.pinned (OpenSpec.ofChange flowChecksWrong)

/-- 'understudylaw07.FlowRight': WHATEVER THE INPUT: true; the input reads as it did. -/
def flowRightSpec : ChangeSpec := { name := "flowRight", fn := fun _ => fun
  | [d] => { results := [.lit (.bool true)], args := [d] }
  | _ => none }
def flowRightRow : OpenClaim := { program := "ytcinmgifadmbeaa", sum := "011a8972dceb2617d3cdf97f7fa410fd6cbd3d2697165fcd50aa3c30034938e0", func := "understudy/understudylaw07.FlowRight", spec := "flowRight", unfollowed := true, recurses := true, apart := false }
def FlowRightSaid : Prop := flowRightRow.holds Try.pinned (OpenSpec.ofChange flowRightSpec)

/-- ITS FALSE NEIGHBOUR: 'it returns false'. Refute it at one input. -/
def flowRightWrong : ChangeSpec := { name := "flowRight", fn := fun _ => fun
  | [d] => { results := [.lit (.bool false)], args := [d] }
  | _ => none }
def FlowRightWrongFalsely : Prop := flowRightRow.holds Try.pinned (OpenSpec.ofChange flowRightWrong)

/- THE SECOND FORM. 'bulk': how many values and letters a reading holds, each counted each time it is reached (what is shared counts as often as it is met; a slice's spare places count too). A statement '..UptoSaid' is the law's where the arguments, and the package variables that the reading takes, are together of bulk at most 1048576: NARROWER than '..Said'. Prove '..Said' where nothing that the law and all that it calls make is longer than what came in: it says more and counts as full. Else prove '..UptoSaid'. A law counts once. -/
mutual
def uptoBulk {H : Type} : DataW H → Nat
  | .lit (.string bytes) => bytes.length + 1
  | .lit _ => 1
  | .nil => 1
  | .ptr d => uptoBulk d + 1
  | .slice elems spare => uptoBulkAll elems + uptoBulkAll spare + 1
  | .agg parts => uptoBulkAll parts + 1
  | .iface _ d => uptoBulk d + 1
  | .map entries => uptoBulkEntries entries + 1
  | .held _ => 1
def uptoBulkAll {H : Type} : List (DataW H) → Nat
  | [] => 0
  | d :: r => uptoBulk d + uptoBulkAll r
def uptoBulkEntries {H : Type} : List (Lit × DataW H) → Nat
  | [] => 0
  | x :: r => uptoBulkEntry x + uptoBulkEntries r
def uptoBulkEntry {H : Type} : Lit × DataW H → Nat
  | (.string bytes, d) => bytes.length + uptoBulk d + 1
  | (_, d) => uptoBulk d + 1
 end
def uptoSmall : (H : Type) → List (DataW H) → Bool := fun _ ds => decide (uptoBulkAll ds ≤ 1048576)
def OpenSpec.upto (s : _root_.Go.ChangeSpec) : _root_.Go.OpenSpec := { _root_.Go.OpenSpec.ofChange s with cond := some uptoSmall }

/-- 'understudylaw06.OpsCodes', WHERE WHAT IT READS IS OF BULK AT MOST 1048576: true; the input reads as it did. -/
def opsCodesUptoRow : OpenClaim := { program := "ytcinmgifadmbeaa", sum := "011a8972dceb2617d3cdf97f7fa410fd6cbd3d2697165fcd50aa3c30034938e0", func := "understudy/understudylaw06.OpsCodes", spec := "opsCodes", apart := false, narrowed := true }
def OpsCodesUptoSaid : Prop := opsCodesUptoRow.holds Try.pinned (OpenSpec.upto opsCodesSpec)

/-- 'understudylaw06.OpsPlain', WHERE WHAT IT READS IS OF BULK AT MOST 1048576: true; the input reads as it did. -/
def opsPlainUptoRow : OpenClaim := { program := "ytcinmgifadmbeaa", sum := "011a8972dceb2617d3cdf97f7fa410fd6cbd3d2697165fcd50aa3c30034938e0", func := "understudy/understudylaw06.OpsPlain", spec := "opsPlain", apart := false, narrowed := true }
def OpsPlainUptoSaid : Prop := opsPlainUptoRow.holds Try.pinned (OpenSpec.upto opsPlainSpec)

/-- 'understudylaw06.OpsTwice', WHERE WHAT IT READS IS OF BULK AT MOST 1048576: true; the input reads as it did. -/
def opsTwiceUptoRow : OpenClaim := { program := "ytcinmgifadmbeaa", sum := "011a8972dceb2617d3cdf97f7fa410fd6cbd3d2697165fcd50aa3c30034938e0", func := "understudy/understudylaw06.OpsTwice", spec := "opsTwice", apart := false, narrowed := true }
def OpsTwiceUptoSaid : Prop := opsTwiceUptoRow.holds Try.pinned (OpenSpec.upto opsTwiceSpec)

/-- 'understudylaw06.OpsEncodes', WHERE WHAT IT READS IS OF BULK AT MOST 1048576: true; the input reads as it did. -/
def opsEncodesUptoRow : OpenClaim := { program := "ytcinmgifadmbeaa", sum := "011a8972dceb2617d3cdf97f7fa410fd6cbd3d2697165fcd50aa3c30034938e0", func := "understudy/understudylaw06.OpsEncodes", spec := "opsEncodes", apart := false, narrowed := true }
def OpsEncodesUptoSaid : Prop := opsEncodesUptoRow.holds Try.pinned (OpenSpec.upto opsEncodesSpec)

/-- 'understudylaw06.OpsDecodes', WHERE WHAT IT READS IS OF BULK AT MOST 1048576: true; the input reads as it did. -/
def opsDecodesUptoRow : OpenClaim := { program := "ytcinmgifadmbeaa", sum := "011a8972dceb2617d3cdf97f7fa410fd6cbd3d2697165fcd50aa3c30034938e0", func := "understudy/understudylaw06.OpsDecodes", spec := "opsDecodes", apart := false, narrowed := true }
def OpsDecodesUptoSaid : Prop := opsDecodesUptoRow.holds Try.pinned (OpenSpec.upto opsDecodesSpec)

/-- 'understudylaw06.OpsSizes', WHERE WHAT IT READS IS OF BULK AT MOST 1048576: true; the input reads as it did. -/
def opsSizesUptoRow : OpenClaim := { program := "ytcinmgifadmbeaa", sum := "011a8972dceb2617d3cdf97f7fa410fd6cbd3d2697165fcd50aa3c30034938e0", func := "understudy/understudylaw06.OpsSizes", spec := "opsSizes", apart := false, narrowed := true }
def OpsSizesUptoSaid : Prop := opsSizesUptoRow.holds Try.pinned (OpenSpec.upto opsSizesSpec)

/-- 'understudylaw07.FlowLists', WHERE WHAT IT READS IS OF BULK AT MOST 1048576: true; the input reads as it did. -/
def flowListsUptoRow : OpenClaim := { program := "ytcinmgifadmbeaa", sum := "011a8972dceb2617d3cdf97f7fa410fd6cbd3d2697165fcd50aa3c30034938e0", func := "understudy/understudylaw07.FlowLists", spec := "flowLists", unfollowed := true, recurses := true, apart := false, narrowed := true }
def FlowListsUptoSaid : Prop := flowListsUptoRow.holds Try.pinned (OpenSpec.upto flowListsSpec)

/-- 'understudylaw07.FlowJoins', WHERE WHAT IT READS IS OF BULK AT MOST 1048576: true; the input reads as it did. -/
def flowJoinsUptoRow : OpenClaim := { program := "ytcinmgifadmbeaa", sum := "011a8972dceb2617d3cdf97f7fa410fd6cbd3d2697165fcd50aa3c30034938e0", func := "understudy/understudylaw07.FlowJoins", spec := "flowJoins", unfollowed := true, recurses := true, apart := false, narrowed := true }
def FlowJoinsUptoSaid : Prop := flowJoinsUptoRow.holds Try.pinned (OpenSpec.upto flowJoinsSpec)

/-- 'understudylaw07.FlowRow', WHERE WHAT IT READS IS OF BULK AT MOST 1048576: true; the input reads as it did. -/
def flowRowUptoRow : OpenClaim := { program := "ytcinmgifadmbeaa", sum := "011a8972dceb2617d3cdf97f7fa410fd6cbd3d2697165fcd50aa3c30034938e0", func := "understudy/understudylaw07.FlowRow", spec := "flowRow", unfollowed := true, recurses := true, apart := false, narrowed := true }
def FlowRowUptoSaid : Prop := flowRowUptoRow.holds Try.pinned (OpenSpec.upto flowRowSpec)

/-- 'understudylaw06.OpsBack', WHERE WHAT IT READS IS OF BULK AT MOST 1048576: true; the input reads as it did. -/
def opsBackUptoRow : OpenClaim := { program := "ytcinmgifadmbeaa", sum := "011a8972dceb2617d3cdf97f7fa410fd6cbd3d2697165fcd50aa3c30034938e0", func := "understudy/understudylaw06.OpsBack", spec := "opsBack", apart := false, narrowed := true }
def OpsBackUptoSaid : Prop := opsBackUptoRow.holds Try.pinned (OpenSpec.upto opsBackSpec)

/-- 'understudylaw07.FlowChecks', WHERE WHAT IT READS IS OF BULK AT MOST 1048576: true; the input reads as it did. -/
def flowChecksUptoRow : OpenClaim := { program := "ytcinmgifadmbeaa", sum := "011a8972dceb2617d3cdf97f7fa410fd6cbd3d2697165fcd50aa3c30034938e0", func := "understudy/understudylaw07.FlowChecks", spec := "flowChecks", unfollowed := true, recurses := true, apart := false, narrowed := true }
def FlowChecksUptoSaid : Prop := flowChecksUptoRow.holds Try.pinned (OpenSpec.upto flowChecksSpec)

/-- 'understudylaw07.FlowRight', WHERE WHAT IT READS IS OF BULK AT MOST 1048576: true; the input reads as it did. -/
def flowRightUptoRow : OpenClaim := { program := "ytcinmgifadmbeaa", sum := "011a8972dceb2617d3cdf97f7fa410fd6cbd3d2697165fcd50aa3c30034938e0", func := "understudy/understudylaw07.FlowRight", spec := "flowRight", unfollowed := true, recurses := true, apart := false, narrowed := true }
def FlowRightUptoSaid : Prop := flowRightUptoRow.holds Try.pinned (OpenSpec.upto flowRightSpec)

end Rows
end Go.Proofs.Ytcinmgifadmbeaa
