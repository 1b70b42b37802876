/-
  No cell of these rows narrows 'for every input' (looked for: loops, veiled, ifaces, maps, wideKeys, modest, calm, conditions, laid).
  DERIVED. THE GIVEN ROWS OF THIS SEAT. 9 by the template 'for every input the law returns true; each argument reads behind the call as it read before'; 0 by the template 'total and deterministic' (their statements: YtpfgdgelnehjpaaTotals.lean).
  GIVEN WITH THE SEED: the statements are not yours to turn. If you find one false, say at which input.
  Laid BY PROGRAM, IN A SANDBOX (cutbox-rows.mjs): the forced cells as the released guide's own fill.sh prints them over the translation d611c50a426b2efb… (all of the seat's roots in one cut). By AI agents, Wed Nov 11 2026. No macro, syntax, notation, axiom, sorry.
-/
import Derived.Test.YtpfgdgelnehjpaaChecked
import GoSem.Claim
import GoSem.ClaimJoined
import GoSem.ClaimMapViews
import Derived.JoinedTies
import Derived.KernelRfl
namespace Go.Proofs.Ytpfgdgelnehjpaa
/- THE CELL 'sum', in the pinned program and in every row, IS THE sha256 OF THE DUMP (.gsa) THAT YtpfgdgelnehjpaaProg.lean LOADS. Nothing in Lean hashes anything: it is a label: what it is worth is what the hold of that sum in a sandbox is worth. -/
noncomputable def Try.pinned : Pinned := { name := "ytpfgdgelnehjpaa", sum := "d611c50a426b2efbb50e368085031fbc22a19f3b576a08ea8bab1e694da78862", checked := Try.checked }
namespace Rows
def none {H : Type} : Left H := { results := [], args := [] }

/-- 'understudylaw14.HeapFull': WHATEVER THE INPUT: true; the input reads as it did. -/
def heapFullSpec : ChangeSpec := { name := "heapFull", fn := fun _ => fun
  | [d1, d2] => { results := [.lit (.bool true)], args := [d1, d2] }
  | _ => none }
def heapFullRow : OpenClaim := { program := "ytpfgdgelnehjpaa", sum := "d611c50a426b2efbb50e368085031fbc22a19f3b576a08ea8bab1e694da78862", func := "understudy/understudylaw14.HeapFull", spec := "heapFull", unfollowed := true, recurses := true, apart := false }
def HeapFullSaid : Prop := heapFullRow.holds Try.pinned (OpenSpec.ofChange heapFullSpec)

/-- ITS FALSE NEIGHBOUR: 'it returns false'. Refute it at one input. -/
def heapFullWrong : ChangeSpec := { name := "heapFull", fn := fun _ => fun
  | [d1, d2] => { results := [.lit (.bool false)], args := [d1, d2] }
  | _ => none }
def HeapFullWrongFalsely : Prop := heapFullRow.holds Try.pinned (OpenSpec.ofChange heapFullWrong)

/-- 'understudylaw15.LockRow': WHATEVER THE INPUT: true; the input reads as it did. -/
def lockRowSpec : ChangeSpec := { name := "lockRow", fn := fun _ => fun
  | [d1, d2] => { results := [.lit (.bool true)], args := [d1, d2] }
  | _ => none }
def lockRowRow : OpenClaim := { program := "ytpfgdgelnehjpaa", sum := "d611c50a426b2efbb50e368085031fbc22a19f3b576a08ea8bab1e694da78862", func := "understudy/understudylaw15.LockRow", spec := "lockRow", unfollowed := true, recurses := true, apart := false }
def LockRowSaid : Prop := lockRowRow.holds Try.pinned (OpenSpec.ofChange lockRowSpec)

/-- ITS FALSE NEIGHBOUR: 'it returns false'. Refute it at one input. -/
def lockRowWrong : ChangeSpec := { name := "lockRow", fn := fun _ => fun
  | [d1, d2] => { results := [.lit (.bool false)], args := [d1, d2] }
  | _ => none }
def LockRowWrongFalsely : Prop := lockRowRow.holds Try.pinned (OpenSpec.ofChange lockRowWrong)

/-- 'understudylaw14.HeapSets': WHATEVER THE INPUT: true; the input reads as it did. -/
def heapSetsSpec : ChangeSpec := { name := "heapSets", fn := fun _ => fun
  | [d1, d2, d3, d4] => { results := [.lit (.bool true)], args := [d1, d2, d3, d4] }
  | _ => none }
def heapSetsRow : OpenClaim := { program := "ytpfgdgelnehjpaa", sum := "d611c50a426b2efbb50e368085031fbc22a19f3b576a08ea8bab1e694da78862", func := "understudy/understudylaw14.HeapSets", spec := "heapSets", unfollowed := true, recurses := true, apart := false }
def HeapSetsSaid : Prop := heapSetsRow.holds Try.pinned (OpenSpec.ofChange heapSetsSpec)

/-- ITS FALSE NEIGHBOUR: 'it returns false'. Refute it at one input. -/
def heapSetsWrong : ChangeSpec := { name := "heapSets", fn := fun _ => fun
  | [d1, d2, d3, d4] => { results := [.lit (.bool false)], args := [d1, d2, d3, d4] }
  | _ => none }
def HeapSetsWrongFalsely : Prop := heapSetsRow.holds Try.pinned (OpenSpec.ofChange heapSetsWrong)

/-- 'understudylaw14.HeapPlays': WHATEVER THE INPUT: true; the input reads as it did. -/
def heapPlaysSpec : ChangeSpec := { name := "heapPlays", fn := fun _ => fun
  | [d1, d2] => { results := [.lit (.bool true)], args := [d1, d2] }
  | _ => none }
def heapPlaysRow : OpenClaim := { program := "ytpfgdgelnehjpaa", sum := "d611c50a426b2efbb50e368085031fbc22a19f3b576a08ea8bab1e694da78862", func := "understudy/understudylaw14.HeapPlays", spec := "heapPlays", unfollowed := true, recurses := true, apart := false }
def HeapPlaysSaid : Prop := heapPlaysRow.holds Try.pinned (OpenSpec.ofChange heapPlaysSpec)

/-- ITS FALSE NEIGHBOUR: 'it returns false'. Refute it at one input. -/
def heapPlaysWrong : ChangeSpec := { name := "heapPlays", fn := fun _ => fun
  | [d1, d2] => { results := [.lit (.bool false)], args := [d1, d2] }
  | _ => none }
def HeapPlaysWrongFalsely : Prop := heapPlaysRow.holds Try.pinned (OpenSpec.ofChange heapPlaysWrong)

/-- 'understudylaw15.LockOne': WHATEVER THE INPUT: true; the input reads as it did. -/
def lockOneSpec : ChangeSpec := { name := "lockOne", fn := fun _ => fun
  | [d1, d2, d3, d4] => { results := [.lit (.bool true)], args := [d1, d2, d3, d4] }
  | _ => none }
def lockOneRow : OpenClaim := { program := "ytpfgdgelnehjpaa", sum := "d611c50a426b2efbb50e368085031fbc22a19f3b576a08ea8bab1e694da78862", func := "understudy/understudylaw15.LockOne", spec := "lockOne", unfollowed := true, recurses := true, apart := false }
def LockOneSaid : Prop := lockOneRow.holds Try.pinned (OpenSpec.ofChange lockOneSpec)

/-- ITS FALSE NEIGHBOUR: 'it returns false'. Refute it at one input. -/
def lockOneWrong : ChangeSpec := { name := "lockOne", fn := fun _ => fun
  | [d1, d2, d3, d4] => { results := [.lit (.bool false)], args := [d1, d2, d3, d4] }
  | _ => none }
def LockOneWrongFalsely : Prop := lockOneRow.holds Try.pinned (OpenSpec.ofChange lockOneWrong)

/-- 'understudylaw15.LockBack': WHATEVER THE INPUT: true; the input reads as it did. -/
def lockBackSpec : ChangeSpec := { name := "lockBack", fn := fun _ => fun
  | [d1, d2] => { results := [.lit (.bool true)], args := [d1, d2] }
  | _ => none }
def lockBackRow : OpenClaim := { program := "ytpfgdgelnehjpaa", sum := "d611c50a426b2efbb50e368085031fbc22a19f3b576a08ea8bab1e694da78862", func := "understudy/understudylaw15.LockBack", spec := "lockBack", unfollowed := true, recurses := true, apart := false }
def LockBackSaid : Prop := lockBackRow.holds Try.pinned (OpenSpec.ofChange lockBackSpec)

/-- ITS FALSE NEIGHBOUR: 'it returns false'. Refute it at one input. -/
def lockBackWrong : ChangeSpec := { name := "lockBack", fn := fun _ => fun
  | [d1, d2] => { results := [.lit (.bool false)], args := [d1, d2] }
  | _ => none }
def LockBackWrongFalsely : Prop := lockBackRow.holds Try.pinned (OpenSpec.ofChange lockBackWrong)

/-- 'understudylaw14.HeapZero': WHATEVER THE INPUT: true; the input reads as it did. -/
def heapZeroSpec : ChangeSpec := { name := "heapZero", fn := fun _ => fun
  | [d1, d2, d3] => { results := [.lit (.bool true)], args := [d1, d2, d3] }
  | _ => none }
def heapZeroRow : OpenClaim := { program := "ytpfgdgelnehjpaa", sum := "d611c50a426b2efbb50e368085031fbc22a19f3b576a08ea8bab1e694da78862", func := "understudy/understudylaw14.HeapZero", spec := "heapZero", unfollowed := true, recurses := true, apart := false }
def HeapZeroSaid : Prop := heapZeroRow.holds Try.pinned (OpenSpec.ofChange heapZeroSpec)

/-- ITS FALSE NEIGHBOUR: 'it returns false'. Refute it at one input. -/
def heapZeroWrong : ChangeSpec := { name := "heapZero", fn := fun _ => fun
  | [d1, d2, d3] => { results := [.lit (.bool false)], args := [d1, d2, d3] }
  | _ => none }
def HeapZeroWrongFalsely : Prop := heapZeroRow.holds Try.pinned (OpenSpec.ofChange heapZeroWrong)

/-- 'understudylaw14.HeapCopies': WHATEVER THE INPUT: true; the input reads as it did. -/
def heapCopiesSpec : ChangeSpec := { name := "heapCopies", fn := fun _ => fun
  | [d1, d2] => { results := [.lit (.bool true)], args := [d1, d2] }
  | _ => none }
def heapCopiesRow : OpenClaim := { program := "ytpfgdgelnehjpaa", sum := "d611c50a426b2efbb50e368085031fbc22a19f3b576a08ea8bab1e694da78862", func := "understudy/understudylaw14.HeapCopies", spec := "heapCopies", unfollowed := true, recurses := true, apart := false }
def HeapCopiesSaid : Prop := heapCopiesRow.holds Try.pinned (OpenSpec.ofChange heapCopiesSpec)

/-- ITS FALSE NEIGHBOUR: 'it returns false'. Refute it at one input. -/
def heapCopiesWrong : ChangeSpec := { name := "heapCopies", fn := fun _ => fun
  | [d1, d2] => { results := [.lit (.bool false)], args := [d1, d2] }
  | _ => none }
def HeapCopiesWrongFalsely : Prop := heapCopiesRow.holds Try.pinned (OpenSpec.ofChange heapCopiesWrong)

/-- 'understudylaw15.LockZero': WHATEVER THE INPUT: true; the input reads as it did. -/
def lockZeroSpec : ChangeSpec := { name := "lockZero", fn := fun _ => fun
  | [d1, d2] => { results := [.lit (.bool true)], args := [d1, d2] }
  | _ => none }
def lockZeroRow : OpenClaim := { program := "ytpfgdgelnehjpaa", sum := "d611c50a426b2efbb50e368085031fbc22a19f3b576a08ea8bab1e694da78862", func := "understudy/understudylaw15.LockZero", spec := "lockZero", unfollowed := true, recurses := true, apart := false }
def LockZeroSaid : Prop := lockZeroRow.holds Try.pinned (OpenSpec.ofChange lockZeroSpec)

/-- ITS FALSE NEIGHBOUR: 'it returns false'. Refute it at one input. -/
def lockZeroWrong : ChangeSpec := { name := "lockZero", fn := fun _ => fun
  | [d1, d2] => { results := [.lit (.bool false)], args := [d1, d2] }
  | _ => none }
def LockZeroWrongFalsely : Prop := lockZeroRow.holds Try.pinned (OpenSpec.ofChange lockZeroWrong)

/- THE SECOND FORM. 'bulk': how many values and letters a reading holds, each counted each time it is reached (what is shared counts as often as it is met; a slice's spare places count too). A statement '..UptoSaid' is the law's where the arguments, and the package variables that the reading takes, are together of bulk at most 1048576: NARROWER than '..Said'. Prove '..Said' where nothing that the law and all that it calls make is longer than what came in: it says more and counts as full. Else prove '..UptoSaid'. A law counts once. -/
mutual
def uptoBulk {H : Type} : DataW H → Nat
  | .lit (.string bytes) => bytes.length + 1
  | .lit _ => 1
  | .nil => 1
  | .ptr d => uptoBulk d + 1
  | .slice elems spare => uptoBulkAll elems + uptoBulkAll spare + 1
  | .agg parts => uptoBulkAll parts + 1
  | .iface _ d => uptoBulk d + 1
  | .map entries => uptoBulkEntries entries + 1
  | .held _ => 1
def uptoBulkAll {H : Type} : List (DataW H) → Nat
  | [] => 0
  | d :: r => uptoBulk d + uptoBulkAll r
def uptoBulkEntries {H : Type} : List (Lit × DataW H) → Nat
  | [] => 0
  | x :: r => uptoBulkEntry x + uptoBulkEntries r
def uptoBulkEntry {H : Type} : Lit × DataW H → Nat
  | (.string bytes, d) => bytes.length + uptoBulk d + 1
  | (_, d) => uptoBulk d + 1
 end
def uptoSmall : (H : Type) → List (DataW H) → Bool := fun _ ds => decide (uptoBulkAll ds ≤ 1048576)
def OpenSpec.upto (s : _root_.Go.ChangeSpec) : _root_.Go.OpenSpec := { _root_.Go.OpenSpec.ofChange s with cond := some uptoSmall }

/-- 'understudylaw14.HeapFull', WHERE WHAT IT READS IS OF BULK AT MOST 1048576: true; the input reads as it did. -/
def heapFullUptoRow : OpenClaim := { program := "ytpfgdgelnehjpaa", sum := "d611c50a426b2efbb50e368085031fbc22a19f3b576a08ea8bab1e694da78862", func := "understudy/understudylaw14.HeapFull", spec := "heapFull", unfollowed := true, recurses := true, apart := false, narrowed := true }
def HeapFullUptoSaid : Prop := heapFullUptoRow.holds Try.pinned (OpenSpec.upto heapFullSpec)

/-- 'understudylaw15.LockRow', WHERE WHAT IT READS IS OF BULK AT MOST 1048576: true; the input reads as it did. -/
def lockRowUptoRow : OpenClaim := { program := "ytpfgdgelnehjpaa", sum := "d611c50a426b2efbb50e368085031fbc22a19f3b576a08ea8bab1e694da78862", func := "understudy/understudylaw15.LockRow", spec := "lockRow", unfollowed := true, recurses := true, apart := false, narrowed := true }
def LockRowUptoSaid : Prop := lockRowUptoRow.holds Try.pinned (OpenSpec.upto lockRowSpec)

/-- 'understudylaw14.HeapSets', WHERE WHAT IT READS IS OF BULK AT MOST 1048576: true; the input reads as it did. -/
def heapSetsUptoRow : OpenClaim := { program := "ytpfgdgelnehjpaa", sum := "d611c50a426b2efbb50e368085031fbc22a19f3b576a08ea8bab1e694da78862", func := "understudy/understudylaw14.HeapSets", spec := "heapSets", unfollowed := true, recurses := true, apart := false, narrowed := true }
def HeapSetsUptoSaid : Prop := heapSetsUptoRow.holds Try.pinned (OpenSpec.upto heapSetsSpec)

/-- 'understudylaw14.HeapPlays', WHERE WHAT IT READS IS OF BULK AT MOST 1048576: true; the input reads as it did. -/
def heapPlaysUptoRow : OpenClaim := { program := "ytpfgdgelnehjpaa", sum := "d611c50a426b2efbb50e368085031fbc22a19f3b576a08ea8bab1e694da78862", func := "understudy/understudylaw14.HeapPlays", spec := "heapPlays", unfollowed := true, recurses := true, apart := false, narrowed := true }
def HeapPlaysUptoSaid : Prop := heapPlaysUptoRow.holds Try.pinned (OpenSpec.upto heapPlaysSpec)

/-- 'understudylaw15.LockOne', WHERE WHAT IT READS IS OF BULK AT MOST 1048576: true; the input reads as it did. -/
def lockOneUptoRow : OpenClaim := { program := "ytpfgdgelnehjpaa", sum := "d611c50a426b2efbb50e368085031fbc22a19f3b576a08ea8bab1e694da78862", func := "understudy/understudylaw15.LockOne", spec := "lockOne", unfollowed := true, recurses := true, apart := false, narrowed := true }
def LockOneUptoSaid : Prop := lockOneUptoRow.holds Try.pinned (OpenSpec.upto lockOneSpec)

/-- 'understudylaw15.LockBack', WHERE WHAT IT READS IS OF BULK AT MOST 1048576: true; the input reads as it did. -/
def lockBackUptoRow : OpenClaim := { program := "ytpfgdgelnehjpaa", sum := "d611c50a426b2efbb50e368085031fbc22a19f3b576a08ea8bab1e694da78862", func := "understudy/understudylaw15.LockBack", spec := "lockBack", unfollowed := true, recurses := true, apart := false, narrowed := true }
def LockBackUptoSaid : Prop := lockBackUptoRow.holds Try.pinned (OpenSpec.upto lockBackSpec)

/-- 'understudylaw14.HeapZero', WHERE WHAT IT READS IS OF BULK AT MOST 1048576: true; the input reads as it did. -/
def heapZeroUptoRow : OpenClaim := { program := "ytpfgdgelnehjpaa", sum := "d611c50a426b2efbb50e368085031fbc22a19f3b576a08ea8bab1e694da78862", func := "understudy/understudylaw14.HeapZero", spec := "heapZero", unfollowed := true, recurses := true, apart := false, narrowed := true }
def HeapZeroUptoSaid : Prop := heapZeroUptoRow.holds Try.pinned (OpenSpec.upto heapZeroSpec)

/-- 'understudylaw14.HeapCopies', WHERE WHAT IT READS IS OF BULK AT MOST 1048576: true; the input reads as it did. -/
def heapCopiesUptoRow : OpenClaim := { program := "ytpfgdgelnehjpaa", sum := "d611c50a426b2efbb50e368085031fbc22a19f3b576a08ea8bab1e694da78862", func := "understudy/understudylaw14.HeapCopies", spec := "heapCopies", unfollowed := true, recurses := true, apart := false, narrowed := true }
def HeapCopiesUptoSaid : Prop := heapCopiesUptoRow.holds Try.pinned (OpenSpec.upto heapCopiesSpec)

/-- 'understudylaw15.LockZero', WHERE WHAT IT READS IS OF BULK AT MOST 1048576: true; the input reads as it did. -/
def lockZeroUptoRow : OpenClaim := { program := "ytpfgdgelnehjpaa", sum := "d611c50a426b2efbb50e368085031fbc22a19f3b576a08ea8bab1e694da78862", func := "understudy/understudylaw15.LockZero", spec := "lockZero", unfollowed := true, recurses := true, apart := false, narrowed := true }
def LockZeroUptoSaid : Prop := lockZeroUptoRow.holds Try.pinned (OpenSpec.upto lockZeroSpec)

end Rows
end Go.Proofs.Ytpfgdgelnehjpaa
