/- The table of codes, read off the program's own table; no condition. -/
import Derived.Test.YtacnlbbponiamaaRows
import Derived.Test.YtacnlbbponiamaaMem
import Derived.Lib.Hide
import Derived.WalkKit
import Derived.Outline
import Derived.WalkSpells
import Derived.WalkLawsBesides
namespace Go.Proofs.Ytacnlbbponiamaa
open Go.RowKit
set_option linter.unusedVariables false

/-- A row of operations that only make values, run at once. -/
def runVals (P : Program) : List Oper → Act → World → Option (Act × World)
  | [], a, w => some (a, w)
  | o :: rest, a, w =>
    match o.guard with
    | some _ => none
    | none =>
      match (execOp a.eval o).run P w with
      | .ok (.value v) w' => runVals P rest (a.put o.dst v) w'
      | _ => none

theorem wpList_vals {P : Program} {ops : Array Oper} {Q : Exit → Act → World → Prop} {rest : List Oper} {a' : Act} {w' : World} :
    ∀ (l : List Oper) {a : Act} {w : World}, runVals P l a w = some (a', w') → wpList P ops Q rest a' w' → wpList P ops Q (l ++ rest) a w := by
  intro l
  induction l with
  | nil => intro a w h hr; simp only [runVals, Option.some.injEq, Prod.mk.injEq] at h; obtain ⟨rfl, rfl⟩ := h; exact hr
  | cons o l ih =>
    intro a w h hr
    unfold runVals at h
    split at h
    · cases h
    · rename_i hg
      split at h
      · rename_i v w1 hx
        refine wpList_plain hg fun K hK => ?_
        unfold Oper.wp
        rw [hx, Oper.upon_value]
        exact hK _ _ (ih h hr)
      · cases h

theorem wp_region_vals {P : Program} {id : Nat} {ops : Array Oper} {Q : Exit → Act → World → Prop} {a : Act} {w : World} (n : Nat) (a' : Act) (w' : World)
    (h : runVals P (ops.toList.take n) a w = some (a', w')) (hr : wpList P ops Q (ops.toList.drop n) a' w') : (Code.region id ops false).wp P Q a w := by
  refine wp_region_list ?_
  have := wpList_vals (ops := ops) (Q := Q) _ h hr
  rwa [List.take_append_drop] at this

def opsOf : Code → List (Array Oper)
  | .region _ ops _ => [ops]
  | .seq a b => opsOf a ++ opsOf b
  | _ => []

noncomputable def tabBody : Code := match Try.f30.body with | some c => c | none => .skip
noncomputable def tabOps : Array Oper := (opsOf tabBody).getD 1 #[]
def partOf (o : Oper) : ByteArray × Int := match o.op with
  | .build _ parts => (match parts.toList with
    | [(_, .const (.string s)), (_, .const (.int _ h))] => (s, h)
    | _ => (.empty, 0))
  | _ => (.empty, 0)
def rowsOf (l : List Oper) : List (Nat × Operand) → List (Int × ByteArray × Int)
  | [] => []
  | (k, .tmp t) :: r => (match l.drop (t - 1) with | o :: _ => ((k : Int), partOf o) :: rowsOf l r | [] => rowsOf l r)
  | _ :: r => rowsOf l r
noncomputable def codeRows : List (Int × ByteArray × Int) := match tabOps.toList.drop 120 with
  | o :: _ => (match o.op with | .build _ parts => rowsOf tabOps.toList (parts.toList.map fun p => (p.1, p.2)) | _ => [])
  | [] => []
noncomputable def rowOf (k : Int) : Option (Int × ByteArray × Int) := codeRows.find? (·.1 == k)
noncomputable def nm (k : Int) : ByteArray := match rowOf k with | some r => r.2.1 | none => .empty
noncomputable def sh (k : Int) : Int := match rowOf k with | some r => r.2.2 | none => 0
noncomputable def tabCells : Array Value := ((List.range 200).flatMap fun k => [.string (nm k), .int .u8 (sh k)]).toArray

theorem codeRows_length : codeRows.length = 120 := by kernel_rfl
theorem codeRows_in : (codeRows.all fun r => decide (0 ≤ r.1) && decide (r.1 < 200) && decide (0 ≤ r.2.2) && decide (r.2.2 < 256) && decide (r.2.1.data.toList.length < 100) && (r.2.1.data.toList.length != 0)) = true := by kernel_rfl

