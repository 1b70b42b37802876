/- The table of codes: what ops.table, ops.of, ops.Shape, ops.Name and the reference's codes, Shape, Name answer. -/
import Derived.Test.YtcinmgifadmbeaaRows
import Derived.Test.YtcinmgifadmbeaaMem
import Derived.Lib.Hide
import Derived.WalkKit
import Derived.Outline
import Derived.WalkSpells
import Derived.WalkLawsBesides
namespace Go.Proofs.Ytcinmgifadmbeaa
open Go.RowKit
set_option linter.unusedVariables false

/-- A row of operations that only make values, run at once. -/
def runVals (P : Program) : List Oper → Act → World → Option (Act × World)
  | [], a, w => some (a, w)
  | o :: rest, a, w =>
    match o.guard with
    | some _ => none
    | none =>
      match (execOp a.eval o).run P w with
      | .ok (.value v) w' => runVals P rest (a.put o.dst v) w'
      | _ => none

theorem wpList_vals {P : Program} {ops : Array Oper} {Q : Exit → Act → World → Prop} {rest : List Oper} {a' : Act} {w' : World} :
    ∀ (l : List Oper) {a : Act} {w : World}, runVals P l a w = some (a', w') → wpList P ops Q rest a' w' → wpList P ops Q (l ++ rest) a w := by
  intro l
  induction l with
  | nil => intro a w h hr; simp only [runVals, Option.some.injEq, Prod.mk.injEq] at h; obtain ⟨rfl, rfl⟩ := h; exact hr
  | cons o l ih =>
    intro a w h hr
    unfold runVals at h
    split at h
    · cases h
    · rename_i hg
      split at h
      · rename_i v w1 hx
        refine wpList_plain hg fun K hK => ?_
        unfold Oper.wp
        rw [hx, Oper.upon_value]
        exact hK _ _ (ih h hr)
      · cases h

theorem wp_region_vals {P : Program} {id : Nat} {ops : Array Oper} {Q : Exit → Act → World → Prop} {a : Act} {w : World} (n : Nat) (a' : Act) (w' : World)
    (h : runVals P (ops.toList.take n) a w = some (a', w')) (hr : wpList P ops Q (ops.toList.drop n) a' w') : (Code.region id ops false).wp P Q a w := by
  refine wp_region_list ?_
  have := wpList_vals (ops := ops) (Q := Q) _ h hr
  rwa [List.take_append_drop] at this

def opsOf : Code → List (Array Oper)
  | .region _ ops _ => [ops]
  | .seq a b => opsOf a ++ opsOf b
  | _ => []

noncomputable def codeOps : Array Oper := match Try.f36.body with | some c => (opsOf c).getD 1 #[] | none => #[]
noncomputable def codeRows : List (Int × ByteArray × Int) := codeOps.toList.filterMap fun o => match o.op with
  | .build _ parts => (match parts.toList with
    | [(_, .const (.int _ k)), (_, .const (.string s)), (_, .const (.int _ h))] => some (k, s, h)
    | _ => none)
  | _ => none
noncomputable def codeCells : Array Value := (codeRows.flatMap fun r => [.int .i64 r.1, .string r.2.1, .int .u8 r.2.2]).toArray
noncomputable def rowOf (k : Int) : Option (Int × ByteArray × Int) := codeRows.find? (·.1 == k)
noncomputable def nm (k : Int) : ByteArray := match rowOf k with | some r => r.2.1 | none => .empty
noncomputable def sh (k : Int) : Int := match rowOf k with | some r => r.2.2 | none => 0
noncomputable def tabCells : Array Value := ((List.range 200).flatMap fun k => [.string (nm k), .int .u8 (sh k)]).toArray

theorem codeRows_length : codeRows.length = 120 := by kernel_rfl
theorem codeRows_in : (codeRows.all fun r => decide (0 ≤ r.1) && decide (r.1 < 200) && decide (0 ≤ r.2.2) && decide (r.2.2 < 256) && decide (r.2.1.data.toList.length < 100) && (r.2.1.data.toList.length != 0)) = true := by kernel_rfl


/-- A piece of code that only makes values, run at once; true: it has returned. -/
def runCode (P : Program) : Code → Act → World → Option (Bool × Act × World)
  | .region _ ops false, a, w => match runVals P ops.toList a w with | some (a', w') => some (false, a', w') | none => none
  | .seq x y, a, w => match runCode P x a w with | some (false, a', w') => runCode P y a' w' | r => r
  | .ret, a, w => some (true, a, w)
  | .skip, a, w => some (false, a, w)
  | .cond c x y, a, w => match a.eval c with | .bool true => runCode P x a w | .bool false => runCode P y a w | _ => none
  | _, _, _ => none

theorem wp_runCode {P : Program} : ∀ (c : Code) {Q : Exit → Act → World → Prop} {a : Act} {w : World} {a' : Act} {w' : World} {b : Bool}, runCode P c a w = some (b, a', w') → Q (if b then .ret else .normal) a' w' → c.wp P Q a w := by
  intro c
  induction c with
  | region i ops d =>
    intro Q a w a' w' b h hq
    cases d with
    | true => simp only [runCode, reduceCtorEq] at h
    | false =>
      simp only [runCode] at h
      split at h
      · rename_i a1 w1 hx
        simp only [Option.some.injEq, Prod.mk.injEq] at h
        obtain ⟨rfl, rfl, rfl⟩ := h
        refine wp_region_list ?_
        have := wpList_vals (ops := ops) (Q := Q) (rest := []) _ hx hq
        rwa [List.append_nil] at this
      · cases h
  | seq x y ihx ihy =>
    intro Q a w a' w' b h hq
    simp only [runCode] at h
    split at h
    · rename_i a1 w1 hx
      exact wp_seq (ihx hx (ihy h hq))
    · rename_i hne
      cases b with
      | true => exact wp_seq (ihx h hq)
      | false => exact absurd h (hne _ _)
  | ret => intro Q a w a' w' b h hq; simp only [runCode, Option.some.injEq, Prod.mk.injEq] at h; obtain ⟨rfl, rfl, rfl⟩ := h; exact wp_ret hq
  | skip => intro Q a w a' w' b h hq; simp only [runCode, Option.some.injEq, Prod.mk.injEq] at h; obtain ⟨rfl, rfl, rfl⟩ := h; exact wp_skip hq
  | cond t x y ihx ihy =>
    intro Q a w a' w' b h hq
    simp only [runCode] at h
    split at h
    · rename_i ht; exact wp_cond_true ht (ihx h hq)
    · rename_i ht; exact wp_cond_false ht (ihy h hq)
    · cases h
  | _ => intro Q a w a' w' b h hq; simp only [runCode, reduceCtorEq] at h

/-- A call whose code only makes values. -/
def runCall (P : Program) (fn : Func) (args : Array Value) (w : World) : Option (Value × World) :=
  match fn.body with
  | none => none
  | some c => match runCode P c ⟨args ++ Array.replicate (fn.ntmps - args.size) undef, []⟩ w with
    | some (_, ⟨t, []⟩, w') => (match (results fn t).run P w' with | .ok v w2 => some (v, w2) | _ => none)
    | _ => none

/-- A call's ending as a run gives it, if the world is as it was at the results. -/
theorem calls_of_run {P : Program} {f : FuncId} {fn : Func} {c : Code} {args : Array Value} {w : World} {b : Bool} {t : Array Value} {w' : World} {v : Value}
    (hf : P.funcs[f]? = some fn) (hb : fn.body = some c) (h : runCode P c ⟨args ++ Array.replicate (fn.ntmps - args.size) undef, []⟩ w = some (b, ⟨t, []⟩, w'))
    (hr : (results fn t).run P w' = .ok v w') : Calls P f args w fun e w2 => e = .returned v ∧ w2 = w' := by
  refine calls_of_wp hf hb (wp_runCode c h ?_)
  cases b <;> exact ⟨rfl, v, hr, rfl, rfl⟩

noncomputable def codeBody : Code := match Try.f36.body with | some c => c | none => .skip
noncomputable def codeFinal (w : World) : Array Value := match runCode Try.prog codeBody ⟨Array.replicate 122 undef, []⟩ w with | some (_, a, _) => a.tmps | none => #[]

theorem codes_any (w : World) :
    Calls Try.prog 36 #[] w fun e w' => e = .returned (.slice (some ⟨w.heap.size, 0, none⟩) 120 120) ∧ w' = w.alloc (.cells codeCells 70) :=
  calls_of_run (b := true) (c := codeBody) (t := codeFinal w) Try.func36 (by kernel_rfl) (by kernel_rfl) (by kernel_rfl)
