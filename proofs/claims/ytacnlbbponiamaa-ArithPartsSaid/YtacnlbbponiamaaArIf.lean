/- Branches, how two numbers compare, the lowest bits: the layer arith and its reference; no condition but that numbers are of their kinds. -/
import Derived.Test.YtacnlbbponiamaaArRef
namespace Go.Proofs.Ytacnlbbponiamaa
open Go.RowKit
set_option linter.unusedVariables false

def fV (op a b : Int) : Bool := if op = 153 then (a == 0) else if op = 154 then (!(a == 0)) else if op = 155 then (decide (a < 0)) else if op = 156 then (!decide (a < 0)) else if op = 157 then (decide (0 < a)) else if op = 158 then (!decide (0 < a)) else if op = 159 then (a == b) else if op = 160 then (!(a == b)) else if op = 161 then (decide (a < b)) else if op = 162 then (!decide (a < b)) else if op = 163 then (decide (b < a)) else if op = 164 then (!decide (b < a)) else false
def fE (op : Int) : Int := if 153 ≤ op ∧ op < 165 then 0 else 60

set_option maxRecDepth 100000 in
theorem if_153 (a b : Int) (w : World) :
    Calls Try.prog 20 #[.int .i64 153, .int .i32 a, .int .i32 b] w fun e w' => e = .returned (.tuple #[.bool (a == 0), .int .i64 0]) ∧ w = w' := by
  have i0 : ∀ (x y z : Bool) w, (Instr.index 54 (.agg #[.bool x, .bool y, .bool z]) (.int .i64 0)).run Try.prog w = .ok (.bool x) w := fun _ _ _ _ => by kernel_rfl
  have i1 : ∀ (x y z : Bool) w, (Instr.index 54 (.agg #[.bool x, .bool y, .bool z]) (.int .i64 1)).run Try.prog w = .ok (.bool y) w := fun _ _ _ _ => by kernel_rfl
  have i2 : ∀ (x y z : Bool) w, (Instr.index 54 (.agg #[.bool x, .bool y, .bool z]) (.int .i64 2)).run Try.prog w = .ok (.bool z) w := fun _ _ _ _ => by kernel_rfl
  go_enter Try.func20, Try.ntmps20
  go_wp2_with fail
  go_ret2
  exact ⟨rfl, rfl⟩
set_option maxRecDepth 100000 in
theorem rif_153 (a b : Int) (w : World) :
    Calls Try.prog 22 #[.int .i64 153, .int .i32 a, .int .i32 b] w fun e w' => e = .returned (.tuple #[.bool (a == 0), .int .i64 0]) ∧ w = w' := by
  go_enter Try.func22, Try.ntmps22
  go_wp2_with fail
  go_ret2
  exact ⟨rfl, rfl⟩

set_option maxRecDepth 100000 in
theorem if_154 (a b : Int) (w : World) :
    Calls Try.prog 20 #[.int .i64 154, .int .i32 a, .int .i32 b] w fun e w' => e = .returned (.tuple #[.bool (!(a == 0)), .int .i64 0]) ∧ w = w' := by
  have i0 : ∀ (x y z : Bool) w, (Instr.index 54 (.agg #[.bool x, .bool y, .bool z]) (.int .i64 0)).run Try.prog w = .ok (.bool x) w := fun _ _ _ _ => by kernel_rfl
  have i1 : ∀ (x y z : Bool) w, (Instr.index 54 (.agg #[.bool x, .bool y, .bool z]) (.int .i64 1)).run Try.prog w = .ok (.bool y) w := fun _ _ _ _ => by kernel_rfl
  have i2 : ∀ (x y z : Bool) w, (Instr.index 54 (.agg #[.bool x, .bool y, .bool z]) (.int .i64 2)).run Try.prog w = .ok (.bool z) w := fun _ _ _ _ => by kernel_rfl
  go_enter Try.func20, Try.ntmps20
  go_wp2_with fail
  go_ret2
  exact ⟨rfl, rfl⟩
set_option maxRecDepth 100000 in
theorem rif_154 (a b : Int) (w : World) :
    Calls Try.prog 22 #[.int .i64 154, .int .i32 a, .int .i32 b] w fun e w' => e = .returned (.tuple #[.bool (a != 0), .int .i64 0]) ∧ w = w' := by
  go_enter Try.func22, Try.ntmps22
  go_wp2_with fail
  go_ret2
  exact ⟨rfl, rfl⟩

set_option maxRecDepth 100000 in
theorem if_155 (a b : Int) (w : World) :
    Calls Try.prog 20 #[.int .i64 155, .int .i32 a, .int .i32 b] w fun e w' => e = .returned (.tuple #[.bool (decide (a < 0)), .int .i64 0]) ∧ w = w' := by
  have i0 : ∀ (x y z : Bool) w, (Instr.index 54 (.agg #[.bool x, .bool y, .bool z]) (.int .i64 0)).run Try.prog w = .ok (.bool x) w := fun _ _ _ _ => by kernel_rfl
  have i1 : ∀ (x y z : Bool) w, (Instr.index 54 (.agg #[.bool x, .bool y, .bool z]) (.int .i64 1)).run Try.prog w = .ok (.bool y) w := fun _ _ _ _ => by kernel_rfl
  have i2 : ∀ (x y z : Bool) w, (Instr.index 54 (.agg #[.bool x, .bool y, .bool z]) (.int .i64 2)).run Try.prog w = .ok (.bool z) w := fun _ _ _ _ => by kernel_rfl
  go_enter Try.func20, Try.ntmps20
  go_wp2_with fail
  go_ret2
  exact ⟨rfl, rfl⟩
set_option maxRecDepth 100000 in
theorem rif_155 (a b : Int) (w : World) :
    Calls Try.prog 22 #[.int .i64 155, .int .i32 a, .int .i32 b] w fun e w' => e = .returned (.tuple #[.bool (decide (a < 0)), .int .i64 0]) ∧ w = w' := by
  go_enter Try.func22, Try.ntmps22
  go_wp2_with fail
  go_ret2
  exact ⟨rfl, rfl⟩

set_option maxRecDepth 100000 in
theorem if_156 (a b : Int) (w : World) :
    Calls Try.prog 20 #[.int .i64 156, .int .i32 a, .int .i32 b] w fun e w' => e = .returned (.tuple #[.bool (!decide (a < 0)), .int .i64 0]) ∧ w = w' := by
  have i0 : ∀ (x y z : Bool) w, (Instr.index 54 (.agg #[.bool x, .bool y, .bool z]) (.int .i64 0)).run Try.prog w = .ok (.bool x) w := fun _ _ _ _ => by kernel_rfl
  have i1 : ∀ (x y z : Bool) w, (Instr.index 54 (.agg #[.bool x, .bool y, .bool z]) (.int .i64 1)).run Try.prog w = .ok (.bool y) w := fun _ _ _ _ => by kernel_rfl
  have i2 : ∀ (x y z : Bool) w, (Instr.index 54 (.agg #[.bool x, .bool y, .bool z]) (.int .i64 2)).run Try.prog w = .ok (.bool z) w := fun _ _ _ _ => by kernel_rfl
  go_enter Try.func20, Try.ntmps20
  go_wp2_with fail
  go_ret2
  exact ⟨rfl, rfl⟩
set_option maxRecDepth 100000 in
theorem rif_156 (a b : Int) (w : World) :
    Calls Try.prog 22 #[.int .i64 156, .int .i32 a, .int .i32 b] w fun e w' => e = .returned (.tuple #[.bool (decide (0 ≤ a)), .int .i64 0]) ∧ w = w' := by
  go_enter Try.func22, Try.ntmps22
  go_wp2_with fail
  go_ret2
  exact ⟨rfl, rfl⟩

set_option maxRecDepth 100000 in
theorem if_157 (a b : Int) (w : World) :
    Calls Try.prog 20 #[.int .i64 157, .int .i32 a, .int .i32 b] w fun e w' => e = .returned (.tuple #[.bool (decide (0 < a)), .int .i64 0]) ∧ w = w' := by
  have i0 : ∀ (x y z : Bool) w, (Instr.index 54 (.agg #[.bool x, .bool y, .bool z]) (.int .i64 0)).run Try.prog w = .ok (.bool x) w := fun _ _ _ _ => by kernel_rfl
  have i1 : ∀ (x y z : Bool) w, (Instr.index 54 (.agg #[.bool x, .bool y, .bool z]) (.int .i64 1)).run Try.prog w = .ok (.bool y) w := fun _ _ _ _ => by kernel_rfl
  have i2 : ∀ (x y z : Bool) w, (Instr.index 54 (.agg #[.bool x, .bool y, .bool z]) (.int .i64 2)).run Try.prog w = .ok (.bool z) w := fun _ _ _ _ => by kernel_rfl
  go_enter Try.func20, Try.ntmps20
  go_wp2_with fail
  go_ret2
  exact ⟨rfl, rfl⟩
set_option maxRecDepth 100000 in
theorem rif_157 (a b : Int) (w : World) :
    Calls Try.prog 22 #[.int .i64 157, .int .i32 a, .int .i32 b] w fun e w' => e = .returned (.tuple #[.bool (decide (0 < a)), .int .i64 0]) ∧ w = w' := by
  go_enter Try.func22, Try.ntmps22
  go_wp2_with fail
  go_ret2
  exact ⟨rfl, rfl⟩

set_option maxRecDepth 100000 in
theorem if_158 (a b : Int) (w : World) :
    Calls Try.prog 20 #[.int .i64 158, .int .i32 a, .int .i32 b] w fun e w' => e = .returned (.tuple #[.bool (!decide (0 < a)), .int .i64 0]) ∧ w = w' := by
  have i0 : ∀ (x y z : Bool) w, (Instr.index 54 (.agg #[.bool x, .bool y, .bool z]) (.int .i64 0)).run Try.prog w = .ok (.bool x) w := fun _ _ _ _ => by kernel_rfl
  have i1 : ∀ (x y z : Bool) w, (Instr.index 54 (.agg #[.bool x, .bool y, .bool z]) (.int .i64 1)).run Try.prog w = .ok (.bool y) w := fun _ _ _ _ => by kernel_rfl
  have i2 : ∀ (x y z : Bool) w, (Instr.index 54 (.agg #[.bool x, .bool y, .bool z]) (.int .i64 2)).run Try.prog w = .ok (.bool z) w := fun _ _ _ _ => by kernel_rfl
  go_enter Try.func20, Try.ntmps20
  go_wp2_with fail
  go_ret2
  exact ⟨rfl, rfl⟩
set_option maxRecDepth 100000 in
theorem rif_158 (a b : Int) (w : World) :
    Calls Try.prog 22 #[.int .i64 158, .int .i32 a, .int .i32 b] w fun e w' => e = .returned (.tuple #[.bool (decide (a ≤ 0)), .int .i64 0]) ∧ w = w' := by
  go_enter Try.func22, Try.ntmps22
  go_wp2_with fail
  go_ret2
  exact ⟨rfl, rfl⟩

set_option maxRecDepth 100000 in
theorem if_159 (a b : Int) (w : World) :
    Calls Try.prog 20 #[.int .i64 159, .int .i32 a, .int .i32 b] w fun e w' => e = .returned (.tuple #[.bool (a == b), .int .i64 0]) ∧ w = w' := by
  have i0 : ∀ (x y z : Bool) w, (Instr.index 54 (.agg #[.bool x, .bool y, .bool z]) (.int .i64 0)).run Try.prog w = .ok (.bool x) w := fun _ _ _ _ => by kernel_rfl
  have i1 : ∀ (x y z : Bool) w, (Instr.index 54 (.agg #[.bool x, .bool y, .bool z]) (.int .i64 1)).run Try.prog w = .ok (.bool y) w := fun _ _ _ _ => by kernel_rfl
  have i2 : ∀ (x y z : Bool) w, (Instr.index 54 (.agg #[.bool x, .bool y, .bool z]) (.int .i64 2)).run Try.prog w = .ok (.bool z) w := fun _ _ _ _ => by kernel_rfl
  go_enter Try.func20, Try.ntmps20
  go_wp2_with fail
  go_ret2
  exact ⟨rfl, rfl⟩
set_option maxRecDepth 100000 in
theorem rif_159 (a b : Int) (w : World) :
    Calls Try.prog 22 #[.int .i64 159, .int .i32 a, .int .i32 b] w fun e w' => e = .returned (.tuple #[.bool (a == b), .int .i64 0]) ∧ w = w' := by
  go_enter Try.func22, Try.ntmps22
  go_wp2_with fail
  go_ret2
  exact ⟨rfl, rfl⟩

set_option maxRecDepth 100000 in
theorem if_160 (a b : Int) (w : World) :
    Calls Try.prog 20 #[.int .i64 160, .int .i32 a, .int .i32 b] w fun e w' => e = .returned (.tuple #[.bool (!(a == b)), .int .i64 0]) ∧ w = w' := by
  have i0 : ∀ (x y z : Bool) w, (Instr.index 54 (.agg #[.bool x, .bool y, .bool z]) (.int .i64 0)).run Try.prog w = .ok (.bool x) w := fun _ _ _ _ => by kernel_rfl
  have i1 : ∀ (x y z : Bool) w, (Instr.index 54 (.agg #[.bool x, .bool y, .bool z]) (.int .i64 1)).run Try.prog w = .ok (.bool y) w := fun _ _ _ _ => by kernel_rfl
  have i2 : ∀ (x y z : Bool) w, (Instr.index 54 (.agg #[.bool x, .bool y, .bool z]) (.int .i64 2)).run Try.prog w = .ok (.bool z) w := fun _ _ _ _ => by kernel_rfl
  go_enter Try.func20, Try.ntmps20
  go_wp2_with fail
  go_ret2
  exact ⟨rfl, rfl⟩
set_option maxRecDepth 100000 in
theorem rif_160 (a b : Int) (w : World) :
    Calls Try.prog 22 #[.int .i64 160, .int .i32 a, .int .i32 b] w fun e w' => e = .returned (.tuple #[.bool (a != b), .int .i64 0]) ∧ w = w' := by
  go_enter Try.func22, Try.ntmps22
  go_wp2_with fail
  go_ret2
  exact ⟨rfl, rfl⟩

set_option maxRecDepth 100000 in
theorem if_161 (a b : Int) (w : World) :
    Calls Try.prog 20 #[.int .i64 161, .int .i32 a, .int .i32 b] w fun e w' => e = .returned (.tuple #[.bool (decide (a < b)), .int .i64 0]) ∧ w = w' := by
  have i0 : ∀ (x y z : Bool) w, (Instr.index 54 (.agg #[.bool x, .bool y, .bool z]) (.int .i64 0)).run Try.prog w = .ok (.bool x) w := fun _ _ _ _ => by kernel_rfl
  have i1 : ∀ (x y z : Bool) w, (Instr.index 54 (.agg #[.bool x, .bool y, .bool z]) (.int .i64 1)).run Try.prog w = .ok (.bool y) w := fun _ _ _ _ => by kernel_rfl
  have i2 : ∀ (x y z : Bool) w, (Instr.index 54 (.agg #[.bool x, .bool y, .bool z]) (.int .i64 2)).run Try.prog w = .ok (.bool z) w := fun _ _ _ _ => by kernel_rfl
  go_enter Try.func20, Try.ntmps20
  go_wp2_with fail
  go_ret2
  exact ⟨rfl, rfl⟩
set_option maxRecDepth 100000 in
theorem rif_161 (a b : Int) (w : World) :
    Calls Try.prog 22 #[.int .i64 161, .int .i32 a, .int .i32 b] w fun e w' => e = .returned (.tuple #[.bool (decide (a < b)), .int .i64 0]) ∧ w = w' := by
  go_enter Try.func22, Try.ntmps22
  go_wp2_with fail
  go_ret2
  exact ⟨rfl, rfl⟩

set_option maxRecDepth 100000 in
theorem if_162 (a b : Int) (w : World) :
    Calls Try.prog 20 #[.int .i64 162, .int .i32 a, .int .i32 b] w fun e w' => e = .returned (.tuple #[.bool (!decide (a < b)), .int .i64 0]) ∧ w = w' := by
  have i0 : ∀ (x y z : Bool) w, (Instr.index 54 (.agg #[.bool x, .bool y, .bool z]) (.int .i64 0)).run Try.prog w = .ok (.bool x) w := fun _ _ _ _ => by kernel_rfl
  have i1 : ∀ (x y z : Bool) w, (Instr.index 54 (.agg #[.bool x, .bool y, .bool z]) (.int .i64 1)).run Try.prog w = .ok (.bool y) w := fun _ _ _ _ => by kernel_rfl
  have i2 : ∀ (x y z : Bool) w, (Instr.index 54 (.agg #[.bool x, .bool y, .bool z]) (.int .i64 2)).run Try.prog w = .ok (.bool z) w := fun _ _ _ _ => by kernel_rfl
  go_enter Try.func20, Try.ntmps20
  go_wp2_with fail
  go_ret2
  exact ⟨rfl, rfl⟩
set_option maxRecDepth 100000 in
theorem rif_162 (a b : Int) (w : World) :
    Calls Try.prog 22 #[.int .i64 162, .int .i32 a, .int .i32 b] w fun e w' => e = .returned (.tuple #[.bool (decide (b ≤ a)), .int .i64 0]) ∧ w = w' := by
  go_enter Try.func22, Try.ntmps22
  go_wp2_with fail
  go_ret2
  exact ⟨rfl, rfl⟩

set_option maxRecDepth 100000 in
theorem if_163 (a b : Int) (w : World) :
    Calls Try.prog 20 #[.int .i64 163, .int .i32 a, .int .i32 b] w fun e w' => e = .returned (.tuple #[.bool (decide (b < a)), .int .i64 0]) ∧ w = w' := by
  have i0 : ∀ (x y z : Bool) w, (Instr.index 54 (.agg #[.bool x, .bool y, .bool z]) (.int .i64 0)).run Try.prog w = .ok (.bool x) w := fun _ _ _ _ => by kernel_rfl
  have i1 : ∀ (x y z : Bool) w, (Instr.index 54 (.agg #[.bool x, .bool y, .bool z]) (.int .i64 1)).run Try.prog w = .ok (.bool y) w := fun _ _ _ _ => by kernel_rfl
  have i2 : ∀ (x y z : Bool) w, (Instr.index 54 (.agg #[.bool x, .bool y, .bool z]) (.int .i64 2)).run Try.prog w = .ok (.bool z) w := fun _ _ _ _ => by kernel_rfl
  go_enter Try.func20, Try.ntmps20
  go_wp2_with fail
  go_ret2
  exact ⟨rfl, rfl⟩
set_option maxRecDepth 100000 in
theorem rif_163 (a b : Int) (w : World) :
    Calls Try.prog 22 #[.int .i64 163, .int .i32 a, .int .i32 b] w fun e w' => e = .returned (.tuple #[.bool (decide (b < a)), .int .i64 0]) ∧ w = w' := by
  go_enter Try.func22, Try.ntmps22
  go_wp2_with fail
  go_ret2
  exact ⟨rfl, rfl⟩

set_option maxRecDepth 100000 in
theorem if_164 (a b : Int) (w : World) :
    Calls Try.prog 20 #[.int .i64 164, .int .i32 a, .int .i32 b] w fun e w' => e = .returned (.tuple #[.bool (!decide (b < a)), .int .i64 0]) ∧ w = w' := by
  have i0 : ∀ (x y z : Bool) w, (Instr.index 54 (.agg #[.bool x, .bool y, .bool z]) (.int .i64 0)).run Try.prog w = .ok (.bool x) w := fun _ _ _ _ => by kernel_rfl
  have i1 : ∀ (x y z : Bool) w, (Instr.index 54 (.agg #[.bool x, .bool y, .bool z]) (.int .i64 1)).run Try.prog w = .ok (.bool y) w := fun _ _ _ _ => by kernel_rfl
  have i2 : ∀ (x y z : Bool) w, (Instr.index 54 (.agg #[.bool x, .bool y, .bool z]) (.int .i64 2)).run Try.prog w = .ok (.bool z) w := fun _ _ _ _ => by kernel_rfl
  go_enter Try.func20, Try.ntmps20
  go_wp2_with fail
  go_ret2
  exact ⟨rfl, rfl⟩
set_option maxRecDepth 100000 in
theorem rif_164 (a b : Int) (w : World) :
    Calls Try.prog 22 #[.int .i64 164, .int .i32 a, .int .i32 b] w fun e w' => e = .returned (.tuple #[.bool (decide (a ≤ b)), .int .i64 0]) ∧ w = w' := by
  go_enter Try.func22, Try.ntmps22
  go_wp2_with fail
  go_ret2
  exact ⟨rfl, rfl⟩

set_option maxRecDepth 100000 in
theorem if_other (op a b : Int) (w : World) (h : ¬ (153 ≤ op ∧ op < 165)) :
    Calls Try.prog 20 #[.int .i64 op, .int .i32 a, .int .i32 b] w fun e w' => e = .returned (.tuple #[.bool false, .int .i64 60]) ∧ w = w' := by
  by_cases h1 : op < 153
  · have b1 : decide (153 ≤ op) = false := decide_eq_false (by omega)
    have b2 : decide (159 ≤ op) = false := decide_eq_false (by omega)
    clear h h1
    go_enter Try.func20, Try.ntmps20
    go_wp2_with fail
    go_ret2
    exact ⟨rfl, rfl⟩
  · have b1 : decide (153 ≤ op) = true := decide_eq_true (by omega)
    have b2 : decide (op < 159) = false := decide_eq_false (by omega)
    have b3 : decide (159 ≤ op) = true := decide_eq_true (by omega)
    have b4 : decide (op < 165) = false := decide_eq_false (by omega)
    clear h h1
    go_enter Try.func20, Try.ntmps20
    go_wp2_with fail
    go_ret2
    exact ⟨rfl, rfl⟩
set_option maxRecDepth 100000 in
theorem rif_other (op a b : Int) (w : World) (h : ¬ (153 ≤ op ∧ op < 165)) :
    Calls Try.prog 22 #[.int .i64 op, .int .i32 a, .int .i32 b] w fun e w' => e = .returned (.tuple #[.bool false, .int .i64 60]) ∧ w = w' := by
  have k159 : (op == 159) = false := beq_eq_false_iff_ne.2 (by omega)
  have k160 : (op == 160) = false := beq_eq_false_iff_ne.2 (by omega)
  have k161 : (op == 161) = false := beq_eq_false_iff_ne.2 (by omega)
  have k162 : (op == 162) = false := beq_eq_false_iff_ne.2 (by omega)
  have k163 : (op == 163) = false := beq_eq_false_iff_ne.2 (by omega)
  have k164 : (op == 164) = false := beq_eq_false_iff_ne.2 (by omega)
  by_cases h1 : op < 153
  · have b1 : decide (153 ≤ op) = false := decide_eq_false (by omega)
    clear h h1
    go_enter Try.func22, Try.ntmps22
    go_wp2_with fail
    go_ret2
    exact ⟨rfl, rfl⟩
  · have b1 : decide (153 ≤ op) = true := decide_eq_true (by omega)
    have b2 : decide (op ≤ 158) = false := decide_eq_false (by omega)
    clear h h1
    go_enter Try.func22, Try.ntmps22
    go_wp2_with fail
    go_ret2
    exact ⟨rfl, rfl⟩

theorem fV_no {op : Int} (a b : Int) (h : ¬ (153 ≤ op ∧ op < 165)) : fV op a b = false ∧ fE op = 60 := by
  unfold fV fE
  rw [if_neg h]
  refine ⟨?_, rfl⟩
  simp (disch := omega) only [if_neg]
theorem op_if {op : Int} (h : 153 ≤ op ∧ op < 165) : op = 153 ∨ op = 154 ∨ op = 155 ∨ op = 156 ∨ op = 157 ∨ op = 158 ∨ op = 159 ∨ op = 160 ∨ op = 161 ∨ op = 162 ∨ op = 163 ∨ op = 164 := by omega
/-- arith.If. -/
theorem if_any (op a b : Int) (w : World) : Calls Try.prog 20 #[.int .i64 op, .int .i32 a, .int .i32 b] w fun e w' => e = .returned (.tuple #[.bool (fV op a b), .int .i64 (fE op)]) ∧ w = w' := by
  by_cases h : 153 ≤ op ∧ op < 165
  · rcases op_if h with rfl | rfl | rfl | rfl | rfl | rfl | rfl | rfl | rfl | rfl | rfl | rfl
    · exact if_153 a b w
    · exact if_154 a b w
    · exact if_155 a b w
    · exact if_156 a b w
    · exact if_157 a b w
    · exact if_158 a b w
    · exact if_159 a b w
    · exact if_160 a b w
    · exact if_161 a b w
    · exact if_162 a b w
    · exact if_163 a b w
    · exact if_164 a b w
  · obtain ⟨e1, e2⟩ := fV_no a b h
    rw [e1, e2]; exact if_other op a b w h
theorem not_lt (a b : Int) : decide (b ≤ a) = !decide (a < b) := by rw [Bool.eq_iff_iff]; simp
/-- The reference's If. -/
theorem rif_any (op a b : Int) (w : World) : Calls Try.prog 22 #[.int .i64 op, .int .i32 a, .int .i32 b] w fun e w' => e = .returned (.tuple #[.bool (fV op a b), .int .i64 (fE op)]) ∧ w = w' := by
  by_cases h : 153 ≤ op ∧ op < 165
  · rcases op_if h with rfl | rfl | rfl | rfl | rfl | rfl | rfl | rfl | rfl | rfl | rfl | rfl
    · exact rif_153 a b w
    · exact rif_154 a b w
    · exact rif_155 a b w
    · have := rif_156 a b w; rw [not_lt] at this; exact this
    · exact rif_157 a b w
    · have := rif_158 a b w; rw [not_lt] at this; exact this
    · exact rif_159 a b w
    · exact rif_160 a b w
    · exact rif_161 a b w
    · have := rif_162 a b w; rw [not_lt] at this; exact this
    · exact rif_163 a b w
    · have := rif_164 a b w; rw [not_lt] at this; exact this
  · obtain ⟨e1, e2⟩ := fV_no a b h
    rw [e1, e2]; exact rif_other op a b w h

/-- How two numbers compare. -/
def cmpV (a b : Int) : Int := if a < b then -1 else if a = b then 0 else 1
set_option maxRecDepth 100000 in
theorem compare_any (a b : Int) (w : World) : Calls Try.prog 21 #[.int .i64 a, .int .i64 b] w fun e w' => e = .returned (.int .i32 (cmpV a b)) ∧ w = w' := by
  unfold cmpV
  by_cases h : a < b
  · rw [if_pos h]
    go_enter Try.func21, Try.ntmps21
    go_wp2_with fail
    go_ret
    exact ⟨rfl, rfl⟩
  · rw [if_neg h]
    have b1 : decide (a < b) = false := decide_eq_false h
    by_cases h2 : a = b
    · rw [if_pos h2]
      have b2 : (a == b) = true := beq_iff_eq.2 h2
      clear h2
      go_enter Try.func21, Try.ntmps21
      go_wp2_with fail
      go_ret
      exact ⟨rfl, rfl⟩
    · rw [if_neg h2]
      have b2 : (a == b) = false := beq_eq_false_iff_ne.2 h2
      clear h2
      go_enter Try.func21, Try.ntmps21
      go_wp2_with fail
      go_ret
      exact ⟨rfl, rfl⟩
set_option maxRecDepth 100000 in
theorem rcompare_any (a b : Int) (w : World) : Calls Try.prog 23 #[.int .i64 a, .int .i64 b] w fun e w' => e = .returned (.int .i32 (cmpV a b)) ∧ w = w' := by
  unfold cmpV
  by_cases h : a < b
  · rw [if_pos h]
    go_enter Try.func23, Try.ntmps23
    go_wp2_with fail
    go_ret
    exact ⟨rfl, rfl⟩
  · rw [if_neg h]
    have b1 : decide (a < b) = false := decide_eq_false h
    by_cases h2 : a = b
    · rw [if_pos h2]
      have b2 : decide (b < a) = false := decide_eq_false (by omega)
      clear h2
      go_enter Try.func23, Try.ntmps23
      go_wp2_with fail
      go_ret
      exact ⟨rfl, rfl⟩
    · rw [if_neg h2]
      have b2 : decide (b < a) = true := decide_eq_true (by omega)
      clear h2
      go_enter Try.func23, Try.ntmps23
      go_wp2_with fail
      go_ret
      exact ⟨rfl, rfl⟩
set_option maxRecDepth 100000 in
theorem narrow_any (a : Int) (w : World) : Calls Try.prog 17 #[.int .i64 a] w fun e w' => e = .returned (.int .i32 (wrap32 a)) ∧ w = w' := by
  go_enter Try.func17, Try.ntmps17
  go_wp2_with fail
  go_ret
  exact ⟨rfl, rfl⟩
set_option maxRecDepth 100000 in
theorem rnarrow_any (a : Int) (w : World) : Calls Try.prog 24 #[.int .i64 a] w fun e w' => e = .returned (.int .i32 (wrap32 a)) ∧ w = w' := by
  go_enter Try.func24, Try.ntmps24
  go_wp2_with fail
  go_ret
  exact ⟨rfl, rfl⟩
end Go.Proofs.Ytacnlbbponiamaa
