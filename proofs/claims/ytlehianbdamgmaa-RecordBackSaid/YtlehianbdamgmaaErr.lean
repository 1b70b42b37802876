/- errors.Is over a frame's flaw and the program's numbers. -/
import Derived.Test.YtlehianbdamgmaaRows
import Derived.Test.YtlehianbdamgmaaChecked
import Derived.WalkKit
import Derived.LaidEql
import Derived.Stop.Asserts
import Derived.RowKitTokens
import Derived.Lib.IfaceEq
import Derived.Below
import Derived.Lib.Hide
namespace Go.Proofs.Ytlehianbdamgmaa
open Go.RowKit Go.Extern.Stop Go.Stop Go.Extern
set_option linter.unusedVariables false

theorem eTypeOf (v : Value) (w : World) : (Extern.ReflectliteType.typeOf #[.iface 28 v]).run Try.prog w = .ok (.iface 145 (.agg #[.pointer (some ⟨0, 28, none⟩)])) w := by kernel_rfl
/-- What Comparable comes to. -/
noncomputable def cmpM : Array Value → Sem Value := Extern.ReflectliteType.method fun t => do Extern.Rtype.noPackHeld "Comparable" t; pure (.bool (← typeInfo t).comparable)
theorem eComparable (w : World) : (cmpM #[.agg #[.pointer (some ⟨0, 28, none⟩)]]).run Try.prog w = .ok (.bool true) w := by kernel_rfl
theorem eMethodC (v : Value) (w : World) : (Go.method 287 145 v "Comparable").run Try.prog w = .ok (107, v) w := by kernel_rfl
theorem eComp : (Try.prog.info? 28).map (·.comparable) = some true := by kernel_rfl
theorem noIsN (v : Value) (xT : TypeId) (w : World) : (Instr.typeAssert (.iface 28 v) xT 147 true).run Try.prog w = .ok (.tuple #[.nilIface, .bool false]) w := run_typeAssert_lacksB Try.underlying147 (by kernel_rfl) (by kernel_rfl) v xT w
theorem noUnN (v : Value) (xT : TypeId) (w : World) : (Instr.typeAssert (.iface 28 v) xT 150 true).run Try.prog w = .ok (.tuple #[.nilIface, .bool false]) w := run_typeAssert_lacksB Try.underlying150 (by kernel_rfl) (by kernel_rfl) v xT w
theorem noUsN (v : Value) (xT : TypeId) (w : World) : (Instr.typeAssert (.iface 28 v) xT 152 true).run Try.prog w = .ok (.tuple #[.nilIface, .bool false]) w := run_typeAssert_lacksB Try.underlying152 (by kernel_rfl) (by kernel_rfl) v xT w
/-- errors.is of a number. -/
theorem is_num (c t : Int) (w : World) : Calls Try.prog 82 #[.iface 28 (.int .i64 c), .iface 28 (.int .i64 t), .bool true] w fun e w' => e = .returned (.bool (c == t)) ∧ w' = w := by
  have heq := Lib.run_eql_iface_int (P := Try.prog) (k := .i64) w c t Try.underlying87 eComp Try.underlying28
  have n1 := noIsN
  have n2 := noUnN
  have n3 := noUsN
  cases hb : (c == t) with
  | true =>
    rw [hb] at heq
    go_enter Try.func82, Try.ntmps82
    go_wp2
    refine wp_loop_rounds 1 ?_
    rw [rounds_succ]
    go_wp2
    go_ret
    exact ⟨rfl, rfl⟩
  | false =>
    rw [hb] at heq
    go_enter Try.func82, Try.ntmps82
    go_wp2
    refine wp_loop_rounds 1 ?_
    rw [rounds_succ]
    go_wp2
    go_ret
    exact ⟨rfl, rfl⟩

/-- errors.Is of nil. -/
theorem errIs_nil (t : Int) (w : World) : Calls Try.prog 72 #[.nilIface, .iface 28 (.int .i64 t)] w fun e w' => e = .returned (.bool false) ∧ w' = w := by
  have hn := run_eql_iface_nil_left (P := Try.prog) w 28 (.int .i64 t) Try.underlying87
  go_enter Try.func72, Try.ntmps72
  go_wp2
  go_ret
  exact ⟨rfl, rfl⟩
end Go.Proofs.Ytlehianbdamgmaa
