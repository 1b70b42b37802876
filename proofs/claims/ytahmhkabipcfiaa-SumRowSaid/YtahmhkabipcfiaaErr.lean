/- errors.Is over a frame's flaw and the program's numbers. -/
import Derived.Test.YtahmhkabipcfiaaRows
import Derived.Test.YtahmhkabipcfiaaChecked
import Derived.WalkKit
import Derived.LaidEql
import Derived.Stop.Asserts
import Derived.RowKitTokens
import Derived.Lib.IfaceEq
import Derived.Below
import Derived.Lib.Hide
namespace Go.Proofs.Ytahmhkabipcfiaa
open Go.RowKit Go.Extern.Stop Go.Stop Go.Extern
set_option linter.unusedVariables false

theorem eTypeOf (v : Value) (w : World) : (Extern.ReflectliteType.typeOf #[.iface 24 v]).run Try.prog w = .ok (.iface 93 (.agg #[.pointer (some ⟨0, 24, none⟩)])) w := by kernel_rfl
/-- What Comparable comes to. -/
noncomputable def cmpM : Array Value → Sem Value := Extern.ReflectliteType.method fun t => do Extern.Rtype.noPackHeld "Comparable" t; pure (.bool (← typeInfo t).comparable)
theorem eComparable (w : World) : (cmpM #[.agg #[.pointer (some ⟨0, 24, none⟩)]]).run Try.prog w = .ok (.bool true) w := by kernel_rfl
theorem eMethodC (v : Value) (w : World) : (Go.method 234 93 v "Comparable").run Try.prog w = .ok (65, v) w := by kernel_rfl
theorem eComp : (Try.prog.info? 24).map (·.comparable) = some true := by kernel_rfl
theorem noIsN (v : Value) (xT : TypeId) (w : World) : (Instr.typeAssert (.iface 24 v) xT 95 true).run Try.prog w = .ok (.tuple #[.nilIface, .bool false]) w := run_typeAssert_lacksB Try.underlying95 (by kernel_rfl) (by kernel_rfl) v xT w
theorem noUnN (v : Value) (xT : TypeId) (w : World) : (Instr.typeAssert (.iface 24 v) xT 98 true).run Try.prog w = .ok (.tuple #[.nilIface, .bool false]) w := run_typeAssert_lacksB Try.underlying98 (by kernel_rfl) (by kernel_rfl) v xT w
theorem noUsN (v : Value) (xT : TypeId) (w : World) : (Instr.typeAssert (.iface 24 v) xT 100 true).run Try.prog w = .ok (.tuple #[.nilIface, .bool false]) w := run_typeAssert_lacksB Try.underlying100 (by kernel_rfl) (by kernel_rfl) v xT w
theorem noIsF (v : Value) (xT : TypeId) (w : World) : (Instr.typeAssert (.iface 86 v) xT 95 true).run Try.prog w = .ok (.tuple #[.nilIface, .bool false]) w := run_typeAssert_lacksB Try.underlying95 (by kernel_rfl) (by kernel_rfl) v xT w
theorem hasUnF (v : Value) (xT : TypeId) (w : World) : (Instr.typeAssert (.iface 86 v) xT 98 true).run Try.prog w = .ok (.tuple #[.iface 86 v, .bool true]) w := run_typeAssert_hasB Try.underlying98 (by kernel_rfl) v xT w
theorem methodUnF (v : Value) (w : World) : (Go.method 234 86 v "Unwrap").run Try.prog w = .ok (61, v) w := by kernel_rfl

/-- errors.is of a number. -/
theorem is_num (c t : Int) (w : World) : Calls Try.prog 41 #[.iface 24 (.int .i64 c), .iface 24 (.int .i64 t), .bool true] w fun e w' => e = .returned (.bool (c == t)) ∧ w' = w := by
  have heq := Lib.run_eql_iface_int (P := Try.prog) (k := .i64) w c t Try.underlying77 eComp Try.underlying24
  have n1 := noIsN
  have n2 := noUnN
  have n3 := noUsN
  cases hb : (c == t) with
  | true =>
    rw [hb] at heq
    go_enter Try.func41, Try.ntmps41
    go_wp2
    refine wp_loop_rounds 1 ?_
    rw [rounds_succ]
    go_wp2
    go_ret
    exact ⟨rfl, rfl⟩
  | false =>
    rw [hb] at heq
    go_enter Try.func41, Try.ntmps41
    go_wp2
    refine wp_loop_rounds 1 ?_
    rw [rounds_succ]
    go_wp2
    go_ret
    exact ⟨rfl, rfl⟩

theorem unwrap_any (n c : Int) (w : World) : Calls Try.prog 61 #[.agg #[.int .i64 n, .iface 24 (.int .i64 c)]] w fun e w' => e = .returned (.iface 24 (.int .i64 c)) ∧ Below w.heap.size w w' := by
  go_enter Try.func61, Try.ntmps61
  go_wp2
  go_ret
  exact ⟨rfl, (Below.refl _ _).alloc (Nat.le_refl _) _⟩
set_option maxRecDepth 100000 in
set_option maxHeartbeats 2000000 in
/-- errors.is of a flaw. -/
theorem is_flaw (n c t : Int) (w : World) : Calls Try.prog 41 #[.iface 86 (.agg #[.int .i64 n, .iface 24 (.int .i64 c)]), .iface 24 (.int .i64 t), .bool true] w fun e w' => e = .returned (.bool (c == t)) ∧ Below w.heap.size w w' := by
  have heq := fun w => Lib.run_eql_iface_int (P := Try.prog) (k := .i64) w c t Try.underlying77 eComp Try.underlying24
  have hty := fun w => run_eql_iface_types (P := Try.prog) 86 24 (.agg #[.int .i64 n, .iface 24 (.int .i64 c)]) (.int .i64 t) Try.underlying77 (by decide) w
  have n1 := noIsN
  have n2 := noUnN
  have n3 := noUsN
  have n4 := noIsF
  have n5 := hasUnF
  have mU := methodUnF
  have gu := fun w => Lib.hid (unwrap_any n c w)
  cases hb : (c == t) with
  | true =>
    rw [hb] at heq
    go_enter Try.func41, Try.ntmps41
    go_wp2
    refine wp_loop_rounds 2 ?_
    rw [rounds_succ]
    go_wp2_with (first | (go_at_call 61; refine (gu _).out.mono ?_; rintro _ w1 ⟨rfl, hb1⟩))
    rw [rounds_succ]
    go_wp2
    go_ret
    exact ⟨rfl, hb1⟩
  | false =>
    rw [hb] at heq
    go_enter Try.func41, Try.ntmps41
    go_wp2
    refine wp_loop_rounds 2 ?_
    rw [rounds_succ]
    go_wp2_with (first | (go_at_call 61; refine (gu _).out.mono ?_; rintro _ w1 ⟨rfl, hb1⟩))
    rw [rounds_succ]
    go_wp2
    go_ret
    exact ⟨rfl, hb1⟩

/-- errors.Is of nil. -/
theorem errIs_nil (t : Int) (w : World) : Calls Try.prog 37 #[.nilIface, .iface 24 (.int .i64 t)] w fun e w' => e = .returned (.bool false) ∧ w' = w := by
  have hn := run_eql_iface_nil_left (P := Try.prog) w 24 (.int .i64 t) Try.underlying77
  go_enter Try.func37, Try.ntmps37
  go_wp2
  go_ret
  exact ⟨rfl, rfl⟩
set_option maxRecDepth 100000 in
set_option maxHeartbeats 2000000 in
/-- errors.Is of a flaw. -/
theorem errIs_flaw (n c t : Int) (w : World) : Calls Try.prog 37 #[.iface 86 (.agg #[.int .i64 n, .iface 24 (.int .i64 c)]), .iface 24 (.int .i64 t)] w fun e w' => e = .returned (.bool (c == t)) ∧ Below w.heap.size w w' := by
  have h8 := @run_callFunc_extern Try.prog 40 _ Extern.ReflectliteType.typeOf Try.func40 (by kernel_rfl) (by kernel_rfl) (by kernel_rfl) (by kernel_rfl)
  have h32 := @run_callFunc_extern Try.prog 65 _ cmpM Try.func65 (by kernel_rfl) (by kernel_rfl) (by kernel_rfl) (by kernel_rfl)
  have tT := eTypeOf
  have cT := eComparable
  have mR := eMethodC
  have gi := fun w => Lib.hid (is_flaw n c t w)
  go_enter Try.func37, Try.ntmps37
  go_wp2_with (first | (go_at_call 41; refine (gi _).out.mono ?_; rintro _ w1 ⟨rfl, hb1⟩))
  go_ret
  exact ⟨rfl, hb1⟩
end Go.Proofs.Ytahmhkabipcfiaa
