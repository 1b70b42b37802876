/- errors.Is over a frame's flaw and the program's numbers. -/
import Derived.Test.YtdilccihhelilaaRows
import Derived.Test.YtdilccihhelilaaChecked
import Derived.WalkKit
import Derived.LaidEql
import Derived.Stop.Asserts
import Derived.RowKitTokens
import Derived.Lib.IfaceEq
import Derived.Below
import Derived.Lib.Hide
namespace Go.Proofs.Ytdilccihhelilaa
open Go.RowKit Go.Extern.Stop Go.Stop Go.Extern
set_option linter.unusedVariables false

theorem eTypeOf (v : Value) (w : World) : (Extern.ReflectliteType.typeOf #[.iface 28 v]).run Try.prog w = .ok (.iface 115 (.agg #[.pointer (some ⟨0, 28, none⟩)])) w := by kernel_rfl
/-- What Comparable comes to. -/
noncomputable def cmpM : Array Value → Sem Value := Extern.ReflectliteType.method fun t => do Extern.Rtype.noPackHeld "Comparable" t; pure (.bool (← typeInfo t).comparable)
theorem eComparable (w : World) : (cmpM #[.agg #[.pointer (some ⟨0, 28, none⟩)]]).run Try.prog w = .ok (.bool true) w := by kernel_rfl
theorem eMethodC (v : Value) (w : World) : (Go.method 261 115 v "Comparable").run Try.prog w = .ok (77, v) w := by kernel_rfl
theorem eComp : (Try.prog.info? 28).map (·.comparable) = some true := by kernel_rfl
theorem noIsN (v : Value) (xT : TypeId) (w : World) : (Instr.typeAssert (.iface 28 v) xT 117 true).run Try.prog w = .ok (.tuple #[.nilIface, .bool false]) w := run_typeAssert_lacksB Try.underlying117 (by kernel_rfl) (by kernel_rfl) v xT w
theorem noUnN (v : Value) (xT : TypeId) (w : World) : (Instr.typeAssert (.iface 28 v) xT 120 true).run Try.prog w = .ok (.tuple #[.nilIface, .bool false]) w := run_typeAssert_lacksB Try.underlying120 (by kernel_rfl) (by kernel_rfl) v xT w
theorem noUsN (v : Value) (xT : TypeId) (w : World) : (Instr.typeAssert (.iface 28 v) xT 122 true).run Try.prog w = .ok (.tuple #[.nilIface, .bool false]) w := run_typeAssert_lacksB Try.underlying122 (by kernel_rfl) (by kernel_rfl) v xT w
theorem noIsF (v : Value) (xT : TypeId) (w : World) : (Instr.typeAssert (.iface 128 v) xT 117 true).run Try.prog w = .ok (.tuple #[.nilIface, .bool false]) w := run_typeAssert_lacksB Try.underlying117 (by kernel_rfl) (by kernel_rfl) v xT w
theorem hasUnF (v : Value) (xT : TypeId) (w : World) : (Instr.typeAssert (.iface 128 v) xT 120 true).run Try.prog w = .ok (.tuple #[.iface 128 v, .bool true]) w := run_typeAssert_hasB Try.underlying120 (by kernel_rfl) v xT w
theorem methodUnF (v : Value) (w : World) : (Go.method 261 128 v "Unwrap").run Try.prog w = .ok (87, v) w := by kernel_rfl

/-- errors.is of a number. -/
theorem is_num (c t : Int) (w : World) : Calls Try.prog 44 #[.iface 28 (.int .i64 c), .iface 28 (.int .i64 t), .bool true] w fun e w' => e = .returned (.bool (c == t)) ∧ w' = w := by
  have heq := Lib.run_eql_iface_int (P := Try.prog) (k := .i64) w c t Try.underlying55 eComp Try.underlying28
  have n1 := noIsN
  have n2 := noUnN
  have n3 := noUsN
  cases hb : (c == t) with
  | true =>
    rw [hb] at heq
    go_enter Try.func44, Try.ntmps44
    go_wp2
    refine wp_loop_rounds 1 ?_
    rw [rounds_succ]
    go_wp2
    go_ret
    exact ⟨rfl, rfl⟩
  | false =>
    rw [hb] at heq
    go_enter Try.func44, Try.ntmps44
    go_wp2
    refine wp_loop_rounds 1 ?_
    rw [rounds_succ]
    go_wp2
    go_ret
    exact ⟨rfl, rfl⟩

theorem unwrap_any (n c : Int) (w : World) : Calls Try.prog 87 #[.agg #[.int .i64 n, .iface 28 (.int .i64 c)]] w fun e w' => e = .returned (.iface 28 (.int .i64 c)) ∧ Below w.heap.size w w' := by
  go_enter Try.func87, Try.ntmps87
  go_wp2
  go_ret
  exact ⟨rfl, (Below.refl _ _).alloc (Nat.le_refl _) _⟩
set_option maxRecDepth 100000 in
set_option maxHeartbeats 2000000 in
/-- errors.is of a flaw. -/
theorem is_flaw (n c t : Int) (w : World) : Calls Try.prog 44 #[.iface 128 (.agg #[.int .i64 n, .iface 28 (.int .i64 c)]), .iface 28 (.int .i64 t), .bool true] w fun e w' => e = .returned (.bool (c == t)) ∧ Below w.heap.size w w' := by
  have heq := fun w => Lib.run_eql_iface_int (P := Try.prog) (k := .i64) w c t Try.underlying55 eComp Try.underlying28
  have hty := fun w => run_eql_iface_types (P := Try.prog) 128 28 (.agg #[.int .i64 n, .iface 28 (.int .i64 c)]) (.int .i64 t) Try.underlying55 (by decide) w
  have n1 := noIsN
  have n2 := noUnN
  have n3 := noUsN
  have n4 := noIsF
  have n5 := hasUnF
  have mU := methodUnF
  have gu := fun w => Lib.hid (unwrap_any n c w)
  cases hb : (c == t) with
  | true =>
    rw [hb] at heq
    go_enter Try.func44, Try.ntmps44
    go_wp2
    refine wp_loop_rounds 2 ?_
    rw [rounds_succ]
    go_wp2_with (first | (go_at_call 87; refine (gu _).out.mono ?_; rintro _ w1 ⟨rfl, hb1⟩))
    rw [rounds_succ]
    go_wp2
    go_ret
    exact ⟨rfl, hb1⟩
  | false =>
    rw [hb] at heq
    go_enter Try.func44, Try.ntmps44
    go_wp2
    refine wp_loop_rounds 2 ?_
    rw [rounds_succ]
    go_wp2_with (first | (go_at_call 87; refine (gu _).out.mono ?_; rintro _ w1 ⟨rfl, hb1⟩))
    rw [rounds_succ]
    go_wp2
    go_ret
    exact ⟨rfl, hb1⟩

/-- errors.Is of nil. -/
theorem errIs_nil (t : Int) (w : World) : Calls Try.prog 27 #[.nilIface, .iface 28 (.int .i64 t)] w fun e w' => e = .returned (.bool false) ∧ w' = w := by
  have hn := run_eql_iface_nil_left (P := Try.prog) w 28 (.int .i64 t) Try.underlying55
  go_enter Try.func27, Try.ntmps27
  go_wp2
  go_ret
  exact ⟨rfl, rfl⟩
set_option maxRecDepth 100000 in
set_option maxHeartbeats 2000000 in
/-- errors.Is of a flaw. -/
theorem errIs_flaw (n c t : Int) (w : World) : Calls Try.prog 27 #[.iface 128 (.agg #[.int .i64 n, .iface 28 (.int .i64 c)]), .iface 28 (.int .i64 t)] w fun e w' => e = .returned (.bool (c == t)) ∧ Below w.heap.size w w' := by
  have h8 := @run_callFunc_extern Try.prog 43 _ Extern.ReflectliteType.typeOf Try.func43 (by kernel_rfl) (by kernel_rfl) (by kernel_rfl) (by kernel_rfl)
  have h32 := @run_callFunc_extern Try.prog 77 _ cmpM Try.func77 (by kernel_rfl) (by kernel_rfl) (by kernel_rfl) (by kernel_rfl)
  have tT := eTypeOf
  have cT := eComparable
  have mR := eMethodC
  have gi := fun w => Lib.hid (is_flaw n c t w)
  go_enter Try.func27, Try.ntmps27
  go_wp2_with (first | (go_at_call 44; refine (gi _).out.mono ?_; rintro _ w1 ⟨rfl, hb1⟩))
  go_ret
  exact ⟨rfl, hb1⟩
end Go.Proofs.Ytdilccihhelilaa
