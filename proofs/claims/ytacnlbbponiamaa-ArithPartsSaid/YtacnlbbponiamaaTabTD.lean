/- The program's table of codes. -/
import Derived.Test.YtacnlbbponiamaaTabD
namespace Go.Proofs.Ytacnlbbponiamaa
open Go.RowKit
set_option linter.unusedVariables false

noncomputable def tabFinal (p : Value) (w : World) : Array Value := match runVals Try.prog (tabOps.toList.take 121) ⟨#[p] ++ Array.replicate 121 undef, []⟩ w with | some (a, _) => a.tmps | none => #[]

theorem tab_vals (p : Value) (w : World) : runVals Try.prog (tabOps.toList.take 121) ⟨#[p] ++ Array.replicate 121 undef, []⟩ w = some (⟨tabFinal p w, []⟩, w) := by kernel_rfl
theorem tab_p (p : Value) (w : World) : (tabFinal p w).getD 0 undef = p := by kernel_rfl
theorem tab_agg (p : Value) (w : World) : (tabFinal p w).getD 121 undef = .agg tabCells := by kernel_rfl

noncomputable def tabOps0 : Array Oper := (opsOf tabBody).getD 0 #[]
noncomputable def tabLast : Oper := match tabOps.toList.drop 121 with | o :: _ => o | [] => ⟨none, .move (.tmp 0), 0, "", #[], none⟩
noncomputable def tabZero : Array Value := ((List.range 200).flatMap fun _ => [.string .empty, .int .u8 0]).toArray
theorem tabBody_eq : tabBody = (Code.region 0 tabOps0 false).seq ((Code.region 1 tabOps false).seq Code.ret) := by kernel_rfl
theorem tabOps0_drop : tabOps0.toList.drop 1 = [] := by kernel_rfl
theorem tabOps0_vals (w : World) : runVals Try.prog (tabOps0.toList.take 1) ⟨#[] ++ Array.replicate (Try.f30.ntmps - (#[] : Array Value).size) undef, []⟩ w = some (⟨#[.pointer (some ⟨w.heap.size, 0, none⟩)] ++ Array.replicate 121 undef, []⟩, w.alloc (.cells tabZero 59)) := by kernel_rfl
theorem tabOps_drop : tabOps.toList.drop 121 = [tabLast] := by kernel_rfl
theorem tabLast_guard : tabLast.guard = none := by kernel_rfl
theorem tabLast_dst : tabLast.dst = none := by kernel_rfl
theorem tabLast_op : tabLast.op = .store 59 (.tmp 0) (.tmp 121) := by kernel_rfl
theorem tab_size : (Try.prog.info? 59).map (·.size) = some tabCells.size := by kernel_rfl
theorem tab_zsize : tabZero.size = tabCells.size := by kernel_rfl
theorem tab_one : tabCells.all (·.oneCell') = true := by kernel_rfl
theorem tab_under : Try.prog.underlying 59 = some (.array 200 57) := by kernel_rfl
theorem tab_body : Try.f30.body = some tabBody := by kernel_rfl

