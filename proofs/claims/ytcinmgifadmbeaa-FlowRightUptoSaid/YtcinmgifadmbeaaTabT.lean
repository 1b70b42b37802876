/- The program's table of codes. -/
import Derived.Test.YtcinmgifadmbeaaTab
namespace Go.Proofs.Ytcinmgifadmbeaa
open Go.RowKit
set_option linter.unusedVariables false

noncomputable def tabBody : Code := match Try.f52.body with | some c => c | none => .skip
noncomputable def tabOps : Array Oper := (opsOf tabBody).getD 1 #[]
noncomputable def tabFinal (p : Value) (w : World) : Array Value := match runVals Try.prog (tabOps.toList.take 121) ⟨#[p] ++ Array.replicate 121 undef, []⟩ w with | some (a, _) => a.tmps | none => #[]

theorem tab_vals (p : Value) (w : World) : runVals Try.prog (tabOps.toList.take 121) ⟨#[p] ++ Array.replicate 121 undef, []⟩ w = some (⟨tabFinal p w, []⟩, w) := by kernel_rfl
theorem tab_p (p : Value) (w : World) : (tabFinal p w).getD 0 undef = p := by kernel_rfl
theorem tab_agg (p : Value) (w : World) : (tabFinal p w).getD 121 undef = .agg tabCells := by kernel_rfl

noncomputable def tabOps0 : Array Oper := (opsOf tabBody).getD 0 #[]
noncomputable def tabLast : Oper := match tabOps.toList.drop 121 with | o :: _ => o | [] => ⟨none, .move (.tmp 0), 0, "", #[], none⟩
theorem tabBody_eq : tabBody = (Code.region 0 tabOps0 false).seq ((Code.region 1 tabOps false).seq Code.ret) := by kernel_rfl
theorem tabOps0_drop : tabOps0.toList.drop 1 = [] := by kernel_rfl
theorem tabOps0_vals (w : World) : runVals Try.prog (tabOps0.toList.take 1) ⟨#[] ++ Array.replicate (Try.f52.ntmps - (#[] : Array Value).size) undef, []⟩ w = some (⟨#[.pointer (some ⟨w.heap.size, 0, none⟩)] ++ Array.replicate 121 undef, []⟩, w.alloc (.cells Try.zeroCells98 98)) := by kernel_rfl
theorem tabOps_drop : tabOps.toList.drop 121 = [tabLast] := by kernel_rfl
theorem tabLast_guard : tabLast.guard = none := by kernel_rfl
theorem tabLast_dst : tabLast.dst = none := by kernel_rfl
theorem tabLast_op : tabLast.op = .store 98 (.tmp 0) (.tmp 121) := by kernel_rfl
theorem tab_size : (Try.prog.info? 98).map (·.size) = some tabCells.size := by kernel_rfl
theorem tab_zsize : Try.zeroCells98.size = tabCells.size := by kernel_rfl
theorem tab_one : tabCells.all (·.oneCell') = true := by kernel_rfl
theorem tab_under : Try.prog.underlying 98 = some (.array 200 65) := by kernel_rfl
theorem tab_body : Try.f52.body = some tabBody := by kernel_rfl

