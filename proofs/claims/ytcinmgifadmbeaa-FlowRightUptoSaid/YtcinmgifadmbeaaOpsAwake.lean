/- The statements' own question whether layer 6 computes at all. -/
import Derived.Test.YtcinmgifadmbeaaTabR
namespace Go.Proofs.Ytcinmgifadmbeaa
open Go.RowKit
set_option linter.unusedVariables false

theorem bnext {a b c : World} (h : Below a.heap.size a b) (k : Below b.heap.size b c) : Below a.heap.size a c := h.trans (k.mono h.size)

theorem nm_96 : nm 96 = ⟨#[105, 97, 100, 100]⟩ := by kernel_rfl
theorem awake06 (w : World) : Calls Try.prog 19 #[] w fun e w' => e = .returned (.bool true) ∧ Below w.heap.size w w' := by
  have hn := fun w => Lib.hid (name_any 96 w)
  rw [nm_96] at hn
  go_enter Try.func19, Try.ntmps19
  go_wp2_with (refine (hn _).out.mono ?_; rintro e w1 ⟨rfl, hb1⟩)
  go_ret
  exact ⟨rfl, hb1⟩
