/- The reference's plain form. -/
import Derived.Test.YtcinmgifadmbeaaPlain
namespace Go.Proofs.Ytcinmgifadmbeaa
open Go.RowKit
set_option linter.unusedVariables false

set_option maxRecDepth 100000 in
set_option maxHeartbeats 2000000 in
theorem rplain_any (i : Ins) (w : World) (hi : i.In) :
    Calls Try.prog 21 #[i.val] w fun e w' => e = .returned (plainI i).val ∧ Below w.heap.size w w' := by
  obtain ⟨at_, op, a, b, size⟩ := i
  obtain ⟨_, ⟨ho0, ho1⟩, _, _, _⟩ := hi
  unfold Ins.val
  dsimp only at *
  go_enter Try.func21, Try.ntmps21
  go_wp2_with fail
  all_goals
    refine bodyPost_ret (v := (plainI ⟨at_, op, a, b, size⟩).val) ?_ rfl ⟨rfl, (((Below.refl _ _).alloc (Nat.le_refl _) _).alloc (by simp) _).alloc (by simp; omega) _⟩
    simp only [beq_iff_eq, beq_eq_false_iff_ne] at *
    unfold plainI plainRows plainOf plainOf plainOf plainOf plainOf plainOf plainOf plainOf plainOf
    dsimp only
    simp (disch := omega) only [if_pos, if_neg]
    simp [results, Try.results21, go_sem, Ins.val] <;> omega
