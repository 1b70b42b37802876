/- Which log is better; the statements' own question whether layer 19 computes at all. -/
import Derived.Test.YtlehianbdamgmaaStoreA
namespace Go.Proofs.Ytlehianbdamgmaa
open Go.RowKit
set_option linter.unusedVariables false

/-- Is a log better than another one? -/
def better (view n other m : Int) : Bool := if view = other then decide (m < n) else decide (other < view)

set_option maxRecDepth 100000 in
theorem better_any (view n other m : Int) (w : World) :
    Calls Try.prog 17 #[.int .i64 view, .int .i64 n, .int .i64 other, .int .i64 m] w fun e w' => e = .returned (.bool (better view n other m)) ∧ w = w' := by
  by_cases h : view = other
  · have b1 : (view == other) = true := by rw [beq_iff_eq]; exact h
    have e : better view n other m = decide (m < n) := if_pos h
    rw [e]
    clear e h
    go_enter Try.func17, Try.ntmps17
    go_wp2_with fail
    go_ret
    exact ⟨rfl, rfl⟩
  · have b1 : (view == other) = false := by rw [beq_eq_false_iff_ne]; exact h
    have e : better view n other m = decide (other < view) := if_neg h
    rw [e]
    clear e h
    go_enter Try.func17, Try.ntmps17
    go_wp2_with fail
    go_ret
    exact ⟨rfl, rfl⟩
set_option maxRecDepth 100000 in
theorem rbetter_any (view n other m : Int) (w : World) :
    Calls Try.prog 28 #[.int .i64 view, .int .i64 n, .int .i64 other, .int .i64 m] w fun e w' => e = .returned (.bool (better view n other m)) ∧ w = w' := by
  by_cases h1 : other < view
  · have e : better view n other m = true := by unfold better; rw [if_neg (by omega)]; exact decide_eq_true h1
    rw [e]
    have b1 : decide (other < view) = true := decide_eq_true h1
    clear e h1
    go_enter Try.func28, Try.ntmps28
    go_wp2_with fail
    go_ret
    exact ⟨rfl, rfl⟩
  · have b0 : decide (other < view) = false := decide_eq_false h1
    by_cases h : view = other
    · have b1 : (view == other) = true := by rw [beq_iff_eq]; exact h
      have e : better view n other m = decide (m < n) := if_pos h
      rw [e]
      clear e h h1
      go_enter Try.func28, Try.ntmps28
      go_wp2_with fail
      go_ret
      exact ⟨rfl, rfl⟩
    · have b1 : (view == other) = false := by rw [beq_eq_false_iff_ne]; exact h
      have e : better view n other m = false := by unfold better; rw [if_neg h]; exact b0
      rw [e]
      clear e h h1
      go_enter Try.func28, Try.ntmps28
      go_wp2_with fail
      go_ret
      exact ⟨rfl, rfl⟩

set_option maxRecDepth 100000 in
theorem awake19 (w : World) : Calls Try.prog 18 #[] w fun e w' => e = .returned (.bool true) ∧ Below w.heap.size w w' := by
  have hn := fun w => Lib.hid (new_any w)
  have hi : (⟨3, 0, 0, 1⟩ : Ent).In := ⟨by constructor <;> decide, by constructor <;> decide, by constructor <;> decide, by constructor <;> decide⟩
  have ha := fun g w F base h => Lib.hid (add_any g [] ⟨3, 0, 0, 1⟩ hi w F base h)
  rw [show addCode [] ⟨3, 0, 0, 1⟩ = 0 from by decide, show addNew [] ⟨3, 0, 0, 1⟩ = [⟨3, 0, 0, 1⟩] from by decide] at ha
  go_enter Try.func18, Try.ntmps18
  go_wp2_with fail
  refine (hn _).out.mono ?_
  rintro _ w1 ⟨rfl, hS1, hb1⟩
  go_wp2_with fail
  refine (ha _ _ _ _ hS1).out.mono ?_
  rintro _ w2 ⟨rfl, hS2, hT2⟩
  go_wp2_with fail
  refine (view_any _ _ _ _ _ hS2).mono ?_
  rintro _ w3 ⟨rfl, n, rfl⟩
  rw [show viewL [⟨3, 0, 0, 1⟩] = 3 from rfl]
  go_wp2_with fail
  go_ret
  exact ⟨rfl, below_drewN (hb1.trans (hT2.below hb1.size fun k hk => hk.elim (fun h => h.elim) fun h => h.1)) _⟩
end Go.Proofs.Ytlehianbdamgmaa
