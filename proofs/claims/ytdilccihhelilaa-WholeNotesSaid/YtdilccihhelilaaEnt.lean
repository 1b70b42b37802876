/- Which entries may be: what record.Check and the reference's Check answer. -/
import Derived.Test.YtdilccihhelilaaRows
import Derived.Test.YtdilccihhelilaaMem
import Derived.Lib.Hide
import Derived.WalkKit
import Derived.Outline
import Derived.WalkSpells
import Derived.WalkLawsBesides
namespace Go.Proofs.Ytdilccihhelilaa
open Go.RowKit
set_option linter.unusedVariables false

/-- An entry's value: its four cells. -/
structure Ent where
  view : Int
  what : Int
  a : Int
  n : Int
def Ent.val (e : Ent) : Value := .agg #[.int .i64 e.view, .int .i64 e.what, .int .i64 e.a, .int .i64 e.n]
def in64 (x : Int) : Prop := -9223372036854775808 ≤ x ∧ x < 9223372036854775808
structure Ent.In (e : Ent) : Prop where
  view : in64 e.view
  what : in64 e.what
  a : in64 e.a
  n : in64 e.n
/-- May an entry be? -/
def Ent.ok (e : Ent) : Prop := 0 ≤ e.view ∧ e.view ≤ 2147483647 ∧ (e.what = 0 ∧ 1 ≤ e.n ∧ e.n ≤ 1024 ∧ 0 ≤ e.a ∧ e.a < 16 ∨ e.what = 1 ∧ e.a = 0 ∧ -2147483648 ≤ e.n ∧ e.n ≤ 2147483647 ∨ e.what = 2 ∧ e.a = 0 ∧ 0 ≤ e.n)
instance (e : Ent) : Decidable e.ok := by unfold Ent.ok; exact inferInstance
def Ent.err (e : Ent) : Int := if e.ok then 0 else 1
theorem Ent.err_yes {e : Ent} (h : e.ok) : e.err = 0 := if_pos h
theorem Ent.err_no {e : Ent} (h : ¬ e.ok) : e.err = 1 := if_neg h
def inV (n : Int) : Bool := decide (0 ≤ n ∧ n ≤ 2147483647)

set_option maxRecDepth 100000 in
set_option maxHeartbeats 400000 in
theorem bits_any (n : Int) (w : World) (hn : in64 n) :
    Calls Try.prog 32 #[.int .i64 n, .int .u64 31] w fun e w' => e = .returned (.bool (inV n)) ∧ w' = w := by
  go_enter Try.func32, Try.ntmps32
  go_wp2_with fail
  · have e : inV n = (n / 2147483648 == 0) := by
      unfold inV
      rw [Bool.eq_iff_iff, beq_iff_eq, decide_eq_true_iff]
      omega
    go_ret
    exact ⟨by rw [e]; rfl, rfl⟩
  · have e : inV n = false := decide_eq_false (by omega)
    go_ret
    exact ⟨by rw [e]; rfl, rfl⟩

theorem wrap_cut (n : Int) : (wrap64 (wrap32 n) != n) = !decide (-2147483648 ≤ n ∧ n ≤ 2147483647) := by
  rw [Bool.eq_iff_iff, bne_iff_ne, Bool.not_eq_true', decide_eq_false_iff_not]
  unfold wrap64 wrap32
  omega

set_option maxRecDepth 100000 in
set_option maxHeartbeats 1000000 in
theorem check_any (e : Ent) (w : World) (hi : e.In) :
    Calls Try.prog 34 #[e.val] w fun x w' => x = .returned (.int .i64 e.err) ∧ Below w.heap.size w w' := by
  obtain ⟨view, what, a, n⟩ := e
  obtain ⟨⟨hv0, hv1⟩, ⟨hw0, hw1⟩, ⟨ha0, ha1⟩, ⟨hn0, hn1⟩⟩ := hi
  have hb := fun w => Lib.hid (bits_any view w ⟨hv0, hv1⟩)
  unfold Ent.val
  dsimp only at *
  go_enter Try.func34, Try.ntmps34
  go_wp2_with (refine (hb _).out.mono ?_; rintro e1 w1 ⟨rfl, rfl⟩)
  all_goals
    go_ret
    refine ⟨?_, ((Below.refl _ _).alloc (Nat.le_refl _) _).alloc (by simp) _⟩
    clear hb
    simp only [inV, wrap_cut, beq_iff_eq, beq_eq_false_iff_ne, Bool.not_eq_true', Bool.not_eq_false', decide_eq_true_eq, decide_eq_false_iff_not] at *
    first
    | (rw [Ent.err_yes (by unfold Ent.ok; dsimp only; omega)]; rfl)
    | (rw [Ent.err_no (by unfold Ent.ok; dsimp only; omega)]; rfl)
