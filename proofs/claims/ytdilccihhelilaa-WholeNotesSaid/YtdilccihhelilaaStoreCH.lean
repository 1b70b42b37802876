/- Which lists may be logs: store.Check and its reference. -/
import Derived.Test.YtdilccihhelilaaStoreLH
namespace Go.Proofs.Ytdilccihhelilaa
open Go.RowKit
set_option linter.unusedVariables false

/-- Does a view fall? -/
def falls : List Ent → Bool
  | x :: y :: r => decide (y.view < x.view) || falls (y :: r)
  | _ => false
theorem falls_snoc (p : List Ent) (x y : Ent) : falls (p ++ [x, y]) = (falls (p ++ [x]) || decide (y.view < x.view)) := by
  induction p with
  | nil => simp [falls]
  | cons a p ih =>
    cases p with
    | nil => simp [falls]
    | cons b p =>
      simp only [List.cons_append, falls] at ih ⊢
      rw [ih, Bool.or_assoc]
theorem falls_take {l : List Ent} {k : Nat} {x y : Ent} (hx : l[k]? = some x) (hy : l[k + 1]? = some y) : falls (l.take (k + 1 + 1)) = (falls (l.take (k + 1)) || decide (y.view < x.view)) := by
  rw [take_next hy, take_next hx, List.append_assoc]
  exact falls_snoc _ _ _
theorem falls_one (l : List Ent) : falls (l.take 1) = false := by
  cases l with
  | nil => rfl
  | cons a l => simp [falls]
theorem falls_mono {l : List Ent} {k n : Nat} (h : falls (l.take k) = true) (hk : k ≤ n) : falls (l.take n) = true := by
  induction n with
  | zero => obtain rfl : k = 0 := by omega
            exact h
  | succ n ih =>
    rcases Nat.lt_or_ge n k with h1 | h1
    · obtain rfl : k = n + 1 := by omega
      exact h
    · have h2 := ih h1
      cases n with
      | zero => simp [falls] at h2
      | succ n =>
        rcases Nat.lt_or_ge (n + 1) l.length with h3 | h3
        · obtain ⟨y, hy⟩ := ent_at h3
          obtain ⟨x, hx⟩ := ent_at (show n < l.length by omega)
          rw [falls_take hx hy, h2]
          rfl
        · rw [List.take_of_length_le (by omega)] at h2 ⊢
          exact h2
/-- May all entries be? -/
def allOk (l : List Ent) : Bool := l.all fun e => decide e.ok
theorem allOk_next {l : List Ent} {k : Nat} {x : Ent} (h : allOk (l.take k) = true) (hx : l[k]? = some x) (ho : x.ok) : allOk (l.take (k + 1)) = true := by
  unfold allOk at *
  rw [take_next hx, List.all_append, h]
  simp [ho]
theorem allOk_no {l : List Ent} {k : Nat} {x : Ent} (hx : l[k]? = some x) (ho : ¬ x.ok) : allOk l = false := by
  unfold allOk
  rw [Bool.eq_false_iff]
  intro h
  have := List.all_eq_true.1 h x (List.mem_of_getElem? hx)
  exact ho (by simpa using this)
/-- Why a list is no log; 0: it is one. -/
def checkL (l : List Ent) : Int := if 4096 < l.length then 9 else if allOk l = false then 1 else if falls l = true then 190 else 0
theorem checkL_long {l : List Ent} (h : 4096 < l.length) : checkL l = 9 := if_pos h
theorem checkL_bad {l : List Ent} (h : ¬ 4096 < l.length) (h1 : allOk l = false) : checkL l = 1 := by unfold checkL; rw [if_neg h, if_pos h1]
theorem checkL_falls {l : List Ent} (h : ¬ 4096 < l.length) (h1 : allOk l = true) (h2 : falls l = true) : checkL l = 190 := by unfold checkL; rw [if_neg h, if_neg (by rw [h1]; decide), if_pos h2]
theorem checkL_yes {l : List Ent} (h : ¬ 4096 < l.length) (h1 : allOk l = true) (h2 : falls l = false) : checkL l = 0 := by unfold checkL; rw [if_neg h, if_neg (by rw [h1]; decide), if_neg (by rw [h2]; decide)]

/-- All entries' numbers are of their kind. -/
def InL (l : List Ent) : Prop := ∀ e ∈ l, e.In
theorem InL.at_ {l : List Ent} {k : Nat} {x : Ent} (h : InL l) (hx : l[k]? = some x) : x.In := h x (List.mem_of_getElem? hx)
