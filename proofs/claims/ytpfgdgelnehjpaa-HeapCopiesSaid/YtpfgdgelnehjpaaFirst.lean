/- The first value of a type, as the program and as the reference give it. -/
import Derived.Test.YtpfgdgelnehjpaaRows
import Derived.Test.YtpfgdgelnehjpaaMem
import Derived.Lib.Hide
import Derived.WalkKit
import Derived.Outline
import Derived.WalkSpells
import Derived.WalkLawsBesides
namespace Go.Proofs.Ytpfgdgelnehjpaa
open Go.RowKit
set_option linter.unusedVariables false

/-- A type's value: its five cells. -/
structure Ty where
  k : Int
  name : ByteArray
  dims : Int
  elem : Int
  pos : Int
def Ty.val (t : Ty) : Value := .agg #[.int .i64 t.k, .string t.name, .int .i64 t.dims, .int .i64 t.elem, .int .i64 t.pos]
/-- A value: its kind, its number, its place. -/
structure Vl where
  k : Int
  n : Int
  r : Int
def Vl.val (v : Vl) : Value := .agg #[.int .i64 v.k, .int .i64 v.n, .int .i64 v.r]
def firstK (k : Int) : Int := if k = 1 then 1 else if k = 2 then 2 else if k = 3 ∨ k = 4 ∨ k = 5 then 3 else 0
def firstV (t : Ty) : Vl := ⟨firstK t.k, 0, 0⟩

theorem firstK_else {k : Int} (h1 : ¬ k = 1) (h2 : ¬ k = 2) (h3 : ¬ k = 3) (h4 : ¬ k = 4) (h5 : ¬ k = 5) : firstK k = 0 := by
  unfold firstK; rw [if_neg h1, if_neg h2, if_neg (by omega)]

set_option maxRecDepth 100000 in
set_option maxHeartbeats 400000 in
theorem first_any (t : Ty) (w : World) :
    Calls Try.prog 42 #[t.val] w fun e w' => e = .returned (firstV t).val ∧ Below w.heap.size w w' := by
  obtain ⟨k, nm, d, el, ps⟩ := t
  unfold Ty.val Vl.val firstV
  by_cases h1 : k = 1
  · subst h1
    go_enter Try.func42, Try.ntmps42
    go_wp2_with fail
    exact bodyPost_ret (v := .agg #[.int .i64 1, .int .i64 0, .int .i64 0]) (by simp [results, Try.results42, go_sem]) rfl ⟨rfl, ((Below.refl _ _).alloc (Nat.le_refl _) _).alloc (by simp) _⟩
  · by_cases h2 : k = 2
    · subst h2
      go_enter Try.func42, Try.ntmps42
      go_wp2_with fail
      exact bodyPost_ret (v := .agg #[.int .i64 2, .int .i64 0, .int .i64 0]) (by simp [results, Try.results42, go_sem]) rfl ⟨rfl, ((Below.refl _ _).alloc (Nat.le_refl _) _).alloc (by simp) _⟩
    · by_cases h3 : k = 3
      · subst h3
        go_enter Try.func42, Try.ntmps42
        go_wp2_with fail
        exact bodyPost_ret (v := .agg #[.int .i64 3, .int .i64 0, .int .i64 0]) (by simp [results, Try.results42, go_sem]) rfl ⟨rfl, ((Below.refl _ _).alloc (Nat.le_refl _) _).alloc (by simp) _⟩
      · by_cases h5 : k = 5
        · subst h5
          go_enter Try.func42, Try.ntmps42
          go_wp2_with fail
          exact bodyPost_ret (v := .agg #[.int .i64 3, .int .i64 0, .int .i64 0]) (by simp [results, Try.results42, go_sem]) rfl ⟨rfl, ((Below.refl _ _).alloc (Nat.le_refl _) _).alloc (by simp) _⟩
        · by_cases h4 : k = 4
          · subst h4
            go_enter Try.func42, Try.ntmps42
            go_wp2_with fail
            exact bodyPost_ret (v := .agg #[.int .i64 3, .int .i64 0, .int .i64 0]) (by simp [results, Try.results42, go_sem]) rfl ⟨rfl, ((Below.refl _ _).alloc (Nat.le_refl _) _).alloc (by simp) _⟩
          · have e0 : firstK k = 0 := firstK_else h1 h2 h3 h4 h5
            replace e0 := Lib.hid e0
            have b1 : (k == 1) = false := by rw [beq_eq_false_iff_ne]; exact h1
            have b2 : (k == 2) = false := by rw [beq_eq_false_iff_ne]; exact h2
            have b3 : (k == 3) = false := by rw [beq_eq_false_iff_ne]; exact h3
            have b5 : (k == 5) = false := by rw [beq_eq_false_iff_ne]; exact h5
            have b4 : (k == 4) = false := by rw [beq_eq_false_iff_ne]; exact h4
            clear h1 h2 h3 h4 h5
            go_enter Try.func42, Try.ntmps42
            go_wp2_with fail
            exact bodyPost_ret (v := .agg #[.int .i64 0, .int .i64 0, .int .i64 0]) (by simp [results, Try.results42, go_sem]) rfl ⟨by simp only [e0.out], ((Below.refl _ _).alloc (Nat.le_refl _) _).alloc (by simp) _⟩

set_option maxRecDepth 100000 in
set_option maxHeartbeats 400000 in
theorem rfirst_any (t : Ty) (w : World) :
    Calls Try.prog 55 #[t.val] w fun e w' => e = .returned (firstV t).val ∧ Below w.heap.size w w' := by
  obtain ⟨k, nm, d, el, ps⟩ := t
  unfold Ty.val Vl.val firstV
  by_cases h1 : k = 1
  · subst h1
    go_enter Try.func55, Try.ntmps55
    go_wp2_with fail
    exact bodyPost_ret (v := .agg #[.int .i64 1, .int .i64 0, .int .i64 0]) (by simp [results, Try.results55, go_sem]) rfl ⟨rfl, ((Below.refl _ _).alloc (Nat.le_refl _) _).alloc (by simp) _⟩
  · by_cases h2 : k = 2
    · subst h2
      go_enter Try.func55, Try.ntmps55
      go_wp2_with fail
      exact bodyPost_ret (v := .agg #[.int .i64 2, .int .i64 0, .int .i64 0]) (by simp [results, Try.results55, go_sem]) rfl ⟨rfl, ((Below.refl _ _).alloc (Nat.le_refl _) _).alloc (by simp) _⟩
    · by_cases h3 : k = 3
      · subst h3
        go_enter Try.func55, Try.ntmps55
        go_wp2_with fail
        exact bodyPost_ret (v := .agg #[.int .i64 3, .int .i64 0, .int .i64 0]) (by simp [results, Try.results55, go_sem]) rfl ⟨rfl, ((Below.refl _ _).alloc (Nat.le_refl _) _).alloc (by simp) _⟩
      · by_cases h5 : k = 5
        · subst h5
          go_enter Try.func55, Try.ntmps55
          go_wp2_with fail
          exact bodyPost_ret (v := .agg #[.int .i64 3, .int .i64 0, .int .i64 0]) (by simp [results, Try.results55, go_sem]) rfl ⟨rfl, ((Below.refl _ _).alloc (Nat.le_refl _) _).alloc (by simp) _⟩
        · by_cases h4 : k = 4
          · subst h4
            go_enter Try.func55, Try.ntmps55
            go_wp2_with fail
            exact bodyPost_ret (v := .agg #[.int .i64 3, .int .i64 0, .int .i64 0]) (by simp [results, Try.results55, go_sem]) rfl ⟨rfl, ((Below.refl _ _).alloc (Nat.le_refl _) _).alloc (by simp) _⟩
          · have e0 : firstK k = 0 := firstK_else h1 h2 h3 h4 h5
            replace e0 := Lib.hid e0
            have b1 : (k == 1) = false := by rw [beq_eq_false_iff_ne]; exact h1
            have b2 : (k == 2) = false := by rw [beq_eq_false_iff_ne]; exact h2
            have b3 : (k == 3) = false := by rw [beq_eq_false_iff_ne]; exact h3
            have b5 : (k == 5) = false := by rw [beq_eq_false_iff_ne]; exact h5
            have b4 : (k == 4) = false := by rw [beq_eq_false_iff_ne]; exact h4
            clear h1 h2 h3 h4 h5
            go_enter Try.func55, Try.ntmps55
            go_wp2_with fail
            exact bodyPost_ret (v := .agg #[.int .i64 0, .int .i64 0, .int .i64 0]) (by simp [results, Try.results55, go_sem]) rfl ⟨by simp only [e0.out], ((Below.refl _ _).alloc (Nat.le_refl _) _).alloc (by simp) _⟩

theorem value_k (k n r : Int) (w : World) : (Instr.field 49 (.agg #[.int .i64 k, .int .i64 n, .int .i64 r]) 0).run Try.prog w = .ok (.int .i64 k) w := by kernel_rfl

set_option maxRecDepth 100000 in
set_option maxHeartbeats 400000 in
theorem awake14 (w : World) : Calls Try.prog 16 #[] w fun e w' => e = .returned (.bool true) ∧ Below w.heap.size w w' := by
  go_enter Try.func16, Try.ntmps16
  go_wp2_with fail
  refine (first_any ⟨1, ByteArray.empty, 0, 0, 0⟩ _).mono ?_
  rintro e w1 ⟨rfl, hb⟩
  have ek : firstK 1 = 1 := rfl
  have hf := fun w => value_k 1 0 0 w
  unfold firstV Vl.val
  simp only [ek]
  clear ek
  go_wp2_with fail
  go_ret
  exact ⟨rfl, hb⟩
end Go.Proofs.Ytpfgdgelnehjpaa
