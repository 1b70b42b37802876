/- The reference's writer: numbers with a sign, and bytes. -/
import Derived.Test.YtcinmgifadmbeaaRefW
namespace Go.Proofs.Ytcinmgifadmbeaa
open Go.RowKit
set_option linter.unusedVariables false

theorem byte_add (x k : Int) (j d : Nat) : (x + k * 256 ^ (j + 1 + d)) / 256 ^ j % 256 = x / 256 ^ j % 256 := by
  have hp : (0 : Int) < 256 ^ j := Int.pow_pos (by decide)
  have e : k * (256 : Int) ^ (j + 1 + d) = (k * 256 ^ d * 256) * 256 ^ j := by
    rw [Int.pow_add, Int.pow_add, Int.pow_one]
    simp only [Int.mul_assoc, Int.mul_comm, Int.mul_left_comm]
  rw [e, Int.add_mul_ediv_right _ _ (by omega)]
  omega
theorem beN_add_aux (x k : Int) (N : Nat) : ∀ n, n ≤ N → beN n (x + k * 256 ^ N) = beN n x := by
  intro n
  induction n with
  | zero => intro _; rfl
  | succ n ih =>
    intro hn
    simp only [beN]
    rw [ih (by omega)]
    obtain ⟨d, rfl⟩ := Nat.exists_eq_add_of_le hn
    rw [byte_add]
theorem beN_add (x k : Int) (N : Nat) : beN N (x + k * 256 ^ N) = beN N x := beN_add_aux x k N N (Nat.le_refl _)

theorem half_pow (N : Nat) (h1 : 1 ≤ N) : (256 : Int) ^ N = 2 * 2 ^ (8 * N - 1) := by
  rw [← pow256]
  obtain ⟨M, rfl⟩ : ∃ M, N = M + 1 := ⟨N - 1, by omega⟩
  rw [show 8 * (M + 1) = (8 * (M + 1) - 1) + 1 from by omega, Int.pow_succ]
  simp only [Nat.add_sub_cancel]
  omega
theorem pow_small (N : Nat) (h2 : N < 8) : (2 : Int) ^ (8 * N - 1) ≤ 36028797018963968 := by
  have : (2 : Int) ^ (8 * N - 1) ≤ 2 ^ 55 := by
    obtain ⟨d, hd⟩ := Nat.exists_eq_add_of_le (show 8 * N - 1 ≤ 55 by omega)
    rw [hd, Int.pow_add]
    have h1 : (0 : Int) < 2 ^ (8 * N - 1) := Int.pow_pos (by decide)
    have h2 : (0 : Int) < 2 ^ d := Int.pow_pos (by decide)
    have h3 : (2 : Int) ^ (8 * N - 1) * 1 ≤ 2 ^ (8 * N - 1) * 2 ^ d := Int.mul_le_mul_of_nonneg_left (by omega) (by omega)
    omega
  omega
theorem fitsI_iff (N : Nat) (x : Int) (h1 : 1 ≤ N) (h2 : N < 8) : fitsI N x = true ↔ -(2 ^ (8 * N - 1)) ≤ x ∧ x < 2 ^ (8 * N - 1) := by
  have e : (8 * (N : Int)).toNat = 8 * N := by omega
  have hp : (0 : Int) < 2 ^ (8 * N - 1) := Int.pow_pos (by decide)
  unfold fitsI
  rw [e]
  generalize (2 : Int) ^ (8 * N - 1) = P at *
  have hn1 : decide ((N : Int) < 1) = false := by simp; omega
  have hn2 : decide (7 < (N : Int)) = false := by simp; omega
  rw [hn1, hn2]
  simp only [Bool.false_or, Bool.or_eq_true, beq_iff_eq]
  constructor
  · rintro (h | h)
    · have a := Int.mul_ediv_add_emod x P
      have b := Int.emod_nonneg x (show P ≠ 0 by omega)
      have c := Int.emod_lt_of_pos x hp
      rw [h] at a; simp at a; omega
    · have a := Int.mul_ediv_add_emod x P
      have b := Int.emod_nonneg x (show P ≠ 0 by omega)
      have c := Int.emod_lt_of_pos x hp
      rw [h] at a; simp at a; omega
  · rintro ⟨ha, hb⟩
    rcases Int.lt_or_le x 0 with h | h
    · right
      have : (x + P) / P = 0 := Int.ediv_eq_zero_of_lt (by omega) (by omega)
      have e2 := Int.add_mul_ediv_right x 1 (show P ≠ 0 by omega)
      rw [Int.one_mul] at e2
      omega
    · left
      exact Int.ediv_eq_zero_of_lt h hb
theorem fitsU_of (N : Nat) (x : Int) (h0 : 0 ≤ x) (h : x < 256 ^ N) : fitsU N x = true := by
  unfold fitsU
  rw [Int.toNat_natCast, Int.ediv_eq_zero_of_lt h0 h]
  simp

theorem bn_wrap (x : Int) : beN 8 (IntKind.u64.wrap x) = beN 8 x := by
  have e : IntKind.u64.wrap x = x + (-(x / 18446744073709551616)) * 256 ^ 8 := by
    rw [IntKind.wrap_u64]
    have : (256 : Int) ^ 8 = 18446744073709551616 := by decide
    rw [this]; omega
  rw [e, beN_add]

end Go.Proofs.Ytcinmgifadmbeaa
