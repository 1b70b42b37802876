/- Numbers out of bytes, the highest first. -/
import Derived.Laws.BitsAllLaws
import Derived.Laws.BitsLemmas
import Derived.Test.YtdilccihhelilaaMem
namespace Go.Proofs.Ytdilccihhelilaa
open Go.RowKit

/-- The number that bytes make behind a first number. -/
def gfold (x : Int) (xs : List Int) : Int := xs.foldl (fun a c => a * 256 + c) x
theorem gfold_nil (x : Int) : gfold x [] = x := rfl
theorem gfold_cons (x c : Int) (xs : List Int) : gfold x (c :: xs) = gfold (x * 256 + c) xs := rfl
theorem gfold_append (x : Int) (xs ys : List Int) : gfold x (xs ++ ys) = gfold (gfold x xs) ys := by simp [gfold, List.foldl_append]
theorem gfold_snoc (x : Int) (xs : List Int) (c : Int) : gfold x (xs ++ [c]) = gfold x xs * 256 + c := by simp [gfold, List.foldl_append]
theorem gfold_take (x : Int) (xs : List Int) (k : Nat) (h : k < xs.length) : gfold x (xs.take (k + 1)) = gfold x (xs.take k) * 256 + xs.getD k 0 := by
  rw [List.take_succ_eq_append_getElem h, gfold_snoc]
  simp [List.getD, List.getElem?_eq_getElem h]
theorem gfold_bd (xs : List Int) : ∀ (x M : Int), Bytes xs → -M ≤ x → x < M → -(M * 256 ^ xs.length) ≤ gfold x xs ∧ gfold x xs < M * 256 ^ xs.length := by
  induction xs with
  | nil => intro x M _ h1 h2; simp only [gfold_nil, List.length_nil, Int.pow_zero, Int.mul_one]; exact ⟨h1, h2⟩
  | cons c cs ih =>
    intro x M hb h1 h2
    have hc := hb c (List.mem_cons_self ..)
    have := ih (x * 256 + c) (M * 256) (fun n hn => hb n (List.mem_cons_of_mem _ hn)) (by omega) (by omega)
    rw [gfold_cons, List.length_cons, Int.pow_succ, Int.mul_comm (256 ^ cs.length) 256, ← Int.mul_assoc]
    exact this
theorem gfold_nn (xs : List Int) : ∀ (x : Int), Bytes xs → 0 ≤ x → 0 ≤ gfold x xs := by
  induction xs with
  | nil => intro x _ h; exact h
  | cons c cs ih =>
    intro x hb h
    have hc := hb c (List.mem_cons_self ..)
    exact ih (x * 256 + c) (fun n hn => hb n (List.mem_cons_of_mem _ hn)) (by omega)
theorem pow_mono256 {a b : Nat} (h : a ≤ b) : (256 : Int) ^ a ≤ 256 ^ b := by
  obtain ⟨d, rfl⟩ := Nat.exists_eq_add_of_le h
  rw [Int.pow_add]
  have h1 : (0 : Int) < 256 ^ a := Int.pow_pos (by decide)
  have h2 : (0 : Int) < 256 ^ d := Int.pow_pos (by decide)
  have h3 : (256 : Int) ^ a * 1 ≤ 256 ^ a * 256 ^ d := Int.mul_le_mul_of_nonneg_left (by omega) (by omega)
  omega
theorem gfold_step_bd {xs : List Int} {x M N : Int} {k : Nat} (hb : Bytes xs) (hk : k < xs.length) (h1 : -M ≤ x) (h2 : x < M) (hM : 0 ≤ M) (hN : M * 256 ^ xs.length ≤ N) :
    -N ≤ gfold x (xs.take k) * 256 + xs.getD k 0 ∧ gfold x (xs.take k) * 256 + xs.getD k 0 < N := by
  rw [← gfold_take x xs k hk]
  have h := gfold_bd (xs.take (k + 1)) x M (hb.take _) h1 h2
  have hl : (xs.take (k + 1)).length = k + 1 := by rw [List.length_take]; omega
  rw [hl] at h
  have hp : M * 256 ^ (k + 1) ≤ M * 256 ^ xs.length := Int.mul_le_mul_of_nonneg_left (pow_mono256 hk) hM
  omega

theorem u64_join {x c : Int} (h0 : 0 ≤ x) (h1 : x * 256 + c < 18446744073709551616) (hc : 0 ≤ c) (hc1 : c < 256) : bits .or .u64 (x * 256) c = x * 256 + c := by
  rw [u64_or (x * 256) c (by omega) (by omega) hc (by omega)]
  have e := nat_join 8 (x * 256).toNat c.toNat (by omega) (by omega)
  rw [e]; omega
theorem i64_join {x c : Int} (h0 : -9223372036854775808 ≤ x * 256) (h1 : x * 256 + c < 9223372036854775808) (hc : 0 ≤ c) (hc1 : c < 256) : bits .or .i64 (x * 256) c = x * 256 + c := by
  show IntKind.i64.wrap ((BitVec.ofInt 64 (x * 256) ||| BitVec.ofInt 64 c).toNat : Int) = _
  have e1 : (BitVec.ofInt 64 (x * 256)).toNat = (x * 256 % 18446744073709551616).toNat := by rw [BitVec.toNat_ofInt]; rfl
  have e2 : (BitVec.ofInt 64 c).toNat = c.toNat := by rw [BitVec.toNat_ofInt]; omega
  rw [BitVec.toNat_or, e1, e2, nat_join 8 _ _ (by omega) (by omega), IntKind.wrap_i64]
  omega
end Go.Proofs.Ytdilccihhelilaa
