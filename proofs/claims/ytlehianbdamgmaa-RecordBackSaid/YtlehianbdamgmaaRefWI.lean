/- The reference's writer: numbers with a sign, and bytes. -/
import Derived.Test.YtlehianbdamgmaaRefW
namespace Go.Proofs.Ytlehianbdamgmaa
open Go.RowKit
set_option linter.unusedVariables false

set_option maxRecDepth 100000 in
set_option maxHeartbeats 1000000 in
theorem rint_count (g : Nat) (n x : Int) (w : World) (h : n < 1 ∨ 8 < n) :
    Calls Try.prog 71 #[.pointer (some ⟨g, 0, none⟩), .int .i64 n, .int .i64 x] w fun e w' => e = .returned (.int .i64 1) ∧ w = w' := by
  rcases h with h | h
  · go_enter Try.func71, Try.ntmps71
    go_wp2_with fail
    go_ret
    exact ⟨rfl, rfl⟩
  · have h1 : ¬ n < 1 := by omega
    go_enter Try.func71, Try.ntmps71
    go_wp2_with fail
    go_ret
    exact ⟨rfl, rfl⟩

theorem byte_add (x k : Int) (j d : Nat) : (x + k * 256 ^ (j + 1 + d)) / 256 ^ j % 256 = x / 256 ^ j % 256 := by
  have hp : (0 : Int) < 256 ^ j := Int.pow_pos (by decide)
  have e : k * (256 : Int) ^ (j + 1 + d) = (k * 256 ^ d * 256) * 256 ^ j := by
    rw [Int.pow_add, Int.pow_add, Int.pow_one]
    simp only [Int.mul_assoc, Int.mul_comm, Int.mul_left_comm]
  rw [e, Int.add_mul_ediv_right _ _ (by omega)]
  omega
theorem beN_add_aux (x k : Int) (N : Nat) : ∀ n, n ≤ N → beN n (x + k * 256 ^ N) = beN n x := by
  intro n
  induction n with
  | zero => intro _; rfl
  | succ n ih =>
    intro hn
    simp only [beN]
    rw [ih (by omega)]
    obtain ⟨d, rfl⟩ := Nat.exists_eq_add_of_le hn
    rw [byte_add]
theorem beN_add (x k : Int) (N : Nat) : beN N (x + k * 256 ^ N) = beN N x := beN_add_aux x k N N (Nat.le_refl _)

theorem half_pow (N : Nat) (h1 : 1 ≤ N) : (256 : Int) ^ N = 2 * 2 ^ (8 * N - 1) := by
  rw [← pow256]
  obtain ⟨M, rfl⟩ : ∃ M, N = M + 1 := ⟨N - 1, by omega⟩
  rw [show 8 * (M + 1) = (8 * (M + 1) - 1) + 1 from by omega, Int.pow_succ]
  simp only [Nat.add_sub_cancel]
  omega
theorem pow_small (N : Nat) (h2 : N < 8) : (2 : Int) ^ (8 * N - 1) ≤ 36028797018963968 := by
  have : (2 : Int) ^ (8 * N - 1) ≤ 2 ^ 55 := by
    obtain ⟨d, hd⟩ := Nat.exists_eq_add_of_le (show 8 * N - 1 ≤ 55 by omega)
    rw [hd, Int.pow_add]
    have h1 : (0 : Int) < 2 ^ (8 * N - 1) := Int.pow_pos (by decide)
    have h2 : (0 : Int) < 2 ^ d := Int.pow_pos (by decide)
    have h3 : (2 : Int) ^ (8 * N - 1) * 1 ≤ 2 ^ (8 * N - 1) * 2 ^ d := Int.mul_le_mul_of_nonneg_left (by omega) (by omega)
    omega
  omega
theorem fitsI_iff (N : Nat) (x : Int) (h1 : 1 ≤ N) (h2 : N < 8) : fitsI N x = true ↔ -(2 ^ (8 * N - 1)) ≤ x ∧ x < 2 ^ (8 * N - 1) := by
  have e : (8 * (N : Int)).toNat = 8 * N := by omega
  have hp : (0 : Int) < 2 ^ (8 * N - 1) := Int.pow_pos (by decide)
  unfold fitsI
  rw [e]
  generalize (2 : Int) ^ (8 * N - 1) = P at *
  have hn1 : decide ((N : Int) < 1) = false := by simp; omega
  have hn2 : decide (7 < (N : Int)) = false := by simp; omega
  rw [hn1, hn2]
  simp only [Bool.false_or, Bool.or_eq_true, beq_iff_eq]
  constructor
  · rintro (h | h)
    · have a := Int.mul_ediv_add_emod x P
      have b := Int.emod_nonneg x (show P ≠ 0 by omega)
      have c := Int.emod_lt_of_pos x hp
      rw [h] at a; simp at a; omega
    · have a := Int.mul_ediv_add_emod x P
      have b := Int.emod_nonneg x (show P ≠ 0 by omega)
      have c := Int.emod_lt_of_pos x hp
      rw [h] at a; simp at a; omega
  · rintro ⟨ha, hb⟩
    rcases Int.lt_or_le x 0 with h | h
    · right
      have : (x + P) / P = 0 := Int.ediv_eq_zero_of_lt (by omega) (by omega)
      have e2 := Int.add_mul_ediv_right x 1 (show P ≠ 0 by omega)
      rw [Int.one_mul] at e2
      omega
    · left
      exact Int.ediv_eq_zero_of_lt h hb
theorem fitsU_of (N : Nat) (x : Int) (h0 : 0 ≤ x) (h : x < 256 ^ N) : fitsU N x = true := by
  unfold fitsU
  rw [Int.toNat_natCast, Int.ediv_eq_zero_of_lt h0 h]
  simp

set_option maxHeartbeats 400000 in
theorem ruint_any (F : Nat → Prop) (base g : Nat) (most : Int) (xs : List Int) (n x : Int) (w : World) (hW : RWr w F base g most xs) :
    Calls Try.prog 60 #[.pointer (some ⟨g, 0, none⟩), .int .i64 n, .int .u64 x] w
      (RWPost w F base g most (putCode n (fitsU n x) xs.length most) (putNew n x (fitsU n x) most xs)) := by
  by_cases hn : n < 1 ∨ 8 < n
  · have e : putCode n (fitsU n x) xs.length most = 1 := by unfold putCode; rw [if_pos (by omega)]
    unfold putNew; rw [e, if_neg (by decide)]
    exact (ruint_count g n x w hn).mono fun _ _ ⟨he, hw⟩ => by subst hw; exact ⟨he, hW.same⟩
  · obtain ⟨N, rfl⟩ := Int.eq_ofNat_of_zero_le (show 0 ≤ n by omega)
    by_cases h8 : 7 < N
    · have ef : fitsU N x = true := by unfold fitsU; have : decide (7 < (N : Int)) = true := by (simp; omega)
                                       rw [this]; simp
      rw [ef]
      by_cases hl : most < (xs.length : Int) + N
      · have e : putCode N true xs.length most = 2 := by unfold putCode; rw [if_neg (by simp; omega), if_pos hl]
        unfold putNew; rw [e, if_neg (by decide)]
        exact (ruint_long_eight F base g most xs N x w hW (by omega) h8 (by omega) hl).mono fun _ _ ⟨he, m, hw⟩ => by subst hw; exact ⟨he, hW.drewN_ m⟩
      · have e : putCode N true xs.length most = 0 := by unfold putCode; rw [if_neg (by simp; omega), if_neg hl]
        unfold putNew; rw [e, if_pos rfl]
        exact (ruint_yes_eight F base g most xs N x w hW (by omega) h8 (by omega) (by omega)).mono fun _ _ ⟨he, h1, h2⟩ => ⟨he, h1, h2⟩
    · have ef : fitsU N x = (x / 256 ^ N == 0) := by
        unfold fitsU
        have a : decide ((N : Int) < 1) = false := by simp; omega
        have b : decide (7 < (N : Int)) = false := by simp; omega
        rw [a, b, Int.toNat_natCast]; rfl
      rw [ef]
      cases hq : (x / 256 ^ N == 0) with
      | false =>
        have e : putCode N false xs.length most = 1 := by unfold putCode; rw [if_pos (by simp)]
        unfold putNew; rw [e, if_neg (by decide)]
        exact (ruint_arg g N x w (by omega) (by omega) hq).mono fun _ _ ⟨he, hw⟩ => by subst hw; exact ⟨he, hW.same⟩
      | true =>
        by_cases hl : most < (xs.length : Int) + N
        · have e : putCode N true xs.length most = 2 := by unfold putCode; rw [if_neg (by simp; omega), if_pos hl]
          unfold putNew; rw [e, if_neg (by decide)]
          exact (ruint_long_small F base g most xs N x w hW (by omega) (by omega) hq hl).mono fun _ _ ⟨he, m, hw⟩ => by subst hw; exact ⟨he, hW.drewN_ m⟩
        · have e : putCode N true xs.length most = 0 := by unfold putCode; rw [if_neg (by simp; omega), if_neg hl]
          unfold putNew; rw [e, if_pos rfl]
          exact (ruint_yes_small F base g most xs N x w hW (by omega) (by omega) hq (by omega)).mono fun _ _ ⟨he, h1, h2⟩ => ⟨he, h1, h2⟩

set_option maxRecDepth 100000 in
set_option maxHeartbeats 1000000 in
theorem rint_low (g : Nat) (N : Nat) (x P : Int) (w : World) (h1 : 1 ≤ N) (h2 : N < 8) (hP : (2 : Int) ^ (8 * N - 1) = P) (hP0 : 0 < P) (hP1 : P ≤ 36028797018963968) (h : x < -P) :
    Calls Try.prog 71 #[.pointer (some ⟨g, 0, none⟩), .int .i64 N, .int .i64 x] w fun e w' => e = .returned (.int .i64 1) ∧ w = w' := by
  have hp1 : (8 * (N : Int)).toNat = 8 * N := by omega
  have h3 : 8 * (N : Int) ≤ 64 := by omega
  go_enter Try.func71, Try.ntmps71
  go_wp2_with fail
  go_ret
  exact ⟨rfl, rfl⟩

set_option maxRecDepth 100000 in
set_option maxHeartbeats 1000000 in
theorem rint_high (g : Nat) (N : Nat) (x P : Int) (w : World) (h1 : 1 ≤ N) (h2 : N < 8) (hP : (2 : Int) ^ (8 * N - 1) = P) (hP0 : 0 < P) (hP1 : P ≤ 36028797018963968) (h0 : -P ≤ x) (h : P - 1 < x) :
    Calls Try.prog 71 #[.pointer (some ⟨g, 0, none⟩), .int .i64 N, .int .i64 x] w fun e w' => e = .returned (.int .i64 1) ∧ w = w' := by
  have hp1 : (8 * (N : Int)).toNat = 8 * N := by omega
  have h3 : 8 * (N : Int) ≤ 64 := by omega
  go_enter Try.func71, Try.ntmps71
  go_wp2_with fail
  go_ret
  exact ⟨rfl, rfl⟩

set_option maxRecDepth 100000 in
set_option maxHeartbeats 1000000 in
theorem rint_neg (g : Nat) (N : Nat) (x P : Int) (w : World) (R : Int → World → Prop) (h1 : 1 ≤ N) (hP : (2 : Int) ^ (8 * N - 1) = P) (hP0 : 0 < P) (hP1 : P ≤ 36028797018963968) (h2 : N < 8) (h0 : -P ≤ x) (h : x < 0) (hQ : (2 : Int) ^ (8 * N) = 2 * P)
    (hU : Calls Try.prog 60 #[.pointer (some ⟨g, 0, none⟩), .int .i64 N, .int .u64 (x + 2 * P)] w fun e w' => ∃ v, e = .returned (.int .i64 v) ∧ R v w') :
    Calls Try.prog 71 #[.pointer (some ⟨g, 0, none⟩), .int .i64 N, .int .i64 x] w fun e w' => ∃ v, e = .returned (.int .i64 v) ∧ R v w' := by
  have hp1 : (8 * (N : Int)).toNat = 8 * N := by omega
  have h3 : 8 * (N : Int) ≤ 64 := by omega
  replace hU := Lib.hid hU
  go_enter Try.func71, Try.ntmps71
  go_wp2_with fail
  refine hU.out.mono ?_
  rintro e w1 ⟨v, rfl, hq⟩
  go_wp2_with fail
  go_ret
  exact ⟨v, rfl, hq⟩

set_option maxRecDepth 100000 in
set_option maxHeartbeats 1000000 in
theorem rint_nn (g : Nat) (N : Nat) (x P : Int) (w : World) (R : Int → World → Prop) (h1 : 1 ≤ N) (hP : (2 : Int) ^ (8 * N - 1) = P) (hP0 : 0 < P) (hP1 : P ≤ 36028797018963968) (h2 : N < 8) (h0 : 0 ≤ x) (h : x ≤ P - 1)
    (hU : Calls Try.prog 60 #[.pointer (some ⟨g, 0, none⟩), .int .i64 N, .int .u64 (x)] w fun e w' => ∃ v, e = .returned (.int .i64 v) ∧ R v w') :
    Calls Try.prog 71 #[.pointer (some ⟨g, 0, none⟩), .int .i64 N, .int .i64 x] w fun e w' => ∃ v, e = .returned (.int .i64 v) ∧ R v w' := by
  have hp1 : (8 * (N : Int)).toNat = 8 * N := by omega
  have h3 : 8 * (N : Int) ≤ 64 := by omega
  replace hU := Lib.hid hU
  go_enter Try.func71, Try.ntmps71
  go_wp2_with fail
  refine hU.out.mono ?_
  rintro e w1 ⟨v, rfl, hq⟩
  go_wp2_with fail
  go_ret
  exact ⟨v, rfl, hq⟩

set_option maxRecDepth 100000 in
set_option maxHeartbeats 1000000 in
theorem rint_eight_neg (g : Nat) (N : Nat) (x : Int) (w : World) (R : Int → World → Prop) (h1 : 7 < N) (h2 : N ≤ 8) (h : x < 0) (hx0 : -9223372036854775808 ≤ x) (hx1 : x < 9223372036854775808)
    (hU : Calls Try.prog 60 #[.pointer (some ⟨g, 0, none⟩), .int .i64 N, .int .u64 (IntKind.u64.wrap x)] w fun e w' => ∃ v, e = .returned (.int .i64 v) ∧ R v w') :
    Calls Try.prog 71 #[.pointer (some ⟨g, 0, none⟩), .int .i64 N, .int .i64 x] w fun e w' => ∃ v, e = .returned (.int .i64 v) ∧ R v w' := by
  have hp1 : (8 * (N : Int)).toNat = 8 * N := by omega
  have h3 : 8 * (N : Int) ≤ 64 := by omega
  replace hU := Lib.hid hU
  go_enter Try.func71, Try.ntmps71
  go_wp2_with fail
  refine hU.out.mono ?_
  rintro e w1 ⟨v, rfl, hq⟩
  go_wp2_with fail
  go_ret
  exact ⟨v, rfl, hq⟩

set_option maxRecDepth 100000 in
set_option maxHeartbeats 1000000 in
theorem rint_eight_nn (g : Nat) (N : Nat) (x : Int) (w : World) (R : Int → World → Prop) (h1 : 7 < N) (h2 : N ≤ 8) (h : 0 ≤ x) (hx0 : -9223372036854775808 ≤ x) (hx1 : x < 9223372036854775808)
    (hU : Calls Try.prog 60 #[.pointer (some ⟨g, 0, none⟩), .int .i64 N, .int .u64 (x)] w fun e w' => ∃ v, e = .returned (.int .i64 v) ∧ R v w') :
    Calls Try.prog 71 #[.pointer (some ⟨g, 0, none⟩), .int .i64 N, .int .i64 x] w fun e w' => ∃ v, e = .returned (.int .i64 v) ∧ R v w' := by
  have hp1 : (8 * (N : Int)).toNat = 8 * N := by omega
  have h3 : 8 * (N : Int) ≤ 64 := by omega
  replace hU := Lib.hid hU
  go_enter Try.func71, Try.ntmps71
  go_wp2_with fail
  refine hU.out.mono ?_
  rintro e w1 ⟨v, rfl, hq⟩
  go_wp2_with fail
  go_ret
  exact ⟨v, rfl, hq⟩

theorem bn_wrap (x : Int) : beN 8 (IntKind.u64.wrap x) = beN 8 x := by
  have e : IntKind.u64.wrap x = x + (-(x / 18446744073709551616)) * 256 ^ 8 := by
    rw [IntKind.wrap_u64]
    have : (256 : Int) ^ 8 = 18446744073709551616 := by decide
    rw [this]; omega
  rw [e, beN_add]

def PostI (w : World) (F : Nat → Prop) (base g : Nat) (most : Int) (xs' : List Int) (code : Int) (v : Int) (w' : World) : Prop :=
  v = code ∧ RWr w' (Grow F w w') base g most xs' ∧ Turned F w w'

theorem rint_of_uint {F : Nat → Prop} {base g : Nat} {most : Int} {xs : List Int} {N : Nat} {x y : Int} {w : World} (hW : RWr w F base g most xs)
    (hf : fitsU N y = true) (hb : beN N y = beN N x) :
    Calls Try.prog 60 #[.pointer (some ⟨g, 0, none⟩), .int .i64 N, .int .u64 y] w fun e w' => ∃ v, e = .returned (.int .i64 v) ∧
      PostI w F base g most (putNew N x true most xs) (putCode N true xs.length most) v w' := by
  refine (ruint_any F base g most xs N y w hW).mono fun e w' ⟨he, h⟩ => ⟨_, he, ?_⟩
  rw [hf] at *
  refine ⟨rfl, ?_⟩
  have e2 : putNew N x true most xs = putNew N y true most xs := by
    unfold putNew
    rw [Int.toNat_natCast, hb]
  rw [e2]
  exact h

theorem rwint_any (F : Nat → Prop) (base g : Nat) (most : Int) (xs : List Int) (n x : Int) (w : World) (hW : RWr w F base g most xs)
    (hx0 : -9223372036854775808 ≤ x) (hx1 : x < 9223372036854775808) :
    Calls Try.prog 71 #[.pointer (some ⟨g, 0, none⟩), .int .i64 n, .int .i64 x] w
      (RWPost w F base g most (putCode n (fitsI n x) xs.length most) (putNew n x (fitsI n x) most xs)) := by
  by_cases hn : n < 1 ∨ 8 < n
  · have e : putCode n (fitsI n x) xs.length most = 1 := by unfold putCode; rw [if_pos (by omega)]
    unfold putNew; rw [e, if_neg (by decide)]
    exact (rint_count g n x w hn).mono fun _ _ ⟨he, hw⟩ => by subst hw; exact ⟨he, hW.same⟩
  · obtain ⟨N, rfl⟩ := Int.eq_ofNat_of_zero_le (show 0 ≤ n by omega)
    by_cases h8 : 7 < N
    · obtain rfl : N = 8 := by omega
      have ef : fitsI (8 : Nat) x = true := by unfold fitsI; simp
      rw [ef]
      have hfu : ∀ y, fitsU (8 : Nat) y = true := fun y => by unfold fitsU; simp
      by_cases h : x < 0
      · exact (rint_eight_neg g 8 x w _ (by omega) (by omega) h hx0 hx1 (rint_of_uint hW (hfu _) (bn_wrap x))).mono fun e w' ⟨v, he, hv, hp⟩ => ⟨by rw [he, hv], hp⟩
      · exact (rint_eight_nn g 8 x w _ (by omega) (by omega) (by omega) hx0 hx1 (rint_of_uint hW (hfu _) rfl)).mono fun e w' ⟨v, he, hv, hp⟩ => ⟨by rw [he, hv], hp⟩
    · have hi := fitsI_iff N x (by omega) (by omega)
      have hs := pow_small N (by omega)
      have hh := half_pow N (by omega)
      have hp : (0 : Int) < 2 ^ (8 * N - 1) := Int.pow_pos (by decide)
      have hq := pow256 N
      cases hf : fitsI N x with
      | false =>
        have e : putCode N false xs.length most = 1 := by unfold putCode; rw [if_pos (by simp)]
        unfold putNew; rw [e, if_neg (by decide)]
        rw [hf] at hi
        have hi' : ¬ (-(2 ^ (8 * N - 1)) ≤ x ∧ x < 2 ^ (8 * N - 1)) := fun h => by have := hi.2 h; cases this
        rcases Int.lt_or_le x (-(2 ^ (8 * N - 1))) with h | h
        · exact (rint_low g N x _ w (by omega) (by omega) rfl hp hs h).mono fun _ _ ⟨he, hw⟩ => by subst hw; exact ⟨he, hW.same⟩
        · exact (rint_high g N x _ w (by omega) (by omega) rfl hp hs h (by omega)).mono fun _ _ ⟨he, hw⟩ => by subst hw; exact ⟨he, hW.same⟩
      | true =>
        obtain ⟨ha, hb⟩ := hi.1 hf
        by_cases h : x < 0
        · refine (rint_neg g N x _ w _ (by omega) rfl hp hs (by omega) ha h (by omega) (rint_of_uint hW (fitsU_of N _ (by omega) (by omega)) ?_)).mono fun e w' ⟨v, he, hv, hp⟩ => ⟨by rw [he, hv], hp⟩
          rw [← hh, show x + (256 : Int) ^ N = x + 1 * 256 ^ N from by omega]
          exact beN_add x 1 N
        · exact (rint_nn g N x _ w _ (by omega) rfl hp hs (by omega) (by omega) (by omega) (rint_of_uint hW (fitsU_of N _ (by omega) (by omega)) rfl)).mono fun e w' ⟨v, he, hv, hp⟩ => ⟨by rw [he, hv], hp⟩

set_option maxRecDepth 100000 in
set_option maxHeartbeats 1000000 in
theorem rwbytes_any (F : Nat → Prop) (base g : Nat) (most : Int) (xs : List Int) (A : Option Addr) (n c : Nat) (bs : List Int) (w : World) (B : Nat) (hW : RWr w F base g most xs)
    (hr : ReadsB w B A bs) (hn : n = bs.length) (hm63 : n ≤ maxLen) :
    Calls Try.prog 61 #[.pointer (some ⟨g, 0, none⟩), .slice A n c] w
      (RWPost w F base g most (bytesCode n xs.length most) (bytesNew bs most xs)) := by
  unfold maxLen at hm63
  have hW0 := hW
  obtain ⟨A1, c1, hB, hO, hlm, hm, hbg, hFg, hFv, hFw⟩ := hW
  have c0 : w.cell? ⟨g, 0, none⟩ = some (.slice A1 xs.length c1) := hB.cell 0
  have c1' : w.cell? ⟨g, 1, none⟩ = some (.int .i64 most) := hB.cell 1
  have f0 := hB.frozen 0
  have hW0 := Lib.hid hW0
  by_cases hl : most < (xs.length : Int) + bs.length
  · have e1 : bytesCode n xs.length most = 2 := by unfold bytesCode; rw [if_pos (by omega)]
    have e2 : bytesNew bs most xs = xs := by unfold bytesNew; rw [if_pos hl]
    rw [e1, e2]
    clear e1 e2
    go_enter Try.func61, Try.ntmps61
    go_wp2_with fail
    go_quiet (fail)
    go_wp2_with fail
    go_ret
    exact ⟨rfl, hW0.out.drewN_ _⟩
  · have e1 : bytesCode n xs.length most = 0 := by unfold bytesCode; rw [if_neg (by omega)]
    have e2 : bytesNew bs most xs = xs ++ bs := by unfold bytesNew; rw [if_neg hl]
    rw [e1, e2]
    clear e1 e2
    have hzl : (xs ++ bs).length = xs.length + n := by simp; omega
    replace hzl := Lib.hid hzl
    have hbs : base ≤ w.heap.size := by have := (hFw g hFg); omega
    replace hn := Lib.hid hn
    have hl' : (xs.length : Int) + n ≤ most := by have := hn.out; omega
    go_enter Try.func61, Try.ntmps61
    go_wp2_with fail
    go_quiet (fail)
    obtain ⟨m1, rfl⟩ : ∃ m, m = nq := ⟨_, rfl⟩
    go_wp2_with (first
    | (at_builtin
       refine wpList_appB _ rfl (.tmp 22) (.tmp 23) rfl base (.slice A1 xs.length c1) xs rfl hO B A n c bs rfl hr hn.out
         (xs ++ bs) (xs.length + n) rfl hzl.out (by omega) hbs ?_
       intro A2 c2 w2 hown2 hg2 hb2 hat2
       have hB2 : Blk w2 g 100 #[.slice A1 xs.length c1, .int .i64 most] := Blk.grown (w := w.drewN m1) hB hg2 (own_blk_ne hO hB (by decide)).symm
       have c02 : w2.cell? ⟨g, 0, none⟩ = some (.slice A1 xs.length c1) := hB2.cell 0
       have f02 := hB2.frozen 0))
    go_ret
    obtain ⟨q1, q2⟩ := rwr_push (F := F) (w := w) (wr := w.drewN m1) ((Turned.refl _ _).drewN _) hB hO hm hbg (.inl hFg) (fun k hk => .inl (hFv k hk)) (fun k hk => by
      rcases hk with h | h
      · exact hFw k h
      · exfalso; simp at h; omega) (Below.refl _ _) hown2 hg2 hat2 hzl.out.symm (by rw [hzl.out]; omega)
    exact ⟨rfl, q1, q2⟩
end Go.Proofs.Ytlehianbdamgmaa
