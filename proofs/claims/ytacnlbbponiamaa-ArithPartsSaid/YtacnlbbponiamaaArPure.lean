/- Numbers of 32 and 64 bits: what the layer arith and its reference compute, as plain laws; no condition. -/
import Derived.WalkKit
namespace Go.Proofs.Ytacnlbbponiamaa
open Go.RowKit
set_option linter.unusedVariables false

def in32 (x : Int) : Prop := -2147483648 ≤ x ∧ x < 2147483648
def in64 (x : Int) : Prop := -9223372036854775808 ≤ x ∧ x < 9223372036854775808

theorem wrap32_in (x : Int) : in32 (wrap32 x) := by unfold in32 wrap32; omega
theorem wrap64_in (x : Int) : in64 (wrap64 x) := by unfold in64 wrap64; omega
theorem wrap32_id {x : Int} (h : in32 x) : wrap32 x = x := by unfold in32 at h; unfold wrap32; omega
theorem wrap64_id {x : Int} (h : in64 x) : wrap64 x = x := by unfold in64 at h; unfold wrap64; omega
theorem wrap32_64 (x : Int) : wrap32 (wrap64 x) = wrap32 x := by unfold wrap32 wrap64; omega
theorem i32_wrap (x : Int) : IntKind.i32.wrap x = wrap32 x := by
  unfold IntKind.wrap wrap32
  simp [IntKind.signed, IntKind.bits]
  omega
theorem i64_wrap (x : Int) : IntKind.i64.wrap x = wrap64 x := by
  unfold IntKind.wrap wrap64
  simp [IntKind.signed, IntKind.bits]
  omega
theorem u64_wrap (x : Int) : IntKind.u64.wrap x = x % 18446744073709551616 := by
  unfold IntKind.wrap
  simp [IntKind.signed, IntKind.bits]
theorem u32_wrap (x : Int) : IntKind.u32.wrap x = x % 4294967296 := by
  unfold IntKind.wrap
  simp [IntKind.signed, IntKind.bits]

/-! ### Bits -/
theorem bits_and' (k : IntKind) (a b : Int) : bits .and k a b = k.wrap (BitVec.ofInt k.bits a &&& BitVec.ofInt k.bits b).toNat := rfl
theorem bits_or' (k : IntKind) (a b : Int) : bits .or k a b = k.wrap (BitVec.ofInt k.bits a ||| BitVec.ofInt k.bits b).toNat := rfl
theorem bits_xor' (k : IntKind) (a b : Int) : bits .xor k a b = k.wrap (BitVec.ofInt k.bits a ^^^ BitVec.ofInt k.bits b).toNat := rfl

theorem setW (a : Int) : (BitVec.ofInt 64 a).setWidth 32 = BitVec.ofInt 32 a := by
  apply BitVec.eq_of_toNat_eq
  rw [BitVec.toNat_setWidth, BitVec.toNat_ofInt, BitVec.toNat_ofInt]
  show (a % 18446744073709551616).toNat % 4294967296 = (a % 4294967296).toNat
  omega
theorem wrap_cut (X : BitVec 64) : wrap32 (X.toNat : Int) = wrap32 ((X.setWidth 32).toNat : Int) := by
  rw [BitVec.toNat_setWidth]
  show wrap32 (X.toNat : Int) = wrap32 ((X.toNat % 4294967296 : Nat) : Int)
  unfold wrap32
  omega
theorem cut_and (a b : Int) : wrap32 (bits .and .i64 a b) = bits .and .i32 a b := by
  rw [bits_and', bits_and', i64_wrap, i32_wrap, wrap32_64]
  show wrap32 ((BitVec.ofInt 64 a &&& BitVec.ofInt 64 b).toNat : Int) = wrap32 ((BitVec.ofInt 32 a &&& BitVec.ofInt 32 b).toNat : Int)
  rw [wrap_cut, BitVec.setWidth_and, setW, setW]
theorem cut_or (a b : Int) : wrap32 (bits .or .i64 a b) = bits .or .i32 a b := by
  rw [bits_or', bits_or', i64_wrap, i32_wrap, wrap32_64]
  show wrap32 ((BitVec.ofInt 64 a ||| BitVec.ofInt 64 b).toNat : Int) = wrap32 ((BitVec.ofInt 32 a ||| BitVec.ofInt 32 b).toNat : Int)
  rw [wrap_cut, BitVec.setWidth_or, setW, setW]
theorem cut_xor (a b : Int) : wrap32 (bits .xor .i64 a b) = bits .xor .i32 a b := by
  rw [bits_xor', bits_xor', i64_wrap, i32_wrap, wrap32_64]
  show wrap32 ((BitVec.ofInt 64 a ^^^ BitVec.ofInt 64 b).toNat : Int) = wrap32 ((BitVec.ofInt 32 a ^^^ BitVec.ofInt 32 b).toNat : Int)
  rw [wrap_cut, BitVec.setWidth_xor, setW, setW]
theorem cut_sum (a b : Int) : wrap32 (wrap64 (a + b)) = wrap32 (a + b) := wrap32_64 _

theorem of_wrap32 (X : BitVec 32) : BitVec.ofInt 32 (wrap32 (X.toNat : Int)) = X := by
  apply BitVec.eq_of_toNat_eq
  rw [BitVec.toNat_ofInt]
  have := X.isLt
  unfold wrap32
  simp
  omega
theorem of_wrap64 (X : BitVec 64) : BitVec.ofInt 64 (wrap64 (X.toNat : Int)) = X := by
  apply BitVec.eq_of_toNat_eq
  rw [BitVec.toNat_ofInt]
  have := X.isLt
  unfold wrap64
  simp
  omega
theorem wrap_of32 {a : Int} (h : in32 a) : wrap32 ((BitVec.ofInt 32 a).toNat : Int) = a := by
  rw [BitVec.toNat_ofInt]
  unfold in32 at h
  unfold wrap32
  simp
  omega
theorem wrap_of64 {a : Int} (h : in64 a) : wrap64 ((BitVec.ofInt 64 a).toNat : Int) = a := by
  rw [BitVec.toNat_ofInt]
  unfold in64 at h
  unfold wrap64
  simp
  omega
theorem xor_back32 {a : Int} (b : Int) (h : in32 a) : bits .xor .i32 (bits .xor .i32 a b) b = a := by
  rw [bits_xor', bits_xor', i32_wrap, i32_wrap]
  show wrap32 ((BitVec.ofInt 32 (wrap32 ((BitVec.ofInt 32 a ^^^ BitVec.ofInt 32 b).toNat : Int)) ^^^ BitVec.ofInt 32 b).toNat : Int) = a
  rw [of_wrap32, BitVec.xor_assoc, BitVec.xor_self, BitVec.xor_zero, wrap_of32 h]
theorem xor_back64 {a : Int} (b : Int) (h : in64 a) : bits .xor .i64 (bits .xor .i64 a b) b = a := by
  rw [bits_xor', bits_xor', i64_wrap, i64_wrap]
  show wrap64 ((BitVec.ofInt 64 (wrap64 ((BitVec.ofInt 64 a ^^^ BitVec.ofInt 64 b).toNat : Int)) ^^^ BitVec.ofInt 64 b).toNat : Int) = a
  rw [of_wrap64, BitVec.xor_assoc, BitVec.xor_self, BitVec.xor_zero, wrap_of64 h]
theorem neg_back32 {a : Int} (h : in32 a) : wrap32 (-wrap32 (-a)) = a := by unfold in32 at h; unfold wrap32; omega
theorem neg_back64 {a : Int} (h : in64 a) : wrap64 (-wrap64 (-a)) = a := by unfold in64 at h; unfold wrap64; omega
theorem sum_back32 {a : Int} (b : Int) (h : in32 a) : wrap32 (wrap32 (a + b) - b) = a := by unfold in32 at h; unfold wrap32; omega
theorem sum_back64 {a : Int} (b : Int) (h : in64 a) : wrap64 (wrap64 (a + b) - b) = a := by unfold in64 at h; unfold wrap64; omega
theorem bits_in32 (o : BinOp) (a b : Int) (ho : o = .and ∨ o = .or ∨ o = .xor) : in32 (bits o .i32 a b) := by
  rcases ho with rfl | rfl | rfl
  · rw [bits_and', i32_wrap]; exact wrap32_in _
  · rw [bits_or', i32_wrap]; exact wrap32_in _
  · rw [bits_xor', i32_wrap]; exact wrap32_in _
theorem bits_in64 (o : BinOp) (a b : Int) (ho : o = .and ∨ o = .or ∨ o = .xor) : in64 (bits o .i64 a b) := by
  rcases ho with rfl | rfl | rfl
  · rw [bits_and', i64_wrap]; exact wrap64_in _
  · rw [bits_or', i64_wrap]; exact wrap64_in _
  · rw [bits_xor', i64_wrap]; exact wrap64_in _

theorem nat_and31 (m : Nat) : m &&& 31 = m % 32 := Nat.and_two_pow_sub_one_eq_mod m 5
theorem nat_and63 (m : Nat) : m &&& 63 = m % 64 := Nat.and_two_pow_sub_one_eq_mod m 6
theorem and31_i32 (b : Int) : bits .and .i32 b 31 = b % 32 := by
  rw [bits_and', i32_wrap]
  show wrap32 ((BitVec.ofInt 32 b &&& BitVec.ofInt 32 31).toNat : Int) = b % 32
  rw [BitVec.toNat_and, show (BitVec.ofInt 32 31).toNat = 31 from rfl, nat_and31, BitVec.toNat_ofInt]
  unfold wrap32
  simp
  omega
theorem and63_i32 (b : Int) : bits .and .i32 b 63 = b % 64 := by
  rw [bits_and', i32_wrap]
  show wrap32 ((BitVec.ofInt 32 b &&& BitVec.ofInt 32 63).toNat : Int) = b % 64
  rw [BitVec.toNat_and, show (BitVec.ofInt 32 63).toNat = 63 from rfl, nat_and63, BitVec.toNat_ofInt]
  unfold wrap32
  simp
  omega
theorem and31_u64 (b : Int) : bits .and .u64 b 31 = b % 32 := by
  rw [bits_and', u64_wrap]
  show ((BitVec.ofInt 64 b &&& BitVec.ofInt 64 31).toNat : Int) % 18446744073709551616 = b % 32
  rw [BitVec.toNat_and, show (BitVec.ofInt 64 31).toNat = 31 from rfl, nat_and31, BitVec.toNat_ofInt]
  simp
  omega
theorem and63_u64 (b : Int) : bits .and .u64 b 63 = b % 64 := by
  rw [bits_and', u64_wrap]
  show ((BitVec.ofInt 64 b &&& BitVec.ofInt 64 63).toNat : Int) % 18446744073709551616 = b % 64
  rw [BitVec.toNat_and, show (BitVec.ofInt 64 63).toNat = 63 from rfl, nat_and63, BitVec.toNat_ofInt]
  simp
  omega

/-! ### Quotients and rests -/
theorem quo_abs (a b : Int) (hb : b ≠ 0) (hb1 : b ≠ -1) : (a.tdiv b = a ∧ b = 1) ∨ 2 * (a.tdiv b).natAbs ≤ a.natAbs := by
  by_cases h1 : b = 1
  · subst h1; left; exact ⟨Int.tdiv_one a, rfl⟩
  · right
    rw [Int.natAbs_tdiv]
    have : 2 ≤ b.natAbs := by omega
    have h2 : a.natAbs / b.natAbs * b.natAbs ≤ a.natAbs := Nat.div_mul_le_self _ _
    have h3 : a.natAbs / b.natAbs * 2 ≤ a.natAbs / b.natAbs * b.natAbs := Nat.mul_le_mul_left _ this
    show 2 * (a.natAbs / b.natAbs) ≤ _
    omega
theorem quo_in64 {a b : Int} (ha : in64 a) (hb : b ≠ 0) (hb1 : b ≠ -1) : in64 (a.tdiv b) := by
  unfold in64 at *
  rcases quo_abs a b hb hb1 with ⟨h, _⟩ | h
  · rw [h]; exact ha
  · omega
theorem quo_in32 {a b : Int} (ha : in32 a) (hb : b ≠ 0) (hb1 : b ≠ -1) : in32 (a.tdiv b) := by
  unfold in32 at *
  rcases quo_abs a b hb hb1 with ⟨h, _⟩ | h
  · rw [h]; exact ha
  · omega
theorem rest_abs (a b : Int) (hb : b ≠ 0) : (a.tmod b).natAbs < b.natAbs := by
  rw [Int.natAbs_tmod]
  exact Nat.mod_lt _ (by omega)
theorem rest_sign (a b : Int) : (0 ≤ a → 0 ≤ a.tmod b) ∧ (a ≤ 0 → a.tmod b ≤ 0) := by
  constructor
  · intro h; exact Int.tmod_nonneg b h
  · intro h
    have h1 := Int.tmod_nonneg b (a := -a) (by omega)
    rw [Int.neg_tmod] at h1
    omega
theorem rest_in64 {a b : Int} (hb' : in64 b) (hb : b ≠ 0) : in64 (a.tmod b) := by
  have := rest_abs a b hb
  unfold in64 at *
  have h := rest_sign a b
  omega
theorem rest_in32 {a b : Int} (hb' : in32 b) (hb : b ≠ 0) : in32 (a.tmod b) := by
  have := rest_abs a b hb
  unfold in32 at *
  omega
theorem rest_of (a b : Int) : a - a.tdiv b * b = a.tmod b := by
  rw [Int.tmod_def, Int.mul_comm]

/-- A quotient of 32, of 64 bits; the divisor is not 0. -/
def quo32 (a b : Int) : Int := if b = -1 then wrap32 (-a) else wrap32 (a.tdiv b)
def quo64 (a b : Int) : Int := if b = -1 then wrap64 (-a) else wrap64 (a.tdiv b)
def rest32 (a b : Int) : Int := wrap32 (a - wrap32 (quo32 a b * b))
def rest64 (a b : Int) : Int := wrap64 (a - wrap64 (quo64 a b * b))
theorem rest32_of {a b : Int} (ha : in32 a) (hb : b ≠ 0) (hb' : in32 b) : rest32 a b = if b = -1 then 0 else a.tmod b := by
  unfold rest32 quo32
  by_cases h : b = -1
  · subst h
    simp only [if_true]
    unfold in32 at ha
    unfold wrap32
    omega
  · rw [if_neg h, if_neg h, wrap32_id (quo_in32 ha hb h)]
    have h1 := rest_of a b
    have h2 := rest_in32 (a := a) hb' hb
    generalize a.tdiv b * b = p at *
    generalize a.tmod b = r at *
    subst h1
    unfold in32 at h2
    unfold wrap32
    omega
theorem rest64_of {a b : Int} (ha : in64 a) (hb : b ≠ 0) (hb' : in64 b) : rest64 a b = if b = -1 then 0 else a.tmod b := by
  unfold rest64 quo64
  by_cases h : b = -1
  · subst h
    simp only [if_true]
    unfold in64 at ha
    unfold wrap64
    omega
  · rw [if_neg h, if_neg h, wrap64_id (quo_in64 ha hb h)]
    have h1 := rest_of a b
    have h2 := rest_in64 (a := a) hb' hb
    generalize a.tdiv b * b = p at *
    generalize a.tmod b = r at *
    subst h1
    unfold in64 at h2
    unfold wrap64
    omega
theorem quo32_cut {a b : Int} (ha : in32 a) (hb : b ≠ 0) : wrap32 (quo64 a b) = quo32 a b := by
  unfold quo64 quo32
  by_cases h : b = -1
  · rw [if_pos h, if_pos h, wrap32_64]
  · rw [if_neg h, if_neg h, wrap32_64]
/-- The quotient times the divisor, and the rest, are the number. -/
theorem parts32 {a b : Int} (ha : in32 a) : wrap32 (wrap32 (quo32 a b * b) + rest32 a b) = a := by
  unfold rest32
  generalize quo32 a b * b = p
  unfold in32 at ha
  unfold wrap32
  omega
theorem parts64 {a b : Int} (ha : in64 a) : wrap64 (wrap64 (quo64 a b * b) + rest64 a b) = a := by
  unfold rest64
  generalize quo64 a b * b = p
  unfold in64 at ha
  unfold wrap64
  omega
theorem rest32_small {a b : Int} (ha : in32 a) (hb : b ≠ 0) (hb' : in32 b) : wrap64 (rest32 a b * rest32 a b) < wrap64 (b * b) := by
  have h1 : (rest32 a b).natAbs < b.natAbs := by
    rw [rest32_of ha hb hb']
    split
    · omega
    · exact rest_abs a b hb
  generalize rest32 a b = r at h1
  have h2 : r * r = (r.natAbs * r.natAbs : Nat) := (Int.natAbs_mul_self (a := r)).symm
  have h3 : b * b = (b.natAbs * b.natAbs : Nat) := (Int.natAbs_mul_self (a := b)).symm
  have h4 : r.natAbs * r.natAbs < b.natAbs * b.natAbs := Nat.mul_lt_mul'' h1 h1
  have h5 : b.natAbs ≤ 2147483648 := by unfold in32 at hb'; omega
  have h6 : b.natAbs * b.natAbs ≤ 2147483648 * 2147483648 := Nat.mul_le_mul h5 h5
  rw [h2, h3]
  generalize r.natAbs * r.natAbs = x at *
  generalize b.natAbs * b.natAbs = y at *
  rw [wrap64_id (by unfold in64; omega), wrap64_id (by unfold in64; omega)]
  omega
theorem rest32_sign {a b : Int} (ha : in32 a) (hb : b ≠ 0) (hb' : in32 b) : rest32 a b = 0 ∨ (decide (rest32 a b < 0) = decide (a < 0)) := by
  rw [rest32_of ha hb hb']
  split
  · exact .inl rfl
  · have h := rest_sign a b
    by_cases h0 : a.tmod b = 0
    · exact .inl h0
    · right
      rw [Bool.eq_iff_iff]
      simp only [decide_eq_true_eq]
      omega
theorem rest64_sign {a b : Int} (ha : in64 a) (hb : b ≠ 0) (hb' : in64 b) : rest64 a b = 0 ∨ (decide (rest64 a b < 0) = decide (a < 0)) := by
  rw [rest64_of ha hb hb']
  split
  · exact .inl rfl
  · have h := rest_sign a b
    by_cases h0 : a.tmod b = 0
    · exact .inl h0
    · right
      rw [Bool.eq_iff_iff]
      simp only [decide_eq_true_eq]
      omega

/-! ### Shifts -/
theorem mod32_in (b : Int) : 0 ≤ b % 32 ∧ b % 32 < 32 := by omega
theorem mod64_in (b : Int) : 0 ≤ b % 64 ∧ b % 64 < 64 := by omega
end Go.Proofs.Ytacnlbbponiamaa
