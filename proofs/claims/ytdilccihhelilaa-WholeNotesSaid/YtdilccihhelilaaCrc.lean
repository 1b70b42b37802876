/- The sum of bytes on numbers of 32 bits; one round as the program writes it, and as the reference writes it. -/
import Derived.Laws.BitsAllLaws
import Derived.Below
namespace Go.Proofs.Ytdilccihhelilaa
open Go.RowKit

/-- One bit's round. -/
def turnB (s : BitVec 32) : BitVec 32 := s >>> 1 ^^^ (3988292384#32 &&& -(s &&& 1#32))
def turnsB : Nat → BitVec 32 → BitVec 32
  | 0, s => s
  | k + 1, s => turnB (turnsB k s)
/-- One byte. -/
def byteB (s : BitVec 32) (c : Int) : BitVec 32 := turnsB 8 (s ^^^ BitVec.ofInt 32 c)
/-- All bytes, the last ones' bits not yet turned about. -/
def crcB (xs : List Int) : BitVec 32 := xs.foldl byteB 4294967295#32
/-- The sum. -/
def sumB (xs : List Int) : Int := ((4294967295#32 ^^^ crcB xs).toNat : Int)

theorem crcB_snoc (xs : List Int) (c : Int) : crcB (xs ++ [c]) = byteB (crcB xs) c := by simp [crcB, List.foldl_append]
theorem crcB_take (xs : List Int) (k : Nat) (h : k < xs.length) : crcB (xs.take (k + 1)) = byteB (crcB (xs.take k)) (xs.getD k 0) := by
  rw [List.take_succ_eq_append_getElem h, crcB_snoc]
  simp [List.getD, List.getElem?_eq_getElem h]
theorem sumB_bd (xs : List Int) : 0 ≤ sumB xs ∧ sumB xs < 4294967296 := by unfold sumB; omega

theorem ofInt_toNat (x : BitVec 32) : BitVec.ofInt 32 (x.toNat : Int) = x := by
  apply BitVec.eq_of_toNat_eq
  rw [BitVec.ofInt_natCast, BitVec.toNat_ofNat]
  exact Nat.mod_eq_of_lt x.isLt
theorem u32_wrap_bv (x : BitVec 32) : IntKind.u32.wrap (x.toNat : Int) = (x.toNat : Int) := by
  rw [IntKind.wrap_u32]; have := x.isLt; omega
theorem bits_xor_bv (a b : Int) : bits .xor .u32 a b = ((BitVec.ofInt 32 a ^^^ BitVec.ofInt 32 b).toNat : Int) := by
  show IntKind.u32.wrap ((BitVec.ofInt 32 a ^^^ BitVec.ofInt 32 b).toNat : Int) = _
  exact u32_wrap_bv _
theorem bits_and_bv (a b : Int) : bits .and .u32 a b = ((BitVec.ofInt 32 a &&& BitVec.ofInt 32 b).toNat : Int) := by
  show IntKind.u32.wrap ((BitVec.ofInt 32 a &&& BitVec.ofInt 32 b).toNat : Int) = _
  exact u32_wrap_bv _
theorem bits_or_bv (a b : Int) : bits .or .u32 a b = ((BitVec.ofInt 32 a ||| BitVec.ofInt 32 b).toNat : Int) := by
  show IntKind.u32.wrap ((BitVec.ofInt 32 a ||| BitVec.ofInt 32 b).toNat : Int) = _
  exact u32_wrap_bv _
theorem half_bv (x : BitVec 32) : BitVec.ofInt 32 ((x.toNat : Int) / 2) = x >>> 1 := by
  apply BitVec.eq_of_toNat_eq
  have e : (x.toNat : Int) / 2 = ((x.toNat / 2 : Nat) : Int) := by omega
  rw [e, BitVec.ofInt_natCast, BitVec.toNat_ofNat, BitVec.toNat_ushiftRight, Nat.shiftRight_eq_div_pow]
  have := x.isLt
  rw [Nat.mod_eq_of_lt (by omega)]
theorem ofInt_emod32 (a : Int) : BitVec.ofInt 32 (a % 4294967296) = BitVec.ofInt 32 a := by
  apply BitVec.eq_of_toNat_eq
  simp [BitVec.toNat_ofInt]
theorem turn_walk (x : BitVec 32) :
    bits .xor .u32 ((x.toNat : Int) / 2) (bits .and .u32 3988292384 (-bits .and .u32 (x.toNat : Int) 1 % 4294967296)) = ((turnB x).toNat : Int) := by
  rw [bits_xor_bv, half_bv, bits_and_bv 3988292384, ofInt_emod32, ofInt_toNat, bits_and_bv, ofInt_toNat]
  have e : BitVec.ofInt 32 (-((x &&& BitVec.ofInt 32 1).toNat : Int)) = -(x &&& 1#32) := by
    rw [BitVec.ofInt_neg, ofInt_toNat]; rfl
  rw [e]
  rfl

/-- The reference's round: the two numbers, xored, are the program's one. -/
theorem turn_split (s x : BitVec 32) :
    (if (s ^^^ x) &&& 1#32 = 1#32 then (s >>> 1) ^^^ 3988292384#32 else s >>> 1) ^^^ (x >>> 1) = turnB (s ^^^ x) := by
  have h : (s ^^^ x) &&& 1#32 = 1#32 ∨ (s ^^^ x) &&& 1#32 = 0#32 := by
    have hx : ((s ^^^ x) &&& 1#32).toNat < 2 := by
      rw [BitVec.toNat_and]; exact Nat.lt_of_le_of_lt Nat.and_le_right (by decide)
    rcases Nat.lt_or_ge ((s ^^^ x) &&& 1#32).toNat 1 with h1 | h1
    · exact .inr (BitVec.eq_of_toNat_eq (by rw [show (0#32).toNat = 0 from rfl]; omega))
    · exact .inl (BitVec.eq_of_toNat_eq (by rw [show (1#32).toNat = 1 from rfl]; omega))
  unfold turnB
  rcases h with h | h
  · rw [if_pos h, h]
    have e : 3988292384#32 &&& -1#32 = 3988292384#32 := by decide
    rw [e, BitVec.ushiftRight_xor_distrib]
    simp only [BitVec.xor_assoc]
    congr 1
    rw [BitVec.xor_comm]
  · rw [if_neg (by rw [h]; decide), h]
    have e : 3988292384#32 &&& -0#32 = 0#32 := by decide
    rw [e, BitVec.ushiftRight_xor_distrib, BitVec.xor_zero]
theorem ofInt_byte {x : Int} (h0 : 0 ≤ x) (h1 : x < 256) : ((BitVec.ofInt 32 x).toNat : Int) = x := by
  rw [BitVec.toNat_ofInt]; omega
theorem half_nat (x : BitVec 32) : ((x >>> 1).toNat : Int) = (x.toNat : Int) / 2 := by
  rw [BitVec.toNat_ushiftRight, Nat.shiftRight_eq_div_pow]; omega
theorem one_test {s x : BitVec 32} {b : Bool} (h : (bits .and .u32 (bits .xor .u32 (s.toNat : Int) (x.toNat : Int)) 1 == 1) = b) :
    decide ((s ^^^ x) &&& 1#32 = 1#32) = b := by
  rw [← h, bits_xor_bv, bits_and_bv, ofInt_toNat, ofInt_toNat, ofInt_toNat]
  have e : BitVec.ofInt 32 1 = 1#32 := rfl
  rw [e]
  by_cases hc : (s ^^^ x) &&& 1#32 = 1#32
  · rw [decide_eq_true hc, hc]; rfl
  · rw [decide_eq_false hc]
    symm
    rw [beq_eq_false_iff_ne]
    intro hn
    exact hc (BitVec.eq_of_toNat_eq (by rw [show (1#32).toNat = 1 from rfl]; omega))
theorem ref_round_yes {s x : BitVec 32} {j : Nat} {v c : BitVec 32} (h : (bits .and .u32 (bits .xor .u32 (s.toNat : Int) (x.toNat : Int)) 1 == 1) = true)
    (hx : x = c >>> j) (hb : x.toNat < 256) (hs : s ^^^ x = turnsB j v) : ∃ s' x' : BitVec 32, bits .xor .u32 ((s.toNat : Int) / 2) 3988292384 = s'.toNat ∧ (x.toNat : Int) / 2 = x'.toNat ∧ x'.toNat < 256 ∧ x' = c >>> (j + 1) ∧ s' ^^^ x' = turnsB (j + 1) v := by
  have h1 := of_decide_eq_true (one_test h)
  have h2 := turn_split s x
  rw [if_pos h1, hs] at h2
  refine ⟨s >>> 1 ^^^ 3988292384#32, x >>> 1, ?_, (half_nat x).symm, ?_, ?_, h2⟩
  · rw [bits_xor_bv, half_bv]; rfl
  · have := half_nat x; omega
  · rw [hx, BitVec.shiftRight_add]
theorem ref_round_no {s x : BitVec 32} {j : Nat} {v c : BitVec 32} (h : (bits .and .u32 (bits .xor .u32 (s.toNat : Int) (x.toNat : Int)) 1 == 1) = false)
    (hx : x = c >>> j) (hb : x.toNat < 256) (hs : s ^^^ x = turnsB j v) : ∃ s' x' : BitVec 32, (s.toNat : Int) / 2 = s'.toNat ∧ (x.toNat : Int) / 2 = x'.toNat ∧ x'.toNat < 256 ∧ x' = c >>> (j + 1) ∧ s' ^^^ x' = turnsB (j + 1) v := by
  have h1 := of_decide_eq_false (one_test h)
  have h2 := turn_split s x
  rw [if_neg h1, hs] at h2
  refine ⟨s >>> 1, x >>> 1, (half_nat s).symm, (half_nat x).symm, ?_, ?_, h2⟩
  · have := half_nat x; omega
  · rw [hx, BitVec.shiftRight_add]
theorem ref_byte {s x s0 : BitVec 32} {c : Int} (h0 : 0 ≤ c) (h1 : c < 256) (hx : x = BitVec.ofInt 32 c >>> 8) (hs : s ^^^ x = turnsB 8 (s0 ^^^ BitVec.ofInt 32 c)) : s = byteB s0 c := by
  have e : x = 0#32 := by
    rw [hx]
    apply BitVec.eq_of_toNat_eq
    rw [BitVec.toNat_ushiftRight, Nat.shiftRight_eq_div_pow, show (0#32).toNat = 0 from rfl]
    have := ofInt_byte h0 h1
    omega
  rw [e, BitVec.xor_zero] at hs
  exact hs
end Go.Proofs.Ytdilccihhelilaa
