/- A code's name without its letter, and what it is: one of eleven names, or none of them; no condition. -/
import Derived.Test.YtacnlbbponiamaaTabWD
import Derived.Test.YtacnlbbponiamaaArPure
namespace Go.Proofs.Ytacnlbbponiamaa
open Go.RowKit
set_option linter.unusedVariables false

/-- A name without its letter, if that is it. -/
def restS (s : ByteArray) (c : Int) : ByteArray := if h : 0 < s.size then (if (s[0].toNat : Int) = c then s.extract 1 s.size else .empty) else .empty

set_option maxRecDepth 100000 in
theorem rest_any (k c : Int) (w : World) :
    Calls Try.prog 25 #[.int .i64 k, .int .u8 c] w fun e w' => e = .returned (.string (restS (nm k) c)) ∧ Below w.heap.size w w' := by
  have hn := fun w => Lib.hid (name_any k w)
  generalize nm k = s at hn ⊢
  by_cases h0 : 0 < s.size
  · have e1 : s.toList.isEmpty = false := by
      rw [ByteArray.toList_eq]
      cases hl : s.data.toList with
      | nil => have : s.data.size = 0 := by rw [← Array.length_toList, hl]; rfl
               have h1 : s.data.size = s.size := rfl
               omega
      | cons a l => rfl
    by_cases h1 : (s[0].toNat : Int) = c
    · have e : restS s c = s.extract 1 s.size := by unfold restS; rw [dif_pos h0, if_pos h1]
      rw [e]
      replace h1 := Lib.hid h1
      have e2 : ((s[0].toNat : Int) != c) = false := by rw [bne_eq_false_iff_eq]; exact h1.out
      clear e
      go_enter Try.func25, Try.ntmps25
      go_wp2_with (refine (hn _).out.mono ?_; rintro e w' ⟨rfl, hb⟩)
      go_ret
      exact ⟨rfl, hb⟩
    · have e : restS s c = .empty := by unfold restS; rw [dif_pos h0, if_neg h1]
      rw [e]
      have e2 : ((s[0].toNat : Int) != c) = true := by rw [bne_iff_ne]; exact h1
      clear e h1
      go_enter Try.func25, Try.ntmps25
      go_wp2_with (refine (hn _).out.mono ?_; rintro e w' ⟨rfl, hb⟩)
      go_ret
      exact ⟨rfl, hb⟩
  · have e : restS s c = .empty := by unfold restS; rw [dif_neg h0]
    rw [e]
    obtain rfl : s = .empty := by
      apply ByteArray.ext
      have h1 : s.data.size = s.size := rfl
      have h2 : s.data.size = 0 := by omega
      exact Array.eq_empty_of_size_eq_zero h2
    clear e h0
    go_enter Try.func25, Try.ntmps25
    go_wp2_with (refine (hn _).out.mono ?_; rintro e w' ⟨rfl, hb⟩)
    go_ret
    exact ⟨rfl, hb⟩

def sAdd : ByteArray := ⟨#[97, 100, 100]⟩
def sSub : ByteArray := ⟨#[115, 117, 98]⟩
def sMul : ByteArray := ⟨#[109, 117, 108]⟩
def sNeg : ByteArray := ⟨#[110, 101, 103]⟩
def sAnd : ByteArray := ⟨#[97, 110, 100]⟩
def sOr : ByteArray := ⟨#[111, 114]⟩
def sXor : ByteArray := ⟨#[120, 111, 114]⟩
def sDiv : ByteArray := ⟨#[100, 105, 118]⟩
def sRem : ByteArray := ⟨#[114, 101, 109]⟩
def sShl : ByteArray := ⟨#[115, 104, 108]⟩
def sShr : ByteArray := ⟨#[115, 104, 114]⟩
def sUshr : ByteArray := ⟨#[117, 115, 104, 114]⟩
/-- None of the twelve names. -/
def noneOf (s : ByteArray) : Bool := ([[97, 100, 100], [115, 117, 98], [109, 117, 108], [110, 101, 103], [97, 110, 100], [111, 114], [120, 111, 114], [100, 105, 118], [114, 101, 109], [115, 104, 108], [115, 104, 114], [117, 115, 104, 114]] : List (List UInt8)).all fun t => !(s.data.toList == t)
/-- The codes of the twelve names, with i and with l. -/
def codesI : List Int := [96, 100, 104, 116, 126, 128, 130, 108, 112, 120, 122, 124]
def codesL : List Int := [97, 101, 105, 117, 127, 129, 131, 109, 113, 121, 123, 125]
noncomputable def otherI : Bool := (List.range 200).all fun k => codesI.contains (k : Int) || noneOf (restS (nm k) 105)
noncomputable def otherL : Bool := (List.range 200).all fun k => codesL.contains (k : Int) || noneOf (restS (nm k) 108)
theorem otherI_true : otherI = true := by kernel_rfl
theorem otherL_true : otherL = true := by kernel_rfl
theorem knownI : (restS (nm 96) 105 = sAdd ∧ restS (nm 100) 105 = sSub ∧ restS (nm 104) 105 = sMul ∧ restS (nm 116) 105 = sNeg ∧ restS (nm 126) 105 = sAnd ∧ restS (nm 128) 105 = sOr ∧ restS (nm 130) 105 = sXor ∧ restS (nm 108) 105 = sDiv ∧ restS (nm 112) 105 = sRem ∧ restS (nm 120) 105 = sShl ∧ restS (nm 122) 105 = sShr ∧ restS (nm 124) 105 = sUshr) :=
  ⟨by kernel_rfl, by kernel_rfl, by kernel_rfl, by kernel_rfl, by kernel_rfl, by kernel_rfl, by kernel_rfl, by kernel_rfl, by kernel_rfl, by kernel_rfl, by kernel_rfl, by kernel_rfl⟩
theorem knownL : (restS (nm 97) 108 = sAdd ∧ restS (nm 101) 108 = sSub ∧ restS (nm 105) 108 = sMul ∧ restS (nm 117) 108 = sNeg ∧ restS (nm 127) 108 = sAnd ∧ restS (nm 129) 108 = sOr ∧ restS (nm 131) 108 = sXor ∧ restS (nm 109) 108 = sDiv ∧ restS (nm 113) 108 = sRem ∧ restS (nm 121) 108 = sShl ∧ restS (nm 123) 108 = sShr ∧ restS (nm 125) 108 = sUshr) :=
  ⟨by kernel_rfl, by kernel_rfl, by kernel_rfl, by kernel_rfl, by kernel_rfl, by kernel_rfl, by kernel_rfl, by kernel_rfl, by kernel_rfl, by kernel_rfl, by kernel_rfl, by kernel_rfl⟩
theorem rest_none (k c : Int) (h : ¬ (0 ≤ k ∧ k < 200)) : noneOf (restS (nm k) c) = true := by
  rw [nm_none h]
  rfl
theorem restI_other (k : Int) (h : codesI.contains k = false) : noneOf (restS (nm k) 105) = true := by
  by_cases hk : 0 ≤ k ∧ k < 200
  · have := List.all_eq_true.1 otherI_true k.toNat (by simp; omega)
    have e : ((k.toNat : Nat) : Int) = k := by omega
    rw [e, h, Bool.false_or] at this
    exact this
  · exact rest_none k 105 hk
theorem restL_other (k : Int) (h : codesL.contains k = false) : noneOf (restS (nm k) 108) = true := by
  by_cases hk : 0 ≤ k ∧ k < 200
  · have := List.all_eq_true.1 otherL_true k.toNat (by simp; omega)
    have e : ((k.toNat : Nat) : Int) = k := by omega
    rw [e, h, Bool.false_or] at this
    exact this
  · exact rest_none k 108 hk
end Go.Proofs.Ytacnlbbponiamaa
