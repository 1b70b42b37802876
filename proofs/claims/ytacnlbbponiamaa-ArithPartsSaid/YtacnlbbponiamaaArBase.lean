/- What both widths have, by the name behind its first letter; no condition. -/
import Derived.Test.YtacnlbbponiamaaArRest
namespace Go.Proofs.Ytacnlbbponiamaa
open Go.RowKit
set_option linter.unusedVariables false

theorem noneOf_at {s : ByteArray} (h : noneOf s = true) : (s.toList == [97, 100, 100]) = false ∧ (s.toList == [115, 117, 98]) = false ∧ (s.toList == [109, 117, 108]) = false ∧ (s.toList == [110, 101, 103]) = false ∧ (s.toList == [97, 110, 100]) = false ∧ (s.toList == [111, 114]) = false ∧ (s.toList == [120, 111, 114]) = false ∧ (s.toList == [100, 105, 118]) = false ∧ (s.toList == [114, 101, 109]) = false ∧ (s.toList == [115, 104, 108]) = false ∧ (s.toList == [115, 104, 114]) = false ∧ (s.toList == [117, 115, 104, 114]) = false := by
  unfold noneOf at h
  simp only [List.all_cons, List.all_nil, Bool.and_true, Bool.and_eq_true, Bool.not_eq_true'] at h
  rw [ByteArray.toList_eq]
  exact h

set_option maxRecDepth 100000 in
theorem base32_Add (a b : Int) (w : World) :
    Calls Try.prog 26 #[.string sAdd, .int .i32 a, .int .i32 b] w fun e w' => e = .returned (.tuple #[.int .i32 (wrap32 (a + b)), .int .i64 0]) ∧ w = w' := by
  unfold sAdd
  go_enter Try.func26, Try.ntmps26
  go_wp2_with fail
  go_ret2
  exact ⟨rfl, rfl⟩

set_option maxRecDepth 100000 in
theorem base32_Sub (a b : Int) (w : World) :
    Calls Try.prog 26 #[.string sSub, .int .i32 a, .int .i32 b] w fun e w' => e = .returned (.tuple #[.int .i32 (wrap32 (a - b)), .int .i64 0]) ∧ w = w' := by
  unfold sSub
  go_enter Try.func26, Try.ntmps26
  go_wp2_with fail
  go_ret2
  exact ⟨rfl, rfl⟩

set_option maxRecDepth 100000 in
theorem base32_Mul (a b : Int) (w : World) :
    Calls Try.prog 26 #[.string sMul, .int .i32 a, .int .i32 b] w fun e w' => e = .returned (.tuple #[.int .i32 (wrap32 (a * b)), .int .i64 0]) ∧ w = w' := by
  unfold sMul
  go_enter Try.func26, Try.ntmps26
  go_wp2_with fail
  go_ret2
  exact ⟨rfl, rfl⟩

set_option maxRecDepth 100000 in
theorem base32_Neg (a b : Int) (w : World) :
    Calls Try.prog 26 #[.string sNeg, .int .i32 a, .int .i32 b] w fun e w' => e = .returned (.tuple #[.int .i32 (wrap32 (-a)), .int .i64 0]) ∧ w = w' := by
  unfold sNeg
  go_enter Try.func26, Try.ntmps26
  go_wp2_with fail
  go_ret2
  exact ⟨rfl, rfl⟩

set_option maxRecDepth 100000 in
theorem base32_And (a b : Int) (w : World) :
    Calls Try.prog 26 #[.string sAnd, .int .i32 a, .int .i32 b] w fun e w' => e = .returned (.tuple #[.int .i32 (bits .and .i32 a b), .int .i64 0]) ∧ w = w' := by
  unfold sAnd
  go_enter Try.func26, Try.ntmps26
  go_wp2_with fail
  go_ret2
  exact ⟨rfl, rfl⟩

set_option maxRecDepth 100000 in
theorem base32_Or (a b : Int) (w : World) :
    Calls Try.prog 26 #[.string sOr, .int .i32 a, .int .i32 b] w fun e w' => e = .returned (.tuple #[.int .i32 (bits .or .i32 a b), .int .i64 0]) ∧ w = w' := by
  unfold sOr
  go_enter Try.func26, Try.ntmps26
  go_wp2_with fail
  go_ret2
  exact ⟨rfl, rfl⟩

set_option maxRecDepth 100000 in
theorem base32_Xor (a b : Int) (w : World) :
    Calls Try.prog 26 #[.string sXor, .int .i32 a, .int .i32 b] w fun e w' => e = .returned (.tuple #[.int .i32 (bits .xor .i32 a b), .int .i64 0]) ∧ w = w' := by
  unfold sXor
  go_enter Try.func26, Try.ntmps26
  go_wp2_with fail
  go_ret2
  exact ⟨rfl, rfl⟩

set_option maxRecDepth 100000 in
theorem base32_Div (a b : Int) (w : World) :
    Calls Try.prog 26 #[.string sDiv, .int .i32 a, .int .i32 b] w fun e w' => e = .returned (.tuple #[.int .i32 (if b = 0 then 0 else quo32 a b), .int .i64 (if b = 0 then 6 else 0)]) ∧ w = w' := by
  unfold sDiv
  by_cases h0 : b = 0
  · subst h0
    simp only [if_true]
    go_enter Try.func26, Try.ntmps26
    go_wp2_with fail
    go_ret2
    exact ⟨rfl, rfl⟩
  · rw [if_neg h0, if_neg h0]
    by_cases h1 : b = -1
    · subst h1
      unfold quo32
      simp only [if_true]
      clear h0
      go_enter Try.func26, Try.ntmps26
      go_wp2_with fail
      go_ret2
      exact ⟨rfl, rfl⟩
    · unfold quo32
      rw [if_neg h1]
      have e0 : (b == 0) = false := beq_eq_false_iff_ne.2 h0
      have e1 : (b != -1) = true := bne_iff_ne.2 h1
      clear h1
      go_enter Try.func26, Try.ntmps26
      go_wp2_with fail
      go_ret2
      exact ⟨rfl, rfl⟩

set_option maxRecDepth 100000 in
theorem base32_Rem (a b : Int) (w : World) :
    Calls Try.prog 26 #[.string sRem, .int .i32 a, .int .i32 b] w fun e w' => e = .returned (.tuple #[.int .i32 (if b = 0 then 0 else rest32 a b), .int .i64 (if b = 0 then 6 else 0)]) ∧ w = w' := by
  unfold sRem
  by_cases h0 : b = 0
  · subst h0
    simp only [if_true]
    go_enter Try.func26, Try.ntmps26
    go_wp2_with fail
    go_ret2
    exact ⟨rfl, rfl⟩
  · rw [if_neg h0, if_neg h0]
    by_cases h1 : b = -1
    · subst h1
      unfold rest32 quo32
      simp only [if_true]
      rw [show wrap32 (-a) * -1 = -wrap32 (-a) from by omega]
      clear h0
      go_enter Try.func26, Try.ntmps26
      go_wp2_with fail
      go_ret2
      exact ⟨rfl, rfl⟩
    · unfold rest32 quo32
      rw [if_neg h1]
      have e0 : (b == 0) = false := beq_eq_false_iff_ne.2 h0
      have e1 : (b != -1) = true := bne_iff_ne.2 h1
      clear h1
      go_enter Try.func26, Try.ntmps26
      go_wp2_with fail
      go_ret2
      exact ⟨rfl, rfl⟩

set_option maxRecDepth 100000 in
theorem base32_other (s : ByteArray) (a b : Int) (w : World) (hs : noneOf s = true) :
    Calls Try.prog 26 #[.string s, .int .i32 a, .int .i32 b] w fun e w' => e = .returned (.tuple #[.int .i32 0, .int .i64 60]) ∧ w = w' := by
  obtain ⟨h1, h2, h3, h4, h5, h6, h7, h8, h9, h10, h11, h12⟩ := noneOf_at hs
  clear hs h10 h11 h12
  go_enter Try.func26, Try.ntmps26
  go_wp2_with fail
  go_ret2
  exact ⟨rfl, rfl⟩

set_option maxRecDepth 100000 in
theorem base64_Add (a b : Int) (w : World) :
    Calls Try.prog 27 #[.string sAdd, .int .i64 a, .int .i64 b] w fun e w' => e = .returned (.tuple #[.int .i64 (wrap64 (a + b)), .int .i64 0]) ∧ w = w' := by
  unfold sAdd
  go_enter Try.func27, Try.ntmps27
  go_wp2_with fail
  go_ret2
  exact ⟨rfl, rfl⟩

set_option maxRecDepth 100000 in
theorem base64_Sub (a b : Int) (w : World) :
    Calls Try.prog 27 #[.string sSub, .int .i64 a, .int .i64 b] w fun e w' => e = .returned (.tuple #[.int .i64 (wrap64 (a - b)), .int .i64 0]) ∧ w = w' := by
  unfold sSub
  go_enter Try.func27, Try.ntmps27
  go_wp2_with fail
  go_ret2
  exact ⟨rfl, rfl⟩

set_option maxRecDepth 100000 in
theorem base64_Mul (a b : Int) (w : World) :
    Calls Try.prog 27 #[.string sMul, .int .i64 a, .int .i64 b] w fun e w' => e = .returned (.tuple #[.int .i64 (wrap64 (a * b)), .int .i64 0]) ∧ w = w' := by
  unfold sMul
  go_enter Try.func27, Try.ntmps27
  go_wp2_with fail
  go_ret2
  exact ⟨rfl, rfl⟩

set_option maxRecDepth 100000 in
theorem base64_Neg (a b : Int) (w : World) :
    Calls Try.prog 27 #[.string sNeg, .int .i64 a, .int .i64 b] w fun e w' => e = .returned (.tuple #[.int .i64 (wrap64 (-a)), .int .i64 0]) ∧ w = w' := by
  unfold sNeg
  go_enter Try.func27, Try.ntmps27
  go_wp2_with fail
  go_ret2
  exact ⟨rfl, rfl⟩

set_option maxRecDepth 100000 in
theorem base64_And (a b : Int) (w : World) :
    Calls Try.prog 27 #[.string sAnd, .int .i64 a, .int .i64 b] w fun e w' => e = .returned (.tuple #[.int .i64 (bits .and .i64 a b), .int .i64 0]) ∧ w = w' := by
  unfold sAnd
  go_enter Try.func27, Try.ntmps27
  go_wp2_with fail
  go_ret2
  exact ⟨rfl, rfl⟩

set_option maxRecDepth 100000 in
theorem base64_Or (a b : Int) (w : World) :
    Calls Try.prog 27 #[.string sOr, .int .i64 a, .int .i64 b] w fun e w' => e = .returned (.tuple #[.int .i64 (bits .or .i64 a b), .int .i64 0]) ∧ w = w' := by
  unfold sOr
  go_enter Try.func27, Try.ntmps27
  go_wp2_with fail
  go_ret2
  exact ⟨rfl, rfl⟩

set_option maxRecDepth 100000 in
theorem base64_Xor (a b : Int) (w : World) :
    Calls Try.prog 27 #[.string sXor, .int .i64 a, .int .i64 b] w fun e w' => e = .returned (.tuple #[.int .i64 (bits .xor .i64 a b), .int .i64 0]) ∧ w = w' := by
  unfold sXor
  go_enter Try.func27, Try.ntmps27
  go_wp2_with fail
  go_ret2
  exact ⟨rfl, rfl⟩

set_option maxRecDepth 100000 in
theorem base64_Div (a b : Int) (w : World) :
    Calls Try.prog 27 #[.string sDiv, .int .i64 a, .int .i64 b] w fun e w' => e = .returned (.tuple #[.int .i64 (if b = 0 then 0 else quo64 a b), .int .i64 (if b = 0 then 6 else 0)]) ∧ w = w' := by
  unfold sDiv
  by_cases h0 : b = 0
  · subst h0
    simp only [if_true]
    go_enter Try.func27, Try.ntmps27
    go_wp2_with fail
    go_ret2
    exact ⟨rfl, rfl⟩
  · rw [if_neg h0, if_neg h0]
    by_cases h1 : b = -1
    · subst h1
      unfold quo64
      simp only [if_true]
      clear h0
      go_enter Try.func27, Try.ntmps27
      go_wp2_with fail
      go_ret2
      exact ⟨rfl, rfl⟩
    · unfold quo64
      rw [if_neg h1]
      have e0 : (b == 0) = false := beq_eq_false_iff_ne.2 h0
      have e1 : (b != -1) = true := bne_iff_ne.2 h1
      clear h1
      go_enter Try.func27, Try.ntmps27
      go_wp2_with fail
      go_ret2
      exact ⟨rfl, rfl⟩

set_option maxRecDepth 100000 in
theorem base64_Rem (a b : Int) (w : World) :
    Calls Try.prog 27 #[.string sRem, .int .i64 a, .int .i64 b] w fun e w' => e = .returned (.tuple #[.int .i64 (if b = 0 then 0 else rest64 a b), .int .i64 (if b = 0 then 6 else 0)]) ∧ w = w' := by
  unfold sRem
  by_cases h0 : b = 0
  · subst h0
    simp only [if_true]
    go_enter Try.func27, Try.ntmps27
    go_wp2_with fail
    go_ret2
    exact ⟨rfl, rfl⟩
  · rw [if_neg h0, if_neg h0]
    by_cases h1 : b = -1
    · subst h1
      unfold rest64 quo64
      simp only [if_true]
      rw [show wrap64 (-a) * -1 = -wrap64 (-a) from by omega]
      clear h0
      go_enter Try.func27, Try.ntmps27
      go_wp2_with fail
      go_ret2
      exact ⟨rfl, rfl⟩
    · unfold rest64 quo64
      rw [if_neg h1]
      have e0 : (b == 0) = false := beq_eq_false_iff_ne.2 h0
      have e1 : (b != -1) = true := bne_iff_ne.2 h1
      clear h1
      go_enter Try.func27, Try.ntmps27
      go_wp2_with fail
      go_ret2
      exact ⟨rfl, rfl⟩

set_option maxRecDepth 100000 in
theorem base64_other (s : ByteArray) (a b : Int) (w : World) (hs : noneOf s = true) :
    Calls Try.prog 27 #[.string s, .int .i64 a, .int .i64 b] w fun e w' => e = .returned (.tuple #[.int .i64 0, .int .i64 60]) ∧ w = w' := by
  obtain ⟨h1, h2, h3, h4, h5, h6, h7, h8, h9, h10, h11, h12⟩ := noneOf_at hs
  clear hs h10 h11 h12
  go_enter Try.func27, Try.ntmps27
  go_wp2_with fail
  go_ret2
  exact ⟨rfl, rfl⟩

set_option maxRecDepth 100000 in
theorem base64_Shl (a b : Int) (w : World) :
    Calls Try.prog 27 #[.string sShl, .int .i64 a, .int .i64 b] w fun e w' => e = .returned (.tuple #[.int .i64 0, .int .i64 60]) ∧ w = w' := by
  unfold sShl
  go_enter Try.func27, Try.ntmps27
  go_wp2_with fail
  go_ret2
  exact ⟨rfl, rfl⟩

set_option maxRecDepth 100000 in
theorem base64_Shr (a b : Int) (w : World) :
    Calls Try.prog 27 #[.string sShr, .int .i64 a, .int .i64 b] w fun e w' => e = .returned (.tuple #[.int .i64 0, .int .i64 60]) ∧ w = w' := by
  unfold sShr
  go_enter Try.func27, Try.ntmps27
  go_wp2_with fail
  go_ret2
  exact ⟨rfl, rfl⟩

set_option maxRecDepth 100000 in
theorem base64_Ushr (a b : Int) (w : World) :
    Calls Try.prog 27 #[.string sUshr, .int .i64 a, .int .i64 b] w fun e w' => e = .returned (.tuple #[.int .i64 0, .int .i64 60]) ∧ w = w' := by
  unfold sUshr
  go_enter Try.func27, Try.ntmps27
  go_wp2_with fail
  go_ret2
  exact ⟨rfl, rfl⟩

end Go.Proofs.Ytacnlbbponiamaa
