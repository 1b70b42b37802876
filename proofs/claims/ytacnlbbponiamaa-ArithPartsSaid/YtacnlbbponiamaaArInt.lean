/- What the layer arith and its reference answer: Int, Long, Shift; no condition but that numbers are of their kinds. -/
import Derived.Test.YtacnlbbponiamaaArBase
namespace Go.Proofs.Ytacnlbbponiamaa
open Go.RowKit
set_option linter.unusedVariables false
theorem by32 (b : Int) : ∃ m : Int, m = b % 32 ∧ 0 ≤ m ∧ m ≤ 31 ∧ bits .and .u64 (IntKind.u64.wrap b) 31 = m ∧ bits .and .i32 b 31 = m := by
  refine ⟨_, rfl, by omega, by omega, ?_, and31_i32 b⟩
  rw [and31_u64, u64_wrap]
  omega
theorem by64 (b : Int) : ∃ m : Int, m = b % 64 ∧ 0 ≤ m ∧ m ≤ 63 ∧ bits .and .u64 (IntKind.u64.wrap b) 63 = m ∧ bits .and .i32 b 63 = m := by
  refine ⟨_, rfl, by omega, by omega, ?_, and63_i32 b⟩
  rw [and63_u64, u64_wrap]
  omega

def iV (op a b : Int) : Int := if op = 96 then (wrap32 (a + b)) else if op = 100 then (wrap32 (a - b)) else if op = 104 then (wrap32 (a * b)) else if op = 116 then (wrap32 (-a)) else if op = 126 then (bits .and .i32 a b) else if op = 128 then (bits .or .i32 a b) else if op = 130 then (bits .xor .i32 a b) else if op = 108 then (if b = 0 then 0 else quo32 a b) else if op = 112 then (if b = 0 then 0 else rest32 a b) else if op = 120 then (wrap32 (a * 2 ^ (b % 32).toNat)) else if op = 122 then (a / 2 ^ (b % 32).toNat) else if op = 124 then (wrap32 (a % 4294967296 / 2 ^ (b % 32).toNat)) else 0
def iE (op b : Int) : Int := if op = 108 then (if b = 0 then 6 else 0) else if op = 112 then (if b = 0 then 6 else 0) else if codesI.contains op then 0 else 60
def lV (op a b : Int) : Int := if op = 97 then (wrap64 (a + b)) else if op = 101 then (wrap64 (a - b)) else if op = 105 then (wrap64 (a * b)) else if op = 117 then (wrap64 (-a)) else if op = 127 then (bits .and .i64 a b) else if op = 129 then (bits .or .i64 a b) else if op = 131 then (bits .xor .i64 a b) else if op = 109 then (if b = 0 then 0 else quo64 a b) else if op = 113 then (if b = 0 then 0 else rest64 a b) else 0
def lE (op b : Int) : Int := if op = 109 then (if b = 0 then 6 else 0) else if op = 113 then (if b = 0 then 6 else 0) else if codesL.contains op && !([121, 123, 125] : List Int).contains op then 0 else 60
def hV (op a b : Int) : Int := if op = 121 then (wrap64 (a * 2 ^ (b % 64).toNat)) else if op = 123 then (a / 2 ^ (b % 64).toNat) else if op = 125 then (wrap64 (a % 18446744073709551616 / 2 ^ (b % 64).toNat)) else 0
def hE (op : Int) : Int := if ([121, 123, 125] : List Int).contains op then 0 else 60

theorem codesI_no {op : Int} (h : codesI.contains op = false) : (op == 96) = false ∧ (op == 100) = false ∧ (op == 104) = false ∧ (op == 116) = false ∧ (op == 126) = false ∧ (op == 128) = false ∧ (op == 130) = false ∧ (op == 108) = false ∧ (op == 112) = false ∧ (op == 120) = false ∧ (op == 122) = false ∧ (op == 124) = false := by
  unfold codesI at h
  simpa using h
theorem codesI_yes {op : Int} (h : codesI.contains op = true) : op = 96 ∨ op = 100 ∨ op = 104 ∨ op = 116 ∨ op = 126 ∨ op = 128 ∨ op = 130 ∨ op = 108 ∨ op = 112 ∨ op = 120 ∨ op = 122 ∨ op = 124 := by
  unfold codesI at h
  simpa using h

theorem codesL_no {op : Int} (h : codesL.contains op = false) : (op == 97) = false ∧ (op == 101) = false ∧ (op == 105) = false ∧ (op == 117) = false ∧ (op == 127) = false ∧ (op == 129) = false ∧ (op == 131) = false ∧ (op == 109) = false ∧ (op == 113) = false ∧ (op == 121) = false ∧ (op == 123) = false ∧ (op == 125) = false := by
  unfold codesL at h
  simpa using h
theorem codesL_yes {op : Int} (h : codesL.contains op = true) : op = 97 ∨ op = 101 ∨ op = 105 ∨ op = 117 ∨ op = 127 ∨ op = 129 ∨ op = 131 ∨ op = 109 ∨ op = 113 ∨ op = 121 ∨ op = 123 ∨ op = 125 := by
  unfold codesL at h
  simpa using h

theorem iV_no {op : Int} (a b : Int) (h : codesI.contains op = false) : iV op a b = 0 := by
  have := codesI_no h
  simp only [beq_eq_false_iff_ne] at this
  obtain ⟨h1, h2, h3, h4, h5, h6, h7, h8, h9, h10, h11, h12⟩ := this
  unfold iV
  rw [if_neg h1, if_neg h2, if_neg h3, if_neg h4, if_neg h5, if_neg h6, if_neg h7, if_neg h8, if_neg h9, if_neg h10, if_neg h11, if_neg h12]
theorem iE_no {op : Int} (b : Int) (h : codesI.contains op = false) : iE op b = 60 := by
  have := codesI_no h
  simp only [beq_eq_false_iff_ne] at this
  obtain ⟨h1, h2, h3, h4, h5, h6, h7, h8, h9, h10, h11, h12⟩ := this
  unfold iE
  rw [if_neg h8, if_neg h9, h]
  rfl
theorem lV_no {op : Int} (a b : Int) (h : codesL.contains op = false) : lV op a b = 0 := by
  have := codesL_no h
  simp only [beq_eq_false_iff_ne] at this
  obtain ⟨h1, h2, h3, h4, h5, h6, h7, h8, h9, h10, h11, h12⟩ := this
  unfold lV
  rw [if_neg h1, if_neg h2, if_neg h3, if_neg h4, if_neg h5, if_neg h6, if_neg h7, if_neg h8, if_neg h9]
theorem lE_no {op : Int} (b : Int) (h : codesL.contains op = false) : lE op b = 60 := by
  have := codesL_no h
  simp only [beq_eq_false_iff_ne] at this
  obtain ⟨h1, h2, h3, h4, h5, h6, h7, h8, h9, h10, h11, h12⟩ := this
  unfold lE
  rw [if_neg h8, if_neg h9, h]
  rfl
theorem hV_no {op : Int} (a b : Int) (h : ([121, 123, 125] : List Int).contains op = false) : hV op a b = 0 ∧ hE op = 60 := by
  have e : hE op = 60 := by unfold hE; rw [h]; rfl
  simp at h
  obtain ⟨h1, h2, h3⟩ := h
  unfold hV
  rw [if_neg h1, if_neg h2, if_neg h3]
  exact ⟨rfl, e⟩

set_option maxRecDepth 100000 in
theorem int_Add (a b : Int) (w : World) :
    Calls Try.prog 12 #[.int .i64 96, .int .i32 a, .int .i32 b] w fun e w' => e = .returned (.tuple #[.int .i32 (wrap32 (a + b)), .int .i64 (0)]) ∧ Below w.heap.size w w' := by
  have hr := fun w => Lib.hid (rest_any 96 105 w)
  rw [knownI.1] at hr
  have hs := fun w => Lib.hid (base32_Add a b w)
  unfold sAdd at hr hs
  go_enter Try.func12, Try.ntmps12
  go_wp2_with fail
  refine (hr _).out.mono ?_
  rintro e w1 ⟨rfl, hb⟩
  go_wp2_with fail
  refine (hs _).out.mono ?_
  rintro e w2 ⟨rfl, rfl⟩
  go_wp2_with fail
  go_ret2
  exact ⟨rfl, hb⟩

set_option maxRecDepth 100000 in
theorem int_Sub (a b : Int) (w : World) :
    Calls Try.prog 12 #[.int .i64 100, .int .i32 a, .int .i32 b] w fun e w' => e = .returned (.tuple #[.int .i32 (wrap32 (a - b)), .int .i64 (0)]) ∧ Below w.heap.size w w' := by
  have hr := fun w => Lib.hid (rest_any 100 105 w)
  rw [knownI.2.1] at hr
  have hs := fun w => Lib.hid (base32_Sub a b w)
  unfold sSub at hr hs
  go_enter Try.func12, Try.ntmps12
  go_wp2_with fail
  refine (hr _).out.mono ?_
  rintro e w1 ⟨rfl, hb⟩
  go_wp2_with fail
  refine (hs _).out.mono ?_
  rintro e w2 ⟨rfl, rfl⟩
  go_wp2_with fail
  go_ret2
  exact ⟨rfl, hb⟩

set_option maxRecDepth 100000 in
theorem int_Mul (a b : Int) (w : World) :
    Calls Try.prog 12 #[.int .i64 104, .int .i32 a, .int .i32 b] w fun e w' => e = .returned (.tuple #[.int .i32 (wrap32 (a * b)), .int .i64 (0)]) ∧ Below w.heap.size w w' := by
  have hr := fun w => Lib.hid (rest_any 104 105 w)
  rw [knownI.2.2.1] at hr
  have hs := fun w => Lib.hid (base32_Mul a b w)
  unfold sMul at hr hs
  go_enter Try.func12, Try.ntmps12
  go_wp2_with fail
  refine (hr _).out.mono ?_
  rintro e w1 ⟨rfl, hb⟩
  go_wp2_with fail
  refine (hs _).out.mono ?_
  rintro e w2 ⟨rfl, rfl⟩
  go_wp2_with fail
  go_ret2
  exact ⟨rfl, hb⟩

set_option maxRecDepth 100000 in
theorem int_Neg (a b : Int) (w : World) :
    Calls Try.prog 12 #[.int .i64 116, .int .i32 a, .int .i32 b] w fun e w' => e = .returned (.tuple #[.int .i32 (wrap32 (-a)), .int .i64 (0)]) ∧ Below w.heap.size w w' := by
  have hr := fun w => Lib.hid (rest_any 116 105 w)
  rw [knownI.2.2.2.1] at hr
  have hs := fun w => Lib.hid (base32_Neg a b w)
  unfold sNeg at hr hs
  go_enter Try.func12, Try.ntmps12
  go_wp2_with fail
  refine (hr _).out.mono ?_
  rintro e w1 ⟨rfl, hb⟩
  go_wp2_with fail
  refine (hs _).out.mono ?_
  rintro e w2 ⟨rfl, rfl⟩
  go_wp2_with fail
  go_ret2
  exact ⟨rfl, hb⟩

set_option maxRecDepth 100000 in
theorem int_And (a b : Int) (w : World) :
    Calls Try.prog 12 #[.int .i64 126, .int .i32 a, .int .i32 b] w fun e w' => e = .returned (.tuple #[.int .i32 (bits .and .i32 a b), .int .i64 (0)]) ∧ Below w.heap.size w w' := by
  have hr := fun w => Lib.hid (rest_any 126 105 w)
  rw [knownI.2.2.2.2.1] at hr
  have hs := fun w => Lib.hid (base32_And a b w)
  unfold sAnd at hr hs
  go_enter Try.func12, Try.ntmps12
  go_wp2_with fail
  refine (hr _).out.mono ?_
  rintro e w1 ⟨rfl, hb⟩
  go_wp2_with fail
  refine (hs _).out.mono ?_
  rintro e w2 ⟨rfl, rfl⟩
  go_wp2_with fail
  go_ret2
  exact ⟨rfl, hb⟩

set_option maxRecDepth 100000 in
theorem int_Or (a b : Int) (w : World) :
    Calls Try.prog 12 #[.int .i64 128, .int .i32 a, .int .i32 b] w fun e w' => e = .returned (.tuple #[.int .i32 (bits .or .i32 a b), .int .i64 (0)]) ∧ Below w.heap.size w w' := by
  have hr := fun w => Lib.hid (rest_any 128 105 w)
  rw [knownI.2.2.2.2.2.1] at hr
  have hs := fun w => Lib.hid (base32_Or a b w)
  unfold sOr at hr hs
  go_enter Try.func12, Try.ntmps12
  go_wp2_with fail
  refine (hr _).out.mono ?_
  rintro e w1 ⟨rfl, hb⟩
  go_wp2_with fail
  refine (hs _).out.mono ?_
  rintro e w2 ⟨rfl, rfl⟩
  go_wp2_with fail
  go_ret2
  exact ⟨rfl, hb⟩

set_option maxRecDepth 100000 in
theorem int_Xor (a b : Int) (w : World) :
    Calls Try.prog 12 #[.int .i64 130, .int .i32 a, .int .i32 b] w fun e w' => e = .returned (.tuple #[.int .i32 (bits .xor .i32 a b), .int .i64 (0)]) ∧ Below w.heap.size w w' := by
  have hr := fun w => Lib.hid (rest_any 130 105 w)
  rw [knownI.2.2.2.2.2.2.1] at hr
  have hs := fun w => Lib.hid (base32_Xor a b w)
  unfold sXor at hr hs
  go_enter Try.func12, Try.ntmps12
  go_wp2_with fail
  refine (hr _).out.mono ?_
  rintro e w1 ⟨rfl, hb⟩
  go_wp2_with fail
  refine (hs _).out.mono ?_
  rintro e w2 ⟨rfl, rfl⟩
  go_wp2_with fail
  go_ret2
  exact ⟨rfl, hb⟩

set_option maxRecDepth 100000 in
theorem int_Div (a b : Int) (w : World) :
    Calls Try.prog 12 #[.int .i64 108, .int .i32 a, .int .i32 b] w fun e w' => e = .returned (.tuple #[.int .i32 (if b = 0 then 0 else quo32 a b), .int .i64 (if b = 0 then 6 else 0)]) ∧ Below w.heap.size w w' := by
  have hr := fun w => Lib.hid (rest_any 108 105 w)
  rw [knownI.2.2.2.2.2.2.2.1] at hr
  have hs := fun w => Lib.hid (base32_Div a b w)
  generalize hg : (if b = 0 then 0 else quo32 a b : Int) = x at hs ⊢
  generalize hg2 : (if b = 0 then 6 else 0 : Int) = y at hs ⊢
  clear hg hg2
  unfold sDiv at hr hs
  go_enter Try.func12, Try.ntmps12
  go_wp2_with fail
  refine (hr _).out.mono ?_
  rintro e w1 ⟨rfl, hb⟩
  go_wp2_with fail
  refine (hs _).out.mono ?_
  rintro e w2 ⟨rfl, rfl⟩
  go_wp2_with fail
  go_ret2
  exact ⟨rfl, hb⟩

set_option maxRecDepth 100000 in
theorem int_Rem (a b : Int) (w : World) :
    Calls Try.prog 12 #[.int .i64 112, .int .i32 a, .int .i32 b] w fun e w' => e = .returned (.tuple #[.int .i32 (if b = 0 then 0 else rest32 a b), .int .i64 (if b = 0 then 6 else 0)]) ∧ Below w.heap.size w w' := by
  have hr := fun w => Lib.hid (rest_any 112 105 w)
  rw [knownI.2.2.2.2.2.2.2.2.1] at hr
  have hs := fun w => Lib.hid (base32_Rem a b w)
  generalize hg : (if b = 0 then 0 else rest32 a b : Int) = x at hs ⊢
  generalize hg2 : (if b = 0 then 6 else 0 : Int) = y at hs ⊢
  clear hg hg2
  unfold sRem at hr hs
  go_enter Try.func12, Try.ntmps12
  go_wp2_with fail
  refine (hr _).out.mono ?_
  rintro e w1 ⟨rfl, hb⟩
  go_wp2_with fail
  refine (hs _).out.mono ?_
  rintro e w2 ⟨rfl, rfl⟩
  go_wp2_with fail
  go_ret2
  exact ⟨rfl, hb⟩

set_option maxRecDepth 100000 in
theorem int_Shl (a b : Int) (w : World) :
    Calls Try.prog 12 #[.int .i64 120, .int .i32 a, .int .i32 b] w fun e w' => e = .returned (.tuple #[.int .i32 (wrap32 (a * 2 ^ (b % 32).toNat)), .int .i64 (0)]) ∧ Below w.heap.size w w' := by
  have hr := fun w => Lib.hid (rest_any 120 105 w)
  rw [knownI.2.2.2.2.2.2.2.2.2.1] at hr
  obtain ⟨m, hm, h0, h1, h2, h3⟩ := by32 b
  rw [← hm]
  clear h3 hm
  unfold sShl at hr
  go_enter Try.func12, Try.ntmps12
  go_wp2_with fail
  refine (hr _).out.mono ?_
  rintro e w1 ⟨rfl, hb⟩
  go_wp2_with fail
  go_ret2
  exact ⟨rfl, hb⟩

set_option maxRecDepth 100000 in
theorem int_Shr (a b : Int) (w : World) :
    Calls Try.prog 12 #[.int .i64 122, .int .i32 a, .int .i32 b] w fun e w' => e = .returned (.tuple #[.int .i32 (a / 2 ^ (b % 32).toNat), .int .i64 (0)]) ∧ Below w.heap.size w w' := by
  have hr := fun w => Lib.hid (rest_any 122 105 w)
  rw [knownI.2.2.2.2.2.2.2.2.2.2.1] at hr
  obtain ⟨m, hm, h0, h1, h2, h3⟩ := by32 b
  rw [← hm]
  clear h3 hm
  unfold sShr at hr
  go_enter Try.func12, Try.ntmps12
  go_wp2_with fail
  refine (hr _).out.mono ?_
  rintro e w1 ⟨rfl, hb⟩
  go_wp2_with fail
  go_ret2
  exact ⟨rfl, hb⟩

set_option maxRecDepth 100000 in
theorem int_Ushr (a b : Int) (w : World) :
    Calls Try.prog 12 #[.int .i64 124, .int .i32 a, .int .i32 b] w fun e w' => e = .returned (.tuple #[.int .i32 (wrap32 (a % 4294967296 / 2 ^ (b % 32).toNat)), .int .i64 (0)]) ∧ Below w.heap.size w w' := by
  have hr := fun w => Lib.hid (rest_any 124 105 w)
  rw [knownI.2.2.2.2.2.2.2.2.2.2.2] at hr
  obtain ⟨m, hm, h0, h1, h2, h3⟩ := by32 b
  rw [← hm]
  clear h3 hm
  unfold sUshr at hr
  go_enter Try.func12, Try.ntmps12
  go_wp2_with fail
  refine (hr _).out.mono ?_
  rintro e w1 ⟨rfl, hb⟩
  go_wp2_with fail
  go_ret2
  exact ⟨rfl, hb⟩

set_option maxRecDepth 100000 in
theorem int_other (op a b : Int) (w : World) (h : codesI.contains op = false) :
    Calls Try.prog 12 #[.int .i64 op, .int .i32 a, .int .i32 b] w fun e w' => e = .returned (.tuple #[.int .i32 (0), .int .i64 (60)]) ∧ Below w.heap.size w w' := by
  have hr := fun w => Lib.hid (rest_any op 105 w)
  have hs := restI_other op h
  generalize restS (nm op) 105 = s at hr hs
  obtain ⟨h1, h2, h3, h4, h5, h6, h7, h8, h9, h10, h11, h12⟩ := noneOf_at hs
  have hc := fun w => Lib.hid (base32_other s a b w hs)
  clear hs h1 h2 h3 h4 h5 h6 h7 h8 h9 h
  go_enter Try.func12, Try.ntmps12
  go_wp2_with fail
  refine (hr _).out.mono ?_
  rintro e w1 ⟨rfl, hb⟩
  go_wp2_with fail
  refine (hc _).out.mono ?_
  rintro e w2 ⟨rfl, rfl⟩
  go_wp2_with fail
  go_ret2
  exact ⟨rfl, hb⟩

/-- arith.Int. -/
theorem int_any (op a b : Int) (w : World) : Calls Try.prog 12 #[.int .i64 op, .int .i32 a, .int .i32 b] w fun e w' => e = .returned (.tuple #[.int .i32 (iV op a b), .int .i64 (iE op b)]) ∧ Below w.heap.size w w' := by
  cases h : codesI.contains op with
  | false => rw [iV_no a b h, iE_no b h]; exact int_other op a b w h
  | true =>
    rcases codesI_yes h with rfl | rfl | rfl | rfl | rfl | rfl | rfl | rfl | rfl | rfl | rfl | rfl
    · exact int_Add a b w
    · exact int_Sub a b w
    · exact int_Mul a b w
    · exact int_Neg a b w
    · exact int_And a b w
    · exact int_Or a b w
    · exact int_Xor a b w
    · exact int_Div a b w
    · exact int_Rem a b w
    · exact int_Shl a b w
    · exact int_Shr a b w
    · exact int_Ushr a b w

set_option maxRecDepth 100000 in
theorem long_Add (a b : Int) (w : World) :
    Calls Try.prog 15 #[.int .i64 97, .int .i64 a, .int .i64 b] w fun e w' => e = .returned (.tuple #[.int .i64 (wrap64 (a + b)), .int .i64 (0)]) ∧ Below w.heap.size w w' := by
  have hr := fun w => Lib.hid (rest_any 97 108 w)
  rw [knownL.1] at hr
  have hs := fun w => Lib.hid (base64_Add a b w)
  unfold sAdd at hr hs
  go_enter Try.func15, Try.ntmps15
  go_wp2_with fail
  refine (hr _).out.mono ?_
  rintro e w1 ⟨rfl, hb⟩
  go_wp2_with fail
  refine (hs _).out.mono ?_
  rintro e w2 ⟨rfl, rfl⟩
  go_wp2_with fail
  go_ret2
  exact ⟨rfl, hb⟩

set_option maxRecDepth 100000 in
theorem long_Sub (a b : Int) (w : World) :
    Calls Try.prog 15 #[.int .i64 101, .int .i64 a, .int .i64 b] w fun e w' => e = .returned (.tuple #[.int .i64 (wrap64 (a - b)), .int .i64 (0)]) ∧ Below w.heap.size w w' := by
  have hr := fun w => Lib.hid (rest_any 101 108 w)
  rw [knownL.2.1] at hr
  have hs := fun w => Lib.hid (base64_Sub a b w)
  unfold sSub at hr hs
  go_enter Try.func15, Try.ntmps15
  go_wp2_with fail
  refine (hr _).out.mono ?_
  rintro e w1 ⟨rfl, hb⟩
  go_wp2_with fail
  refine (hs _).out.mono ?_
  rintro e w2 ⟨rfl, rfl⟩
  go_wp2_with fail
  go_ret2
  exact ⟨rfl, hb⟩

set_option maxRecDepth 100000 in
theorem long_Mul (a b : Int) (w : World) :
    Calls Try.prog 15 #[.int .i64 105, .int .i64 a, .int .i64 b] w fun e w' => e = .returned (.tuple #[.int .i64 (wrap64 (a * b)), .int .i64 (0)]) ∧ Below w.heap.size w w' := by
  have hr := fun w => Lib.hid (rest_any 105 108 w)
  rw [knownL.2.2.1] at hr
  have hs := fun w => Lib.hid (base64_Mul a b w)
  unfold sMul at hr hs
  go_enter Try.func15, Try.ntmps15
  go_wp2_with fail
  refine (hr _).out.mono ?_
  rintro e w1 ⟨rfl, hb⟩
  go_wp2_with fail
  refine (hs _).out.mono ?_
  rintro e w2 ⟨rfl, rfl⟩
  go_wp2_with fail
  go_ret2
  exact ⟨rfl, hb⟩

set_option maxRecDepth 100000 in
theorem long_Neg (a b : Int) (w : World) :
    Calls Try.prog 15 #[.int .i64 117, .int .i64 a, .int .i64 b] w fun e w' => e = .returned (.tuple #[.int .i64 (wrap64 (-a)), .int .i64 (0)]) ∧ Below w.heap.size w w' := by
  have hr := fun w => Lib.hid (rest_any 117 108 w)
  rw [knownL.2.2.2.1] at hr
  have hs := fun w => Lib.hid (base64_Neg a b w)
  unfold sNeg at hr hs
  go_enter Try.func15, Try.ntmps15
  go_wp2_with fail
  refine (hr _).out.mono ?_
  rintro e w1 ⟨rfl, hb⟩
  go_wp2_with fail
  refine (hs _).out.mono ?_
  rintro e w2 ⟨rfl, rfl⟩
  go_wp2_with fail
  go_ret2
  exact ⟨rfl, hb⟩

set_option maxRecDepth 100000 in
theorem long_And (a b : Int) (w : World) :
    Calls Try.prog 15 #[.int .i64 127, .int .i64 a, .int .i64 b] w fun e w' => e = .returned (.tuple #[.int .i64 (bits .and .i64 a b), .int .i64 (0)]) ∧ Below w.heap.size w w' := by
  have hr := fun w => Lib.hid (rest_any 127 108 w)
  rw [knownL.2.2.2.2.1] at hr
  have hs := fun w => Lib.hid (base64_And a b w)
  unfold sAnd at hr hs
  go_enter Try.func15, Try.ntmps15
  go_wp2_with fail
  refine (hr _).out.mono ?_
  rintro e w1 ⟨rfl, hb⟩
  go_wp2_with fail
  refine (hs _).out.mono ?_
  rintro e w2 ⟨rfl, rfl⟩
  go_wp2_with fail
  go_ret2
  exact ⟨rfl, hb⟩

set_option maxRecDepth 100000 in
theorem long_Or (a b : Int) (w : World) :
    Calls Try.prog 15 #[.int .i64 129, .int .i64 a, .int .i64 b] w fun e w' => e = .returned (.tuple #[.int .i64 (bits .or .i64 a b), .int .i64 (0)]) ∧ Below w.heap.size w w' := by
  have hr := fun w => Lib.hid (rest_any 129 108 w)
  rw [knownL.2.2.2.2.2.1] at hr
  have hs := fun w => Lib.hid (base64_Or a b w)
  unfold sOr at hr hs
  go_enter Try.func15, Try.ntmps15
  go_wp2_with fail
  refine (hr _).out.mono ?_
  rintro e w1 ⟨rfl, hb⟩
  go_wp2_with fail
  refine (hs _).out.mono ?_
  rintro e w2 ⟨rfl, rfl⟩
  go_wp2_with fail
  go_ret2
  exact ⟨rfl, hb⟩

set_option maxRecDepth 100000 in
theorem long_Xor (a b : Int) (w : World) :
    Calls Try.prog 15 #[.int .i64 131, .int .i64 a, .int .i64 b] w fun e w' => e = .returned (.tuple #[.int .i64 (bits .xor .i64 a b), .int .i64 (0)]) ∧ Below w.heap.size w w' := by
  have hr := fun w => Lib.hid (rest_any 131 108 w)
  rw [knownL.2.2.2.2.2.2.1] at hr
  have hs := fun w => Lib.hid (base64_Xor a b w)
  unfold sXor at hr hs
  go_enter Try.func15, Try.ntmps15
  go_wp2_with fail
  refine (hr _).out.mono ?_
  rintro e w1 ⟨rfl, hb⟩
  go_wp2_with fail
  refine (hs _).out.mono ?_
  rintro e w2 ⟨rfl, rfl⟩
  go_wp2_with fail
  go_ret2
  exact ⟨rfl, hb⟩

set_option maxRecDepth 100000 in
theorem long_Div (a b : Int) (w : World) :
    Calls Try.prog 15 #[.int .i64 109, .int .i64 a, .int .i64 b] w fun e w' => e = .returned (.tuple #[.int .i64 (if b = 0 then 0 else quo64 a b), .int .i64 (if b = 0 then 6 else 0)]) ∧ Below w.heap.size w w' := by
  have hr := fun w => Lib.hid (rest_any 109 108 w)
  rw [knownL.2.2.2.2.2.2.2.1] at hr
  have hs := fun w => Lib.hid (base64_Div a b w)
  generalize hg : (if b = 0 then 0 else quo64 a b : Int) = x at hs ⊢
  generalize hg2 : (if b = 0 then 6 else 0 : Int) = y at hs ⊢
  clear hg hg2
  unfold sDiv at hr hs
  go_enter Try.func15, Try.ntmps15
  go_wp2_with fail
  refine (hr _).out.mono ?_
  rintro e w1 ⟨rfl, hb⟩
  go_wp2_with fail
  refine (hs _).out.mono ?_
  rintro e w2 ⟨rfl, rfl⟩
  go_wp2_with fail
  go_ret2
  exact ⟨rfl, hb⟩

set_option maxRecDepth 100000 in
theorem long_Rem (a b : Int) (w : World) :
    Calls Try.prog 15 #[.int .i64 113, .int .i64 a, .int .i64 b] w fun e w' => e = .returned (.tuple #[.int .i64 (if b = 0 then 0 else rest64 a b), .int .i64 (if b = 0 then 6 else 0)]) ∧ Below w.heap.size w w' := by
  have hr := fun w => Lib.hid (rest_any 113 108 w)
  rw [knownL.2.2.2.2.2.2.2.2.1] at hr
  have hs := fun w => Lib.hid (base64_Rem a b w)
  generalize hg : (if b = 0 then 0 else rest64 a b : Int) = x at hs ⊢
  generalize hg2 : (if b = 0 then 6 else 0 : Int) = y at hs ⊢
  clear hg hg2
  unfold sRem at hr hs
  go_enter Try.func15, Try.ntmps15
  go_wp2_with fail
  refine (hr _).out.mono ?_
  rintro e w1 ⟨rfl, hb⟩
  go_wp2_with fail
  refine (hs _).out.mono ?_
  rintro e w2 ⟨rfl, rfl⟩
  go_wp2_with fail
  go_ret2
  exact ⟨rfl, hb⟩

set_option maxRecDepth 100000 in
theorem long_Shl (a b : Int) (w : World) :
    Calls Try.prog 15 #[.int .i64 121, .int .i64 a, .int .i64 b] w fun e w' => e = .returned (.tuple #[.int .i64 (0), .int .i64 (60)]) ∧ Below w.heap.size w w' := by
  have hr := fun w => Lib.hid (rest_any 121 108 w)
  rw [knownL.2.2.2.2.2.2.2.2.2.1] at hr
  have hs := fun w => Lib.hid (base64_Shl a b w)
  unfold sShl at hr hs
  go_enter Try.func15, Try.ntmps15
  go_wp2_with fail
  refine (hr _).out.mono ?_
  rintro e w1 ⟨rfl, hb⟩
  go_wp2_with fail
  refine (hs _).out.mono ?_
  rintro e w2 ⟨rfl, rfl⟩
  go_wp2_with fail
  go_ret2
  exact ⟨rfl, hb⟩

set_option maxRecDepth 100000 in
theorem long_Shr (a b : Int) (w : World) :
    Calls Try.prog 15 #[.int .i64 123, .int .i64 a, .int .i64 b] w fun e w' => e = .returned (.tuple #[.int .i64 (0), .int .i64 (60)]) ∧ Below w.heap.size w w' := by
  have hr := fun w => Lib.hid (rest_any 123 108 w)
  rw [knownL.2.2.2.2.2.2.2.2.2.2.1] at hr
  have hs := fun w => Lib.hid (base64_Shr a b w)
  unfold sShr at hr hs
  go_enter Try.func15, Try.ntmps15
  go_wp2_with fail
  refine (hr _).out.mono ?_
  rintro e w1 ⟨rfl, hb⟩
  go_wp2_with fail
  refine (hs _).out.mono ?_
  rintro e w2 ⟨rfl, rfl⟩
  go_wp2_with fail
  go_ret2
  exact ⟨rfl, hb⟩

set_option maxRecDepth 100000 in
theorem long_Ushr (a b : Int) (w : World) :
    Calls Try.prog 15 #[.int .i64 125, .int .i64 a, .int .i64 b] w fun e w' => e = .returned (.tuple #[.int .i64 (0), .int .i64 (60)]) ∧ Below w.heap.size w w' := by
  have hr := fun w => Lib.hid (rest_any 125 108 w)
  rw [knownL.2.2.2.2.2.2.2.2.2.2.2] at hr
  have hs := fun w => Lib.hid (base64_Ushr a b w)
  unfold sUshr at hr hs
  go_enter Try.func15, Try.ntmps15
  go_wp2_with fail
  refine (hr _).out.mono ?_
  rintro e w1 ⟨rfl, hb⟩
  go_wp2_with fail
  refine (hs _).out.mono ?_
  rintro e w2 ⟨rfl, rfl⟩
  go_wp2_with fail
  go_ret2
  exact ⟨rfl, hb⟩

set_option maxRecDepth 100000 in
theorem long_other (op a b : Int) (w : World) (h : codesL.contains op = false) :
    Calls Try.prog 15 #[.int .i64 op, .int .i64 a, .int .i64 b] w fun e w' => e = .returned (.tuple #[.int .i64 (0), .int .i64 (60)]) ∧ Below w.heap.size w w' := by
  have hr := fun w => Lib.hid (rest_any op 108 w)
  have hs := restL_other op h
  generalize restS (nm op) 108 = s at hr hs
  have hc := fun w => Lib.hid (base64_other s a b w hs)
  clear hs h
  go_enter Try.func15, Try.ntmps15
  go_wp2_with fail
  refine (hr _).out.mono ?_
  rintro e w1 ⟨rfl, hb⟩
  go_wp2_with fail
  refine (hc _).out.mono ?_
  rintro e w2 ⟨rfl, rfl⟩
  go_wp2_with fail
  go_ret2
  exact ⟨rfl, hb⟩

/-- arith.Long. -/
theorem long_any (op a b : Int) (w : World) : Calls Try.prog 15 #[.int .i64 op, .int .i64 a, .int .i64 b] w fun e w' => e = .returned (.tuple #[.int .i64 (lV op a b), .int .i64 (lE op b)]) ∧ Below w.heap.size w w' := by
  cases h : codesL.contains op with
  | false => rw [lV_no a b h, lE_no b h]; exact long_other op a b w h
  | true =>
    rcases codesL_yes h with rfl | rfl | rfl | rfl | rfl | rfl | rfl | rfl | rfl | rfl | rfl | rfl
    · exact long_Add a b w
    · exact long_Sub a b w
    · exact long_Mul a b w
    · exact long_Neg a b w
    · exact long_And a b w
    · exact long_Or a b w
    · exact long_Xor a b w
    · exact long_Div a b w
    · exact long_Rem a b w
    · exact long_Shl a b w
    · exact long_Shr a b w
    · exact long_Ushr a b w

set_option maxRecDepth 100000 in
theorem shift_Add (a b : Int) (w : World) :
    Calls Try.prog 18 #[.int .i64 97, .int .i64 a, .int .i32 b] w fun e w' => e = .returned (.tuple #[.int .i64 (0), .int .i64 (60)]) ∧ Below w.heap.size w w' := by
  have hr := fun w => Lib.hid (rest_any 97 108 w)
  rw [knownL.1] at hr
  obtain ⟨m, hm, h0, h1, h2, h3⟩ := by64 b
  clear h3 hm
  unfold sAdd at hr
  go_enter Try.func18, Try.ntmps18
  go_wp2_with fail
  refine (hr _).out.mono ?_
  rintro e w1 ⟨rfl, hb⟩
  go_wp2_with fail
  go_ret2
  exact ⟨rfl, hb⟩

set_option maxRecDepth 100000 in
theorem shift_Sub (a b : Int) (w : World) :
    Calls Try.prog 18 #[.int .i64 101, .int .i64 a, .int .i32 b] w fun e w' => e = .returned (.tuple #[.int .i64 (0), .int .i64 (60)]) ∧ Below w.heap.size w w' := by
  have hr := fun w => Lib.hid (rest_any 101 108 w)
  rw [knownL.2.1] at hr
  obtain ⟨m, hm, h0, h1, h2, h3⟩ := by64 b
  clear h3 hm
  unfold sSub at hr
  go_enter Try.func18, Try.ntmps18
  go_wp2_with fail
  refine (hr _).out.mono ?_
  rintro e w1 ⟨rfl, hb⟩
  go_wp2_with fail
  go_ret2
  exact ⟨rfl, hb⟩

set_option maxRecDepth 100000 in
theorem shift_Mul (a b : Int) (w : World) :
    Calls Try.prog 18 #[.int .i64 105, .int .i64 a, .int .i32 b] w fun e w' => e = .returned (.tuple #[.int .i64 (0), .int .i64 (60)]) ∧ Below w.heap.size w w' := by
  have hr := fun w => Lib.hid (rest_any 105 108 w)
  rw [knownL.2.2.1] at hr
  obtain ⟨m, hm, h0, h1, h2, h3⟩ := by64 b
  clear h3 hm
  unfold sMul at hr
  go_enter Try.func18, Try.ntmps18
  go_wp2_with fail
  refine (hr _).out.mono ?_
  rintro e w1 ⟨rfl, hb⟩
  go_wp2_with fail
  go_ret2
  exact ⟨rfl, hb⟩

set_option maxRecDepth 100000 in
theorem shift_Neg (a b : Int) (w : World) :
    Calls Try.prog 18 #[.int .i64 117, .int .i64 a, .int .i32 b] w fun e w' => e = .returned (.tuple #[.int .i64 (0), .int .i64 (60)]) ∧ Below w.heap.size w w' := by
  have hr := fun w => Lib.hid (rest_any 117 108 w)
  rw [knownL.2.2.2.1] at hr
  obtain ⟨m, hm, h0, h1, h2, h3⟩ := by64 b
  clear h3 hm
  unfold sNeg at hr
  go_enter Try.func18, Try.ntmps18
  go_wp2_with fail
  refine (hr _).out.mono ?_
  rintro e w1 ⟨rfl, hb⟩
  go_wp2_with fail
  go_ret2
  exact ⟨rfl, hb⟩

set_option maxRecDepth 100000 in
theorem shift_And (a b : Int) (w : World) :
    Calls Try.prog 18 #[.int .i64 127, .int .i64 a, .int .i32 b] w fun e w' => e = .returned (.tuple #[.int .i64 (0), .int .i64 (60)]) ∧ Below w.heap.size w w' := by
  have hr := fun w => Lib.hid (rest_any 127 108 w)
  rw [knownL.2.2.2.2.1] at hr
  obtain ⟨m, hm, h0, h1, h2, h3⟩ := by64 b
  clear h3 hm
  unfold sAnd at hr
  go_enter Try.func18, Try.ntmps18
  go_wp2_with fail
  refine (hr _).out.mono ?_
  rintro e w1 ⟨rfl, hb⟩
  go_wp2_with fail
  go_ret2
  exact ⟨rfl, hb⟩

set_option maxRecDepth 100000 in
theorem shift_Or (a b : Int) (w : World) :
    Calls Try.prog 18 #[.int .i64 129, .int .i64 a, .int .i32 b] w fun e w' => e = .returned (.tuple #[.int .i64 (0), .int .i64 (60)]) ∧ Below w.heap.size w w' := by
  have hr := fun w => Lib.hid (rest_any 129 108 w)
  rw [knownL.2.2.2.2.2.1] at hr
  obtain ⟨m, hm, h0, h1, h2, h3⟩ := by64 b
  clear h3 hm
  unfold sOr at hr
  go_enter Try.func18, Try.ntmps18
  go_wp2_with fail
  refine (hr _).out.mono ?_
  rintro e w1 ⟨rfl, hb⟩
  go_wp2_with fail
  go_ret2
  exact ⟨rfl, hb⟩

set_option maxRecDepth 100000 in
theorem shift_Xor (a b : Int) (w : World) :
    Calls Try.prog 18 #[.int .i64 131, .int .i64 a, .int .i32 b] w fun e w' => e = .returned (.tuple #[.int .i64 (0), .int .i64 (60)]) ∧ Below w.heap.size w w' := by
  have hr := fun w => Lib.hid (rest_any 131 108 w)
  rw [knownL.2.2.2.2.2.2.1] at hr
  obtain ⟨m, hm, h0, h1, h2, h3⟩ := by64 b
  clear h3 hm
  unfold sXor at hr
  go_enter Try.func18, Try.ntmps18
  go_wp2_with fail
  refine (hr _).out.mono ?_
  rintro e w1 ⟨rfl, hb⟩
  go_wp2_with fail
  go_ret2
  exact ⟨rfl, hb⟩

set_option maxRecDepth 100000 in
theorem shift_Div (a b : Int) (w : World) :
    Calls Try.prog 18 #[.int .i64 109, .int .i64 a, .int .i32 b] w fun e w' => e = .returned (.tuple #[.int .i64 (0), .int .i64 (60)]) ∧ Below w.heap.size w w' := by
  have hr := fun w => Lib.hid (rest_any 109 108 w)
  rw [knownL.2.2.2.2.2.2.2.1] at hr
  obtain ⟨m, hm, h0, h1, h2, h3⟩ := by64 b
  clear h3 hm
  unfold sDiv at hr
  go_enter Try.func18, Try.ntmps18
  go_wp2_with fail
  refine (hr _).out.mono ?_
  rintro e w1 ⟨rfl, hb⟩
  go_wp2_with fail
  go_ret2
  exact ⟨rfl, hb⟩

set_option maxRecDepth 100000 in
theorem shift_Rem (a b : Int) (w : World) :
    Calls Try.prog 18 #[.int .i64 113, .int .i64 a, .int .i32 b] w fun e w' => e = .returned (.tuple #[.int .i64 (0), .int .i64 (60)]) ∧ Below w.heap.size w w' := by
  have hr := fun w => Lib.hid (rest_any 113 108 w)
  rw [knownL.2.2.2.2.2.2.2.2.1] at hr
  obtain ⟨m, hm, h0, h1, h2, h3⟩ := by64 b
  clear h3 hm
  unfold sRem at hr
  go_enter Try.func18, Try.ntmps18
  go_wp2_with fail
  refine (hr _).out.mono ?_
  rintro e w1 ⟨rfl, hb⟩
  go_wp2_with fail
  go_ret2
  exact ⟨rfl, hb⟩

set_option maxRecDepth 100000 in
theorem shift_Shl (a b : Int) (w : World) :
    Calls Try.prog 18 #[.int .i64 121, .int .i64 a, .int .i32 b] w fun e w' => e = .returned (.tuple #[.int .i64 (wrap64 (a * 2 ^ (b % 64).toNat)), .int .i64 (0)]) ∧ Below w.heap.size w w' := by
  have hr := fun w => Lib.hid (rest_any 121 108 w)
  rw [knownL.2.2.2.2.2.2.2.2.2.1] at hr
  obtain ⟨m, hm, h0, h1, h2, h3⟩ := by64 b
  rw [← hm]
  clear h3 hm
  unfold sShl at hr
  go_enter Try.func18, Try.ntmps18
  go_wp2_with fail
  refine (hr _).out.mono ?_
  rintro e w1 ⟨rfl, hb⟩
  go_wp2_with fail
  go_ret2
  exact ⟨rfl, hb⟩

set_option maxRecDepth 100000 in
theorem shift_Shr (a b : Int) (w : World) :
    Calls Try.prog 18 #[.int .i64 123, .int .i64 a, .int .i32 b] w fun e w' => e = .returned (.tuple #[.int .i64 (a / 2 ^ (b % 64).toNat), .int .i64 (0)]) ∧ Below w.heap.size w w' := by
  have hr := fun w => Lib.hid (rest_any 123 108 w)
  rw [knownL.2.2.2.2.2.2.2.2.2.2.1] at hr
  obtain ⟨m, hm, h0, h1, h2, h3⟩ := by64 b
  rw [← hm]
  clear h3 hm
  unfold sShr at hr
  go_enter Try.func18, Try.ntmps18
  go_wp2_with fail
  refine (hr _).out.mono ?_
  rintro e w1 ⟨rfl, hb⟩
  go_wp2_with fail
  go_ret2
  exact ⟨rfl, hb⟩

set_option maxRecDepth 100000 in
theorem shift_Ushr (a b : Int) (w : World) :
    Calls Try.prog 18 #[.int .i64 125, .int .i64 a, .int .i32 b] w fun e w' => e = .returned (.tuple #[.int .i64 (wrap64 (a % 18446744073709551616 / 2 ^ (b % 64).toNat)), .int .i64 (0)]) ∧ Below w.heap.size w w' := by
  have hr := fun w => Lib.hid (rest_any 125 108 w)
  rw [knownL.2.2.2.2.2.2.2.2.2.2.2] at hr
  obtain ⟨m, hm, h0, h1, h2, h3⟩ := by64 b
  rw [← hm]
  clear h3 hm
  unfold sUshr at hr
  go_enter Try.func18, Try.ntmps18
  go_wp2_with fail
  refine (hr _).out.mono ?_
  rintro e w1 ⟨rfl, hb⟩
  go_wp2_with fail
  go_ret2
  exact ⟨rfl, hb⟩

set_option maxRecDepth 100000 in
theorem shift_other (op a b : Int) (w : World) (h : codesL.contains op = false) :
    Calls Try.prog 18 #[.int .i64 op, .int .i64 a, .int .i32 b] w fun e w' => e = .returned (.tuple #[.int .i64 (0), .int .i64 (60)]) ∧ Below w.heap.size w w' := by
  have hr := fun w => Lib.hid (rest_any op 108 w)
  have hs := restL_other op h
  generalize restS (nm op) 108 = s at hr hs
  obtain ⟨h1, h2, h3, h4, h5, h6, h7, h8, h9, h10, h11, h12⟩ := noneOf_at hs
  clear hs h1 h2 h3 h4 h5 h6 h7 h8 h9 h
  go_enter Try.func18, Try.ntmps18
  go_wp2_with fail
  refine (hr _).out.mono ?_
  rintro e w1 ⟨rfl, hb⟩
  go_wp2_with fail
  go_ret2
  exact ⟨rfl, hb⟩

/-- arith.Shift. -/
theorem shift_any (op a b : Int) (w : World) : Calls Try.prog 18 #[.int .i64 op, .int .i64 a, .int .i32 b] w fun e w' => e = .returned (.tuple #[.int .i64 (hV op a b), .int .i64 (hE op)]) ∧ Below w.heap.size w w' := by
  cases h : codesL.contains op with
  | false =>
    have e : ([121, 123, 125] : List Int).contains op = false := by
      obtain ⟨h1, h2, h3, h4, h5, h6, h7, h8, h9, h10, h11, h12⟩ := codesL_no h
      simp only [beq_eq_false_iff_ne] at h10 h11 h12
      simp
      exact ⟨h10, h11, h12⟩
    obtain ⟨e1, e2⟩ := hV_no a b e
    rw [e1, e2]; exact shift_other op a b w h
  | true =>
    rcases codesL_yes h with rfl | rfl | rfl | rfl | rfl | rfl | rfl | rfl | rfl | rfl | rfl | rfl
    · exact shift_Add a b w
    · exact shift_Sub a b w
    · exact shift_Mul a b w
    · exact shift_Neg a b w
    · exact shift_And a b w
    · exact shift_Or a b w
    · exact shift_Xor a b w
    · exact shift_Div a b w
    · exact shift_Rem a b w
    · exact shift_Shl a b w
    · exact shift_Shr a b w
    · exact shift_Ushr a b w
end Go.Proofs.Ytacnlbbponiamaa
