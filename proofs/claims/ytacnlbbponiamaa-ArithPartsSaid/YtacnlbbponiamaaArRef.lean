/- What the reference of the layer arith answers: Int, Long, Shift; no condition but that numbers are of their kinds. -/
import Derived.Test.YtacnlbbponiamaaArInt
namespace Go.Proofs.Ytacnlbbponiamaa
open Go.RowKit
set_option linter.unusedVariables false

set_option maxRecDepth 100000 in
theorem rlong_Add (a b : Int) (w : World) :
    Calls Try.prog 16 #[.int .i64 97, .int .i64 a, .int .i64 b] w fun e w' => e = .returned (.tuple #[.int .i64 (wrap64 (a + b)), .int .i64 (0)]) ∧ w = w' := by
  go_enter Try.func16, Try.ntmps16
  go_wp2_with fail
  go_ret2
  exact ⟨rfl, rfl⟩

set_option maxRecDepth 100000 in
theorem rlong_Sub (a b : Int) (w : World) :
    Calls Try.prog 16 #[.int .i64 101, .int .i64 a, .int .i64 b] w fun e w' => e = .returned (.tuple #[.int .i64 (wrap64 (a - b)), .int .i64 (0)]) ∧ w = w' := by
  go_enter Try.func16, Try.ntmps16
  go_wp2_with fail
  go_ret2
  exact ⟨rfl, rfl⟩

set_option maxRecDepth 100000 in
theorem rlong_Mul (a b : Int) (w : World) :
    Calls Try.prog 16 #[.int .i64 105, .int .i64 a, .int .i64 b] w fun e w' => e = .returned (.tuple #[.int .i64 (wrap64 (a * b)), .int .i64 (0)]) ∧ w = w' := by
  go_enter Try.func16, Try.ntmps16
  go_wp2_with fail
  go_ret2
  exact ⟨rfl, rfl⟩

set_option maxRecDepth 100000 in
theorem rlong_Neg (a b : Int) (w : World) :
    Calls Try.prog 16 #[.int .i64 117, .int .i64 a, .int .i64 b] w fun e w' => e = .returned (.tuple #[.int .i64 (wrap64 (-a)), .int .i64 (0)]) ∧ w = w' := by
  go_enter Try.func16, Try.ntmps16
  go_wp2_with fail
  go_ret2
  exact ⟨rfl, rfl⟩

set_option maxRecDepth 100000 in
theorem rlong_And (a b : Int) (w : World) :
    Calls Try.prog 16 #[.int .i64 127, .int .i64 a, .int .i64 b] w fun e w' => e = .returned (.tuple #[.int .i64 (bits .and .i64 a b), .int .i64 (0)]) ∧ w = w' := by
  go_enter Try.func16, Try.ntmps16
  go_wp2_with fail
  go_ret2
  exact ⟨rfl, rfl⟩

set_option maxRecDepth 100000 in
theorem rlong_Or (a b : Int) (w : World) :
    Calls Try.prog 16 #[.int .i64 129, .int .i64 a, .int .i64 b] w fun e w' => e = .returned (.tuple #[.int .i64 (bits .or .i64 a b), .int .i64 (0)]) ∧ w = w' := by
  go_enter Try.func16, Try.ntmps16
  go_wp2_with fail
  go_ret2
  exact ⟨rfl, rfl⟩

set_option maxRecDepth 100000 in
theorem rlong_Xor (a b : Int) (w : World) :
    Calls Try.prog 16 #[.int .i64 131, .int .i64 a, .int .i64 b] w fun e w' => e = .returned (.tuple #[.int .i64 (bits .xor .i64 a b), .int .i64 (0)]) ∧ w = w' := by
  go_enter Try.func16, Try.ntmps16
  go_wp2_with fail
  go_ret2
  exact ⟨rfl, rfl⟩

set_option maxRecDepth 100000 in
theorem rlong_Div (a b : Int) (w : World) :
    Calls Try.prog 16 #[.int .i64 109, .int .i64 a, .int .i64 b] w fun e w' => e = .returned (.tuple #[.int .i64 (if b = 0 then 0 else quo64 a b), .int .i64 (if b = 0 then 6 else 0)]) ∧ w = w' := by
  by_cases h0 : b = 0
  · subst h0
    simp only [if_true]
    go_enter Try.func16, Try.ntmps16
    go_wp2_with fail
    go_ret2
    exact ⟨rfl, rfl⟩
  · rw [if_neg h0, if_neg h0]
    by_cases h1 : b = -1
    · subst h1
      unfold quo64
      simp only [if_true]
      clear h0
      go_enter Try.func16, Try.ntmps16
      go_wp2_with fail
      go_ret2
      exact ⟨rfl, rfl⟩
    · unfold quo64
      rw [if_neg h1]
      have e0 : (b == 0) = false := beq_eq_false_iff_ne.2 h0
      have e1 : (b == -1) = false := beq_eq_false_iff_ne.2 h1
      clear h1
      go_enter Try.func16, Try.ntmps16
      go_wp2_with fail
      go_ret2
      exact ⟨rfl, rfl⟩

set_option maxRecDepth 100000 in
theorem rlong_Rem (a b : Int) (w : World) :
    Calls Try.prog 16 #[.int .i64 113, .int .i64 a, .int .i64 b] w fun e w' => e = .returned (.tuple #[.int .i64 (if b = 0 then 0 else if b = -1 then 0 else a.tmod b), .int .i64 (if b = 0 then 6 else 0)]) ∧ w = w' := by
  by_cases h0 : b = 0
  · subst h0
    simp only [if_true]
    go_enter Try.func16, Try.ntmps16
    go_wp2_with fail
    go_ret2
    exact ⟨rfl, rfl⟩
  · rw [if_neg h0, if_neg h0]
    by_cases h1 : b = -1
    · subst h1
      simp only [if_true]
      clear h0
      go_enter Try.func16, Try.ntmps16
      go_wp2_with fail
      go_ret2
      exact ⟨rfl, rfl⟩
    · rw [if_neg h1]
      have e0 : (b == 0) = false := beq_eq_false_iff_ne.2 h0
      have e1 : (b == -1) = false := beq_eq_false_iff_ne.2 h1
      clear h1
      go_enter Try.func16, Try.ntmps16
      go_wp2_with fail
      go_ret2
      exact ⟨rfl, rfl⟩

set_option maxRecDepth 100000 in
theorem rlong_other (op a b : Int) (w : World) (h : codesL.contains op = false ∨ op = 121 ∨ op = 123 ∨ op = 125) :
    Calls Try.prog 16 #[.int .i64 op, .int .i64 a, .int .i64 b] w fun e w' => e = .returned (.tuple #[.int .i64 0, .int .i64 60]) ∧ w = w' := by
  have hx : (op == 97) = false ∧ (op == 101) = false ∧ (op == 105) = false ∧ (op == 117) = false ∧ (op == 127) = false ∧ (op == 129) = false ∧ (op == 131) = false ∧ (op == 109) = false ∧ (op == 113) = false := by
    rcases h with h | rfl | rfl | rfl
    · obtain ⟨h1, h2, h3, h4, h5, h6, h7, h8, h9, h10, h11, h12⟩ := codesL_no h
      exact ⟨h1, h2, h3, h4, h5, h6, h7, h8, h9⟩
    · decide
    · decide
    · decide
  obtain ⟨h1, h2, h3, h4, h5, h6, h7, h8, h9⟩ := hx
  clear h
  go_enter Try.func16, Try.ntmps16
  go_wp2_with fail
  go_ret2
  exact ⟨rfl, rfl⟩

/-- The reference's Long. -/
theorem rlong_any (op a b : Int) (w : World) (ha : in64 a) (hb : in64 b) : Calls Try.prog 16 #[.int .i64 op, .int .i64 a, .int .i64 b] w fun e w' => e = .returned (.tuple #[.int .i64 (lV op a b), .int .i64 (lE op b)]) ∧ w = w' := by
  cases h : codesL.contains op with
  | false => rw [lV_no a b h, lE_no b h]; exact rlong_other op a b w (.inl h)
  | true =>
    rcases codesL_yes h with rfl | rfl | rfl | rfl | rfl | rfl | rfl | rfl | rfl | rfl | rfl | rfl
    · exact rlong_Add a b w
    · exact rlong_Sub a b w
    · exact rlong_Mul a b w
    · exact rlong_Neg a b w
    · exact rlong_And a b w
    · exact rlong_Or a b w
    · exact rlong_Xor a b w
    · exact rlong_Div a b w
    · have e : lV 113 a b = if b = 0 then 0 else if b = -1 then 0 else a.tmod b := by
        show (if b = 0 then 0 else rest64 a b) = _
        by_cases h0 : b = 0
        · rw [if_pos h0, if_pos h0]
        · rw [if_neg h0, if_neg h0, rest64_of ha h0 hb]
      rw [e]
      exact rlong_Rem a b w
    · exact rlong_other 121 a b w (by simp)
    · exact rlong_other 123 a b w (by simp)
    · exact rlong_other 125 a b w (by simp)

set_option maxRecDepth 100000 in
theorem rint_Add (a b : Int) (w : World) (ha : in32 a) (hb : in32 b) :
    Calls Try.prog 13 #[.int .i64 96, .int .i32 a, .int .i32 b] w fun e w' => e = .returned (.tuple #[.int .i32 (wrap32 (wrap64 (a + b))), .int .i64 (0)]) ∧ w = w' := by
  have hs := fun w => Lib.hid (rlong_Add a b w)
  obtain ⟨m, hm, h0, h1, h2, h3⟩ := by32 b
  clear h2 hm
  unfold in32 at ha hb
  obtain ⟨ha0, ha1⟩ := ha
  obtain ⟨hb0, hb1⟩ := hb
  generalize hg : (wrap64 (a + b) : Int) = x at hs ⊢
  generalize hg2 : (0 : Int) = y at hs ⊢
  clear hg hg2
  go_enter Try.func13, Try.ntmps13
  go_wp2_with fail
  refine (hs _).out.mono ?_
  rintro e w2 ⟨rfl, rfl⟩
  go_wp2_with fail
  go_ret2
  exact ⟨rfl, rfl⟩

set_option maxRecDepth 100000 in
theorem rint_Sub (a b : Int) (w : World) (ha : in32 a) (hb : in32 b) :
    Calls Try.prog 13 #[.int .i64 100, .int .i32 a, .int .i32 b] w fun e w' => e = .returned (.tuple #[.int .i32 (wrap32 (wrap64 (a - b))), .int .i64 (0)]) ∧ w = w' := by
  have hs := fun w => Lib.hid (rlong_Sub a b w)
  obtain ⟨m, hm, h0, h1, h2, h3⟩ := by32 b
  clear h2 hm
  unfold in32 at ha hb
  obtain ⟨ha0, ha1⟩ := ha
  obtain ⟨hb0, hb1⟩ := hb
  generalize hg : (wrap64 (a - b) : Int) = x at hs ⊢
  generalize hg2 : (0 : Int) = y at hs ⊢
  clear hg hg2
  go_enter Try.func13, Try.ntmps13
  go_wp2_with fail
  refine (hs _).out.mono ?_
  rintro e w2 ⟨rfl, rfl⟩
  go_wp2_with fail
  go_ret2
  exact ⟨rfl, rfl⟩

set_option maxRecDepth 100000 in
theorem rint_Mul (a b : Int) (w : World) (ha : in32 a) (hb : in32 b) :
    Calls Try.prog 13 #[.int .i64 104, .int .i32 a, .int .i32 b] w fun e w' => e = .returned (.tuple #[.int .i32 (wrap32 (wrap64 (a * b))), .int .i64 (0)]) ∧ w = w' := by
  have hs := fun w => Lib.hid (rlong_Mul a b w)
  obtain ⟨m, hm, h0, h1, h2, h3⟩ := by32 b
  clear h2 hm
  unfold in32 at ha hb
  obtain ⟨ha0, ha1⟩ := ha
  obtain ⟨hb0, hb1⟩ := hb
  generalize hg : (wrap64 (a * b) : Int) = x at hs ⊢
  generalize hg2 : (0 : Int) = y at hs ⊢
  clear hg hg2
  go_enter Try.func13, Try.ntmps13
  go_wp2_with fail
  refine (hs _).out.mono ?_
  rintro e w2 ⟨rfl, rfl⟩
  go_wp2_with fail
  go_ret2
  exact ⟨rfl, rfl⟩

set_option maxRecDepth 100000 in
theorem rint_Neg (a b : Int) (w : World) (ha : in32 a) (hb : in32 b) :
    Calls Try.prog 13 #[.int .i64 116, .int .i32 a, .int .i32 b] w fun e w' => e = .returned (.tuple #[.int .i32 (wrap32 (wrap64 (-a))), .int .i64 (0)]) ∧ w = w' := by
  have hs := fun w => Lib.hid (rlong_Neg a b w)
  obtain ⟨m, hm, h0, h1, h2, h3⟩ := by32 b
  clear h2 hm
  unfold in32 at ha hb
  obtain ⟨ha0, ha1⟩ := ha
  obtain ⟨hb0, hb1⟩ := hb
  generalize hg : (wrap64 (-a) : Int) = x at hs ⊢
  generalize hg2 : (0 : Int) = y at hs ⊢
  clear hg hg2
  go_enter Try.func13, Try.ntmps13
  go_wp2_with fail
  refine (hs _).out.mono ?_
  rintro e w2 ⟨rfl, rfl⟩
  go_wp2_with fail
  go_ret2
  exact ⟨rfl, rfl⟩

set_option maxRecDepth 100000 in
theorem rint_And (a b : Int) (w : World) (ha : in32 a) (hb : in32 b) :
    Calls Try.prog 13 #[.int .i64 126, .int .i32 a, .int .i32 b] w fun e w' => e = .returned (.tuple #[.int .i32 (wrap32 (bits .and .i64 a b)), .int .i64 (0)]) ∧ w = w' := by
  have hs := fun w => Lib.hid (rlong_And a b w)
  obtain ⟨m, hm, h0, h1, h2, h3⟩ := by32 b
  clear h2 hm
  unfold in32 at ha hb
  obtain ⟨ha0, ha1⟩ := ha
  obtain ⟨hb0, hb1⟩ := hb
  generalize hg : (bits .and .i64 a b : Int) = x at hs ⊢
  generalize hg2 : (0 : Int) = y at hs ⊢
  clear hg hg2
  go_enter Try.func13, Try.ntmps13
  go_wp2_with fail
  refine (hs _).out.mono ?_
  rintro e w2 ⟨rfl, rfl⟩
  go_wp2_with fail
  go_ret2
  exact ⟨rfl, rfl⟩

set_option maxRecDepth 100000 in
theorem rint_Or (a b : Int) (w : World) (ha : in32 a) (hb : in32 b) :
    Calls Try.prog 13 #[.int .i64 128, .int .i32 a, .int .i32 b] w fun e w' => e = .returned (.tuple #[.int .i32 (wrap32 (bits .or .i64 a b)), .int .i64 (0)]) ∧ w = w' := by
  have hs := fun w => Lib.hid (rlong_Or a b w)
  obtain ⟨m, hm, h0, h1, h2, h3⟩ := by32 b
  clear h2 hm
  unfold in32 at ha hb
  obtain ⟨ha0, ha1⟩ := ha
  obtain ⟨hb0, hb1⟩ := hb
  generalize hg : (bits .or .i64 a b : Int) = x at hs ⊢
  generalize hg2 : (0 : Int) = y at hs ⊢
  clear hg hg2
  go_enter Try.func13, Try.ntmps13
  go_wp2_with fail
  refine (hs _).out.mono ?_
  rintro e w2 ⟨rfl, rfl⟩
  go_wp2_with fail
  go_ret2
  exact ⟨rfl, rfl⟩

set_option maxRecDepth 100000 in
theorem rint_Xor (a b : Int) (w : World) (ha : in32 a) (hb : in32 b) :
    Calls Try.prog 13 #[.int .i64 130, .int .i32 a, .int .i32 b] w fun e w' => e = .returned (.tuple #[.int .i32 (wrap32 (bits .xor .i64 a b)), .int .i64 (0)]) ∧ w = w' := by
  have hs := fun w => Lib.hid (rlong_Xor a b w)
  obtain ⟨m, hm, h0, h1, h2, h3⟩ := by32 b
  clear h2 hm
  unfold in32 at ha hb
  obtain ⟨ha0, ha1⟩ := ha
  obtain ⟨hb0, hb1⟩ := hb
  generalize hg : (bits .xor .i64 a b : Int) = x at hs ⊢
  generalize hg2 : (0 : Int) = y at hs ⊢
  clear hg hg2
  go_enter Try.func13, Try.ntmps13
  go_wp2_with fail
  refine (hs _).out.mono ?_
  rintro e w2 ⟨rfl, rfl⟩
  go_wp2_with fail
  go_ret2
  exact ⟨rfl, rfl⟩

set_option maxRecDepth 100000 in
theorem rint_Div (a b : Int) (w : World) (ha : in32 a) (hb : in32 b) :
    Calls Try.prog 13 #[.int .i64 108, .int .i32 a, .int .i32 b] w fun e w' => e = .returned (.tuple #[.int .i32 (wrap32 (if b = 0 then 0 else quo64 a b)), .int .i64 (if b = 0 then 6 else 0)]) ∧ w = w' := by
  have hs := fun w => Lib.hid (rlong_Div a b w)
  obtain ⟨m, hm, h0, h1, h2, h3⟩ := by32 b
  clear h2 hm
  unfold in32 at ha hb
  obtain ⟨ha0, ha1⟩ := ha
  obtain ⟨hb0, hb1⟩ := hb
  generalize hg : (if b = 0 then 0 else quo64 a b : Int) = x at hs ⊢
  generalize hg2 : (if b = 0 then 6 else 0 : Int) = y at hs ⊢
  clear hg hg2
  go_enter Try.func13, Try.ntmps13
  go_wp2_with fail
  refine (hs _).out.mono ?_
  rintro e w2 ⟨rfl, rfl⟩
  go_wp2_with fail
  go_ret2
  exact ⟨rfl, rfl⟩

set_option maxRecDepth 100000 in
theorem rint_Rem (a b : Int) (w : World) (ha : in32 a) (hb : in32 b) :
    Calls Try.prog 13 #[.int .i64 112, .int .i32 a, .int .i32 b] w fun e w' => e = .returned (.tuple #[.int .i32 (wrap32 (if b = 0 then 0 else if b = -1 then 0 else a.tmod b)), .int .i64 (if b = 0 then 6 else 0)]) ∧ w = w' := by
  have hs := fun w => Lib.hid (rlong_Rem a b w)
  obtain ⟨m, hm, h0, h1, h2, h3⟩ := by32 b
  clear h2 hm
  unfold in32 at ha hb
  obtain ⟨ha0, ha1⟩ := ha
  obtain ⟨hb0, hb1⟩ := hb
  generalize hg : (if b = 0 then 0 else if b = -1 then 0 else a.tmod b : Int) = x at hs ⊢
  generalize hg2 : (if b = 0 then 6 else 0 : Int) = y at hs ⊢
  clear hg hg2
  go_enter Try.func13, Try.ntmps13
  go_wp2_with fail
  refine (hs _).out.mono ?_
  rintro e w2 ⟨rfl, rfl⟩
  go_wp2_with fail
  go_ret2
  exact ⟨rfl, rfl⟩

set_option maxRecDepth 100000 in
theorem rint_Shl (a b : Int) (w : World) :
    Calls Try.prog 13 #[.int .i64 120, .int .i32 a, .int .i32 b] w fun e w' => e = .returned (.tuple #[.int .i32 (wrap32 (a * 2 ^ (b % 32).toNat)), .int .i64 0]) ∧ w = w' := by
  obtain ⟨m, hm, h0, h1, h2, h3⟩ := by32 b
  rw [← hm]
  clear h2 hm
  go_enter Try.func13, Try.ntmps13
  go_wp2_with fail
  go_ret2
  exact ⟨rfl, rfl⟩

set_option maxRecDepth 100000 in
theorem rint_Shr (a b : Int) (w : World) :
    Calls Try.prog 13 #[.int .i64 122, .int .i32 a, .int .i32 b] w fun e w' => e = .returned (.tuple #[.int .i32 (a / 2 ^ (b % 32).toNat), .int .i64 0]) ∧ w = w' := by
  obtain ⟨m, hm, h0, h1, h2, h3⟩ := by32 b
  rw [← hm]
  clear h2 hm
  go_enter Try.func13, Try.ntmps13
  go_wp2_with fail
  go_ret2
  exact ⟨rfl, rfl⟩

set_option maxRecDepth 100000 in
theorem rint_Ushr (a b : Int) (w : World) :
    Calls Try.prog 13 #[.int .i64 124, .int .i32 a, .int .i32 b] w fun e w' => e = .returned (.tuple #[.int .i32 (wrap32 (a % 4294967296 / 2 ^ (b % 32).toNat)), .int .i64 0]) ∧ w = w' := by
  obtain ⟨m, hm, h0, h1, h2, h3⟩ := by32 b
  rw [← hm]
  clear h2 hm
  go_enter Try.func13, Try.ntmps13
  go_wp2_with fail
  go_ret2
  exact ⟨rfl, rfl⟩

set_option maxRecDepth 100000 in
theorem rint_other (op a b : Int) (w : World) (h : codesI.contains op = false) :
    Calls Try.prog 13 #[.int .i64 op, .int .i32 a, .int .i32 b] w fun e w' => e = .returned (.tuple #[.int .i32 0, .int .i64 60]) ∧ w = w' := by
  obtain ⟨m, hm, h0, h1, h2, h3⟩ := by32 b
  obtain ⟨g1, g2, g3, g4, g5, g6, g7, g8, g9, g10, g11, g12⟩ := codesI_no h
  clear h2 hm h
  go_enter Try.func13, Try.ntmps13
  go_wp2_with fail
  go_ret2
  exact ⟨rfl, rfl⟩

/-- The reference's Int. -/
theorem rint_any (op a b : Int) (w : World) (ha : in32 a) (hb : in32 b) : Calls Try.prog 13 #[.int .i64 op, .int .i32 a, .int .i32 b] w fun e w' => e = .returned (.tuple #[.int .i32 (iV op a b), .int .i64 (iE op b)]) ∧ w = w' := by
  have ha' : in64 a := by unfold in32 at ha; unfold in64; omega
  have hb' : in64 b := by unfold in32 at hb; unfold in64; omega
  cases h : codesI.contains op with
  | false => rw [iV_no a b h, iE_no b h]; exact rint_other op a b w h
  | true =>
    rcases codesI_yes h with rfl | rfl | rfl | rfl | rfl | rfl | rfl | rfl | rfl | rfl | rfl | rfl
    · have e : iV 96 a b = wrap32 (wrap64 (a + b)) := (wrap32_64 _).symm
      rw [e]; exact rint_Add a b w ha hb
    · have e : iV 100 a b = wrap32 (wrap64 (a - b)) := (wrap32_64 _).symm
      rw [e]; exact rint_Sub a b w ha hb
    · have e : iV 104 a b = wrap32 (wrap64 (a * b)) := (wrap32_64 _).symm
      rw [e]; exact rint_Mul a b w ha hb
    · have e : iV 116 a b = wrap32 (wrap64 (-a)) := (wrap32_64 _).symm
      rw [e]; exact rint_Neg a b w ha hb
    · have e : iV 126 a b = wrap32 (bits .and .i64 a b) := (cut_and a b).symm
      rw [e]; exact rint_And a b w ha hb
    · have e : iV 128 a b = wrap32 (bits .or .i64 a b) := (cut_or a b).symm
      rw [e]; exact rint_Or a b w ha hb
    · have e : iV 130 a b = wrap32 (bits .xor .i64 a b) := (cut_xor a b).symm
      rw [e]; exact rint_Xor a b w ha hb
    · have e : iV 108 a b = wrap32 (if b = 0 then 0 else quo64 a b) := by
        show (if b = 0 then 0 else quo32 a b) = _
        by_cases h0 : b = 0
        · rw [if_pos h0, if_pos h0]; exact (wrap32_id (by unfold in32; omega)).symm
        · rw [if_neg h0, if_neg h0, quo32_cut ha h0]
      rw [e]; exact rint_Div a b w ha hb
    · have e : iV 112 a b = wrap32 (if b = 0 then 0 else if b = -1 then 0 else a.tmod b) := by
        show (if b = 0 then 0 else rest32 a b) = _
        by_cases h0 : b = 0
        · rw [if_pos h0, if_pos h0]; exact (wrap32_id (by unfold in32; omega)).symm
        · rw [if_neg h0, if_neg h0, rest32_of ha h0 hb]
          by_cases h1 : b = -1
          · rw [if_pos h1]; exact (wrap32_id (by unfold in32; omega)).symm
          · rw [if_neg h1, wrap32_id (rest_in32 hb h0)]
      rw [e]; exact rint_Rem a b w ha hb
    · exact rint_Shl a b w
    · exact rint_Shr a b w
    · exact rint_Ushr a b w

set_option maxRecDepth 100000 in
theorem rshift_Shl (a b : Int) (w : World) :
    Calls Try.prog 19 #[.int .i64 121, .int .i64 a, .int .i32 b] w fun e w' => e = .returned (.tuple #[.int .i64 (wrap64 (a * 2 ^ (b % 64).toNat)), .int .i64 0]) ∧ w = w' := by
  obtain ⟨m, hm, h0, h1, h2, h3⟩ := by64 b
  rw [← hm]
  clear h2 hm
  go_enter Try.func19, Try.ntmps19
  go_wp2_with fail
  go_ret2
  exact ⟨rfl, rfl⟩

set_option maxRecDepth 100000 in
theorem rshift_Shr (a b : Int) (w : World) :
    Calls Try.prog 19 #[.int .i64 123, .int .i64 a, .int .i32 b] w fun e w' => e = .returned (.tuple #[.int .i64 (a / 2 ^ (b % 64).toNat), .int .i64 0]) ∧ w = w' := by
  obtain ⟨m, hm, h0, h1, h2, h3⟩ := by64 b
  rw [← hm]
  clear h2 hm
  go_enter Try.func19, Try.ntmps19
  go_wp2_with fail
  go_ret2
  exact ⟨rfl, rfl⟩

set_option maxRecDepth 100000 in
theorem rshift_Ushr (a b : Int) (w : World) :
    Calls Try.prog 19 #[.int .i64 125, .int .i64 a, .int .i32 b] w fun e w' => e = .returned (.tuple #[.int .i64 (wrap64 (a % 18446744073709551616 / 2 ^ (b % 64).toNat)), .int .i64 0]) ∧ w = w' := by
  obtain ⟨m, hm, h0, h1, h2, h3⟩ := by64 b
  rw [← hm]
  clear h2 hm
  go_enter Try.func19, Try.ntmps19
  go_wp2_with fail
  go_ret2
  exact ⟨rfl, rfl⟩

set_option maxRecDepth 100000 in
theorem rshift_other (op a b : Int) (w : World) (h : ([121, 123, 125] : List Int).contains op = false) :
    Calls Try.prog 19 #[.int .i64 op, .int .i64 a, .int .i32 b] w fun e w' => e = .returned (.tuple #[.int .i64 0, .int .i64 60]) ∧ w = w' := by
  obtain ⟨m, hm, h0, h1, h2, h3⟩ := by64 b
  have hx : (op == 121) = false ∧ (op == 123) = false ∧ (op == 125) = false := by simpa using h
  obtain ⟨g1, g2, g3⟩ := hx
  clear h2 hm h
  go_enter Try.func19, Try.ntmps19
  go_wp2_with fail
  go_ret2
  exact ⟨rfl, rfl⟩

/-- The reference's Shift. -/
theorem rshift_any (op a b : Int) (w : World) : Calls Try.prog 19 #[.int .i64 op, .int .i64 a, .int .i32 b] w fun e w' => e = .returned (.tuple #[.int .i64 (hV op a b), .int .i64 (hE op)]) ∧ w = w' := by
  cases h : ([121, 123, 125] : List Int).contains op with
  | false => obtain ⟨e1, e2⟩ := hV_no a b h; rw [e1, e2]; exact rshift_other op a b w h
  | true =>
    have : op = 121 ∨ op = 123 ∨ op = 125 := by simpa using h
    rcases this with rfl | rfl | rfl
    · exact rshift_Shl a b w
    · exact rshift_Shr a b w
    · exact rshift_Ushr a b w

/-! ### The statements' own question whether layer 13 computes at all -/
theorem awake13 (w : World) : Calls Try.prog 14 #[] w fun e w' => e = .returned (.bool true) ∧ Below w.heap.size w w' := by
  have hs := fun w => Lib.hid (int_any 96 2 3 w)
  rw [show iV 96 2 3 = 5 from wrap32_id (by unfold in32; omega), show iE 96 3 = 0 from by decide] at hs
  go_enter Try.func14, Try.ntmps14
  go_wp2_with fail
  refine (hs _).out.mono ?_
  rintro e w1 ⟨rfl, hb⟩
  go_wp2_with fail
  go_ret
  exact ⟨rfl, hb⟩
end Go.Proofs.Ytacnlbbponiamaa
