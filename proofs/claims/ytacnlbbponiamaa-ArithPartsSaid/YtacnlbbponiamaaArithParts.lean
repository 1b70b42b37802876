/- ArithParts: the quotient times the divisor, and the rest, are the number; the rest is nearer to 0 than the divisor, and has the number's sign, or is 0. -/
import Derived.Test.YtacnlbbponiamaaArIf
import Derived.Test.YtacnlbbponiamaaHead
import Derived.Test.YtacnlbbponiamaaOpenG
import Derived.Deep.RegionHeld3
import Derived.Lib.SmallJoins
import Derived.ProofKit
import Derived.OpenShut
import Derived.ShutString
import Derived.ChangeOld
import Derived.Laws.StructEq
namespace Go.Proofs.Ytacnlbbponiamaa.ArithPartsP
open Go.ChangeShapes Go.WideShapes Go.ChangeAt Go.RowKit
open Go.ChangeMaps (open_string shut_string)
set_option linter.unusedVariables false

theorem own : ownKnob Try.prog.godebug = none := by kernel_rfl
theorem laidOut : laidOutB Try.prog = true := by kernel_rfl
theorem bnext {a b c : World} (h : Below a.heap.size a b) (k : Below b.heap.size b c) : Below a.heap.size a c := h.trans (k.mono h.size)
theorem wf_in32 {n : Int} (h : (Lit.int .i32 n).wf = true) : in32 n := by
  simp only [Lit.wf, Bool.and_eq_true, decide_eq_true_eq] at h
  have h1 : IntKind.i32.min = -2147483648 := by decide
  have h2 : IntKind.i32.max = 2147483647 := by decide
  rw [h1, h2] at h
  unfold in32
  omega
theorem wf_in64 {n : Int} (h : (Lit.int .i64 n).wf = true) : in64 n := by
  simp only [Lit.wf, Bool.and_eq_true, decide_eq_true_eq] at h
  have h1 : IntKind.i64.min = -9223372036854775808 := by decide
  have h2 : IntKind.i64.max = 9223372036854775807 := by decide
  rw [h1, h2] at h
  unfold in64
  omega


set_option maxRecDepth 100000 in
set_option maxHeartbeats 1000000 in
theorem walk_0 (a c d : Int) (w : World) :
    Calls Try.prog 5 #[.int .i32 a, .int .i32 0, .int .i64 c, .int .i64 d] w fun e w' => e = .returned (.bool true) ∧ Below w.heap.size w w' := by
  have h1 := fun w => Lib.hid (int_any 108 a 0 w)
  have h2 := fun w => Lib.hid (int_any 112 a 0 w)
  rw [show iV 108 a 0 = 0 from rfl, show iE 108 0 = 6 from rfl] at h1
  rw [show iV 112 a 0 = 0 from rfl, show iE 112 0 = 6 from rfl] at h2
  go_enter Try.func5, Try.ntmps5
  go_wp2_with fail
  refine (h1 _).out.mono ?_
  rintro e w1 ⟨rfl, hb1⟩
  go_wp2_with fail
  refine (h2 _).out.mono ?_
  rintro e w2 ⟨rfl, hb2⟩
  go_wp2_with fail
  go_ret
  exact ⟨rfl, bnext hb1 hb2⟩

set_option maxRecDepth 100000 in
set_option maxHeartbeats 1000000 in
theorem walk_z0 (a b c d q r s t : Int) (sg sh : Bool) (w : World)
    (h1 : ∀ w, Hid (Calls Try.prog 12 #[.int .i64 108, .int .i32 a, .int .i32 b] w fun e w' => e = .returned (.tuple #[.int .i32 q, .int .i64 0]) ∧ Below w.heap.size w w'))
    (h2 : ∀ w, Hid (Calls Try.prog 12 #[.int .i64 112, .int .i32 a, .int .i32 b] w fun e w' => e = .returned (.tuple #[.int .i32 r, .int .i64 0]) ∧ Below w.heap.size w w'))
    (h3 : ∀ w, Hid (Calls Try.prog 15 #[.int .i64 109, .int .i64 c, .int .i64 d] w fun e w' => e = .returned (.tuple #[.int .i64 s, .int .i64 6]) ∧ Below w.heap.size w w')) (h4 : ∀ w, Hid (Calls Try.prog 15 #[.int .i64 113, .int .i64 c, .int .i64 d] w fun e w' => e = .returned (.tuple #[.int .i64 t, .int .i64 6]) ∧ Below w.heap.size w w')) (hd : (d == 0) = true)
    (b0 : -2147483648 ≤ b) (b1 : b < 2147483648) (r0 : -2147483648 ≤ r) (r1 : r < 2147483648) (hb : (b == 0) = false) (f1 : wrap32 (wrap32 (q * b) + r) = a) (f2 : decide (wrap64 (b * b) ≤ wrap64 (r * r)) = false) (hr : (r != 0) = false) :
    Calls Try.prog 5 #[.int .i32 a, .int .i32 b, .int .i64 c, .int .i64 d] w fun e w' => e = .returned (.bool true) ∧ Below w.heap.size w w' := by
  go_enter Try.func5, Try.ntmps5
  go_wp2_with fail
  refine (h1 _).out.mono ?_
  rintro e w1 ⟨rfl, hb1⟩
  go_wp2_with fail
  refine (h2 _).out.mono ?_
  rintro e w2 ⟨rfl, hb2⟩
  go_wp2_with fail
  refine (h3 _).out.mono ?_
  rintro e w3 ⟨rfl, hb3⟩
  go_wp2_with fail
  refine (h4 _).out.mono ?_
  rintro e w4 ⟨rfl, hb4⟩
  go_wp2_with fail
  go_ret
  exact ⟨rfl, bnext hb1 (bnext hb2 (bnext hb3 hb4))⟩

set_option maxRecDepth 100000 in
set_option maxHeartbeats 1000000 in
theorem walk_zz (a b c d q r s t : Int) (sg sh : Bool) (w : World)
    (h1 : ∀ w, Hid (Calls Try.prog 12 #[.int .i64 108, .int .i32 a, .int .i32 b] w fun e w' => e = .returned (.tuple #[.int .i32 q, .int .i64 0]) ∧ Below w.heap.size w w'))
    (h2 : ∀ w, Hid (Calls Try.prog 12 #[.int .i64 112, .int .i32 a, .int .i32 b] w fun e w' => e = .returned (.tuple #[.int .i32 r, .int .i64 0]) ∧ Below w.heap.size w w'))
    (h3 : ∀ w, Hid (Calls Try.prog 15 #[.int .i64 109, .int .i64 c, .int .i64 d] w fun e w' => e = .returned (.tuple #[.int .i64 s, .int .i64 0]) ∧ Below w.heap.size w w')) (h4 : ∀ w, Hid (Calls Try.prog 15 #[.int .i64 113, .int .i64 c, .int .i64 d] w fun e w' => e = .returned (.tuple #[.int .i64 t, .int .i64 0]) ∧ Below w.heap.size w w')) (hd : (d == 0) = false) (f3 : wrap64 (wrap64 (s * d) + t) = c) (ht : (t == 0) = true)
    (b0 : -2147483648 ≤ b) (b1 : b < 2147483648) (r0 : -2147483648 ≤ r) (r1 : r < 2147483648) (hb : (b == 0) = false) (f1 : wrap32 (wrap32 (q * b) + r) = a) (f2 : decide (wrap64 (b * b) ≤ wrap64 (r * r)) = false) (hr : (r != 0) = false) :
    Calls Try.prog 5 #[.int .i32 a, .int .i32 b, .int .i64 c, .int .i64 d] w fun e w' => e = .returned (.bool true) ∧ Below w.heap.size w w' := by
  go_enter Try.func5, Try.ntmps5
  go_wp2_with fail
  refine (h1 _).out.mono ?_
  rintro e w1 ⟨rfl, hb1⟩
  go_wp2_with fail
  refine (h2 _).out.mono ?_
  rintro e w2 ⟨rfl, hb2⟩
  go_wp2_with fail
  refine (h3 _).out.mono ?_
  rintro e w3 ⟨rfl, hb3⟩
  go_wp2_with fail
  refine (h4 _).out.mono ?_
  rintro e w4 ⟨rfl, hb4⟩
  go_wp2_with fail
  refine (awake13 _).mono ?_
  rintro e wz ⟨rfl, hbz⟩
  go_wp2_with fail
  go_ret
  exact ⟨rfl, bnext hb1 (bnext hb2 (bnext hb3 (bnext hb4 hbz)))⟩

set_option maxRecDepth 100000 in
set_option maxHeartbeats 1000000 in
theorem walk_zn (a b c d q r s t : Int) (sg sh : Bool) (w : World)
    (h1 : ∀ w, Hid (Calls Try.prog 12 #[.int .i64 108, .int .i32 a, .int .i32 b] w fun e w' => e = .returned (.tuple #[.int .i32 q, .int .i64 0]) ∧ Below w.heap.size w w'))
    (h2 : ∀ w, Hid (Calls Try.prog 12 #[.int .i64 112, .int .i32 a, .int .i32 b] w fun e w' => e = .returned (.tuple #[.int .i32 r, .int .i64 0]) ∧ Below w.heap.size w w'))
    (h3 : ∀ w, Hid (Calls Try.prog 15 #[.int .i64 109, .int .i64 c, .int .i64 d] w fun e w' => e = .returned (.tuple #[.int .i64 s, .int .i64 0]) ∧ Below w.heap.size w w')) (h4 : ∀ w, Hid (Calls Try.prog 15 #[.int .i64 113, .int .i64 c, .int .i64 d] w fun e w' => e = .returned (.tuple #[.int .i64 t, .int .i64 0]) ∧ Below w.heap.size w w')) (hd : (d == 0) = false) (f3 : wrap64 (wrap64 (s * d) + t) = c) (ht : (t == 0) = false) (s3 : decide (t < 0) = sh) (s4 : decide (c < 0) = sh)
    (b0 : -2147483648 ≤ b) (b1 : b < 2147483648) (r0 : -2147483648 ≤ r) (r1 : r < 2147483648) (hb : (b == 0) = false) (f1 : wrap32 (wrap32 (q * b) + r) = a) (f2 : decide (wrap64 (b * b) ≤ wrap64 (r * r)) = false) (hr : (r != 0) = false) :
    Calls Try.prog 5 #[.int .i32 a, .int .i32 b, .int .i64 c, .int .i64 d] w fun e w' => e = .returned (.bool true) ∧ Below w.heap.size w w' := by
  go_enter Try.func5, Try.ntmps5
  go_wp2_with fail
  refine (h1 _).out.mono ?_
  rintro e w1 ⟨rfl, hb1⟩
  go_wp2_with fail
  refine (h2 _).out.mono ?_
  rintro e w2 ⟨rfl, hb2⟩
  go_wp2_with fail
  refine (h3 _).out.mono ?_
  rintro e w3 ⟨rfl, hb3⟩
  go_wp2_with fail
  refine (h4 _).out.mono ?_
  rintro e w4 ⟨rfl, hb4⟩
  go_wp2_with fail
  refine (awake13 _).mono ?_
  rintro e wz ⟨rfl, hbz⟩
  go_wp2_with fail
  go_ret
  exact ⟨rfl, bnext hb1 (bnext hb2 (bnext hb3 (bnext hb4 hbz)))⟩

set_option maxRecDepth 100000 in
set_option maxHeartbeats 1000000 in
theorem walk_n0 (a b c d q r s t : Int) (sg sh : Bool) (w : World)
    (h1 : ∀ w, Hid (Calls Try.prog 12 #[.int .i64 108, .int .i32 a, .int .i32 b] w fun e w' => e = .returned (.tuple #[.int .i32 q, .int .i64 0]) ∧ Below w.heap.size w w'))
    (h2 : ∀ w, Hid (Calls Try.prog 12 #[.int .i64 112, .int .i32 a, .int .i32 b] w fun e w' => e = .returned (.tuple #[.int .i32 r, .int .i64 0]) ∧ Below w.heap.size w w'))
    (h3 : ∀ w, Hid (Calls Try.prog 15 #[.int .i64 109, .int .i64 c, .int .i64 d] w fun e w' => e = .returned (.tuple #[.int .i64 s, .int .i64 6]) ∧ Below w.heap.size w w')) (h4 : ∀ w, Hid (Calls Try.prog 15 #[.int .i64 113, .int .i64 c, .int .i64 d] w fun e w' => e = .returned (.tuple #[.int .i64 t, .int .i64 6]) ∧ Below w.heap.size w w')) (hd : (d == 0) = true)
    (b0 : -2147483648 ≤ b) (b1 : b < 2147483648) (r0 : -2147483648 ≤ r) (r1 : r < 2147483648) (hb : (b == 0) = false) (f1 : wrap32 (wrap32 (q * b) + r) = a) (f2 : decide (wrap64 (b * b) ≤ wrap64 (r * r)) = false) (hr : (r != 0) = true) (s1 : decide (r < 0) = sg) (s2 : decide (a < 0) = sg) :
    Calls Try.prog 5 #[.int .i32 a, .int .i32 b, .int .i64 c, .int .i64 d] w fun e w' => e = .returned (.bool true) ∧ Below w.heap.size w w' := by
  go_enter Try.func5, Try.ntmps5
  go_wp2_with fail
  refine (h1 _).out.mono ?_
  rintro e w1 ⟨rfl, hb1⟩
  go_wp2_with fail
  refine (h2 _).out.mono ?_
  rintro e w2 ⟨rfl, hb2⟩
  go_wp2_with fail
  refine (h3 _).out.mono ?_
  rintro e w3 ⟨rfl, hb3⟩
  go_wp2_with fail
  refine (h4 _).out.mono ?_
  rintro e w4 ⟨rfl, hb4⟩
  go_wp2_with fail
  go_ret
  exact ⟨rfl, bnext hb1 (bnext hb2 (bnext hb3 hb4))⟩

set_option maxRecDepth 100000 in
set_option maxHeartbeats 1000000 in
theorem walk_nz (a b c d q r s t : Int) (sg sh : Bool) (w : World)
    (h1 : ∀ w, Hid (Calls Try.prog 12 #[.int .i64 108, .int .i32 a, .int .i32 b] w fun e w' => e = .returned (.tuple #[.int .i32 q, .int .i64 0]) ∧ Below w.heap.size w w'))
    (h2 : ∀ w, Hid (Calls Try.prog 12 #[.int .i64 112, .int .i32 a, .int .i32 b] w fun e w' => e = .returned (.tuple #[.int .i32 r, .int .i64 0]) ∧ Below w.heap.size w w'))
    (h3 : ∀ w, Hid (Calls Try.prog 15 #[.int .i64 109, .int .i64 c, .int .i64 d] w fun e w' => e = .returned (.tuple #[.int .i64 s, .int .i64 0]) ∧ Below w.heap.size w w')) (h4 : ∀ w, Hid (Calls Try.prog 15 #[.int .i64 113, .int .i64 c, .int .i64 d] w fun e w' => e = .returned (.tuple #[.int .i64 t, .int .i64 0]) ∧ Below w.heap.size w w')) (hd : (d == 0) = false) (f3 : wrap64 (wrap64 (s * d) + t) = c) (ht : (t == 0) = true)
    (b0 : -2147483648 ≤ b) (b1 : b < 2147483648) (r0 : -2147483648 ≤ r) (r1 : r < 2147483648) (hb : (b == 0) = false) (f1 : wrap32 (wrap32 (q * b) + r) = a) (f2 : decide (wrap64 (b * b) ≤ wrap64 (r * r)) = false) (hr : (r != 0) = true) (s1 : decide (r < 0) = sg) (s2 : decide (a < 0) = sg) :
    Calls Try.prog 5 #[.int .i32 a, .int .i32 b, .int .i64 c, .int .i64 d] w fun e w' => e = .returned (.bool true) ∧ Below w.heap.size w w' := by
  go_enter Try.func5, Try.ntmps5
  go_wp2_with fail
  refine (h1 _).out.mono ?_
  rintro e w1 ⟨rfl, hb1⟩
  go_wp2_with fail
  refine (h2 _).out.mono ?_
  rintro e w2 ⟨rfl, hb2⟩
  go_wp2_with fail
  refine (h3 _).out.mono ?_
  rintro e w3 ⟨rfl, hb3⟩
  go_wp2_with fail
  refine (h4 _).out.mono ?_
  rintro e w4 ⟨rfl, hb4⟩
  go_wp2_with fail
  refine (awake13 _).mono ?_
  rintro e wz ⟨rfl, hbz⟩
  go_wp2_with fail
  go_ret
  exact ⟨rfl, bnext hb1 (bnext hb2 (bnext hb3 (bnext hb4 hbz)))⟩

set_option maxRecDepth 100000 in
set_option maxHeartbeats 1000000 in
theorem walk_nn (a b c d q r s t : Int) (sg sh : Bool) (w : World)
    (h1 : ∀ w, Hid (Calls Try.prog 12 #[.int .i64 108, .int .i32 a, .int .i32 b] w fun e w' => e = .returned (.tuple #[.int .i32 q, .int .i64 0]) ∧ Below w.heap.size w w'))
    (h2 : ∀ w, Hid (Calls Try.prog 12 #[.int .i64 112, .int .i32 a, .int .i32 b] w fun e w' => e = .returned (.tuple #[.int .i32 r, .int .i64 0]) ∧ Below w.heap.size w w'))
    (h3 : ∀ w, Hid (Calls Try.prog 15 #[.int .i64 109, .int .i64 c, .int .i64 d] w fun e w' => e = .returned (.tuple #[.int .i64 s, .int .i64 0]) ∧ Below w.heap.size w w')) (h4 : ∀ w, Hid (Calls Try.prog 15 #[.int .i64 113, .int .i64 c, .int .i64 d] w fun e w' => e = .returned (.tuple #[.int .i64 t, .int .i64 0]) ∧ Below w.heap.size w w')) (hd : (d == 0) = false) (f3 : wrap64 (wrap64 (s * d) + t) = c) (ht : (t == 0) = false) (s3 : decide (t < 0) = sh) (s4 : decide (c < 0) = sh)
    (b0 : -2147483648 ≤ b) (b1 : b < 2147483648) (r0 : -2147483648 ≤ r) (r1 : r < 2147483648) (hb : (b == 0) = false) (f1 : wrap32 (wrap32 (q * b) + r) = a) (f2 : decide (wrap64 (b * b) ≤ wrap64 (r * r)) = false) (hr : (r != 0) = true) (s1 : decide (r < 0) = sg) (s2 : decide (a < 0) = sg) :
    Calls Try.prog 5 #[.int .i32 a, .int .i32 b, .int .i64 c, .int .i64 d] w fun e w' => e = .returned (.bool true) ∧ Below w.heap.size w w' := by
  go_enter Try.func5, Try.ntmps5
  go_wp2_with fail
  refine (h1 _).out.mono ?_
  rintro e w1 ⟨rfl, hb1⟩
  go_wp2_with fail
  refine (h2 _).out.mono ?_
  rintro e w2 ⟨rfl, hb2⟩
  go_wp2_with fail
  refine (h3 _).out.mono ?_
  rintro e w3 ⟨rfl, hb3⟩
  go_wp2_with fail
  refine (h4 _).out.mono ?_
  rintro e w4 ⟨rfl, hb4⟩
  go_wp2_with fail
  refine (awake13 _).mono ?_
  rintro e wz ⟨rfl, hbz⟩
  go_wp2_with fail
  go_ret
  exact ⟨rfl, bnext hb1 (bnext hb2 (bnext hb3 (bnext hb4 hbz)))⟩
set_option maxRecDepth 100000 in
set_option maxHeartbeats 1000000 in
theorem walk (a b c d : Int) (w : World) (ha : (Lit.int .i32 a).wf = true) (hb : (Lit.int .i32 b).wf = true) (hc : (Lit.int .i64 c).wf = true) (hd : (Lit.int .i64 d).wf = true) :
    Calls Try.prog 5 #[.int .i32 a, .int .i32 b, .int .i64 c, .int .i64 d] w fun e w' => e = .returned (.bool true) ∧ Below w.heap.size w w' := by
  have ga := wf_in32 ha
  have gb := wf_in32 hb
  have gc := wf_in64 hc
  have gd := wf_in64 hd
  by_cases h0 : b = 0
  · subst h0
    exact walk_0 a c d w
  · have h1 := fun w => Lib.hid (int_any 108 a b w)
    have h2 := fun w => Lib.hid (int_any 112 a b w)
    rw [show iV 108 a b = quo32 a b from if_neg h0, show iE 108 b = 0 from if_neg h0] at h1
    rw [show iV 112 a b = rest32 a b from if_neg h0, show iE 112 b = 0 from if_neg h0] at h2
    have h3 := fun w => Lib.hid (long_any 109 c d w)
    have h4 := fun w => Lib.hid (long_any 113 c d w)
    have f1 := parts32 (b := b) ga
    have f2 : decide (wrap64 (b * b) ≤ wrap64 (rest32 a b * rest32 a b)) = false := decide_eq_false (Int.not_le.2 (rest32_small ga h0 gb))
    have hr := rest32_sign ga h0 gb
    have hri : in32 (rest32 a b) := wrap32_in _
    have bb : (b == 0) = false := beq_eq_false_iff_ne.2 h0
    by_cases g0 : d = 0
    · have bd : (d == 0) = true := beq_iff_eq.2 g0
      rw [show lE 109 d = 6 from if_pos g0] at h3
      rw [show lE 113 d = 6 from if_pos g0] at h4
      by_cases hz : rest32 a b = 0
      · exact walk_z0 a b c d _ _ _ _ true true w h1 h2 h3 h4 bd gb.1 gb.2 hri.1 hri.2 bb f1 f2 (bne_eq_false_iff_eq.2 hz)
      · exact walk_n0 a b c d _ _ _ _ _ true w h1 h2 h3 h4 bd gb.1 gb.2 hri.1 hri.2 bb f1 f2 (bne_iff_ne.2 hz) (hr.resolve_left hz) rfl
    · have bd : (d == 0) = false := beq_eq_false_iff_ne.2 g0
      rw [show lV 109 c d = quo64 c d from if_neg g0, show lE 109 d = 0 from if_neg g0] at h3
      rw [show lV 113 c d = rest64 c d from if_neg g0, show lE 113 d = 0 from if_neg g0] at h4
      have f3 := parts64 (b := d) gc
      have ht := rest64_sign gc g0 gd
      by_cases hz : rest32 a b = 0 <;> by_cases hz2 : rest64 c d = 0
      · exact walk_zz a b c d _ _ _ _ true true w h1 h2 h3 h4 bd f3 (beq_iff_eq.2 hz2) gb.1 gb.2 hri.1 hri.2 bb f1 f2 (bne_eq_false_iff_eq.2 hz)
      · exact walk_zn a b c d _ _ _ _ true _ w h1 h2 h3 h4 bd f3 (beq_eq_false_iff_ne.2 hz2) (ht.resolve_left hz2) rfl gb.1 gb.2 hri.1 hri.2 bb f1 f2 (bne_eq_false_iff_eq.2 hz)
      · exact walk_nz a b c d _ _ _ _ _ true w h1 h2 h3 h4 bd f3 (beq_iff_eq.2 hz2) gb.1 gb.2 hri.1 hri.2 bb f1 f2 (bne_iff_ne.2 hz) (hr.resolve_left hz) rfl
      · exact walk_nn a b c d _ _ _ _ _ _ w h1 h2 h3 h4 bd f3 (beq_eq_false_iff_ne.2 hz2) (ht.resolve_left hz2) rfl gb.1 gb.2 hri.1 hri.2 bb f1 f2 (bne_iff_ne.2 hz) (hr.resolve_left hz) rfl

set_option maxRecDepth 100000 in
theorem lifted (os : Os) (started : os.Started) (H : Type) (enc : TypeId × Value → H) :
    ReturnsInHanded {} Try.checked os 5 .any (Rows.arithPartsSpec.pre6 enc Try.prog Try.f5 Rows.arithPartsRow.domain false) (Rows.arithPartsSpec.post enc Try.prog Try.f5 false true false false) := by
  refine returnsInHanded_of_change (C := Try.checked) own started (by kernel_rfl) Try.func5
    (ChangeSpec.witness6 (enc := enc) (C := Try.checked) false ⟨#[], #[.int .i32 0, .int .i32 0, .int .i64 0, .int .i64 0], []⟩ 8 (by kernel_rfl) (by kernel_rfl) (by kernel_rfl) (by kernel_rfl)) ?_
  intro W base args ds gs before hval0 hW hcnd _
  have hval : ∀ (j : Nat) t v, Try.f5.params[j]? = some t → args[j]? = some v → Value.okWide Try.prog W .any base t v := hval0
  have hW' := hW
  obtain ⟨p, q, hA0, hV, rfl, hfz, hnd⟩ := hW
  have hA : DataW.TrodAll enc Try.prog W 0 (fun _ => true) true Try.f5.params.toList args.toList ds p := hA0
  rw [Try.params5] at hA hval
  obtain ⟨v0, vs0, d0, ds0, p0, q0, hargs, rfl, rfl, h0, r0⟩ := trodAll_cons hA
  obtain ⟨v1, vs1, d1, ds1, p1, q1, rfl, rfl, rfl, h1, r1⟩ := trodAll_cons r0
  obtain ⟨v2, vs2, d2, ds2, p2, q2, rfl, rfl, rfl, h2, r2⟩ := trodAll_cons r1
  obtain ⟨v3, vs3, d3, ds3, p3, q3, rfl, rfl, rfl, h3, r3⟩ := trodAll_cons r2
  obtain ⟨rfl, rfl, rfl⟩ := trodAll_nil r3
  obtain rfl : args = #[v0, v1, v2, v3] := by cases args; simp_all
  obtain ⟨rfl, rfl⟩ := trodVars_none hV
  obtain ⟨x0, rfl, rfl, rfl, wx0⟩ := open_int Try.underlying21 (hval 0 21 v0 rfl rfl) h0
  obtain ⟨x1, rfl, rfl, rfl, wx1⟩ := open_int Try.underlying21 (hval 1 21 v1 rfl rfl) h1
  obtain ⟨x2, rfl, rfl, rfl, wx2⟩ := open_int Try.underlying2 (hval 2 2 v2 rfl rfl) h2
  obtain ⟨x3, rfl, rfl, rfl, wx3⟩ := open_int Try.underlying2 (hval 3 2 v3 rfl rfl) h3
  clear hA0 hval0
  refine (walk x0 x1 x2 x3 W wx0 wx1 wx2 wx3).mono fun e W' ⟨he, bel⟩ => ?_
  subst he
  exact ⟨_, rfl, _, _, _, [], _, [], hW', trodAll_mk1 (shut_bool Try.underlying4 _), (trodAll_cons_mk (shut_int Try.underlying21 wx0) (trodAll_cons_mk (shut_int Try.underlying21 wx1) (trodAll_cons_mk (shut_int Try.underlying2 wx2) (trodAll_cons_mk (shut_int Try.underlying2 wx3) trodAll_mk0)))), rfl, bel.frame _, fun h => by cases h⟩

theorem closed : joinedFacts Try.prog 5 Try.f5 Rows.arithPartsSpec Rows.arithPartsRow = true := by
  have h1 := mayEnter_fact
  have h2 : (Rows.arithPartsRow.lifted == Try.prog.liftsFinal) = true := by rw [lifts_fact]; rfl
  have h3 : (Try.prog.make == some Rows.arithPartsRow.make) = true := by rw [make_fact]; rfl
  have hfin : ∀ b : Bool, b = true → b = true := fun _ h => h
  unfold joinedFacts
  rw [h1, h2, h3]
  clear h1 h2 h3
  refine hfin _ ?_
  kernel_rfl

theorem over : Rows.arithPartsRow.holds Try.pinned (OpenSpec.ofChange Rows.arithPartsSpec) :=
  OpenClaim.holds_of_wide 5 Try.f5 rfl rfl rfl rfl rfl rfl rfl ⟨rfl, rfl, rfl, rfl, rfl⟩ rfl rfl rfl rfl rfl (by kernel_rfl) Try.func5 closed
    (of_decide_eq_true (by kernel_rfl)) (by unfold Func.isWrapper; first | (rw [if_pos (by decide +kernel)]; kernel_rfl) | (rw [if_neg (by decide +kernel)]; exact ⟨rfl, rfl⟩))
    (fun os started H enc _ => lifted os started H enc)

/-- The statement. -/
theorem proved : Rows.ArithPartsSaid := over
#print axioms proved

end Go.Proofs.Ytacnlbbponiamaa.ArithPartsP
