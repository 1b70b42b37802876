/- ArithNarrows: sums, differences, products and what bits make of two numbers are, in 32 bits, those in 64 bits, cut. -/
import Derived.Test.YtacnlbbponiamaaArIf
import Derived.Test.YtacnlbbponiamaaHead
import Derived.Test.YtacnlbbponiamaaOpenG
import Derived.Deep.RegionHeld3
import Derived.Lib.SmallJoins
import Derived.ProofKit
import Derived.OpenShut
import Derived.ShutString
import Derived.ChangeOld
import Derived.Laws.StructEq
namespace Go.Proofs.Ytacnlbbponiamaa.ArithNarrowsP
open Go.ChangeShapes Go.WideShapes Go.ChangeAt Go.RowKit
open Go.ChangeMaps (open_string shut_string)
set_option linter.unusedVariables false

theorem own : ownKnob Try.prog.godebug = none := by kernel_rfl
theorem laidOut : laidOutB Try.prog = true := by kernel_rfl
theorem bnext {a b c : World} (h : Below a.heap.size a b) (k : Below b.heap.size b c) : Below a.heap.size a c := h.trans (k.mono h.size)
theorem wf_in32 {n : Int} (h : (Lit.int .i32 n).wf = true) : in32 n := by
  simp only [Lit.wf, Bool.and_eq_true, decide_eq_true_eq] at h
  have h1 : IntKind.i32.min = -2147483648 := by decide
  have h2 : IntKind.i32.max = 2147483647 := by decide
  rw [h1, h2] at h
  unfold in32
  omega
theorem wf_in64 {n : Int} (h : (Lit.int .i64 n).wf = true) : in64 n := by
  simp only [Lit.wf, Bool.and_eq_true, decide_eq_true_eq] at h
  have h1 : IntKind.i64.min = -9223372036854775808 := by decide
  have h2 : IntKind.i64.max = 9223372036854775807 := by decide
  rw [h1, h2] at h
  unfold in64
  omega


set_option maxRecDepth 100000 in
set_option maxHeartbeats 1000000 in
theorem walk_0 (a b k : Int) (w : World) (ha : in32 a) (hb : in32 b) (k0 : 0 ≤ k) (k1 : k < 256) (hk : k % 6 = 0) :
    Calls Try.prog 7 #[.int .i32 a, .int .i32 b, .int .u8 k] w fun e w' => e = .returned (.bool true) ∧ Below w.heap.size w w' := by
  have e1 : wrap32 (lV 97 a b) = iV 96 a b := wrap32_64 _
  have e2 : wrap32 (lV 117 a 0) = iV 116 a 0 := wrap32_64 _
  have h1 := fun w => Lib.hid (int_any 96 a b w)
  have h2 := fun w => Lib.hid (long_any 97 a b w)
  have h3 := fun w => Lib.hid (narrow_any (lV 97 a b) w)
  have h4 := fun w => Lib.hid (int_any 116 a 0 w)
  have h5 := fun w => Lib.hid (long_any 117 a 0 w)
  have h6 := fun w => Lib.hid (narrow_any (lV 117 a 0) w)
  rw [e1] at h3
  rw [e2] at h6
  rw [show iE 96 b = 0 from by simp [iE, codesI]] at h1
  rw [show lE 97 b = 0 from by simp [lE, codesL]] at h2
  rw [show iE 116 0 = 0 from by simp [iE, codesI]] at h4
  rw [show lE 117 0 = 0 from by simp [lE, codesL]] at h5
  clear e1 e2
  generalize iV 96 a b = x at h1 h3
  generalize lV 97 a b = y at h2 h3
  generalize iV 116 a 0 = n at h4 h6
  generalize lV 117 a 0 = m at h5 h6
  have ht : k.tmod 6 = 0 := by rw [Int.tmod_eq_emod_of_nonneg k0]; exact hk
  unfold in32 at ha hb
  obtain ⟨ha0, ha1⟩ := ha
  obtain ⟨hb0, hb1⟩ := hb
  go_enter Try.func7, Try.ntmps7
  go_wp2_with fail
  refine (h1 _).out.mono ?_
  rintro e w1 ⟨rfl, hb1⟩
  go_wp2_with fail
  refine (h2 _).out.mono ?_
  rintro e w2 ⟨rfl, hb2⟩
  go_wp2_with fail
  refine (h4 _).out.mono ?_
  rintro e w4 ⟨rfl, hb4⟩
  go_wp2_with fail
  refine (h5 _).out.mono ?_
  rintro e w5 ⟨rfl, hb5⟩
  go_wp2_with fail
  refine (h3 _).out.mono ?_
  rintro e w3 ⟨rfl, rfl⟩
  go_wp2_with fail
  refine (h6 _).out.mono ?_
  rintro e w6 ⟨rfl, rfl⟩
  go_wp2_with fail
  refine (awake13 _).mono ?_
  rintro e wz ⟨rfl, hbz⟩
  go_wp2_with fail
  go_ret
  exact ⟨rfl, ((Below.refl _ _).alloc (Nat.le_refl _) _).trans ((bnext hb1 (bnext hb2 (bnext hb4 (bnext hb5 hbz)))).mono (by simp))⟩

set_option maxRecDepth 100000 in
set_option maxHeartbeats 1000000 in
theorem walk_1 (a b k : Int) (w : World) (ha : in32 a) (hb : in32 b) (k0 : 0 ≤ k) (k1 : k < 256) (hk : k % 6 = 1) :
    Calls Try.prog 7 #[.int .i32 a, .int .i32 b, .int .u8 k] w fun e w' => e = .returned (.bool true) ∧ Below w.heap.size w w' := by
  have e1 : wrap32 (lV 101 a b) = iV 100 a b := wrap32_64 _
  have e2 : wrap32 (lV 117 a 0) = iV 116 a 0 := wrap32_64 _
  have h1 := fun w => Lib.hid (int_any 100 a b w)
  have h2 := fun w => Lib.hid (long_any 101 a b w)
  have h3 := fun w => Lib.hid (narrow_any (lV 101 a b) w)
  have h4 := fun w => Lib.hid (int_any 116 a 0 w)
  have h5 := fun w => Lib.hid (long_any 117 a 0 w)
  have h6 := fun w => Lib.hid (narrow_any (lV 117 a 0) w)
  rw [e1] at h3
  rw [e2] at h6
  rw [show iE 100 b = 0 from by simp [iE, codesI]] at h1
  rw [show lE 101 b = 0 from by simp [lE, codesL]] at h2
  rw [show iE 116 0 = 0 from by simp [iE, codesI]] at h4
  rw [show lE 117 0 = 0 from by simp [lE, codesL]] at h5
  clear e1 e2
  generalize iV 100 a b = x at h1 h3
  generalize lV 101 a b = y at h2 h3
  generalize iV 116 a 0 = n at h4 h6
  generalize lV 117 a 0 = m at h5 h6
  have ht : k.tmod 6 = 1 := by rw [Int.tmod_eq_emod_of_nonneg k0]; exact hk
  unfold in32 at ha hb
  obtain ⟨ha0, ha1⟩ := ha
  obtain ⟨hb0, hb1⟩ := hb
  go_enter Try.func7, Try.ntmps7
  go_wp2_with fail
  refine (h1 _).out.mono ?_
  rintro e w1 ⟨rfl, hb1⟩
  go_wp2_with fail
  refine (h2 _).out.mono ?_
  rintro e w2 ⟨rfl, hb2⟩
  go_wp2_with fail
  refine (h4 _).out.mono ?_
  rintro e w4 ⟨rfl, hb4⟩
  go_wp2_with fail
  refine (h5 _).out.mono ?_
  rintro e w5 ⟨rfl, hb5⟩
  go_wp2_with fail
  refine (h3 _).out.mono ?_
  rintro e w3 ⟨rfl, rfl⟩
  go_wp2_with fail
  refine (h6 _).out.mono ?_
  rintro e w6 ⟨rfl, rfl⟩
  go_wp2_with fail
  refine (awake13 _).mono ?_
  rintro e wz ⟨rfl, hbz⟩
  go_wp2_with fail
  go_ret
  exact ⟨rfl, ((Below.refl _ _).alloc (Nat.le_refl _) _).trans ((bnext hb1 (bnext hb2 (bnext hb4 (bnext hb5 hbz)))).mono (by simp))⟩

set_option maxRecDepth 100000 in
set_option maxHeartbeats 1000000 in
theorem walk_2 (a b k : Int) (w : World) (ha : in32 a) (hb : in32 b) (k0 : 0 ≤ k) (k1 : k < 256) (hk : k % 6 = 2) :
    Calls Try.prog 7 #[.int .i32 a, .int .i32 b, .int .u8 k] w fun e w' => e = .returned (.bool true) ∧ Below w.heap.size w w' := by
  have e1 : wrap32 (lV 105 a b) = iV 104 a b := wrap32_64 _
  have e2 : wrap32 (lV 117 a 0) = iV 116 a 0 := wrap32_64 _
  have h1 := fun w => Lib.hid (int_any 104 a b w)
  have h2 := fun w => Lib.hid (long_any 105 a b w)
  have h3 := fun w => Lib.hid (narrow_any (lV 105 a b) w)
  have h4 := fun w => Lib.hid (int_any 116 a 0 w)
  have h5 := fun w => Lib.hid (long_any 117 a 0 w)
  have h6 := fun w => Lib.hid (narrow_any (lV 117 a 0) w)
  rw [e1] at h3
  rw [e2] at h6
  rw [show iE 104 b = 0 from by simp [iE, codesI]] at h1
  rw [show lE 105 b = 0 from by simp [lE, codesL]] at h2
  rw [show iE 116 0 = 0 from by simp [iE, codesI]] at h4
  rw [show lE 117 0 = 0 from by simp [lE, codesL]] at h5
  clear e1 e2
  generalize iV 104 a b = x at h1 h3
  generalize lV 105 a b = y at h2 h3
  generalize iV 116 a 0 = n at h4 h6
  generalize lV 117 a 0 = m at h5 h6
  have ht : k.tmod 6 = 2 := by rw [Int.tmod_eq_emod_of_nonneg k0]; exact hk
  unfold in32 at ha hb
  obtain ⟨ha0, ha1⟩ := ha
  obtain ⟨hb0, hb1⟩ := hb
  go_enter Try.func7, Try.ntmps7
  go_wp2_with fail
  refine (h1 _).out.mono ?_
  rintro e w1 ⟨rfl, hb1⟩
  go_wp2_with fail
  refine (h2 _).out.mono ?_
  rintro e w2 ⟨rfl, hb2⟩
  go_wp2_with fail
  refine (h4 _).out.mono ?_
  rintro e w4 ⟨rfl, hb4⟩
  go_wp2_with fail
  refine (h5 _).out.mono ?_
  rintro e w5 ⟨rfl, hb5⟩
  go_wp2_with fail
  refine (h3 _).out.mono ?_
  rintro e w3 ⟨rfl, rfl⟩
  go_wp2_with fail
  refine (h6 _).out.mono ?_
  rintro e w6 ⟨rfl, rfl⟩
  go_wp2_with fail
  refine (awake13 _).mono ?_
  rintro e wz ⟨rfl, hbz⟩
  go_wp2_with fail
  go_ret
  exact ⟨rfl, ((Below.refl _ _).alloc (Nat.le_refl _) _).trans ((bnext hb1 (bnext hb2 (bnext hb4 (bnext hb5 hbz)))).mono (by simp))⟩

set_option maxRecDepth 100000 in
set_option maxHeartbeats 1000000 in
theorem walk_3 (a b k : Int) (w : World) (ha : in32 a) (hb : in32 b) (k0 : 0 ≤ k) (k1 : k < 256) (hk : k % 6 = 3) :
    Calls Try.prog 7 #[.int .i32 a, .int .i32 b, .int .u8 k] w fun e w' => e = .returned (.bool true) ∧ Below w.heap.size w w' := by
  have e1 : wrap32 (lV 127 a b) = iV 126 a b := cut_and a b
  have e2 : wrap32 (lV 117 a 0) = iV 116 a 0 := wrap32_64 _
  have h1 := fun w => Lib.hid (int_any 126 a b w)
  have h2 := fun w => Lib.hid (long_any 127 a b w)
  have h3 := fun w => Lib.hid (narrow_any (lV 127 a b) w)
  have h4 := fun w => Lib.hid (int_any 116 a 0 w)
  have h5 := fun w => Lib.hid (long_any 117 a 0 w)
  have h6 := fun w => Lib.hid (narrow_any (lV 117 a 0) w)
  rw [e1] at h3
  rw [e2] at h6
  rw [show iE 126 b = 0 from by simp [iE, codesI]] at h1
  rw [show lE 127 b = 0 from by simp [lE, codesL]] at h2
  rw [show iE 116 0 = 0 from by simp [iE, codesI]] at h4
  rw [show lE 117 0 = 0 from by simp [lE, codesL]] at h5
  clear e1 e2
  generalize iV 126 a b = x at h1 h3
  generalize lV 127 a b = y at h2 h3
  generalize iV 116 a 0 = n at h4 h6
  generalize lV 117 a 0 = m at h5 h6
  have ht : k.tmod 6 = 3 := by rw [Int.tmod_eq_emod_of_nonneg k0]; exact hk
  unfold in32 at ha hb
  obtain ⟨ha0, ha1⟩ := ha
  obtain ⟨hb0, hb1⟩ := hb
  go_enter Try.func7, Try.ntmps7
  go_wp2_with fail
  refine (h1 _).out.mono ?_
  rintro e w1 ⟨rfl, hb1⟩
  go_wp2_with fail
  refine (h2 _).out.mono ?_
  rintro e w2 ⟨rfl, hb2⟩
  go_wp2_with fail
  refine (h4 _).out.mono ?_
  rintro e w4 ⟨rfl, hb4⟩
  go_wp2_with fail
  refine (h5 _).out.mono ?_
  rintro e w5 ⟨rfl, hb5⟩
  go_wp2_with fail
  refine (h3 _).out.mono ?_
  rintro e w3 ⟨rfl, rfl⟩
  go_wp2_with fail
  refine (h6 _).out.mono ?_
  rintro e w6 ⟨rfl, rfl⟩
  go_wp2_with fail
  refine (awake13 _).mono ?_
  rintro e wz ⟨rfl, hbz⟩
  go_wp2_with fail
  go_ret
  exact ⟨rfl, ((Below.refl _ _).alloc (Nat.le_refl _) _).trans ((bnext hb1 (bnext hb2 (bnext hb4 (bnext hb5 hbz)))).mono (by simp))⟩

set_option maxRecDepth 100000 in
set_option maxHeartbeats 1000000 in
theorem walk_4 (a b k : Int) (w : World) (ha : in32 a) (hb : in32 b) (k0 : 0 ≤ k) (k1 : k < 256) (hk : k % 6 = 4) :
    Calls Try.prog 7 #[.int .i32 a, .int .i32 b, .int .u8 k] w fun e w' => e = .returned (.bool true) ∧ Below w.heap.size w w' := by
  have e1 : wrap32 (lV 129 a b) = iV 128 a b := cut_or a b
  have e2 : wrap32 (lV 117 a 0) = iV 116 a 0 := wrap32_64 _
  have h1 := fun w => Lib.hid (int_any 128 a b w)
  have h2 := fun w => Lib.hid (long_any 129 a b w)
  have h3 := fun w => Lib.hid (narrow_any (lV 129 a b) w)
  have h4 := fun w => Lib.hid (int_any 116 a 0 w)
  have h5 := fun w => Lib.hid (long_any 117 a 0 w)
  have h6 := fun w => Lib.hid (narrow_any (lV 117 a 0) w)
  rw [e1] at h3
  rw [e2] at h6
  rw [show iE 128 b = 0 from by simp [iE, codesI]] at h1
  rw [show lE 129 b = 0 from by simp [lE, codesL]] at h2
  rw [show iE 116 0 = 0 from by simp [iE, codesI]] at h4
  rw [show lE 117 0 = 0 from by simp [lE, codesL]] at h5
  clear e1 e2
  generalize iV 128 a b = x at h1 h3
  generalize lV 129 a b = y at h2 h3
  generalize iV 116 a 0 = n at h4 h6
  generalize lV 117 a 0 = m at h5 h6
  have ht : k.tmod 6 = 4 := by rw [Int.tmod_eq_emod_of_nonneg k0]; exact hk
  unfold in32 at ha hb
  obtain ⟨ha0, ha1⟩ := ha
  obtain ⟨hb0, hb1⟩ := hb
  go_enter Try.func7, Try.ntmps7
  go_wp2_with fail
  refine (h1 _).out.mono ?_
  rintro e w1 ⟨rfl, hb1⟩
  go_wp2_with fail
  refine (h2 _).out.mono ?_
  rintro e w2 ⟨rfl, hb2⟩
  go_wp2_with fail
  refine (h4 _).out.mono ?_
  rintro e w4 ⟨rfl, hb4⟩
  go_wp2_with fail
  refine (h5 _).out.mono ?_
  rintro e w5 ⟨rfl, hb5⟩
  go_wp2_with fail
  refine (h3 _).out.mono ?_
  rintro e w3 ⟨rfl, rfl⟩
  go_wp2_with fail
  refine (h6 _).out.mono ?_
  rintro e w6 ⟨rfl, rfl⟩
  go_wp2_with fail
  refine (awake13 _).mono ?_
  rintro e wz ⟨rfl, hbz⟩
  go_wp2_with fail
  go_ret
  exact ⟨rfl, ((Below.refl _ _).alloc (Nat.le_refl _) _).trans ((bnext hb1 (bnext hb2 (bnext hb4 (bnext hb5 hbz)))).mono (by simp))⟩

set_option maxRecDepth 100000 in
set_option maxHeartbeats 1000000 in
theorem walk_5 (a b k : Int) (w : World) (ha : in32 a) (hb : in32 b) (k0 : 0 ≤ k) (k1 : k < 256) (hk : k % 6 = 5) :
    Calls Try.prog 7 #[.int .i32 a, .int .i32 b, .int .u8 k] w fun e w' => e = .returned (.bool true) ∧ Below w.heap.size w w' := by
  have e1 : wrap32 (lV 131 a b) = iV 130 a b := cut_xor a b
  have e2 : wrap32 (lV 117 a 0) = iV 116 a 0 := wrap32_64 _
  have h1 := fun w => Lib.hid (int_any 130 a b w)
  have h2 := fun w => Lib.hid (long_any 131 a b w)
  have h3 := fun w => Lib.hid (narrow_any (lV 131 a b) w)
  have h4 := fun w => Lib.hid (int_any 116 a 0 w)
  have h5 := fun w => Lib.hid (long_any 117 a 0 w)
  have h6 := fun w => Lib.hid (narrow_any (lV 117 a 0) w)
  rw [e1] at h3
  rw [e2] at h6
  rw [show iE 130 b = 0 from by simp [iE, codesI]] at h1
  rw [show lE 131 b = 0 from by simp [lE, codesL]] at h2
  rw [show iE 116 0 = 0 from by simp [iE, codesI]] at h4
  rw [show lE 117 0 = 0 from by simp [lE, codesL]] at h5
  clear e1 e2
  generalize iV 130 a b = x at h1 h3
  generalize lV 131 a b = y at h2 h3
  generalize iV 116 a 0 = n at h4 h6
  generalize lV 117 a 0 = m at h5 h6
  have ht : k.tmod 6 = 5 := by rw [Int.tmod_eq_emod_of_nonneg k0]; exact hk
  unfold in32 at ha hb
  obtain ⟨ha0, ha1⟩ := ha
  obtain ⟨hb0, hb1⟩ := hb
  go_enter Try.func7, Try.ntmps7
  go_wp2_with fail
  refine (h1 _).out.mono ?_
  rintro e w1 ⟨rfl, hb1⟩
  go_wp2_with fail
  refine (h2 _).out.mono ?_
  rintro e w2 ⟨rfl, hb2⟩
  go_wp2_with fail
  refine (h4 _).out.mono ?_
  rintro e w4 ⟨rfl, hb4⟩
  go_wp2_with fail
  refine (h5 _).out.mono ?_
  rintro e w5 ⟨rfl, hb5⟩
  go_wp2_with fail
  refine (h3 _).out.mono ?_
  rintro e w3 ⟨rfl, rfl⟩
  go_wp2_with fail
  refine (h6 _).out.mono ?_
  rintro e w6 ⟨rfl, rfl⟩
  go_wp2_with fail
  refine (awake13 _).mono ?_
  rintro e wz ⟨rfl, hbz⟩
  go_wp2_with fail
  go_ret
  exact ⟨rfl, ((Below.refl _ _).alloc (Nat.le_refl _) _).trans ((bnext hb1 (bnext hb2 (bnext hb4 (bnext hb5 hbz)))).mono (by simp))⟩

theorem walk (a b k : Int) (w : World) (ha : (Lit.int .i32 a).wf = true) (hb : (Lit.int .i32 b).wf = true) (hk : (Lit.int .u8 k).wf = true) :
    Calls Try.prog 7 #[.int .i32 a, .int .i32 b, .int .u8 k] w fun e w' => e = .returned (.bool true) ∧ Below w.heap.size w w' := by
  obtain ⟨k0, k1⟩ := bounds_u8 hk
  have : k % 6 = 0 ∨ k % 6 = 1 ∨ k % 6 = 2 ∨ k % 6 = 3 ∨ k % 6 = 4 ∨ k % 6 = 5 := by omega
  rcases this with h | h | h | h | h | h
  · exact walk_0 a b k w (wf_in32 ha) (wf_in32 hb) (by omega) (by omega) h
  · exact walk_1 a b k w (wf_in32 ha) (wf_in32 hb) (by omega) (by omega) h
  · exact walk_2 a b k w (wf_in32 ha) (wf_in32 hb) (by omega) (by omega) h
  · exact walk_3 a b k w (wf_in32 ha) (wf_in32 hb) (by omega) (by omega) h
  · exact walk_4 a b k w (wf_in32 ha) (wf_in32 hb) (by omega) (by omega) h
  · exact walk_5 a b k w (wf_in32 ha) (wf_in32 hb) (by omega) (by omega) h

set_option maxRecDepth 100000 in
theorem lifted (os : Os) (started : os.Started) (H : Type) (enc : TypeId × Value → H) :
    ReturnsInHanded {} Try.checked os 7 .any (Rows.arithNarrowsSpec.pre6 enc Try.prog Try.f7 Rows.arithNarrowsRow.domain false) (Rows.arithNarrowsSpec.post enc Try.prog Try.f7 false true false false) := by
  refine returnsInHanded_of_change (C := Try.checked) own started (by kernel_rfl) Try.func7
    (ChangeSpec.witness6 (enc := enc) (C := Try.checked) false ⟨#[], #[.int .i32 0, .int .i32 0, .int .u8 0], []⟩ 8 (by kernel_rfl) (by kernel_rfl) (by kernel_rfl) (by kernel_rfl)) ?_
  intro W base args ds gs before hval0 hW hcnd _
  have hval : ∀ (j : Nat) t v, Try.f7.params[j]? = some t → args[j]? = some v → Value.okWide Try.prog W .any base t v := hval0
  have hW' := hW
  obtain ⟨p, q, hA0, hV, rfl, hfz, hnd⟩ := hW
  have hA : DataW.TrodAll enc Try.prog W 0 (fun _ => true) true Try.f7.params.toList args.toList ds p := hA0
  rw [Try.params7] at hA hval
  obtain ⟨v0, vs0, d0, ds0, p0, q0, hargs, rfl, rfl, h0, r0⟩ := trodAll_cons hA
  obtain ⟨v1, vs1, d1, ds1, p1, q1, rfl, rfl, rfl, h1, r1⟩ := trodAll_cons r0
  obtain ⟨v2, vs2, d2, ds2, p2, q2, rfl, rfl, rfl, h2, r2⟩ := trodAll_cons r1
  obtain ⟨rfl, rfl, rfl⟩ := trodAll_nil r2
  obtain rfl : args = #[v0, v1, v2] := by cases args; simp_all
  obtain ⟨rfl, rfl⟩ := trodVars_none hV
  obtain ⟨x0, rfl, rfl, rfl, wx0⟩ := open_int Try.underlying21 (hval 0 21 v0 rfl rfl) h0
  obtain ⟨x1, rfl, rfl, rfl, wx1⟩ := open_int Try.underlying21 (hval 1 21 v1 rfl rfl) h1
  obtain ⟨x2, rfl, rfl, rfl, wx2⟩ := open_int Try.underlying5 (hval 2 5 v2 rfl rfl) h2
  clear hA0 hval0
  refine (walk x0 x1 x2 W wx0 wx1 wx2).mono fun e W' ⟨he, bel⟩ => ?_
  subst he
  exact ⟨_, rfl, _, _, _, [], _, [], hW', trodAll_mk1 (shut_bool Try.underlying4 _), (trodAll_cons_mk (shut_int Try.underlying21 wx0) (trodAll_cons_mk (shut_int Try.underlying21 wx1) (trodAll_cons_mk (shut_int Try.underlying5 wx2) trodAll_mk0))), rfl, bel.frame _, fun h => by cases h⟩

theorem closed : joinedFacts Try.prog 7 Try.f7 Rows.arithNarrowsSpec Rows.arithNarrowsRow = true := by
  have h1 := mayEnter_fact
  have h2 : (Rows.arithNarrowsRow.lifted == Try.prog.liftsFinal) = true := by rw [lifts_fact]; rfl
  have h3 : (Try.prog.make == some Rows.arithNarrowsRow.make) = true := by rw [make_fact]; rfl
  have hfin : ∀ b : Bool, b = true → b = true := fun _ h => h
  unfold joinedFacts
  rw [h1, h2, h3]
  clear h1 h2 h3
  refine hfin _ ?_
  kernel_rfl

theorem over : Rows.arithNarrowsRow.holds Try.pinned (OpenSpec.ofChange Rows.arithNarrowsSpec) :=
  OpenClaim.holds_of_wide 7 Try.f7 rfl rfl rfl rfl rfl rfl rfl ⟨rfl, rfl, rfl, rfl, rfl⟩ rfl rfl rfl rfl rfl (by kernel_rfl) Try.func7 closed
    (of_decide_eq_true (by kernel_rfl)) (by unfold Func.isWrapper; first | (rw [if_pos (by decide +kernel)]; kernel_rfl) | (rw [if_neg (by decide +kernel)]; exact ⟨rfl, rfl⟩))
    (fun os started H enc _ => lifted os started H enc)

/-- The statement. -/
theorem proved : Rows.ArithNarrowsSaid := over
#print axioms proved

end Go.Proofs.Ytacnlbbponiamaa.ArithNarrowsP
