/- ArithOpposites: of two branches that are opposites just one goes; numbers are as they compare; two turned about compare the other way. -/
import Derived.Test.YtacnlbbponiamaaArIf
import Derived.Test.YtacnlbbponiamaaHead
import Derived.Test.YtacnlbbponiamaaOpenG
import Derived.Deep.RegionHeld3
import Derived.Lib.SmallJoins
import Derived.ProofKit
import Derived.OpenShut
import Derived.ShutString
import Derived.ChangeOld
import Derived.Laws.StructEq
namespace Go.Proofs.Ytacnlbbponiamaa.ArithOppositesP
open Go.ChangeShapes Go.WideShapes Go.ChangeAt Go.RowKit
open Go.ChangeMaps (open_string shut_string)
set_option linter.unusedVariables false

theorem own : ownKnob Try.prog.godebug = none := by kernel_rfl
theorem laidOut : laidOutB Try.prog = true := by kernel_rfl
theorem bnext {a b c : World} (h : Below a.heap.size a b) (k : Below b.heap.size b c) : Below a.heap.size a c := h.trans (k.mono h.size)
theorem wf_in32 {n : Int} (h : (Lit.int .i32 n).wf = true) : in32 n := by
  simp only [Lit.wf, Bool.and_eq_true, decide_eq_true_eq] at h
  have h1 : IntKind.i32.min = -2147483648 := by decide
  have h2 : IntKind.i32.max = 2147483647 := by decide
  rw [h1, h2] at h
  unfold in32
  omega
theorem wf_in64 {n : Int} (h : (Lit.int .i64 n).wf = true) : in64 n := by
  simp only [Lit.wf, Bool.and_eq_true, decide_eq_true_eq] at h
  have h1 : IntKind.i64.min = -9223372036854775808 := by decide
  have h2 : IntKind.i64.max = 9223372036854775807 := by decide
  rw [h1, h2] at h
  unfold in64
  omega


set_option maxRecDepth 100000 in
set_option maxHeartbeats 1000000 in
theorem walk_00 (a b k : Int) (w : World) (ha : in32 a) (hb : in32 b) (k0 : 0 ≤ k) (k1 : k < 256) (hk : k % 3 = 0) (hc : a < b) :
    Calls Try.prog 10 #[.int .i32 a, .int .i32 b, .int .u8 k] w fun e w' => e = .returned (.bool true) ∧ Below w.heap.size w w' := by
  have f0 : (a == b) = false := beq_eq_false_iff_ne.2 (by omega)
  have f1 : fV 159 a b = false := f0
  have f2 : fV 160 a b = true := by show (!(a == b)) = true; rw [f0]; rfl
  have f3 : fV 153 a b = fV 159 a 0 := rfl
  have c1 : cmpV a b = -1 := by unfold cmpV; (repeat' split) <;> omega
  have c2 : cmpV b a = 1 := by unfold cmpV; (repeat' split) <;> omega
  have h1 := fun w => Lib.hid (if_any 159 a b w)
  have h2 := fun w => Lib.hid (if_any 160 a b w)
  have h3 := fun w => Lib.hid (if_any 153 a b w)
  have h4 := fun w => Lib.hid (if_any 159 a 0 w)
  have h5 := fun w => Lib.hid (compare_any a b w)
  have h6 := fun w => Lib.hid (compare_any b a w)
  rw [f1, show fE 159 = 0 from rfl] at h1
  rw [f2, show fE 160 = 0 from rfl] at h2
  rw [f3, show fE 153 = 0 from rfl] at h3
  rw [show fE 159 = 0 from rfl] at h4
  rw [c1] at h5
  rw [c2] at h6
  generalize fV 159 a 0 = z at h3 h4
  clear f0 f1 f2 f3 c1 c2 hc
  have ht : k.tmod 3 = 0 := by rw [Int.tmod_eq_emod_of_nonneg k0]; exact hk
  unfold in32 at ha hb
  obtain ⟨ha0, ha1⟩ := ha
  obtain ⟨hb0, hb1⟩ := hb
  go_enter Try.func10, Try.ntmps10
  go_wp2_with fail
  refine (h1 _).out.mono ?_
  rintro e w1 ⟨rfl, rfl⟩
  go_wp2_with fail
  refine (h2 _).out.mono ?_
  rintro e w2 ⟨rfl, rfl⟩
  go_wp2_with fail
  refine (h3 _).out.mono ?_
  rintro e w3 ⟨rfl, rfl⟩
  go_wp2_with fail
  refine (h4 _).out.mono ?_
  rintro e w4 ⟨rfl, rfl⟩
  go_wp2_with fail
  refine (h5 _).out.mono ?_
  rintro e w5 ⟨rfl, rfl⟩
  go_wp2_with fail
  refine (h6 _).out.mono ?_
  rintro e w6 ⟨rfl, rfl⟩
  go_wp2_with fail
  refine (awake13 _).mono ?_
  rintro e wz ⟨rfl, hbz⟩
  go_wp2_with fail
  go_ret
  exact ⟨rfl, hbz⟩

set_option maxRecDepth 100000 in
set_option maxHeartbeats 1000000 in
theorem walk_01 (a b k : Int) (w : World) (ha : in32 a) (hb : in32 b) (k0 : 0 ≤ k) (k1 : k < 256) (hk : k % 3 = 0) (hc : a = b) :
    Calls Try.prog 10 #[.int .i32 a, .int .i32 b, .int .u8 k] w fun e w' => e = .returned (.bool true) ∧ Below w.heap.size w w' := by
  have f0 : (a == b) = true := beq_iff_eq.2 (by omega)
  have f1 : fV 159 a b = true := f0
  have f2 : fV 160 a b = false := by show (!(a == b)) = false; rw [f0]; rfl
  have f3 : fV 153 a b = fV 159 a 0 := rfl
  have c1 : cmpV a b = 0 := by unfold cmpV; (repeat' split) <;> omega
  have c2 : cmpV b a = 0 := by unfold cmpV; (repeat' split) <;> omega
  have h1 := fun w => Lib.hid (if_any 159 a b w)
  have h2 := fun w => Lib.hid (if_any 160 a b w)
  have h3 := fun w => Lib.hid (if_any 153 a b w)
  have h4 := fun w => Lib.hid (if_any 159 a 0 w)
  have h5 := fun w => Lib.hid (compare_any a b w)
  have h6 := fun w => Lib.hid (compare_any b a w)
  rw [f1, show fE 159 = 0 from rfl] at h1
  rw [f2, show fE 160 = 0 from rfl] at h2
  rw [f3, show fE 153 = 0 from rfl] at h3
  rw [show fE 159 = 0 from rfl] at h4
  rw [c1] at h5
  rw [c2] at h6
  generalize fV 159 a 0 = z at h3 h4
  clear f0 f1 f2 f3 c1 c2 hc
  have ht : k.tmod 3 = 0 := by rw [Int.tmod_eq_emod_of_nonneg k0]; exact hk
  unfold in32 at ha hb
  obtain ⟨ha0, ha1⟩ := ha
  obtain ⟨hb0, hb1⟩ := hb
  go_enter Try.func10, Try.ntmps10
  go_wp2_with fail
  refine (h1 _).out.mono ?_
  rintro e w1 ⟨rfl, rfl⟩
  go_wp2_with fail
  refine (h2 _).out.mono ?_
  rintro e w2 ⟨rfl, rfl⟩
  go_wp2_with fail
  refine (h3 _).out.mono ?_
  rintro e w3 ⟨rfl, rfl⟩
  go_wp2_with fail
  refine (h4 _).out.mono ?_
  rintro e w4 ⟨rfl, rfl⟩
  go_wp2_with fail
  refine (h5 _).out.mono ?_
  rintro e w5 ⟨rfl, rfl⟩
  go_wp2_with fail
  refine (h6 _).out.mono ?_
  rintro e w6 ⟨rfl, rfl⟩
  go_wp2_with fail
  refine (awake13 _).mono ?_
  rintro e wz ⟨rfl, hbz⟩
  go_wp2_with fail
  go_ret
  exact ⟨rfl, hbz⟩

set_option maxRecDepth 100000 in
set_option maxHeartbeats 1000000 in
theorem walk_02 (a b k : Int) (w : World) (ha : in32 a) (hb : in32 b) (k0 : 0 ≤ k) (k1 : k < 256) (hk : k % 3 = 0) (hc : b < a) :
    Calls Try.prog 10 #[.int .i32 a, .int .i32 b, .int .u8 k] w fun e w' => e = .returned (.bool true) ∧ Below w.heap.size w w' := by
  have f0 : (a == b) = false := beq_eq_false_iff_ne.2 (by omega)
  have f1 : fV 159 a b = false := f0
  have f2 : fV 160 a b = true := by show (!(a == b)) = true; rw [f0]; rfl
  have f3 : fV 153 a b = fV 159 a 0 := rfl
  have c1 : cmpV a b = 1 := by unfold cmpV; (repeat' split) <;> omega
  have c2 : cmpV b a = -1 := by unfold cmpV; (repeat' split) <;> omega
  have h1 := fun w => Lib.hid (if_any 159 a b w)
  have h2 := fun w => Lib.hid (if_any 160 a b w)
  have h3 := fun w => Lib.hid (if_any 153 a b w)
  have h4 := fun w => Lib.hid (if_any 159 a 0 w)
  have h5 := fun w => Lib.hid (compare_any a b w)
  have h6 := fun w => Lib.hid (compare_any b a w)
  rw [f1, show fE 159 = 0 from rfl] at h1
  rw [f2, show fE 160 = 0 from rfl] at h2
  rw [f3, show fE 153 = 0 from rfl] at h3
  rw [show fE 159 = 0 from rfl] at h4
  rw [c1] at h5
  rw [c2] at h6
  generalize fV 159 a 0 = z at h3 h4
  clear f0 f1 f2 f3 c1 c2 hc
  have ht : k.tmod 3 = 0 := by rw [Int.tmod_eq_emod_of_nonneg k0]; exact hk
  unfold in32 at ha hb
  obtain ⟨ha0, ha1⟩ := ha
  obtain ⟨hb0, hb1⟩ := hb
  go_enter Try.func10, Try.ntmps10
  go_wp2_with fail
  refine (h1 _).out.mono ?_
  rintro e w1 ⟨rfl, rfl⟩
  go_wp2_with fail
  refine (h2 _).out.mono ?_
  rintro e w2 ⟨rfl, rfl⟩
  go_wp2_with fail
  refine (h3 _).out.mono ?_
  rintro e w3 ⟨rfl, rfl⟩
  go_wp2_with fail
  refine (h4 _).out.mono ?_
  rintro e w4 ⟨rfl, rfl⟩
  go_wp2_with fail
  refine (h5 _).out.mono ?_
  rintro e w5 ⟨rfl, rfl⟩
  go_wp2_with fail
  refine (h6 _).out.mono ?_
  rintro e w6 ⟨rfl, rfl⟩
  go_wp2_with fail
  refine (awake13 _).mono ?_
  rintro e wz ⟨rfl, hbz⟩
  go_wp2_with fail
  go_ret
  exact ⟨rfl, hbz⟩

set_option maxRecDepth 100000 in
set_option maxHeartbeats 1000000 in
theorem walk_10 (a b k : Int) (w : World) (ha : in32 a) (hb : in32 b) (k0 : 0 ≤ k) (k1 : k < 256) (hk : k % 3 = 1) (hc : a < b) :
    Calls Try.prog 10 #[.int .i32 a, .int .i32 b, .int .u8 k] w fun e w' => e = .returned (.bool true) ∧ Below w.heap.size w w' := by
  have f0 : (decide (a < b)) = true := decide_eq_true (by omega)
  have f1 : fV 161 a b = true := f0
  have f2 : fV 162 a b = false := by show (!(decide (a < b))) = false; rw [f0]; rfl
  have f3 : fV 155 a b = fV 161 a 0 := rfl
  have c1 : cmpV a b = -1 := by unfold cmpV; (repeat' split) <;> omega
  have c2 : cmpV b a = 1 := by unfold cmpV; (repeat' split) <;> omega
  have h1 := fun w => Lib.hid (if_any 161 a b w)
  have h2 := fun w => Lib.hid (if_any 162 a b w)
  have h3 := fun w => Lib.hid (if_any 155 a b w)
  have h4 := fun w => Lib.hid (if_any 161 a 0 w)
  have h5 := fun w => Lib.hid (compare_any a b w)
  have h6 := fun w => Lib.hid (compare_any b a w)
  rw [f1, show fE 161 = 0 from rfl] at h1
  rw [f2, show fE 162 = 0 from rfl] at h2
  rw [f3, show fE 155 = 0 from rfl] at h3
  rw [show fE 161 = 0 from rfl] at h4
  rw [c1] at h5
  rw [c2] at h6
  generalize fV 161 a 0 = z at h3 h4
  clear f0 f1 f2 f3 c1 c2 hc
  have ht : k.tmod 3 = 1 := by rw [Int.tmod_eq_emod_of_nonneg k0]; exact hk
  unfold in32 at ha hb
  obtain ⟨ha0, ha1⟩ := ha
  obtain ⟨hb0, hb1⟩ := hb
  go_enter Try.func10, Try.ntmps10
  go_wp2_with fail
  refine (h1 _).out.mono ?_
  rintro e w1 ⟨rfl, rfl⟩
  go_wp2_with fail
  refine (h2 _).out.mono ?_
  rintro e w2 ⟨rfl, rfl⟩
  go_wp2_with fail
  refine (h3 _).out.mono ?_
  rintro e w3 ⟨rfl, rfl⟩
  go_wp2_with fail
  refine (h4 _).out.mono ?_
  rintro e w4 ⟨rfl, rfl⟩
  go_wp2_with fail
  refine (h5 _).out.mono ?_
  rintro e w5 ⟨rfl, rfl⟩
  go_wp2_with fail
  refine (h6 _).out.mono ?_
  rintro e w6 ⟨rfl, rfl⟩
  go_wp2_with fail
  refine (awake13 _).mono ?_
  rintro e wz ⟨rfl, hbz⟩
  go_wp2_with fail
  go_ret
  exact ⟨rfl, hbz⟩

set_option maxRecDepth 100000 in
set_option maxHeartbeats 1000000 in
theorem walk_11 (a b k : Int) (w : World) (ha : in32 a) (hb : in32 b) (k0 : 0 ≤ k) (k1 : k < 256) (hk : k % 3 = 1) (hc : a = b) :
    Calls Try.prog 10 #[.int .i32 a, .int .i32 b, .int .u8 k] w fun e w' => e = .returned (.bool true) ∧ Below w.heap.size w w' := by
  have f0 : (decide (a < b)) = false := decide_eq_false (by omega)
  have f1 : fV 161 a b = false := f0
  have f2 : fV 162 a b = true := by show (!(decide (a < b))) = true; rw [f0]; rfl
  have f3 : fV 155 a b = fV 161 a 0 := rfl
  have c1 : cmpV a b = 0 := by unfold cmpV; (repeat' split) <;> omega
  have c2 : cmpV b a = 0 := by unfold cmpV; (repeat' split) <;> omega
  have h1 := fun w => Lib.hid (if_any 161 a b w)
  have h2 := fun w => Lib.hid (if_any 162 a b w)
  have h3 := fun w => Lib.hid (if_any 155 a b w)
  have h4 := fun w => Lib.hid (if_any 161 a 0 w)
  have h5 := fun w => Lib.hid (compare_any a b w)
  have h6 := fun w => Lib.hid (compare_any b a w)
  rw [f1, show fE 161 = 0 from rfl] at h1
  rw [f2, show fE 162 = 0 from rfl] at h2
  rw [f3, show fE 155 = 0 from rfl] at h3
  rw [show fE 161 = 0 from rfl] at h4
  rw [c1] at h5
  rw [c2] at h6
  generalize fV 161 a 0 = z at h3 h4
  clear f0 f1 f2 f3 c1 c2 hc
  have ht : k.tmod 3 = 1 := by rw [Int.tmod_eq_emod_of_nonneg k0]; exact hk
  unfold in32 at ha hb
  obtain ⟨ha0, ha1⟩ := ha
  obtain ⟨hb0, hb1⟩ := hb
  go_enter Try.func10, Try.ntmps10
  go_wp2_with fail
  refine (h1 _).out.mono ?_
  rintro e w1 ⟨rfl, rfl⟩
  go_wp2_with fail
  refine (h2 _).out.mono ?_
  rintro e w2 ⟨rfl, rfl⟩
  go_wp2_with fail
  refine (h3 _).out.mono ?_
  rintro e w3 ⟨rfl, rfl⟩
  go_wp2_with fail
  refine (h4 _).out.mono ?_
  rintro e w4 ⟨rfl, rfl⟩
  go_wp2_with fail
  refine (h5 _).out.mono ?_
  rintro e w5 ⟨rfl, rfl⟩
  go_wp2_with fail
  refine (h6 _).out.mono ?_
  rintro e w6 ⟨rfl, rfl⟩
  go_wp2_with fail
  refine (awake13 _).mono ?_
  rintro e wz ⟨rfl, hbz⟩
  go_wp2_with fail
  go_ret
  exact ⟨rfl, hbz⟩

set_option maxRecDepth 100000 in
set_option maxHeartbeats 1000000 in
theorem walk_12 (a b k : Int) (w : World) (ha : in32 a) (hb : in32 b) (k0 : 0 ≤ k) (k1 : k < 256) (hk : k % 3 = 1) (hc : b < a) :
    Calls Try.prog 10 #[.int .i32 a, .int .i32 b, .int .u8 k] w fun e w' => e = .returned (.bool true) ∧ Below w.heap.size w w' := by
  have f0 : (decide (a < b)) = false := decide_eq_false (by omega)
  have f1 : fV 161 a b = false := f0
  have f2 : fV 162 a b = true := by show (!(decide (a < b))) = true; rw [f0]; rfl
  have f3 : fV 155 a b = fV 161 a 0 := rfl
  have c1 : cmpV a b = 1 := by unfold cmpV; (repeat' split) <;> omega
  have c2 : cmpV b a = -1 := by unfold cmpV; (repeat' split) <;> omega
  have h1 := fun w => Lib.hid (if_any 161 a b w)
  have h2 := fun w => Lib.hid (if_any 162 a b w)
  have h3 := fun w => Lib.hid (if_any 155 a b w)
  have h4 := fun w => Lib.hid (if_any 161 a 0 w)
  have h5 := fun w => Lib.hid (compare_any a b w)
  have h6 := fun w => Lib.hid (compare_any b a w)
  rw [f1, show fE 161 = 0 from rfl] at h1
  rw [f2, show fE 162 = 0 from rfl] at h2
  rw [f3, show fE 155 = 0 from rfl] at h3
  rw [show fE 161 = 0 from rfl] at h4
  rw [c1] at h5
  rw [c2] at h6
  generalize fV 161 a 0 = z at h3 h4
  clear f0 f1 f2 f3 c1 c2 hc
  have ht : k.tmod 3 = 1 := by rw [Int.tmod_eq_emod_of_nonneg k0]; exact hk
  unfold in32 at ha hb
  obtain ⟨ha0, ha1⟩ := ha
  obtain ⟨hb0, hb1⟩ := hb
  go_enter Try.func10, Try.ntmps10
  go_wp2_with fail
  refine (h1 _).out.mono ?_
  rintro e w1 ⟨rfl, rfl⟩
  go_wp2_with fail
  refine (h2 _).out.mono ?_
  rintro e w2 ⟨rfl, rfl⟩
  go_wp2_with fail
  refine (h3 _).out.mono ?_
  rintro e w3 ⟨rfl, rfl⟩
  go_wp2_with fail
  refine (h4 _).out.mono ?_
  rintro e w4 ⟨rfl, rfl⟩
  go_wp2_with fail
  refine (h5 _).out.mono ?_
  rintro e w5 ⟨rfl, rfl⟩
  go_wp2_with fail
  refine (h6 _).out.mono ?_
  rintro e w6 ⟨rfl, rfl⟩
  go_wp2_with fail
  refine (awake13 _).mono ?_
  rintro e wz ⟨rfl, hbz⟩
  go_wp2_with fail
  go_ret
  exact ⟨rfl, hbz⟩

set_option maxRecDepth 100000 in
set_option maxHeartbeats 1000000 in
theorem walk_20 (a b k : Int) (w : World) (ha : in32 a) (hb : in32 b) (k0 : 0 ≤ k) (k1 : k < 256) (hk : k % 3 = 2) (hc : a < b) :
    Calls Try.prog 10 #[.int .i32 a, .int .i32 b, .int .u8 k] w fun e w' => e = .returned (.bool true) ∧ Below w.heap.size w w' := by
  have f0 : (decide (b < a)) = false := decide_eq_false (by omega)
  have f1 : fV 163 a b = false := f0
  have f2 : fV 164 a b = true := by show (!(decide (b < a))) = true; rw [f0]; rfl
  have f3 : fV 157 a b = fV 163 a 0 := rfl
  have c1 : cmpV a b = -1 := by unfold cmpV; (repeat' split) <;> omega
  have c2 : cmpV b a = 1 := by unfold cmpV; (repeat' split) <;> omega
  have h1 := fun w => Lib.hid (if_any 163 a b w)
  have h2 := fun w => Lib.hid (if_any 164 a b w)
  have h3 := fun w => Lib.hid (if_any 157 a b w)
  have h4 := fun w => Lib.hid (if_any 163 a 0 w)
  have h5 := fun w => Lib.hid (compare_any a b w)
  have h6 := fun w => Lib.hid (compare_any b a w)
  rw [f1, show fE 163 = 0 from rfl] at h1
  rw [f2, show fE 164 = 0 from rfl] at h2
  rw [f3, show fE 157 = 0 from rfl] at h3
  rw [show fE 163 = 0 from rfl] at h4
  rw [c1] at h5
  rw [c2] at h6
  generalize fV 163 a 0 = z at h3 h4
  clear f0 f1 f2 f3 c1 c2 hc
  have ht : k.tmod 3 = 2 := by rw [Int.tmod_eq_emod_of_nonneg k0]; exact hk
  unfold in32 at ha hb
  obtain ⟨ha0, ha1⟩ := ha
  obtain ⟨hb0, hb1⟩ := hb
  go_enter Try.func10, Try.ntmps10
  go_wp2_with fail
  refine (h1 _).out.mono ?_
  rintro e w1 ⟨rfl, rfl⟩
  go_wp2_with fail
  refine (h2 _).out.mono ?_
  rintro e w2 ⟨rfl, rfl⟩
  go_wp2_with fail
  refine (h3 _).out.mono ?_
  rintro e w3 ⟨rfl, rfl⟩
  go_wp2_with fail
  refine (h4 _).out.mono ?_
  rintro e w4 ⟨rfl, rfl⟩
  go_wp2_with fail
  refine (h5 _).out.mono ?_
  rintro e w5 ⟨rfl, rfl⟩
  go_wp2_with fail
  refine (h6 _).out.mono ?_
  rintro e w6 ⟨rfl, rfl⟩
  go_wp2_with fail
  refine (awake13 _).mono ?_
  rintro e wz ⟨rfl, hbz⟩
  go_wp2_with fail
  go_ret
  exact ⟨rfl, hbz⟩

set_option maxRecDepth 100000 in
set_option maxHeartbeats 1000000 in
theorem walk_21 (a b k : Int) (w : World) (ha : in32 a) (hb : in32 b) (k0 : 0 ≤ k) (k1 : k < 256) (hk : k % 3 = 2) (hc : a = b) :
    Calls Try.prog 10 #[.int .i32 a, .int .i32 b, .int .u8 k] w fun e w' => e = .returned (.bool true) ∧ Below w.heap.size w w' := by
  have f0 : (decide (b < a)) = false := decide_eq_false (by omega)
  have f1 : fV 163 a b = false := f0
  have f2 : fV 164 a b = true := by show (!(decide (b < a))) = true; rw [f0]; rfl
  have f3 : fV 157 a b = fV 163 a 0 := rfl
  have c1 : cmpV a b = 0 := by unfold cmpV; (repeat' split) <;> omega
  have c2 : cmpV b a = 0 := by unfold cmpV; (repeat' split) <;> omega
  have h1 := fun w => Lib.hid (if_any 163 a b w)
  have h2 := fun w => Lib.hid (if_any 164 a b w)
  have h3 := fun w => Lib.hid (if_any 157 a b w)
  have h4 := fun w => Lib.hid (if_any 163 a 0 w)
  have h5 := fun w => Lib.hid (compare_any a b w)
  have h6 := fun w => Lib.hid (compare_any b a w)
  rw [f1, show fE 163 = 0 from rfl] at h1
  rw [f2, show fE 164 = 0 from rfl] at h2
  rw [f3, show fE 157 = 0 from rfl] at h3
  rw [show fE 163 = 0 from rfl] at h4
  rw [c1] at h5
  rw [c2] at h6
  generalize fV 163 a 0 = z at h3 h4
  clear f0 f1 f2 f3 c1 c2 hc
  have ht : k.tmod 3 = 2 := by rw [Int.tmod_eq_emod_of_nonneg k0]; exact hk
  unfold in32 at ha hb
  obtain ⟨ha0, ha1⟩ := ha
  obtain ⟨hb0, hb1⟩ := hb
  go_enter Try.func10, Try.ntmps10
  go_wp2_with fail
  refine (h1 _).out.mono ?_
  rintro e w1 ⟨rfl, rfl⟩
  go_wp2_with fail
  refine (h2 _).out.mono ?_
  rintro e w2 ⟨rfl, rfl⟩
  go_wp2_with fail
  refine (h3 _).out.mono ?_
  rintro e w3 ⟨rfl, rfl⟩
  go_wp2_with fail
  refine (h4 _).out.mono ?_
  rintro e w4 ⟨rfl, rfl⟩
  go_wp2_with fail
  refine (h5 _).out.mono ?_
  rintro e w5 ⟨rfl, rfl⟩
  go_wp2_with fail
  refine (h6 _).out.mono ?_
  rintro e w6 ⟨rfl, rfl⟩
  go_wp2_with fail
  refine (awake13 _).mono ?_
  rintro e wz ⟨rfl, hbz⟩
  go_wp2_with fail
  go_ret
  exact ⟨rfl, hbz⟩

set_option maxRecDepth 100000 in
set_option maxHeartbeats 1000000 in
theorem walk_22 (a b k : Int) (w : World) (ha : in32 a) (hb : in32 b) (k0 : 0 ≤ k) (k1 : k < 256) (hk : k % 3 = 2) (hc : b < a) :
    Calls Try.prog 10 #[.int .i32 a, .int .i32 b, .int .u8 k] w fun e w' => e = .returned (.bool true) ∧ Below w.heap.size w w' := by
  have f0 : (decide (b < a)) = true := decide_eq_true (by omega)
  have f1 : fV 163 a b = true := f0
  have f2 : fV 164 a b = false := by show (!(decide (b < a))) = false; rw [f0]; rfl
  have f3 : fV 157 a b = fV 163 a 0 := rfl
  have c1 : cmpV a b = 1 := by unfold cmpV; (repeat' split) <;> omega
  have c2 : cmpV b a = -1 := by unfold cmpV; (repeat' split) <;> omega
  have h1 := fun w => Lib.hid (if_any 163 a b w)
  have h2 := fun w => Lib.hid (if_any 164 a b w)
  have h3 := fun w => Lib.hid (if_any 157 a b w)
  have h4 := fun w => Lib.hid (if_any 163 a 0 w)
  have h5 := fun w => Lib.hid (compare_any a b w)
  have h6 := fun w => Lib.hid (compare_any b a w)
  rw [f1, show fE 163 = 0 from rfl] at h1
  rw [f2, show fE 164 = 0 from rfl] at h2
  rw [f3, show fE 157 = 0 from rfl] at h3
  rw [show fE 163 = 0 from rfl] at h4
  rw [c1] at h5
  rw [c2] at h6
  generalize fV 163 a 0 = z at h3 h4
  clear f0 f1 f2 f3 c1 c2 hc
  have ht : k.tmod 3 = 2 := by rw [Int.tmod_eq_emod_of_nonneg k0]; exact hk
  unfold in32 at ha hb
  obtain ⟨ha0, ha1⟩ := ha
  obtain ⟨hb0, hb1⟩ := hb
  go_enter Try.func10, Try.ntmps10
  go_wp2_with fail
  refine (h1 _).out.mono ?_
  rintro e w1 ⟨rfl, rfl⟩
  go_wp2_with fail
  refine (h2 _).out.mono ?_
  rintro e w2 ⟨rfl, rfl⟩
  go_wp2_with fail
  refine (h3 _).out.mono ?_
  rintro e w3 ⟨rfl, rfl⟩
  go_wp2_with fail
  refine (h4 _).out.mono ?_
  rintro e w4 ⟨rfl, rfl⟩
  go_wp2_with fail
  refine (h5 _).out.mono ?_
  rintro e w5 ⟨rfl, rfl⟩
  go_wp2_with fail
  refine (h6 _).out.mono ?_
  rintro e w6 ⟨rfl, rfl⟩
  go_wp2_with fail
  refine (awake13 _).mono ?_
  rintro e wz ⟨rfl, hbz⟩
  go_wp2_with fail
  go_ret
  exact ⟨rfl, hbz⟩

theorem walk (a b k : Int) (w : World) (ha : (Lit.int .i32 a).wf = true) (hb : (Lit.int .i32 b).wf = true) (hk : (Lit.int .u8 k).wf = true) :
    Calls Try.prog 10 #[.int .i32 a, .int .i32 b, .int .u8 k] w fun e w' => e = .returned (.bool true) ∧ Below w.heap.size w w' := by
  obtain ⟨k0, k1⟩ := bounds_u8 hk
  have : k % 3 = 0 ∨ k % 3 = 1 ∨ k % 3 = 2 := by omega
  rcases this with h | h | h <;> rcases Int.lt_trichotomy a b with g | g | g
  · exact walk_00 a b k w (wf_in32 ha) (wf_in32 hb) (by omega) (by omega) h g
  · exact walk_01 a b k w (wf_in32 ha) (wf_in32 hb) (by omega) (by omega) h g
  · exact walk_02 a b k w (wf_in32 ha) (wf_in32 hb) (by omega) (by omega) h g
  · exact walk_10 a b k w (wf_in32 ha) (wf_in32 hb) (by omega) (by omega) h g
  · exact walk_11 a b k w (wf_in32 ha) (wf_in32 hb) (by omega) (by omega) h g
  · exact walk_12 a b k w (wf_in32 ha) (wf_in32 hb) (by omega) (by omega) h g
  · exact walk_20 a b k w (wf_in32 ha) (wf_in32 hb) (by omega) (by omega) h g
  · exact walk_21 a b k w (wf_in32 ha) (wf_in32 hb) (by omega) (by omega) h g
  · exact walk_22 a b k w (wf_in32 ha) (wf_in32 hb) (by omega) (by omega) h g

set_option maxRecDepth 100000 in
theorem lifted (os : Os) (started : os.Started) (H : Type) (enc : TypeId × Value → H) :
    ReturnsInHanded {} Try.checked os 10 .any (Rows.arithOppositesSpec.pre6 enc Try.prog Try.f10 Rows.arithOppositesRow.domain false) (Rows.arithOppositesSpec.post enc Try.prog Try.f10 false true false false) := by
  refine returnsInHanded_of_change (C := Try.checked) own started (by kernel_rfl) Try.func10
    (ChangeSpec.witness6 (enc := enc) (C := Try.checked) false ⟨#[], #[.int .i32 0, .int .i32 0, .int .u8 0], []⟩ 8 (by kernel_rfl) (by kernel_rfl) (by kernel_rfl) (by kernel_rfl)) ?_
  intro W base args ds gs before hval0 hW hcnd _
  have hval : ∀ (j : Nat) t v, Try.f10.params[j]? = some t → args[j]? = some v → Value.okWide Try.prog W .any base t v := hval0
  have hW' := hW
  obtain ⟨p, q, hA0, hV, rfl, hfz, hnd⟩ := hW
  have hA : DataW.TrodAll enc Try.prog W 0 (fun _ => true) true Try.f10.params.toList args.toList ds p := hA0
  rw [Try.params10] at hA hval
  obtain ⟨v0, vs0, d0, ds0, p0, q0, hargs, rfl, rfl, h0, r0⟩ := trodAll_cons hA
  obtain ⟨v1, vs1, d1, ds1, p1, q1, rfl, rfl, rfl, h1, r1⟩ := trodAll_cons r0
  obtain ⟨v2, vs2, d2, ds2, p2, q2, rfl, rfl, rfl, h2, r2⟩ := trodAll_cons r1
  obtain ⟨rfl, rfl, rfl⟩ := trodAll_nil r2
  obtain rfl : args = #[v0, v1, v2] := by cases args; simp_all
  obtain ⟨rfl, rfl⟩ := trodVars_none hV
  obtain ⟨x0, rfl, rfl, rfl, wx0⟩ := open_int Try.underlying21 (hval 0 21 v0 rfl rfl) h0
  obtain ⟨x1, rfl, rfl, rfl, wx1⟩ := open_int Try.underlying21 (hval 1 21 v1 rfl rfl) h1
  obtain ⟨x2, rfl, rfl, rfl, wx2⟩ := open_int Try.underlying5 (hval 2 5 v2 rfl rfl) h2
  clear hA0 hval0
  refine (walk x0 x1 x2 W wx0 wx1 wx2).mono fun e W' ⟨he, bel⟩ => ?_
  subst he
  exact ⟨_, rfl, _, _, _, [], _, [], hW', trodAll_mk1 (shut_bool Try.underlying4 _), (trodAll_cons_mk (shut_int Try.underlying21 wx0) (trodAll_cons_mk (shut_int Try.underlying21 wx1) (trodAll_cons_mk (shut_int Try.underlying5 wx2) trodAll_mk0))), rfl, bel.frame _, fun h => by cases h⟩

theorem closed : joinedFacts Try.prog 10 Try.f10 Rows.arithOppositesSpec Rows.arithOppositesRow = true := by
  have h1 := mayEnter_fact
  have h2 : (Rows.arithOppositesRow.lifted == Try.prog.liftsFinal) = true := by rw [lifts_fact]; rfl
  have h3 : (Try.prog.make == some Rows.arithOppositesRow.make) = true := by rw [make_fact]; rfl
  have hfin : ∀ b : Bool, b = true → b = true := fun _ h => h
  unfold joinedFacts
  rw [h1, h2, h3]
  clear h1 h2 h3
  refine hfin _ ?_
  kernel_rfl

theorem over : Rows.arithOppositesRow.holds Try.pinned (OpenSpec.ofChange Rows.arithOppositesSpec) :=
  OpenClaim.holds_of_wide 10 Try.f10 rfl rfl rfl rfl rfl rfl rfl ⟨rfl, rfl, rfl, rfl, rfl⟩ rfl rfl rfl rfl rfl (by kernel_rfl) Try.func10 closed
    (of_decide_eq_true (by kernel_rfl)) (by unfold Func.isWrapper; first | (rw [if_pos (by decide +kernel)]; kernel_rfl) | (rw [if_neg (by decide +kernel)]; exact ⟨rfl, rfl⟩))
    (fun os started H enc _ => lifted os started H enc)

/-- The statement. -/
theorem proved : Rows.ArithOppositesSaid := over
#print axioms proved

end Go.Proofs.Ytacnlbbponiamaa.ArithOppositesP
