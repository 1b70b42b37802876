/- StoreBest: of two logs with other views or lengths just one is better; none is better than itself; what is better than a better one is better. -/
import Derived.Test.YtlehianbdamgmaaStoreAw
import Derived.Test.YtlehianbdamgmaaHead
import Derived.Test.YtlehianbdamgmaaOpenG
import Derived.Deep.RegionHeld3
import Derived.Lib.SmallJoins
import Derived.ProofKit
import Derived.OpenShut
import Derived.ShutString
import Derived.ChangeOld
import Derived.Laws.StructEq
namespace Go.Proofs.Ytlehianbdamgmaa.StoreBestP
open Go.ChangeShapes Go.WideShapes Go.ChangeAt Go.RowKit
open Go.ChangeMaps (open_string shut_string)
set_option linter.unusedVariables false

theorem own : ownKnob Try.prog.godebug = none := by kernel_rfl
theorem laidOut : laidOutB Try.prog = true := by kernel_rfl
theorem bnext {a b c : World} (h : Below a.heap.size a b) (k : Below b.heap.size b c) : Below a.heap.size a c := h.trans (k.mono h.size)
theorem best_facts (a b c x y z : Int) : better a x a x = false ∧ ¬ (better a x b y = true ∧ better b y a x = true) ∧ (better a x b y = false → better b y a x = false → a = b ∧ x = y) ∧ (better a x b y = true → better b y c z = true → better a x c z = true) := by
  unfold better
  refine ⟨?_, ?_, ?_, ?_⟩
  · simp
  · intro h; (repeat' split at h) <;> simp at h <;> omega
  · intro h k; (repeat' split at h) <;> (repeat' split at k) <;> simp at h k <;> omega
  · intro h k; (repeat' split at h) <;> (repeat' split at k) <;> (repeat' split) <;> simp at h k ⊢ <;> omega

set_option maxRecDepth 100000 in
set_option maxHeartbeats 1000000 in
theorem walk_0000 (a b c x y z : Int) (w : World) (h1 : ∀ w, Hid (Calls Try.prog 17 #[.int .i64 a, .int .i64 x, .int .i64 b, .int .i64 y] w fun e w' => e = .returned (.bool false) ∧ w = w')) (h2 : ∀ w, Hid (Calls Try.prog 17 #[.int .i64 b, .int .i64 y, .int .i64 a, .int .i64 x] w fun e w' => e = .returned (.bool false) ∧ w = w')) (h3 : ∀ w, Hid (Calls Try.prog 17 #[.int .i64 b, .int .i64 y, .int .i64 c, .int .i64 z] w fun e w' => e = .returned (.bool false) ∧ w = w')) (h4 : ∀ w, Hid (Calls Try.prog 17 #[.int .i64 a, .int .i64 x, .int .i64 c, .int .i64 z] w fun e w' => e = .returned (.bool false) ∧ w = w')) (h5 : ∀ w, Hid (Calls Try.prog 17 #[.int .i64 a, .int .i64 x, .int .i64 a, .int .i64 x] w fun e w' => e = .returned (.bool false) ∧ w = w')) (k1 : (a != b) = false) (k2 : (x != y) = false) :
    Calls Try.prog 3 #[.int .i64 a, .int .i64 b, .int .i64 c, .int .i64 x, .int .i64 y, .int .i64 z] w fun e w' => e = .returned (.bool true) ∧ Below w.heap.size w w' := by
  go_enter Try.func3, Try.ntmps3
  go_wp2_with fail
  refine (h1 _).out.mono ?_
  rintro _ w1 ⟨rfl, rfl⟩
  go_wp2_with fail
  refine (h2 _).out.mono ?_
  rintro _ w2 ⟨rfl, rfl⟩
  go_wp2_with fail
  refine (h3 _).out.mono ?_
  rintro _ w3 ⟨rfl, rfl⟩
  go_wp2_with fail
  refine (h4 _).out.mono ?_
  rintro _ w4 ⟨rfl, rfl⟩
  go_wp2_with fail
  refine (h5 _).out.mono ?_
  rintro _ w5 ⟨rfl, rfl⟩
  go_wp2_with fail
  refine (awake19 _).mono ?_
  rintro _ wz ⟨rfl, hbz⟩
  go_wp2_with fail
  go_ret
  exact ⟨rfl, hbz⟩

set_option maxRecDepth 100000 in
set_option maxHeartbeats 1000000 in
theorem walk_0001 (a b c x y z : Int) (w : World) (h1 : ∀ w, Hid (Calls Try.prog 17 #[.int .i64 a, .int .i64 x, .int .i64 b, .int .i64 y] w fun e w' => e = .returned (.bool false) ∧ w = w')) (h2 : ∀ w, Hid (Calls Try.prog 17 #[.int .i64 b, .int .i64 y, .int .i64 a, .int .i64 x] w fun e w' => e = .returned (.bool false) ∧ w = w')) (h3 : ∀ w, Hid (Calls Try.prog 17 #[.int .i64 b, .int .i64 y, .int .i64 c, .int .i64 z] w fun e w' => e = .returned (.bool false) ∧ w = w')) (h4 : ∀ w, Hid (Calls Try.prog 17 #[.int .i64 a, .int .i64 x, .int .i64 c, .int .i64 z] w fun e w' => e = .returned (.bool true) ∧ w = w')) (h5 : ∀ w, Hid (Calls Try.prog 17 #[.int .i64 a, .int .i64 x, .int .i64 a, .int .i64 x] w fun e w' => e = .returned (.bool false) ∧ w = w')) (k1 : (a != b) = false) (k2 : (x != y) = false) :
    Calls Try.prog 3 #[.int .i64 a, .int .i64 b, .int .i64 c, .int .i64 x, .int .i64 y, .int .i64 z] w fun e w' => e = .returned (.bool true) ∧ Below w.heap.size w w' := by
  go_enter Try.func3, Try.ntmps3
  go_wp2_with fail
  refine (h1 _).out.mono ?_
  rintro _ w1 ⟨rfl, rfl⟩
  go_wp2_with fail
  refine (h2 _).out.mono ?_
  rintro _ w2 ⟨rfl, rfl⟩
  go_wp2_with fail
  refine (h3 _).out.mono ?_
  rintro _ w3 ⟨rfl, rfl⟩
  go_wp2_with fail
  refine (h4 _).out.mono ?_
  rintro _ w4 ⟨rfl, rfl⟩
  go_wp2_with fail
  refine (h5 _).out.mono ?_
  rintro _ w5 ⟨rfl, rfl⟩
  go_wp2_with fail
  refine (awake19 _).mono ?_
  rintro _ wz ⟨rfl, hbz⟩
  go_wp2_with fail
  go_ret
  exact ⟨rfl, hbz⟩

set_option maxRecDepth 100000 in
set_option maxHeartbeats 1000000 in
theorem walk_0010 (a b c x y z : Int) (w : World) (h1 : ∀ w, Hid (Calls Try.prog 17 #[.int .i64 a, .int .i64 x, .int .i64 b, .int .i64 y] w fun e w' => e = .returned (.bool false) ∧ w = w')) (h2 : ∀ w, Hid (Calls Try.prog 17 #[.int .i64 b, .int .i64 y, .int .i64 a, .int .i64 x] w fun e w' => e = .returned (.bool false) ∧ w = w')) (h3 : ∀ w, Hid (Calls Try.prog 17 #[.int .i64 b, .int .i64 y, .int .i64 c, .int .i64 z] w fun e w' => e = .returned (.bool true) ∧ w = w')) (h4 : ∀ w, Hid (Calls Try.prog 17 #[.int .i64 a, .int .i64 x, .int .i64 c, .int .i64 z] w fun e w' => e = .returned (.bool false) ∧ w = w')) (h5 : ∀ w, Hid (Calls Try.prog 17 #[.int .i64 a, .int .i64 x, .int .i64 a, .int .i64 x] w fun e w' => e = .returned (.bool false) ∧ w = w')) (k1 : (a != b) = false) (k2 : (x != y) = false) :
    Calls Try.prog 3 #[.int .i64 a, .int .i64 b, .int .i64 c, .int .i64 x, .int .i64 y, .int .i64 z] w fun e w' => e = .returned (.bool true) ∧ Below w.heap.size w w' := by
  go_enter Try.func3, Try.ntmps3
  go_wp2_with fail
  refine (h1 _).out.mono ?_
  rintro _ w1 ⟨rfl, rfl⟩
  go_wp2_with fail
  refine (h2 _).out.mono ?_
  rintro _ w2 ⟨rfl, rfl⟩
  go_wp2_with fail
  refine (h3 _).out.mono ?_
  rintro _ w3 ⟨rfl, rfl⟩
  go_wp2_with fail
  refine (h4 _).out.mono ?_
  rintro _ w4 ⟨rfl, rfl⟩
  go_wp2_with fail
  refine (h5 _).out.mono ?_
  rintro _ w5 ⟨rfl, rfl⟩
  go_wp2_with fail
  refine (awake19 _).mono ?_
  rintro _ wz ⟨rfl, hbz⟩
  go_wp2_with fail
  go_ret
  exact ⟨rfl, hbz⟩

set_option maxRecDepth 100000 in
set_option maxHeartbeats 1000000 in
theorem walk_0011 (a b c x y z : Int) (w : World) (h1 : ∀ w, Hid (Calls Try.prog 17 #[.int .i64 a, .int .i64 x, .int .i64 b, .int .i64 y] w fun e w' => e = .returned (.bool false) ∧ w = w')) (h2 : ∀ w, Hid (Calls Try.prog 17 #[.int .i64 b, .int .i64 y, .int .i64 a, .int .i64 x] w fun e w' => e = .returned (.bool false) ∧ w = w')) (h3 : ∀ w, Hid (Calls Try.prog 17 #[.int .i64 b, .int .i64 y, .int .i64 c, .int .i64 z] w fun e w' => e = .returned (.bool true) ∧ w = w')) (h4 : ∀ w, Hid (Calls Try.prog 17 #[.int .i64 a, .int .i64 x, .int .i64 c, .int .i64 z] w fun e w' => e = .returned (.bool true) ∧ w = w')) (h5 : ∀ w, Hid (Calls Try.prog 17 #[.int .i64 a, .int .i64 x, .int .i64 a, .int .i64 x] w fun e w' => e = .returned (.bool false) ∧ w = w')) (k1 : (a != b) = false) (k2 : (x != y) = false) :
    Calls Try.prog 3 #[.int .i64 a, .int .i64 b, .int .i64 c, .int .i64 x, .int .i64 y, .int .i64 z] w fun e w' => e = .returned (.bool true) ∧ Below w.heap.size w w' := by
  go_enter Try.func3, Try.ntmps3
  go_wp2_with fail
  refine (h1 _).out.mono ?_
  rintro _ w1 ⟨rfl, rfl⟩
  go_wp2_with fail
  refine (h2 _).out.mono ?_
  rintro _ w2 ⟨rfl, rfl⟩
  go_wp2_with fail
  refine (h3 _).out.mono ?_
  rintro _ w3 ⟨rfl, rfl⟩
  go_wp2_with fail
  refine (h4 _).out.mono ?_
  rintro _ w4 ⟨rfl, rfl⟩
  go_wp2_with fail
  refine (h5 _).out.mono ?_
  rintro _ w5 ⟨rfl, rfl⟩
  go_wp2_with fail
  refine (awake19 _).mono ?_
  rintro _ wz ⟨rfl, hbz⟩
  go_wp2_with fail
  go_ret
  exact ⟨rfl, hbz⟩

set_option maxRecDepth 100000 in
set_option maxHeartbeats 1000000 in
theorem walk_0100 (a b c x y z : Int) (w : World) (h1 : ∀ w, Hid (Calls Try.prog 17 #[.int .i64 a, .int .i64 x, .int .i64 b, .int .i64 y] w fun e w' => e = .returned (.bool false) ∧ w = w')) (h2 : ∀ w, Hid (Calls Try.prog 17 #[.int .i64 b, .int .i64 y, .int .i64 a, .int .i64 x] w fun e w' => e = .returned (.bool true) ∧ w = w')) (h3 : ∀ w, Hid (Calls Try.prog 17 #[.int .i64 b, .int .i64 y, .int .i64 c, .int .i64 z] w fun e w' => e = .returned (.bool false) ∧ w = w')) (h4 : ∀ w, Hid (Calls Try.prog 17 #[.int .i64 a, .int .i64 x, .int .i64 c, .int .i64 z] w fun e w' => e = .returned (.bool false) ∧ w = w')) (h5 : ∀ w, Hid (Calls Try.prog 17 #[.int .i64 a, .int .i64 x, .int .i64 a, .int .i64 x] w fun e w' => e = .returned (.bool false) ∧ w = w')) :
    Calls Try.prog 3 #[.int .i64 a, .int .i64 b, .int .i64 c, .int .i64 x, .int .i64 y, .int .i64 z] w fun e w' => e = .returned (.bool true) ∧ Below w.heap.size w w' := by
  go_enter Try.func3, Try.ntmps3
  go_wp2_with fail
  refine (h1 _).out.mono ?_
  rintro _ w1 ⟨rfl, rfl⟩
  go_wp2_with fail
  refine (h2 _).out.mono ?_
  rintro _ w2 ⟨rfl, rfl⟩
  go_wp2_with fail
  refine (h3 _).out.mono ?_
  rintro _ w3 ⟨rfl, rfl⟩
  go_wp2_with fail
  refine (h4 _).out.mono ?_
  rintro _ w4 ⟨rfl, rfl⟩
  go_wp2_with fail
  refine (h5 _).out.mono ?_
  rintro _ w5 ⟨rfl, rfl⟩
  go_wp2_with fail
  refine (awake19 _).mono ?_
  rintro _ wz ⟨rfl, hbz⟩
  go_wp2_with fail
  go_ret
  exact ⟨rfl, hbz⟩

set_option maxRecDepth 100000 in
set_option maxHeartbeats 1000000 in
theorem walk_0101 (a b c x y z : Int) (w : World) (h1 : ∀ w, Hid (Calls Try.prog 17 #[.int .i64 a, .int .i64 x, .int .i64 b, .int .i64 y] w fun e w' => e = .returned (.bool false) ∧ w = w')) (h2 : ∀ w, Hid (Calls Try.prog 17 #[.int .i64 b, .int .i64 y, .int .i64 a, .int .i64 x] w fun e w' => e = .returned (.bool true) ∧ w = w')) (h3 : ∀ w, Hid (Calls Try.prog 17 #[.int .i64 b, .int .i64 y, .int .i64 c, .int .i64 z] w fun e w' => e = .returned (.bool false) ∧ w = w')) (h4 : ∀ w, Hid (Calls Try.prog 17 #[.int .i64 a, .int .i64 x, .int .i64 c, .int .i64 z] w fun e w' => e = .returned (.bool true) ∧ w = w')) (h5 : ∀ w, Hid (Calls Try.prog 17 #[.int .i64 a, .int .i64 x, .int .i64 a, .int .i64 x] w fun e w' => e = .returned (.bool false) ∧ w = w')) :
    Calls Try.prog 3 #[.int .i64 a, .int .i64 b, .int .i64 c, .int .i64 x, .int .i64 y, .int .i64 z] w fun e w' => e = .returned (.bool true) ∧ Below w.heap.size w w' := by
  go_enter Try.func3, Try.ntmps3
  go_wp2_with fail
  refine (h1 _).out.mono ?_
  rintro _ w1 ⟨rfl, rfl⟩
  go_wp2_with fail
  refine (h2 _).out.mono ?_
  rintro _ w2 ⟨rfl, rfl⟩
  go_wp2_with fail
  refine (h3 _).out.mono ?_
  rintro _ w3 ⟨rfl, rfl⟩
  go_wp2_with fail
  refine (h4 _).out.mono ?_
  rintro _ w4 ⟨rfl, rfl⟩
  go_wp2_with fail
  refine (h5 _).out.mono ?_
  rintro _ w5 ⟨rfl, rfl⟩
  go_wp2_with fail
  refine (awake19 _).mono ?_
  rintro _ wz ⟨rfl, hbz⟩
  go_wp2_with fail
  go_ret
  exact ⟨rfl, hbz⟩

set_option maxRecDepth 100000 in
set_option maxHeartbeats 1000000 in
theorem walk_0110 (a b c x y z : Int) (w : World) (h1 : ∀ w, Hid (Calls Try.prog 17 #[.int .i64 a, .int .i64 x, .int .i64 b, .int .i64 y] w fun e w' => e = .returned (.bool false) ∧ w = w')) (h2 : ∀ w, Hid (Calls Try.prog 17 #[.int .i64 b, .int .i64 y, .int .i64 a, .int .i64 x] w fun e w' => e = .returned (.bool true) ∧ w = w')) (h3 : ∀ w, Hid (Calls Try.prog 17 #[.int .i64 b, .int .i64 y, .int .i64 c, .int .i64 z] w fun e w' => e = .returned (.bool true) ∧ w = w')) (h4 : ∀ w, Hid (Calls Try.prog 17 #[.int .i64 a, .int .i64 x, .int .i64 c, .int .i64 z] w fun e w' => e = .returned (.bool false) ∧ w = w')) (h5 : ∀ w, Hid (Calls Try.prog 17 #[.int .i64 a, .int .i64 x, .int .i64 a, .int .i64 x] w fun e w' => e = .returned (.bool false) ∧ w = w')) :
    Calls Try.prog 3 #[.int .i64 a, .int .i64 b, .int .i64 c, .int .i64 x, .int .i64 y, .int .i64 z] w fun e w' => e = .returned (.bool true) ∧ Below w.heap.size w w' := by
  go_enter Try.func3, Try.ntmps3
  go_wp2_with fail
  refine (h1 _).out.mono ?_
  rintro _ w1 ⟨rfl, rfl⟩
  go_wp2_with fail
  refine (h2 _).out.mono ?_
  rintro _ w2 ⟨rfl, rfl⟩
  go_wp2_with fail
  refine (h3 _).out.mono ?_
  rintro _ w3 ⟨rfl, rfl⟩
  go_wp2_with fail
  refine (h4 _).out.mono ?_
  rintro _ w4 ⟨rfl, rfl⟩
  go_wp2_with fail
  refine (h5 _).out.mono ?_
  rintro _ w5 ⟨rfl, rfl⟩
  go_wp2_with fail
  refine (awake19 _).mono ?_
  rintro _ wz ⟨rfl, hbz⟩
  go_wp2_with fail
  go_ret
  exact ⟨rfl, hbz⟩

set_option maxRecDepth 100000 in
set_option maxHeartbeats 1000000 in
theorem walk_0111 (a b c x y z : Int) (w : World) (h1 : ∀ w, Hid (Calls Try.prog 17 #[.int .i64 a, .int .i64 x, .int .i64 b, .int .i64 y] w fun e w' => e = .returned (.bool false) ∧ w = w')) (h2 : ∀ w, Hid (Calls Try.prog 17 #[.int .i64 b, .int .i64 y, .int .i64 a, .int .i64 x] w fun e w' => e = .returned (.bool true) ∧ w = w')) (h3 : ∀ w, Hid (Calls Try.prog 17 #[.int .i64 b, .int .i64 y, .int .i64 c, .int .i64 z] w fun e w' => e = .returned (.bool true) ∧ w = w')) (h4 : ∀ w, Hid (Calls Try.prog 17 #[.int .i64 a, .int .i64 x, .int .i64 c, .int .i64 z] w fun e w' => e = .returned (.bool true) ∧ w = w')) (h5 : ∀ w, Hid (Calls Try.prog 17 #[.int .i64 a, .int .i64 x, .int .i64 a, .int .i64 x] w fun e w' => e = .returned (.bool false) ∧ w = w')) :
    Calls Try.prog 3 #[.int .i64 a, .int .i64 b, .int .i64 c, .int .i64 x, .int .i64 y, .int .i64 z] w fun e w' => e = .returned (.bool true) ∧ Below w.heap.size w w' := by
  go_enter Try.func3, Try.ntmps3
  go_wp2_with fail
  refine (h1 _).out.mono ?_
  rintro _ w1 ⟨rfl, rfl⟩
  go_wp2_with fail
  refine (h2 _).out.mono ?_
  rintro _ w2 ⟨rfl, rfl⟩
  go_wp2_with fail
  refine (h3 _).out.mono ?_
  rintro _ w3 ⟨rfl, rfl⟩
  go_wp2_with fail
  refine (h4 _).out.mono ?_
  rintro _ w4 ⟨rfl, rfl⟩
  go_wp2_with fail
  refine (h5 _).out.mono ?_
  rintro _ w5 ⟨rfl, rfl⟩
  go_wp2_with fail
  refine (awake19 _).mono ?_
  rintro _ wz ⟨rfl, hbz⟩
  go_wp2_with fail
  go_ret
  exact ⟨rfl, hbz⟩

set_option maxRecDepth 100000 in
set_option maxHeartbeats 1000000 in
theorem walk_1000 (a b c x y z : Int) (w : World) (h1 : ∀ w, Hid (Calls Try.prog 17 #[.int .i64 a, .int .i64 x, .int .i64 b, .int .i64 y] w fun e w' => e = .returned (.bool true) ∧ w = w')) (h2 : ∀ w, Hid (Calls Try.prog 17 #[.int .i64 b, .int .i64 y, .int .i64 a, .int .i64 x] w fun e w' => e = .returned (.bool false) ∧ w = w')) (h3 : ∀ w, Hid (Calls Try.prog 17 #[.int .i64 b, .int .i64 y, .int .i64 c, .int .i64 z] w fun e w' => e = .returned (.bool false) ∧ w = w')) (h4 : ∀ w, Hid (Calls Try.prog 17 #[.int .i64 a, .int .i64 x, .int .i64 c, .int .i64 z] w fun e w' => e = .returned (.bool false) ∧ w = w')) (h5 : ∀ w, Hid (Calls Try.prog 17 #[.int .i64 a, .int .i64 x, .int .i64 a, .int .i64 x] w fun e w' => e = .returned (.bool false) ∧ w = w')) :
    Calls Try.prog 3 #[.int .i64 a, .int .i64 b, .int .i64 c, .int .i64 x, .int .i64 y, .int .i64 z] w fun e w' => e = .returned (.bool true) ∧ Below w.heap.size w w' := by
  go_enter Try.func3, Try.ntmps3
  go_wp2_with fail
  refine (h1 _).out.mono ?_
  rintro _ w1 ⟨rfl, rfl⟩
  go_wp2_with fail
  refine (h2 _).out.mono ?_
  rintro _ w2 ⟨rfl, rfl⟩
  go_wp2_with fail
  refine (h3 _).out.mono ?_
  rintro _ w3 ⟨rfl, rfl⟩
  go_wp2_with fail
  refine (h4 _).out.mono ?_
  rintro _ w4 ⟨rfl, rfl⟩
  go_wp2_with fail
  refine (h5 _).out.mono ?_
  rintro _ w5 ⟨rfl, rfl⟩
  go_wp2_with fail
  refine (awake19 _).mono ?_
  rintro _ wz ⟨rfl, hbz⟩
  go_wp2_with fail
  go_ret
  exact ⟨rfl, hbz⟩

set_option maxRecDepth 100000 in
set_option maxHeartbeats 1000000 in
theorem walk_1001 (a b c x y z : Int) (w : World) (h1 : ∀ w, Hid (Calls Try.prog 17 #[.int .i64 a, .int .i64 x, .int .i64 b, .int .i64 y] w fun e w' => e = .returned (.bool true) ∧ w = w')) (h2 : ∀ w, Hid (Calls Try.prog 17 #[.int .i64 b, .int .i64 y, .int .i64 a, .int .i64 x] w fun e w' => e = .returned (.bool false) ∧ w = w')) (h3 : ∀ w, Hid (Calls Try.prog 17 #[.int .i64 b, .int .i64 y, .int .i64 c, .int .i64 z] w fun e w' => e = .returned (.bool false) ∧ w = w')) (h4 : ∀ w, Hid (Calls Try.prog 17 #[.int .i64 a, .int .i64 x, .int .i64 c, .int .i64 z] w fun e w' => e = .returned (.bool true) ∧ w = w')) (h5 : ∀ w, Hid (Calls Try.prog 17 #[.int .i64 a, .int .i64 x, .int .i64 a, .int .i64 x] w fun e w' => e = .returned (.bool false) ∧ w = w')) :
    Calls Try.prog 3 #[.int .i64 a, .int .i64 b, .int .i64 c, .int .i64 x, .int .i64 y, .int .i64 z] w fun e w' => e = .returned (.bool true) ∧ Below w.heap.size w w' := by
  go_enter Try.func3, Try.ntmps3
  go_wp2_with fail
  refine (h1 _).out.mono ?_
  rintro _ w1 ⟨rfl, rfl⟩
  go_wp2_with fail
  refine (h2 _).out.mono ?_
  rintro _ w2 ⟨rfl, rfl⟩
  go_wp2_with fail
  refine (h3 _).out.mono ?_
  rintro _ w3 ⟨rfl, rfl⟩
  go_wp2_with fail
  refine (h4 _).out.mono ?_
  rintro _ w4 ⟨rfl, rfl⟩
  go_wp2_with fail
  refine (h5 _).out.mono ?_
  rintro _ w5 ⟨rfl, rfl⟩
  go_wp2_with fail
  refine (awake19 _).mono ?_
  rintro _ wz ⟨rfl, hbz⟩
  go_wp2_with fail
  go_ret
  exact ⟨rfl, hbz⟩

set_option maxRecDepth 100000 in
set_option maxHeartbeats 1000000 in
theorem walk_1011 (a b c x y z : Int) (w : World) (h1 : ∀ w, Hid (Calls Try.prog 17 #[.int .i64 a, .int .i64 x, .int .i64 b, .int .i64 y] w fun e w' => e = .returned (.bool true) ∧ w = w')) (h2 : ∀ w, Hid (Calls Try.prog 17 #[.int .i64 b, .int .i64 y, .int .i64 a, .int .i64 x] w fun e w' => e = .returned (.bool false) ∧ w = w')) (h3 : ∀ w, Hid (Calls Try.prog 17 #[.int .i64 b, .int .i64 y, .int .i64 c, .int .i64 z] w fun e w' => e = .returned (.bool true) ∧ w = w')) (h4 : ∀ w, Hid (Calls Try.prog 17 #[.int .i64 a, .int .i64 x, .int .i64 c, .int .i64 z] w fun e w' => e = .returned (.bool true) ∧ w = w')) (h5 : ∀ w, Hid (Calls Try.prog 17 #[.int .i64 a, .int .i64 x, .int .i64 a, .int .i64 x] w fun e w' => e = .returned (.bool false) ∧ w = w')) :
    Calls Try.prog 3 #[.int .i64 a, .int .i64 b, .int .i64 c, .int .i64 x, .int .i64 y, .int .i64 z] w fun e w' => e = .returned (.bool true) ∧ Below w.heap.size w w' := by
  go_enter Try.func3, Try.ntmps3
  go_wp2_with fail
  refine (h1 _).out.mono ?_
  rintro _ w1 ⟨rfl, rfl⟩
  go_wp2_with fail
  refine (h2 _).out.mono ?_
  rintro _ w2 ⟨rfl, rfl⟩
  go_wp2_with fail
  refine (h3 _).out.mono ?_
  rintro _ w3 ⟨rfl, rfl⟩
  go_wp2_with fail
  refine (h4 _).out.mono ?_
  rintro _ w4 ⟨rfl, rfl⟩
  go_wp2_with fail
  refine (h5 _).out.mono ?_
  rintro _ w5 ⟨rfl, rfl⟩
  go_wp2_with fail
  refine (awake19 _).mono ?_
  rintro _ wz ⟨rfl, hbz⟩
  go_wp2_with fail
  go_ret
  exact ⟨rfl, hbz⟩

theorem walk (a b c x y z : Int) (w : World) (_ha : (Lit.int .i64 a).wf = true) (_hb : (Lit.int .i64 b).wf = true) (_hc : (Lit.int .i64 c).wf = true) (_hx : (Lit.int .i64 x).wf = true) (_hy : (Lit.int .i64 y).wf = true) (_hz : (Lit.int .i64 z).wf = true) :
    Calls Try.prog 3 #[.int .i64 a, .int .i64 b, .int .i64 c, .int .i64 x, .int .i64 y, .int .i64 z] w fun e w' => e = .returned (.bool true) ∧ Below w.heap.size w w' := by
  have h1 := fun w => Lib.hid (better_any a x b y w)
  have h2 := fun w => Lib.hid (better_any b y a x w)
  have h3 := fun w => Lib.hid (better_any b y c z w)
  have h4 := fun w => Lib.hid (better_any a x c z w)
  have h5 := fun w => Lib.hid (better_any a x a x w)
  obtain ⟨f1, f2, f3, f4⟩ := best_facts a b c x y z
  rw [f1] at h5
  cases h_ab : better a x b y <;> cases h_ba : better b y a x <;> cases h_bc : better b y c z <;> cases h_ac : better a x c z <;> rw [h_ab] at h1 f2 f3 f4 <;> rw [h_ba] at h2 f2 f3 <;> rw [h_bc] at h3 f4 <;> rw [h_ac] at h4 f4
  · exact walk_0000 a b c x y z w h1 h2 h3 h4 h5 (bne_eq_false_iff_eq.2 (f3 rfl rfl).1) (bne_eq_false_iff_eq.2 (f3 rfl rfl).2)
  · exact walk_0001 a b c x y z w h1 h2 h3 h4 h5 (bne_eq_false_iff_eq.2 (f3 rfl rfl).1) (bne_eq_false_iff_eq.2 (f3 rfl rfl).2)
  · exact walk_0010 a b c x y z w h1 h2 h3 h4 h5 (bne_eq_false_iff_eq.2 (f3 rfl rfl).1) (bne_eq_false_iff_eq.2 (f3 rfl rfl).2)
  · exact walk_0011 a b c x y z w h1 h2 h3 h4 h5 (bne_eq_false_iff_eq.2 (f3 rfl rfl).1) (bne_eq_false_iff_eq.2 (f3 rfl rfl).2)
  · exact walk_0100 a b c x y z w h1 h2 h3 h4 h5
  · exact walk_0101 a b c x y z w h1 h2 h3 h4 h5
  · exact walk_0110 a b c x y z w h1 h2 h3 h4 h5
  · exact walk_0111 a b c x y z w h1 h2 h3 h4 h5
  · exact walk_1000 a b c x y z w h1 h2 h3 h4 h5
  · exact walk_1001 a b c x y z w h1 h2 h3 h4 h5
  · exact absurd (f4 rfl rfl) (by decide)
  · exact walk_1011 a b c x y z w h1 h2 h3 h4 h5
  · exact absurd ⟨rfl, rfl⟩ f2
  · exact absurd ⟨rfl, rfl⟩ f2
  · exact absurd ⟨rfl, rfl⟩ f2
  · exact absurd ⟨rfl, rfl⟩ f2

set_option maxRecDepth 100000 in
theorem lifted (os : Os) (started : os.Started) (H : Type) (enc : TypeId × Value → H) :
    ReturnsInHanded {} Try.checked os 3 .any (Rows.storeBestSpec.pre6 enc Try.prog Try.f3 Rows.storeBestRow.domain false) (Rows.storeBestSpec.post enc Try.prog Try.f3 false true false false) := by
  refine returnsInHanded_of_change (C := Try.checked) own started (by kernel_rfl) Try.func3
    (ChangeSpec.witness6 (enc := enc) (C := Try.checked) false ⟨#[], #[.int .i64 0, .int .i64 0, .int .i64 0, .int .i64 0, .int .i64 0, .int .i64 0], []⟩ 8 (by kernel_rfl) (by kernel_rfl) (by kernel_rfl) (by kernel_rfl)) ?_
  intro W base args ds gs before hval0 hW hcnd _
  have hval : ∀ (j : Nat) t v, Try.f3.params[j]? = some t → args[j]? = some v → Value.okWide Try.prog W .any base t v := hval0
  have hW' := hW
  obtain ⟨p, q, hA0, hV, rfl, hfz, hnd⟩ := hW
  have hA : DataW.TrodAll enc Try.prog W 0 (fun _ => true) true Try.f3.params.toList args.toList ds p := hA0
  rw [Try.params3] at hA hval
  obtain ⟨v0, vs0, d0, ds0, p0, q0, hargs, rfl, rfl, h0, r0⟩ := trodAll_cons hA
  obtain ⟨v1, vs1, d1, ds1, p1, q1, rfl, rfl, rfl, h1, r1⟩ := trodAll_cons r0
  obtain ⟨v2, vs2, d2, ds2, p2, q2, rfl, rfl, rfl, h2, r2⟩ := trodAll_cons r1
  obtain ⟨v3, vs3, d3, ds3, p3, q3, rfl, rfl, rfl, h3, r3⟩ := trodAll_cons r2
  obtain ⟨v4, vs4, d4, ds4, p4, q4, rfl, rfl, rfl, h4, r4⟩ := trodAll_cons r3
  obtain ⟨v5, vs5, d5, ds5, p5, q5, rfl, rfl, rfl, h5, r5⟩ := trodAll_cons r4
  obtain ⟨rfl, rfl, rfl⟩ := trodAll_nil r5
  obtain rfl : args = #[v0, v1, v2, v3, v4, v5] := by cases args; simp_all
  obtain ⟨rfl, rfl⟩ := trodVars_none hV
  obtain ⟨x0, rfl, rfl, rfl, wx0⟩ := open_int Try.underlying3 (hval 0 3 v0 rfl rfl) h0
  obtain ⟨x1, rfl, rfl, rfl, wx1⟩ := open_int Try.underlying3 (hval 1 3 v1 rfl rfl) h1
  obtain ⟨x2, rfl, rfl, rfl, wx2⟩ := open_int Try.underlying3 (hval 2 3 v2 rfl rfl) h2
  obtain ⟨x3, rfl, rfl, rfl, wx3⟩ := open_int Try.underlying3 (hval 3 3 v3 rfl rfl) h3
  obtain ⟨x4, rfl, rfl, rfl, wx4⟩ := open_int Try.underlying3 (hval 4 3 v4 rfl rfl) h4
  obtain ⟨x5, rfl, rfl, rfl, wx5⟩ := open_int Try.underlying3 (hval 5 3 v5 rfl rfl) h5
  clear hA0 hval0
  refine (walk x0 x1 x2 x3 x4 x5 W wx0 wx1 wx2 wx3 wx4 wx5).mono fun e W' ⟨he, bel⟩ => ?_
  subst he
  exact ⟨_, rfl, _, _, _, [], _, [], hW', trodAll_mk1 (shut_bool Try.underlying4 _), (trodAll_cons_mk (shut_int Try.underlying3 wx0) (trodAll_cons_mk (shut_int Try.underlying3 wx1) (trodAll_cons_mk (shut_int Try.underlying3 wx2) (trodAll_cons_mk (shut_int Try.underlying3 wx3) (trodAll_cons_mk (shut_int Try.underlying3 wx4) (trodAll_cons_mk (shut_int Try.underlying3 wx5) trodAll_mk0)))))), rfl, bel.frame _, fun h => by cases h⟩

theorem closed : joinedFacts Try.prog 3 Try.f3 Rows.storeBestSpec Rows.storeBestRow = true := by
  have h1 := mayEnter_fact
  have h2 : (Rows.storeBestRow.lifted == Try.prog.liftsFinal) = true := by rw [lifts_fact]; rfl
  have h3 : (Try.prog.make == some Rows.storeBestRow.make) = true := by rw [make_fact]; rfl
  have hfin : ∀ b : Bool, b = true → b = true := fun _ h => h
  unfold joinedFacts
  rw [h1, h2, h3]
  clear h1 h2 h3
  refine hfin _ ?_
  kernel_rfl

theorem over : Rows.storeBestRow.holds Try.pinned (OpenSpec.ofChange Rows.storeBestSpec) :=
  OpenClaim.holds_of_wide 3 Try.f3 rfl rfl rfl rfl rfl rfl rfl ⟨rfl, rfl, rfl, rfl, rfl⟩ rfl rfl rfl rfl rfl (by kernel_rfl) Try.func3 closed
    (of_decide_eq_true (by kernel_rfl)) (by unfold Func.isWrapper; first | (rw [if_pos (by decide +kernel)]; kernel_rfl) | (rw [if_neg (by decide +kernel)]; exact ⟨rfl, rfl⟩))
    (fun os started H enc _ => lifted os started H enc)

/-- The statement. -/
theorem proved : Rows.StoreBestSaid := over
#print axioms proved

end Go.Proofs.Ytlehianbdamgmaa.StoreBestP
