/- ArithShiftBack: what was shifted to the left and back with its sign, or without one, are the bits that stayed; shifts go by their lowest bits alone. -/
import Derived.Test.YtacnlbbponiamaaArIf
import Derived.Test.YtacnlbbponiamaaHead
import Derived.Test.YtacnlbbponiamaaOpenG
import Derived.Deep.RegionHeld3
import Derived.Lib.SmallJoins
import Derived.ProofKit
import Derived.OpenShut
import Derived.ShutString
import Derived.ChangeOld
import Derived.Laws.StructEq
namespace Go.Proofs.Ytacnlbbponiamaa.ArithShiftBackP
open Go.ChangeShapes Go.WideShapes Go.ChangeAt Go.RowKit
open Go.ChangeMaps (open_string shut_string)
set_option linter.unusedVariables false

theorem own : ownKnob Try.prog.godebug = none := by kernel_rfl
theorem laidOut : laidOutB Try.prog = true := by kernel_rfl
theorem bnext {a b c : World} (h : Below a.heap.size a b) (k : Below b.heap.size b c) : Below a.heap.size a c := h.trans (k.mono h.size)
theorem wf_in32 {n : Int} (h : (Lit.int .i32 n).wf = true) : in32 n := by
  simp only [Lit.wf, Bool.and_eq_true, decide_eq_true_eq] at h
  have h1 : IntKind.i32.min = -2147483648 := by decide
  have h2 : IntKind.i32.max = 2147483647 := by decide
  rw [h1, h2] at h
  unfold in32
  omega
theorem wf_in64 {n : Int} (h : (Lit.int .i64 n).wf = true) : in64 n := by
  simp only [Lit.wf, Bool.and_eq_true, decide_eq_true_eq] at h
  have h1 : IntKind.i64.min = -9223372036854775808 := by decide
  have h2 : IntKind.i64.max = 9223372036854775807 := by decide
  rw [h1, h2] at h
  unfold in64
  omega


theorem xor64 (n : Int) : bits .xor .i32 n 64 % 64 = n % 64 := by
  rw [bits_xor', i32_wrap]
  show wrap32 ((BitVec.ofInt 32 n ^^^ BitVec.ofInt 32 64).toNat : Int) % 64 = n % 64
  rw [BitVec.toNat_xor, show (BitVec.ofInt 32 64).toNat = 64 from rfl, BitVec.toNat_ofInt]
  show wrap32 (((n % 4294967296).toNat ^^^ 64 : Nat) : Int) % 64 = n % 64
  have h : (((n % 4294967296).toNat ^^^ 64) % 64 : Nat) = (n % 4294967296).toNat % 64 := by
    have h1 := Nat.xor_mod_two_pow (a := (n % 4294967296).toNat) (b := 64) (n := 6)
    simpa using h1
  generalize (n % 4294967296).toNat ^^^ 64 = x at *
  generalize hm : (n % 4294967296).toNat = y at *
  have h2 : (y : Int) = n % 4294967296 := by omega
  unfold wrap32
  omega

/-- Shifted to the left and back without a sign: the bits that stayed. -/
theorem pow_split (m : Nat) (hm : m < 64) : (18446744073709551616 : Int) = 2 ^ m * 2 ^ (64 - m) := by
  rw [← Int.pow_add, show m + (64 - m) = 64 from by omega]
  rfl
theorem back (a : Int) (m : Nat) (hm : m < 64) : (wrap64 (a * 2 ^ m) % 18446744073709551616) / 2 ^ m = (a % 18446744073709551616) % 2 ^ (64 - m) := by
  have h1 : wrap64 (a * 2 ^ m) % 18446744073709551616 = a * 2 ^ m % 18446744073709551616 := by
    generalize a * 2 ^ m = x
    unfold wrap64
    omega
  rw [h1, pow_split m hm, Int.mul_comm a, Int.mul_emod_mul_of_pos _ _ (Int.pow_pos (by decide)), Int.mul_ediv_cancel_left _ (Int.ne_of_gt (Int.pow_pos (by decide))),
    Int.emod_emod_of_dvd _ (Int.dvd_mul_left _ _)]
theorem mask_of (m : Nat) (hm : m < 64) : (18446744073709551615 : Int) / 2 ^ m = 2 ^ (64 - m) - 1 := by
  have h := pow_split m hm
  have hp : (0 : Int) < 2 ^ m := Int.pow_pos (by decide)
  have e : (18446744073709551615 : Int) = (2 ^ m - 1) + 2 ^ m * (2 ^ (64 - m) - 1) := by
    rw [Int.mul_sub, ← h]
    omega
  rw [e, Int.add_mul_ediv_left _ _ (Int.ne_of_gt hp), Int.ediv_eq_zero_of_lt (by omega) (by omega), Int.zero_add]
theorem and_mask (x : Int) (m : Nat) (hm : m < 64) (h0 : 0 ≤ x) (h1 : x < 18446744073709551616) : bits .and .u64 x (18446744073709551615 / 2 ^ m) = x % 2 ^ (64 - m) := by
  obtain ⟨X, rfl⟩ := Int.eq_ofNat_of_zero_le h0
  rw [mask_of m hm]
  have e : ((2 : Int) ^ (64 - m) - 1) = ((2 ^ (64 - m) - 1 : Nat) : Int) := by
    have : 1 ≤ 2 ^ (64 - m) := Nat.one_le_two_pow
    rw [Int.ofNat_sub this]
    simp
  have hl : 2 ^ (64 - m) - 1 < 18446744073709551616 := by
    have : 2 ^ (64 - m) ≤ 2 ^ 64 := Nat.pow_le_pow_right (by decide) (by omega)
    omega
  rw [e, bits_and', u64_wrap]
  show ((BitVec.ofInt 64 (X : Int) &&& BitVec.ofInt 64 ((2 ^ (64 - m) - 1 : Nat) : Int)).toNat : Int) % 18446744073709551616 = _
  rw [BitVec.toNat_and, BitVec.ofInt_natCast, BitVec.ofInt_natCast, BitVec.toNat_ofNat, BitVec.toNat_ofNat, Nat.mod_eq_of_lt (show X < 2 ^ 64 by omega), Nat.mod_eq_of_lt (show 2 ^ (64 - m) - 1 < 2 ^ 64 by omega), Nat.and_two_pow_sub_one_eq_mod]
  have h3 : X % 2 ^ (64 - m) ≤ X := Nat.mod_le _ _
  have h4 : ((X % 2 ^ (64 - m) : Nat) : Int) = (X : Int) % 2 ^ (64 - m) := by simp
  rw [← h4]
  generalize X % 2 ^ (64 - m) = z at *
  omega
theorem shr_sign (a : Int) (m : Nat) : decide (a / 2 ^ m < 0) = decide (a < 0) := by
  have hp : (0 : Int) < 2 ^ m := Int.pow_pos (by decide)
  rw [Bool.eq_iff_iff]
  simp only [decide_eq_true_eq]
  constructor
  · intro h
    rcases Int.lt_or_le a 0 with g | g
    · exact g
    · have := Int.ediv_nonneg g (Int.le_of_lt hp)
      omega
  · intro h
    exact Int.ediv_neg_of_neg_of_pos h hp

set_option maxRecDepth 100000 in
set_option maxHeartbeats 1000000 in
theorem walk (a n : Int) (w : World) (ha : (Lit.int .i64 a).wf = true) (hn : (Lit.int .i32 n).wf = true) :
    Calls Try.prog 9 #[.int .i64 a, .int .i32 n] w fun e w' => e = .returned (.bool true) ∧ Below w.heap.size w w' := by
  have h1 := fun w => Lib.hid (shift_any 121 a n w)
  have h2 := fun w => Lib.hid (shift_any 125 (hV 121 a n) n w)
  have h3 := fun w => Lib.hid (shift_any 121 a (bits .xor .i32 n 64) w)
  have h4 := fun w => Lib.hid (shift_any 123 a n w)
  have e3 : hV 121 a (bits .xor .i32 n 64) = hV 121 a n := by
    show wrap64 (a * 2 ^ (bits .xor .i32 n 64 % 64).toNat) = wrap64 (a * 2 ^ (n % 64).toNat)
    rw [xor64]
  rw [e3, show hE 121 = 0 from rfl] at h3
  rw [show hE 121 = 0 from rfl] at h1
  rw [show hE 125 = 0 from rfl] at h2
  rw [show hE 123 = 0 from rfl] at h4
  obtain ⟨m, hm, m0, m1, m2, m3⟩ := by64 n
  have g := wf_in64 ha
  have hmn : m.toNat < 64 := by omega
  have q1 : IntKind.u64.wrap (hV 125 (hV 121 a n) n) = IntKind.u64.wrap a % 2 ^ (64 - m.toNat) := by
    show IntKind.u64.wrap (wrap64 (wrap64 (a * 2 ^ (n % 64).toNat) % 18446744073709551616 / 2 ^ (n % 64).toNat)) = _
    rw [← hm, back a m.toNat hmn, u64_wrap, u64_wrap]
    generalize hk : a % 18446744073709551616 % 2 ^ (64 - m.toNat) = k
    have hp : (0 : Int) < 2 ^ (64 - m.toNat) := Int.pow_pos (by decide)
    have k0 : 0 ≤ k := by rw [← hk]; exact Int.emod_nonneg _ (Int.ne_of_gt hp)
    have k1 : k < 2 ^ (64 - m.toNat) := by rw [← hk]; exact Int.emod_lt_of_pos _ hp
    have k2 : (2 : Int) ^ (64 - m.toNat) ≤ 2 ^ 64 := by
      have h1 : (2 : Nat) ^ (64 - m.toNat) ≤ 2 ^ 64 := Nat.pow_le_pow_right (by decide) (by omega)
      exact_mod_cast h1
    have k3 : (2 : Int) ^ 64 = 18446744073709551616 := rfl
    unfold wrap64
    omega
  have q2 : bits .and .u64 (IntKind.u64.wrap a) (18446744073709551615 / 2 ^ m.toNat) = IntKind.u64.wrap a % 2 ^ (64 - m.toNat) := by
    have h0 : 0 ≤ IntKind.u64.wrap a ∧ IntKind.u64.wrap a < 18446744073709551616 := by rw [u64_wrap]; omega
    exact and_mask _ _ hmn h0.1 h0.2
  generalize IntKind.u64.wrap a % 2 ^ (64 - m.toNat) = q at q1 q2
  have s1 : decide (hV 123 a n < 0) = decide (a < 0) := by
    show decide (a / 2 ^ (n % 64).toNat < 0) = _
    exact shr_sign a _
  obtain ⟨sg, s2⟩ : ∃ sg : Bool, decide (a < 0) = sg := ⟨_, rfl⟩
  rw [s2] at s1
  generalize hV 121 a n = x at *
  generalize hV 125 x n = y at *
  generalize hV 123 a n = z at *
  clear m3 e3 hm g ha hn
  go_enter Try.func9, Try.ntmps9
  go_wp2_with fail
  refine (h1 _).out.mono ?_
  rintro e w1 ⟨rfl, hb1⟩
  go_wp2_with fail
  refine (h2 _).out.mono ?_
  rintro e w2 ⟨rfl, hb2⟩
  go_wp2_with fail
  refine (h3 _).out.mono ?_
  rintro e w3 ⟨rfl, hb3⟩
  go_wp2_with fail
  refine (h4 _).out.mono ?_
  rintro e w4 ⟨rfl, hb4⟩
  go_wp2_with fail
  refine (awake13 _).mono ?_
  rintro e wz ⟨rfl, hbz⟩
  go_wp2_with fail
  go_ret
  exact ⟨rfl, bnext hb1 (bnext hb2 (bnext hb3 (bnext hb4 hbz)))⟩

set_option maxRecDepth 100000 in
theorem lifted (os : Os) (started : os.Started) (H : Type) (enc : TypeId × Value → H) :
    ReturnsInHanded {} Try.checked os 9 .any (Rows.arithShiftBackSpec.pre6 enc Try.prog Try.f9 Rows.arithShiftBackRow.domain false) (Rows.arithShiftBackSpec.post enc Try.prog Try.f9 false true false false) := by
  refine returnsInHanded_of_change (C := Try.checked) own started (by kernel_rfl) Try.func9
    (ChangeSpec.witness6 (enc := enc) (C := Try.checked) false ⟨#[], #[.int .i64 0, .int .i32 0], []⟩ 8 (by kernel_rfl) (by kernel_rfl) (by kernel_rfl) (by kernel_rfl)) ?_
  intro W base args ds gs before hval0 hW hcnd _
  have hval : ∀ (j : Nat) t v, Try.f9.params[j]? = some t → args[j]? = some v → Value.okWide Try.prog W .any base t v := hval0
  have hW' := hW
  obtain ⟨p, q, hA0, hV, rfl, hfz, hnd⟩ := hW
  have hA : DataW.TrodAll enc Try.prog W 0 (fun _ => true) true Try.f9.params.toList args.toList ds p := hA0
  rw [Try.params9] at hA hval
  obtain ⟨v0, vs0, d0, ds0, p0, q0, hargs, rfl, rfl, h0, r0⟩ := trodAll_cons hA
  obtain ⟨v1, vs1, d1, ds1, p1, q1, rfl, rfl, rfl, h1, r1⟩ := trodAll_cons r0
  obtain ⟨rfl, rfl, rfl⟩ := trodAll_nil r1
  obtain rfl : args = #[v0, v1] := by cases args; simp_all
  obtain ⟨rfl, rfl⟩ := trodVars_none hV
  obtain ⟨x0, rfl, rfl, rfl, wx0⟩ := open_int Try.underlying2 (hval 0 2 v0 rfl rfl) h0
  obtain ⟨x1, rfl, rfl, rfl, wx1⟩ := open_int Try.underlying21 (hval 1 21 v1 rfl rfl) h1
  clear hA0 hval0
  refine (walk x0 x1 W wx0 wx1).mono fun e W' ⟨he, bel⟩ => ?_
  subst he
  exact ⟨_, rfl, _, _, _, [], _, [], hW', trodAll_mk1 (shut_bool Try.underlying4 _), (trodAll_cons_mk (shut_int Try.underlying2 wx0) (trodAll_cons_mk (shut_int Try.underlying21 wx1) trodAll_mk0)), rfl, bel.frame _, fun h => by cases h⟩

theorem closed : joinedFacts Try.prog 9 Try.f9 Rows.arithShiftBackSpec Rows.arithShiftBackRow = true := by
  have h1 := mayEnter_fact
  have h2 : (Rows.arithShiftBackRow.lifted == Try.prog.liftsFinal) = true := by rw [lifts_fact]; rfl
  have h3 : (Try.prog.make == some Rows.arithShiftBackRow.make) = true := by rw [make_fact]; rfl
  have hfin : ∀ b : Bool, b = true → b = true := fun _ h => h
  unfold joinedFacts
  rw [h1, h2, h3]
  clear h1 h2 h3
  refine hfin _ ?_
  kernel_rfl

theorem over : Rows.arithShiftBackRow.holds Try.pinned (OpenSpec.ofChange Rows.arithShiftBackSpec) :=
  OpenClaim.holds_of_wide 9 Try.f9 rfl rfl rfl rfl rfl rfl rfl ⟨rfl, rfl, rfl, rfl, rfl⟩ rfl rfl rfl rfl rfl (by kernel_rfl) Try.func9 closed
    (of_decide_eq_true (by kernel_rfl)) (by unfold Func.isWrapper; first | (rw [if_pos (by decide +kernel)]; kernel_rfl) | (rw [if_neg (by decide +kernel)]; exact ⟨rfl, rfl⟩))
    (fun os started H enc _ => lifted os started H enc)

/-- The statement. -/
theorem proved : Rows.ArithShiftBackSaid := over
#print axioms proved

end Go.Proofs.Ytacnlbbponiamaa.ArithShiftBackP
