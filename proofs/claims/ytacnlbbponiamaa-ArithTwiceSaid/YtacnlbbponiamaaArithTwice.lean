/- ArithTwice: a number turned about twice is itself, so is one that another one was put into by exclusive or twice; what was added is taken away again. -/
import Derived.Test.YtacnlbbponiamaaArIf
import Derived.Test.YtacnlbbponiamaaHead
import Derived.Test.YtacnlbbponiamaaOpenG
import Derived.Deep.RegionHeld3
import Derived.Lib.SmallJoins
import Derived.ProofKit
import Derived.OpenShut
import Derived.ShutString
import Derived.ChangeOld
import Derived.Laws.StructEq
namespace Go.Proofs.Ytacnlbbponiamaa.ArithTwiceP
open Go.ChangeShapes Go.WideShapes Go.ChangeAt Go.RowKit
open Go.ChangeMaps (open_string shut_string)
set_option linter.unusedVariables false

theorem own : ownKnob Try.prog.godebug = none := by kernel_rfl
theorem laidOut : laidOutB Try.prog = true := by kernel_rfl
theorem bnext {a b c : World} (h : Below a.heap.size a b) (k : Below b.heap.size b c) : Below a.heap.size a c := h.trans (k.mono h.size)
theorem wf_in32 {n : Int} (h : (Lit.int .i32 n).wf = true) : in32 n := by
  simp only [Lit.wf, Bool.and_eq_true, decide_eq_true_eq] at h
  have h1 : IntKind.i32.min = -2147483648 := by decide
  have h2 : IntKind.i32.max = 2147483647 := by decide
  rw [h1, h2] at h
  unfold in32
  omega
theorem wf_in64 {n : Int} (h : (Lit.int .i64 n).wf = true) : in64 n := by
  simp only [Lit.wf, Bool.and_eq_true, decide_eq_true_eq] at h
  have h1 : IntKind.i64.min = -9223372036854775808 := by decide
  have h2 : IntKind.i64.max = 9223372036854775807 := by decide
  rw [h1, h2] at h
  unfold in64
  omega

set_option maxRecDepth 100000 in
set_option maxHeartbeats 1000000 in
theorem walk (a b c d : Int) (w : World) (ha : (Lit.int .i32 a).wf = true) (hb : (Lit.int .i32 b).wf = true) (hc : (Lit.int .i64 c).wf = true) (hd : (Lit.int .i64 d).wf = true) :
    Calls Try.prog 6 #[.int .i32 a, .int .i32 b, .int .i64 c, .int .i64 d] w fun e w' => e = .returned (.bool true) ∧ Below w.heap.size w w' := by
  have g := wf_in32 ha
  have k := wf_in64 hc
  have e1 : iV 116 (iV 116 a b) b = a := neg_back32 g
  have e2 : iV 130 (iV 130 a b) b = a := xor_back32 b g
  have e3 : iV 100 (iV 96 a b) b = a := sum_back32 b g
  have e4 : lV 131 (lV 131 c d) d = c := xor_back64 d k
  have e5 : lV 101 (lV 97 c d) d = c := sum_back64 d k
  have h1 := fun w => Lib.hid (int_any 116 a b w)
  have h2 := fun w => Lib.hid (int_any 116 (iV 116 a b) b w)
  have h3 := fun w => Lib.hid (int_any 130 a b w)
  have h4 := fun w => Lib.hid (int_any 130 (iV 130 a b) b w)
  have h5 := fun w => Lib.hid (int_any 96 a b w)
  have h6 := fun w => Lib.hid (int_any 100 (iV 96 a b) b w)
  have h7 := fun w => Lib.hid (long_any 131 c d w)
  have h8 := fun w => Lib.hid (long_any 131 (lV 131 c d) d w)
  have h9 := fun w => Lib.hid (long_any 97 c d w)
  have h10 := fun w => Lib.hid (long_any 101 (lV 97 c d) d w)
  rw [e1] at h2
  rw [e2] at h4
  rw [e3] at h6
  rw [e4] at h8
  rw [e5] at h10
  clear e1 e2 e3 e4 e5 g k ha hb hc hd
  generalize iV 116 a b = x1 at h1 h2
  generalize iV 130 a b = x2 at h3 h4
  generalize iV 96 a b = x3 at h5 h6
  generalize lV 131 c d = x4 at h7 h8
  generalize lV 97 c d = x5 at h9 h10
  generalize iE 116 b = y1 at h1 h2
  generalize iE 130 b = y2 at h3 h4
  generalize iE 96 b = y3 at h5
  generalize iE 100 b = y4 at h6
  generalize lE 131 d = y5 at h7 h8
  generalize lE 97 d = y6 at h9
  generalize lE 101 d = y7 at h10
  go_enter Try.func6, Try.ntmps6
  go_wp2_with fail
  refine (h1 _).out.mono ?_
  rintro e w1 ⟨rfl, hb1⟩
  go_wp2_with fail
  refine (h2 _).out.mono ?_
  rintro e w2 ⟨rfl, hb2⟩
  go_wp2_with fail
  refine (h3 _).out.mono ?_
  rintro e w3 ⟨rfl, hb3⟩
  go_wp2_with fail
  refine (h4 _).out.mono ?_
  rintro e w4 ⟨rfl, hb4⟩
  go_wp2_with fail
  refine (h5 _).out.mono ?_
  rintro e w5 ⟨rfl, hb5⟩
  go_wp2_with fail
  refine (h6 _).out.mono ?_
  rintro e w6 ⟨rfl, hb6⟩
  go_wp2_with fail
  refine (h7 _).out.mono ?_
  rintro e w7 ⟨rfl, hb7⟩
  go_wp2_with fail
  refine (h8 _).out.mono ?_
  rintro e w8 ⟨rfl, hb8⟩
  go_wp2_with fail
  refine (h9 _).out.mono ?_
  rintro e w9 ⟨rfl, hb9⟩
  go_wp2_with fail
  refine (h10 _).out.mono ?_
  rintro e w10 ⟨rfl, hb10⟩
  go_wp2_with fail
  refine (awake13 _).mono ?_
  rintro e wz ⟨rfl, hbz⟩
  go_wp2_with fail
  go_ret
  exact ⟨rfl, bnext hb1 (bnext hb2 (bnext hb3 (bnext hb4 (bnext hb5 (bnext hb6 (bnext hb7 (bnext hb8 (bnext hb9 (bnext hb10 hbz)))))))))⟩

set_option maxRecDepth 100000 in
theorem lifted (os : Os) (started : os.Started) (H : Type) (enc : TypeId × Value → H) :
    ReturnsInHanded {} Try.checked os 6 .any (Rows.arithTwiceSpec.pre6 enc Try.prog Try.f6 Rows.arithTwiceRow.domain false) (Rows.arithTwiceSpec.post enc Try.prog Try.f6 false true false false) := by
  refine returnsInHanded_of_change (C := Try.checked) own started (by kernel_rfl) Try.func6
    (ChangeSpec.witness6 (enc := enc) (C := Try.checked) false ⟨#[], #[.int .i32 0, .int .i32 0, .int .i64 0, .int .i64 0], []⟩ 8 (by kernel_rfl) (by kernel_rfl) (by kernel_rfl) (by kernel_rfl)) ?_
  intro W base args ds gs before hval0 hW hcnd _
  have hval : ∀ (j : Nat) t v, Try.f6.params[j]? = some t → args[j]? = some v → Value.okWide Try.prog W .any base t v := hval0
  have hW' := hW
  obtain ⟨p, q, hA0, hV, rfl, hfz, hnd⟩ := hW
  have hA : DataW.TrodAll enc Try.prog W 0 (fun _ => true) true Try.f6.params.toList args.toList ds p := hA0
  rw [Try.params6] at hA hval
  obtain ⟨v0, vs0, d0, ds0, p0, q0, hargs, rfl, rfl, h0, r0⟩ := trodAll_cons hA
  obtain ⟨v1, vs1, d1, ds1, p1, q1, rfl, rfl, rfl, h1, r1⟩ := trodAll_cons r0
  obtain ⟨v2, vs2, d2, ds2, p2, q2, rfl, rfl, rfl, h2, r2⟩ := trodAll_cons r1
  obtain ⟨v3, vs3, d3, ds3, p3, q3, rfl, rfl, rfl, h3, r3⟩ := trodAll_cons r2
  obtain ⟨rfl, rfl, rfl⟩ := trodAll_nil r3
  obtain rfl : args = #[v0, v1, v2, v3] := by cases args; simp_all
  obtain ⟨rfl, rfl⟩ := trodVars_none hV
  obtain ⟨x0, rfl, rfl, rfl, wx0⟩ := open_int Try.underlying21 (hval 0 21 v0 rfl rfl) h0
  obtain ⟨x1, rfl, rfl, rfl, wx1⟩ := open_int Try.underlying21 (hval 1 21 v1 rfl rfl) h1
  obtain ⟨x2, rfl, rfl, rfl, wx2⟩ := open_int Try.underlying2 (hval 2 2 v2 rfl rfl) h2
  obtain ⟨x3, rfl, rfl, rfl, wx3⟩ := open_int Try.underlying2 (hval 3 2 v3 rfl rfl) h3
  clear hA0 hval0
  refine (walk x0 x1 x2 x3 W wx0 wx1 wx2 wx3).mono fun e W' ⟨he, bel⟩ => ?_
  subst he
  exact ⟨_, rfl, _, _, _, [], _, [], hW', trodAll_mk1 (shut_bool Try.underlying4 _), (trodAll_cons_mk (shut_int Try.underlying21 wx0) (trodAll_cons_mk (shut_int Try.underlying21 wx1) (trodAll_cons_mk (shut_int Try.underlying2 wx2) (trodAll_cons_mk (shut_int Try.underlying2 wx3) trodAll_mk0)))), rfl, bel.frame _, fun h => by cases h⟩

theorem closed : joinedFacts Try.prog 6 Try.f6 Rows.arithTwiceSpec Rows.arithTwiceRow = true := by
  have h1 := mayEnter_fact
  have h2 : (Rows.arithTwiceRow.lifted == Try.prog.liftsFinal) = true := by rw [lifts_fact]; rfl
  have h3 : (Try.prog.make == some Rows.arithTwiceRow.make) = true := by rw [make_fact]; rfl
  have hfin : ∀ b : Bool, b = true → b = true := fun _ h => h
  unfold joinedFacts
  rw [h1, h2, h3]
  clear h1 h2 h3
  refine hfin _ ?_
  kernel_rfl

theorem over : Rows.arithTwiceRow.holds Try.pinned (OpenSpec.ofChange Rows.arithTwiceSpec) :=
  OpenClaim.holds_of_wide 6 Try.f6 rfl rfl rfl rfl rfl rfl rfl ⟨rfl, rfl, rfl, rfl, rfl⟩ rfl rfl rfl rfl rfl (by kernel_rfl) Try.func6 closed
    (of_decide_eq_true (by kernel_rfl)) (by unfold Func.isWrapper; first | (rw [if_pos (by decide +kernel)]; kernel_rfl) | (rw [if_neg (by decide +kernel)]; exact ⟨rfl, rfl⟩))
    (fun os started H enc _ => lifted os started H enc)

/-- The statement. -/
theorem proved : Rows.ArithTwiceSaid := over
#print axioms proved

end Go.Proofs.Ytacnlbbponiamaa.ArithTwiceP
