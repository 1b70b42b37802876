/- StoreChecks: which lists may be logs, which logs are better, and which begin with others, the program and the reference tell alike. -/
import Derived.Test.YtlehianbdamgmaaStoreAw
import Derived.Test.YtlehianbdamgmaaOpenE
import Derived.Test.YtlehianbdamgmaaHead
import Derived.Test.YtlehianbdamgmaaOpenG
import Derived.Deep.RegionHeld3
import Derived.Lib.SmallJoins
import Derived.ProofKit
import Derived.OpenShut
import Derived.ShutString
import Derived.ChangeOld
import Derived.Laws.StructEq
namespace Go.Proofs.Ytlehianbdamgmaa.StoreChecksP
open Go.ChangeShapes Go.WideShapes Go.ChangeAt Go.RowKit
open Go.ChangeMaps (open_string shut_string)
set_option linter.unusedVariables false

theorem own : ownKnob Try.prog.godebug = none := by kernel_rfl
theorem laidOut : laidOutB Try.prog = true := by kernel_rfl
theorem bnext {a b c : World} (h : Below a.heap.size a b) (k : Below b.heap.size b c) : Below a.heap.size a c := h.trans (k.mono h.size)

set_option maxRecDepth 100000 in
set_option maxHeartbeats 1000000 in
theorem walk (A0 : Option Addr) (n0 c0 : Nat) (l0 : List Ent) (A1 : Option Addr) (n1 c1 : Nat) (l1 : List Ent) (v n o m : Int) (w : World) (h0 : l0.length = n0 ∧ n0 ≤ c0 ∧ c0 ≤ maxLen ∧ ReadsE w w.heap.size A0 l0 ∧ ∀ e ∈ l0, e.In) (h1 : l1.length = n1 ∧ n1 ≤ c1 ∧ c1 ≤ maxLen ∧ ReadsE w w.heap.size A1 l1 ∧ ∀ e ∈ l1, e.In)
    (_hv : (Lit.int .i64 v).wf = true) (_hn : (Lit.int .i64 n).wf = true) (_ho : (Lit.int .i64 o).wf = true) (_hm : (Lit.int .i64 m).wf = true) :
    Calls Try.prog 7 #[.slice A0 n0 c0, .slice A1 n1 c1, .int .i64 v, .int .i64 n, .int .i64 o, .int .i64 m] w fun e w' => e = .returned (.bool true) ∧ Below w.heap.size w w' := by
  obtain ⟨rfl, hc0, hm0, hr0, hi0⟩ := h0
  obtain ⟨rfl, hc1, hm1, hr1, hi1⟩ := h1
  have g1 := Lib.hid (scheck_any A0 c0 l0 w hr0 hi0 (Nat.le_trans hc0 hm0))
  have g2 := fun w' (hb : Below w.heap.size w w') => Lib.hid (rscheck_any A0 c0 l0 w' ((hr0.below hb).more hb.size) (Nat.le_trans hc0 hm0))
  have g3 := fun w => Lib.hid (better_any v n o m w)
  have g4 := fun w => Lib.hid (rbetter_any v n o m w)
  have g5 := fun w' (hb : Below w.heap.size w w') => Lib.hid (begins_any A0 A1 c0 c1 l0 l1 w' ((hr0.below hb).more hb.size) ((hr1.below hb).more hb.size) (Nat.le_trans hc0 hm0) (Nat.le_trans hc1 hm1))
  have g6 := fun w' (hb : Below w.heap.size w w') => Lib.hid (rbegins_any A0 A1 c0 c1 l0 l1 w' ((hr0.below hb).more hb.size) ((hr1.below hb).more hb.size) (Nat.le_trans hc0 hm0) (Nat.le_trans hc1 hm1))
  generalize checkL l0 = x at g1 g2
  generalize better v n o m = y at g3 g4
  generalize begins l0 l1 = z at g5 g6
  clear hr0 hr1 hi0 hi1
  go_enter Try.func7, Try.ntmps7
  go_wp2_with fail
  refine (g1).out.mono ?_
  rintro _ w1 ⟨rfl, hb1⟩
  go_wp2_with fail
  refine (g2 _ hb1).out.mono ?_
  rintro _ w2 ⟨rfl, hb2⟩
  go_wp2_with fail
  refine (g3 _).out.mono ?_
  rintro _ w3 ⟨rfl, rfl⟩
  go_wp2_with fail
  refine (g4 _).out.mono ?_
  rintro _ w4 ⟨rfl, rfl⟩
  have hb5 := bnext hb1 hb2
  go_wp2_with fail
  refine (g5 _ hb5).out.mono ?_
  rintro _ w6 ⟨rfl, hb6⟩
  go_wp2_with fail
  refine (g6 _ (bnext hb5 hb6)).out.mono ?_
  rintro _ w7 ⟨rfl, nn, rfl⟩
  go_wp2_with fail
  refine (awake19 _).mono ?_
  rintro _ wz ⟨rfl, hbz⟩
  go_wp2_with fail
  go_ret
  exact ⟨rfl, bnext (below_drewN (bnext hb5 hb6) nn) hbz⟩

set_option maxRecDepth 100000 in
theorem lifted (os : Os) (started : os.Started) (H : Type) (enc : TypeId × Value → H) :
    ReturnsInHanded {} Try.checked os 7 .any (Rows.storeChecksSpec.pre6 enc Try.prog Try.f7 Rows.storeChecksRow.domain false) (Rows.storeChecksSpec.post enc Try.prog Try.f7 false true false false) := by
  refine returnsInHanded_of_change (C := Try.checked) own started (by kernel_rfl) Try.func7
    (ChangeSpec.witness6 (enc := enc) (C := Try.checked) false ⟨#[], #[.slice none 0 0, .slice none 0 0, .int .i64 0, .int .i64 0, .int .i64 0, .int .i64 0], []⟩ 8 (by kernel_rfl) (by kernel_rfl) (by kernel_rfl) (by kernel_rfl)) ?_
  intro W base args ds gs before hval0 hW hcnd _
  have hval : ∀ (j : Nat) t v, Try.f7.params[j]? = some t → args[j]? = some v → Value.okWide Try.prog W .any base t v := hval0
  have hW' := hW
  obtain ⟨p, q, hA0, hV, rfl, hfz, hnd⟩ := hW
  have hA : DataW.TrodAll enc Try.prog W 0 (fun _ => true) true Try.f7.params.toList args.toList ds p := hA0
  rw [Try.params7] at hA hval
  obtain ⟨v0, vs0, d0, ds0, p0, q0, hargs, rfl, rfl, h0, r0⟩ := trodAll_cons hA
  obtain ⟨v1, vs1, d1, ds1, p1, q1, rfl, rfl, rfl, h1, r1⟩ := trodAll_cons r0
  obtain ⟨v2, vs2, d2, ds2, p2, q2, rfl, rfl, rfl, h2, r2⟩ := trodAll_cons r1
  obtain ⟨v3, vs3, d3, ds3, p3, q3, rfl, rfl, rfl, h3, r3⟩ := trodAll_cons r2
  obtain ⟨v4, vs4, d4, ds4, p4, q4, rfl, rfl, rfl, h4, r4⟩ := trodAll_cons r3
  obtain ⟨v5, vs5, d5, ds5, p5, q5, rfl, rfl, rfl, h5, r5⟩ := trodAll_cons r4
  obtain ⟨rfl, rfl, rfl⟩ := trodAll_nil r5
  obtain rfl : args = #[v0, v1, v2, v3, v4, v5] := by cases args; simp_all
  obtain ⟨rfl, rfl⟩ := trodVars_none hV
  obtain ⟨a0, len0, cap0, rfl⟩ := okWide_slice Try.underlying25 (hval 0 25 v0 rfl rfl)
  have k0 := h0
  have lt0 : ∀ x ∈ p0, x.block < W.heap.size := by obtain ⟨m, hm⟩ := k0; exact DataW.trod_lt m _ _ _ hm
  obtain ⟨fuel0, hf0⟩ := h0
  have hg0 : DataW.trod enc Try.prog W 0 (fun _ => true) true fuel0 25 [.slice a0 len0 cap0] = some (d0, p0) := by simpa [Value.cells] using hf0
  obtain ⟨os0, w0⟩ := open_entries hg0
  obtain ⟨a1, len1, cap1, rfl⟩ := okWide_slice Try.underlying25 (hval 1 25 v1 rfl rfl)
  have k1 := h1
  have lt1 : ∀ x ∈ p1, x.block < W.heap.size := by obtain ⟨m, hm⟩ := k1; exact DataW.trod_lt m _ _ _ hm
  obtain ⟨fuel1, hf1⟩ := h1
  have hg1 : DataW.trod enc Try.prog W 0 (fun _ => true) true fuel1 25 [.slice a1 len1 cap1] = some (d1, p1) := by simpa [Value.cells] using hf1
  obtain ⟨os1, w1⟩ := open_entries hg1
  obtain ⟨x2, rfl, rfl, rfl, wx2⟩ := open_int Try.underlying3 (hval 2 3 v2 rfl rfl) h2
  obtain ⟨x3, rfl, rfl, rfl, wx3⟩ := open_int Try.underlying3 (hval 3 3 v3 rfl rfl) h3
  obtain ⟨x4, rfl, rfl, rfl, wx4⟩ := open_int Try.underlying3 (hval 4 3 v4 rfl rfl) h4
  obtain ⟨x5, rfl, rfl, rfl, wx5⟩ := open_int Try.underlying3 (hval 5 3 v5 rfl rfl) h5
  clear hA0 hval0
  refine (walk a0 len0 cap0 os0 a1 len1 cap1 os1 x2 x3 x4 x5 W w0 w1 wx2 wx3 wx4 wx5).mono fun e W' ⟨he, bel⟩ => ?_
  subst he
  exact ⟨_, rfl, _, _, _, [], _, [], hW', trodAll_mk1 (shut_bool Try.underlying4 _), (trodAll_cons_mk (Below.trod laidOut (by kernel_rfl) (of_decide_eq_true (by kernel_rfl)) k0 bel lt0) (trodAll_cons_mk (Below.trod laidOut (by kernel_rfl) (of_decide_eq_true (by kernel_rfl)) k1 bel lt1) (trodAll_cons_mk (shut_int Try.underlying3 wx2) (trodAll_cons_mk (shut_int Try.underlying3 wx3) (trodAll_cons_mk (shut_int Try.underlying3 wx4) (trodAll_cons_mk (shut_int Try.underlying3 wx5) trodAll_mk0)))))), rfl, bel.frame _, fun h => by cases h⟩

theorem closed : joinedFacts Try.prog 7 Try.f7 Rows.storeChecksSpec Rows.storeChecksRow = true := by
  have h1 := mayEnter_fact
  have h2 : (Rows.storeChecksRow.lifted == Try.prog.liftsFinal) = true := by rw [lifts_fact]; rfl
  have h3 : (Try.prog.make == some Rows.storeChecksRow.make) = true := by rw [make_fact]; rfl
  have hfin : ∀ b : Bool, b = true → b = true := fun _ h => h
  unfold joinedFacts
  rw [h1, h2, h3]
  clear h1 h2 h3
  refine hfin _ ?_
  kernel_rfl

theorem over : Rows.storeChecksRow.holds Try.pinned (OpenSpec.ofChange Rows.storeChecksSpec) :=
  OpenClaim.holds_of_wide 7 Try.f7 rfl rfl rfl rfl rfl rfl rfl ⟨rfl, rfl, rfl, rfl, rfl⟩ rfl rfl rfl rfl rfl (by kernel_rfl) Try.func7 closed
    (of_decide_eq_true (by kernel_rfl)) (by unfold Func.isWrapper; first | (rw [if_pos (by decide +kernel)]; kernel_rfl) | (rw [if_neg (by decide +kernel)]; exact ⟨rfl, rfl⟩))
    (fun os started H enc _ => lifted os started H enc)

/-- The statement. -/
theorem proved : Rows.StoreChecksSaid := over
#print axioms proved

end Go.Proofs.Ytlehianbdamgmaa.StoreChecksP
