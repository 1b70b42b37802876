/- OpsEncodes: for every instruction: the program's bytes of it are the reference's. -/
import Derived.Test.YtcinmgifadmbeaaREnc
import Derived.Test.YtcinmgifadmbeaaHead
import Derived.Test.YtcinmgifadmbeaaOpenG
import Derived.Deep.RegionHeld3
import Derived.Lib.SmallJoins
import Derived.ProofKit
import Derived.OpenShut
import Derived.ShutString
import Derived.ChangeOld
import Derived.Laws.StructEq
namespace Go.Proofs.Ytcinmgifadmbeaa.OpsEncodesP
open Go.ChangeShapes Go.WideShapes Go.ChangeAt Go.RowKit
open Go.ChangeMaps (open_string shut_string)
set_option linter.unusedVariables false

theorem own : ownKnob Try.prog.godebug = none := by kernel_rfl
theorem laidOut : laidOutB Try.prog = true := by kernel_rfl
theorem bnext {a b c : World} (h : Below a.heap.size a b) (k : Below b.heap.size b c) : Below a.heap.size a c := h.trans (k.mono h.size)
theorem in64_wf {n : Int} (h : (Lit.int .i64 n).wf = true) : in64 n := by
  simp only [Lit.wf, Bool.and_eq_true, decide_eq_true_eq] at h
  have h1 : IntKind.i64.min = -9223372036854775808 := by decide
  have h2 : IntKind.i64.max = 9223372036854775807 := by decide
  rw [h1, h2] at h
  unfold in64
  omega
set_option maxRecDepth 100000 in
set_option maxHeartbeats 2000000 in
theorem renc_none (i : Ins) (hC : isC i.op = false) (w : World) :
    Calls Try.prog 23 #[i.val] w (BPost w (encB i) (encC i)) := by
  have gs := fun w => Lib.hid (rshape_any i.op w)
  have hb0 : Below w.heap.size w (w.alloc (.cells #[.int .i64 i.at_, .int .i64 i.op, .int .i64 i.a, .int .i64 i.b, .int .i64 i.size] 28)) := (Below.refl _ _).alloc (Nat.le_refl _) _
  have ec : encC i = 60 := by unfold encC; rw [if_pos hC]
  have eb : encB i = [] := by unfold encB; rw [ec]; rfl
  rw [hC] at gs
  rw [ec, eb]
  clear ec eb hC
  unfold Ins.val
  go_enter Try.func23, Try.ntmps23
  go_wp2_with fail
  refine (gs _).out.mono ?_
  rintro _ w1 ⟨rfl, hb1⟩
  go_wp2_with fail
  refine bodyPost_ret (v := .tuple #[.slice none 0 0, .int .i64 60]) (by simp [results, Try.results23, go_sem]) rfl ⟨none, 0, rfl, OwnB.nil _ _, bnext hb0 hb1⟩
theorem renc_any (i : Ins) (hi : i.In) (w : World) : Calls Try.prog 23 #[i.val] w (BPost w (encB i) (encC i)) := by
  cases hC : isC i.op with
  | false => exact renc_none i hC w
  | true =>
    rcases sh_some hC with h | h | h | h | h | h | h
    · exact renc_45 i hi hC h w
    · exact renc_98 i hi hC h w
    · exact renc_117 i hi hC h w
    · exact renc_99 i hi hC h w
    · exact renc_115 i hi hC h w
    · exact renc_116 i hi hC h w
    · exact renc_105 i hi hC h w

set_option maxRecDepth 100000 in
set_option maxHeartbeats 2000000 in
theorem walk (i : Ins) (w : World) (hi : i.In) :
    Calls Try.prog 6 #[i.val] w fun e w' => e = .returned (.bool true) ∧ Below w.heap.size w w' := by
  have h1 := fun w => Lib.hid (enc_any i hi w)
  have h2 := fun w => Lib.hid (renc_any i hi w)
  have gaw := fun w => Lib.hid (awake06 w)
  have hI := Blk.new w 28 #[.int .i64 i.at_, .int .i64 i.op, .int .i64 i.a, .int .i64 i.b, .int .i64 i.size]
  have hb0 : Below w.heap.size w (w.alloc (.cells #[.int .i64 i.at_, .int .i64 i.op, .int .i64 i.a, .int .i64 i.b, .int .i64 i.size] 28)) := (Below.refl _ _).alloc (Nat.le_refl _) _
  generalize encB i = bs at *
  generalize encC i = code at *
  unfold Ins.val at *
  clear hi
  go_enter Try.func6, Try.ntmps6
  go_wp2_with fail
  generalize w.alloc (.cells #[.int .i64 i.at_, .int .i64 i.op, .int .i64 i.a, .int .i64 i.b, .int .i64 i.size] 28) = W at *
  refine (h1 _).out.mono ?_
  rintro _ w1 ⟨A1, c1, rfl, hO1, hb1⟩
  have hI1 := hI.below hb1 hI.lt
  have hB1 := bnext hb0 hb1
  have d0 : w1.cell? ⟨w.heap.size, 0, none⟩ = some (.int .i64 i.at_) := hI1.cell 0
  have d1 : w1.cell? ⟨w.heap.size, 1, none⟩ = some (.int .i64 i.op) := hI1.cell 1
  have d2 : w1.cell? ⟨w.heap.size, 2, none⟩ = some (.int .i64 i.a) := hI1.cell 2
  have d3 : w1.cell? ⟨w.heap.size, 3, none⟩ = some (.int .i64 i.b) := hI1.cell 3
  have d4 : w1.cell? ⟨w.heap.size, 4, none⟩ = some (.int .i64 i.size) := hI1.cell 4
  go_wp2_with fail
  refine (h2 _).out.mono ?_
  rintro _ w2 ⟨A2, c2, rfl, hO2, hb2⟩
  have hO1' := OwnB.below hO1 hb2
  have t1 := run_text bs.length c1 hO1'.reads rfl
  have t2 := run_text bs.length c2 hO2.reads rfl
  have hB2 := bnext hB1 hb2
  clear d0 d1 d2 d3 d4 hO1 hO2 hO1'
  go_wp2_with fail
  refine (gaw _).out.mono ?_
  rintro _ w3 ⟨rfl, hb3⟩
  go_wp2_with fail
  go_ret
  exact ⟨rfl, bnext hB2 hb3⟩

set_option maxRecDepth 100000 in
theorem lifted (os : Os) (started : os.Started) (H : Type) (enc : TypeId × Value → H) :
    ReturnsInHanded {} Try.checked os 6 .any (Rows.opsEncodesSpec.pre6 enc Try.prog Try.f6 Rows.opsEncodesRow.domain false) (Rows.opsEncodesSpec.post enc Try.prog Try.f6 false true false false) := by
  refine returnsInHanded_of_change (C := Try.checked) own started (by kernel_rfl) Try.func6
    (ChangeSpec.witness6 (enc := enc) (C := Try.checked) false ⟨#[], #[.agg #[.int .i64 0, .int .i64 0, .int .i64 0, .int .i64 0, .int .i64 0]], []⟩ 8 (by kernel_rfl) (by kernel_rfl) (by kernel_rfl) (by kernel_rfl)) ?_
  intro W base args ds gs before hval0 hW hcnd _
  have hval : ∀ (j : Nat) t v, Try.f6.params[j]? = some t → args[j]? = some v → Value.okWide Try.prog W .any base t v := hval0
  have hW' := hW
  obtain ⟨p, q, hA0, hV, rfl, hfz, hnd⟩ := hW
  have hA : DataW.TrodAll enc Try.prog W 0 (fun _ => true) true Try.f6.params.toList args.toList ds p := hA0
  rw [Try.params6] at hA hval
  obtain ⟨v0, vs0, d0, ds0, p0, q0, hargs, rfl, rfl, h0, r0⟩ := trodAll_cons hA
  obtain ⟨rfl, rfl, rfl⟩ := trodAll_nil r0
  obtain rfl : args = #[v0] := by cases args; simp_all
  obtain ⟨rfl, rfl⟩ := trodVars_none hV
  have k0 := h0
  have lt0 : ∀ x ∈ p0, x.block < W.heap.size := by obtain ⟨m, hm⟩ := k0; exact DataW.trod_lt m _ _ _ hm
  obtain ⟨t0, ht0, w0⟩ : ∃ t : Ins, v0 = t.val ∧ t.In := by
    obtain ⟨c0, c1, c2, c3, c4, y0, y1, y2, y3, y4, n, hv, hd, hp, t0, t1, t2, t3, t4⟩ := open_agg5 Try.underlying28 (by kernel_rfl) (by kernel_rfl) (hval 0 28 v0 rfl rfl) h0
    obtain ⟨n0, q0, _, s0⟩ := DataW.trod_int Try.underlying3 t0
    obtain ⟨n1, q1, _, s1⟩ := DataW.trod_int Try.underlying3 t1
    obtain ⟨n2, q2, _, s2⟩ := DataW.trod_int Try.underlying3 t2
    obtain ⟨n3, q3, _, s3⟩ := DataW.trod_int Try.underlying3 t3
    obtain ⟨n4, q4, _, s4⟩ := DataW.trod_int Try.underlying3 t4
    simp only [List.cons.injEq, and_true] at q0 q1 q2 q3 q4
    subst q0 q1 q2 q3 q4
    exact ⟨⟨n0, n1, n2, n3, n4⟩, hv, ⟨in64_wf s0, in64_wf s1, in64_wf s2, in64_wf s3, in64_wf s4⟩⟩
  subst ht0
  clear hA0 hval0
  refine (walk t0 W w0).mono fun e W' ⟨he, bel⟩ => ?_
  subst he
  exact ⟨_, rfl, _, _, _, [], _, [], hW', trodAll_mk1 (shut_bool Try.underlying4 _), (trodAll_cons_mk (Below.trod laidOut (by kernel_rfl) (of_decide_eq_true (by kernel_rfl)) k0 bel lt0) trodAll_mk0), rfl, bel.frame _, fun h => by cases h⟩

theorem closed : joinedFacts Try.prog 6 Try.f6 Rows.opsEncodesSpec Rows.opsEncodesRow = true := by
  have h1 := mayEnter_fact
  have h2 : (Rows.opsEncodesRow.lifted == Try.prog.liftsFinal) = true := by rw [lifts_fact]; rfl
  have h3 : (Try.prog.make == some Rows.opsEncodesRow.make) = true := by rw [make_fact]; rfl
  have hfin : ∀ b : Bool, b = true → b = true := fun _ h => h
  unfold joinedFacts
  rw [h1, h2, h3]
  clear h1 h2 h3
  refine hfin _ ?_
  kernel_rfl

theorem over : Rows.opsEncodesRow.holds Try.pinned (OpenSpec.ofChange Rows.opsEncodesSpec) :=
  OpenClaim.holds_of_wide 6 Try.f6 rfl rfl rfl rfl rfl rfl rfl ⟨rfl, rfl, rfl, rfl, rfl⟩ rfl rfl rfl rfl rfl (by kernel_rfl) Try.func6 closed
    (of_decide_eq_true (by kernel_rfl)) (by unfold Func.isWrapper; first | (rw [if_pos (by decide +kernel)]; kernel_rfl) | (rw [if_neg (by decide +kernel)]; exact ⟨rfl, rfl⟩))
    (fun os started H enc _ => lifted os started H enc)

/-- The statement. -/
theorem proved : Rows.OpsEncodesSaid := over
#print axioms proved

end Go.Proofs.Ytcinmgifadmbeaa.OpsEncodesP
