/- OpsPlain: for every instruction: the program's plain form of it is the reference's. -/
import Derived.Test.YtcinmgifadmbeaaPlainR
import Derived.Test.YtcinmgifadmbeaaHead
import Derived.Test.YtcinmgifadmbeaaOpenG
import Derived.Deep.RegionHeld3
import Derived.Lib.SmallJoins
import Derived.ProofKit
import Derived.OpenShut
import Derived.ShutString
import Derived.ChangeOld
import Derived.Laws.StructEq
namespace Go.Proofs.Ytcinmgifadmbeaa.OpsPlainP
open Go.ChangeShapes Go.WideShapes Go.ChangeAt Go.RowKit
open Go.ChangeMaps (open_string shut_string)
set_option linter.unusedVariables false

theorem own : ownKnob Try.prog.godebug = none := by kernel_rfl
theorem laidOut : laidOutB Try.prog = true := by kernel_rfl

theorem in64_wf {n : Int} (h : (Lit.int .i64 n).wf = true) : in64 n := by
  simp only [Lit.wf, Bool.and_eq_true, decide_eq_true_eq] at h
  have h1 : IntKind.i64.min = -9223372036854775808 := by decide
  have h2 : IntKind.i64.max = 9223372036854775807 := by decide
  rw [h1, h2] at h
  unfold in64
  omega

/-- The instruction's box stands, and what was there stands. -/
def HS (w0 : World) (t : Ins) (w : World) : Prop := Blk w w0.heap.size 28 #[.int .i64 t.at_, .int .i64 t.op, .int .i64 t.a, .int .i64 t.b, .int .i64 t.size] ∧ Below w0.heap.size w0 w
theorem HS.cells {w0 w : World} {t : Ins} (h : HS w0 t w) : w.cell? ⟨w0.heap.size, 0, none⟩ = some (.int .i64 t.at_) ∧ w.cell? ⟨w0.heap.size, 1, none⟩ = some (.int .i64 t.op) ∧ w.cell? ⟨w0.heap.size, 2, none⟩ = some (.int .i64 t.a) ∧ w.cell? ⟨w0.heap.size, 3, none⟩ = some (.int .i64 t.b) ∧ w.cell? ⟨w0.heap.size, 4, none⟩ = some (.int .i64 t.size) ∧ HS w0 t w :=
  ⟨h.1.cell 0, h.1.cell 1, h.1.cell 2, h.1.cell 3, h.1.cell 4, h⟩
theorem HS.next {w0 w w' : World} {t : Ins} (h : HS w0 t w) (hb : Below w.heap.size w w') : HS w0 t w' := ⟨h.1.below hb h.1.lt, h.2.trans (hb.mono h.2.size)⟩

set_option maxRecDepth 100000 in
set_option maxHeartbeats 1000000 in
theorem walk (i : Ins) (w : World) (hi : i.In) :
    Calls Try.prog 4 #[i.val] w fun e w' => e = .returned (.bool true) ∧ Below w.heap.size w w' := by
  have hH0 : HS w i (w.alloc (.cells #[.int .i64 i.at_, .int .i64 i.op, .int .i64 i.a, .int .i64 i.b, .int .i64 i.size] 28)).drew := ⟨Blk.new _ _ _, ((Below.refl _ _).alloc (Nat.le_refl _) _).drew⟩
  have hS0 := hH0.cells
  have h1 := fun w => Lib.hid (plain_any i w hi)
  have h2 := fun w => Lib.hid (rplain_any i w hi)
  generalize plainI i = j at h1 h2
  unfold Ins.val at *
  clear hi
  go_enter Try.func4, Try.ntmps4
  go_wp2_with fail
  go_region_held3 (fun w' => w'.cell? ⟨w.heap.size, 0, none⟩ = some (.int .i64 i.at_) ∧ w'.cell? ⟨w.heap.size, 1, none⟩ = some (.int .i64 i.op) ∧ w'.cell? ⟨w.heap.size, 2, none⟩ = some (.int .i64 i.a) ∧ w'.cell? ⟨w.heap.size, 3, none⟩ = some (.int .i64 i.b) ∧ w'.cell? ⟨w.heap.size, 4, none⟩ = some (.int .i64 i.size) ∧ HS w i w')
    (first | exact hS0 | assumption)
    (first
      | (go_at_call 20; go_split_ands; refine (h1 _).out.mono ?_; rintro e w5 ⟨rfl, hb5⟩; have hH5 := (HS.next (by assumption) hb5).cells)
      | (go_at_call 21; go_split_ands; refine (h2 _).out.mono ?_; rintro e w5 ⟨rfl, hb5⟩; have hH5 := (HS.next (by assumption) hb5).cells)
      | (go_at_call 19; go_split_ands; refine (awake06 _).mono ?_; rintro e w5 ⟨rfl, hb5⟩; have hH5 := (HS.next (by assumption) hb5).cells))
  go_wp2_with fail
  go_ret
  exact ⟨rfl, hH5.2.2.2.2.2.2⟩

set_option maxRecDepth 100000 in
theorem lifted (os : Os) (started : os.Started) (H : Type) (enc : TypeId × Value → H) :
    ReturnsInHanded {} Try.checked os 4 .any (Rows.opsPlainSpec.pre6 enc Try.prog Try.f4 Rows.opsPlainRow.domain false) (Rows.opsPlainSpec.post enc Try.prog Try.f4 false true false false) := by
  refine returnsInHanded_of_change (C := Try.checked) own started (by kernel_rfl) Try.func4
    (ChangeSpec.witness6 (enc := enc) (C := Try.checked) false ⟨#[], #[.agg #[.int .i64 0, .int .i64 0, .int .i64 0, .int .i64 0, .int .i64 0]], []⟩ 8 (by kernel_rfl) (by kernel_rfl) (by kernel_rfl) (by kernel_rfl)) ?_
  intro W base args ds gs before hval0 hW hcnd _
  have hval : ∀ (j : Nat) t v, Try.f4.params[j]? = some t → args[j]? = some v → Value.okWide Try.prog W .any base t v := hval0
  have hW' := hW
  obtain ⟨p, q, hA0, hV, rfl, hfz, hnd⟩ := hW
  have hA : DataW.TrodAll enc Try.prog W 0 (fun _ => true) true Try.f4.params.toList args.toList ds p := hA0
  rw [Try.params4] at hA hval
  obtain ⟨v0, vs0, d0, ds0, p0, q0, hargs, rfl, rfl, h0, r0⟩ := trodAll_cons hA
  obtain ⟨rfl, rfl, rfl⟩ := trodAll_nil r0
  obtain rfl : args = #[v0] := by cases args; simp_all
  obtain ⟨rfl, rfl⟩ := trodVars_none hV
  have k0 := h0
  have lt0 : ∀ x ∈ p0, x.block < W.heap.size := by obtain ⟨m, hm⟩ := k0; exact DataW.trod_lt m _ _ _ hm
  obtain ⟨t0, ht0, w0⟩ : ∃ t : Ins, v0 = t.val ∧ t.In := by
    obtain ⟨c0, c1, c2, c3, c4, y0, y1, y2, y3, y4, n, hv, hd, hp, t0, t1, t2, t3, t4⟩ := open_agg5 Try.underlying28 (by kernel_rfl) (by kernel_rfl) (hval 0 28 v0 rfl rfl) h0
    obtain ⟨n0, q0, _, s0⟩ := DataW.trod_int Try.underlying3 t0
    obtain ⟨n1, q1, _, s1⟩ := DataW.trod_int Try.underlying3 t1
    obtain ⟨n2, q2, _, s2⟩ := DataW.trod_int Try.underlying3 t2
    obtain ⟨n3, q3, _, s3⟩ := DataW.trod_int Try.underlying3 t3
    obtain ⟨n4, q4, _, s4⟩ := DataW.trod_int Try.underlying3 t4
    simp only [List.cons.injEq, and_true] at q0 q1 q2 q3 q4
    subst q0 q1 q2 q3 q4
    exact ⟨⟨n0, n1, n2, n3, n4⟩, hv, ⟨in64_wf s0, in64_wf s1, in64_wf s2, in64_wf s3, in64_wf s4⟩⟩
  subst ht0
  clear hA0 hval0
  refine (walk t0 W w0).mono fun e W' ⟨he, bel⟩ => ?_
  subst he
  exact ⟨_, rfl, _, _, _, [], _, [], hW', trodAll_mk1 (shut_bool Try.underlying4 _), (trodAll_cons_mk (Below.trod laidOut (by kernel_rfl) (of_decide_eq_true (by kernel_rfl)) k0 bel lt0) trodAll_mk0), rfl, bel.frame _, fun h => by cases h⟩

theorem closed : joinedFacts Try.prog 4 Try.f4 Rows.opsPlainSpec Rows.opsPlainRow = true := by
  have h1 := mayEnter_fact
  have h2 : (Rows.opsPlainRow.lifted == Try.prog.liftsFinal) = true := by rw [lifts_fact]; rfl
  have h3 : (Try.prog.make == some Rows.opsPlainRow.make) = true := by rw [make_fact]; rfl
  have hfin : ∀ b : Bool, b = true → b = true := fun _ h => h
  unfold joinedFacts
  rw [h1, h2, h3]
  clear h1 h2 h3
  refine hfin _ ?_
  kernel_rfl

theorem over : Rows.opsPlainRow.holds Try.pinned (OpenSpec.ofChange Rows.opsPlainSpec) :=
  OpenClaim.holds_of_wide 4 Try.f4 rfl rfl rfl rfl rfl rfl rfl ⟨rfl, rfl, rfl, rfl, rfl⟩ rfl rfl rfl rfl rfl (by kernel_rfl) Try.func4 closed
    (of_decide_eq_true (by kernel_rfl)) (by unfold Func.isWrapper; first | (rw [if_pos (by decide +kernel)]; kernel_rfl) | (rw [if_neg (by decide +kernel)]; exact ⟨rfl, rfl⟩))
    (fun os started H enc _ => lifted os started H enc)

/-- The statement. -/
theorem proved : Rows.OpsPlainSaid := over
#print axioms proved
