/- LockZero: monitors that nobody made answer nothing. -/
import Derived.Test.YtpfgdgelnehjpaaLockZ
import Derived.Test.YtpfgdgelnehjpaaHead
import Derived.Test.YtpfgdgelnehjpaaOpenG
import Derived.Deep.RegionHeld3
import Derived.Lib.SmallJoins
import Derived.ProofKit
import Derived.OpenShut
import Derived.ShutString
import Derived.ChangeOld
import Derived.Laws.StructEq
namespace Go.Proofs.Ytpfgdgelnehjpaa.LockZeroP
open Go.ChangeShapes Go.WideShapes Go.ChangeAt Go.RowKit
open Go.ChangeMaps (open_string shut_string)
set_option linter.unusedVariables false

theorem own : ownKnob Try.prog.godebug = none := by kernel_rfl
theorem laidOut : laidOutB Try.prog = true := by kernel_rfl
theorem bnext {a b c : World} (h : Below a.heap.size a b) (k : Below b.heap.size b c) : Below a.heap.size a c := h.trans (k.mono h.size)

set_option maxRecDepth 100000 in
set_option maxHeartbeats 1000000 in
theorem walk (r t : Int) (w : World) (_hr : (Lit.int .i64 r).wf = true) (_ht : (Lit.int .i64 t).wf = true) : Calls Try.prog 11 #[.int .i64 r, .int .i64 t] w fun e w' => e = .returned (.bool true) ∧ Below w.heap.size w w' := by
  have hb := b0 w (.cells #[.map none] 89)
  have h : (w.alloc (.cells #[.map none] 89)).cell? ⟨w.heap.size, 0, none⟩ = some (.map none) := (Blk.new w 89 #[.map none]).cell 0
  go_enter Try.func11, Try.ntmps11
  go_wp2_with fail
  refine (enter_nil r t _).mono ?_
  rintro _ v0 ⟨rfl, hv⟩
  replace hb := bn hb hv
  replace h := old2 h hv
  clear hv
  go_wp2_with fail
  refine (tell_zero _ r t _ h).mono ?_
  rintro _ v1 ⟨rfl, hv⟩
  replace hb := bn hb hv
  replace h := old2 h hv
  clear hv
  go_wp2_with fail
  refine (back_nil r t _).mono ?_
  rintro _ v2 ⟨rfl, hv⟩
  replace hb := bn hb hv
  replace h := old2 h hv
  clear hv
  go_wp2_with fail
  refine (owner_zero _ r _ h).mono ?_
  rintro _ v3 ⟨rfl, hv⟩
  replace hb := bn hb hv
  replace h := old2 h hv
  clear hv
  go_wp2_with fail
  refine (exit_nil r t _).mono ?_
  rintro _ v4 ⟨rfl, hv⟩
  replace hb := bn hb hv
  replace h := old2 h hv
  clear hv
  go_wp2_with fail
  refine (wait_zero _ r t _ h).mono ?_
  rintro _ v5 ⟨rfl, hv⟩
  replace hb := bn hb hv
  replace h := old2 h hv
  clear hv
  go_wp2_with fail
  refine (waits_nil r _).mono ?_
  rintro _ v6 ⟨rfl, hv⟩
  replace hb := bn hb hv
  replace h := old2 h hv
  clear hv
  go_wp2_with fail
  refine (free_zero _ r t _ h).mono ?_
  rintro _ v7 ⟨rfl, hv⟩
  replace hb := bn hb hv
  replace h := old2 h hv
  clear hv
  go_wp2_with fail
  refine (copy_nil _).mono ?_
  rintro _ v8 ⟨rfl, hv⟩
  replace hb := bn hb hv
  replace h := old2 h hv
  clear hv
  go_wp2_with fail
  go_ret
  exact ⟨rfl, hb⟩

set_option maxRecDepth 100000 in
theorem lifted (os : Os) (started : os.Started) (H : Type) (enc : TypeId × Value → H) :
    ReturnsInHanded {} Try.checked os 11 .any (Rows.lockZeroSpec.pre6 enc Try.prog Try.f11 Rows.lockZeroRow.domain false) (Rows.lockZeroSpec.post enc Try.prog Try.f11 false true false false) := by
  refine returnsInHanded_of_change (C := Try.checked) own started (by kernel_rfl) Try.func11
    (ChangeSpec.witness6 (enc := enc) (C := Try.checked) false ⟨#[], #[.int .i64 0, .int .i64 0], []⟩ 8 (by kernel_rfl) (by kernel_rfl) (by kernel_rfl) (by kernel_rfl)) ?_
  intro W base args ds gs before hval0 hW hcnd _
  have hval : ∀ (j : Nat) t v, Try.f11.params[j]? = some t → args[j]? = some v → Value.okWide Try.prog W .any base t v := hval0
  have hW' := hW
  obtain ⟨p, q, hA0, hV, rfl, hfz, hnd⟩ := hW
  have hA : DataW.TrodAll enc Try.prog W 0 (fun _ => true) true Try.f11.params.toList args.toList ds p := hA0
  rw [Try.params11] at hA hval
  obtain ⟨v0, vs0, d0, ds0, p0, q0, hargs, rfl, rfl, h0, r0⟩ := trodAll_cons hA
  obtain ⟨v1, vs1, d1, ds1, p1, q1, rfl, rfl, rfl, h1, r1⟩ := trodAll_cons r0
  obtain ⟨rfl, rfl, rfl⟩ := trodAll_nil r1
  obtain rfl : args = #[v0, v1] := by cases args; simp_all
  obtain ⟨rfl, rfl⟩ := trodVars_none hV
  obtain ⟨x0, rfl, rfl, rfl, wx0⟩ := open_int Try.underlying3 (hval 0 3 v0 rfl rfl) h0
  obtain ⟨x1, rfl, rfl, rfl, wx1⟩ := open_int Try.underlying3 (hval 1 3 v1 rfl rfl) h1
  clear hA0 hval0
  refine (walk x0 x1 W wx0 wx1).mono fun e W' ⟨he, bel⟩ => ?_
  subst he
  exact ⟨_, rfl, _, _, _, [], _, [], hW', trodAll_mk1 (shut_bool Try.underlying4 _), (trodAll_cons_mk (shut_int Try.underlying3 wx0) (trodAll_cons_mk (shut_int Try.underlying3 wx1) trodAll_mk0)), rfl, bel.frame _, fun h => by cases h⟩

theorem closed : joinedFacts Try.prog 11 Try.f11 Rows.lockZeroSpec Rows.lockZeroRow = true := by
  have h1 := mayEnter_fact
  have h2 : (Rows.lockZeroRow.lifted == Try.prog.liftsFinal) = true := by rw [lifts_fact]; rfl
  have h3 : (Try.prog.make == some Rows.lockZeroRow.make) = true := by rw [make_fact]; rfl
  have hfin : ∀ b : Bool, b = true → b = true := fun _ h => h
  unfold joinedFacts
  rw [h1, h2, h3]
  clear h1 h2 h3
  refine hfin _ ?_
  kernel_rfl

theorem over : Rows.lockZeroRow.holds Try.pinned (OpenSpec.ofChange Rows.lockZeroSpec) :=
  OpenClaim.holds_of_wide 11 Try.f11 rfl rfl rfl rfl rfl rfl rfl ⟨rfl, rfl, rfl, rfl, rfl⟩ rfl rfl rfl rfl rfl (by kernel_rfl) Try.func11 closed
    (of_decide_eq_true (by kernel_rfl)) (by unfold Func.isWrapper; first | (rw [if_pos (by decide +kernel)]; kernel_rfl) | (rw [if_neg (by decide +kernel)]; exact ⟨rfl, rfl⟩))
    (fun os started H enc _ => lifted os started H enc)

/-- The statement. -/
theorem proved : Rows.LockZeroSaid := over
#print axioms proved

end Go.Proofs.Ytpfgdgelnehjpaa.LockZeroP
