/- PairZero: an end that nobody made answers nothing. -/
import Derived.Test.YtdilccihhelilaaPairZ
import Derived.Test.YtdilccihhelilaaHead
import Derived.Test.YtdilccihhelilaaOpenG
import Derived.Deep.RegionHeld3
import Derived.Lib.SmallJoins
import Derived.ProofKit
import Derived.OpenShut
import Derived.ShutString
import Derived.ChangeOld
import Derived.Laws.StructEq
namespace Go.Proofs.Ytdilccihhelilaa.PairZeroP
open Go.ChangeShapes Go.WideShapes Go.ChangeAt Go.RowKit
open Go.ChangeMaps (open_string shut_string)
set_option linter.unusedVariables false

theorem own : ownKnob Try.prog.godebug = none := by kernel_rfl
theorem laidOut : laidOutB Try.prog = true := by kernel_rfl
theorem bnext {a b c : World} (h : Below a.heap.size a b) (k : Below b.heap.size b c) : Below a.heap.size a c := h.trans (k.mono h.size)

set_option maxRecDepth 100000 in
set_option maxHeartbeats 1000000 in
theorem walk (v : Value) (w : World) : Calls Try.prog 4 #[v] w fun e w' => e = .returned (.bool true) ∧ Below w.heap.size w w' := by
  have hb := b0 w (.cells #[.bool false, .slice none 0 0, .int .i64 0, .int .i64 0, .map none] 47)
  have h : (w.alloc (.cells #[.bool false, .slice none 0 0, .int .i64 0, .int .i64 0, .map none] 47)).cell? ⟨w.heap.size, 0, none⟩ = some (.bool false) := (Blk.new w 47 #[.bool false, .slice none 0 0, .int .i64 0, .int .i64 0, .map none]).cell 0
  go_enter Try.func4, Try.ntmps4
  go_wp2_with fail
  refine (send_nil v _).mono ?_
  rintro _ v0 ⟨rfl, hv⟩
  replace hb := bn hb hv
  replace h := old2 h hv
  clear hv
  go_wp2_with fail
  refine (take_zero _ v _ h).mono ?_
  rintro _ v1 ⟨rfl, hv⟩
  replace hb := bn hb hv
  replace h := old2 h hv
  clear hv
  go_wp2_with fail
  refine (tick_nil _).mono ?_
  rintro _ v2 ⟨rfl, hv⟩
  replace hb := bn hb hv
  replace h := old2 h hv
  clear hv
  go_wp2_with fail
  refine (kept_zero _ _ h).mono ?_
  rintro _ v3 ⟨rfl, hv⟩
  replace hb := bn hb hv
  replace h := old2 h hv
  clear hv
  go_wp2_with fail
  refine (got_nil _).mono ?_
  rintro _ v4 ⟨rfl, hv⟩
  replace hb := bn hb hv
  replace h := old2 h hv
  clear hv
  go_wp2_with fail
  go_ret
  exact ⟨rfl, hb⟩

set_option maxRecDepth 100000 in
theorem lifted (os : Os) (started : os.Started) (H : Type) (enc : TypeId × Value → H) :
    ReturnsInHanded {} Try.checked os 4 .any (Rows.pairZeroSpec.pre6 enc Try.prog Try.f4 Rows.pairZeroRow.domain false) (Rows.pairZeroSpec.post enc Try.prog Try.f4 false true false false) := by
  refine returnsInHanded_of_change (C := Try.checked) own started (by kernel_rfl) Try.func4
    (ChangeSpec.witness6 (enc := enc) (C := Try.checked) false ⟨#[], #[.slice none 0 0], []⟩ 8 (by kernel_rfl) (by kernel_rfl) (by kernel_rfl) (by kernel_rfl)) ?_
  intro W base args ds gs before hval0 hW hcnd _
  have hval : ∀ (j : Nat) t v, Try.f4.params[j]? = some t → args[j]? = some v → Value.okWide Try.prog W .any base t v := hval0
  have hW' := hW
  obtain ⟨p, q, hA0, hV, rfl, hfz, hnd⟩ := hW
  have hA : DataW.TrodAll enc Try.prog W 0 (fun _ => true) true Try.f4.params.toList args.toList ds p := hA0
  rw [Try.params4] at hA hval
  obtain ⟨v0, vs0, d0, ds0, p0, q0, hargs, rfl, rfl, h0, r0⟩ := trodAll_cons hA
  obtain ⟨rfl, rfl, rfl⟩ := trodAll_nil r0
  obtain rfl : args = #[v0] := by cases args; simp_all
  obtain ⟨rfl, rfl⟩ := trodVars_none hV
  have k0 := h0
  have lt0 : ∀ x ∈ p0, x.block < W.heap.size := by obtain ⟨m, hm⟩ := k0; exact DataW.trod_lt m _ _ _ hm
  clear hA0 hval0
  refine (walk v0 W ).mono fun e W' ⟨he, bel⟩ => ?_
  subst he
  exact ⟨_, rfl, _, _, _, [], _, [], hW', trodAll_mk1 (shut_bool Try.underlying4 _), (trodAll_cons_mk (Below.trod laidOut (by kernel_rfl) (of_decide_eq_true (by kernel_rfl)) k0 bel lt0) trodAll_mk0), rfl, bel.frame _, fun h => by cases h⟩

theorem closed : joinedFacts Try.prog 4 Try.f4 Rows.pairZeroSpec Rows.pairZeroRow = true := by
  have h1 := mayEnter_fact
  have h2 : (Rows.pairZeroRow.lifted == Try.prog.liftsFinal) = true := by rw [lifts_fact]; rfl
  have h3 : (Try.prog.make == some Rows.pairZeroRow.make) = true := by rw [make_fact]; rfl
  have hfin : ∀ b : Bool, b = true → b = true := fun _ h => h
  unfold joinedFacts
  rw [h1, h2, h3]
  clear h1 h2 h3
  refine hfin _ ?_
  kernel_rfl

theorem over : Rows.pairZeroRow.holds Try.pinned (OpenSpec.ofChange Rows.pairZeroSpec) :=
  OpenClaim.holds_of_wide 4 Try.f4 rfl rfl rfl rfl rfl rfl rfl ⟨rfl, rfl, rfl, rfl, rfl⟩ rfl rfl rfl rfl rfl (by kernel_rfl) Try.func4 closed
    (of_decide_eq_true (by kernel_rfl)) (by unfold Func.isWrapper; first | (rw [if_pos (by decide +kernel)]; kernel_rfl) | (rw [if_neg (by decide +kernel)]; exact ⟨rfl, rfl⟩))
    (fun os started H enc _ => lifted os started H enc)

/-- The statement. -/
theorem proved : Rows.PairZeroSaid := over
#print axioms proved

end Go.Proofs.Ytdilccihhelilaa.PairZeroP
