/- RecordChecks: for every entry: whether it may be, and its bytes, are the reference's. -/
import Derived.Test.YtlehianbdamgmaaRec
import Derived.Test.YtlehianbdamgmaaQuietS
import Derived.Test.YtlehianbdamgmaaOpenE
import Derived.Test.YtlehianbdamgmaaHead
import Derived.Test.YtlehianbdamgmaaOpenG
import Derived.Deep.RegionHeld3
import Derived.Lib.SmallJoins
import Derived.ProofKit
import Derived.OpenShut
import Derived.ShutString
import Derived.ChangeOld
import Derived.Laws.StructEq
namespace Go.Proofs.Ytlehianbdamgmaa.RecordChecksP
open Go.ChangeShapes Go.WideShapes Go.ChangeAt Go.RowKit
open Go.ChangeMaps (open_string shut_string)
set_option linter.unusedVariables false

theorem own : ownKnob Try.prog.godebug = none := by kernel_rfl
theorem laidOut : laidOutB Try.prog = true := by kernel_rfl
theorem bnext {a b c : World} (h : Below a.heap.size a b) (k : Below b.heap.size b c) : Below a.heap.size a c := h.trans (k.mono h.size)

set_option maxRecDepth 100000 in
set_option maxHeartbeats 2000000 in
theorem walk (e : Ent) (w : World) (hi : e.In) : Calls Try.prog 6 #[e.val] w fun e w' => e = .returned (.bool true) ∧ Below w.heap.size w w' := by
  have hb0 : Below w.heap.size w (w.alloc (.cells #[.int .i64 e.view, .int .i64 e.what, .int .i64 e.a, .int .i64 e.n] 33)) := (Below.refl _ _).alloc (Nat.le_refl _) _
  have hbx : EntAt (w.alloc (.cells #[.int .i64 e.view, .int .i64 e.what, .int .i64 e.a, .int .i64 e.n] 33)) ⟨w.heap.size, 0, none⟩ e := by
    have h := Blk.new w 33 #[.int .i64 e.view, .int .i64 e.what, .int .i64 e.a, .int .i64 e.n]
    exact ⟨h.cell 0, h.cell 1, h.cell 2, h.cell 3⟩
  have hlw : w.heap.size < (w.alloc (.cells #[.int .i64 e.view, .int .i64 e.what, .int .i64 e.a, .int .i64 e.n] 33)).heap.size := by simp
  have g1 := fun w => Lib.hid (encode_any e w hi)
  have g2 := fun w => Lib.hid (rencode_any e w hi)
  have g3 := fun w => Lib.hid (check_any e w hi)
  have g4 := fun w => Lib.hid (rcheck_any e w)
  unfold EPost at g1 g2
  generalize encO e = xs at g1 g2
  generalize e.err = er at g1 g2 g3 g4
  unfold Ent.val at *
  go_enter Try.func6, Try.ntmps6
  go_wp2_with fail
  refine (g1 _).out.mono ?_
  rintro _ w1 ⟨A1, c1, rfl, hr1, hc1, hm1, hb1⟩
  generalize w.alloc (.cells #[.int .i64 e.view, .int .i64 e.what, .int .i64 e.a, .int .i64 e.n] 33) = W at *
  have hbx1 := hbx.keep hb1 hlw
  have s1 := hb1.size
  obtain ⟨a0, a1, a2, a3⟩ := hbx1
  have hbx1 : EntAt w1 ⟨w.heap.size, 0, none⟩ e := ⟨a0, a1, a2, a3⟩
  go_wp2_with fail
  refine (g2 _).out.mono ?_
  rintro _ w2 ⟨A2, c2, rfl, hr2, hc2, hm2, hb2⟩
  have hbx2 := hbx1.keep hb2 (show w.heap.size < w1.heap.size by omega)
  have s2 := hb2.size
  have hlt2 : w.heap.size < w2.heap.size := by omega
  have hr12 := (hr1.below hb2).more hb2.size
  clear a0 a1 a2 a3 hbx1
  go_wp2_with fail
  have k0 : ∀ z : Of (InB w2), z.w.cell? ⟨w.heap.size, 0, none⟩ = some (.int .i64 e.view) := fun z => old_cell z hlt2 hbx2.c0
  have k1 : ∀ z : Of (InB w2), z.w.cell? ⟨w.heap.size, 1, none⟩ = some (.int .i64 e.what) := fun z => old_cell z hlt2 hbx2.c1
  have k2 : ∀ z : Of (InB w2), z.w.cell? ⟨w.heap.size, 2, none⟩ = some (.int .i64 e.a) := fun z => old_cell z hlt2 hbx2.c2
  have k3 : ∀ z : Of (InB w2), z.w.cell? ⟨w.heap.size, 3, none⟩ = some (.int .i64 e.n) := fun z => old_cell z hlt2 hbx2.c3
  have k4 : ∀ z : Of (InB w2), (convert 36 9 (.slice A1 xs.length c1)).run Try.prog z.w = .ok (.string (strOfNums xs)) z.w := fun z => run_text _ _ (Reads.below hr12 z.ok) rfl
  have k5 : ∀ z : Of (InB w2), (convert 36 9 (.slice A2 xs.length c2)).run Try.prog z.w = .ok (.string (strOfNums xs)) z.w := fun z => run_text _ _ (Reads.below hr2 z.ok) rfl
  refine wp_region_old (by kernel_rfl) (by kernel_rfl) fun hne => ?_
  repeat (any_goals (first | go_big_quiet_step (first | (go_at_call 21; exact old_of (g3 _).out) | (go_at_call 25; exact old_of (g4 _).out) | (go_at_call 26; exact old_of (awake18 _))) | quiet_step (first | (go_at_call 21; exact old_of (g3 _).out) | (go_at_call 25; exact old_of (g4 _).out) | (go_at_call 26; exact old_of (awake18 _)))))
  refine wpQuiet_nil ?_
  rintro w5 ⟨z5, hz5⟩
  have hH5 := of_old z5 hz5
  clear hz5 z5
  go_wp2_with fail
  go_ret
  exact ⟨rfl, bnext (hb0.trans ((bnext hb1 hb2).mono hb0.size)) hH5⟩

set_option maxRecDepth 100000 in
theorem lifted (os : Os) (started : os.Started) (H : Type) (enc : TypeId × Value → H) :
    ReturnsInHanded {} Try.checked os 6 .any (Rows.recordChecksSpec.pre6 enc Try.prog Try.f6 Rows.recordChecksRow.domain false) (Rows.recordChecksSpec.post enc Try.prog Try.f6 false true false false) := by
  refine returnsInHanded_of_change (C := Try.checked) own started (by kernel_rfl) Try.func6
    (ChangeSpec.witness6 (enc := enc) (C := Try.checked) false ⟨#[], #[.agg #[.int .i64 0, .int .i64 0, .int .i64 0, .int .i64 0]], []⟩ 8 (by kernel_rfl) (by kernel_rfl) (by kernel_rfl) (by kernel_rfl)) ?_
  intro W base args ds gs before hval0 hW hcnd _
  have hval : ∀ (j : Nat) t v, Try.f6.params[j]? = some t → args[j]? = some v → Value.okWide Try.prog W .any base t v := hval0
  have hW' := hW
  obtain ⟨p, q, hA0, hV, rfl, hfz, hnd⟩ := hW
  have hA : DataW.TrodAll enc Try.prog W 0 (fun _ => true) true Try.f6.params.toList args.toList ds p := hA0
  rw [Try.params6] at hA hval
  obtain ⟨v0, vs0, d0, ds0, p0, q0, hargs, rfl, rfl, h0, r0⟩ := trodAll_cons hA
  obtain ⟨rfl, rfl, rfl⟩ := trodAll_nil r0
  obtain rfl : args = #[v0] := by cases args; simp_all
  obtain ⟨rfl, rfl⟩ := trodVars_none hV
  have k0 := h0
  have lt0 : ∀ x ∈ p0, x.block < W.heap.size := by obtain ⟨m, hm⟩ := k0; exact DataW.trod_lt m _ _ _ hm
  obtain ⟨t0, ht0, w0⟩ := open_entry (hval 0 33 v0 rfl rfl) h0
  subst ht0
  clear hA0 hval0
  refine (walk t0 W w0).mono fun e W' ⟨he, bel⟩ => ?_
  subst he
  exact ⟨_, rfl, _, _, _, [], _, [], hW', trodAll_mk1 (shut_bool Try.underlying4 _), (trodAll_cons_mk (Below.trod laidOut (by kernel_rfl) (of_decide_eq_true (by kernel_rfl)) k0 bel lt0) trodAll_mk0), rfl, bel.frame _, fun h => by cases h⟩

theorem closed : joinedFacts Try.prog 6 Try.f6 Rows.recordChecksSpec Rows.recordChecksRow = true := by
  have h1 := mayEnter_fact
  have h2 : (Rows.recordChecksRow.lifted == Try.prog.liftsFinal) = true := by rw [lifts_fact]; rfl
  have h3 : (Try.prog.make == some Rows.recordChecksRow.make) = true := by rw [make_fact]; rfl
  have hfin : ∀ b : Bool, b = true → b = true := fun _ h => h
  unfold joinedFacts
  rw [h1, h2, h3]
  clear h1 h2 h3
  refine hfin _ ?_
  kernel_rfl

theorem over : Rows.recordChecksRow.holds Try.pinned (OpenSpec.ofChange Rows.recordChecksSpec) :=
  OpenClaim.holds_of_wide 6 Try.f6 rfl rfl rfl rfl rfl rfl rfl ⟨rfl, rfl, rfl, rfl, rfl⟩ rfl rfl rfl rfl rfl (by kernel_rfl) Try.func6 closed
    (of_decide_eq_true (by kernel_rfl)) (by unfold Func.isWrapper; first | (rw [if_pos (by decide +kernel)]; kernel_rfl) | (rw [if_neg (by decide +kernel)]; exact ⟨rfl, rfl⟩))
    (fun os started H enc _ => lifted os started H enc)

/-- The statement. -/
theorem proved : Rows.RecordChecksSaid := over
#print axioms proved

end Go.Proofs.Ytlehianbdamgmaa.RecordChecksP
