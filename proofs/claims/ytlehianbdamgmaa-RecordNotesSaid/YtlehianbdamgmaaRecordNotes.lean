/- RecordNotes: of any note: the program's bytes are the reference's. -/
import Derived.Test.YtlehianbdamgmaaNoteR
import Derived.Test.YtlehianbdamgmaaOpenN
import Derived.Test.YtlehianbdamgmaaHead
import Derived.Test.YtlehianbdamgmaaOpenG
import Derived.Deep.RegionHeld3
import Derived.Lib.SmallJoins
import Derived.ProofKit
import Derived.OpenShut
import Derived.ShutString
import Derived.ChangeOld
import Derived.Laws.StructEq
namespace Go.Proofs.Ytlehianbdamgmaa.RecordNotesP
open Go.ChangeShapes Go.WideShapes Go.ChangeAt Go.RowKit
open Go.ChangeMaps (open_string shut_string)
set_option linter.unusedVariables false

theorem own : ownKnob Try.prog.godebug = none := by kernel_rfl
theorem laidOut : laidOutB Try.prog = true := by kernel_rfl
theorem bnext {a b c : World} (h : Below a.heap.size a b) (k : Below b.heap.size b c) : Below a.heap.size a c := h.trans (k.mono h.size)

set_option maxRecDepth 100000 in
set_option maxHeartbeats 4000000 in
theorem walk (v : Value) (what view n : Int) (A : Option Addr) (c : Nat) (es : List Ent) (w : World) (hv : NoteIn w v what view n A c es) : Calls Try.prog 11 #[v] w fun e w' => e = .returned (.bool true) ∧ Below w.heap.size w w' := by
  obtain ⟨rfl, i1, i2, i3, hr, hin, hlc, hm⟩ := hv
  have gaw := fun w => Lib.hid (awake18 w)
  have hW0 : Below w.heap.size w (w.alloc (.cells #[.int .i64 what, .int .i64 view, .int .i64 n, .slice A es.length c] 64)) := (Below.refl _ _).alloc (Nat.le_refl _) _
  have hN := Blk.new w 64 #[.int .i64 what, .int .i64 view, .int .i64 n, .slice A es.length c]
  have g1 := fun w' (hb : Below w.heap.size w w') => Lib.hid (note_any what view n A c es w' (Reads.more (ReadsE.below hr hb) hb.size) hin i2 i3 (by omega))
  have g2 := fun w' (hb : Below w.heap.size w w') => Lib.hid (rnote_any what view n A c es w' (Reads.more (ReadsE.below hr hb) hb.size) hin (by omega))
  unfold NPost at g1 g2
  generalize noteO what view n es = bs at *
  generalize nErr what view n es = code at *
  clear hr hin
  go_enter Try.func11, Try.ntmps11
  go_wp2_with fail
  generalize w.alloc (.cells #[.int .i64 what, .int .i64 view, .int .i64 n, .slice A es.length c] 64) = W at *
  refine (g1 _ hW0).out.mono ?_
  rintro _ w1 ⟨A1, c1, rfl, hr1, hc1, hm1, hb1⟩
  have hN1 := hN.below hb1 hN.lt
  have hB1 := bnext hW0 hb1
  have hlt1 := hN1.lt
  have d0 : w1.cell? ⟨w.heap.size, 0, none⟩ = some (.int .i64 what) := hN1.cell 0
  have d1 : w1.cell? ⟨w.heap.size, 1, none⟩ = some (.int .i64 view) := hN1.cell 1
  have d2 : w1.cell? ⟨w.heap.size, 2, none⟩ = some (.int .i64 n) := hN1.cell 2
  have d3 : w1.cell? ⟨w.heap.size, 3, none⟩ = some (.slice A es.length c) := hN1.cell 3
  clear hW0 hN hb1
  go_wp2_with fail
  refine (g2 _ hB1).out.mono ?_
  rintro _ w2 ⟨A2, c2, rfl, hr2, hc2, hm2, hb2⟩
  have hB2 := bnext hB1 hb2
  have t1 := run_text bs.length c1 (Reads.below hr1 hb2) rfl
  have t2 := run_text bs.length c2 hr2 rfl
  clear d0 d1 d2 d3
  go_wp2_with fail
  refine (gaw _).out.mono ?_
  rintro _ w3 ⟨rfl, hb3⟩
  go_wp2_with fail
  go_ret
  exact ⟨rfl, bnext hB2 hb3⟩

set_option maxRecDepth 100000 in
theorem lifted (os : Os) (started : os.Started) (H : Type) (enc : TypeId × Value → H) :
    ReturnsInHanded {} Try.checked os 11 .any (Rows.recordNotesSpec.pre6 enc Try.prog Try.f11 Rows.recordNotesRow.domain false) (Rows.recordNotesSpec.post enc Try.prog Try.f11 false true false false) := by
  refine returnsInHanded_of_change (C := Try.checked) own started (by kernel_rfl) Try.func11
    (ChangeSpec.witness6 (enc := enc) (C := Try.checked) false ⟨#[], #[.agg #[.int .i64 0, .int .i64 0, .int .i64 0, .slice none 0 0]], []⟩ 8 (by kernel_rfl) (by kernel_rfl) (by kernel_rfl) (by kernel_rfl)) ?_
  intro W base args ds gs before hval0 hW hcnd _
  have hval : ∀ (j : Nat) t v, Try.f11.params[j]? = some t → args[j]? = some v → Value.okWide Try.prog W .any base t v := hval0
  have hW' := hW
  obtain ⟨p, q, hA0, hV, rfl, hfz, hnd⟩ := hW
  have hA : DataW.TrodAll enc Try.prog W 0 (fun _ => true) true Try.f11.params.toList args.toList ds p := hA0
  rw [Try.params11] at hA hval
  obtain ⟨v0, vs0, d0, ds0, p0, q0, hargs, rfl, rfl, h0, r0⟩ := trodAll_cons hA
  obtain ⟨rfl, rfl, rfl⟩ := trodAll_nil r0
  obtain rfl : args = #[v0] := by cases args; simp_all
  obtain ⟨rfl, rfl⟩ := trodVars_none hV
  have k0 := h0
  have lt0 : ∀ x ∈ p0, x.block < W.heap.size := by obtain ⟨m, hm⟩ := k0; exact DataW.trod_lt m _ _ _ hm
  obtain ⟨wh0, vi0, nn0, A0, c0, es0, w0⟩ := open_note (hval 0 64 v0 rfl rfl) h0
  clear hA0 hval0
  refine (walk v0 wh0 vi0 nn0 A0 c0 es0 W w0).mono fun e W' ⟨he, bel⟩ => ?_
  subst he
  exact ⟨_, rfl, _, _, _, [], _, [], hW', trodAll_mk1 (shut_bool Try.underlying4 _), (trodAll_cons_mk (Below.trod laidOut (by kernel_rfl) (of_decide_eq_true (by kernel_rfl)) k0 bel lt0) trodAll_mk0), rfl, bel.frame _, fun h => by cases h⟩

theorem closed : joinedFacts Try.prog 11 Try.f11 Rows.recordNotesSpec Rows.recordNotesRow = true := by
  have h1 := mayEnter_fact
  have h2 : (Rows.recordNotesRow.lifted == Try.prog.liftsFinal) = true := by rw [lifts_fact]; rfl
  have h3 : (Try.prog.make == some Rows.recordNotesRow.make) = true := by rw [make_fact]; rfl
  have hfin : ∀ b : Bool, b = true → b = true := fun _ h => h
  unfold joinedFacts
  rw [h1, h2, h3]
  clear h1 h2 h3
  refine hfin _ ?_
  kernel_rfl

theorem over : Rows.recordNotesRow.holds Try.pinned (OpenSpec.ofChange Rows.recordNotesSpec) :=
  OpenClaim.holds_of_wide 11 Try.f11 rfl rfl rfl rfl rfl rfl rfl ⟨rfl, rfl, rfl, rfl, rfl⟩ rfl rfl rfl rfl rfl (by kernel_rfl) Try.func11 closed
    (of_decide_eq_true (by kernel_rfl)) (by unfold Func.isWrapper; first | (rw [if_pos (by decide +kernel)]; kernel_rfl) | (rw [if_neg (by decide +kernel)]; exact ⟨rfl, rfl⟩))
    (fun os started H enc _ => lifted os started H enc)

/-- The statement. -/
theorem proved : Rows.RecordNotesSaid := over
#print axioms proved

end Go.Proofs.Ytlehianbdamgmaa.RecordNotesP
