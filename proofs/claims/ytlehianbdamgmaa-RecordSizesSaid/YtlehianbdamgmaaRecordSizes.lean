/- RecordSizes: an entry has fourteen bytes, a note thirteen and fourteen for each of its entries. -/
import Derived.Test.YtlehianbdamgmaaNoteP
import Derived.Test.YtlehianbdamgmaaOpenN
import Derived.Test.YtlehianbdamgmaaHead
import Derived.Test.YtlehianbdamgmaaOpenG
import Derived.Deep.RegionHeld3
import Derived.Lib.SmallJoins
import Derived.ProofKit
import Derived.OpenShut
import Derived.ShutString
import Derived.ChangeOld
import Derived.Laws.StructEq
namespace Go.Proofs.Ytlehianbdamgmaa.RecordSizesP
open Go.ChangeShapes Go.WideShapes Go.ChangeAt Go.RowKit
open Go.ChangeMaps (open_string shut_string)
set_option linter.unusedVariables false

theorem own : ownKnob Try.prog.godebug = none := by kernel_rfl
theorem laidOut : laidOutB Try.prog = true := by kernel_rfl
theorem bnext {a b c : World} (h : Below a.heap.size a b) (k : Below b.heap.size b c) : Below a.heap.size a c := h.trans (k.mono h.size)

set_option maxRecDepth 100000 in
set_option maxHeartbeats 4000000 in
theorem walk_00 (e : Ent) (v : Value) (what view n : Int) (A : Option Addr) (c : Nat) (es : List Ent) (w : World) (hi : e.In) (hv : NoteIn w v what view n A c es) (h1 : ¬ e.ok) (h2 : ¬ nErr what view n es = 0) : Calls Try.prog 12 #[e.val, v] w fun e w' => e = .returned (.bool true) ∧ Below w.heap.size w w' := by
  obtain ⟨rfl, i1, i2, i3, hr, hin, hlc, hm⟩ := hv
  have gaw := fun w => Lib.hid (awake18 w)
  have hb0 : Below w.heap.size w (w.alloc (.cells #[.int .i64 e.view, .int .i64 e.what, .int .i64 e.a, .int .i64 e.n] 33)) := (Below.refl _ _).alloc (Nat.le_refl _) _
  have hW0 := hb0.alloc hb0.size (.cells #[.int .i64 what, .int .i64 view, .int .i64 n, .slice A es.length c] 64)
  have hN := Blk.new (w.alloc (.cells #[.int .i64 e.view, .int .i64 e.what, .int .i64 e.a, .int .i64 e.n] 33)) 64 #[.int .i64 what, .int .i64 view, .int .i64 n, .slice A es.length c]
  simp only [World.size_alloc] at hN
  have g1 := fun w' (_ : w.heap.size ≤ w'.heap.size) => Lib.hid (encode_any e w' hi)
  have g2 := fun w' (hb : Below w.heap.size w w') => Lib.hid (note_any what view n A c es w' (Reads.more (ReadsE.below hr hb) hb.size) hin i2 i3 (by omega))
  unfold EPost at g1
  unfold NPost at g2
  have x1 : (encO e).length = 0 := by unfold encO; rw [if_neg h1]; rfl
  rw [Ent.err_no h1] at g1
  have x2 : (noteO what view n es).length = 0 := by unfold noteO; rw [if_neg h2]; rfl
  generalize nErr what view n es = code at *
  have c1 : (code == 0) = false := by simpa using h2
  have c2 : (code != 0) = true := by simpa using h2
  rw [x1] at g1
  rw [x2] at g2
  generalize encO e = xs at *
  generalize noteO what view n es = bs at *
  clear x1 x2 h1 h2
  unfold Ent.val at *
  clear hb0 hr hin
  go_enter Try.func12, Try.ntmps12
  go_wp2_with fail
  refine (g1 _ hW0.size).out.mono ?_
  rintro _ w1 ⟨A1, c1, rfl, hr1, hc1, hm1, hb1⟩
  have hN1 := hN.below hb1 hN.lt
  have hB1 := bnext hW0 hb1
  have hlt1 := hN1.lt
  have d0 : w1.cell? ⟨w.heap.size + 1, 0, none⟩ = some (.int .i64 what) := hN1.cell 0
  have d1 : w1.cell? ⟨w.heap.size + 1, 1, none⟩ = some (.int .i64 view) := hN1.cell 1
  have d2 : w1.cell? ⟨w.heap.size + 1, 2, none⟩ = some (.int .i64 n) := hN1.cell 2
  have d3 : w1.cell? ⟨w.heap.size + 1, 3, none⟩ = some (.slice A es.length c) := hN1.cell 3
  clear hW0 hN hb1
  go_wp2_with fail
  refine (g2 _ hB1).out.mono ?_
  rintro _ w2 ⟨A2, c2, rfl, hr2, hc2, hm2, hb2⟩
  have hN2 := hN1.below hb2 hN1.lt
  have hB2 := bnext hB1 hb2
  have hlt2 := hN2.lt
  have e3 : w2.cell? ⟨w.heap.size + 1, 3, none⟩ = some (.slice A es.length c) := hN2.cell 3
  clear hB1 hN1 hb2 d0 d1 d2 d3 hr1 hr2
  go_wp2_with fail
  refine (gaw _).out.mono ?_
  rintro _ w3 ⟨rfl, hb3⟩
  go_wp2_with fail
  go_ret
  exact ⟨rfl, bnext hB2 hb3⟩

set_option maxRecDepth 100000 in
set_option maxHeartbeats 4000000 in
theorem walk_01 (e : Ent) (v : Value) (what view n : Int) (A : Option Addr) (c : Nat) (es : List Ent) (w : World) (hi : e.In) (hv : NoteIn w v what view n A c es) (h1 : ¬ e.ok) (h2 : nErr what view n es = 0) : Calls Try.prog 12 #[e.val, v] w fun e w' => e = .returned (.bool true) ∧ Below w.heap.size w w' := by
  obtain ⟨rfl, i1, i2, i3, hr, hin, hlc, hm⟩ := hv
  have gaw := fun w => Lib.hid (awake18 w)
  have hb0 : Below w.heap.size w (w.alloc (.cells #[.int .i64 e.view, .int .i64 e.what, .int .i64 e.a, .int .i64 e.n] 33)) := (Below.refl _ _).alloc (Nat.le_refl _) _
  have hW0 := hb0.alloc hb0.size (.cells #[.int .i64 what, .int .i64 view, .int .i64 n, .slice A es.length c] 64)
  have hN := Blk.new (w.alloc (.cells #[.int .i64 e.view, .int .i64 e.what, .int .i64 e.a, .int .i64 e.n] 33)) 64 #[.int .i64 what, .int .i64 view, .int .i64 n, .slice A es.length c]
  simp only [World.size_alloc] at hN
  have g1 := fun w' (_ : w.heap.size ≤ w'.heap.size) => Lib.hid (encode_any e w' hi)
  have g2 := fun w' (hb : Below w.heap.size w w') => Lib.hid (note_any what view n A c es w' (Reads.more (ReadsE.below hr hb) hb.size) hin i2 i3 (by omega))
  unfold EPost at g1
  unfold NPost at g2
  have x1 : (encO e).length = 0 := by unfold encO; rw [if_neg h1]; rfl
  rw [Ent.err_no h1] at g1
  obtain ⟨M, hM⟩ : ∃ M, M = 13 + 14 * es.length := ⟨_, rfl⟩
  have x2 : (noteO what view n es).length = M := by unfold noteO; rw [if_pos h2, noteB_length, hM]
  obtain ⟨_, _, _, z6, _⟩ := nErr_zero h2
  have hMb : ((M : Int) == 13 + 14 * (es.length : Int)) = true := by rw [beq_iff_eq]; omega
  rw [h2] at g2
  clear hM
  rw [x1] at g1
  rw [x2] at g2
  generalize encO e = xs at *
  generalize noteO what view n es = bs at *
  clear x1 x2 h1 h2
  unfold Ent.val at *
  clear hb0 hr hin
  go_enter Try.func12, Try.ntmps12
  go_wp2_with fail
  refine (g1 _ hW0.size).out.mono ?_
  rintro _ w1 ⟨A1, c1, rfl, hr1, hc1, hm1, hb1⟩
  have hN1 := hN.below hb1 hN.lt
  have hB1 := bnext hW0 hb1
  have hlt1 := hN1.lt
  have d0 : w1.cell? ⟨w.heap.size + 1, 0, none⟩ = some (.int .i64 what) := hN1.cell 0
  have d1 : w1.cell? ⟨w.heap.size + 1, 1, none⟩ = some (.int .i64 view) := hN1.cell 1
  have d2 : w1.cell? ⟨w.heap.size + 1, 2, none⟩ = some (.int .i64 n) := hN1.cell 2
  have d3 : w1.cell? ⟨w.heap.size + 1, 3, none⟩ = some (.slice A es.length c) := hN1.cell 3
  clear hW0 hN hb1
  go_wp2_with fail
  refine (g2 _ hB1).out.mono ?_
  rintro _ w2 ⟨A2, c2, rfl, hr2, hc2, hm2, hb2⟩
  have hN2 := hN1.below hb2 hN1.lt
  have hB2 := bnext hB1 hb2
  have hlt2 := hN2.lt
  have e3 : w2.cell? ⟨w.heap.size + 1, 3, none⟩ = some (.slice A es.length c) := hN2.cell 3
  clear hB1 hN1 hb2 d0 d1 d2 d3 hr1 hr2
  go_wp2_with fail
  refine (gaw _).out.mono ?_
  rintro _ w3 ⟨rfl, hb3⟩
  go_wp2_with fail
  go_ret
  exact ⟨rfl, bnext hB2 hb3⟩

set_option maxRecDepth 100000 in
set_option maxHeartbeats 4000000 in
theorem walk_10 (e : Ent) (v : Value) (what view n : Int) (A : Option Addr) (c : Nat) (es : List Ent) (w : World) (hi : e.In) (hv : NoteIn w v what view n A c es) (h1 : e.ok) (h2 : ¬ nErr what view n es = 0) : Calls Try.prog 12 #[e.val, v] w fun e w' => e = .returned (.bool true) ∧ Below w.heap.size w w' := by
  obtain ⟨rfl, i1, i2, i3, hr, hin, hlc, hm⟩ := hv
  have gaw := fun w => Lib.hid (awake18 w)
  have hb0 : Below w.heap.size w (w.alloc (.cells #[.int .i64 e.view, .int .i64 e.what, .int .i64 e.a, .int .i64 e.n] 33)) := (Below.refl _ _).alloc (Nat.le_refl _) _
  have hW0 := hb0.alloc hb0.size (.cells #[.int .i64 what, .int .i64 view, .int .i64 n, .slice A es.length c] 64)
  have hN := Blk.new (w.alloc (.cells #[.int .i64 e.view, .int .i64 e.what, .int .i64 e.a, .int .i64 e.n] 33)) 64 #[.int .i64 what, .int .i64 view, .int .i64 n, .slice A es.length c]
  simp only [World.size_alloc] at hN
  have g1 := fun w' (_ : w.heap.size ≤ w'.heap.size) => Lib.hid (encode_any e w' hi)
  have g2 := fun w' (hb : Below w.heap.size w w') => Lib.hid (note_any what view n A c es w' (Reads.more (ReadsE.below hr hb) hb.size) hin i2 i3 (by omega))
  unfold EPost at g1
  unfold NPost at g2
  have x1 : (encO e).length = 14 := by unfold encO; rw [if_pos h1, encE_length]
  rw [Ent.err_yes h1] at g1
  have x2 : (noteO what view n es).length = 0 := by unfold noteO; rw [if_neg h2]; rfl
  generalize nErr what view n es = code at *
  have c1 : (code == 0) = false := by simpa using h2
  have c2 : (code != 0) = true := by simpa using h2
  rw [x1] at g1
  rw [x2] at g2
  generalize encO e = xs at *
  generalize noteO what view n es = bs at *
  clear x1 x2 h1 h2
  unfold Ent.val at *
  clear hb0 hr hin
  go_enter Try.func12, Try.ntmps12
  go_wp2_with fail
  refine (g1 _ hW0.size).out.mono ?_
  rintro _ w1 ⟨A1, c1, rfl, hr1, hc1, hm1, hb1⟩
  have hN1 := hN.below hb1 hN.lt
  have hB1 := bnext hW0 hb1
  have hlt1 := hN1.lt
  have d0 : w1.cell? ⟨w.heap.size + 1, 0, none⟩ = some (.int .i64 what) := hN1.cell 0
  have d1 : w1.cell? ⟨w.heap.size + 1, 1, none⟩ = some (.int .i64 view) := hN1.cell 1
  have d2 : w1.cell? ⟨w.heap.size + 1, 2, none⟩ = some (.int .i64 n) := hN1.cell 2
  have d3 : w1.cell? ⟨w.heap.size + 1, 3, none⟩ = some (.slice A es.length c) := hN1.cell 3
  clear hW0 hN hb1
  go_wp2_with fail
  refine (g2 _ hB1).out.mono ?_
  rintro _ w2 ⟨A2, c2, rfl, hr2, hc2, hm2, hb2⟩
  have hN2 := hN1.below hb2 hN1.lt
  have hB2 := bnext hB1 hb2
  have hlt2 := hN2.lt
  have e3 : w2.cell? ⟨w.heap.size + 1, 3, none⟩ = some (.slice A es.length c) := hN2.cell 3
  clear hB1 hN1 hb2 d0 d1 d2 d3 hr1 hr2
  go_wp2_with fail
  refine (gaw _).out.mono ?_
  rintro _ w3 ⟨rfl, hb3⟩
  go_wp2_with fail
  go_ret
  exact ⟨rfl, bnext hB2 hb3⟩

set_option maxRecDepth 100000 in
set_option maxHeartbeats 4000000 in
theorem walk_11 (e : Ent) (v : Value) (what view n : Int) (A : Option Addr) (c : Nat) (es : List Ent) (w : World) (hi : e.In) (hv : NoteIn w v what view n A c es) (h1 : e.ok) (h2 : nErr what view n es = 0) : Calls Try.prog 12 #[e.val, v] w fun e w' => e = .returned (.bool true) ∧ Below w.heap.size w w' := by
  obtain ⟨rfl, i1, i2, i3, hr, hin, hlc, hm⟩ := hv
  have gaw := fun w => Lib.hid (awake18 w)
  have hb0 : Below w.heap.size w (w.alloc (.cells #[.int .i64 e.view, .int .i64 e.what, .int .i64 e.a, .int .i64 e.n] 33)) := (Below.refl _ _).alloc (Nat.le_refl _) _
  have hW0 := hb0.alloc hb0.size (.cells #[.int .i64 what, .int .i64 view, .int .i64 n, .slice A es.length c] 64)
  have hN := Blk.new (w.alloc (.cells #[.int .i64 e.view, .int .i64 e.what, .int .i64 e.a, .int .i64 e.n] 33)) 64 #[.int .i64 what, .int .i64 view, .int .i64 n, .slice A es.length c]
  simp only [World.size_alloc] at hN
  have g1 := fun w' (_ : w.heap.size ≤ w'.heap.size) => Lib.hid (encode_any e w' hi)
  have g2 := fun w' (hb : Below w.heap.size w w') => Lib.hid (note_any what view n A c es w' (Reads.more (ReadsE.below hr hb) hb.size) hin i2 i3 (by omega))
  unfold EPost at g1
  unfold NPost at g2
  have x1 : (encO e).length = 14 := by unfold encO; rw [if_pos h1, encE_length]
  rw [Ent.err_yes h1] at g1
  obtain ⟨M, hM⟩ : ∃ M, M = 13 + 14 * es.length := ⟨_, rfl⟩
  have x2 : (noteO what view n es).length = M := by unfold noteO; rw [if_pos h2, noteB_length, hM]
  obtain ⟨_, _, _, z6, _⟩ := nErr_zero h2
  have hMb : ((M : Int) == 13 + 14 * (es.length : Int)) = true := by rw [beq_iff_eq]; omega
  rw [h2] at g2
  clear hM
  rw [x1] at g1
  rw [x2] at g2
  generalize encO e = xs at *
  generalize noteO what view n es = bs at *
  clear x1 x2 h1 h2
  unfold Ent.val at *
  clear hb0 hr hin
  go_enter Try.func12, Try.ntmps12
  go_wp2_with fail
  refine (g1 _ hW0.size).out.mono ?_
  rintro _ w1 ⟨A1, c1, rfl, hr1, hc1, hm1, hb1⟩
  have hN1 := hN.below hb1 hN.lt
  have hB1 := bnext hW0 hb1
  have hlt1 := hN1.lt
  have d0 : w1.cell? ⟨w.heap.size + 1, 0, none⟩ = some (.int .i64 what) := hN1.cell 0
  have d1 : w1.cell? ⟨w.heap.size + 1, 1, none⟩ = some (.int .i64 view) := hN1.cell 1
  have d2 : w1.cell? ⟨w.heap.size + 1, 2, none⟩ = some (.int .i64 n) := hN1.cell 2
  have d3 : w1.cell? ⟨w.heap.size + 1, 3, none⟩ = some (.slice A es.length c) := hN1.cell 3
  clear hW0 hN hb1
  go_wp2_with fail
  refine (g2 _ hB1).out.mono ?_
  rintro _ w2 ⟨A2, c2, rfl, hr2, hc2, hm2, hb2⟩
  have hN2 := hN1.below hb2 hN1.lt
  have hB2 := bnext hB1 hb2
  have hlt2 := hN2.lt
  have e3 : w2.cell? ⟨w.heap.size + 1, 3, none⟩ = some (.slice A es.length c) := hN2.cell 3
  clear hB1 hN1 hb2 d0 d1 d2 d3 hr1 hr2
  go_wp2_with fail
  refine (gaw _).out.mono ?_
  rintro _ w3 ⟨rfl, hb3⟩
  go_wp2_with fail
  go_ret
  exact ⟨rfl, bnext hB2 hb3⟩
theorem walk (e : Ent) (v : Value) (what view n : Int) (A : Option Addr) (c : Nat) (es : List Ent) (w : World) (hi : e.In) (hv : NoteIn w v what view n A c es) : Calls Try.prog 12 #[e.val, v] w fun e w' => e = .returned (.bool true) ∧ Below w.heap.size w w' := by
  by_cases h1 : e.ok
  · by_cases h2 : nErr what view n es = 0
    · exact walk_11 e v what view n A c es w hi hv h1 h2
    · exact walk_10 e v what view n A c es w hi hv h1 h2
  · by_cases h2 : nErr what view n es = 0
    · exact walk_01 e v what view n A c es w hi hv h1 h2
    · exact walk_00 e v what view n A c es w hi hv h1 h2

set_option maxRecDepth 100000 in
theorem lifted (os : Os) (started : os.Started) (H : Type) (enc : TypeId × Value → H) :
    ReturnsInHanded {} Try.checked os 12 .any (Rows.recordSizesSpec.pre6 enc Try.prog Try.f12 Rows.recordSizesRow.domain false) (Rows.recordSizesSpec.post enc Try.prog Try.f12 false true false false) := by
  refine returnsInHanded_of_change (C := Try.checked) own started (by kernel_rfl) Try.func12
    (ChangeSpec.witness6 (enc := enc) (C := Try.checked) false ⟨#[], #[.agg #[.int .i64 0, .int .i64 0, .int .i64 0, .int .i64 0], .agg #[.int .i64 0, .int .i64 0, .int .i64 0, .slice none 0 0]], []⟩ 8 (by kernel_rfl) (by kernel_rfl) (by kernel_rfl) (by kernel_rfl)) ?_
  intro W base args ds gs before hval0 hW hcnd _
  have hval : ∀ (j : Nat) t v, Try.f12.params[j]? = some t → args[j]? = some v → Value.okWide Try.prog W .any base t v := hval0
  have hW' := hW
  obtain ⟨p, q, hA0, hV, rfl, hfz, hnd⟩ := hW
  have hA : DataW.TrodAll enc Try.prog W 0 (fun _ => true) true Try.f12.params.toList args.toList ds p := hA0
  rw [Try.params12] at hA hval
  obtain ⟨v0, vs0, d0, ds0, p0, q0, hargs, rfl, rfl, h0, r0⟩ := trodAll_cons hA
  obtain ⟨v1, vs1, d1, ds1, p1, q1, rfl, rfl, rfl, h1, r1⟩ := trodAll_cons r0
  obtain ⟨rfl, rfl, rfl⟩ := trodAll_nil r1
  obtain rfl : args = #[v0, v1] := by cases args; simp_all
  obtain ⟨rfl, rfl⟩ := trodVars_none hV
  have k0 := h0
  have lt0 : ∀ x ∈ p0, x.block < W.heap.size := by obtain ⟨m, hm⟩ := k0; exact DataW.trod_lt m _ _ _ hm
  obtain ⟨t0, ht0, w0⟩ := open_entry (hval 0 33 v0 rfl rfl) h0
  subst ht0
  have k1 := h1
  have lt1 : ∀ x ∈ p1, x.block < W.heap.size := by obtain ⟨m, hm⟩ := k1; exact DataW.trod_lt m _ _ _ hm
  obtain ⟨wh1, vi1, nn1, A1, c1, es1, w1⟩ := open_note (hval 1 64 v1 rfl rfl) h1
  clear hA0 hval0
  refine (walk t0 v1 wh1 vi1 nn1 A1 c1 es1 W w0 w1).mono fun e W' ⟨he, bel⟩ => ?_
  subst he
  exact ⟨_, rfl, _, _, _, [], _, [], hW', trodAll_mk1 (shut_bool Try.underlying4 _), (trodAll_cons_mk (Below.trod laidOut (by kernel_rfl) (of_decide_eq_true (by kernel_rfl)) k0 bel lt0) (trodAll_cons_mk (Below.trod laidOut (by kernel_rfl) (of_decide_eq_true (by kernel_rfl)) k1 bel lt1) trodAll_mk0)), rfl, bel.frame _, fun h => by cases h⟩

theorem closed : joinedFacts Try.prog 12 Try.f12 Rows.recordSizesSpec Rows.recordSizesRow = true := by
  have h1 := mayEnter_fact
  have h2 : (Rows.recordSizesRow.lifted == Try.prog.liftsFinal) = true := by rw [lifts_fact]; rfl
  have h3 : (Try.prog.make == some Rows.recordSizesRow.make) = true := by rw [make_fact]; rfl
  have hfin : ∀ b : Bool, b = true → b = true := fun _ h => h
  unfold joinedFacts
  rw [h1, h2, h3]
  clear h1 h2 h3
  refine hfin _ ?_
  kernel_rfl

theorem over : Rows.recordSizesRow.holds Try.pinned (OpenSpec.ofChange Rows.recordSizesSpec) :=
  OpenClaim.holds_of_wide 12 Try.f12 rfl rfl rfl rfl rfl rfl rfl ⟨rfl, rfl, rfl, rfl, rfl⟩ rfl rfl rfl rfl rfl (by kernel_rfl) Try.func12 closed
    (of_decide_eq_true (by kernel_rfl)) (by unfold Func.isWrapper; first | (rw [if_pos (by decide +kernel)]; kernel_rfl) | (rw [if_neg (by decide +kernel)]; exact ⟨rfl, rfl⟩))
    (fun os started H enc _ => lifted os started H enc)

/-- The statement. -/
theorem proved : Rows.RecordSizesSaid := over
#print axioms proved

end Go.Proofs.Ytlehianbdamgmaa.RecordSizesP
