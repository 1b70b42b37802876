/- HeapFirst: for every type: the program's first value of it is the reference's. -/
import Derived.Test.YtnfejgkjgfnllaaFirst
import Derived.Test.YtnfejgkjgfnllaaHead
import Derived.Test.YtnfejgkjgfnllaaOpenG
import Derived.Deep.RegionHeld3
import Derived.ProofKit
import Derived.OpenShut
import Derived.ShutString
import Derived.ChangeOld
import Derived.Lib.SmallJoins
import Derived.Laws.StructEq
namespace Go.Proofs.Ytnfejgkjgfnllaa.HeapFirstP
open Go.ChangeShapes Go.WideShapes Go.ChangeAt Go.RowKit
open Go.ChangeMaps (open_string shut_string)
set_option linter.unusedVariables false

theorem own : ownKnob Try.prog.godebug = none := by kernel_rfl
theorem laidOut : laidOutB Try.prog = true := by kernel_rfl

/-- The type's box stands, and what was there stands. -/
def HS (w0 : World) (t : Ty) (w : World) : Prop := Blk w w0.heap.size 23 #[.int .i64 t.k, .string t.name, .int .i64 t.dims, .int .i64 t.elem, .int .i64 t.pos] ∧ Below w0.heap.size w0 w
theorem HS.cells {w0 w : World} {t : Ty} (h : HS w0 t w) : w.cell? ⟨w0.heap.size, 0, none⟩ = some (.int .i64 t.k) ∧ w.cell? ⟨w0.heap.size, 1, none⟩ = some (.string t.name) ∧ w.cell? ⟨w0.heap.size, 2, none⟩ = some (.int .i64 t.dims) ∧ w.cell? ⟨w0.heap.size, 3, none⟩ = some (.int .i64 t.elem) ∧ w.cell? ⟨w0.heap.size, 4, none⟩ = some (.int .i64 t.pos) ∧ HS w0 t w :=
  ⟨h.1.cell 0, h.1.cell 1, h.1.cell 2, h.1.cell 3, h.1.cell 4, h⟩
theorem HS.next {w0 w w' : World} {t : Ty} (h : HS w0 t w) (hb : Below w.heap.size w w') : HS w0 t w' := ⟨h.1.below hb h.1.lt, h.2.trans (hb.mono h.2.size)⟩

theorem first_lit (t : Ty) (w : World) : Calls Try.prog 13 #[t.val] w fun e w' => e = .returned (.agg #[.int .i64 (firstK t.k), .int .i64 0, .int .i64 0]) ∧ Below w.heap.size w w' := first_any t w
theorem rfirst_lit (t : Ty) (w : World) : Calls Try.prog 14 #[t.val] w fun e w' => e = .returned (.agg #[.int .i64 (firstK t.k), .int .i64 0, .int .i64 0]) ∧ Below w.heap.size w w' := rfirst_any t w

set_option maxRecDepth 100000 in
set_option maxHeartbeats 1000000 in
theorem walk (t : Ty) (w : World) :
    Calls Try.prog 3 #[t.val] w fun e w' => e = .returned (.bool true) ∧ Below w.heap.size w w' := by
  have hH0 : HS w t (w.alloc (.cells #[.int .i64 t.k, .string t.name, .int .i64 t.dims, .int .i64 t.elem, .int .i64 t.pos] 23)).drew := ⟨Blk.new _ _ _, ((Below.refl _ _).alloc (Nat.le_refl _) _).drew⟩
  have hS0 := hH0.cells
  have hf1 := fun w => Lib.hid (first_lit t w)
  have hf2 := fun w => Lib.hid (rfirst_lit t w)
  generalize firstK t.k = fk at hf1 hf2
  unfold Ty.val
  go_enter Try.func3, Try.ntmps3
  go_wp2_with fail
  go_region_held3 (fun w' => w'.cell? ⟨w.heap.size, 0, none⟩ = some (.int .i64 t.k) ∧ w'.cell? ⟨w.heap.size, 1, none⟩ = some (.string t.name) ∧ w'.cell? ⟨w.heap.size, 2, none⟩ = some (.int .i64 t.dims) ∧ w'.cell? ⟨w.heap.size, 3, none⟩ = some (.int .i64 t.elem) ∧ w'.cell? ⟨w.heap.size, 4, none⟩ = some (.int .i64 t.pos) ∧ HS w t w')
    (first | exact hS0 | assumption)
    (first
      | (go_at_call 13; go_split_ands; refine (hf1 _).out.mono ?_; rintro e w5 ⟨rfl, hb5⟩; have hH5 := (HS.next (by assumption) hb5).cells)
      | (go_at_call 14; go_split_ands; refine (hf2 _).out.mono ?_; rintro e w5 ⟨rfl, hb5⟩; have hH5 := (HS.next (by assumption) hb5).cells)
      | (go_at_call 15; go_split_ands; refine (awake14 _).mono ?_; rintro e w5 ⟨rfl, hb5⟩; have hH5 := (HS.next (by assumption) hb5).cells))
  go_wp2_with fail
  go_ret
  exact ⟨rfl, hH5.2.2.2.2.2.2⟩

set_option maxRecDepth 100000 in
theorem lifted (os : Os) (started : os.Started) (H : Type) (enc : TypeId × Value → H) :
    ReturnsInHanded {} Try.checked os 3 .any (Rows.heapFirstSpec.pre6 enc Try.prog Try.f3 Rows.heapFirstRow.domain false) (Rows.heapFirstSpec.post enc Try.prog Try.f3 false true false false) := by
  refine returnsInHanded_of_change (C := Try.checked) own started (by kernel_rfl) Try.func3
    (ChangeSpec.witness6 (enc := enc) (C := Try.checked) false ⟨#[], #[.agg #[.int .i64 0, .string .empty, .int .i64 0, .int .i64 0, .int .i64 0]], []⟩ 8 (by kernel_rfl) (by kernel_rfl) (by kernel_rfl) (by kernel_rfl)) ?_
  intro W base args ds gs before hval0 hW hcnd _
  have hval : ∀ (j : Nat) t v, Try.f3.params[j]? = some t → args[j]? = some v → Value.okWide Try.prog W .any base t v := hval0
  have hW' := hW
  obtain ⟨p, q, hA0, hV, rfl, hfz, hnd⟩ := hW
  have hA : DataW.TrodAll enc Try.prog W 0 (fun _ => true) true Try.f3.params.toList args.toList ds p := hA0
  rw [Try.params3] at hA hval
  obtain ⟨v0, vs0, d0, ds0, p0, q0, hargs, rfl, rfl, h0, r0⟩ := trodAll_cons hA
  obtain ⟨rfl, rfl, rfl⟩ := trodAll_nil r0
  obtain rfl : args = #[v0] := by cases args; simp_all
  obtain ⟨rfl, rfl⟩ := trodVars_none hV
  have k0 := h0
  have lt0 : ∀ x ∈ p0, x.block < W.heap.size := by obtain ⟨m, hm⟩ := k0; exact DataW.trod_lt m _ _ _ hm
  obtain ⟨t0, ht0⟩ : ∃ t : Ty, v0 = t.val := by
    obtain ⟨c0, c1, c2, c3, c4, y0, y1, y2, y3, y4, n, hv, hd, hp, t0, t1, t2, t3, t4⟩ := open_agg5 Try.underlying23 (by kernel_rfl) (by kernel_rfl) (hval 0 23 v0 rfl rfl) h0
    obtain ⟨n0, q0, _, _⟩ := DataW.trod_int Try.underlying3 t0
    obtain ⟨n1, q1, _⟩ := DataW.trod_string Try.underlying9 t1
    obtain ⟨n2, q2, _, _⟩ := DataW.trod_int Try.underlying3 t2
    obtain ⟨n3, q3, _, _⟩ := DataW.trod_int Try.underlying3 t3
    obtain ⟨n4, q4, _, _⟩ := DataW.trod_int Try.underlying3 t4
    simp only [List.cons.injEq, and_true] at q0 q1 q2 q3 q4
    subst q0 q1 q2 q3 q4
    exact ⟨⟨n0, n1, n2, n3, n4⟩, hv⟩
  subst ht0
  clear hA0 hval0
  refine (walk t0 W ).mono fun e W' ⟨he, bel⟩ => ?_
  subst he
  exact ⟨_, rfl, _, _, _, [], _, [], hW', trodAll_mk1 (shut_bool Try.underlying4 _), (trodAll_cons_mk (Below.trod laidOut (by kernel_rfl) (of_decide_eq_true (by kernel_rfl)) k0 bel lt0) trodAll_mk0), rfl, bel.frame _, fun h => by cases h⟩

theorem closed : joinedFacts Try.prog 3 Try.f3 Rows.heapFirstSpec Rows.heapFirstRow = true := by
  have h1 := mayEnter_fact
  have h2 : (Rows.heapFirstRow.lifted == Try.prog.liftsFinal) = true := by rw [lifts_fact]; rfl
  have h3 : (Try.prog.make == some Rows.heapFirstRow.make) = true := by rw [make_fact]; rfl
  have hfin : ∀ b : Bool, b = true → b = true := fun _ h => h
  unfold joinedFacts
  rw [h1, h2, h3]
  clear h1 h2 h3
  refine hfin _ ?_
  kernel_rfl

theorem over : Rows.heapFirstRow.holds Try.pinned (OpenSpec.ofChange Rows.heapFirstSpec) :=
  OpenClaim.holds_of_wide 3 Try.f3 rfl rfl rfl rfl rfl rfl rfl ⟨rfl, rfl, rfl, rfl, rfl⟩ rfl rfl rfl rfl rfl (by kernel_rfl) Try.func3 closed
    (of_decide_eq_true (by kernel_rfl)) (by unfold Func.isWrapper; first | (rw [if_pos (by decide +kernel)]; kernel_rfl) | (rw [if_neg (by decide +kernel)]; exact ⟨rfl, rfl⟩))
    (fun os started H enc _ => lifted os started H enc)

/-- The statement. -/
theorem proved : Rows.HeapFirstSaid := over
#print axioms proved
end Go.Proofs.Ytnfejgkjgfnllaa.HeapFirstP
