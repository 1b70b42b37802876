/- HeapZero: a heap that nobody made answers nothing. -/
import Derived.Test.YtpfgdgelnehjpaaHeapZ
import Derived.Test.YtpfgdgelnehjpaaHead
import Derived.Test.YtpfgdgelnehjpaaOpenG
import Derived.Deep.RegionHeld3
import Derived.Lib.SmallJoins
import Derived.ProofKit
import Derived.OpenShut
import Derived.ShutString
import Derived.ChangeOld
import Derived.Laws.StructEq
namespace Go.Proofs.Ytpfgdgelnehjpaa.HeapZeroP
open Go.ChangeShapes Go.WideShapes Go.ChangeAt Go.RowKit
open Go.ChangeMaps (open_string shut_string)
set_option linter.unusedVariables false

theorem own : ownKnob Try.prog.godebug = none := by kernel_rfl
theorem laidOut : laidOutB Try.prog = true := by kernel_rfl
theorem bnext {a b c : World} (h : Below a.heap.size a b) (k : Below b.heap.size b c) : Below a.heap.size a c := h.trans (k.mono h.size)

set_option maxRecDepth 100000 in
set_option maxHeartbeats 1000000 in
theorem walk (r i x y z : Int) (w : World) (_hr : (Lit.int .i64 r).wf = true) (_hi : (Lit.int .i64 i).wf = true) : Calls Try.prog 9 #[.int .i64 r, .int .i64 i, .agg #[.int .i64 x, .int .i64 y, .int .i64 z]] w fun e w' => e = .returned (.bool true) ∧ Below w.heap.size w w' := by
  have hx := Blk.new w 49 #[.int .i64 x, .int .i64 y, .int .i64 z]
  have a0 : (w.alloc (.cells #[.int .i64 x, .int .i64 y, .int .i64 z] 49)).cell? ⟨w.heap.size, 0, none⟩ = some (.int .i64 x) := hx.cell 0
  have a1 : (w.alloc (.cells #[.int .i64 x, .int .i64 y, .int .i64 z] 49)).cell? ⟨w.heap.size, 1, none⟩ = some (.int .i64 y) := hx.cell 1
  have a2 : (w.alloc (.cells #[.int .i64 x, .int .i64 y, .int .i64 z] 49)).cell? ⟨w.heap.size, 2, none⟩ = some (.int .i64 z) := hx.cell 2
  have hb := ba (b0 w (.cells #[.int .i64 x, .int .i64 y, .int .i64 z] 49)) (.cells #[.slice none 0 0, .slice none 0 0, .int .i64 0, .bool false] 80)
  have h : ((w.alloc (.cells #[.int .i64 x, .int .i64 y, .int .i64 z] 49)).alloc (.cells #[.slice none 0 0, .slice none 0 0, .int .i64 0, .bool false] 80)).cell? ⟨w.heap.size + 1, 3, none⟩ = some (.bool false) := by
    simp
  replace a0 := old1 (o := .cells #[.slice none 0 0, .slice none 0 0, .int .i64 0, .bool false] 80) a0
  replace a1 := old1 (o := .cells #[.slice none 0 0, .slice none 0 0, .int .i64 0, .bool false] 80) a1
  replace a2 := old1 (o := .cells #[.slice none 0 0, .slice none 0 0, .int .i64 0, .bool false] 80) a2
  clear hx
  go_enter Try.func9, Try.ntmps9
  go_wp2_with fail
  refine (make_nil _).mono ?_
  rintro _ v1 ⟨rfl, hv⟩
  replace hb := bn hb hv
  replace h := old2 h hv
  replace a0 := old2 a0 hv
  replace a1 := old2 a1 hv
  replace a2 := old2 a2 hv
  clear hv
  go_wp2_with fail
  refine (array_zero _ _ h).mono ?_
  rintro _ v1 ⟨rfl, hv⟩
  replace hb := bn hb hv
  replace h := old2 h hv
  replace a0 := old2 a0 hv
  replace a1 := old2 a1 hv
  replace a2 := old2 a2 hv
  clear hv
  go_wp2_with fail
  refine (get_nil r i _).mono ?_
  rintro _ v1 ⟨rfl, hv⟩
  replace hb := bn hb hv
  replace h := old2 h hv
  replace a0 := old2 a0 hv
  replace a1 := old2 a1 hv
  replace a2 := old2 a2 hv
  clear hv
  replace h := old1 (o := .cells #[.int .i64 0, .int .i64 0, .int .i64 0] 49) h
  replace a0 := old1 (o := .cells #[.int .i64 0, .int .i64 0, .int .i64 0] 49) a0
  replace a1 := old1 (o := .cells #[.int .i64 0, .int .i64 0, .int .i64 0] 49) a1
  replace a2 := old1 (o := .cells #[.int .i64 0, .int .i64 0, .int .i64 0] 49) a2
  replace hb := ba hb (.cells #[.int .i64 0, .int .i64 0, .int .i64 0] 49)
  go_wp2_with fail
  generalize v1.alloc (.cells #[.int .i64 0, .int .i64 0, .int .i64 0] 49) = V at *
  obtain ⟨v2, hv2⟩ : ∃ v2, v2 = V := ⟨_, rfl⟩
  subst hv2
  skip
  go_wp2_with fail
  refine (type_zero _ r _ h).mono ?_
  rintro _ v1 ⟨rfl, hv⟩
  replace hb := bn hb hv
  replace h := old2 h hv
  replace a0 := old2 a0 hv
  replace a1 := old2 a1 hv
  replace a2 := old2 a2 hv
  clear hv
  replace h := old1 (o := .cells #[.int .i64 0, .string .empty, .int .i64 0, .int .i64 0, .int .i64 0] 30) h
  replace a0 := old1 (o := .cells #[.int .i64 0, .string .empty, .int .i64 0, .int .i64 0, .int .i64 0] 30) a0
  replace a1 := old1 (o := .cells #[.int .i64 0, .string .empty, .int .i64 0, .int .i64 0, .int .i64 0] 30) a1
  replace a2 := old1 (o := .cells #[.int .i64 0, .string .empty, .int .i64 0, .int .i64 0, .int .i64 0] 30) a2
  replace hb := ba hb (.cells #[.int .i64 0, .string .empty, .int .i64 0, .int .i64 0, .int .i64 0] 30)
  go_wp2_with fail
  generalize v1.alloc (.cells #[.int .i64 0, .string .empty, .int .i64 0, .int .i64 0, .int .i64 0] 30) = V at *
  obtain ⟨v2, hv2⟩ : ∃ v2, v2 = V := ⟨_, rfl⟩
  subst hv2
  go_wp2_with fail
  refine (set_zero _ r i x y z _ h).mono ?_
  rintro _ v1 ⟨rfl, hv⟩
  replace hb := bn hb hv
  replace h := old2 h hv
  replace a0 := old2 a0 hv
  replace a1 := old2 a1 hv
  replace a2 := old2 a2 hv
  clear hv
  go_wp2_with fail
  refine (len_nil r _).mono ?_
  rintro _ v1 ⟨rfl, hv⟩
  replace hb := bn hb hv
  replace h := old2 h hv
  replace a0 := old2 a0 hv
  replace a1 := old2 a1 hv
  replace a2 := old2 a2 hv
  clear hv
  go_wp2_with fail
  refine (count_zero _ _ h).mono ?_
  rintro _ v1 ⟨rfl, hv⟩
  replace hb := bn hb hv
  replace h := old2 h hv
  replace a0 := old2 a0 hv
  replace a1 := old2 a1 hv
  replace a2 := old2 a2 hv
  clear hv
  go_wp2_with fail
  refine (copy_nil _).mono ?_
  rintro _ v1 ⟨rfl, hv⟩
  replace hb := bn hb hv
  replace h := old2 h hv
  replace a0 := old2 a0 hv
  replace a1 := old2 a1 hv
  replace a2 := old2 a2 hv
  clear hv
  go_wp2_with fail
  refine (all_zero _ _ h).mono ?_
  rintro _ v1 ⟨rfl, hv⟩
  replace hb := bn hb hv
  replace h := old2 h hv
  replace a0 := old2 a0 hv
  replace a1 := old2 a1 hv
  replace a2 := old2 a2 hv
  clear hv
  go_wp2_with fail
  go_ret
  exact ⟨rfl, hb⟩

set_option maxRecDepth 100000 in
theorem lifted (os : Os) (started : os.Started) (H : Type) (enc : TypeId × Value → H) :
    ReturnsInHanded {} Try.checked os 9 .any (Rows.heapZeroSpec.pre6 enc Try.prog Try.f9 Rows.heapZeroRow.domain false) (Rows.heapZeroSpec.post enc Try.prog Try.f9 false true false false) := by
  refine returnsInHanded_of_change (C := Try.checked) own started (by kernel_rfl) Try.func9
    (ChangeSpec.witness6 (enc := enc) (C := Try.checked) false ⟨#[], #[.int .i64 0, .int .i64 0, .agg #[.int .i64 0, .int .i64 0, .int .i64 0]], []⟩ 8 (by kernel_rfl) (by kernel_rfl) (by kernel_rfl) (by kernel_rfl)) ?_
  intro W base args ds gs before hval0 hW hcnd _
  have hval : ∀ (j : Nat) t v, Try.f9.params[j]? = some t → args[j]? = some v → Value.okWide Try.prog W .any base t v := hval0
  have hW' := hW
  obtain ⟨p, q, hA0, hV, rfl, hfz, hnd⟩ := hW
  have hA : DataW.TrodAll enc Try.prog W 0 (fun _ => true) true Try.f9.params.toList args.toList ds p := hA0
  rw [Try.params9] at hA hval
  obtain ⟨v0, vs0, d0, ds0, p0, q0, hargs, rfl, rfl, h0, r0⟩ := trodAll_cons hA
  obtain ⟨v1, vs1, d1, ds1, p1, q1, rfl, rfl, rfl, h1, r1⟩ := trodAll_cons r0
  obtain ⟨v2, vs2, d2, ds2, p2, q2, rfl, rfl, rfl, h2, r2⟩ := trodAll_cons r1
  obtain ⟨rfl, rfl, rfl⟩ := trodAll_nil r2
  obtain rfl : args = #[v0, v1, v2] := by cases args; simp_all
  obtain ⟨rfl, rfl⟩ := trodVars_none hV
  obtain ⟨x0, rfl, rfl, rfl, wx0⟩ := open_int Try.underlying3 (hval 0 3 v0 rfl rfl) h0
  obtain ⟨x1, rfl, rfl, rfl, wx1⟩ := open_int Try.underlying3 (hval 1 3 v1 rfl rfl) h1
  have k2 := h2
  have lt2 : ∀ x ∈ p2, x.block < W.heap.size := by obtain ⟨m, hm⟩ := k2; exact DataW.trod_lt m _ _ _ hm
  obtain ⟨x2, y2, z2, ht2⟩ : ∃ x y z : Int, v2 = .agg #[.int .i64 x, .int .i64 y, .int .i64 z] := by
    obtain ⟨c0, c1, c2, y0, y1, y2, n, hv, hd, hp, t0, t1, t2⟩ := Go.Joins.open_agg3 Try.underlying49 (by kernel_rfl) (by kernel_rfl) (hval 2 49 v2 rfl rfl) h2
    obtain ⟨n0, q0, _, s0⟩ := DataW.trod_int Try.underlying3 t0
    obtain ⟨n1, q1, _, s1⟩ := DataW.trod_int Try.underlying2 t1
    obtain ⟨n2, q2, _, s2⟩ := DataW.trod_int Try.underlying3 t2
    simp only [List.cons.injEq, and_true] at q0 q1 q2
    subst q0 q1 q2
    exact ⟨n0, n1, n2, hv⟩
  subst ht2
  clear hA0 hval0
  refine (walk x0 x1 x2 y2 z2 W wx0 wx1).mono fun e W' ⟨he, bel⟩ => ?_
  subst he
  exact ⟨_, rfl, _, _, _, [], _, [], hW', trodAll_mk1 (shut_bool Try.underlying4 _), (trodAll_cons_mk (shut_int Try.underlying3 wx0) (trodAll_cons_mk (shut_int Try.underlying3 wx1) (trodAll_cons_mk (Below.trod laidOut (by kernel_rfl) (of_decide_eq_true (by kernel_rfl)) k2 bel lt2) trodAll_mk0))), rfl, bel.frame _, fun h => by cases h⟩

theorem closed : joinedFacts Try.prog 9 Try.f9 Rows.heapZeroSpec Rows.heapZeroRow = true := by
  have h1 := mayEnter_fact
  have h2 : (Rows.heapZeroRow.lifted == Try.prog.liftsFinal) = true := by rw [lifts_fact]; rfl
  have h3 : (Try.prog.make == some Rows.heapZeroRow.make) = true := by rw [make_fact]; rfl
  have hfin : ∀ b : Bool, b = true → b = true := fun _ h => h
  unfold joinedFacts
  rw [h1, h2, h3]
  clear h1 h2 h3
  refine hfin _ ?_
  kernel_rfl

theorem over : Rows.heapZeroRow.holds Try.pinned (OpenSpec.ofChange Rows.heapZeroSpec) :=
  OpenClaim.holds_of_wide 9 Try.f9 rfl rfl rfl rfl rfl rfl rfl ⟨rfl, rfl, rfl, rfl, rfl⟩ rfl rfl rfl rfl rfl (by kernel_rfl) Try.func9 closed
    (of_decide_eq_true (by kernel_rfl)) (by unfold Func.isWrapper; first | (rw [if_pos (by decide +kernel)]; kernel_rfl) | (rw [if_neg (by decide +kernel)]; exact ⟨rfl, rfl⟩))
    (fun os started H enc _ => lifted os started H enc)

/-- The statement. -/
theorem proved : Rows.HeapZeroSaid := over
#print axioms proved

end Go.Proofs.Ytpfgdgelnehjpaa.HeapZeroP
