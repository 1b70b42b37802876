/- OpsTwice: for every instruction: its plain form is its own plain form, a code just if the instruction is, at the same place and as long. -/
import Derived.Test.YtcinmgifadmbeaaPlainR
import Derived.Test.YtcinmgifadmbeaaHead
import Derived.Test.YtcinmgifadmbeaaOpenG
import Derived.Deep.RegionHeld3
import Derived.Lib.SmallJoins
import Derived.ProofKit
import Derived.OpenShut
import Derived.ShutString
import Derived.ChangeOld
import Derived.Laws.StructEq
namespace Go.Proofs.Ytcinmgifadmbeaa.OpsTwiceP
open Go.ChangeShapes Go.WideShapes Go.ChangeAt Go.RowKit
open Go.ChangeMaps (open_string shut_string)
set_option linter.unusedVariables false

theorem own : ownKnob Try.prog.godebug = none := by kernel_rfl
theorem laidOut : laidOutB Try.prog = true := by kernel_rfl

theorem in64_wf {n : Int} (h : (Lit.int .i64 n).wf = true) : in64 n := by
  simp only [Lit.wf, Bool.and_eq_true, decide_eq_true_eq] at h
  have h1 : IntKind.i64.min = -9223372036854775808 := by decide
  have h2 : IntKind.i64.max = 9223372036854775807 := by decide
  rw [h1, h2] at h
  unfold in64
  omega

/-- The instruction's box stands, and what was there stands. -/
def HS (w0 : World) (t : Ins) (w : World) : Prop := Blk w w0.heap.size 28 #[.int .i64 t.at_, .int .i64 t.op, .int .i64 t.a, .int .i64 t.b, .int .i64 t.size] ∧ Below w0.heap.size w0 w
theorem HS.cells {w0 w : World} {t : Ins} (h : HS w0 t w) : w.cell? ⟨w0.heap.size, 0, none⟩ = some (.int .i64 t.at_) ∧ w.cell? ⟨w0.heap.size, 1, none⟩ = some (.int .i64 t.op) ∧ w.cell? ⟨w0.heap.size, 2, none⟩ = some (.int .i64 t.a) ∧ w.cell? ⟨w0.heap.size, 3, none⟩ = some (.int .i64 t.b) ∧ w.cell? ⟨w0.heap.size, 4, none⟩ = some (.int .i64 t.size) ∧ HS w0 t w :=
  ⟨h.1.cell 0, h.1.cell 1, h.1.cell 2, h.1.cell 3, h.1.cell 4, h⟩
theorem HS.next {w0 w w' : World} {t : Ins} (h : HS w0 t w) (hb : Below w.heap.size w w') : HS w0 t w' := ⟨h.1.below hb h.1.lt, h.2.trans (hb.mono h.2.size)⟩

theorem plainOf_form (i : Ins) : ∀ l : List (Int × Int × Int × Int), (plainOf i l).at_ = i.at_ ∧ (plainOf i l).size = i.size
  | [] => ⟨rfl, rfl⟩
  | r :: rs => by
    unfold plainOf
    split
    · exact ⟨rfl, rfl⟩
    · exact plainOf_form i rs
theorem plainI_form (i : Ins) : (plainI i).at_ = i.at_ ∧ (plainI i).size = i.size := by
  unfold plainI
  split
  · exact ⟨rfl, rfl⟩
  · exact plainOf_form i _

/-- The codes that plain forms of other codes have, the codes that are not their own plain forms. -/
theorem plainI_cases (i : Ins) : plainI i = i ∨ ((plainI i).op = 17 ∨ (plainI i).op = 9 ∨ (plainI i).op = 21 ∨ (plainI i).op = 22 ∨ (plainI i).op = 25 ∨ (plainI i).op = 54 ∨ (plainI i).op = 55 ∨ (plainI i).op = 58) ∧
    (i.op = 16 ∨ 2 ≤ i.op ∧ i.op < 9 ∨ i.op = 10 ∨ 26 ≤ i.op ∧ i.op < 34 ∨ 42 ≤ i.op ∧ i.op < 46 ∨ 59 ≤ i.op ∧ i.op < 67 ∨ 75 ≤ i.op ∧ i.op < 79) := by
  unfold plainI plainRows plainOf plainOf plainOf plainOf plainOf plainOf plainOf plainOf plainOf
  dsimp only
  repeat' split
  all_goals first
    | exact .inl rfl
    | (right; refine ⟨?_, ?_⟩ <;> (try dsimp only) <;> omega)
theorem plainI_self (i : Ins) (h : i.op = 17 ∨ i.op = 9 ∨ i.op = 21 ∨ i.op = 22 ∨ i.op = 25 ∨ i.op = 54 ∨ i.op = 55 ∨ i.op = 58) : plainI i = i := by
  unfold plainI plainRows plainOf plainOf plainOf plainOf plainOf plainOf plainOf plainOf plainOf
  dsimp only
  rw [if_neg (by omega), if_neg (by omega), if_neg (by omega), if_neg (by omega), if_neg (by omega), if_neg (by omega), if_neg (by omega), if_neg (by omega), if_neg (by omega)]
theorem plainI_twice (i : Ins) : plainI (plainI i) = plainI i := by
  rcases plainI_cases i with h | ⟨h, _⟩
  · rw [h, h]
  · exact plainI_self _ h
theorem isC_all : (([17, 9, 21, 22, 25, 54, 55, 58, 16, 2, 3, 4, 5, 6, 7, 8, 10, 26, 27, 28, 29, 30, 31, 32, 33, 42, 43, 44, 45, 59, 60, 61, 62, 63, 64, 65, 66, 75, 76, 77, 78] : List Int).all fun k => isC k) = true := by kernel_rfl
theorem isC_mem {k : Int} (h : k ∈ ([17, 9, 21, 22, 25, 54, 55, 58, 16, 2, 3, 4, 5, 6, 7, 8, 10, 26, 27, 28, 29, 30, 31, 32, 33, 42, 43, 44, 45, 59, 60, 61, 62, 63, 64, 65, 66, 75, 76, 77, 78] : List Int)) : isC k = true := List.all_eq_true.1 isC_all k h
theorem isC_plain (i : Ins) : isC (plainI i).op = isC i.op := by
  rcases plainI_cases i with h | ⟨h, k⟩
  · rw [h]
  · rw [isC_mem (k := (plainI i).op) (by simp only [List.mem_cons, List.not_mem_nil, or_false]; omega), isC_mem (k := i.op) (by simp only [List.mem_cons, List.not_mem_nil, or_false]; omega)]
theorem plainI_in (i : Ins) (h : i.In) : (plainI i).In := by
  obtain ⟨⟨h0, h1⟩, ⟨h2, h3⟩, ⟨h4, h5⟩, ⟨h6, h7⟩, ⟨h8, h9⟩⟩ := h
  unfold plainI plainRows plainOf plainOf plainOf plainOf plainOf plainOf plainOf plainOf plainOf
  dsimp only
  repeat' split
  all_goals (constructor <;> dsimp only [in64] <;> omega)

/-- Two boxes stand, and what was there stands. -/
def H2 (w0 : World) (t : Ins) (g : Nat) (p : Ins) (w : World) : Prop := HS w0 t w ∧ Blk w g 28 #[.int .i64 p.at_, .int .i64 p.op, .int .i64 p.a, .int .i64 p.b, .int .i64 p.size]
theorem H2.cells {w0 w : World} {t p : Ins} {g : Nat} (h : H2 w0 t g p w) : (w.cell? ⟨w0.heap.size, 0, none⟩ = some (.int .i64 t.at_) ∧ w.cell? ⟨w0.heap.size, 1, none⟩ = some (.int .i64 t.op) ∧ w.cell? ⟨w0.heap.size, 4, none⟩ = some (.int .i64 t.size)) ∧
    w.cell? ⟨g, 0, none⟩ = some (.int .i64 p.at_) ∧ w.cell? ⟨g, 1, none⟩ = some (.int .i64 p.op) ∧ w.cell? ⟨g, 2, none⟩ = some (.int .i64 p.a) ∧ w.cell? ⟨g, 3, none⟩ = some (.int .i64 p.b) ∧ w.cell? ⟨g, 4, none⟩ = some (.int .i64 p.size) ∧ H2 w0 t g p w :=
  ⟨⟨h.1.1.cell 0, h.1.1.cell 1, h.1.1.cell 4⟩, h.2.cell 0, h.2.cell 1, h.2.cell 2, h.2.cell 3, h.2.cell 4, h⟩
theorem H2.next {w0 w w' : World} {t p : Ins} {g : Nat} (h : H2 w0 t g p w) (hb : Below w.heap.size w w') : H2 w0 t g p w' := ⟨h.1.next hb, h.2.below hb h.2.lt⟩

set_option maxRecDepth 100000 in
set_option maxHeartbeats 1000000 in
theorem walk (i : Ins) (w : World) (hi : i.In) :
    Calls Try.prog 5 #[i.val] w fun e w' => e = .returned (.bool true) ∧ Below w.heap.size w w' := by
  have hH0 : HS w i (w.alloc (.cells #[.int .i64 i.at_, .int .i64 i.op, .int .i64 i.a, .int .i64 i.b, .int .i64 i.size] 28)) := ⟨Blk.new _ _ _, (Below.refl _ _).alloc (Nat.le_refl _) _⟩
  have h1 := fun w => Lib.hid (plain_any i w hi)
  have h2 := fun w => Lib.hid (plain_any (plainI i) w (plainI_in i hi))
  rw [plainI_twice] at h2
  have h3 := fun w => Lib.hid (shape_any i.op w)
  have h4 := fun w => Lib.hid (shape_any (plainI i).op w)
  rw [isC_plain] at h4
  obtain ⟨e1, e2⟩ := plainI_form i
  generalize plainI i = j at *
  generalize isC i.op = bc at *
  generalize sh i.op = s1 at *
  generalize sh j.op = s2 at *
  obtain ⟨a1, a2, a3, a4, a5⟩ := j
  dsimp only at e1 e2
  subst e1 e2
  unfold Ins.val at *
  clear hi
  go_enter Try.func5, Try.ntmps5
  go_wp2_with fail
  refine (h1 _).out.mono ?_
  rintro e w1 ⟨rfl, hb1⟩
  have hH1 := hH0.next hb1
  have hc1 := hH1.cells
  have hl1 : w.heap.size < w1.heap.size := hH1.1.lt
  have hA : H2 w i w1.heap.size ⟨i.at_, a2, a3, a4, i.size⟩ (w1.alloc (.cells #[.int .i64 i.at_, .int .i64 a2, .int .i64 a3, .int .i64 a4, .int .i64 i.size] 28)) := ⟨hH1.next ((Below.refl _ _).alloc (Nat.le_refl _) _), Blk.new _ _ _⟩
  go_wp2_with fail
  refine (h3 _).out.mono ?_
  rintro e w2 ⟨rfl, hb2⟩
  have hH2 := hA.next hb2
  have hc2 := hH2.cells
  clear hA hb2 hc1 hH1 hb1 hl1 h3
  generalize w1.heap.size = g at hH2 hc2 ⊢
  go_wp2_with fail
  refine (h4 _).out.mono ?_
  rintro e w3 ⟨rfl, hb3⟩
  have hH3 := hH2.next hb3
  have hc3 := hH3.cells
  clear hH2 hb3 hc2 h4
  have hS0 : H2 w i g ⟨i.at_, a2, a3, a4, i.size⟩ w3.drew := ⟨⟨hH3.1.1, hH3.1.2.drew⟩, hH3.2⟩
  have hS1 := hS0.cells
  go_wp2_with fail
  go_region_held3 (fun w' => (w'.cell? ⟨w.heap.size, 0, none⟩ = some (.int .i64 i.at_) ∧ w'.cell? ⟨w.heap.size, 1, none⟩ = some (.int .i64 i.op) ∧ w'.cell? ⟨w.heap.size, 4, none⟩ = some (.int .i64 i.size)) ∧
    w'.cell? ⟨g, 0, none⟩ = some (.int .i64 i.at_) ∧ w'.cell? ⟨g, 1, none⟩ = some (.int .i64 a2) ∧ w'.cell? ⟨g, 2, none⟩ = some (.int .i64 a3) ∧ w'.cell? ⟨g, 3, none⟩ = some (.int .i64 a4) ∧ w'.cell? ⟨g, 4, none⟩ = some (.int .i64 i.size) ∧ H2 w i g ⟨i.at_, a2, a3, a4, i.size⟩ w')
    (first | exact hS1 | assumption)
    (first
      | (go_at_call 20; go_split_ands; refine (h2 _).out.mono ?_; rintro e w5 ⟨rfl, hb5⟩; have hH5 := (H2.next (by assumption) hb5).cells)
      | (go_at_call 19; go_split_ands; refine (awake06 _).mono ?_; rintro e w5 ⟨rfl, hb5⟩; have hH5 := (H2.next (by assumption) hb5).cells))
  go_wp2_with fail
  go_ret
  exact ⟨rfl, hH5.2.2.2.2.2.2.1.2⟩

set_option maxRecDepth 100000 in
theorem lifted (os : Os) (started : os.Started) (H : Type) (enc : TypeId × Value → H) :
    ReturnsInHanded {} Try.checked os 5 .any (Rows.opsTwiceSpec.pre6 enc Try.prog Try.f5 Rows.opsTwiceRow.domain false) (Rows.opsTwiceSpec.post enc Try.prog Try.f5 false true false false) := by
  refine returnsInHanded_of_change (C := Try.checked) own started (by kernel_rfl) Try.func5
    (ChangeSpec.witness6 (enc := enc) (C := Try.checked) false ⟨#[], #[.agg #[.int .i64 0, .int .i64 0, .int .i64 0, .int .i64 0, .int .i64 0]], []⟩ 8 (by kernel_rfl) (by kernel_rfl) (by kernel_rfl) (by kernel_rfl)) ?_
  intro W base args ds gs before hval0 hW hcnd _
  have hval : ∀ (j : Nat) t v, Try.f5.params[j]? = some t → args[j]? = some v → Value.okWide Try.prog W .any base t v := hval0
  have hW' := hW
  obtain ⟨p, q, hA0, hV, rfl, hfz, hnd⟩ := hW
  have hA : DataW.TrodAll enc Try.prog W 0 (fun _ => true) true Try.f5.params.toList args.toList ds p := hA0
  rw [Try.params5] at hA hval
  obtain ⟨v0, vs0, d0, ds0, p0, q0, hargs, rfl, rfl, h0, r0⟩ := trodAll_cons hA
  obtain ⟨rfl, rfl, rfl⟩ := trodAll_nil r0
  obtain rfl : args = #[v0] := by cases args; simp_all
  obtain ⟨rfl, rfl⟩ := trodVars_none hV
  have k0 := h0
  have lt0 : ∀ x ∈ p0, x.block < W.heap.size := by obtain ⟨m, hm⟩ := k0; exact DataW.trod_lt m _ _ _ hm
  obtain ⟨t0, ht0, w0⟩ : ∃ t : Ins, v0 = t.val ∧ t.In := by
    obtain ⟨c0, c1, c2, c3, c4, y0, y1, y2, y3, y4, n, hv, hd, hp, t0, t1, t2, t3, t4⟩ := open_agg5 Try.underlying28 (by kernel_rfl) (by kernel_rfl) (hval 0 28 v0 rfl rfl) h0
    obtain ⟨n0, q0, _, s0⟩ := DataW.trod_int Try.underlying3 t0
    obtain ⟨n1, q1, _, s1⟩ := DataW.trod_int Try.underlying3 t1
    obtain ⟨n2, q2, _, s2⟩ := DataW.trod_int Try.underlying3 t2
    obtain ⟨n3, q3, _, s3⟩ := DataW.trod_int Try.underlying3 t3
    obtain ⟨n4, q4, _, s4⟩ := DataW.trod_int Try.underlying3 t4
    simp only [List.cons.injEq, and_true] at q0 q1 q2 q3 q4
    subst q0 q1 q2 q3 q4
    exact ⟨⟨n0, n1, n2, n3, n4⟩, hv, ⟨in64_wf s0, in64_wf s1, in64_wf s2, in64_wf s3, in64_wf s4⟩⟩
  subst ht0
  clear hA0 hval0
  refine (walk t0 W w0).mono fun e W' ⟨he, bel⟩ => ?_
  subst he
  exact ⟨_, rfl, _, _, _, [], _, [], hW', trodAll_mk1 (shut_bool Try.underlying4 _), (trodAll_cons_mk (Below.trod laidOut (by kernel_rfl) (of_decide_eq_true (by kernel_rfl)) k0 bel lt0) trodAll_mk0), rfl, bel.frame _, fun h => by cases h⟩

theorem closed : joinedFacts Try.prog 5 Try.f5 Rows.opsTwiceSpec Rows.opsTwiceRow = true := by
  have h1 := mayEnter_fact
  have h2 : (Rows.opsTwiceRow.lifted == Try.prog.liftsFinal) = true := by rw [lifts_fact]; rfl
  have h3 : (Try.prog.make == some Rows.opsTwiceRow.make) = true := by rw [make_fact]; rfl
  have hfin : ∀ b : Bool, b = true → b = true := fun _ h => h
  unfold joinedFacts
  rw [h1, h2, h3]
  clear h1 h2 h3
  refine hfin _ ?_
  kernel_rfl

theorem over : Rows.opsTwiceRow.holds Try.pinned (OpenSpec.ofChange Rows.opsTwiceSpec) :=
  OpenClaim.holds_of_wide 5 Try.f5 rfl rfl rfl rfl rfl rfl rfl ⟨rfl, rfl, rfl, rfl, rfl⟩ rfl rfl rfl rfl rfl (by kernel_rfl) Try.func5 closed
    (of_decide_eq_true (by kernel_rfl)) (by unfold Func.isWrapper; first | (rw [if_pos (by decide +kernel)]; kernel_rfl) | (rw [if_neg (by decide +kernel)]; exact ⟨rfl, rfl⟩))
    (fun os started H enc _ => lifted os started H enc)

/-- The statement. -/
theorem proved : Rows.OpsTwiceSaid := over
#print axioms proved

end Go.Proofs.Ytcinmgifadmbeaa.OpsTwiceP
