/- WireWrites: for every limit and every script of calls: the program's writer and the reference's answer and hold the same. -/
import Derived.Test.YtahmhkabipcfiaaOps1
import Derived.Test.YtahmhkabipcfiaaOpen
import Derived.ShutString
import Derived.ChangeOld
namespace Go.Proofs.Ytahmhkabipcfiaa.WireWritesP
open Go.ChangeShapes Go.WideShapes Go.ChangeAt Go.RowKit Go.Deep
open Go.ChangeMaps (open_string shut_string)
set_option linter.unusedVariables false

theorem own : ownKnob Try.prog.godebug = none := by kernel_rfl
theorem laidOut : laidOutB Try.prog = true := by kernel_rfl

theorem open_script {H : Type} {enc : TypeId × Value → H} {w : World} {base : Nat} {spare : Nat → Bool} {held : Bool} {fuel : Nat} {a : Option Addr} {len cap : Nat} {x : DataW H × List MemPlace}
    (h : DataW.trod enc Try.prog w base spare held fuel 22 [.slice a len cap] = some x) :
    ∃ os : List Call, os.length = len ∧ len ≤ maxLen ∧ Script w w.heap.size a os ∧ ∀ o ∈ os, -9223372036854775808 ≤ o.y ∧ o.y < 9223372036854775808 := by
  rcases open_slice_fields Try.underlying22 Try.underlying33 (by kernel_rfl) (by kernel_rfl) h with ⟨hcs, _⟩ | ⟨x0, l, c, m, D, Pl, hcs, hb, hl, hm, hmm, hx, hi⟩
  · simp only [List.cons.injEq, and_true, Value.slice.injEq] at hcs
    obtain ⟨rfl, rfl, rfl⟩ := hcs
    exact ⟨[], rfl, by unfold maxLen; omega, fun k o ho => by simp at ho, fun o ho => by cases ho⟩
  · simp only [List.cons.injEq, and_true, Value.slice.injEq] at hcs
    obtain ⟨rfl, rfl, rfl⟩ := hcs
    have hml : len ≤ m := by rw [hmm]; split <;> omega
    obtain ⟨os, hos, hP⟩ := list_choose (n := len) (P := fun i o => (CallAt w w.heap.size (x0.add (i * 5)) o) ∧ -9223372036854775808 ≤ o.y ∧ o.y < 9223372036854775808) fun i hil => by
      obtain ⟨ys, n, hD, hPl, hyl, hf⟩ := hi i (by omega)
      obtain ⟨v0, y0, c0, e0, t0⟩ := hf 0 _ rfl
      obtain ⟨v1, y1, c1, e1, t1⟩ := hf 1 _ rfl
      obtain ⟨v2, y2, c2, e2, t2⟩ := hf 2 _ rfl
      obtain ⟨v3, y3, c3, e3, t3⟩ := hf 3 _ rfl
      obtain ⟨v4, y4, c4, e4, t4⟩ := hf 4 _ rfl
      obtain ⟨n0, q0, _, _⟩ := DataW.trod_int Try.underlying3 t0
      obtain ⟨n1, q1, _, _⟩ := DataW.trod_int Try.underlying3 t1
      obtain ⟨n2, q2, _, _⟩ := DataW.trod_int Try.underlying30 t2
      obtain ⟨n3, q3, _, w3⟩ := DataW.trod_int Try.underlying2 t3
      simp only [List.cons.injEq, and_true] at q0 q1 q2 q3
      subst q0 q1 q2 q3
      obtain ⟨A4, l4, c4', bs, rfl, h41, h42, h43, h44, h45, _⟩ := open_bytes t4
      have hw3 := bounds_i64 w3
      refine ⟨⟨n0, n1, n2, n3, bs⟩, ⟨A4, l4, c4', c0, ?_, ?_, ?_, ?_, h45, h41, h42, h43⟩, by exact hw3.1, by have := hw3.2; show n3 < _; omega⟩
      · rw [add_of_add]; exact c1
      · rw [add_of_add]; exact c2
      · rw [add_of_add]; exact c3
      · rw [add_of_add]; exact c4
    refine ⟨os, hos, by omega, fun k o ho => ⟨x0, rfl, ?_, (hP k o ho).1⟩, fun o ho => ?_⟩
    · obtain ⟨⟨A, l, cc, hc, _⟩, _⟩ := hP k o ho
      have := block_of_cell hc
      rwa [block_of_add] at this
    · obtain ⟨k, hk⟩ := List.getElem?_of_mem ho
      exact (hP k o hk).2

set_option maxRecDepth 100000 in
set_option maxHeartbeats 1000000 in
theorem walk_bad (most : Int) (v : Value) (w : World) (h : most < 0 ∨ 1048576 < most) :
    Calls Try.prog 3 #[.int .i64 most, v] w fun e w' => e = .returned (.bool true) ∧ Below w.heap.size w w' := by
  have h1 := Lib.hid (newW_bad most w h)
  have h2 := Lib.hid (rnewW_bad most w h)
  clear h
  go_enter Try.func3, Try.ntmps3
  go_wp2_with fail
  refine h1.out.mono ?_
  rintro e w1 ⟨rfl, rfl⟩
  go_wp2_with fail
  refine h2.out.mono ?_
  rintro e w2 ⟨rfl, rfl⟩
  go_wp2_with fail
  refine wp_loop_once ?_
  go_wp2_with fail
  refine (awake_wire _).mono ?_
  rintro e w3 ⟨rfl, hb3⟩
  go_wp2_with fail
  go_ret
  exact ⟨rfl, hb3⟩

theorem walk (most : Int) (A : Option Addr) (len c : Nat) (os : List Call) (w : World) (w0 : (Lit.int .i64 most).wf = true) (hS : os.length = len ∧ len ≤ maxLen ∧ Script w w.heap.size A os ∧ ∀ o ∈ os, -9223372036854775808 ≤ o.y ∧ o.y < 9223372036854775808) :
    Calls Try.prog 3 #[.int .i64 most, .slice A len c] w fun e w' => e = .returned (.bool true) ∧ Below w.heap.size w w' := by
  obtain ⟨rfl, h1, h2, h3⟩ := hS
  by_cases h : most < 0 ∨ 1048576 < most
  · exact walk_bad most _ w h
  · exact walk_ww most A c os w h2 h1 h3 (by omega) (by omega)

set_option maxRecDepth 100000 in
theorem lifted (os : Os) (started : os.Started) (H : Type) (enc : TypeId × Value → H) :
    ReturnsInHanded {} Try.checked os 3 .any (Rows.wireWritesSpec.pre6 enc Try.prog Try.f3 Rows.wireWritesRow.domain false) (Rows.wireWritesSpec.post enc Try.prog Try.f3 false true false false) := by
  refine returnsInHanded_of_change (C := Try.checked) own started (by kernel_rfl) Try.func3
    (ChangeSpec.witness6 (enc := enc) (C := Try.checked) false ⟨#[], #[.int .i64 0, .slice none 0 0], []⟩ 8 (by kernel_rfl) (by kernel_rfl) (by kernel_rfl) (by kernel_rfl)) ?_
  intro W base args ds gs before hval0 hW hcnd _
  have hval : ∀ (j : Nat) t v, Try.f3.params[j]? = some t → args[j]? = some v → Value.okWide Try.prog W .any base t v := hval0
  have hW' := hW
  obtain ⟨p, q, hA0, hV, rfl, hfz, hnd⟩ := hW
  have hA : DataW.TrodAll enc Try.prog W 0 (fun _ => true) true Try.f3.params.toList args.toList ds p := hA0
  rw [Try.params3] at hA hval
  obtain ⟨v0, vs0, d0, ds0, p0, q0, hargs, rfl, rfl, h0, r0⟩ := trodAll_cons hA
  obtain ⟨v1, vs1, d1, ds1, p1, q1, rfl, rfl, rfl, h1, r1⟩ := trodAll_cons r0
  obtain ⟨rfl, rfl, rfl⟩ := trodAll_nil r1
  obtain rfl : args = #[v0, v1] := by cases args; simp_all
  obtain ⟨rfl, rfl⟩ := trodVars_none hV
  obtain ⟨x0, rfl, rfl, rfl, wx0⟩ := open_int Try.underlying3 (hval 0 3 v0 rfl rfl) h0
  obtain ⟨a1, len1, cap1, rfl⟩ := okWide_slice Try.underlying22 (hval 1 22 v1 rfl rfl)
  have k1 := h1
  have lt1 : ∀ x ∈ p1, x.block < W.heap.size := by obtain ⟨m, hm⟩ := k1; exact DataW.trod_lt m _ _ _ hm
  obtain ⟨fuel1, hf1⟩ := h1
  have hg1 : DataW.trod enc Try.prog W 0 (fun _ => true) true fuel1 22 [.slice a1 len1 cap1] = some (d1, p1) := by simpa [Value.cells] using hf1
  obtain ⟨os1, w1⟩ := open_script hg1
  clear hA0 hval0
  refine (walk x0 a1 len1 cap1 os1 W wx0 w1).mono fun e W' ⟨he, bel⟩ => ?_
  subst he
  exact ⟨_, rfl, _, _, _, [], _, [], hW', trodAll_mk1 (shut_bool Try.underlying4 _), (trodAll_cons_mk (shut_int Try.underlying3 wx0) (trodAll_cons_mk (Below.trod laidOut (by kernel_rfl) (of_decide_eq_true (by kernel_rfl)) k1 bel lt1) trodAll_mk0)), rfl, bel.frame _, fun h => by cases h⟩

theorem closed : joinedFacts Try.prog 3 Try.f3 Rows.wireWritesSpec Rows.wireWritesRow = true := by
  have h1 := mayEnter_fact
  have h2 : (Rows.wireWritesRow.lifted == Try.prog.liftsFinal) = true := by rw [lifts_fact]; rfl
  have h3 : (Try.prog.make == some Rows.wireWritesRow.make) = true := by rw [make_fact]; rfl
  have hfin : ∀ b : Bool, b = true → b = true := fun _ h => h
  unfold joinedFacts
  rw [h1, h2, h3]
  clear h1 h2 h3
  refine hfin _ ?_
  kernel_rfl

theorem over : Rows.wireWritesRow.holds Try.pinned (OpenSpec.ofChange Rows.wireWritesSpec) :=
  OpenClaim.holds_of_wide 3 Try.f3 rfl rfl rfl rfl rfl rfl rfl ⟨rfl, rfl, rfl, rfl, rfl⟩ rfl rfl rfl rfl rfl (by kernel_rfl) Try.func3 closed
    (of_decide_eq_true (by kernel_rfl)) (by unfold Func.isWrapper; first | (rw [if_pos (by decide +kernel)]; kernel_rfl) | (rw [if_neg (by decide +kernel)]; exact ⟨rfl, rfl⟩))
    (fun os started H enc _ => lifted os started H enc)

/-- The statement. -/
theorem proved : Rows.WireWritesSaid := over
#print axioms proved
end Go.Proofs.Ytahmhkabipcfiaa.WireWritesP
