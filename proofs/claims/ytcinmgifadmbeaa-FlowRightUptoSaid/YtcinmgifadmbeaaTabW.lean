/- What ops.table, ops.of, ops.Shape, ops.Name and the reference's Shape, Name answer. -/
import Derived.Test.YtcinmgifadmbeaaTabT
import Derived.Deep.WholeRow
namespace Go.Proofs.Ytcinmgifadmbeaa
open Go.RowKit
set_option linter.unusedVariables false

theorem results_cell {P : Program} {fn : Func} {a : Nat} {t : TypeId} {tmps : Array Value} {ad : Addr} {v : Value} {w : World} (hr : fn.results = #[.cell a t]) (hp : tmps.getD a undef = .pointer (some ad)) (hl : (loadVar t ad).run P w = .ok v w) : (results fn tmps).run P w = .ok v w := by
  have hp' : tmps[a]?.getD undef = .pointer (some ad) := by simpa using hp
  have hl' := hl
  simp only [loadVar, go_sem] at hl'
  unfold results
  rw [hr]
  simp [hp', asAddr, go_sem]
  simpa using hl'

set_option maxRecDepth 100000 in
set_option linter.unusedSimpArgs false in
theorem table_any (w : World) :
    Calls Try.prog 52 #[] w fun e w' => e = .returned (.agg tabCells) ∧ w' = w.alloc (.cells tabCells 98) := by
  refine calls_of_wp Try.func52 tab_body ?_
  rw [tabBody_eq]
  refine wp_seq (wp_region_vals 1 _ _ (tabOps0_vals w) ?_)
  rw [tabOps0_drop]
  refine wpList_nil ?_
  show Code.wp _ _ _ _ _
  refine wp_seq (wp_region_vals 121 _ _ (tab_vals _ _) ?_)
  rw [tabOps_drop]
  refine wpList_plain tabLast_guard fun K hK => ?_
  unfold Oper.wp execOp
  simp only [tabLast_op, Act.eval, tab_p, tab_agg, Sem.run_bind, run_storeAt_new w _ _ _ tab_size tab_zsize tab_one, Result.andThen_ok, Sem.run_pure]
  refine hK _ _ (wpList_nil ?_)
  show Code.wp _ _ _ _ _
  refine wp_ret (bodyPost_ret (v := .agg tabCells) ?_ rfl ⟨rfl, rfl⟩)
  rw [tabLast_dst]
  exact results_cell (a := 0) (t := 98) (by kernel_rfl) (tab_p _ _) (run_loadVar_new w _ _ 200 _ tab_under tab_size)

theorem pairs_at (a b : Nat → Value) : ∀ (n s k : Nat), k < n → ((List.range' s n).flatMap fun k => [a k, b k])[2 * k]? = some (a (s + k)) ∧ ((List.range' s n).flatMap fun k => [a k, b k])[2 * k + 1]? = some (b (s + k)) := by
  intro n
  induction n with
  | zero => intro s k hk; omega
  | succ n ih =>
    intro s k hk
    rw [List.range'_succ, List.flatMap_cons]
    cases k with
    | zero => simp
    | succ k =>
      obtain ⟨h1, h2⟩ := ih (s + 1) k (by omega)
      rw [show 2 * (k + 1) = 2 * k + 1 + 1 from by omega, show s + (k + 1) = s + 1 + k from by omega]
      simp only [List.cons_append, List.nil_append, List.getElem?_cons_succ]
      exact ⟨h1, h2⟩

theorem tab_at (k : Nat) (hk : k < 200) : tabCells[2 * k]? = some (.string (nm k)) ∧ tabCells[2 * k + 1]? = some (.int .u8 (sh k)) := by
  unfold tabCells
  rw [List.range_eq_range']
  have := pairs_at (fun k => .string (nm k)) (fun k => .int .u8 (sh k)) 200 0 k hk
  simpa using this

theorem index_tab (k : Int) (h0 : 0 ≤ k) (h1 : k < 200) (w : World) :
    (Instr.index 98 (.agg tabCells) (.int .i64 k)).run Try.prog w = .ok (.agg #[.string (nm k), .int .u8 (sh k)]) w := by
  obtain ⟨h2, h3⟩ := tab_at k.toNat (by omega)
  have hk : ((k.toNat : Nat) : Int) = k := by omega
  rw [hk] at h2 h3
  unfold Instr.index
  have : tabCells.extract (k.toNat * 2) (k.toNat * 2 + 2) = #[Value.string (nm k), Value.int IntKind.u8 (sh k)] := by
    rw [Nat.mul_comm k.toNat 2]
    have e := (Array.getElem?_eq_some_iff.1 h3).1
    apply Array.ext
    · simp; omega
    · intro i i1 i2
      simp only [Array.getElem_extract]
      simp at i2
      have : i = 0 ∨ i = 1 := by omega
      rcases this with rfl | rfl
      · simpa using (Array.getElem?_eq_some_iff.1 h2).2
      · simpa using (Array.getElem?_eq_some_iff.1 h3).2
  simp [this, asIntOf, run_underlying tab_under, h0, h1, go_sem]

theorem rowOf_none {k : Int} (h : ¬ (0 ≤ k ∧ k < 200)) : rowOf k = none := by
  unfold rowOf
  rw [List.find?_eq_none]
  intro r hr
  have := List.all_eq_true.1 codeRows_in r hr
  simp only [Bool.and_eq_true, decide_eq_true_eq] at this
  simp only [beq_iff_eq]
  omega
theorem nm_none {k : Int} (h : ¬ (0 ≤ k ∧ k < 200)) : nm k = .empty := by unfold nm; rw [rowOf_none h]
theorem sh_none {k : Int} (h : ¬ (0 ≤ k ∧ k < 200)) : sh k = 0 := by unfold sh; rw [rowOf_none h]

set_option maxRecDepth 100000 in
theorem of_any (k : Int) (w : World) :
    Calls Try.prog 35 #[.int .i64 k] w fun e w' => e = .returned (.agg #[.string (nm k), .int .u8 (sh k)]) ∧ Below w.heap.size w w' := by
  by_cases h : 0 ≤ k ∧ k < 200
  · obtain ⟨h0, h1⟩ := h
    have b1 : decide (k < 0) = false := decide_eq_false (by omega)
    have b2 : decide (200 ≤ k) = false := decide_eq_false (by omega)
    have hi := fun w => index_tab k h0 h1 w
    generalize nm k = s at hi ⊢
    generalize sh k = g at hi ⊢
    clear h0 h1
    go_enter Try.func35, Try.ntmps35
    go_wp2_with (refine (table_any _).mono ?_; rintro e w' ⟨rfl, rfl⟩)
    exact bodyPost_ret (v := .agg #[.string s, .int .u8 g]) (by simp [results, Try.results35, go_sem]) rfl ⟨rfl, ((Below.refl _ _).alloc (Nat.le_refl _) _).alloc (by simp) _⟩
  · rw [nm_none h, sh_none h]
    by_cases h0 : k < 0
    · have b1 : decide (k < 0) = true := decide_eq_true h0
      clear h h0
      go_enter Try.func35, Try.ntmps35
      go_wp2_with fail
      exact bodyPost_ret (v := .agg #[.string .empty, .int .u8 0]) (by simp [results, Try.results35, go_sem]; rfl) rfl ⟨rfl, (Below.refl _ _).alloc (Nat.le_refl _) _⟩
    · have b1 : decide (k < 0) = false := decide_eq_false h0
      have b2 : decide (200 ≤ k) = true := decide_eq_true (by omega)
      clear h h0
      go_enter Try.func35, Try.ntmps35
      go_wp2_with fail
      exact bodyPost_ret (v := .agg #[.string .empty, .int .u8 0]) (by simp [results, Try.results35, go_sem]; rfl) rfl ⟨rfl, (Below.refl _ _).alloc (Nat.le_refl _) _⟩

/-- Is a number a code? -/
noncomputable def isC (k : Int) : Bool := (rowOf k).isSome

theorem nm_isC (k : Int) : (!(nm k).toList.isEmpty) = isC k := by
  unfold nm isC
  cases h : rowOf k with
  | none => simp
  | some r =>
    have hr : r ∈ codeRows := List.mem_of_find?_eq_some h
    have := List.all_eq_true.1 codeRows_in r hr
    simp only [Bool.and_eq_true, decide_eq_true_eq, bne_iff_ne, ne_eq] at this
    have hne := this.2
    show (!r.2.1.toList.isEmpty) = true
    rw [ByteArray.toList_eq]
    cases hl : r.2.1.data.toList with
    | nil => rw [hl] at hne; exact absurd rfl hne
    | cons a l => rfl

set_option maxRecDepth 100000 in
theorem shape_any (k : Int) (w : World) :
    Calls Try.prog 15 #[.int .i64 k] w fun e w' => e = .returned (.tuple #[.int .u8 (sh k), .bool (isC k)]) ∧ Below w.heap.size w w' := by
  have hf := fun w => Lib.hid (of_any k w)
  rw [← nm_isC k]
  generalize nm k = s at hf ⊢
  generalize sh k = g at hf ⊢
  go_enter Try.func15, Try.ntmps15
  go_wp2_with (refine (hf _).out.mono ?_; rintro e w' ⟨rfl, hb⟩)
  go_quiet (fail)
  go_wp2_with fail
  exact bodyPost_ret (v := .tuple #[.int .u8 g, .bool (!s.toList.isEmpty)]) (by simp [results, Try.results15, go_sem]) rfl ⟨rfl, below_drewN (hb.alloc hb.size _) _⟩

set_option maxRecDepth 100000 in
theorem name_any (k : Int) (w : World) :
    Calls Try.prog 17 #[.int .i64 k] w fun e w' => e = .returned (.string (nm k)) ∧ Below w.heap.size w w' := by
  have hf := fun w => Lib.hid (of_any k w)
  generalize nm k = s at hf ⊢
  generalize sh k = g at hf ⊢
  have hfl : ∀ w, Sem.run Try.prog (Instr.field 65 (.agg #[.string s, .int .u8 g]) 0) w = .ok (.string s) w := fun w => by kernel_rfl
  go_enter Try.func17, Try.ntmps17
  go_wp2_with (refine (hf _).out.mono ?_; rintro e w' ⟨rfl, hb⟩)
  go_ret
  exact ⟨rfl, hb⟩

theorem codeCells_at {i : Nat} {r : Int × ByteArray × Int} (h : codeRows[i]? = some r) : codeCells[3 * i]? = some (.int .i64 r.1) ∧ codeCells[3 * i + 1]? = some (.string r.2.1) ∧ codeCells[3 * i + 2]? = some (.int .u8 r.2.2) := by
  unfold codeCells
  revert i
  generalize codeRows = l
  induction l with
  | nil => intro i h; simp at h
  | cons x l ih =>
    intro i h
    cases i with
    | zero => simp at h; subst h; simp
    | succ i =>
      obtain ⟨h1, h2, h3⟩ := ih (i := i) (by simpa using h)
      rw [show 3 * (i + 1) = 3 * i + 1 + 1 + 1 from by omega]
      simp only [List.flatMap_cons, List.cons_append, List.nil_append, List.getElem?_toArray, List.getElem?_cons_succ] at *
      exact ⟨h1, h2, h3⟩

