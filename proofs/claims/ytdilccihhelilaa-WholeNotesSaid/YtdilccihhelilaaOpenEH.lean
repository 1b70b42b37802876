/- Entries that come in: one by value, and slices of them. -/
import Derived.Test.YtdilccihhelilaaEntLH
import Derived.Test.YtdilccihhelilaaOpenG
import Derived.Deep.Strs
namespace Go.Proofs.Ytdilccihhelilaa
open Go.Joins Go.RowKit Go.ChangeShapes Go.WideShapes Go.Deep
set_option linter.unusedVariables false

theorem in64_wf {n : Int} (h : (Lit.int .i64 n).wf = true) : in64 n := by
  simp only [Lit.wf, Bool.and_eq_true, decide_eq_true_eq] at h
  have h1 : IntKind.i64.min = -9223372036854775808 := by decide
  have h2 : IntKind.i64.max = 9223372036854775807 := by decide
  rw [h1, h2] at h
  unfold in64
  omega
section
variable {H : Type} {enc : TypeId × Value → H} {w : World} {base : Nat} {spare : Nat → Bool} {held : Bool}
set_option maxRecDepth 100000 in
theorem entry_cells {fuel : Nat} {cs : List Value} {x : DataW H × List MemPlace} (h : DataW.trod enc Try.prog w base spare held fuel 42 cs = some x) : ∃ e : Ent, cs = e.cells ∧ e.In := by
  obtain ⟨y0, y1, n, _, hl, h0, h1⟩ := trod_struct2 Try.underlying42 h
  have hc : Try.prog.cellsOf 42 = 4 := by kernel_rfl
  have hr : Try.prog.cellsOf 40 = 3 := by kernel_rfl
  have hi : Try.prog.cellsOf 3 = 1 := by kernel_rfl
  have hj : Try.prog.cellsOf 2 = 1 := by kernel_rfl
  rw [hc] at hl
  match cs, hl with
  | [c0, c1, c2, c3], _ =>
    rw [hi] at h0
    rw [hr] at h1
    simp only [List.drop_zero, List.drop_succ_cons, List.take_succ_cons, List.take_zero] at h0 h1
    obtain ⟨z0, z1, z2, n', _, _, k0, k1, k2⟩ := trod_struct3 Try.underlying40 h1
    rw [hi] at k0 k1
    rw [hj] at k2
    simp only [List.drop_zero, List.drop_succ_cons, List.take_succ_cons, List.take_zero] at k0 k1 k2
    obtain ⟨n0, q0, _, s0⟩ := DataW.trod_int Try.underlying3 h0
    obtain ⟨n1, q1, _, s1⟩ := DataW.trod_int Try.underlying3 k0
    obtain ⟨n2, q2, _, s2⟩ := DataW.trod_int Try.underlying3 k1
    obtain ⟨n3, q3, _, s3⟩ := DataW.trod_int Try.underlying2 k2
    simp only [List.cons.injEq, and_true] at q0 q1 q2 q3
    subst q0 q1 q2 q3
    exact ⟨⟨n0, n1, n2, n3⟩, rfl, in64_wf s0, in64_wf s1, in64_wf s2, in64_wf s3⟩

set_option maxRecDepth 100000 in
theorem open_entries {fuel : Nat} {a : Option Addr} {len cap : Nat} {x : DataW H × List MemPlace} (h : DataW.trod enc Try.prog w base spare held fuel 31 [.slice a len cap] = some x) :
    ∃ l : List Ent, l.length = len ∧ len ≤ cap ∧ cap ≤ maxLen ∧ ReadsE w w.heap.size a l ∧ ∀ e ∈ l, e.In := by
  have hc : Try.prog.cellsOf 42 = 4 := by kernel_rfl
  rcases open_slice Try.underlying31 h with ⟨hcs, _⟩ | ⟨x0, l, c, m, n, D, Pl, hcs, hb, hl, hm, hmm, hx, hi⟩
  · simp only [List.cons.injEq, and_true, Value.slice.injEq] at hcs
    obtain ⟨rfl, rfl, rfl⟩ := hcs
    exact ⟨[], rfl, Nat.le_refl _, by unfold maxLen; omega, ReadsE.nil_ _ _, fun e he => by cases he⟩
  · simp only [List.cons.injEq, and_true, Value.slice.injEq] at hcs
    obtain ⟨rfl, rfl, rfl⟩ := hcs
    have hml : len ≤ m := by rw [hmm]; split <;> omega
    obtain ⟨es, hes, hP⟩ := list_choose (n := len) (P := fun i (e : Ent) => (∀ j u, e.cells[j]? = some u → w.cell? (x0.add (i * 4 + j)) = some u) ∧ e.In) fun i hil => by
      obtain ⟨cs', hcl, ht'⟩ := hi i (by omega)
      rw [hc] at hcl
      obtain ⟨e, rfl, hin⟩ := entry_cells ht'
      obtain ⟨_, _, hat⟩ := World.cells?_some hcl
      refine ⟨e, fun j u hu => ?_, hin⟩
      have hj : j < 4 := by
        rcases Nat.lt_or_ge j 4 with h | h
        · exact h
        · rw [List.getElem?_eq_none (by simpa [Ent.cells] using h)] at hu; cases hu
      rw [← Go.Deep.add_add, hat j hj, hu]
    refine ⟨es, hes, hl, hm, ⟨by rw [cellsE_length], fun hn => ⟨x0, rfl, ?_, fun j u hu => ?_⟩⟩, fun e he => ?_⟩
    · obtain ⟨e, he⟩ := ent_at (l := es) (k := 0) hn
      have := (hP 0 e he).1 0 _ rfl
      have := block_of_cell this
      rwa [block_of_add] at this
    · have hj : j < (cellsE es).length := (List.getElem?_eq_some_iff.1 hu).1
      rw [cellsE_length] at hj
      obtain ⟨e, he⟩ := ent_at (l := es) (k := j / 4) (by omega)
      have h1 := cellsE_get he (j % 4) (by omega)
      rw [show j / 4 * 4 + j % 4 = j from by omega, hu] at h1
      have := (hP _ e he).1 (j % 4) u h1.symm
      rwa [show j / 4 * 4 + j % 4 = j from by omega] at this
    · obtain ⟨k, hk⟩ := List.getElem?_of_mem he
      exact (hP k e hk).2
set_option maxRecDepth 100000 in
theorem open_entry {r : Reach} {b0 : Nat} {v : Value} {d : DataW H} {p : List MemPlace} (hv : Value.okWide Try.prog w r b0 42 v) (h : DataW.Trod enc Try.prog w base spare held 42 v d p) :
    ∃ e : Ent, v = e.val ∧ e.In := by
  obtain ⟨cs, rfl, hsz⟩ := okWide_struct Try.underlying42 hv
  obtain ⟨fuel, hf⟩ := h
  obtain ⟨e, he, hin⟩ := entry_cells hf
  refine ⟨e, ?_, hin⟩
  unfold Ent.val
  congr 1
  apply Array.toList_inj.1
  exact he
end
end Go.Proofs.Ytdilccihhelilaa
