/- A script of calls on a log that comes in. -/
import Derived.Test.YtlehianbdamgmaaOpenE
import Derived.Lib.SmallJoins
namespace Go.Proofs.Ytlehianbdamgmaa
open Go.Joins Go.RowKit Go.ChangeShapes Go.WideShapes Go.Deep
set_option linter.unusedVariables false

/-- A call of a script. -/
structure SOp where
  what : Int
  n : Int
  e : Ent
  l : List Ent
/-- At this place of memory stands this call, its list below B. -/
def SOpAt (w : World) (B : Nat) (ad : Addr) (o : SOp) : Prop :=
  ∃ A c, w.cell? ad = some (.int .i64 o.what) ∧ w.cell? (ad.add 1) = some (.int .i64 o.n) ∧ w.cell? (ad.add 2) = some (.int .i64 o.e.view) ∧ w.cell? (ad.add 3) = some (.int .i64 o.e.what) ∧
    w.cell? (ad.add 4) = some (.int .i64 o.e.a) ∧ w.cell? (ad.add 5) = some (.int .i64 o.e.n) ∧ w.cell? (ad.add 6) = some (.slice A o.l.length c) ∧ ReadsE w B A o.l ∧ o.l.length ≤ c ∧ c ≤ maxLen
/-- A script. -/
def ScriptS (w : World) (B : Nat) (A : Option Addr) (os : List SOp) : Prop :=
  ∀ k o, os[k]? = some o → ∃ ad, A = some ad ∧ ad.block < B ∧ SOpAt w B (ad.add (k * 7)) o

section
variable {H : Type} {enc : TypeId × Value → H} {w : World} {base : Nat} {spare : Nat → Bool} {held : Bool}
set_option maxRecDepth 100000 in
theorem open_script {fuel : Nat} {a : Option Addr} {len cap : Nat} {x : DataW H × List MemPlace} (h : DataW.trod enc Try.prog w base spare held fuel 45 [.slice a len cap] = some x) :
    ∃ os : List SOp, os.length = len ∧ len ≤ maxLen ∧ ScriptS w w.heap.size a os ∧ ∀ o ∈ os, in64 o.n ∧ o.e.In ∧ ∀ e ∈ o.l, e.In := by
  have hc : Try.prog.cellsOf 49 = 7 := by kernel_rfl
  have hi1 : Try.prog.cellsOf 3 = 1 := by kernel_rfl
  have hi2 : Try.prog.cellsOf 33 = 4 := by kernel_rfl
  have hi3 : Try.prog.cellsOf 25 = 1 := by kernel_rfl
  rcases open_slice Try.underlying45 h with ⟨hcs, _⟩ | ⟨x0, l, c, m, n, D, Pl, hcs, hb, hl, hm, hmm, hx, hi⟩
  · simp only [List.cons.injEq, and_true, Value.slice.injEq] at hcs
    obtain ⟨rfl, rfl, rfl⟩ := hcs
    exact ⟨[], rfl, by unfold maxLen; omega, fun k o ho => by simp at ho, fun o ho => by cases ho⟩
  · simp only [List.cons.injEq, and_true, Value.slice.injEq] at hcs
    obtain ⟨rfl, rfl, rfl⟩ := hcs
    have hml : len ≤ m := by rw [hmm]; split <;> omega
    obtain ⟨os, hos, hP⟩ := list_choose (n := len) (P := fun i (o : SOp) => SOpAt w w.heap.size (x0.add (i * 7)) o ∧ in64 o.n ∧ o.e.In ∧ ∀ e ∈ o.l, e.In) fun i hil => by
      obtain ⟨cs', hcl, ht'⟩ := hi i (by omega)
      rw [hc] at hcl
      obtain ⟨_, hlen, hat⟩ := World.cells?_some hcl
      obtain ⟨y0, y1, y2, y3, n', _, _, t0, t1, t2, t3⟩ := trod_struct4 Try.underlying49 ht'
      match cs', hlen, hat with
      | [v0, v1, v2, v3, v4, v5, v6], _, hat =>
        simp only [hi1, hi2, hi3, List.drop_zero, List.drop_succ_cons, List.take_succ_cons, List.take_zero] at t0 t1 t2 t3
        obtain ⟨n0, q0, _, s0⟩ := DataW.trod_int Try.underlying3 t0
        obtain ⟨n1, q1, _, s1⟩ := DataW.trod_int Try.underlying3 t1
        obtain ⟨e, he, hin⟩ := entry_cells t2
        obtain ⟨A6, l6, c6, hq6⟩ : ∃ A l c, v6 = .slice A l c := by
          rcases open_slice Try.underlying25 t3 with ⟨hcs, _⟩ | ⟨x1, l1, c1, _, _, _, _, hcs, _⟩
          · simp only [List.cons.injEq, and_true] at hcs; exact ⟨_, _, _, hcs⟩
          · simp only [List.cons.injEq, and_true] at hcs; exact ⟨_, _, _, hcs⟩
        subst hq6
        obtain ⟨ls, hl6, hc6, hm6, hr6, hi6⟩ := open_entries t3
        subst hl6
        simp only [List.cons.injEq, and_true] at q0 q1
        simp only [Ent.cells, List.cons.injEq, and_true] at he
        obtain ⟨e0, e1, e2, e3⟩ := he
        subst q0 q1 e0 e1 e2 e3
        have hcell := fun (j : Nat) (hj : j < 7) => hat j hj
        refine ⟨⟨n0, n1, e, ls⟩, ⟨A6, c6, ?_, ?_, ?_, ?_, ?_, ?_, ?_, hr6, hc6, hm6⟩, in64_wf s1, hin, hi6⟩
        · have := hcell 0 (by omega)
          rw [add_of_add] at this
          simpa using this
        · have := hcell 1 (by omega); simpa using this
        · have := hcell 2 (by omega); simpa using this
        · have := hcell 3 (by omega); simpa using this
        · have := hcell 4 (by omega); simpa using this
        · have := hcell 5 (by omega); simpa using this
        · have := hcell 6 (by omega); simpa using this
    refine ⟨os, hos, by omega, fun k o ho => ⟨x0, rfl, ?_, (hP k o ho).1⟩, fun o ho => ?_⟩
    · obtain ⟨⟨A, c1, h0, _⟩, _⟩ := hP k o ho
      have := block_of_cell h0
      rwa [block_of_add] at this
    · obtain ⟨k, hk⟩ := List.getElem?_of_mem ho
      exact (hP k o hk).2
end
end Go.Proofs.Ytlehianbdamgmaa
