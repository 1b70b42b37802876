/- A script of calls on monitors that comes in. -/
import Derived.Test.YtpfgdgelnehjpaaRows
import Derived.Test.YtpfgdgelnehjpaaOpenG
import Derived.Lib.SmallJoins
namespace Go.Proofs.Ytpfgdgelnehjpaa
open Go.Joins Go.RowKit Go.ChangeShapes Go.WideShapes Go.Deep
set_option linter.unusedVariables false

/-- A call of a script. -/
structure LOp where
  what : Int
  r : Int
  t : Int
  all : Bool
def in64L (x : Int) : Prop := -9223372036854775808 ≤ x ∧ x < 9223372036854775808
theorem in64L_wf {x : Int} (h : (Lit.int .i64 x).wf = true) : in64L x := ⟨(bounds_i64 h).1, by have := (bounds_i64 h).2; omega⟩
/-- At this place of memory stands this call. -/
def LOpAt (w : World) (ad : Addr) (o : LOp) : Prop :=
  w.cell? ad = some (.int .i64 o.what) ∧ w.cell? (ad.add 1) = some (.int .i64 o.r) ∧ w.cell? (ad.add 2) = some (.int .i64 o.t) ∧ w.cell? (ad.add 3) = some (.bool o.all)
/-- A script. -/
def ScriptL (w : World) (B : Nat) (A : Option Addr) (os : List LOp) : Prop :=
  ∀ k o, os[k]? = some o → ∃ ad, A = some ad ∧ ad.block < B ∧ LOpAt w (ad.add (k * 4)) o

section
variable {H : Type} {enc : TypeId × Value → H} {w : World} {base : Nat} {spare : Nat → Bool} {held : Bool}
set_option maxRecDepth 100000 in
theorem open_lops {fuel : Nat} {a : Option Addr} {len cap : Nat} {x : DataW H × List MemPlace} (h : DataW.trod enc Try.prog w base spare held fuel 70 [.slice a len cap] = some x) :
    ∃ os : List LOp, os.length = len ∧ len ≤ cap ∧ cap ≤ maxLen ∧ ScriptL w w.heap.size a os ∧ ∀ o ∈ os, in64L o.r ∧ in64L o.t := by
  rcases open_slice_fields Try.underlying70 Try.underlying72 (by kernel_rfl) (by kernel_rfl) h with ⟨hcs, _⟩ | ⟨x0, l, c, m, D, Pl, hcs, hb, hl, hm, hmm, hx, hi⟩
  · simp only [List.cons.injEq, and_true, Value.slice.injEq] at hcs
    obtain ⟨rfl, rfl, rfl⟩ := hcs
    exact ⟨[], rfl, Nat.le_refl _, by unfold maxLen; omega, fun k o ho => by simp at ho, fun o ho => by cases ho⟩
  · simp only [List.cons.injEq, and_true, Value.slice.injEq] at hcs
    obtain ⟨rfl, rfl, rfl⟩ := hcs
    have hml : len ≤ m := by rw [hmm]; split <;> omega
    obtain ⟨os, hos, hP⟩ := list_choose (n := len) (P := fun i (o : LOp) => LOpAt w (x0.add (i * 4)) o ∧ in64L o.r ∧ in64L o.t) fun i hil => by
      obtain ⟨ys, n, _, _, _, hf⟩ := hi i (by omega)
      obtain ⟨v0, y0, c0, _, t0⟩ := hf 0 _ rfl
      obtain ⟨v1, y1, c1, _, t1⟩ := hf 1 _ rfl
      obtain ⟨v2, y2, c2, _, t2⟩ := hf 2 _ rfl
      obtain ⟨v3, y3, c3, _, t3⟩ := hf 3 _ rfl
      obtain ⟨n0, q0, _, s0⟩ := DataW.trod_int Try.underlying3 t0
      obtain ⟨n1, q1, _, s1⟩ := DataW.trod_int Try.underlying3 t1
      obtain ⟨n2, q2, _, s2⟩ := DataW.trod_int Try.underlying3 t2
      obtain ⟨b3, q3, _⟩ := DataW.trod_bool Try.underlying4 t3
      simp only [List.cons.injEq, and_true] at q0 q1 q2 q3
      subst q0 q1 q2 q3
      have hsz : (4 : Nat) = 4 := rfl
      refine ⟨⟨n0, n1, n2, b3⟩, ⟨?_, ?_, ?_, ?_⟩, in64L_wf s1, in64L_wf s2⟩
      · exact c0
      · rw [add_of_add]; exact c1
      · rw [add_of_add]; exact c2
      · rw [add_of_add]; exact c3
    refine ⟨os, hos, hl, hm, fun k o ho => ⟨x0, rfl, ?_, (hP k o ho).1⟩, fun o ho => ?_⟩
    · have h0 := (hP k o ho).1.1
      have := block_of_cell h0
      rwa [block_of_add] at this
    · obtain ⟨k, hk⟩ := List.getElem?_of_mem ho
      exact (hP k o hk).2
end
end Go.Proofs.Ytpfgdgelnehjpaa
