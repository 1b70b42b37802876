/- A note that comes in. -/
import Derived.Test.YtdilccihhelilaaOpenEH
import Derived.Test.YtdilccihhelilaaStoreCH
import Derived.Lib.SmallJoins
namespace Go.Proofs.Ytdilccihhelilaa
open Go.Joins Go.RowKit Go.ChangeShapes Go.WideShapes Go.Deep
set_option linter.unusedVariables false

/-- What is known of a note that came in. -/
def NoteIn (w : World) (v : Value) (what view n : Int) (A : Option Addr) (c : Nat) (es : List Ent) : Prop :=
  v = .agg #[.int .i64 what, .int .i64 view, .int .i64 n, .slice A es.length c] ∧ in64 what ∧ in64 view ∧ in64 n ∧ ReadsE w w.heap.size A es ∧ InL es ∧ es.length ≤ c ∧ c ≤ maxLen
section
variable {H : Type} {enc : TypeId × Value → H} {w : World} {base : Nat} {spare : Nat → Bool} {held : Bool}
set_option maxRecDepth 100000 in
theorem open_note {r : Reach} {b0 : Nat} {v : Value} {d : DataW H} {p : List MemPlace} (hv : Value.okWide Try.prog w r b0 33 v) (h : DataW.Trod enc Try.prog w base spare held 33 v d p) :
    ∃ what view n A c es, NoteIn w v what view n A c es := by
  obtain ⟨v0, v1, v2, v3, y0, y1, y2, y3, m, rfl, hd, hp, t0, t1, t2, t3⟩ := open_agg4 Try.underlying33 (by kernel_rfl) (by kernel_rfl) hv h
  obtain ⟨n0, q0, _, s0⟩ := DataW.trod_int Try.underlying3 t0
  obtain ⟨n1, q1, _, s1⟩ := DataW.trod_int Try.underlying3 t1
  obtain ⟨n2, q2, _, s2⟩ := DataW.trod_int Try.underlying3 t2
  simp only [List.cons.injEq, and_true] at q0 q1 q2
  subst q0 q1 q2
  obtain ⟨A, l, c, hq⟩ : ∃ A l c, v3 = .slice A l c := by
    rcases open_slice Try.underlying31 t3 with ⟨hcs, _⟩ | ⟨x1, l1, c1, _, _, _, _, hcs, _⟩
    · simp only [List.cons.injEq, and_true] at hcs; exact ⟨_, _, _, hcs⟩
    · simp only [List.cons.injEq, and_true] at hcs; exact ⟨_, _, _, hcs⟩
  subst hq
  obtain ⟨es, hl, hc, hm, hr, hi⟩ := open_entries t3
  subst hl
  exact ⟨n0, n1, n2, A, c, es, rfl, in64_wf s0, in64_wf s1, in64_wf s2, hr, hi, hc, hm⟩
end
end Go.Proofs.Ytdilccihhelilaa
