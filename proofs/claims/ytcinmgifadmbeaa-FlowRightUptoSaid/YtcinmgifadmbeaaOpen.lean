/- What comes in: slices of structs of one-cell fields, opened to cells; bytes, opened to numbers. -/
import Derived.Test.YtcinmgifadmbeaaBytes
import Derived.Test.YtcinmgifadmbeaaOpenG
import Derived.Deep.Slices
import Derived.Deep.Fields
import Derived.ChangeSame
import Derived.ProofKit
import Derived.OpenShut
namespace Go.Proofs.Ytcinmgifadmbeaa
open Go.RowKit Go.ChangeShapes Go.WideShapes Go.Deep
set_option linter.unusedVariables false

theorem reads_of_cells {w : World} {x : Addr} {l : Nat} {zs : List Int} (hl : l ≤ zs.length) (hc : ∀ i, i < zs.length → w.cell? (x.add i) = some (.int .u8 (zs.getD i 0))) (hw : ∀ n ∈ zs, (Lit.int .u8 n).wf = true) :
    ∃ bs : List Int, bs.length = l ∧ Bytes bs ∧ ReadsB w w.heap.size (some x) bs := by
  have hlen : (zs.take l).length = l := by rw [List.length_take]; omega
  refine ⟨zs.take l, hlen, fun n hn => ?_, ?_⟩
  · have := hw n (List.mem_of_mem_take hn)
    exact ⟨by have := (bounds_u8 this).1; omega, by have := (bounds_u8 this).2; omega⟩
  · unfold ReadsB
    rw [hlen]
    refine ⟨by rw [cellsOf_length, hlen]; omega, fun hn => ⟨x, rfl, ?_, fun j u hu => ?_⟩⟩
    · have := block_of_cell (hc 0 (by omega))
      rwa [block_of_add] at this
    · have hj : j < l := by
        rcases Nat.lt_or_ge j l with h | h
        · exact h
        · rw [List.getElem?_eq_none (by rw [cellsOf_length, hlen]; exact h)] at hu; cases hu
      rw [cellsOf_get hu, hc j (by omega)]
      simp [List.getD, hj]

/-- A slice of bytes that came in, wherever it stands in the datum. -/
theorem open_bytes {H : Type} {enc : TypeId × Value → H} {w : World} {base : Nat} {spare : Nat → Bool} {held : Bool} {fuel : Nat} {v : Value} {x : DataW H × List MemPlace}
    (h : DataW.trod enc Try.prog w base spare held fuel 31 [v] = some x) :
    ∃ A len cap bs, v = .slice A len cap ∧ len = bs.length ∧ len ≤ cap ∧ cap ≤ maxLen ∧ Bytes bs ∧ ReadsB w w.heap.size A bs ∧ (∀ a, A = some a → base ≤ a.block) := by
  rcases open_ints Try.underlying31 Try.underlying5 (by kernel_rfl) h with ⟨hcs, _⟩ | ⟨x, l, c, zs, hcs, hb, hl, hm, hz, _, hcell, hwz⟩
  · simp only [List.cons.injEq, and_true] at hcs
    exact ⟨none, 0, 0, [], hcs, rfl, Nat.le_refl _, by unfold maxLen; omega, Bytes.nil, ReadsB.nil_ _ _, fun a h => by cases h⟩
  · simp only [List.cons.injEq, and_true] at hcs
    obtain ⟨bs, h1, h2, h3⟩ := reads_of_cells (w := w) (x := x) (l := l) (zs := zs) (by rw [hz]; split <;> omega) hcell hwz
    exact ⟨some x, l, c, bs, hcs, h1.symm, hl, hm, h2, h3, fun a h => by injection h with h; subst h; exact hb⟩
end Go.Proofs.Ytcinmgifadmbeaa
