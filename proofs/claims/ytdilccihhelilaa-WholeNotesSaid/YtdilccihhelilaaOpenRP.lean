/- Rows of bytes that come in; frames in a row. -/
import Derived.Test.YtdilccihhelilaaOpenG
import Derived.Test.YtdilccihhelilaaBytes
import Derived.Lib.SmallJoins
namespace Go.Proofs.Ytdilccihhelilaa
open Go.Joins Go.RowKit Go.ChangeShapes Go.WideShapes Go.Deep
set_option linter.unusedVariables false

/-- At this place stands a slice that reads as these bytes, below B. -/
def RowAt (w : World) (B : Nat) (ad : Addr) (xs : List Int) : Prop := ∃ A c, w.cell? ad = some (.slice A xs.length c) ∧ ReadsB w B A xs ∧ Bytes xs ∧ xs.length ≤ c ∧ c ≤ maxLen
def RowsB (w : World) (B : Nat) (A : Option Addr) (ls : List (List Int)) : Prop := ∀ k xs, ls[k]? = some xs → ∃ ad, A = some ad ∧ ad.block < B ∧ RowAt w B (ad.add k) xs

section
variable {H : Type} {enc : TypeId × Value → H} {w : World}
set_option maxRecDepth 100000 in
theorem open_rows {fuel : Nat} {a : Option Addr} {len cap : Nat} {x : DataW H × List MemPlace} (h : DataW.trod enc Try.prog w 0 (fun _ => true) true fuel 26 [.slice a len cap] = some x) :
    ∃ ls : List (List Int), ls.length = len ∧ RowsB w w.heap.size a ls := by
  have hc : Try.prog.cellsOf 27 = 1 := by kernel_rfl
  rcases open_slice Try.underlying26 h with ⟨hcs, _⟩ | ⟨x0, l, c, m, n, D, Pl, hcs, hb, hl, hm, hmm, hx, hi⟩
  · simp only [List.cons.injEq, and_true, Value.slice.injEq] at hcs
    obtain ⟨rfl, rfl, rfl⟩ := hcs
    exact ⟨[], rfl, fun k o ho => by simp at ho⟩
  · simp only [List.cons.injEq, and_true, Value.slice.injEq] at hcs
    obtain ⟨rfl, rfl, rfl⟩ := hcs
    have hml : len ≤ m := by rw [hmm]; split <;> omega
    obtain ⟨ls, hls, hP⟩ := list_choose (n := len) (P := fun i (o : List Int) => RowAt w w.heap.size (x0.add i) o) fun i hil => by
      obtain ⟨cs', hcl, ht'⟩ := hi i (by omega)
      rw [hc] at hcl
      obtain ⟨_, hlen, hat⟩ := World.cells?_some hcl
      match cs', hlen, hat with
      | [v0], _, hat =>
        have h0 := hat 0 (by omega)
        have hcell : w.cell? (x0.add i) = some v0 := by
          rw [add_of_add] at h0
          simpa using h0
        obtain ⟨zA, zl, zc, zs, hv, hrow⟩ : ∃ A l c zs, v0 = .slice A l c ∧ IsRow .u8 w A l c zs := by
          rcases open_ints Try.underlying27 Try.underlying5 (by kernel_rfl) ht' with ⟨hcs, _⟩ | ⟨y, l, c, zs, hcs, _, hl, hm, hz, _, hcell, hwz⟩
          · simp only [List.cons.injEq, and_true] at hcs
            exact ⟨none, 0, 0, [], hcs, .inl ⟨rfl, rfl, rfl, rfl⟩⟩
          · simp only [List.cons.injEq, and_true] at hcs
            exact ⟨_, _, _, zs, hcs, .inr ⟨y, rfl, hl, hm, by simpa using hz, hcell, hwz⟩⟩
        subst hv
        obtain ⟨ys, hyl, hyb, hyr, hyc, hym⟩ := hrow.reads
        subst hyl
        exact ⟨ys, zA, zc, hcell, hyr, hyb, hyc, hym⟩
    refine ⟨ls, hls, fun k o ho => ⟨x0, rfl, ?_, hP k o ho⟩⟩
    obtain ⟨A, c1, h0, _⟩ := hP k o ho
    have := block_of_cell h0
    rwa [block_of_add] at this
end

theorem RowAt.below {w w' : World} {B : Nat} {ad : Addr} {xs : List Int} (h : RowAt w B ad xs) (hb : Below B w w') (ha : ad.block < B) : RowAt w' B ad xs := by
  obtain ⟨A, c, h1, h2, h3⟩ := h
  exact ⟨A, c, (hb.cell ha).trans h1, Reads.below h2 hb, h3⟩

end Go.Proofs.Ytdilccihhelilaa
