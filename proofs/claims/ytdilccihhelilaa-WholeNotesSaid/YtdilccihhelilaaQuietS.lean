/- A region that draws its order, whose operations read and whose callees make memory but answer alike in every world of a class: one walk in the text's order. -/
import Derived.Test.YtdilccihhelilaaMem
import Derived.BigQuiet
namespace Go.Proofs.Ytdilccihhelilaa
open Go.RowKit
set_option linter.unusedVariables false

/-- A world of a class. -/
structure Of (S : World → Prop) where
  w : World
  ok : S w
theorem wp_region_sub {P : Program} {id : Nat} {Q : Exit → Act → World → Prop} {a : Act} {w : World} {l : List Oper} {S : World → Prop} (hm : P.follows .mixedOrders = true) (hB : Region.lexB .any l.toArray = true) (h0 : S w.drew)
    (h : Nonempty (Of S) → wpQuiet P l.toArray (fun w' => ∃ x : Of S, w' = x.w) (fun a' => ∀ w', (∃ x : Of S, w' = x.w) → Q .normal a' w') l a) : (Code.region id l.toArray true).wp P Q a w :=
  wp_region_quiet (C := fun w' => ∃ x : Of S, w' = x.w) hm hB ⟨⟨_, h0⟩, rfl⟩ (by simpa using h ⟨⟨_, h0⟩⟩)
theorem sub_of {P : Program} {f : FuncId} {args : Array Value} {S : World → Prop} {x : Of S} {v : Value} (h : Calls P f args x.w fun e w' => e = .returned v ∧ S w') :
    Calls P f args x.w fun e w'' => e = .returned v ∧ ∃ y : Of S, w'' = y.w :=
  h.mono fun _ w' ⟨he, hs⟩ => ⟨he, ⟨w', hs⟩, rfl⟩

/-- The worlds in which all that stood in W stands. -/
def InB (W : World) : World → Prop := fun v => Below W.heap.size W v
theorem wp_region_old {P : Program} {id : Nat} {Q : Exit → Act → World → Prop} {a : Act} {w : World} {l : List Oper} (hm : P.follows .mixedOrders = true) (hB : Region.lexB .any l.toArray = true)
    (h : Nonempty (Of (InB w)) → wpQuiet P l.toArray (fun w' => ∃ x : Of (InB w), w' = x.w) (fun a' => ∀ w', (∃ x : Of (InB w), w' = x.w) → Q .normal a' w') l a) : (Code.region id l.toArray true).wp P Q a w :=
  wp_region_sub (S := InB w) hm hB (show Below _ _ _ from (Below.refl _ _).drew) h
section
variable {P : Program} {f : FuncId} {args : Array Value} {W : World} {x : Of (InB W)} {v : Value}
theorem old_of (h : Calls P f args x.w fun e w' => e = .returned v ∧ Below x.w.heap.size x.w w') : Calls P f args x.w fun e w'' => e = .returned v ∧ ∃ y : Of (InB W), w'' = y.w :=
  sub_of (h.mono fun _ w' ⟨he, hs⟩ => ⟨he, x.ok.trans (hs.mono x.ok.size)⟩)
theorem old_same (h : Calls P f args x.w fun e w' => e = .returned v ∧ x.w = w') : Calls P f args x.w fun e w'' => e = .returned v ∧ ∃ y : Of (InB W), w'' = y.w :=
  sub_of (h.mono fun _ w' ⟨he, hs⟩ => ⟨he, by rw [← hs]; exact x.ok⟩)
theorem old_drew (h : Calls P f args x.w fun e w' => e = .returned v ∧ ∃ n, w' = x.w.drewN n) : Calls P f args x.w fun e w'' => e = .returned v ∧ ∃ y : Of (InB W), w'' = y.w :=
  sub_of (h.mono fun _ w' ⟨he, n, hs⟩ => ⟨he, by rw [hs]; exact below_drewN x.ok n⟩)
theorem old_cell (z : Of (InB W)) {p : Addr} {u : Value} (hp : p.block < W.heap.size) (h : W.cell? p = some u) : z.w.cell? p = some u := (z.ok.cell hp).trans h
theorem of_old {w5 : World} (z : Of (InB W)) (h : w5 = z.w) : Below W.heap.size W w5 := by rw [h]; exact z.ok
end
end Go.Proofs.Ytdilccihhelilaa
