/- A region that draws its order, whose operations read and whose callees make memory but answer alike in every world of a class: one walk in the text's order. -/
import Derived.Test.YtlehianbdamgmaaMem
import Derived.BigQuiet
namespace Go.Proofs.Ytlehianbdamgmaa
open Go.RowKit

/-- A world of a class. -/
structure Of (S : World → Prop) where
  w : World
  ok : S w
theorem wp_region_sub {P : Program} {id : Nat} {Q : Exit → Act → World → Prop} {a : Act} {w : World} {l : List Oper} {S : World → Prop} (hm : P.follows .mixedOrders = true) (hB : Region.lexB .any l.toArray = true) (h0 : S w.drew)
    (h : Nonempty (Of S) → wpQuiet P l.toArray (fun w' => ∃ x : Of S, w' = x.w) (fun a' => ∀ w', (∃ x : Of S, w' = x.w) → Q .normal a' w') l a) : (Code.region id l.toArray true).wp P Q a w :=
  wp_region_quiet (C := fun w' => ∃ x : Of S, w' = x.w) hm hB ⟨⟨_, h0⟩, rfl⟩ (by simpa using h ⟨⟨_, h0⟩⟩)
theorem sub_of {P : Program} {f : FuncId} {args : Array Value} {S : World → Prop} {x : Of S} {v : Value} (h : Calls P f args x.w fun e w' => e = .returned v ∧ S w') :
    Calls P f args x.w fun e w'' => e = .returned v ∧ ∃ y : Of S, w'' = y.w :=
  h.mono fun _ w' ⟨he, hs⟩ => ⟨he, ⟨w', hs⟩, rfl⟩
end Go.Proofs.Ytlehianbdamgmaa
