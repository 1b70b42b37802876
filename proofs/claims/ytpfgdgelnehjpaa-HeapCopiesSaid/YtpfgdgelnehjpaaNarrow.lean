/- Laws of our own: a region's condition may be narrowed midway; a copy between rows of wide elements; a row that is made at full length. -/
import Derived.Deep.RegionHeld
import Derived.Laws.IdiomCopy
import Derived.Laws.OwnMore
import Derived.Laws.CopyOwn
namespace Go.Proofs.Ytpfgdgelnehjpaa
open Go.RowKit
set_option linter.unusedSimpArgs false

theorem wpAnyH_narrow {P : Program} {ops : Array Oper} {Q : Exit → Act → World → Prop} {md : Region.Mode} {S S' : World → Prop} (h : ∀ w, S' w → S w) :
    ∀ (fuel : Nat) (listed : Array Bool) (a : Act) (w : World), wpAnyH P md ops Q S' fuel listed a w → wpAnyH P md ops Q S fuel listed a w
  | 0, _, _, _, k => k
  | fuel + 1, _, _, _, k => ⟨k.1, fun i hi => wpOp_mono (fun a' w' k' => ⟨h _ k'.1, wpAnyH_narrow h fuel _ a' w' k'.2⟩) (k.2 i hi)⟩

section
variable {P : Program} {ops : Array Oper} {Q : Exit → Act → World → Prop} {md : Region.Mode} {S : World → Prop}
/-- The beginning, the number of operations and the list of those that have come written out. -/
theorem held_start {id n : Nat} {l : Array Bool} {a : Act} {w : World} (hm : P.follows .mixedOrders = true) (hn : ops.size = n) (hl : Array.replicate n false = l) (h : wpAnyH P .any ops Q S n l a w.drew) : (Code.region id ops true).wp P Q a w := by
  subst hn
  subst hl
  exact wp_region_held hm h
/-- One operation is taken first; where it goes, and the list behind it, written out. -/
theorem held_take (i : Nat) (d : Option Tmp) (l' : Array Bool) {oi : Oper} {v : Value} {fuel : Nat} {listed : Array Bool} {a : Act} {w : World} (hi : ops[i]? = some oi) (hd : oi.dst = d) (hl : listed.setIfInBounds i true = l')
    (hs : Region.noSelect ops = true) (hf : Region.free md ops listed i = true) (hr : (Region.ready md ops listed).contains i = true)
    (hQ : ∀ c a w, Q (.panic c) (a.put oi.dst v) w → Q (.panic c) a w) (hy : YieldsIf P ops S oi v a) (hS : S w)
    (h : wpAnyH P md ops Q S fuel l' (a.put d v) w) : wpAnyH P md ops Q S (fuel + 1) listed a w := by
  subst hd
  subst hl
  exact wpAnyH_take hi hs hf hr hQ hy hS h
/-- The one operation that may come up. -/
theorem held_only (i : Nat) (l' : Array Bool) {o : Oper} {fuel : Nat} {listed : Array Bool} {a : Act} {w : World} (ho : ops[i]? = some o) (hl : listed.setIfInBounds i true = l') (hr : Region.ready md ops listed = [i])
    (h : ∀ K' : Act → World → Prop, Shut (∀ a w, S w → (S w → wpAnyH P md ops Q S fuel l' a w) → K' a w) → if Region.wanted o (yielded ops a.tmps) = true then Oper.wp P o a w K' Q else K' (a.put o.dst undef) w) :
    wpAnyH P md ops Q S (fuel + 1) listed a w := by
  subst hl
  exact wpAnyH_ready hr (by simp) (AllReadyH.cons ho h AllReadyH.nil)
end

/-- 'copy' fills a row of the call's own, from its head, with as many elements as it has. -/
theorem run_copy_full {P : Program} (w : World) (dT sT ty elem : TypeId) (i : TypeInfo) (size base g n dCap sCap : Nat) (sA : Option Addr) (xs cs : List Value)
    (hu : P.underlying dT = some (.slice elem)) (hi : P.info? elem = some i) (hsz : i.size = size) (hO : w.ownsRow base elem size (.slice (some ⟨g, 0, none⟩) n dCap) n xs)
    (hl : cs.length = n * size) (hsrc : ∀ a, sA = some a → ∀ j v, cs[j]? = some v → w.cell? (a.add j) = some v) (hnil : sA = none → cs = []) (h1 : ∀ v ∈ cs, v.oneCell' = true) :
    ∃ w', (Builtin.copy_ #[dT, sT] ty #[.slice (some ⟨g, 0, none⟩) n dCap, .slice sA n sCap]).run P w = .ok (goInt n) w' ∧ w'.ownsRow base elem size (.slice (some ⟨g, 0, none⟩) n dCap) n cs ∧ w.grownBy w' (some g) := by
  rcases hO.2 with ⟨h', _⟩ | ⟨g', cap', cur, h', hb, hg, hnc, hcm, hcs, htake⟩
  · simp at h'
  simp only [Value.slice.injEq, Option.some.injEq, Addr.mk.injEq, and_true, true_and] at h'
  obtain ⟨rfl, rfl⟩ := h'
  have hfit : 0 + 0 + cs.length ≤ cur.size := by rw [hl, hcs]; simpa using Nat.mul_le_mul_right size hnc
  have hst := run_storeCells_at P g 0 elem cs 0 cur w hg hfit h1
  refine ⟨w.setRow g (cur.toList.take (0 + 0) ++ cs ++ cur.toList.drop (0 + 0 + cs.length)).toArray, ?_, ⟨hl, .inr ⟨g, dCap, _, rfl, hb, setRow_heap w g cur _ elem _ hg, hnc, hcm, ?_, ?_⟩⟩, ⟨rfl, rfl, rfl, by simp [World.setRow], fun k _ hk => setRow_other w g k _ (fun e => hk (by rw [e]))⟩⟩
  · cases sA with
    | none =>
      obtain rfl := hnil rfl
      have h0 : n * size = 0 := by simpa using hl.symm
      simp only [List.length_nil] at hst
      simp [Builtin.copy_, run_underlying hu, Builtin.lenOf, Builtin.firstCells, sizeOf, typeInfo, hi, hsz, h0, hst, storeCells, setRow_self w g cur elem (0, 0) hg]
    | some a =>
      have hld := run_loadCells_list (P := P) w a cs (hsrc a rfl)
      rw [hl] at hld
      simp [Builtin.copy_, run_underlying hu, Builtin.lenOf, Builtin.firstCells, sizeOf, typeInfo, hi, hsz, hld, hst]
  · simp only [Nat.add_zero, Nat.zero_add, List.take_zero, List.nil_append, List.size_toArray, List.length_append, List.length_drop, Array.length_toList] at *
    omega
  · simp only [Nat.add_zero, Nat.zero_add, List.take_zero, List.nil_append]
    rw [← hl, List.take_left]
end Go.Proofs.Ytpfgdgelnehjpaa
