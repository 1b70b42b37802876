/- Lists of entries in memory: how they read, whether two are the same, whether one begins with another. -/
import Derived.Test.YtdilccihhelilaaEnt
import Derived.BigQuiet
import Derived.Laws.StructEq
namespace Go.Proofs.Ytdilccihhelilaa
open Go.RowKit
set_option linter.unusedVariables false

theorem Ent.ext_ {a b : Ent} (h0 : a.view = b.view) (h1 : a.what = b.what) (h2 : a.a = b.a) (h3 : a.n = b.n) : a = b := by
  cases a
  cases b
  simp_all
instance : DecidableEq Ent := fun a b =>
  if h : a.view = b.view ∧ a.what = b.what ∧ a.a = b.a ∧ a.n = b.n then isTrue (Ent.ext_ h.1 h.2.1 h.2.2.1 h.2.2.2) else isFalse (fun e => h (by subst e; exact ⟨rfl, rfl, rfl, rfl⟩))

def Ent.cells (e : Ent) : List Value := [.int .i64 e.view, .int .i64 e.what, .int .i64 e.a, .int .i64 e.n]
def cellsE (l : List Ent) : List Value := l.flatMap Ent.cells
theorem cellsE_cons (e : Ent) (l : List Ent) : cellsE (e :: l) = e.cells ++ cellsE l := rfl
theorem cellsE_append (l m : List Ent) : cellsE (l ++ m) = cellsE l ++ cellsE m := List.flatMap_append
theorem cellsE_length (l : List Ent) : (cellsE l).length = l.length * 4 := by
  induction l with
  | nil => rfl
  | cons e l ih => rw [cellsE_cons, List.length_append, ih]; simp [Ent.cells]; omega
theorem cellsE_get : ∀ {l : List Ent} {k : Nat} {e : Ent}, l[k]? = some e → ∀ j, j < 4 → (cellsE l)[k * 4 + j]? = e.cells[j]?
  | [], k, e, h, _, _ => by simp at h
  | x :: l, 0, e, h, j, hj => by
    simp at h
    subst h
    rw [cellsE_cons, List.getElem?_append_left (by simp [Ent.cells]; omega)]
    simp
  | x :: l, k + 1, e, h, j, hj => by
    rw [cellsE_cons, List.getElem?_append_right (by simp [Ent.cells]; omega), show (k + 1) * 4 + j - x.cells.length = k * 4 + j from by simp [Ent.cells]; omega]
    exact cellsE_get (by simpa using h) j hj
theorem cellsE_one (l : List Ent) : ∀ u ∈ cellsE l, u.oneCell' = true := by
  intro u hu
  simp only [cellsE, List.mem_flatMap, Ent.cells] at hu
  obtain ⟨e, _, he⟩ := hu
  simp only [List.mem_cons, List.not_mem_nil, or_false] at he
  rcases he with rfl | rfl | rfl | rfl <;> rfl

/-- At this place of memory stands this entry. -/
structure EntAt (w : World) (ad : Addr) (e : Ent) : Prop where
  c0 : w.cell? ad = some (.int .i64 e.view)
  c1 : w.cell? ⟨ad.block, ad.off + 1, none⟩ = some (.int .i64 e.what)
  c2 : w.cell? ⟨ad.block, ad.off + 2, none⟩ = some (.int .i64 e.a)
  c3 : w.cell? ⟨ad.block, ad.off + 3, none⟩ = some (.int .i64 e.n)
theorem EntAt.keep {w w' : World} {ad : Addr} {e : Ent} {B : Nat} (h : EntAt w ad e) (hb : Below B w w') (hl : ad.block < B) : EntAt w' ad e :=
  ⟨(hb.cell hl).trans h.c0, (hb.cell (p := ⟨_, _, none⟩) hl).trans h.c1, (hb.cell (p := ⟨_, _, none⟩) hl).trans h.c2, (hb.cell (p := ⟨_, _, none⟩) hl).trans h.c3⟩
theorem EntAt.drewN {w : World} {ad : Addr} {e : Ent} (h : EntAt w ad e) (n : Nat) : EntAt (w.drewN n) ad e := ⟨h.c0, h.c1, h.c2, h.c3⟩

/-- A slice of entries that reads as l. -/
def ReadsE (w : World) (B : Nat) (A : Option Addr) (l : List Ent) : Prop := Reads w B 4 A l.length (cellsE l)
theorem ReadsE.at_ {w : World} {B : Nat} {A : Option Addr} {l : List Ent} {k : Nat} {e : Ent} (h : ReadsE w B A l) (hk : l[k]? = some e) :
    ∃ ad, A = some ad ∧ ad.block < B ∧ EntAt w (ad.add (k * 4)) e := by
  have hlt : k < l.length := (List.getElem?_eq_some_iff.1 hk).1
  obtain ⟨ad, hA, hb, hc⟩ := h.2 (by omega)
  have hg := cellsE_get hk
  refine ⟨ad, hA, hb, ⟨hc (k * 4) _ (hg 0 (by omega)), ?_, ?_, ?_⟩⟩
  · have := hc (k * 4 + 1) _ (hg 1 (by omega)); rwa [← add_of_add] at this
  · have := hc (k * 4 + 2) _ (hg 2 (by omega)); rwa [← add_of_add] at this
  · have := hc (k * 4 + 3) _ (hg 3 (by omega)); rwa [← add_of_add] at this
theorem ReadsE.nil_ (w : World) (B : Nat) : ReadsE w B none [] := Reads.none_
theorem ReadsE.drewN {w : World} {B : Nat} {A : Option Addr} {l : List Ent} (h : ReadsE w B A l) (n : Nat) : ReadsE (w.drewN n) B A l := Reads.drewN h n
theorem ReadsE.below {w w' : World} {B : Nat} {A : Option Addr} {l : List Ent} (h : ReadsE w B A l) (hb : Below B w w') : ReadsE w' B A l := Reads.below h hb

theorem take_next {l : List Ent} {k : Nat} {x : Ent} (h : l[k]? = some x) : l.take (k + 1) = l.take k ++ [x] := by
  rw [List.take_add_one, h]; rfl
theorem ent_at {l : List Ent} {k : Nat} (h : k < l.length) : ∃ x, l[k]? = some x := ⟨l[k], List.getElem?_eq_getElem h⟩

/-- Two entries are the same, or where they first differ. -/
theorem ent_or (x y : Ent) : x = y ∨ (x ≠ y ∧ (¬ x.view = y.view ∨ (x.view = y.view ∧ ¬ x.what = y.what) ∨ (x.view = y.view ∧ x.what = y.what ∧ ¬ x.a = y.a) ∨ (x.view = y.view ∧ x.what = y.what ∧ x.a = y.a ∧ ¬ x.n = y.n))) := by
  by_cases h : x = y
  · exact .inl h
  · refine .inr ⟨h, ?_⟩
    by_cases h0 : x.view = y.view
    · by_cases h1 : x.what = y.what
      · by_cases h2 : x.a = y.a
        · exact .inr (.inr (.inr ⟨h0, h1, h2, fun h3 => h (Ent.ext_ h0 h1 h2 h3)⟩))
        · exact .inr (.inr (.inl ⟨h0, h1, h2⟩))
      · exact .inr (.inl ⟨h0, h1⟩)
    · exact .inl h0
theorem take_ne {l m : List Ent} {k : Nat} {x y : Ent} (hx : l[k]? = some x) (hy : m[k]? = some y) (h : x ≠ y) : l ≠ m := by
  rintro rfl
  rw [hx] at hy
  injection hy with hy
  exact h hy
