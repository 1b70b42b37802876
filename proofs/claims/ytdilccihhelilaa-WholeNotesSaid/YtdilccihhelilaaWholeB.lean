/- Notes in a row: where they stand. -/
import Derived.Test.YtdilccihhelilaaWholeA
namespace Go.Proofs.Ytdilccihhelilaa
open Go.Joins Go.RowKit Go.ChangeShapes Go.WideShapes Go.Deep
set_option linter.unusedVariables false
set_option linter.unusedSimpArgs false

/-- At this place of memory stands this note. -/
structure NAt (w : World) (ad : Addr) (v : NV) : Prop where
  c0 : w.cell? ad = some (.int .i64 v.what)
  c1 : w.cell? ⟨ad.block, ad.off + 1, none⟩ = some (.int .i64 v.view)
  c2 : w.cell? ⟨ad.block, ad.off + 2, none⟩ = some (.int .i64 v.n)
  c3 : w.cell? ⟨ad.block, ad.off + 3, none⟩ = some (.slice v.A v.es.length v.c)
theorem NAt.keep {w w' : World} {ad : Addr} {v : NV} {B : Nat} (h : NAt w ad v) (hb : Below B w w') (hl : ad.block < B) : NAt w' ad v :=
  ⟨(hb.cell hl).trans h.c0, (hb.cell (p := ⟨_, _, none⟩) hl).trans h.c1, (hb.cell (p := ⟨_, _, none⟩) hl).trans h.c2, (hb.cell (p := ⟨_, _, none⟩) hl).trans h.c3⟩
theorem RowsN.at_ {w : World} {B : Nat} {A : Option Addr} {ls : List NV} (h : RowsN w B A ls) {k : Nat} {v : NV} (hk : ls[k]? = some v) : ∃ ad, A = some ad ∧ (ad.add (k * 4)).block < B ∧ NAt w (ad.add (k * 4)) v ∧ v.In w B := by
  obtain ⟨ad, e, hb, h0, h1, h2, h3, h4⟩ := h k v hk
  exact ⟨ad, e, by rw [block_of_add]; exact hb, ⟨h0, h1, h2, h3⟩, h4⟩
theorem SR.at_ {w : World} {B : Nat} {Fa Fb : Nat → Prop} {A : Option Addr} {c : Nat} {l : List NV} (h : SR w B Fa Fb (.slice A l.length c) l) {k : Nat} {v : NV} (hk : l[k]? = some v) : ∃ ad, A = some ad ∧ (ad.add (k * 4)).block < w.heap.size ∧ NAt w (ad.add (k * 4)) v := by
  have hlt : k < l.length := (List.getElem?_eq_some_iff.1 hk).1
  obtain ⟨ad, hA, hb, hc⟩ := (own_reads h.own).2 (by omega)
  have hg := cellsN_get hk
  refine ⟨ad, hA, by rw [block_of_add]; exact hb, ⟨hc (k * 4) _ (hg 0 (by omega)), ?_, ?_, ?_⟩⟩
  · have := hc (k * 4 + 1) _ (hg 1 (by omega)); rwa [← add_of_add] at this
  · have := hc (k * 4 + 2) _ (hg 2 (by omega)); rwa [← add_of_add] at this
  · have := hc (k * 4 + 3) _ (hg 3 (by omega)); rwa [← add_of_add] at this
theorem own_blk_of {w : World} {base size n c : Nat} {e : TypeId} {A : Option Addr} {xs : List Value} (h : w.ownsRow base e size (.slice A n c) n xs) {ad : Addr} (hA : A = some ad) : base ≤ ad.block := by
  rcases h.2 with ⟨h', _⟩ | ⟨g', cap', cur, h', hb, hg, _⟩
  · injection h' with h'; rw [h'] at hA; cases hA
  · injection h' with h'
    rw [h'] at hA
    injection hA with hA
    subst hA
    exact hb
theorem note_of (v : NV) (w : World) (h : v.In w w.heap.size) : Calls Try.prog 9 #[.agg #[.int .i64 v.what, .int .i64 v.view, .int .i64 v.n, .slice v.A v.es.length v.c]] w (NPost w (if v.err = 0 then v.bs else []) v.err) :=
  note_any v.what v.view v.n v.A v.c v.es w h.r h.i h.view h.n (Nat.le_trans h.c h.m)
theorem NV.In.more {v : NV} {w : World} {B B' : Nat} (h : v.In w B) (hB : B ≤ B') : v.In w B' := ⟨h.what, h.view, h.n, Reads.more h.r hB, h.i, h.c, h.m⟩
end Go.Proofs.Ytdilccihhelilaa
