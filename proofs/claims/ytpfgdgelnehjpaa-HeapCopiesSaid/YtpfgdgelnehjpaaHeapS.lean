/- A heap's places do not meet; a store into a list of objects of one's own. -/
import Derived.Test.YtpfgdgelnehjpaaHeapL
namespace Go.Proofs.Ytpfgdgelnehjpaa
open Go.RowKit
set_option linter.unusedVariables false
set_option linter.unusedSimpArgs false

/-- Places one behind the other. -/
structure WS (ps : List Pc) (vs : List Vl) : Prop where
  wp : WP ps vs
  pd : ps.Pairwise (fun p q => p.hi ≤ q.lo)
  vl : vs.length ≤ ps.length * 1024
theorem WS.nil : WS [] [] := ⟨fun p h => absurd h (by simp), List.Pairwise.nil, by simp⟩
theorem WS.push {ps : List Pc} {vs : List Vl} (h : WS ps vs) (t : Ty) (ts : List Ty) (ht : ts.length ≤ 1024) : WS (ps ++ [⟨t, vs.length, vs.length + ts.length⟩]) (vs ++ ts.map firstV) := by
  refine ⟨fun p hp => ?_, ?_, ?_⟩
  · rcases List.mem_append.1 hp with hp | hp
    · have := h.wp p hp
      rw [List.length_append]
      omega
    · rw [List.mem_singleton.1 hp, List.length_append, List.length_map]
      dsimp only
      omega
  · rw [List.pairwise_append]
    refine ⟨h.pd, List.pairwise_singleton _ _, fun a ha b hb => ?_⟩
    rw [List.mem_singleton.1 hb]
    exact (h.wp a ha).2
  · have := h.vl
    rw [List.length_append, List.length_append, List.length_map]
    simp only [List.length_cons, List.length_nil]
    omega
theorem WS.add {ps : List Pc} {vs : List Vl} (h : WS ps vs) (most : Int) (t : Ty) (ts : List Ty) (ht : ts.length ≤ 1024) : WS (addP ps vs most t ts) (addV ps vs most ts) := by
  unfold addP addV
  by_cases hf : (ps.length : Int) < most
  · rw [if_pos hf, if_pos hf]; exact h.push t ts ht
  · rw [if_neg hf, if_neg hf]; exact h
theorem WS.mk_ {ps : List Pc} {vs : List Vl} (h : WS ps vs) (most : Int) (t : Ty) (ts : List Ty) : WS (mkP ps vs most t ts) (mkV ps vs most ts) := by
  unfold mkP mkV
  by_cases hf : 1024 < ts.length
  · rw [if_pos hf, if_pos hf]; exact h
  · rw [if_neg hf, if_neg hf]; exact h.add most t ts (by omega)
theorem WS.ar {ps : List Pc} {vs : List Vl} (h : WS ps vs) (most : Int) (t f : Ty) (n : Int) : WS (arP ps vs most t f n) (arV ps vs most f n) := by
  unfold arP arV
  by_cases hf : n < 0 ∨ 1024 < n
  · rw [if_pos hf, if_pos hf]; exact h
  · rw [if_neg hf, if_neg hf]; exact h.add most t _ (by rw [List.length_replicate]; omega)
theorem addP_len {ps : List Pc} {most : Int} (h : (ps.length : Int) ≤ most) (vs : List Vl) (t : Ty) (ts : List Ty) : ((addP ps vs most t ts).length : Int) ≤ most := by
  unfold addP
  by_cases hf : (ps.length : Int) < most
  · rw [if_pos hf, List.length_append]; simp only [List.length_cons, List.length_nil]; omega
  · rw [if_neg hf]; exact h
theorem mkP_len {ps : List Pc} {most : Int} (h : (ps.length : Int) ≤ most) (vs : List Vl) (t : Ty) (ts : List Ty) : ((mkP ps vs most t ts).length : Int) ≤ most := by
  unfold mkP
  split
  · exact h
  · exact addP_len h vs t ts
theorem arP_len {ps : List Pc} {most : Int} (h : (ps.length : Int) ≤ most) (vs : List Vl) (t f : Ty) (n : Int) : ((arP ps vs most t f n).length : Int) ≤ most := by
  unfold arP
  split
  · exact h
  · exact addP_len h vs t _
theorem dataV_set_in {vs : List Vl} {p : Pc} {j : Nat} (v : Vl) (hp : p.lo ≤ p.hi ∧ p.hi ≤ vs.length) (hj : j < p.hi - p.lo) : dataV (vs.set (p.lo + j) v) p = (dataV vs p).set j v := by
  unfold dataV
  rw [List.drop_set, if_neg (by omega), List.take_set]
  congr 1
  omega
theorem dataV_set_out {vs : List Vl} {q : Pc} {m : Nat} (v : Vl) (h : m < q.lo ∨ q.hi ≤ m) : dataV (vs.set m v) q = dataV vs q := by
  unfold dataV
  rw [List.drop_set]
  split
  · rfl
  · rw [List.take_set, List.set_eq_of_length_le]
    rw [List.length_take]
    omega
/-- The objects of a heap, as told. -/
def objs (ps : List Pc) (vs : List Vl) : List (Ty × List Vl) := ps.map (fun p => (p.t, dataV vs p))
theorem objs_set {ps : List Pc} {vs : List Vl} {k j : Nat} {p : Pc} (v : Vl) (h : WS ps vs) (hk : ps[k]? = some p) (hj : j < p.hi - p.lo) : objs ps (vs.set (p.lo + j) v) = (objs ps vs).set k (p.t, (dataV vs p).set j v) := by
  have hp := h.wp p (List.mem_of_getElem? hk)
  obtain ⟨hkl, hke⟩ := List.getElem?_eq_some_iff.1 hk
  apply List.ext_getElem?
  intro i
  unfold objs
  rw [List.getElem?_map, List.getElem?_set]
  by_cases hi : k = i
  · subst hi
    rw [if_pos rfl, hk, if_pos (by rw [List.length_map]; exact hkl)]
    simp only [Option.map_some]
    rw [dataV_set_in v hp hj]
  · rw [if_neg hi, List.getElem?_map]
    cases hq : ps[i]? with
    | none => rfl
    | some q =>
      obtain ⟨hil, hie⟩ := List.getElem?_eq_some_iff.1 hq
      simp only [Option.map_some]
      rw [dataV_set_out v]
      have hpw := List.pairwise_iff_getElem.1 h.pd
      have hqw := h.wp q (List.mem_of_getElem? hq)
      rcases Nat.lt_or_gt_of_ne hi with hlt | hgt
      · have := hpw k i hkl hil hlt
        rw [hke, hie] at this
        exact .inl (by omega)
      · have := hpw i k hil hkl hgt
        rw [hke, hie] at this
        exact .inr (by omega)
theorem WS.set_ {ps : List Pc} {vs : List Vl} (h : WS ps vs) (m : Nat) (v : Vl) : WS ps (vs.set m v) :=
  ⟨fun p hp => by rw [List.length_set]; exact h.wp p hp, h.pd, by rw [List.length_set]; exact h.vl⟩
theorem flat_same {α : Type} (f : α → List Value) (l : List α) (k : Nat) (e e' : α) (h : l[k]? = some e) (he : f e' = f e) : (l.set k e').flatMap f = l.flatMap f := by
  induction l generalizing k with
  | nil => rfl
  | cons a l ih =>
    cases k with
    | zero =>
      simp only [List.getElem?_cons_zero, Option.some.injEq] at h
      subst h
      rw [List.set_cons_zero, List.flatMap_cons, List.flatMap_cons, he]
    | succ k =>
      rw [List.getElem?_cons_succ] at h
      rw [List.set_cons_succ, List.flatMap_cons, List.flatMap_cons, ih k h]
/-- A store into one's own list of objects. -/
theorem OL.put {w : World} {base : Nat} {v : Value} {os : List Ob} {k j : Nat} {o : Ob} (h : OL w base v os) (hk : os[k]? = some o) (hj : j < o.d.length) :
    ∃ gb, o.A = some ⟨gb, 0, none⟩ ∧ base ≤ gb ∧ gb < w.heap.size ∧ (∀ i, w.frozen? ⟨gb, i, none⟩ = false) ∧ (∀ i, i < 3 → (w.cell? ⟨gb, j * 3 + i, none⟩).isSome = true) ∧
      ∀ u : Vl, OL (((w.setCell ⟨gb, j * 3, none⟩ (.int .i64 u.k)).setCell ⟨gb, j * 3 + 1, none⟩ (.int .i64 u.n)).setCell ⟨gb, j * 3 + 2, none⟩ (.int .i64 u.r)) base v (os.set k ⟨o.t, o.d.set j u, o.A, o.c⟩) := by
  obtain ⟨h1, h2, h3⟩ := h
  have hd := h2 o (List.mem_of_getElem? hk)
  obtain ⟨hkl, hke⟩ := List.getElem?_eq_some_iff.1 hk
  obtain ⟨ot, od, oA, oc⟩ := o
  rcases hd.2 with ⟨_, h0⟩ | ⟨gb, cap, cur, hv, hb, hg, hn, hm, hc, ht⟩
  · dsimp only at hj h0; omega
  · injection hv with e1 e2 e3
    subst e1
    have hK : Blk w gb 49 cur := hg
    refine ⟨gb, rfl, hb, hK.lt, fun i => hK.frozen i, fun i hi => ?_, fun u => ?_⟩
    · have := World.ownsRow.cellAt hd (j * 3 + i) (by dsimp only at hj ⊢; omega)
      rw [this, List.getElem?_eq_getElem (by rw [cellsV_length]; dsimp only at hj ⊢; omega)]
      rfl
    · have s1 := (World.ownsRow.stored hd (j * 3) (.int .i64 u.k)).1
      have s2 := (World.ownsRow.stored s1 (j * 3 + 1) (.int .i64 u.n)).1
      have s3 := (World.ownsRow.stored s2 (j * 3 + 2) (.int .i64 u.r)).1
      rw [cellsV_set _ _ _ hj] at s3
      have k1 := hK.set_ (j * 3) (.int .i64 u.k)
      have k2 := k1.set_ (j * 3 + 1) (.int .i64 u.n)
      have o1 := own_cell (i := j * 3) h1 hK (by decide) (.int .i64 u.k)
      have o2 := own_cell (i := j * 3 + 1) o1 k1 (by decide) (.int .i64 u.n)
      have o3 := own_cell (i := j * 3 + 2) o2 k2 (by decide) (.int .i64 u.r)
      have hl : (od.set j u).length = od.length := List.length_set
      have hpw := List.pairwise_iff_getElem.1 h3
      have hgen : ∀ i a, i ≠ k → os[i]? = some a → a.sl.ownBlock ≠ some gb := by
        intro i a hik hia
        obtain ⟨hil, hie⟩ := List.getElem?_eq_some_iff.1 hia
        rcases Nat.lt_or_gt_of_ne hik with hlt | hgt
        · have := hpw i k hil hkl hlt
          rw [hke, hie] at this
          rcases this with h | h
          · rw [h]; simp
          · exact fun e => h e
        · have := hpw k i hkl hil hgt
          rw [hke, hie] at this
          rcases this with h | h
          · cases h
          · exact fun e => h e.symm
      refine ⟨?_, fun a ha => ?_, ?_⟩
      · rw [List.length_set]
        have e : cellsO (os.set k ⟨ot, od.set j u, some ⟨gb, 0, none⟩, oc⟩) = cellsO os := flat_same Ob.cells os k _ _ hk (by simp [Ob.cells, hl])
        rw [e]
        exact o3
      · obtain ⟨i, hi⟩ := List.getElem?_of_mem ha
        rw [List.getElem?_set] at hi
        by_cases hik : k = i
        · rw [if_pos hik] at hi
          split at hi
          · injection hi with hi
            subst hi
            have e : (Ob.sl ⟨ot, od.set j u, some ⟨gb, 0, none⟩, oc⟩) = Value.slice (some ⟨gb, 0, none⟩) od.length oc := by simp [Ob.sl, hl]
            rw [e]
            show World.ownsRow _ base 49 3 _ (od.set j u).length _
            rw [hl]
            exact s3
          · rename_i hno
            exact absurd hkl (by omega)
        · rw [if_neg hik] at hi
          have hne := hgen i a (fun e => hik e.symm) hi
          have a0 := h2 a (List.mem_of_getElem? hi)
          exact ownsRow_setCell_other (a := ⟨gb, j * 3 + 2, none⟩) (ownsRow_setCell_other (a := ⟨gb, j * 3 + 1, none⟩) (ownsRow_setCell_other (a := ⟨gb, j * 3, none⟩) a0 hne _) hne _) hne _
      · rw [List.pairwise_iff_getElem]
        intro i i' hi hi' hlt
        rw [List.length_set] at hi hi'
        have hr := hpw i i' hi hi' hlt
        have hsl : ∀ m (hm : m < os.length) (hm2 : m < (os.set k ⟨ot, od.set j u, some ⟨gb, 0, none⟩, oc⟩).length), ((os.set k ⟨ot, od.set j u, some ⟨gb, 0, none⟩, oc⟩)[m]).sl = (os[m]).sl := by
          intro m hm hm2
          rw [List.getElem_set]
          split
          · rename_i e
            subst e
            rw [hke]
            simp [Ob.sl, hl]
          · rfl
        rw [hsl i hi, hsl i' hi']
        exact hr
end Go.Proofs.Ytpfgdgelnehjpaa
