/- An end of a way: its state, and its plain methods. -/
import Derived.Test.YtdilccihhelilaaPairZ
import Derived.Test.YtdilccihhelilaaWMakeP
import Derived.Test.YtdilccihhelilaaWrap
import Derived.Test.YtdilccihhelilaaMapI
import Derived.Deep.RegionLaw
import Derived.BigRegion
import Derived.Lib.Hide
namespace Go.Proofs.Ytdilccihhelilaa
open Go.RowKit
set_option linter.unusedVariables false
set_option linter.unusedSimpArgs false

/-- Block k is no row of bytes. -/
def NoB (w : World) (k : Nat) : Prop := ∀ cur fr, w.heap[k]? ≠ some (.cells cur 5 fr)
section
variable {w w' : World} {F G : Nat → Prop} {base g k : Nat} {t : TypeId} {cs : Array Value}
theorem Blk.noB (h : Blk w g t cs) (ht : t ≠ 5) : NoB w g := fun cur fr e => by
  unfold Blk at h
  rw [h] at e
  injection e with e
  injection e with _ e
  exact ht e
theorem NoB.same (h : NoB w k) (e : w'.heap[k]? = w.heap[k]?) : NoB w' k := fun cur fr h' => h cur fr (e ▸ h')
theorem MapI.noB {n : Nat} {f : Int → Option Value} (h : MapI w k n f) : NoB w k := by
  obtain ⟨D, ⟨es, clock, hb, _⟩, _⟩ := h
  intro cur fr e
  rw [hb] at e
  cases e
theorem own_noB {n c size : Nat} {A : Option Addr} {e : TypeId} {xs : List Value} (h : w.ownsRow base e size (.slice A n c) n xs) (he : e ≠ 5) {ad : Addr} (hA : A = some ad) : NoB w ad.block ∧ ad.block < w.heap.size := by
  rcases h.2 with ⟨h', _⟩ | ⟨g', cap', cur, h', hb, hg, _⟩
  · injection h' with h'; rw [h'] at hA; cases hA
  · injection h' with h'
    rw [h'] at hA
    injection hA with hA
    subst hA
    refine ⟨Blk.noB (t := e) hg he, ?_⟩
    exact (Array.getElem?_eq_some_iff.1 hg).1
theorem OwnB.keep {v : Value} {xs : List Int} (h : OwnB w base v xs) (hT : Turned F w w') (hF : ∀ k, F k → NoB w k) : OwnB w' base v xs := by
  refine own_turned h hT fun g hg hFg => ?_
  rcases h.2 with ⟨rfl, _⟩ | ⟨g', cap', cur, rfl, hb, hh, _⟩
  · simp [Value.ownBlock] at hg
  · have : g' = g := by simpa [Value.ownBlock] using hg
    subst this
    exact hF g' hFg cur (0, 0) hh
end
/-- Values that are bytes of their own. -/
def OBs (w : World) : List Value → List (List Int) → Prop
  | [], [] => True
  | v :: vs, x :: xs => OwnB w 0 v x ∧ OBs w vs xs
  | _, _ => False
theorem OBs.len {w : World} : ∀ {vs : List Value} {xs : List (List Int)}, OBs w vs xs → vs.length = xs.length
  | [], [], _ => rfl
  | _ :: vs, _ :: xs, h => by rw [List.length_cons, List.length_cons, OBs.len h.2]
  | [], _ :: _, h => h.elim
  | _ :: _, [], h => h.elim
theorem OBs.keep {w w' : World} (hk : ∀ v x, OwnB w 0 v x → OwnB w' 0 v x) : ∀ {vs : List Value} {xs : List (List Int)}, OBs w vs xs → OBs w' vs xs
  | [], [], _ => trivial
  | _ :: vs, _ :: xs, h => ⟨hk _ _ h.1, OBs.keep hk h.2⟩
  | [], _ :: _, h => h.elim
  | _ :: _, [], h => h.elim
theorem OBs.append {w : World} : ∀ {vs us : List Value} {xs ys : List (List Int)}, OBs w vs xs → OBs w us ys → OBs w (vs ++ us) (xs ++ ys)
  | [], _, [], _, _, h => h
  | _ :: vs, _, _ :: xs, _, h, h' => ⟨h.1, OBs.append h.2 h'⟩
  | [], _, _ :: _, _, h, _ => h.elim
  | _ :: _, _, [], _, h, _ => h.elim
theorem OBs.drop {w : World} : ∀ (n : Nat) {vs : List Value} {xs : List (List Int)}, OBs w vs xs → OBs w (vs.drop n) (xs.drop n)
  | 0, _, _, h => h
  | n + 1, [], [], _ => trivial
  | n + 1, _ :: vs, _ :: xs, h => OBs.drop n h.2
  | n + 1, [], _ :: _, h => h.elim
  | n + 1, _ :: _, [], h => h.elim
theorem OBs.at_ {w : World} {x : List Int} : ∀ {vs : List Value} {xs : List (List Int)} {k : Nat}, OBs w vs xs → xs[k]? = some x → ∃ v, vs[k]? = some v ∧ OwnB w 0 v x
  | v :: vs, y :: xs, 0, h, e => by
    simp only [List.getElem?_cons_zero, Option.some.injEq] at e
    exact ⟨v, rfl, e ▸ h.1⟩
  | v :: vs, y :: xs, k + 1, h, e => by
    rw [List.getElem?_cons_succ] at e ⊢
    exact OBs.at_ (vs := vs) (xs := xs) (k := k) h.2 e
  | [], _ :: _, _, h, _ => h.elim
  | _, [], _, _, e => by simp at e
theorem ownB_one {w : World} {base : Nat} {v : Value} {xs : List Int} (h : OwnB w base v xs) : v.oneCell' = true := by
  obtain ⟨A, c, rfl, _⟩ := own_form h
  rfl
theorem OBs.one {w : World} : ∀ {vs : List Value} {xs : List (List Int)}, OBs w vs xs → ∀ v ∈ vs, v.oneCell' = true
  | _ :: vs, _ :: xs, h, u, hu => by
    rcases List.mem_cons.1 hu with rfl | hu
    · exact ownB_one h.1
    · exact OBs.one h.2 u hu
  | [], _, _, u, hu => absurd hu (by simp)
  | _ :: _, [], h, _, _ => h.elim

/-- An end: what it keeps, the number of the first of these, how many came, what came early (at most cnt). Its blocks are F's. -/
def HE (w : World) (F : Nat → Prop) (g m cnt : Nat) (own : Bool) (kv : List Value) (first got : Int) (ev : Int → Option Value) : Prop :=
  ∃ A c, Blk w g 47 #[.bool true, .slice A kv.length c, .int .i64 first, .int .i64 got, .map (some m)] ∧
    (own = true → w.ownsRow 0 27 1 (.slice A kv.length c) kv.length kv) ∧ (kv.length ≤ c ∧ c ≤ maxLen) ∧
    Reads w w.heap.size 1 A kv.length kv ∧ (∀ ad, A = some ad → F ad.block ∧ ad.block ≠ g ∧ ad.block ≠ m) ∧ MapI w m cnt ev ∧ F g ∧ F m ∧ (∀ k, F k → k < w.heap.size ∧ NoB w k)
section
variable {w w' : World} {F G : Nat → Prop} {g m cnt : Nat} {own : Bool} {kv : List Value} {first got : Int} {ev : Int → Option Value}
theorem reads_turned {size n : Nat} {A : Option Addr} {xs : List Value} (h : Reads w w.heap.size size A n xs) (k : Turned G w w') (hA : ∀ ad, A = some ad → ¬ G ad.block) : Reads w' w'.heap.size size A n xs :=
  ⟨h.1, fun hn => by
    obtain ⟨ad, e, hb, hc⟩ := h.2 hn
    have := k.size
    exact ⟨ad, e, by omega, fun j u hu => (World.cell?_of_block (k.block _ (by rw [block_of_add]; exact hb) (by rw [block_of_add]; exact hA ad e))).trans (hc j u hu)⟩⟩
theorem HE.turned (h : HE w F g m cnt own kv first got ev) (k : Turned G w w') (hd : ∀ i, F i → ¬ G i) : HE w' F g m cnt own kv first got ev := by
  obtain ⟨A, c, hB, hO, hc, hR, hA, hM, hFg, hFm, hF⟩ := h
  refine ⟨A, c, hB.turned k (hd g hFg), fun e => own_turned (hO e) k (fun i hi => ?_), hc, reads_turned hR k (fun ad e => hd _ (hA ad e).1), hA, hM.turned k (hd m hFm), hFg, hFm, fun i hi => ⟨?_, (hF i hi).2.same (k.block i (hF i hi).1 (hd i hi))⟩⟩
  · cases A with
    | none => simp [Value.ownBlock] at hi
    | some ad =>
      rcases (hO e).2 with ⟨h', _⟩ | ⟨g', cap', cur, h', hb, hg, _⟩
      · cases h'
      · injection h' with h'
        injection h' with h'
        subst h'
        have : g' = i := by simpa [Value.ownBlock] using hi
        subst this
        exact hd _ (hA _ rfl).1
  · have := (hF i hi).1
    have := k.size
    omega
theorem HE.below (h : HE w F g m cnt own kv first got ev) (k : Below w.heap.size w w') : HE w' F g m cnt own kv first got ev :=
  h.turned (Turned.of_below (F := fun _ => False) k) fun _ _ h => h
theorem HE.lt (h : HE w F g m cnt own kv first got ev) (k : Nat) (hk : F k) : k < w.heap.size ∧ NoB w k := by
  obtain ⟨A, c, hB, hO, hc, hR, hA, hM, hFg, hFm, hF⟩ := h
  exact hF k hk
theorem HE.noB (h : HE w F g m cnt own kv first got ev) (k : Nat) (hk : F k) : NoB w k := (h.lt k hk).2
theorem HE.cell3 (h : HE w F g m cnt own kv first got ev) : w.cell? ⟨g, 0, none⟩ = some (.bool true) ∧ w.cell? ⟨g, 2, none⟩ = some (.int .i64 first) ∧ w.cell? ⟨g, 3, none⟩ = some (.int .i64 got) ∧ w.cell? ⟨g, 4, none⟩ = some (.map (some m)) := by
  obtain ⟨A, c, hB, _⟩ := h
  exact ⟨hB.cell 0, hB.cell 2, hB.cell 3, hB.cell 4⟩
theorem he_ne (h : HE w F g m cnt own kv first got ev) : g ≠ m := by
  obtain ⟨A, c, hB, hO, hc, hR, hA, hM, hFg, hFm, hF⟩ := h
  intro e
  obtain ⟨D, ⟨es, clock, hb, _⟩, _⟩ := hM
  unfold Blk at hB
  rw [e] at hB
  rw [hB] at hb
  cases hb
theorem reads_set {size n : Nat} {A : Option Addr} {xs : List Value} (h : Reads w w.heap.size size A n xs) (hA : ∀ ad, A = some ad → ad.block ≠ g) (j : Nat) (u : Value) : Reads (w.setCell ⟨g, j, none⟩ u) (w.setCell ⟨g, j, none⟩ u).heap.size size A n xs :=
  ⟨h.1, fun hn => by
    obtain ⟨ad, e, hb, hc⟩ := h.2 hn
    refine ⟨ad, e, by simpa [World.setCell] using hb, fun j' u' hu => (World.cell?_setCell_other _ _ _ _ fun e' => ?_).trans (hc j' u' hu)⟩
    have := congrArg Addr.block e'
    rw [block_of_add] at this
    exact hA ad e this.symm⟩
/-- A cell of an end's own is stored. -/
theorem he_set (h : HE w F g m cnt own kv first got ev) (f' g' : Int) {A' : Option Addr} {c' : Nat} {kv' : List Value} {own' : Bool} (j : Nat) (u : Value)
    (hN : ∀ A c, w.cell? ⟨g, 1, none⟩ = some (.slice A kv.length c) → (#[.bool true, .slice A kv.length c, .int .i64 first, .int .i64 got, .map (some m)] : Array Value).setIfInBounds j u = #[.bool true, .slice A' kv'.length c', .int .i64 f', .int .i64 g', .map (some m)] ∧
      (kv.length ≤ c ∧ c ≤ maxLen → kv'.length ≤ c' ∧ c' ≤ maxLen) ∧ (Reads w w.heap.size 1 A kv.length kv → Reads w w.heap.size 1 A' kv'.length kv') ∧ (∀ ad', A' = some ad' → ∃ ad, A = some ad ∧ ad'.block = ad.block) ∧
      (own' = true → own = true ∧ A' = A ∧ c' = c ∧ kv' = kv)) :
    HE (w.setCell ⟨g, j, none⟩ u) F g m cnt own' kv' f' g' ev := by
  have hgm := he_ne h
  obtain ⟨A, c, hB, hO, hc, hR, hA, hM, hFg, hFm, hF⟩ := h
  obtain ⟨n1, n2, n3, n4, n5⟩ := hN A c (hB.cell 1)
  have hB' := hB.set_ j u
  rw [n1] at hB'
  have hA' : ∀ ad, A' = some ad → F ad.block ∧ ad.block ≠ g ∧ ad.block ≠ m := fun ad e => by
    obtain ⟨ad0, e0, eb⟩ := n4 ad e
    rw [eb]
    exact hA ad0 e0
  have hsz : (w.setCell ⟨g, j, none⟩ u).heap.size = w.heap.size := by simp [World.setCell]
  refine ⟨A', c', hB', fun e => ?_, n2 hc, reads_set (n3 hR) (fun ad e => (hA' ad e).2.1) j u, hA', hM.setCell (Ne.symm hgm) _, hFg, hFm, fun k hk => ⟨by rw [hsz]; exact (hF k hk).1, ?_⟩⟩
  · obtain ⟨e1, rfl, rfl, rfl⟩ := n5 e
    refine World.ownsRow.kept (row := some g) (hO e1) ⟨rfl, rfl, rfl, by simp [World.setCell], fun k _ hne => Below.heap_setCell w _ u k (fun e => hne (by rw [e]))⟩ (.inr ?_)
    exact own_blk_ne (hO e1) hB (by decide)
  · by_cases hkg : k = g
    · subst hkg; exact hB'.noB (by decide)
    · exact (hF k hk).2.same (Below.heap_setCell w _ _ k hkg)
theorem he_first (h : HE w F g m cnt own kv first got ev) (f' : Int) : HE (w.setCell ⟨g, 2, none⟩ (.int .i64 f')) F g m cnt own kv f' got ev := by
  obtain ⟨A, c, hc, _⟩ : ∃ A c, w.cell? ⟨g, 1, none⟩ = some (.slice A kv.length c) ∧ True := by
    obtain ⟨A, c, hB, _⟩ := h
    exact ⟨A, c, hB.cell 1, trivial⟩
  refine he_set h f' got (A' := A) (c' := c) 2 _ fun A1 c1 e => ?_
  rw [hc] at e
  injection e with e
  injection e with e1 _ e2
  subst e1
  subst e2
  exact ⟨rfl, id, id, fun ad e => ⟨ad, e, rfl⟩, fun e => ⟨e, rfl, rfl, rfl⟩⟩
theorem he_got (h : HE w F g m cnt own kv first got ev) (g' : Int) : HE (w.setCell ⟨g, 3, none⟩ (.int .i64 g')) F g m cnt own kv first g' ev := by
  obtain ⟨A, c, hc, _⟩ : ∃ A c, w.cell? ⟨g, 1, none⟩ = some (.slice A kv.length c) ∧ True := by
    obtain ⟨A, c, hB, _⟩ := h
    exact ⟨A, c, hB.cell 1, trivial⟩
  refine he_set h first g' (A' := A) (c' := c) 3 _ fun A1 c1 e => ?_
  rw [hc] at e
  injection e with e
  injection e with e1 _ e2
  subst e1
  subst e2
  exact ⟨rfl, id, id, fun ad e => ⟨ad, e, rfl⟩, fun e => ⟨e, rfl, rfl, rfl⟩⟩
theorem he_cut (h : HE w F g m cnt own kv first got ev) {A : Option Addr} {c N : Nat} (hc : w.cell? ⟨g, 1, none⟩ = some (.slice A kv.length c)) (hN : N ≤ kv.length) :
    HE (w.setCell ⟨g, 1, none⟩ (.slice (if c = N then A else A.map (·.add N)) (kv.length - N) (c - N))) F g m cnt false (kv.drop N) first got ev := by
  refine he_set h first got (A' := if c = N then A else A.map (·.add N)) (c' := c - N) 1 _ fun A1 c1 e => ?_
  rw [hc] at e
  injection e with e
  injection e with e1 _ e2
  subst e1
  subst e2
  refine ⟨by rw [List.length_drop]; rfl, fun h => by rw [List.length_drop]; omega, fun hR => ?_, fun ad' e => ?_, fun e => by cases e⟩
  · obtain ⟨A0, c0, hB, _, ⟨h1, _⟩, _⟩ := h
    have e0 := hB.cell 1
    rw [hc] at e0
    have : c = c0 := by
      have := Option.some.inj e0
      injection this
    have := hR.cut (cap := c) hN (by omega)
    rw [List.length_drop]
    simpa using this
  · split at e
    · exact ⟨ad', e, rfl⟩
    · cases A with
      | none => simp at e
      | some ad =>
        simp only [Option.map_some, Option.some.injEq] at e
        subst e
        exact ⟨ad, rfl, block_of_add _ _⟩
theorem he_map {cnt' : Nat} {ev' : Int → Option Value} (h : HE w F g m cnt own kv first got ev) (hM' : MapI w' m cnt' ev') (hg : w.grownBy w' (some m)) : HE w' F g m cnt' own kv first got ev' := by
  have hgm := he_ne h
  obtain ⟨A, c, hB, hO, hc, hR, hA, hM, hFg, hFm, hF⟩ := h
  have hT : Turned (fun k => k = m) w w' := Turned.of_grown hg (fun k e => by injection e with e; exact e.symm)
  refine ⟨A, c, hB.turned hT hgm, fun e => own_turned (hO e) hT fun q hq e' => ?_, hc, reads_turned hR hT (fun ad e => (hA ad e).2.2), hA, hM', hFg, hFm, fun k hk => ⟨by have := (hF k hk).1; have := hT.size; omega, ?_⟩⟩
  · rcases (hO e).2 with ⟨h', _⟩ | ⟨g', cap', cur, h', hb, hg', _⟩
    · rw [h'] at hq; simp [Value.ownBlock] at hq
    · have h2 := h'
      injection h2 with h2
      rw [h'] at hq
      have : g' = q := by simpa [Value.ownBlock] using hq
      subst this
      exact (hA _ h2).2.2 e'
  · by_cases hkm : k = m
    · subst hkm; exact hM'.noB
    · exact (hF k hk).2.same (hT.block k (hF k hk).1 hkm)
theorem HE.loose (h : HE w F g m cnt own kv first got ev) : HE w F g m cnt false kv first got ev := by
  obtain ⟨A, c, hB, hO, hc, hR, hA, hM, hFg, hFm, hF⟩ := h
  exact ⟨A, c, hB, fun e => (by cases e), hc, hR, hA, hM, hFg, hFm, hF⟩
theorem HE.more {cnt' : Nat} (h : HE w F g m cnt own kv first got ev) (hc : cnt ≤ cnt') : HE w F g m cnt' own kv first got ev := by
  obtain ⟨A, c, hB, hO, hc', hR, hA, hM, hFg, hFm, hF⟩ := h
  exact ⟨A, c, hB, hO, hc', hR, hA, hM.more hc, hFg, hFm, hF⟩
theorem HE.cell1 (h : HE w F g m cnt own kv first got ev) : ∃ A c, w.cell? ⟨g, 1, none⟩ = some (.slice A kv.length c) ∧ (kv.length ≤ c ∧ c ≤ maxLen) ∧ Reads w w.heap.size 1 A kv.length kv := by
  obtain ⟨A, c, hB, hO, hc, hR, _⟩ := h
  exact ⟨A, c, hB.cell 1, hc, hR⟩
end

set_option maxRecDepth 100000 in
set_option maxHeartbeats 1000000 in
theorem pnone_no (g : Nat) (w : World) (h : w.cell? ⟨g, 0, none⟩ = some (.bool true)) :
    Calls Try.prog 24 #[.pointer (some ⟨g, 0, none⟩)] w fun e w' => e = .returned (.bool false) ∧ w = w' := by
  go_enter Try.func24, Try.ntmps24
  go_wp2_with fail
  exact bodyPost_ret (v := .bool false) (by simp [results, Try.results24, go_sem] <;> rfl) rfl ⟨rfl, rfl⟩

set_option maxRecDepth 100000 in
set_option maxHeartbeats 1000000 in
theorem pnew_any (w : World) :
    Calls Try.prog 8 #[] w fun e w' => e = .returned (.pointer (some ⟨w.heap.size + 1, 0, none⟩)) ∧ HE w' (fun k => k = w.heap.size ∨ k = w.heap.size + 1) (w.heap.size + 1) w.heap.size 0 true [] 1 0 (fun _ => none) ∧ Below w.heap.size w w' := by
  go_enter Try.func8, Try.ntmps8
  have hmm := @run_makeMap Try.prog
  go_wp2_with fail
  have hM := (MapI.made w).alloc (.cells #[.bool true, .slice none 0 0, .int .i64 1, .int .i64 0, .map (some w.heap.size)] 47)
  have hB := Blk.new (w.alloc (.map #[] 0)) 47 #[.bool true, .slice none 0 0, .int .i64 1, .int .i64 0, .map (some w.heap.size)]
  simp only [World.size_alloc] at hB
  go_ret
  refine ⟨rfl, ⟨none, 0, hB, fun _ => World.ownsRow_nil _ _ _ _, ⟨Nat.le_refl _, by unfold maxLen; omega⟩, Reads.none_, fun ad e => (by cases e), hM, .inr rfl, .inl rfl, fun k hk => ?_⟩, ((Below.refl _ _).alloc (Nat.le_refl _) _).alloc (by simp) _⟩
  rcases hk with rfl | rfl
  · exact ⟨hM.lt, hM.noB⟩
  · exact ⟨hB.lt, hB.noB (by decide)⟩

set_option maxRecDepth 100000 in
set_option maxHeartbeats 1000000 in
theorem kept_any (F : Nat → Prop) (g m cnt : Nat) (own : Bool) (kv : List Value) (first got : Int) (ev : Int → Option Value) (w : World) (h : HE w F g m cnt own kv first got ev) :
    Calls Try.prog 14 #[.pointer (some ⟨g, 0, none⟩)] w fun e w' => e = .returned (.int .i64 kv.length) ∧ w = w' := by
  obtain ⟨c0, c2, c3, c4⟩ := h.cell3
  obtain ⟨A, c, c1, _⟩ := h.cell1
  go_enter Try.func14, Try.ntmps14
  go_wp2_with fail
  refine (pnone_no g w c0).mono ?_
  rintro _ _ ⟨rfl, rfl⟩
  go_wp2_with fail
  go_ret
  exact ⟨rfl, rfl⟩
set_option maxRecDepth 100000 in
set_option maxHeartbeats 1000000 in
theorem got_any (F : Nat → Prop) (g m cnt : Nat) (own : Bool) (kv : List Value) (first got : Int) (ev : Int → Option Value) (w : World) (h : HE w F g m cnt own kv first got ev) :
    Calls Try.prog 13 #[.pointer (some ⟨g, 0, none⟩)] w fun e w' => e = .returned (.int .i64 got) ∧ w = w' := by
  obtain ⟨c0, c2, c3, c4⟩ := h.cell3
  go_enter Try.func13, Try.ntmps13
  go_wp2_with fail
  refine (pnone_no g w c0).mono ?_
  rintro _ _ ⟨rfl, rfl⟩
  go_wp2_with fail
  go_ret
  exact ⟨rfl, rfl⟩

/-- The frame of a number. -/
def FR (n got : Int) (xs : List Int) : List Int := frame (beN 4 n ++ beN 4 got ++ xs)
theorem FR_len (n got : Int) (xs : List Int) : (FR n got xs).length = xs.length + 16 := by
  unfold FR
  rw [frame_length, List.length_append, List.length_append, beN_length, beN_length]
  omega
theorem FR_bytes {n got : Int} {xs : List Int} (h : Bytes xs) : Bytes (FR n got xs) := frame_bytes (((beN_bytes 4 n).append (beN_bytes 4 got)).append h)
theorem fits4 {x : Int} (h0 : 0 ≤ x) (h1 : x < 4294967296) : fitsU 4 x = true := by
  have : x / 256 ^ (4 : Int).toNat = 0 := Int.ediv_eq_zero_of_lt h0 (by simpa using h1)
  unfold fitsU
  rw [this]
  rfl

set_option maxRecDepth 100000 in
set_option maxHeartbeats 2000000 in
theorem pwrap_any (g : Nat) (n got : Int) (A : Option Addr) (c : Nat) (xs : List Int) (w : World) (h : w.cell? ⟨g, 3, none⟩ = some (.int .i64 got)) (hn0 : 0 ≤ n) (hn1 : n < 4294967296) (hg0 : 0 ≤ got) (hg1 : got < 4294967296)
    (hl : xs.length ≤ 1048568) (hr : ReadsB w w.heap.size A xs) (hb : Bytes xs) :
    Calls Try.prog 25 #[.pointer (some ⟨g, 0, none⟩), .int .i64 n, .slice A xs.length c] w fun e w' => ∃ A' c', e = .returned (.slice A' (xs.length + 16) c') ∧ OwnB w' w.heap.size (.slice A' (xs.length + 16) c') (FR n got xs) ∧ Below w.heap.size w w' := by
  obtain ⟨ys, hys⟩ : ∃ ys, ys = beN 4 n ++ beN 4 got ++ xs := ⟨_, rfl⟩
  have hFR : FR n got xs = frame ys := by rw [hys]; rfl
  have hbY : Bytes ys := by rw [hys]; exact ((beN_bytes 4 n).append (beN_bytes 4 got)).append hb
  have hl5 : ys.length = xs.length + 8 := by rw [hys, List.length_append, List.length_append, beN_length, beN_length]; omega
  rw [hFR]
  replace hys := Lib.hid hys
  replace hl5 := Lib.hid hl5
  clear hFR
  have gN := Lib.hid (newW_ok 1048576 w (by omega) (by omega))
  have hwn : IntKind.u64.wrap n = n := by rw [IntKind.wrap_u64]; omega
  have hwg : IntKind.u64.wrap got = got := by rw [IntKind.wrap_u64]; omega
  have hgw := block_of_cell h
  dsimp only at hgw
  go_enter Try.func25, Try.ntmps25
  go_wp2_with fail
  refine gN.out.mono ?_
  rintro _ w1 ⟨rfl, hW1, hb1⟩
  have gU := wuint_any _ _ _ _ _ 4 n w1 hW1
  rw [fits4 hn0 hn1] at gU
  have e1 : putCode 4 true ([] : List Int).length 1048576 = 0 := by decide
  unfold putNew at gU
  rw [e1, if_pos rfl, List.nil_append] at gU
  replace gU := Lib.hid gU
  clear e1
  go_wp2_with fail
  refine gU.out.mono ?_
  rintro _ w2 ⟨rfl, hW2, hT2⟩
  have hb2 : Below w.heap.size w w2 := hb1.trans (hT2.below hb1.size (fun k hk => (hW1.lt k hk).1))
  have c3 : w2.cell? ⟨g, 3, none⟩ = some (.int .i64 got) := old2 h hb2
  have hl2 : ((beN 4 n).length : Int) = 4 := by rw [beN_length]; rfl
  have gV := wuint_any _ _ _ _ _ 4 got w2 hW2
  rw [fits4 hg0 hg1] at gV
  have e2 : putCode 4 true ((beN 4 n).length : Int) 1048576 = 0 := by rw [hl2]; decide
  unfold putNew at gV
  rw [show ((4 : Int).toNat) = 4 from rfl] at gV
  rw [e2, if_pos rfl] at gV
  replace gV := Lib.hid gV
  clear e2 hl2
  go_wp2_with fail
  refine gV.out.mono ?_
  rintro _ w3 ⟨rfl, hW3, hT3⟩
  have hb3 : Below w.heap.size w w3 := hb2.trans (hT3.below hb2.size (fun k hk => (hW2.lt k hk).1))
  have hl3 : (beN 4 n ++ beN 4 got).length = 8 := by rw [List.length_append, beN_length, beN_length]
  have gB := wbytes_any _ _ _ _ _ A xs.length c xs w3 w.heap.size hW3 (Reads.below hr hb3) rfl (by unfold maxLen; omega)
  have e3 : bytesNew xs 1048576 (beN 4 n ++ beN 4 got) = beN 4 n ++ beN 4 got ++ xs := by
    unfold bytesNew
    rw [hl3, if_neg (by omega)]
  have e4 : bytesCode (xs.length : Int) ((beN 4 n ++ beN 4 got).length : Int) 1048576 = 0 := by
    unfold bytesCode
    rw [hl3, if_neg (by omega)]
  rw [e3, e4] at gB
  rw [← hys.out] at gB
  clear hl3 e3 e4 gV gU
  replace gB := Lib.hid gB
  go_wp2_with fail
  refine gB.out.mono ?_
  rintro _ w4 ⟨rfl, hW4, hT4⟩
  have hb4 : Below w.heap.size w w4 := hb3.trans (hT4.below hb3.size (fun k hk => (hW3.lt k hk).1))
  have gO := Lib.hid (out_any _ _ _ _ _ w4 hW4)
  clear hW1 hW2 hW3 hT2 hT3 hT4 gB
  go_wp2_with fail
  refine gO.out.mono ?_
  rintro _ w5 ⟨A5, c5, rfl, hO5, hb5⟩
  have gW := wrap_any A5 c5 ys w5 hbY hO5.reads (by rw [hl5.out]; omega)
  unfold Framed at gW
  replace gW := Lib.hid gW
  have hbb5 : Below w.heap.size w w5 := hb4.trans (hb5.mono hb4.size)
  go_wp2_with fail
  refine gW.out.mono ?_
  rintro _ w6 ⟨A6, c6, rfl, hO6, hb6⟩
  have e16 : ys.length + 8 = xs.length + 16 := by rw [hl5.out]
  rw [e16] at hO6 ⊢
  have hbb6 : Below w.heap.size w w6 := hbb5.trans (hb6.mono hbb5.size)
  have hO7 := Lib.hid (hO6.base_ hbb5.size)
  clear e16 hl5 gW hO6 hO5 hb6 hb5 hW4 gO hwn hwg hn0 hn1 hg0 hg1 hl hbY
  go_wp2_with fail
  go_ret
  exact ⟨A6, c6, rfl, hO7.out, hbb6⟩
end Go.Proofs.Ytdilccihhelilaa
