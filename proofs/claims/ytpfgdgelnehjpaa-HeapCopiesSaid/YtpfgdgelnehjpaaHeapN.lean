/- A heap of objects with values: its state, and its plain methods. -/
import Derived.Test.YtpfgdgelnehjpaaFirst
import Derived.Deep.RegionLaw
import Derived.BigRegion
import Derived.Lib.Hide
namespace Go.Proofs.Ytpfgdgelnehjpaa
open Go.RowKit
set_option linter.unusedVariables false
set_option linter.unusedSimpArgs false

section
variable {α : Type} (f : α → List Value) {n : Nat}
theorem flat_len (hf : ∀ a, (f a).length = n) (l : List α) : (l.flatMap f).length = l.length * n := by
  induction l with
  | nil => simp
  | cons a l ih => rw [List.flatMap_cons, List.length_append, hf, ih, List.length_cons, Nat.add_mul]; omega
theorem flat_get (hf : ∀ a, (f a).length = n) : ∀ (l : List α) (k : Nat) (e : α) (j : Nat), l[k]? = some e → j < n → (l.flatMap f)[k * n + j]? = (f e)[j]?
  | [], k, e, j, h, _ => by simp at h
  | a :: l, 0, e, j, h, hj => by
    simp only [List.getElem?_cons_zero, Option.some.injEq] at h
    subst h
    rw [List.flatMap_cons, Nat.zero_mul, Nat.zero_add, List.getElem?_append_left (by rw [hf]; exact hj)]
  | a :: l, k + 1, e, j, h, hj => by
    rw [List.getElem?_cons_succ] at h
    have e1 : (k + 1) * n + j = n + (k * n + j) := by rw [Nat.add_mul]; omega
    rw [List.flatMap_cons, e1, List.getElem?_append_right (by rw [hf]; omega), hf, Nat.add_sub_cancel_left]
    exact flat_get hf l k e j h hj
theorem flat_drop (hf : ∀ a, (f a).length = n) : ∀ (k : Nat) (l : List α), (l.flatMap f).drop (k * n) = (l.drop k).flatMap f
  | 0, l => by simp
  | k + 1, [] => by simp
  | k + 1, a :: l => by
    have e1 : (k + 1) * n = n + k * n := by rw [Nat.add_mul]; omega
    rw [List.flatMap_cons, e1, List.drop_append, hf, List.drop_eq_nil_of_le (by rw [hf]; omega), List.nil_append, Nat.add_sub_cancel_left, List.drop_succ_cons]
    exact flat_drop hf k l
theorem flat_take (hf : ∀ a, (f a).length = n) : ∀ (k : Nat) (l : List α), (l.flatMap f).take (k * n) = (l.take k).flatMap f
  | 0, l => by simp
  | k + 1, [] => by simp
  | k + 1, a :: l => by
    have e1 : (k + 1) * n = n + k * n := by rw [Nat.add_mul]; omega
    rw [List.flatMap_cons, e1, List.take_append, hf, List.take_of_length_le (by rw [hf]; omega), Nat.add_sub_cancel_left, List.take_succ_cons, List.flatMap_cons]
    rw [flat_take hf k l]
end
def Ty.cells (t : Ty) : List Value := [.int .i64 t.k, .string t.name, .int .i64 t.dims, .int .i64 t.elem, .int .i64 t.pos]
def Vl.cells (v : Vl) : List Value := [.int .i64 v.k, .int .i64 v.n, .int .i64 v.r]
/-- A place: an object's type, and where its values stand. -/
structure Pc where
  t : Ty
  lo : Nat
  hi : Nat
def Pc.cells (p : Pc) : List Value := [.int .i64 p.t.k, .string p.t.name, .int .i64 p.t.dims, .int .i64 p.t.elem, .int .i64 p.t.pos, .int .i64 p.lo, .int .i64 p.hi]
def cellsP (l : List Pc) : List Value := l.flatMap Pc.cells
def cellsV (l : List Vl) : List Value := l.flatMap Vl.cells
theorem cellsP_length (l : List Pc) : (cellsP l).length = l.length * 7 := flat_len Pc.cells (fun _ => rfl) l
theorem cellsV_length (l : List Vl) : (cellsV l).length = l.length * 3 := flat_len Vl.cells (fun _ => rfl) l
theorem cellsP_append (l m : List Pc) : cellsP (l ++ m) = cellsP l ++ cellsP m := List.flatMap_append
theorem cellsV_append (l m : List Vl) : cellsV (l ++ m) = cellsV l ++ cellsV m := List.flatMap_append
theorem cellsP_one {l : List Pc} : ∀ u ∈ cellsP l, u.oneCell' = true := by
  intro u hu
  obtain ⟨p, _, hp⟩ := List.mem_flatMap.1 hu
  simp only [Pc.cells, List.mem_cons, List.not_mem_nil, or_false] at hp
  rcases hp with rfl | rfl | rfl | rfl | rfl | rfl | rfl <;> rfl
theorem cellsV_one {l : List Vl} : ∀ u ∈ cellsV l, u.oneCell' = true := by
  intro u hu
  obtain ⟨p, _, hp⟩ := List.mem_flatMap.1 hu
  simp only [Vl.cells, List.mem_cons, List.not_mem_nil, or_false] at hp
  rcases hp with rfl | rfl | rfl <;> rfl
theorem cellsV_set : ∀ (l : List Vl) (k : Nat) (v : Vl), k < l.length → (((cellsV l).set (k * 3) (.int .i64 v.k)).set (k * 3 + 1) (.int .i64 v.n)).set (k * 3 + 2) (.int .i64 v.r) = cellsV (l.set k v)
  | [], k, v, h => by simp at h
  | a :: l, 0, v, h => rfl
  | a :: l, k + 1, v, h => by
    have e : ∀ j, (k + 1) * 3 + j = (k * 3 + j) + 1 + 1 + 1 := fun j => by omega
    have e0 : (k + 1) * 3 = (k * 3) + 1 + 1 + 1 := by omega
    have ih := cellsV_set l k v (by simpa using h)
    show ((((Value.int .i64 a.k :: .int .i64 a.n :: .int .i64 a.r :: cellsV l).set ((k + 1) * 3) _).set _ _).set _ _) = Value.int .i64 a.k :: .int .i64 a.n :: .int .i64 a.r :: cellsV (l.set k v)
    rw [e 2, e 1, e0]
    simp only [List.set_cons_succ]
    rw [ih]
theorem infoP : (Try.prog.info? 106).map (fun i => (i.zero, i.size, i.bytes)) = some (some (.agg #[.int .i64 0, .string .empty, .int .i64 0, .int .i64 0, .int .i64 0, .int .i64 0, .int .i64 0]), 7, 64) := by kernel_rfl
theorem infoV : (Try.prog.info? 49).map (fun i => (i.zero, i.size, i.bytes)) = some (some (.agg #[.int .i64 0, .int .i64 0, .int .i64 0]), 3, 24) := by kernel_rfl

/-- A heap: its places, its values. Its blocks are F's, none below base. -/
def HS (w : World) (F : Nat → Prop) (base g : Nat) (ps : List Pc) (vs : List Vl) (most : Int) : Prop :=
  ∃ A c B d, Blk w g 80 #[.slice A ps.length c, .slice B vs.length d, .int .i64 most, .bool true] ∧ w.ownsRow base 106 7 (.slice A ps.length c) ps.length (cellsP ps) ∧ w.ownsRow base 49 3 (.slice B vs.length d) vs.length (cellsV vs) ∧ base ≤ g ∧ F g ∧
    (∀ k, (Value.slice A ps.length c).ownBlock = some k → F k) ∧ (∀ k, (Value.slice B vs.length d).ownBlock = some k → F k) ∧ (∀ k, F k → base ≤ k ∧ k < w.heap.size)
theorem own_other {w w' : World} {base base' : Nat} {e e' : TypeId} {size size' n n' : Nat} {v v' : Value} {xs xs' : List Value} (h : w.ownsRow base e size v n xs) (h' : w.ownsRow base' e' size' v' n' xs') (hne : e ≠ e') (hg : w.grownBy w' v'.ownBlock) : w'.ownsRow base e size v n xs := by
  refine World.ownsRow.kept h hg ?_
  rcases h.2 with ⟨rfl, _⟩ | ⟨g, cap, cur, rfl, _, hh, _⟩
  · exact .inl rfl
  · rcases h'.2 with ⟨rfl, _⟩ | ⟨g', cap', cur', rfl, _, hh', _⟩
    · exact .inr (by simp [Value.ownBlock])
    · refine .inr fun e => ?_
      have : g = g' := by simpa [Value.ownBlock] using e
      subst this
      rw [hh] at hh'
      injection hh' with hh'
      injection hh' with _ ht
      exact hne ht
theorem own_cell {w : World} {g i : Nat} {t e : TypeId} {size n : Nat} {cs : Array Value} {v : Value} {xs : List Value} {base : Nat} (h : w.ownsRow base e size v n xs) (hB : Blk w g t cs) (ht : e ≠ t) (u : Value) :
    (w.setCell ⟨g, i, none⟩ u).ownsRow base e size v n xs :=
  World.ownsRow.kept (row := some g) h ⟨rfl, rfl, rfl, by simp [World.setCell], fun k _ hne => Below.heap_setCell w _ u k (fun e => hne (by rw [e]))⟩ (.inr (own_blk_ne h hB ht))
section
variable {w w' : World} {F G : Nat → Prop} {base g : Nat} {ps ps' : List Pc} {vs vs' : List Vl} {most : Int}
theorem HS.turned (h : HS w F base g ps vs most) (k : Turned G w w') (hd : ∀ i, F i → ¬ G i) : HS w' F base g ps vs most := by
  obtain ⟨A, c, B, d, hB, hO, hV, hbg, hFg, hFv, hFu, hFw⟩ := h
  exact ⟨A, c, B, d, hB.turned k (hd g hFg), own_turned hO k (fun i hi => hd i (hFv i hi)), own_turned hV k (fun i hi => hd i (hFu i hi)), hbg, hFg, hFv, hFu, fun i hi => ⟨(hFw i hi).1, by have := (hFw i hi).2; have := k.size; omega⟩⟩
theorem HS.below (h : HS w F base g ps vs most) (k : Below w.heap.size w w') : HS w' F base g ps vs most :=
  h.turned (Turned.of_below (F := fun _ => False) k) fun _ _ h => h
theorem HS.lt (h : HS w F base g ps vs most) (k : Nat) (hk : F k) : base ≤ k ∧ k < w.heap.size := by
  obtain ⟨A, c, B, d, hB, hO, hV, hbg, hFg, hFv, hFu, hFw⟩ := h
  exact hFw k hk
theorem HS.own (h : HS w F base g ps vs most) : F g := by
  obtain ⟨A, c, B, d, hB, hO, hV, hbg, hFg, hFv, hFu, hFw⟩ := h
  exact hFg
theorem HS.mono (h : HS w F base g ps vs most) (hFG : ∀ k, F k → G k) (hG : ∀ k, G k → base ≤ k ∧ k < w.heap.size) : HS w G base g ps vs most := by
  obtain ⟨A, c, B, d, hB, hO, hV, hbg, hFg, hFv, hFu, hFw⟩ := h
  exact ⟨A, c, B, d, hB, hO, hV, hbg, hFG g hFg, fun k hk => hFG k (hFv k hk), fun k hk => hFG k (hFu k hk), hG⟩
theorem HS.grow (h : HS w F base g ps vs most) (k : Below w.heap.size w w') : HS w' (Grow F w w') base g ps vs most ∧ Turned F w w' := by
  refine ⟨(h.below k).mono (fun _ h => .inl h) fun i hi => ?_, Turned.of_below k⟩
  rcases hi with hi | hi
  · exact (h.below k).lt i hi
  · have := h.lt g h.own; omega
/-- Two steps. -/
theorem HS.next {w1 : World} (hT : Turned F w w1) (h : HS w' (Grow (Grow F w w1) w1 w') base g ps vs most) (k : Turned (Grow F w w1) w1 w') : HS w' (Grow F w w') base g ps vs most ∧ Turned F w w' := by
  have s0 := hT.size
  have s1 := k.size
  refine ⟨h.mono (fun i hi => ?_) fun i hi => ?_, hT.next k⟩
  · rcases hi with (hi | hi) | hi
    · exact .inl hi
    · exact .inr ⟨hi.1, by omega⟩
    · exact .inr ⟨by omega, hi.2⟩
  · rcases hi with hi | hi
    · exact h.lt i (.inl (.inl hi))
    · by_cases e : i < w1.heap.size
      · exact h.lt i (.inl (.inr ⟨hi.1, e⟩))
      · exact h.lt i (.inr ⟨by omega, hi.2⟩)
/-- Nothing of the heap's, then a step of its own. -/
theorem HS.after {w1 : World} (h0 : HS w F base g ps' vs' most) (hb : Below w.heap.size w w1) (h : HS w' (Grow F w1 w') base g ps vs most) (k : Turned F w1 w') : HS w' (Grow F w w') base g ps vs most ∧ Turned F w w' := by
  have s0 := hb.size
  have s1 := k.size
  have hg0 := h0.lt g h0.own
  refine ⟨h.mono (fun i hi => ?_) fun i hi => ?_, (Turned.of_below (F := F) hb).trans k (fun i hi h => h)⟩
  · rcases hi with hi | hi
    · exact .inl hi
    · exact .inr ⟨by omega, hi.2⟩
  · rcases hi with hi | hi
    · exact h.lt i (.inl hi)
    · exact ⟨by omega, hi.2⟩
theorem HS.made (h : HS w F base g ps vs most) : w.cell? ⟨g, 3, none⟩ = some (.bool true) := by
  obtain ⟨A, c, B, d, hB, _⟩ := h
  exact hB.cell 3
end
/-- What becomes of a heap when its row of places has grown and is stored. -/
theorem hs_place {F : Nat → Prop} {w wa w2 : World} {base g c c2 d : Nat} {most : Int} {A A2 B : Option Addr} {ps ps2 : List Pc} {vs : List Vl} {n2 : Nat} (hn2 : ps2.length = n2)
    (hB : Blk w g 80 #[.slice A ps.length c, .slice B vs.length d, .int .i64 most, .bool true]) (hO : w.ownsRow base 106 7 (.slice A ps.length c) ps.length (cellsP ps)) (hV : w.ownsRow base 49 3 (.slice B vs.length d) vs.length (cellsV vs))
    (hbg : base ≤ g) (hFg : F g) (hFv : ∀ k, (Value.slice A ps.length c).ownBlock = some k → F k) (hFu : ∀ k, (Value.slice B vs.length d).ownBlock = some k → F k) (hFw : ∀ k, F k → base ≤ k ∧ k < w.heap.size)
    (ha : Below w.heap.size w wa) (hown2 : w2.ownsRow base 106 7 (.slice A2 n2 c2) n2 (cellsP ps2)) (hg2 : wa.grownBy w2 (Value.slice A ps.length c).ownBlock)
    (hat : (Value.slice A2 n2 c2).ownBlock = (Value.slice A ps.length c).ownBlock ∨ (Value.slice A2 n2 c2).ownBlock = some wa.heap.size) :
    HS (w2.setCell ⟨g, 0, none⟩ (.slice A2 n2 c2)) (Grow F w (w2.setCell ⟨g, 0, none⟩ (.slice A2 n2 c2))) base g ps2 vs most ∧ Turned F w (w2.setCell ⟨g, 0, none⟩ (.slice A2 n2 c2)) := by
  subst hn2
  have hgv := own_blk_ne hO hB (by decide)
  have hB2 : Blk w2 g 80 #[.slice A ps.length c, .slice B vs.length d, .int .i64 most, .bool true] := Blk.grown (hB.below ha hB.lt) hg2 hgv.symm
  have hV2 := own_other (own_below hV ha) (own_below hO ha) (by decide) hg2
  have hra : w.heap.size ≤ wa.heap.size := ha.size
  have hT2 : Turned F w w2 := (Turned.of_below ha).trans (Turned.of_grown (F := fun k => (Value.slice A ps.length c).ownBlock = some k) hg2 (fun k h => h)) (fun i hi hv => hFv i hv)
  have hs2 := hT2.size
  have hsz : (w2.setCell ⟨g, 0, none⟩ (.slice A2 ps2.length c2)).heap.size = w2.heap.size := by simp [World.setCell]
  have hT3 : Turned F w (w2.setCell ⟨g, 0, none⟩ (.slice A2 ps2.length c2)) := hT2.setCell (.inl hFg) _
  have ha2 : wa.heap.size ≤ w2.heap.size := hg2.size
  refine ⟨⟨A2, c2, B, d, hB2.set_ 0 _, own_cell hown2 hB2 (by decide) _, own_cell hV2 hB2 (by decide) _, hbg, .inl hFg, fun k hk => ?_, fun k hk => .inl (hFu k hk), fun k hk => ?_⟩, hT3⟩
  · rcases hat with h | h
    · exact .inl (hFv k (h ▸ hk))
    · have hk' : k = wa.heap.size := by rw [h] at hk; injection hk with hk; exact hk.symm
      have := hown2.lt k hk
      exact .inr ⟨by omega, by omega⟩
  · rcases hk with h | h
    · have := hFw k h; omega
    · have := hFw g hFg
      exact ⟨by omega, by omega⟩
/-- The same for its row of values. -/
theorem hs_value {F : Nat → Prop} {w wa w2 : World} {base g c d d2 : Nat} {most : Int} {A B B2 : Option Addr} {ps : List Pc} {vs vs2 : List Vl} {n2 : Nat} (hn2 : vs2.length = n2)
    (hB : Blk w g 80 #[.slice A ps.length c, .slice B vs.length d, .int .i64 most, .bool true]) (hO : w.ownsRow base 106 7 (.slice A ps.length c) ps.length (cellsP ps)) (hV : w.ownsRow base 49 3 (.slice B vs.length d) vs.length (cellsV vs))
    (hbg : base ≤ g) (hFg : F g) (hFv : ∀ k, (Value.slice A ps.length c).ownBlock = some k → F k) (hFu : ∀ k, (Value.slice B vs.length d).ownBlock = some k → F k) (hFw : ∀ k, F k → base ≤ k ∧ k < w.heap.size)
    (ha : Below w.heap.size w wa) (hown2 : w2.ownsRow base 49 3 (.slice B2 n2 d2) n2 (cellsV vs2)) (hg2 : wa.grownBy w2 (Value.slice B vs.length d).ownBlock)
    (hat : (Value.slice B2 n2 d2).ownBlock = (Value.slice B vs.length d).ownBlock ∨ (Value.slice B2 n2 d2).ownBlock = some wa.heap.size) :
    HS (w2.setCell ⟨g, 1, none⟩ (.slice B2 n2 d2)) (Grow F w (w2.setCell ⟨g, 1, none⟩ (.slice B2 n2 d2))) base g ps vs2 most ∧ Turned F w (w2.setCell ⟨g, 1, none⟩ (.slice B2 n2 d2)) := by
  subst hn2
  have hgv := own_blk_ne hV hB (by decide)
  have hB2 : Blk w2 g 80 #[.slice A ps.length c, .slice B vs.length d, .int .i64 most, .bool true] := Blk.grown (hB.below ha hB.lt) hg2 hgv.symm
  have hO2 := own_other (own_below hO ha) (own_below hV ha) (by decide) hg2
  have hra : w.heap.size ≤ wa.heap.size := ha.size
  have hT2 : Turned F w w2 := (Turned.of_below ha).trans (Turned.of_grown (F := fun k => (Value.slice B vs.length d).ownBlock = some k) hg2 (fun k h => h)) (fun i hi hv => hFu i hv)
  have hs2 := hT2.size
  have hsz : (w2.setCell ⟨g, 1, none⟩ (.slice B2 vs2.length d2)).heap.size = w2.heap.size := by simp [World.setCell]
  have hT3 : Turned F w (w2.setCell ⟨g, 1, none⟩ (.slice B2 vs2.length d2)) := hT2.setCell (.inl hFg) _
  have ha2 : wa.heap.size ≤ w2.heap.size := hg2.size
  refine ⟨⟨A, c, B2, d2, hB2.set_ 1 _, own_cell hO2 hB2 (by decide) _, own_cell hown2 hB2 (by decide) _, hbg, .inl hFg, fun k hk => .inl (hFv k hk), fun k hk => ?_, fun k hk => ?_⟩, hT3⟩
  · rcases hat with h | h
    · exact .inl (hFu k (h ▸ hk))
    · have hk' : k = wa.heap.size := by rw [h] at hk; injection hk with hk; exact hk.symm
      have := hown2.lt k hk
      exact .inr ⟨by omega, by omega⟩
  · rcases hk with h | h
    · have := hFw k h; omega
    · have := hFw g hFg
      exact ⟨by omega, by omega⟩

set_option maxRecDepth 100000 in
set_option maxHeartbeats 4000000 in
theorem hnone_any (g : Nat) (w : World) (h : w.cell? ⟨g, 3, none⟩ = some (.bool true)) :
    Calls Try.prog 38 #[.pointer (some ⟨g, 0, none⟩)] w fun e w' => e = .returned (.bool false) ∧ w = w' := by
  go_enter Try.func38, Try.ntmps38
  go_wp2_with fail
  go_ret
  exact ⟨rfl, rfl⟩

set_option maxRecDepth 100000 in
set_option maxHeartbeats 4000000 in
theorem hnew_any (most : Int) (w : World) (h0 : 0 ≤ most) (h1 : most ≤ 1024) :
    Calls Try.prog 12 #[.int .i64 most] w fun e w' => e = .returned (.tuple #[.pointer (some ⟨w.heap.size, 0, none⟩), .int .i64 0]) ∧ HS w' (Grow (fun _ => False) w w') w.heap.size w.heap.size [] [] most ∧ Below w.heap.size w w' := by
  have b1 : decide (most < 0) = false := decide_eq_false (by omega)
  have b2 : decide (1024 < most) = false := decide_eq_false (by omega)
  go_enter Try.func12, Try.ntmps12
  go_wp2_with fail
  refine bodyPost_ret (v := .tuple #[.pointer (some ⟨w.heap.size, 0, none⟩), .int .i64 0]) (by simp [results, Try.results12, go_sem]) rfl ⟨rfl, ⟨none, 0, none, 0, Blk.new _ _ _, World.ownsRow_nil _ _ _ _, World.ownsRow_nil _ _ _ _, Nat.le_refl _, .inr ⟨Nat.le_refl _, by simp⟩, fun k hk => (by cases hk), fun k hk => (by cases hk), fun k hk => ?_⟩, (Below.refl _ _).alloc (Nat.le_refl _) _⟩
  rcases hk with h | h
  · exact h.elim
  · exact h

set_option maxRecDepth 100000 in
set_option maxHeartbeats 4000000 in
theorem hcount_any (g : Nat) (ps : List Pc) (vs : List Vl) (most : Int) (w : World) (F : Nat → Prop) (base : Nat) (h : HS w F base g ps vs most) :
    Calls Try.prog 15 #[.pointer (some ⟨g, 0, none⟩)] w fun e w' => e = .returned (.int .i64 ps.length) ∧ w = w' := by
  obtain ⟨A, c, B, d, hB, _⟩ := h
  have c0 : w.cell? ⟨g, 0, none⟩ = some (.slice A ps.length c) := hB.cell 0
  have c3 : w.cell? ⟨g, 3, none⟩ = some (.bool true) := hB.cell 3
  go_enter Try.func15, Try.ntmps15
  go_wp2_with fail
  refine (hnone_any g w c3).mono ?_
  rintro _ _ ⟨rfl, rfl⟩
  go_wp2_with fail
  go_ret
  exact ⟨rfl, rfl⟩
end Go.Proofs.Ytpfgdgelnehjpaa
