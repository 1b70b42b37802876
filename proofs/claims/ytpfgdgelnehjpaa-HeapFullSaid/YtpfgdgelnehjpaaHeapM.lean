/- A heap whose objects have no values: its methods. -/
import Derived.Test.YtpfgdgelnehjpaaFirst
import Derived.Deep.RegionLaw
import Derived.BigRegion
import Derived.Lib.Hide
namespace Go.Proofs.Ytpfgdgelnehjpaa
open Go.RowKit
set_option linter.unusedVariables false

theorem infoP : (Try.prog.info? 106).map (fun i => (i.zero, i.size, i.bytes)) = some (some (.agg #[.int .i64 0, .string .empty, .int .i64 0, .int .i64 0, .int .i64 0, .int .i64 0, .int .i64 0]), 7, 64) := by kernel_rfl

/-- A heap of n objects of no values. Its blocks are F's, none below base. -/
def Hp (w : World) (F : Nat → Prop) (base g n : Nat) (most : Int) : Prop :=
  ∃ A c xs, Blk w g 80 #[.slice A n c, .slice none 0 0, .int .i64 most, .bool true] ∧ w.ownsRow base 106 7 (.slice A n c) n xs ∧ base ≤ g ∧ F g ∧ (∀ k, (Value.slice A n c).ownBlock = some k → F k) ∧ (∀ k, F k → base ≤ k ∧ k < w.heap.size)
section
variable {w w' : World} {F G : Nat → Prop} {base g n : Nat} {most : Int}
theorem Hp.turned (h : Hp w F base g n most) (k : Turned G w w') (hd : ∀ i, F i → ¬ G i) : Hp w' F base g n most := by
  obtain ⟨A, c, xs, hB, hO, hbg, hFg, hFv, hFw⟩ := h
  exact ⟨A, c, xs, hB.turned k (hd g hFg), own_turned hO k (fun i hi => hd i (hFv i hi)), hbg, hFg, hFv, fun i hi => ⟨(hFw i hi).1, by have := (hFw i hi).2; have := k.size; omega⟩⟩
theorem Hp.below (h : Hp w F base g n most) (k : Below w.heap.size w w') : Hp w' F base g n most :=
  h.turned (Turned.of_below (F := fun _ => False) k) fun _ _ h => h
theorem Hp.lt (h : Hp w F base g n most) (k : Nat) (hk : F k) : base ≤ k ∧ k < w.heap.size := by
  obtain ⟨A, c, xs, hB, hO, hbg, hFg, hFv, hFw⟩ := h
  exact hFw k hk
theorem Hp.grow (h : Hp w F base g n most) (k : Below w.heap.size w w') : Hp w' (Grow F w w') base g n most ∧ Turned F w w' := by
  refine ⟨?_, Turned.of_below k⟩
  obtain ⟨A, c, xs, hB, hO, hbg, hFg, hFv, hFw⟩ := h.below k
  refine ⟨A, c, xs, hB, hO, hbg, .inl hFg, fun i hi => .inl (hFv i hi), fun i hi => ?_⟩
  rcases hi with hi | hi
  · exact hFw i hi
  · have := (h.lt g (by obtain ⟨_, _, _, _, _, _, hFg, _⟩ := h; exact hFg)).1; have := (h.lt g (by obtain ⟨_, _, _, _, _, _, hFg, _⟩ := h; exact hFg)).2; omega
theorem Hp.made (h : Hp w F base g n most) : w.cell? ⟨g, 3, none⟩ = some (.bool true) := by
  obtain ⟨A, c, xs, hB, _⟩ := h
  exact hB.cell 3
theorem Hp.from_ {w1 : World} {n' : Nat} (h : Hp w F base g n most) (hb : Below w.heap.size w w1) (k : Hp w' (Grow F w1 w') base g n' most ∧ Turned F w1 w') : Hp w' (Grow F w w') base g n' most ∧ Turned F w w' := by
  obtain ⟨⟨A, c, xs, hB, hO, hbg, hFg, hFv, hFw⟩, hT⟩ := k
  have hT0 := (Turned.of_below (F := F) hb).trans hT (fun i hi h => h)
  have s1 := hb.size
  have hg0 := h.lt g (by obtain ⟨_, _, _, _, _, _, hFg, _⟩ := h; exact hFg)
  have up : ∀ i, Grow F w1 w' i → Grow F w w' i := fun i hi => by
    rcases hi with hi | hi
    · exact .inl hi
    · exact .inr ⟨by omega, hi.2⟩
  refine ⟨⟨A, c, xs, hB, hO, hbg, up _ hFg, fun i hi => up _ (hFv i hi), fun i hi => ?_⟩, hT0⟩
  rcases hi with hi | hi
  · exact hFw i (.inl hi)
  · exact ⟨by omega, hi.2⟩
end
/-- What becomes of a heap when its row of places has grown and is stored. -/
theorem hp_push {F : Nat → Prop} {w wa w2 : World} {base g n n' c c2 : Nat} {most : Int} {A A2 : Option Addr} {xs ys : List Value}
    (hB : Blk w g 80 #[.slice A n c, .slice none 0 0, .int .i64 most, .bool true]) (hO : w.ownsRow base 106 7 (.slice A n c) n xs)
    (hbg : base ≤ g) (hFg : F g) (hFv : ∀ k, (Value.slice A n c).ownBlock = some k → F k) (hFw : ∀ k, F k → base ≤ k ∧ k < w.heap.size)
    (ha : Below w.heap.size w wa) (hown2 : w2.ownsRow base 106 7 (.slice A2 n' c2) n' ys) (hg2 : wa.grownBy w2 (Value.slice A n c).ownBlock)
    (hat : (Value.slice A2 n' c2).ownBlock = (Value.slice A n c).ownBlock ∨ (Value.slice A2 n' c2).ownBlock = some wa.heap.size) :
    Hp (w2.setCell ⟨g, 0, none⟩ (.slice A2 n' c2)) (Grow F w (w2.setCell ⟨g, 0, none⟩ (.slice A2 n' c2))) base g n' most ∧ Turned F w (w2.setCell ⟨g, 0, none⟩ (.slice A2 n' c2)) := by
  have hgv := own_blk_ne hO hB (by decide)
  have hB2 : Blk w2 g 80 #[.slice A n c, .slice none 0 0, .int .i64 most, .bool true] := Blk.grown (hB.below ha hB.lt) hg2 hgv.symm
  have hra : w.heap.size ≤ wa.heap.size := ha.size
  have hT2 : Turned F w w2 := (Turned.of_below ha).trans (Turned.of_grown (F := fun k => (Value.slice A n c).ownBlock = some k) hg2 (fun k h => h)) (fun i hi hv => hFv i hv)
  have hs2 := hT2.size
  have hsz : (w2.setCell ⟨g, 0, none⟩ (.slice A2 n' c2)).heap.size = w2.heap.size := by simp [World.setCell]
  have hT3 : Turned F w (w2.setCell ⟨g, 0, none⟩ (.slice A2 n' c2)) := hT2.setCell (.inl hFg) _
  have ha2 : wa.heap.size ≤ w2.heap.size := hg2.size
  have hO3 : (w2.setCell ⟨g, 0, none⟩ (.slice A2 n' c2)).ownsRow base 106 7 (.slice A2 n' c2) n' ys :=
    World.ownsRow.kept (row := some g) hown2 ⟨rfl, rfl, rfl, by simp [World.setCell], fun k _ hne => Below.heap_setCell w2 _ _ k (fun e => hne (by rw [e]))⟩ (.inr (own_blk_ne hown2 hB2 (by decide)))
  refine ⟨⟨A2, c2, ys, hB2.set_ 0 _, hO3, hbg, .inl hFg, fun k hk => ?_, fun k hk => ?_⟩, hT3⟩
  · rcases hat with h | h
    · exact .inl (hFv k (h ▸ hk))
    · have hk' : k = wa.heap.size := by rw [h] at hk; injection hk with hk; exact hk.symm
      have := hown2.lt k hk
      exact .inr ⟨by omega, by omega⟩
  · rcases hk with h | h
    · have := hFw k h; omega
    · have := hFw g hFg
      exact ⟨by omega, by omega⟩

set_option maxRecDepth 100000 in
set_option maxHeartbeats 2000000 in
theorem hnone_any (g : Nat) (w : World) (h : w.cell? ⟨g, 3, none⟩ = some (.bool true)) :
    Calls Try.prog 38 #[.pointer (some ⟨g, 0, none⟩)] w fun e w' => e = .returned (.bool false) ∧ w = w' := by
  go_enter Try.func38, Try.ntmps38
  go_wp2_with fail
  go_ret
  exact ⟨rfl, rfl⟩

set_option maxRecDepth 100000 in
set_option maxHeartbeats 2000000 in
theorem hnew_any (most : Int) (w : World) (h0 : 0 ≤ most) (h1 : most ≤ 1024) :
    Calls Try.prog 12 #[.int .i64 most] w fun e w' => e = .returned (.tuple #[.pointer (some ⟨w.heap.size, 0, none⟩), .int .i64 0]) ∧ Hp w' (Grow (fun _ => False) w w') w.heap.size w.heap.size 0 most ∧ Below w.heap.size w w' := by
  have b1 : decide (most < 0) = false := decide_eq_false (by omega)
  have b2 : decide (1024 < most) = false := decide_eq_false (by omega)
  go_enter Try.func12, Try.ntmps12
  go_wp2_with fail
  refine bodyPost_ret (v := .tuple #[.pointer (some ⟨w.heap.size, 0, none⟩), .int .i64 0]) (by simp [results, Try.results12, go_sem]) rfl ⟨rfl, ⟨none, 0, [], Blk.new _ _ _, World.ownsRow_nil _ _ _ _, Nat.le_refl _, .inr ⟨Nat.le_refl _, by simp⟩, fun k hk => (by cases hk), fun k hk => ?_⟩, (Below.refl _ _).alloc (Nat.le_refl _) _⟩
  rcases hk with h | h
  · exact h.elim
  · exact h

set_option maxRecDepth 100000 in
set_option maxHeartbeats 2000000 in
theorem hcount_any (g n : Nat) (most : Int) (w : World) (F : Nat → Prop) (base : Nat) (h : Hp w F base g n most) :
    Calls Try.prog 15 #[.pointer (some ⟨g, 0, none⟩)] w fun e w' => e = .returned (.int .i64 n) ∧ w = w' := by
  obtain ⟨A, c, xs, hB, _⟩ := h
  have c0 : w.cell? ⟨g, 0, none⟩ = some (.slice A n c) := hB.cell 0
  have c3 : w.cell? ⟨g, 3, none⟩ = some (.bool true) := hB.cell 3
  go_enter Try.func15, Try.ntmps15
  go_wp2_with fail
  refine (hnone_any g w c3).mono ?_
  rintro _ _ ⟨rfl, rfl⟩
  go_wp2_with fail
  go_ret
  exact ⟨rfl, rfl⟩

/-- What comes of one object more. -/
def HPost (w : World) (F : Nat → Prop) (base g n : Nat) (most : Int) (e : Ending) (w' : World) : Prop :=
  e = .returned (.tuple #[.int .i64 (if (n : Int) < most then (n : Int) + 1 else 0), .int .i64 (if (n : Int) < most then 0 else 140)]) ∧ Hp w' (Grow F w w') base g (if (n : Int) < most then n + 1 else n) most ∧ Turned F w w'

set_option maxRecDepth 100000 in
set_option maxHeartbeats 2000000 in
theorem hadd_any (g n : Nat) (most : Int) (t : Ty) (fn : Value) (w : World) (F : Nat → Prop) (base : Nat) (h : Hp w F base g n most) (h1 : most ≤ 1024) :
    Calls Try.prog 39 #[.pointer (some ⟨g, 0, none⟩), t.val, .int .i64 0, fn] w (HPost w F base g n most) := by
  have hba : Below w.heap.size w (w.alloc (.cells #[.int .i64 t.k, .string t.name, .int .i64 t.dims, .int .i64 t.elem, .int .i64 t.pos] 30)) := (Below.refl _ _).alloc (Nat.le_refl _) _
  have hS := h.below hba
  have hx := Blk.new w 30 #[.int .i64 t.k, .string t.name, .int .i64 t.dims, .int .i64 t.elem, .int .i64 t.pos]
  have hgw := h.lt g (by obtain ⟨_, _, _, _, _, _, hFg, _⟩ := h; exact hFg)
  unfold Ty.val
  by_cases hfull : (n : Int) < most
  · have b1 : decide (most ≤ (n : Int)) = false := decide_eq_false (by omega)
    unfold HPost
    rw [if_pos hfull, if_pos hfull, if_pos hfull]
    go_enter Try.func39, Try.ntmps39
    go_wp2_with fail
    generalize hW : w.alloc (.cells #[.int .i64 t.k, .string t.name, .int .i64 t.dims, .int .i64 t.elem, .int .i64 t.pos] 30) = W at *
    have hlw : w.heap.size < W.heap.size := by rw [← hW]; simp
    have hlw' : w.heap.size ≠ g := by omega
    have hS' := hS
    obtain ⟨A, c, xs, hB0, _⟩ := hS'
    have c0 : W.cell? ⟨g, 0, none⟩ = some (.slice A n c) := hB0.cell 0
    have c1 : W.cell? ⟨g, 1, none⟩ = some (.slice none 0 0) := hB0.cell 1
    have c2 : W.cell? ⟨g, 2, none⟩ = some (.int .i64 most) := hB0.cell 2
    go_quiet (fail)
    obtain ⟨m1, rfl⟩ : ∃ m, m = nq := ⟨_, rfl⟩
    have hS3 := hS.below (below_drewN (Below.refl _ _) m1)
    have hba3 := below_drewN hba m1
    have hx3 : Blk (W.drewN m1) w.heap.size 30 #[.int .i64 t.k, .string t.name, .int .i64 t.dims, .int .i64 t.elem, .int .i64 t.pos] := hx
    have hlw3 : w.heap.size < (W.drewN m1).heap.size := by simpa using hlw
    clear c0 c1 c2 hB0 hx hS
    generalize W.drewN m1 = W3 at *
    have a0 : W3.cell? ⟨w.heap.size, 0, none⟩ = some (.int .i64 t.k) := hx3.cell 0
    have a1 : W3.cell? ⟨w.heap.size, 1, none⟩ = some (.string t.name) := hx3.cell 1
    have a2 : W3.cell? ⟨w.heap.size, 2, none⟩ = some (.int .i64 t.dims) := hx3.cell 2
    have a3 : W3.cell? ⟨w.heap.size, 3, none⟩ = some (.int .i64 t.elem) := hx3.cell 3
    have a4 : W3.cell? ⟨w.heap.size, 4, none⟩ = some (.int .i64 t.pos) := hx3.cell 4
    obtain ⟨A', c', xs', hB, hO, hbg, hFg, hFv, hFw⟩ := hS3
    have c0 : W3.cell? ⟨g, 0, none⟩ = some (.slice A' n c') := hB.cell 0
    have c1 : W3.cell? ⟨g, 1, none⟩ = some (.slice none 0 0) := hB.cell 1
    have f0 : W3.frozen? ⟨g, 0, none⟩ = false := hB.frozen 0
    go_wp2_with fail
    refine wp_loop_once ?_
    go_wp2_with fail
    have hR1 : Reads (W3.alloc (.cells #[.int .i64 t.k, .string t.name, .int .i64 t.dims, .int .i64 t.elem, .int .i64 t.pos, .int .i64 0, .int .i64 0] 106)) (W3.heap.size + 1) 7 (some ⟨W3.heap.size, 0, none⟩) 1 [.int .i64 t.k, .string t.name, .int .i64 t.dims, .int .i64 t.elem, .int .i64 t.pos, .int .i64 0, .int .i64 0] := by
      have := Reads.new W3 #[.int .i64 t.k, .string t.name, .int .i64 t.dims, .int .i64 t.elem, .int .i64 t.pos, .int .i64 0, .int .i64 0] 106 (0, 0) 1 7 rfl
      simpa using this
    replace hR1 := Lib.hid hR1
    have hBa := Lib.hid (Blk.alloc hB (.cells #[.int .i64 t.k, .string t.name, .int .i64 t.dims, .int .i64 t.elem, .int .i64 t.pos, .int .i64 0, .int .i64 0] 106))
    have hOa := Lib.hid (World.ownsRow.alloc hO (.cells #[.int .i64 t.k, .string t.name, .int .i64 t.dims, .int .i64 t.elem, .int .i64 t.pos, .int .i64 0, .int .i64 0] 106))
    have hgv := own_blk_ne hO hB (by decide)
    have hbs : base ≤ W3.heap.size + 1 := by have := (hFw g hFg); omega
    obtain ⟨i0, hi0, hz0, hz1, hz2⟩ := info_parts infoP
    have hone : ∀ u ∈ [Value.int .i64 t.k, .string t.name, .int .i64 t.dims, .int .i64 t.elem, .int .i64 t.pos, .int .i64 0, .int .i64 0], u.oneCell' = true := by
      intro u hu
      simp only [List.mem_cons, List.not_mem_nil, or_false] at hu
      rcases hu with rfl | rfl | rfl | rfl | rfl | rfl | rfl <;> rfl
    have hn1 : n + 1 ≤ 1025 := by omega
    replace hone := Lib.hid hone
    replace hi0 := Lib.hid hi0
    replace hz0 := Lib.hid hz0
    replace hz1 := Lib.hid hz1
    replace hz2 := Lib.hid hz2
    go_region_law (first
      | (refine step_app (P := Try.prog) (W3.alloc (.cells #[.int .i64 t.k, .string t.name, .int .i64 t.dims, .int .i64 t.elem, .int .i64 t.pos, .int .i64 0, .int .i64 0] 106)).drew (by rfl) (.tmp 49) (.tmp 56) 78 (by rfl) base 106 i0 _ 7 64 Try.underlying78 hi0.out hz0.out hz1.out hz2.out rfl (by omega) (.slice A' n c') n xs' (by simp [Act.eval]) hOa.out
            (W3.heap.size + 1) (some ⟨W3.heap.size, 0, none⟩) 1 1 _ (by simp [Act.eval]) hR1.out hone.out (by unfold maxLen; omega) (by omega) (by simp; omega) ?_
         intro A2 c2 w3 hown2 hg2 hat2
         have hB2 : Blk w3 g 80 #[.slice A' n c', .slice none 0 0, .int .i64 most, .bool true] := Blk.grown (w := (W3.alloc (.cells #[.int .i64 t.k, .string t.name, .int .i64 t.dims, .int .i64 t.elem, .int .i64 t.pos, .int .i64 0, .int .i64 0] 106)).drew) hBa.out hg2 hgv.symm
         have c02 : w3.cell? ⟨g, 0, none⟩ = some (.slice A' n c') := hB2.cell 0
         have f02 := hB2.frozen 0))
    all_goals
      have h02 : (w3.setCell ⟨g, 0, none⟩ (.slice A2 (n + 1) c2)).cell? ⟨g, 0, none⟩ = some (.slice A2 (n + 1) c2) := (hB2.set_ 0 _).cell 0
      have hP := hp_push hB hO hbg hFg hFv hFw ((Below.refl _ _).alloc (Nat.le_refl _) (.cells #[.int .i64 t.k, .string t.name, .int .i64 t.dims, .int .i64 t.elem, .int .i64 t.pos, .int .i64 0, .int .i64 0] 106)).drew hown2 hg2 hat2
      go_wp2_with fail
      refine bodyPost_ret (v := .tuple #[.int .i64 ((n : Int) + 1), .int .i64 0]) (by simp [results, Try.results39, go_sem]) rfl ⟨rfl, h.from_ hba3 hP⟩
  · have b1 : decide (most ≤ (n : Int)) = true := decide_eq_true (by omega)
    unfold HPost
    rw [if_neg hfull, if_neg hfull, if_neg hfull]
    go_enter Try.func39, Try.ntmps39
    go_wp2_with fail
    generalize hW : w.alloc (.cells #[.int .i64 t.k, .string t.name, .int .i64 t.dims, .int .i64 t.elem, .int .i64 t.pos] 30) = W at *
    obtain ⟨A, c, xs, hB, hO, hbg, hFg, hFv, hFw⟩ := hS
    have c0 : W.cell? ⟨g, 0, none⟩ = some (.slice A n c) := hB.cell 0
    have c2 : W.cell? ⟨g, 2, none⟩ = some (.int .i64 most) := hB.cell 2
    go_quiet (fail)
    go_wp2_with fail
    refine bodyPost_ret (v := .tuple #[.int .i64 0, .int .i64 140]) (by simp [results, Try.results39, go_sem]) rfl ⟨rfl, h.grow (below_drewN hba _)⟩

set_option maxRecDepth 100000 in
set_option maxHeartbeats 2000000 in
theorem hmake_any (g n : Nat) (most : Int) (t : Ty) (w : World) (F : Nat → Prop) (base : Nat) (h : Hp w F base g n most) (h1 : most ≤ 1024) :
    Calls Try.prog 13 #[.pointer (some ⟨g, 0, none⟩), t.val, .slice none 0 0] w (HPost w F base g n most) := by
  have hba : Below w.heap.size w ((w.alloc (.cells #[.int .i64 t.k, .string t.name, .int .i64 t.dims, .int .i64 t.elem, .int .i64 t.pos] 30)).alloc (.cells #[.slice none 0 0] 50)) := ((Below.refl _ _).alloc (Nat.le_refl _) _).alloc (by simp) _
  have hS := h.below hba
  have hm := hS.made
  have hb := fun fn => Lib.hid (hadd_any g n most t fn _ F base hS h1)
  unfold Ty.val at *
  unfold HPost at hb ⊢
  generalize (if (n : Int) < most then (n : Int) + 1 else 0) = v1 at hb ⊢
  generalize (if (n : Int) < most then (0 : Int) else 140) = v2 at hb ⊢
  generalize (if (n : Int) < most then n + 1 else n) = n2 at hb ⊢
  go_enter Try.func13, Try.ntmps13
  go_wp2_with fail
  refine (hnone_any g _ hm).mono ?_
  rintro _ _ ⟨rfl, rfl⟩
  go_wp2_with fail
  refine (hb _).out.mono ?_
  rintro _ w1 ⟨rfl, hP⟩
  have hQ := h.from_ hba hP
  go_wp2_with fail
  refine bodyPost_ret (v := .tuple #[.int .i64 v1, .int .i64 v2]) (by simp [results, Try.results13, go_sem]) rfl ⟨rfl, hQ⟩

set_option maxRecDepth 100000 in
set_option maxHeartbeats 2000000 in
theorem harray_long (g n : Nat) (most : Int) (w : World) (F : Nat → Prop) (base : Nat) (h : Hp w F base g n most) (t u : Ty) :
    Calls Try.prog 14 #[.pointer (some ⟨g, 0, none⟩), t.val, u.val, .int .i64 1025] w fun e w' => e = .returned (.tuple #[.int .i64 0, .int .i64 140]) ∧ Below w.heap.size w w' := by
  have hba : Below w.heap.size w ((w.alloc (.cells #[.int .i64 t.k, .string t.name, .int .i64 t.dims, .int .i64 t.elem, .int .i64 t.pos] 30)).alloc (.cells #[.int .i64 u.k, .string u.name, .int .i64 u.dims, .int .i64 u.elem, .int .i64 u.pos] 30)) := ((Below.refl _ _).alloc (Nat.le_refl _) _).alloc (by simp) _
  have hm := (h.below hba).made
  unfold Ty.val
  go_enter Try.func14, Try.ntmps14
  go_wp2_with fail
  refine (hnone_any g _ hm).mono ?_
  rintro _ _ ⟨rfl, rfl⟩
  go_wp2_with fail
  refine bodyPost_ret (v := .tuple #[.int .i64 0, .int .i64 140]) (by simp [results, Try.results14, go_sem]) rfl ⟨rfl, hba⟩
end Go.Proofs.Ytpfgdgelnehjpaa
