/- Monitors: the iterator, own rows. -/
import Derived.Test.YtpfgdgelnehjpaaLockV
namespace Go.Proofs.Ytpfgdgelnehjpaa
open Go.RowKit Go.Shelf
set_option linter.unusedVariables false
set_option linter.unusedSimpArgs false
attribute [local go_sem] Oper.semAt_some

/-- A place of a row, and who stands there. -/
abbrev Pl (row : List Kp) : Type := {x : Nat × Int // x.1 < row.length}
set_option maxRecDepth 100000 in
set_option maxHeartbeats 4000000 in
theorem waiting1s_in (n : Nat) (hn : 1 ≤ n) (G : World → Nat → Prop) (hG : Told G) (l Bx n₀ : Nat) (own cnt : Int) (A : Option Addr) (c : Nat) (row : List Kp) (hm : row.length ≤ 4398046511104) (J Jx : List (Pl row) → World → Prop)
    (hY : ∀ pre x W1, J pre W1 → pre.length < row.length → YieldAt Fence.wide (n - 1) Try.prog l #[.int .i64 x.1.1, .int .i64 x.1.2] W1 fun e W' =>
      (e = .returned (.bool true) ∧ J (pre ++ [x]) W' ∧ Kept G W1 W') ∨ (e = .returned (.bool false) ∧ Jx (pre ++ [x]) W'))
    (W : World) (hJ : AbidesFrom W.heap.size J) (hBx : Blk W Bx 95 #[.int .i64 own, .int .i64 cnt, .slice A row.length c]) (hGx : ¬ G W Bx) (hr : ReadsK W n₀ A row) (hn0 : n₀ ≤ W.heap.size) (hG0 : ∀ j, j < n₀ → ¬ G W j) (hGr : ∀ k, G W k → k < W.heap.size) (h0 : J [] W) :
    CallsIn Fence.wide n Try.prog 54 #[.func (.yield l) #[] #[], .pointer (some ⟨Bx, 0, none⟩)] W fun e W' => (∃ v, e = .returned v) ∧
      ((∃ ys, ys.map (·.1) = wsF 0 row ∧ J ys W') ∨ (∃ pre, pre.map (·.1) <+: wsF 0 row ∧ Jx pre W')) := by
  refine callsIn_of_wp Try.func54 rfl trivial ?_ rfl
  simp only [Try.ntmps54, List.size_toArray, List.length_cons, List.length_nil, Nat.reduceAdd, Nat.reduceSub, Array.replicate_succ, Array.replicate_zero, List.push_toArray, List.append_toArray, List.nil_append, List.cons_append]
  have hc2 : W.cell? ⟨Bx, 2, none⟩ = some (.slice A row.length c) := hBx.cell 2
  gi_wp2
  gi_loopw [8] (fun i wr => ∃ (k : Nat) (pre : List (Pl row)), k ≤ row.length ∧ i = .int .i64 k ∧ pre.length ≤ k ∧ pre.map (·.1) ++ wsF k (row.drop k) = wsF 0 row ∧ J pre wr ∧ ReadsK wr n₀ A row ∧ n₀ ≤ wr.heap.size ∧ (∀ j, j < n₀ → ¬ G wr j) ∧ (∀ k, G wr k → k < wr.heap.size) ∧ W.heap.size ≤ wr.heap.size) (fun i _ => row.length - (intOf i).toNat)
  case atStart => exact ⟨0, [], by omega, rfl, by simp, rfl, h0, hr, hn0, hG0, hGr, Nat.le_refl _⟩
  case round =>
    obtain ⟨k, pre, hk, rfl, hpl, hall, hJs, hR, hn0r, hG0r, hGrr, hWs⟩ := hrel
    by_cases hlt : k < row.length
    · obtain ⟨x, hx⟩ := kp_at hlt
      have hgo := wsF_go hx
      obtain ⟨ad, q, hadb, e1⟩ := hR.at_ hx
      subst q
      obtain ⟨a0, a1, a2⟩ := e1
      have hb3 : Below wr.heap.size wr (wr.alloc (.cells #[.int .i64 x.t, .int .i64 x.n, .bool x.told] 99)) := b0 _ _
      have hJ3 : J pre (wr.alloc (.cells #[.int .i64 x.t, .int .i64 x.n, .bool x.told] 99)) := hJ pre wr _ none hJs (only_of_below hb3 none) (fun r h => by cases h)
      have hback := hG.below hGrr hb3
      have hs3 : (wr.alloc (.cells #[.int .i64 x.t, .int .i64 x.n, .bool x.told] 99)).heap.size = wr.heap.size + 1 := by simp
      have hR3 : ReadsK (wr.alloc (.cells #[.int .i64 x.t, .int .i64 x.n, .bool x.told] 99)) n₀ _ row := Reads.below hR (hb3.mono hn0r)
      have hG03 := fun j hj h => hG0r j hj (hback j h)
      have hGr3 : ∀ k, G (wr.alloc (.cells #[.int .i64 x.t, .int .i64 x.n, .bool x.told] 99)) k → k < (wr.alloc (.cells #[.int .i64 x.t, .int .i64 x.n, .bool x.told] 99)).heap.size := fun k h => by have := hGrr k (hback k h); omega
      replace hx := Lib.hid hx
      cases htd : x.told with
      | true =>
        rw [htd] at a2 hgo hJ3 hR3 hG03 hGr3 hs3
        rw [if_pos rfl] at hgo
        have hnext : pre.map (·.1) ++ wsF (k + 1) (row.drop (k + 1)) = wsF 0 row := by rw [← hgo]; exact hall
        replace hnext := Lib.hid hnext
        replace hs3 := Lib.hid hs3
        replace htd := Lib.hid htd
        clear hall hgo hb3 hback
        gi_wp2_with fail
        all_goals refine ⟨fun f h => (by cases h), ?_⟩
        all_goals gi_wp2_with fail
        all_goals exact ⟨⟨k + 1, pre, by omega, by go_num, by omega, hnext.out, hJ3, hR3, by have := hs3.out; omega, hG03, hGr3, by have := hs3.out; omega⟩, by simp [intOf]; omega⟩
      | false =>
        rw [htd] at a2 hgo hJ3 hR3 hG03 hGr3 hs3
        rw [if_neg (by decide)] at hgo
        have hnext : (pre ++ [(⟨(k, x.t), hlt⟩ : Pl row)]).map (·.1) ++ wsF (k + 1) (row.drop (k + 1)) = wsF 0 row := by rw [← hall, hgo]; simp
        have hpre : (pre ++ [(⟨(k, x.t), hlt⟩ : Pl row)]).map (·.1) <+: wsF 0 row := ⟨_, hnext⟩
        replace hnext := Lib.hid hnext
        replace hpre := Lib.hid hpre
        replace htd := Lib.hid htd
        obtain ⟨fn, tmps, assign, body, hy, hRd⟩ := hY pre ⟨(k, x.t), hlt⟩ _ hJ3 (by omega)
        dsimp only at hy
        replace hs3 := Lib.hid hs3
        clear hall hgo hb3 hback
        gi_wp2_with fail
        refine hRd.mono ?_
        rintro _ W3 (⟨rfl, hJ4, hk4⟩ | ⟨rfl, hJx4⟩)
        · have hR4 := Reads.kept hR3 hk4 hG03
          have hs4 := hk4.size
          have hG04 : ∀ j, j < n₀ → ¬ G W3 j := fun j hj h => hG03 j hj (hk4.back _ (by have := hs3.out; omega) h)
          have hGr4 := hk4.inr hGr3
          gi_wp2_with fail
          exact ⟨⟨k + 1, pre ++ [⟨(k, x.t), hlt⟩], by omega, by go_num, by simp; omega, hnext.out, hJ4, hR4, by have := hs3.out; omega, hG04, hGr4, by have := hs3.out; omega⟩, by simp [intOf]; omega⟩
        · gi_wp2_with fail
          refine bodyPost_ret (results_none rfl _ _ _) rfl ?_
          exact ⟨⟨_, rfl⟩, .inr ⟨_, hpre.out, hJx4⟩⟩
    · rw [wsF_end hlt, List.append_nil] at hall
      gi_wp2_with fail
      go_end0
      exact ⟨⟨_, rfl⟩, .inl ⟨_, hall, hJs⟩⟩

theorem cellsK_set : ∀ (l : List Kp) (i : Nat) (k : Kp), l[i]? = some k → (cellsK l).set (i * 3 + 2) (.bool true) = cellsK (l.set i ⟨k.t, k.n, true⟩)
  | [], _, _, h => by simp at h
  | x :: l, 0, k, h => by
    simp at h
    subst h
    rfl
  | x :: l, i + 1, k, h => by
    have ih := cellsK_set l i k (by simpa using h)
    rw [List.set_cons_succ, cellsK_cons, cellsK_cons, ← ih, List.set_append_right _ _ (by simp [Kp.cells]; omega)]
    congr 2
    simp [Kp.cells]
    omega
theorem OwnK.blk {W : World} {base n c : Nat} {A : Option Addr} {l : List Kp} {i : Nat} {k : Kp} (h : OwnK W base (.slice A n c) l) (hk : l[i]? = some k) :
    ∃ g, A = some ⟨g, 0, none⟩ ∧ g < W.heap.size ∧ W.frozen? ⟨g, i * 3 + 2, none⟩ = false ∧ (W.cell? ⟨g, i * 3 + 2, none⟩).isSome = true ∧ OwnK (W.setCell ⟨g, i * 3 + 2, none⟩ (.bool true)) base (.slice A n c) (l.set i ⟨k.t, k.n, true⟩) := by
  have hi : i < l.length := (List.getElem?_eq_some_iff.1 hk).1
  obtain ⟨h1, h2⟩ := h
  rcases h2 with ⟨_, h0⟩ | ⟨g, cap, cur, hv, hb, hg, hn, hm, hc, ht⟩
  · omega
  · injection hv with e1 e2 e3
    subst e1
    have hB : Blk W g 99 cur := hg
    have hlt : i * 3 + 2 < cur.size := by rw [hc]; have := Nat.mul_le_mul_right 3 hn; omega
    refine ⟨g, rfl, hB.lt, hB.frozen _, ?_, ?_⟩
    · rw [hB.cell, Array.getElem?_eq_getElem hlt]; rfl
    · refine ⟨by rw [cellsK_length], .inr ⟨g, cap, cur.setIfInBounds (i * 3 + 2) (.bool true), by rw [List.length_set, e2, e3], hb, hB.set_ _ _, by rw [List.length_set]; exact hn, hm, by simpa using hc, ?_⟩⟩
      rw [List.length_set, Array.toList_setIfInBounds, List.take_set, ht, cellsK_set l i k hk]
def setT (l : List Kp) (i : Nat) : List Kp := match l[i]? with | some k => l.set i ⟨k.t, k.n, true⟩ | none => l
def markT (l : List Kp) (pre : List (Nat × Int)) : List Kp := pre.foldl (fun r x => setT r x.1) l
theorem setT_len (l : List Kp) (i : Nat) : (setT l i).length = l.length := by
  unfold setT
  split
  · rw [List.length_set]
  · rfl
theorem markT_len (pre : List (Nat × Int)) : ∀ l : List Kp, (markT l pre).length = l.length := by
  induction pre with
  | nil => intro l; rfl
  | cons x pre ih => intro l; exact (ih _).trans (setT_len _ _)
theorem markT_next (l : List Kp) (pre : List (Nat × Int)) (x : Nat × Int) : markT l (pre ++ [x]) = setT (markT l pre) x.1 := by
  unfold markT
  rw [List.foldl_append]; rfl
end Go.Proofs.Ytpfgdgelnehjpaa
