/- Monitors: those that wait, one by one. -/
import Derived.Test.YtpfgdgelnehjpaaLockO
import Derived.RangeFuncNested
import Derived.RangeFuncBound
import Derived.RangeFuncCalls
import Derived.RangeFuncLeaves
import Derived.Shelf.Abstract
import Derived.Shelf.RegionOpen
import Derived.OwnWalkIn
import Derived.TacticsInMore
import Derived.LoopNIn
import Derived.LoopIn
namespace Go.Proofs.Ytpfgdgelnehjpaa
open Go.RowKit Go.Shelf
set_option linter.unusedVariables false
set_option linter.unusedSimpArgs false
attribute [local go_sem] Oper.semAt_some

/-- What a round keeps: all cells but G's. -/
structure Kept (G : World → Nat → Prop) (W W' : World) : Prop where
  size : W.heap.size ≤ W'.heap.size
  same : ∀ k o, W.heap[k]? = some o → o.isCells = true → ¬ G W k → W'.heap[k]? = some o
  back : ∀ k, k < W.heap.size → G W' k → G W k
  inr : (∀ k, G W k → k < W.heap.size) → ∀ k, G W' k → k < W'.heap.size
theorem Kept.trans {G : World → Nat → Prop} {A B C : World} (h : Kept G A B) (k : Kept G B C) : Kept G A C :=
  ⟨Nat.le_trans h.size k.size, fun j o hj ho hn => k.same j o (h.same j o hj ho hn) ho fun hg => hn (h.back j (Array.getElem?_eq_some_iff.1 hj).1 hg),
    fun j hj hg => h.back j hj (k.back j (Nat.lt_of_lt_of_le hj h.size) hg), fun hr => k.inr (h.inr hr)⟩
/-- G is told by what lies. -/
structure Told (G : World → Nat → Prop) : Prop where
  below : ∀ {W W' : World}, (∀ k, G W k → k < W.heap.size) → Below W.heap.size W W' → ∀ k, G W' k → G W k
theorem kept_cell {G : World → Nat → Prop} {W W' : World} (h : Kept G W W') {p : Addr} {v : Value} (hn : ¬ G W p.block) (hc : W.cell? p = some v) : W'.cell? p = some v := by
  obtain ⟨o, ho, hcl⟩ := cells_of_cell hc
  exact (World.cell?_of_block ((h.same _ o ho hcl hn).trans ho.symm)).trans hc
theorem Blk.kept {G : World → Nat → Prop} {W W' : World} {g : Nat} {t : TypeId} {cs : Array Value} (h : Blk W g t cs) (k : Kept G W W') (hn : ¬ G W g) : Blk W' g t cs := k.same g _ h rfl hn
theorem Reads.kept {G : World → Nat → Prop} {W W' : World} {B size n : Nat} {A : Option Addr} {xs : List Value} (h : Reads W B size A n xs) (k : Kept G W W') (hn : ∀ j, j < B → ¬ G W j) : Reads W' B size A n xs :=
  ⟨h.1, fun h0 => by
    obtain ⟨ad, e, hb, hc⟩ := h.2 h0
    exact ⟨ad, e, hb, fun j u hu => kept_cell k (by rw [block_of_add]; exact hn _ hb) (hc j u hu)⟩⟩


/-- A slice of numbers that reads as xs. -/
def ReadsZ (w : World) (B : Nat) (A : Option Addr) (xs : List Int) : Prop := Reads w B 1 A xs.length (cellsOf .i64 xs)
theorem infoZ : (Try.prog.info? 3).map (fun i => (i.zero, i.size, i.bytes)) = some (some (.int .i64 0), 1, 8) := by kernel_rfl

/-- A slice value of the call's own that reads as the numbers xs. -/
def OwnZ (w : World) (base : Nat) (v : Value) (xs : List Int) : Prop := w.ownsRow base 3 1 v xs.length (cellsOf .i64 xs)

section
variable {w w' : World} {base : Nat} {v : Value} {xs : List Int}
theorem OwnZ.below (h : OwnZ w base v xs) (hb : Below w.heap.size w w') : OwnZ w' base v xs := own_below h hb
theorem OwnZ.base_ {b : Nat} (h : OwnZ w base v xs) (hb : b ≤ base) : OwnZ w b v xs := own_base h hb
theorem OwnZ.alloc (h : OwnZ w base v xs) (o : Obj) : OwnZ (w.alloc o) base v xs := World.ownsRow.alloc h o
theorem OwnZ.reads {A : Option Addr} {n c : Nat} (h : OwnZ w base (.slice A n c) xs) : ReadsZ w w.heap.size A xs := by
  obtain ⟨A', c', hv, _, _, hr⟩ := own_form h
  injection hv with h1
  subst h1
  exact hr
theorem OwnZ.len {A : Option Addr} {n c : Nat} (h : OwnZ w base (.slice A n c) xs) : n = xs.length := by
  obtain ⟨A', c', hv, _, _, hr⟩ := own_form h
  injection hv
theorem OwnZ.cap {A : Option Addr} {n c : Nat} (h : OwnZ w base (.slice A n c) xs) : xs.length ≤ c ∧ c ≤ maxLen := own_cap h
theorem OwnZ.nil (w : World) (base : Nat) : OwnZ w base (.slice none 0 0) [] := World.ownsRow_nil _ _ _ _
end

theorem OwnZ.lit {w : World} {base : Nat} {C : Array Value} {xs : List Int} (hC : C.toList = cellsOf .i64 xs) (hb : base ≤ w.heap.size) (hm : xs.length ≤ maxLen) :
    OwnZ (w.alloc (.cells C 3)) base (.slice (some ⟨w.heap.size, 0, none⟩) xs.length xs.length) xs := by
  have := World.ownsRow_lit (base := base) (e := 3) (size := 1) w C xs.length hb hm (by rw [← Array.length_toList, hC, cellsOf_length]; omega)
  unfold OwnZ
  rw [← hC]
  exact this


/-- Those of a row that wait: where, and who. -/
def wsF : Nat → List Kp → List (Nat × Int)
  | _, [] => []
  | i, k :: l => if k.told = true then wsF (i + 1) l else (i, k.t) :: wsF (i + 1) l
theorem wsF_end {row : List Kp} {k : Nat} (h : ¬ k < row.length) : wsF k (row.drop k) = [] := by
  rw [List.drop_eq_nil_of_le (by omega)]; rfl
theorem wsF_go {row : List Kp} {k : Nat} {x : Kp} (h : row[k]? = some x) : wsF k (row.drop k) = if x.told = true then wsF (k + 1) (row.drop (k + 1)) else (k, x.t) :: wsF (k + 1) (row.drop (k + 1)) := by
  obtain ⟨hk, e⟩ := List.getElem?_eq_some_iff.1 h
  rw [List.drop_eq_getElem_cons hk, e]
  rfl

set_option maxRecDepth 100000 in
set_option maxHeartbeats 4000000 in
theorem waiting_any (own cnt : Int) (row : List Kp) (A : Option Addr) (c : Nat) (w : World) :
    Calls Try.prog 46 #[.agg #[.int .i64 own, .int .i64 cnt, .slice A row.length c]] w fun e w' => e = .returned (.func (.func 54) #[] #[.pointer (some ⟨w.heap.size, 0, none⟩)]) ∧ w' = w.alloc (.cells #[.int .i64 own, .int .i64 cnt, .slice A row.length c] 95) := by
  have hmf : ∀ (fn : Fn) (first cap : Array Value) (w : World), (Instr.makeFunc fn first cap).run Try.prog w = .ok (.func fn first cap) w := fun _ _ _ _ => rfl
  go_enter Try.func46, Try.ntmps46
  go_wp2_with fail
  go_ret
  exact ⟨rfl, rfl⟩

set_option maxRecDepth 100000 in
set_option maxHeartbeats 4000000 in
theorem waiting1_in (n : Nat) (hn : 1 ≤ n) (G : World → Nat → Prop) (hG : Told G) (l Bx n₀ : Nat) (own cnt : Int) (A : Option Addr) (c : Nat) (row : List Kp) (hm : row.length ≤ 4398046511104) (J Jx : List (Nat × Int) → World → Prop)
    (hY : ∀ pre x W1, J pre W1 → pre.length < row.length → YieldAt Fence.wide (n - 1) Try.prog l #[.int .i64 x.1, .int .i64 x.2] W1 fun e W' =>
      (e = .returned (.bool true) ∧ J (pre ++ [x]) W' ∧ Kept G W1 W') ∨ (e = .returned (.bool false) ∧ Jx (pre ++ [x]) W'))
    (W : World) (hJ : AbidesFrom W.heap.size J) (hBx : Blk W Bx 95 #[.int .i64 own, .int .i64 cnt, .slice A row.length c]) (hGx : ¬ G W Bx) (hr : ReadsK W n₀ A row) (hn0 : n₀ ≤ W.heap.size) (hG0 : ∀ j, j < n₀ → ¬ G W j) (hGr : ∀ k, G W k → k < W.heap.size) (h0 : J [] W) :
    CallsIn Fence.wide n Try.prog 54 #[.func (.yield l) #[] #[], .pointer (some ⟨Bx, 0, none⟩)] W fun e W' => (∃ v, e = .returned v) ∧
      ((∃ ys, ys = wsF 0 row ∧ J ys W') ∨ (∃ pre, pre <+: wsF 0 row ∧ Jx pre W')) := by
  refine callsIn_of_wp Try.func54 rfl trivial ?_ rfl
  simp only [Try.ntmps54, List.size_toArray, List.length_cons, List.length_nil, Nat.reduceAdd, Nat.reduceSub, Array.replicate_succ, Array.replicate_zero, List.push_toArray, List.append_toArray, List.nil_append, List.cons_append]
  have hc2 : W.cell? ⟨Bx, 2, none⟩ = some (.slice A row.length c) := hBx.cell 2
  gi_wp2
  gi_loopw [8] (fun i wr => ∃ (k : Nat) (pre : List (Nat × Int)), k ≤ row.length ∧ i = .int .i64 k ∧ pre.length ≤ k ∧ pre ++ wsF k (row.drop k) = wsF 0 row ∧ J pre wr ∧ ReadsK wr n₀ A row ∧ n₀ ≤ wr.heap.size ∧ (∀ j, j < n₀ → ¬ G wr j) ∧ (∀ k, G wr k → k < wr.heap.size) ∧ W.heap.size ≤ wr.heap.size) (fun i _ => row.length - (intOf i).toNat)
  case atStart => exact ⟨0, [], by omega, rfl, by simp, rfl, h0, hr, hn0, hG0, hGr, Nat.le_refl _⟩
  case round =>
    obtain ⟨k, pre, hk, rfl, hpl, hall, hJs, hR, hn0r, hG0r, hGrr, hWs⟩ := hrel
    by_cases hlt : k < row.length
    · obtain ⟨x, hx⟩ := kp_at hlt
      have hgo := wsF_go hx
      obtain ⟨ad, q, hadb, e1⟩ := hR.at_ hx
      subst q
      obtain ⟨a0, a1, a2⟩ := e1
      have hb3 : Below wr.heap.size wr (wr.alloc (.cells #[.int .i64 x.t, .int .i64 x.n, .bool x.told] 99)) := b0 _ _
      have hJ3 : J pre (wr.alloc (.cells #[.int .i64 x.t, .int .i64 x.n, .bool x.told] 99)) := hJ pre wr _ none hJs (only_of_below hb3 none) (fun r h => by cases h)
      have hback := hG.below hGrr hb3
      have hs3 : (wr.alloc (.cells #[.int .i64 x.t, .int .i64 x.n, .bool x.told] 99)).heap.size = wr.heap.size + 1 := by simp
      have hR3 : ReadsK (wr.alloc (.cells #[.int .i64 x.t, .int .i64 x.n, .bool x.told] 99)) n₀ _ row := Reads.below hR (hb3.mono hn0r)
      have hG03 := fun j hj h => hG0r j hj (hback j h)
      have hGr3 : ∀ k, G (wr.alloc (.cells #[.int .i64 x.t, .int .i64 x.n, .bool x.told] 99)) k → k < (wr.alloc (.cells #[.int .i64 x.t, .int .i64 x.n, .bool x.told] 99)).heap.size := fun k h => by have := hGrr k (hback k h); omega
      replace hx := Lib.hid hx
      cases htd : x.told with
      | true =>
        rw [htd] at a2 hgo hJ3 hR3 hG03 hGr3 hs3
        rw [if_pos rfl] at hgo
        have hnext : pre ++ wsF (k + 1) (row.drop (k + 1)) = wsF 0 row := by rw [← hgo]; exact hall
        replace hnext := Lib.hid hnext
        replace hs3 := Lib.hid hs3
        replace htd := Lib.hid htd
        clear hall hgo hb3 hback
        gi_wp2_with fail
        all_goals refine ⟨fun f h => (by cases h), ?_⟩
        all_goals gi_wp2_with fail
        all_goals exact ⟨⟨k + 1, pre, by omega, by go_num, by omega, hnext.out, hJ3, hR3, by have := hs3.out; omega, hG03, hGr3, by have := hs3.out; omega⟩, by simp [intOf]; omega⟩
      | false =>
        rw [htd] at a2 hgo hJ3 hR3 hG03 hGr3 hs3
        rw [if_neg (by decide)] at hgo
        have hnext : pre ++ [(k, x.t)] ++ wsF (k + 1) (row.drop (k + 1)) = wsF 0 row := by rw [← hall, hgo]; simp
        have hpre : pre ++ [(k, x.t)] <+: wsF 0 row := ⟨_, hnext⟩
        replace hnext := Lib.hid hnext
        replace hpre := Lib.hid hpre
        replace htd := Lib.hid htd
        obtain ⟨fn, tmps, assign, body, hy, hRd⟩ := hY pre (k, x.t) _ hJ3 (by omega)
        dsimp only at hy
        replace hs3 := Lib.hid hs3
        clear hall hgo hb3 hback
        gi_wp2_with fail
        refine hRd.mono ?_
        rintro _ W3 (⟨rfl, hJ4, hk4⟩ | ⟨rfl, hJx4⟩)
        · have hR4 := Reads.kept hR3 hk4 hG03
          have hs4 := hk4.size
          have hG04 : ∀ j, j < n₀ → ¬ G W3 j := fun j hj h => hG03 j hj (hk4.back _ (by have := hs3.out; omega) h)
          have hGr4 := hk4.inr hGr3
          gi_wp2_with fail
          exact ⟨⟨k + 1, pre ++ [(k, x.t)], by omega, by go_num, by simp; omega, hnext.out, hJ4, hR4, by have := hs3.out; omega, hG04, hGr4, by have := hs3.out; omega⟩, by simp [intOf]; omega⟩
        · gi_wp2_with fail
          refine bodyPost_ret (results_none rfl _ _ _) rfl ?_
          exact ⟨⟨_, rfl⟩, .inr ⟨_, hpre.out, hJx4⟩⟩
    · rw [wsF_end hlt, List.append_nil] at hall
      gi_wp2_with fail
      go_end0
      exact ⟨⟨_, rfl⟩, .inl ⟨_, hall, hJs⟩⟩
end Go.Proofs.Ytpfgdgelnehjpaa
