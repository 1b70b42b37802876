/- Monitors: Waits. -/
import Derived.Test.YtpfgdgelnehjpaaLockW
namespace Go.Proofs.Ytpfgdgelnehjpaa
open Go.RowKit Go.Shelf
set_option linter.unusedVariables false
set_option linter.unusedSimpArgs false
attribute [local go_sem] Oper.semAt_some

theorem wpListIn_appZ {F : Fence} {n : Nat} {ops : Array Oper} {rest : List Oper} {o : Oper} {a : Act} {Q : Exit → Act → World → Prop} (w : World) (hgd : o.guard = none) (s x : Operand)
    (ho : o.op = .call { callee := .builtin .append, args := #[s, x], argTypes := #[38, 38] })
    (base : Nat) (v : Value) (xs : List Int) (hs : a.eval s = v) (hown : OwnZ w base v xs)
    (B : Nat) (A : Option Addr) (m c : Nat) (ys : List Int) (hx : a.eval x = .slice A m c) (hr : ReadsZ w B A ys) (hm : m = ys.length)
    (zs : List Int) (n' : Nat) (hz : xs ++ ys = zs) (hn : zs.length = n')
    (hb : n' ≤ 17592186044416) (hbase : base ≤ w.heap.size)
    (h : ∀ A' c' w', OwnZ w' base (.slice A' n' c') zs → w.grownBy w' v.ownBlock → Below base w w' →
      ((Value.slice A' n' c').ownBlock = v.ownBlock ∨ (Value.slice A' n' c').ownBlock = some w.heap.size) → wpListIn F n Try.prog ops Q rest (a.put o.dst (.slice A' n' c')) w') : wpListIn F n Try.prog ops Q (o :: rest) a w := by
  subst hm
  subst hz
  rw [List.length_append] at hn
  subst hn
  obtain ⟨i0, hi0, hz0, hz1, hz2⟩ := info_parts infoZ
  obtain ⟨A', c', w', hrun, h2, h3, h4⟩ := run_append_any (P := Try.prog) w base 38 o.type 3 i0 _ 1 8 Try.underlying38 hi0 hz0 hz1 hz2 rfl (by omega) v xs.length (cellsOf .i64 xs) hown B A ys.length c (cellsOf .i64 ys) hr cellsOf_one (by unfold maxLen; omega) (by omega) hbase
  refine wpListIn_plain hgd fun K hK' => ?_
  unfold Oper.wpIn
  refine ⟨?_, ?_⟩
  · simp [Oper.about, ho, resolve, Target.leads, Sem.run_pure]
  · rw [Oper.semAt_plain F _ _ (by rw [ho]; intro c hc'; cases hc')]
    simp [execOp, ho, resolve, invoke, builtin, hs, hx, hrun, Result.andThen]
    refine hK' _ _ (h A' c' w' ?_ h3 (own_grown_below hown h3 hbase) h4)
    unfold OwnZ
    rw [List.length_append]
    unfold cellsOf at h2 ⊢
    rw [List.map_append]
    exact h2

theorem ReadsZ.one (w : World) (x : Int) : ReadsZ (w.alloc (.cells #[.int .i64 x] 3)) (w.heap.size + 1) (some ⟨w.heap.size, 0, none⟩) [x] := by
  have := Reads.new w #[.int .i64 x] 3 (0, 0) 1 1 rfl
  simpa [ReadsZ, cellsOf] using this
theorem ownZ_setCell {w : World} {g i : Nat} {t : TypeId} {cs : Array Value} {v : Value} {xs : List Int} {base : Nat} (h : OwnZ w base v xs) (hB : Blk w g t cs) (ht : 3 ≠ t) (u : Value) :
    OwnZ (w.setCell ⟨g, i, none⟩ u) base v xs :=
  World.ownsRow.kept (row := some g) h ⟨rfl, rfl, rfl, by simp [World.setCell], fun k _ hne => Below.heap_setCell w _ u k (fun e => hne (by rw [e]))⟩ (.inr (own_blk_ne h hB ht))
theorem blk_own {B : Nat} {W W' : World} {row : Option Nat} {g : Nat} {t : TypeId} {cs : Array Value} (h : Blk W g t cs) (hg : W.grownBy W' row) (hr : ∀ r, row = some r → B ≤ r ∧ ∃ o : Obj, W.heap[r]? = some o ∧ o.isCells = false) : Blk W' g t cs :=
  h.grown hg (fun e => by
    obtain ⟨_, o, ho, hc⟩ := hr g e.symm
    unfold Blk at h
    rw [h] at ho
    injection ho with ho
    subst ho
    cases hc)
/-- The blocks that a round may turn: a fixed set, a box of numbers, and the row in it. -/
def WsG (Fx : Nat → Prop) (O : Nat) (W : World) (k : Nat) : Prop := Fx k ∨ k = O ∨ ∃ v, Blk W O 38 #[v] ∧ v.ownBlock = some k
theorem wsG_told (Fx : Nat → Prop) (O : Nat) : Told (WsG Fx O) := ⟨fun {W W'} hr hb k hk => by
  have h2 := hr O (.inr (.inl rfl))
  rcases hk with h | h | ⟨v, hv, ho⟩
  · exact .inl h
  · exact .inr (.inl h)
  · exact .inr (.inr ⟨v, (hb.block _ h2).symm.trans hv, ho⟩)⟩
theorem wsG_put {Fx : Nat → Prop} {O l : Nat} {W : World} {o : Obj} (o' : Obj) (hF : ∀ k, Fx k → k < l) (hl : O < l) (ho : W.heap[l]? = some o) (hc : o.isCells = false) : Kept (WsG Fx O) W (W.putObj l o') := by
  have hg := grownBy_putObj' W l o'
  have hs := hg.size
  have hlt := (Array.getElem?_eq_some_iff.1 ho).1
  have hback : ∀ k, WsG Fx O (W.putObj l o') k → WsG Fx O W k := fun k hk => by
    rcases hk with h | h | ⟨v, hv, hv'⟩
    · exact .inl h
    · exact .inr (.inl h)
    · refine .inr (.inr ⟨v, ?_, hv'⟩)
      unfold Blk at hv ⊢
      rw [← hv]
      exact (hg.block O (by omega) (fun e => by injection e with e; omega)).symm
  refine ⟨hs, fun k q hk hq _ => ?_, fun k _ hG => hback k hG, fun hr k hG => Nat.lt_of_lt_of_le (hr k (hback k hG)) hs⟩
  refine (hg.block k (Array.getElem?_eq_some_iff.1 hk).1 (fun e => ?_)).trans hk
  injection e with e
  subst e
  rw [ho] at hk
  injection hk with hk
  subst hk
  rw [hc] at hq
  cases hq
theorem wsG_below {Fx : Nat → Prop} {O : Nat} {W W' : World} (hlt : O < W.heap.size) (hb : Below W.heap.size W W') : Kept (WsG Fx O) W W' := by
  have hback : ∀ k, WsG Fx O W' k → WsG Fx O W k := fun k hk => by
    rcases hk with h | h | ⟨v, hv, ho⟩
    · exact .inl h
    · exact .inr (.inl h)
    · exact .inr (.inr ⟨v, (hb.block _ hlt).symm.trans hv, ho⟩)
  exact ⟨hb.size, fun k o hk _ _ => (hb.block k (Array.getElem?_eq_some_iff.1 hk).1).trans hk, fun k _ h => hback k h, fun hr k h => Nat.lt_of_lt_of_le (hr k (hback k h)) hb.size⟩
/-- A round's append and store. -/
theorem wsG_push {Fx : Nat → Prop} {O : Nat} {W w1 : World} {A2 A3 : Option Addr} {n2 c2 n3 c3 : Nat} {E : Obj} (hv : Blk W O 38 #[.slice A2 n2 c2]) (hg : (W.alloc E).grownBy w1 (Value.slice A2 n2 c2).ownBlock) (hne : (Value.slice A2 n2 c2).ownBlock ≠ some O)
    (hat : (Value.slice A3 n3 c3).ownBlock = (Value.slice A2 n2 c2).ownBlock ∨ (Value.slice A3 n3 c3).ownBlock = some (W.alloc E).heap.size) (hin : ∀ k, (Value.slice A3 n3 c3).ownBlock = some k → k < w1.heap.size) :
    Kept (WsG Fx O) W (w1.setCell ⟨O, 0, none⟩ (.slice A3 n3 c3)) := by
  have hvl := hv.lt
  have hs1 : W.heap.size + 1 ≤ w1.heap.size := by have := hg.size; simpa using this
  have hB1 : Blk w1 O 38 #[.slice A2 n2 c2] := (hv.alloc E).grown hg hne.symm
  have hB2 : Blk (w1.setCell ⟨O, 0, none⟩ (.slice A3 n3 c3)) O 38 #[.slice A3 n3 c3] := hB1.set_ 0 _
  have hsz : (w1.setCell ⟨O, 0, none⟩ (.slice A3 n3 c3)).heap.size = w1.heap.size := by simp [World.setCell]
  refine ⟨by rw [hsz]; omega, fun k o hk ho hn => ?_, fun k hk hG => ?_, fun hr k hG => ?_⟩
  · have hkl := (Array.getElem?_eq_some_iff.1 hk).1
    have h1 : k ≠ O := fun e => hn (.inr (.inl e))
    have h2 : some k ≠ (Value.slice A2 n2 c2).ownBlock := fun e => hn (.inr (.inr ⟨_, hv, e.symm⟩))
    exact (Below.heap_setCell w1 _ _ k h1).trans ((hg.block k (by simp; omega) h2).trans ((Below.heap_alloc W E k hkl).trans hk))
  · rcases hG with h | h | ⟨v, hv', ho⟩
    · exact .inl h
    · exact .inr (.inl h)
    · unfold Blk at hB2 hv'
      rw [hB2] at hv'
      simp only [Option.some.injEq, Obj.cells.injEq, and_true, List.cons.injEq, Array.mk.injEq] at hv'
      subst hv'
      rcases hat with h | h
      · exact .inr (.inr ⟨_, hv, h ▸ ho⟩)
      · rw [h] at ho
        injection ho with ho
        simp at ho
        omega
  · rw [hsz]
    rcases hG with h | h | ⟨v, hv', ho⟩
    · have := hr k (.inl h); omega
    · omega
    · unfold Blk at hB2 hv'
      rw [hB2] at hv'
      simp only [Option.some.injEq, Obj.cells.injEq, and_true, List.cons.injEq, Array.mk.injEq] at hv'
      subst hv'
      exact hin k ho

def wsT (row : List Kp) : List Int := (wsF 0 row).map (·.2)
/-- Between two rounds. -/
def WsI (w : World) (own cnt : Int) (row : List Kp) (A : Option Addr) (c : Nat) (pre : List (Nat × Int)) (W : World) : Prop :=
  (∃ v, Blk W w.heap.size 38 #[v] ∧ OwnZ W w.heap.size v (pre.map (·.2))) ∧ Blk W (w.heap.size + 1) 95 #[.int .i64 own, .int .i64 cnt, .slice A row.length c] ∧ Below w.heap.size w W
theorem wsI_own (w : World) (own cnt : Int) (row : List Kp) (A : Option Addr) (c B : Nat) (hB : w.heap.size ≤ B) : OwnFrom B (WsI w own cnt row A c) := fun s W W' row' hs hg hr => by
  obtain ⟨⟨v, hv, ho⟩, h1, hb⟩ := hs
  refine ⟨⟨v, blk_own hv hg hr, World.ownsRow.kept ho hg ?_⟩, blk_own h1 hg hr, hb.grown hg hb.size (fun k e => Nat.le_trans hB (hr k e).1)⟩
  rcases ho.2 with ⟨rfl, _⟩ | ⟨g, cap, cur, rfl, _, hgb, _⟩
  · exact .inl rfl
  · refine .inr fun e => ?_
    obtain ⟨_, o, ho', hc⟩ := hr g e.symm
    rw [hgb] at ho'
    injection ho' with ho'
    subst ho'
    cases hc
theorem wsF_len : ∀ (row : List Kp) (i : Nat), (wsF i row).length ≤ row.length
  | [], _ => Nat.le_refl _
  | k :: l, i => by
    unfold wsF
    have := wsF_len l (i + 1)
    split
    · simp; omega
    · simp; omega
/-- The activation behind the assignment to the loop's variable. -/
def WsA (w : World) (p b : Nat) (r own cnt : Int) (row : List Kp) (A : Option Addr) (c : Nat) (x : Nat × Int) (a' : Act) (W : World) : Prop :=
  a' = { tmps := #[.pointer (some ⟨p, 0, none⟩), .int .i64 r, undef, undef, .slice none 0 0, .pointer (some ⟨w.heap.size, 0, none⟩), undef, .int .i64 x.2, .pointer (some ⟨p, 0, none⟩), .bool false, .pointer (some ⟨p, 0, none⟩), .pointer (some ⟨p, 0, none⟩), .pointer (some ⟨p, 0, none⟩), .map (some b), .int .i64 r, .agg #[.int .i64 own, .int .i64 cnt, .slice A row.length c], .func (.func 54) #[] #[.pointer (some ⟨w.heap.size + 1, 0, none⟩)], .int .i64 x.1, .int .i64 x.2, undef, undef, undef, undef, undef], defers := [] }
def encW (x : Nat × Int) : Array Value := #[.int .i64 x.1, .int .i64 x.2]
set_option maxRecDepth 100000 in
set_option maxHeartbeats 4000000 in
theorem waits_any (p b n : Nat) (s : Int → Mon) (r : Int) (hx : fit64 r) (w : World) (h : LS w p b n s) (hn : n < 4398046511104) :
    Calls Try.prog 21 #[.pointer (some ⟨p, 0, none⟩), .int .i64 r] w fun e w' => ∃ A c, e = .returned (.slice A (wsT (s r).row).length c) ∧ ReadsZ w' w'.heap.size A (wsT (s r).row) ∧ (wsT (s r).row).length ≤ c ∧ c ≤ maxLen ∧ Below w.heap.size w w' := by
  have hW := b0 w (.cells #[.slice none 0 0] 38)
  have hnone := Lib.hid (none_any p b n s (w.alloc (.cells #[.slice none 0 0] 38)) (h.below hW))
  obtain ⟨⟨f, hM, hH⟩, hB, hbd⟩ := id h
  obtain ⟨A, c, hv, hr, hlc, hmc, hkt⟩ := hH r
  have hmb := hbd r
  have c0 : (w.alloc (.cells #[.slice none 0 0] 38)).cell? ⟨p, 0, none⟩ = some (.map (some b)) := (hB.below hW hB.lt).cell 0
  have hrun := (hM.below hW).look (T := 87) (E := 95) Try.underlying87 (zeroM_run _) hx
  rw [hv] at hrun
  unfold Mon.v at hrun
  clear hv hbd hH
  generalize s r = m at *
  obtain ⟨own, cnt, row⟩ := m
  obtain ⟨hb1, hb2, hb3⟩ := hmb
  dsimp only at hrun hr hlc hb2 ⊢
  refine (callsIn_wide (n := 3)).1 ?_
  refine callsIn_of_wp_marks Try.func21 rfl trivial ?_ rfl
  simp only [Try.ntmps21, List.size_toArray, List.length_cons, List.length_nil, Nat.reduceAdd, Nat.reduceSub, Array.replicate_succ, Array.replicate_zero, List.push_toArray, List.append_toArray, List.nil_append, List.cons_append]
  gi_wp2_with fail
  refine ⟨trivial, (callsIn_wide.2 hnone.out).mono ?_⟩
  rintro _ w1 ⟨rfl, rfl⟩
  gi_wp2_with fail
  refine ⟨trivial, (callsIn_wide.2 (waiting_any own cnt row A c _)).mono ?_⟩
  rintro _ w1 ⟨rfl, rfl⟩
  gi_wp2_with fail
  obtain ⟨W0, hW0⟩ : ∃ W0, (w.alloc (.cells #[.slice none 0 0] 38)).alloc (.cells #[.int .i64 own, .int .i64 cnt, .slice A row.length c] 95) = W0 := ⟨_, rfl⟩
  have hsz : W0.heap.size = w.heap.size + 2 := by rw [← hW0]; simp
  have hB0 : Below w.heap.size w W0 := by
    rw [← hW0]
    exact ((Below.refl _ _).alloc (Nat.le_refl _) _).alloc (by simp) _
  have k0 : Blk W0 w.heap.size 38 #[.slice none 0 0] := by
    rw [← hW0]
    exact (Blk.new w 38 #[.slice none 0 0]).alloc _
  have k1 : Blk W0 (w.heap.size + 1) 95 #[.int .i64 own, .int .i64 cnt, .slice A row.length c] := by
    rw [← hW0]
    have := Blk.new (w.alloc (.cells #[.slice none 0 0] 38)) 95 #[.int .i64 own, .int .i64 cnt, .slice A row.length c]
    simpa using this
  have hG0 : ∀ k, WsG (fun _ => False) w.heap.size W0 k → k = w.heap.size := fun k hk => by
    rcases hk with h | h | ⟨v, hv, ho⟩
    · exact h.elim
    · exact h
    · unfold Blk at hv k0
      rw [k0] at hv
      simp only [Option.some.injEq, Obj.cells.injEq, and_true, List.cons.injEq, Array.mk.injEq] at hv
      subst hv
      simp [Value.ownBlock] at ho
  rw [hW0]
  clear hW0 hrun c0 hW hnone
  have hGr0 : ∀ k, WsG (fun _ => False) w.heap.size W0 k → k < W0.heap.size := fun k hk => by have := hG0 k hk; omega
  refine wpIn_rangeFunc_ownH (α := Nat × Int) (F := Fence.wide) (n := 3) rfl (by decide) (gf := 54) (lb := #[.pointer (some ⟨w.heap.size + 1, 0, none⟩)]) rfl trivial (enters_of Try.func54 (by kernel_rfl) rfl)
    (encs := encW) (Kp := Kept (WsG (fun _ => False) w.heap.size)) (S := fun ys => ys = wsF 0 row) (Sp := fun pre => pre <+: wsF 0 row) (N := row.length) (w0 := W0)
    (fun l J Jx W hW hJ _ hY h0 => waiting1_in 2 (by decide) (WsG (fun _ => False) w.heap.size) (wsG_told _ _) l (w.heap.size + 1) w.heap.size own cnt A c row (by omega) J Jx hY W hJ (k1.below hW k1.lt)
      (fun h => by have := hG0 _ ((wsG_told _ _).below hGr0 hW _ h); omega) (Reads.below hr (hB0.trans (hW.mono (by omega)))) (by have := hW.size; omega)
      (fun j hj h => by have := hG0 _ ((wsG_told _ _).below hGr0 hW _ h); omega) (fun k h => by have := hG0 _ ((wsG_told _ _).below hGr0 hW _ h); have := hW.size; omega) h0)
    Kept.trans (fun W l o o' hl ho hcl _ => wsG_put o' (fun _ h => h.elim) (by omega) ho hcl) (Below.refl _ _) (fun _ => rfl)
    (WsI w own cnt row A c) (fun _ _ _ => False) (wsI_own w own cnt row A c _ (by omega)) (fun cd s W W' row' hs hg hr => hs.elim) ⟨⟨_, k0, OwnZ.nil _ _⟩, k1, hB0⟩ (WsA w p b r own cnt row A c)
    (fun x a' _ X Y row' hs hg hrow => hs) ?assign ?body ?done ?stop
  case assign =>
    rintro l pre x W K ⟨⟨v, hv, hO⟩, h1, hB⟩ hK
    have hvl := hv.lt
    unfold encW
    gi_wp2
    exact hK _ _ ((KeepsOthers.refl _).from _) (wsG_below hvl (Below.refl _ _)) ⟨⟨v, hv, hO⟩, h1, hB⟩ rfl
  case body =>
    rintro l pre x a' W hl ⟨r', hrl⟩ ⟨⟨v, hv, hO⟩, h1, hB⟩ rfl hlt
    obtain ⟨A2, c2, rfl, hlc2, hmx2, hrd⟩ := own_form hO
    rw [List.length_map] at hv hO
    have e2 : W.cell? ⟨w.heap.size, 0, none⟩ = some (.slice A2 pre.length c2) := hv.cell 0
    have f2 : W.frozen? ⟨w.heap.size, 0, none⟩ = false := hv.frozen 0
    have hz1 : pre.map (·.2) ++ [x.2] = (pre ++ [x]).map (·.2) := by simp
    have hz2 : ((pre ++ [x]).map (·.2)).length = pre.length + 1 := by simp
    have hone := Lib.hid (ReadsZ.one W x.2)
    have hOa := Lib.hid (OwnZ.alloc hO (.cells #[.int .i64 x.2] 3))
    have hgv := own_blk_ne hO hv (by decide)
    replace hz1 := Lib.hid hz1
    replace hz2 := Lib.hid hz2
    have hBs := hB.size
    gi_wp2_with (first
      | (gi_at_builtin
         refine wpListIn_appZ (W.alloc (.cells #[.int .i64 x.2] 3)) rfl (.tmp 19) (.tmp 21) rfl w.heap.size (.slice A2 pre.length c2) (pre.map (·.2)) rfl hOa.out (W.heap.size + 1) (some ⟨W.heap.size, 0, none⟩) 1 1 [x.2] rfl hone.out rfl
           ((pre ++ [x]).map (·.2)) (pre.length + 1) hz1.out hz2.out (by omega) (by simp; omega) ?_
         intro A3 c3 w3 hown3 hg3 hb3 hat3
         have hB3 : Blk w3 w.heap.size 38 #[.slice A2 pre.length c2] := (hv.alloc _).grown hg3 hgv.symm
         have c03 : w3.cell? ⟨w.heap.size, 0, none⟩ = some (.slice A2 pre.length c2) := hB3.cell 0
         have f03 : w3.frozen? ⟨w.heap.size, 0, none⟩ = false := hB3.frozen 0))
    have hin3 : ∀ k, (Value.slice A3 (pre.length + 1) c3).ownBlock = some k → k < w3.heap.size := fun k hk => (hown3.lt k hk).2
    have hkp := wsG_push (Fx := fun _ => False) hv hg3 hgv hat3 hin3
    have hsz3 := hg3.size
    simp only [World.size_alloc] at hsz3
    have hKF : KeepsFrom (w.heap.size + 2) W (w3.setCell ⟨w.heap.size, 0, none⟩ (.slice A3 (pre.length + 1) c3)) := by
      refine (((KeepsOthers.alloc W (.cells #[.int .i64 x.2] 3)).trans (KeepsOthers.of_grownBy hg3 fun j o ej hj => ?_)).trans (KeepsOthers.setCell _ _ _)).from _
      rcases (World.ownsRow.alloc hO (.cells #[.int .i64 x.2] 3)).2 with ⟨hn, _⟩ | ⟨g, cap, cur, hn, _, hgb, _⟩
      · rw [hn] at ej
        simp [Value.ownBlock] at ej
      · rw [hn] at ej
        obtain rfl : g = j := by simpa [Value.ownBlock] using ej
        rw [hgb] at hj
        cases hj
        rfl
    have q1 := own_blk_ne hO h1 (by decide)
    have hn1 : w.heap.size + 1 ≠ w.heap.size := by omega
    exact ⟨hKF, hkp, ⟨⟨_, (hB3.set_ 0 _ : Blk _ _ _ _), by
        rw [← hz1.out] at hown3 ⊢
        exact ownZ_setCell hown3 hB3 (by decide) _⟩,
      ((h1.alloc _).grown hg3 q1.symm).far (p := ⟨w.heap.size, 0, none⟩) hn1 _,
      ((hB.alloc hBs _).trans hb3).setCell (p := ⟨w.heap.size, 0, none⟩) (Nat.le_refl _) _⟩⟩
  case done =>
    rintro D ys W hD rfl ⟨⟨v, hv, hO⟩, h1, hB⟩ hK
    obtain ⟨A2, c2, rfl, hlc2, hmx2, hrd⟩ := own_form hO
    have e2 : W.cell? ⟨w.heap.size, 0, none⟩ = some (.slice A2 ((wsF 0 row).map (·.2)).length c2) := hv.cell 0
    have hOw := ownsRow_putObj hO (.deferred none) hK rfl
    gi_wp2
    refine ⟨by simp, .inl ⟨_, _, rfl, run_takeDeferred hK, ?_⟩⟩
    have hg := grownBy_putObj' W D (.deferred none)
    refine ⟨.slice A2 (wsT row).length c2, by simp [results, Try.results21, go_sem, wsT], A2, c2, rfl, OwnZ.reads hOw, hlc2, hmx2, ?_⟩
    exact hB.grown hg hB.size (fun k e => by injection e with e; omega)
  case stop =>
    rintro D cd pre W hD hpre hf hK
    exact hf.elim
end Go.Proofs.Ytpfgdgelnehjpaa
