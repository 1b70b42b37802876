/- Monitors: Tell. -/
import Derived.Test.YtpfgdgelnehjpaaLockT
namespace Go.Proofs.Ytpfgdgelnehjpaa
open Go.RowKit Go.Shelf
set_option linter.unusedVariables false
set_option linter.unusedSimpArgs false
attribute [local go_sem] Oper.semAt_some
theorem wpListIn_appK {F : Fence} {n : Nat} {ops : Array Oper} {rest : List Oper} {o : Oper} {a : Act} {Q : Exit → Act → World → Prop} (w : World) (hgd : o.guard = none) (s x : Operand)
    (ho : o.op = .call { callee := .builtin .append, args := #[s, x], argTypes := #[93, 93] })
    (base : Nat) (v : Value) (xs : List Kp) (hs : a.eval s = v) (hown : OwnK w base v xs)
    (B : Nat) (A : Option Addr) (m c : Nat) (ys : List Kp) (hx : a.eval x = .slice A m c) (hr : ReadsK w B A ys) (hm : m = ys.length)
    (zs : List Kp) (n' : Nat) (hz : xs ++ ys = zs) (hn : zs.length = n')
    (hb : n' ≤ 5864062014805) (hbase : base ≤ w.heap.size)
    (h : ∀ A' c' w', OwnK w' base (.slice A' n' c') zs → w.grownBy w' v.ownBlock → Below base w w' →
      ((Value.slice A' n' c').ownBlock = v.ownBlock ∨ (Value.slice A' n' c').ownBlock = some w.heap.size) → wpListIn F n Try.prog ops Q rest (a.put o.dst (.slice A' n' c')) w') : wpListIn F n Try.prog ops Q (o :: rest) a w := by
  subst hm
  subst hz
  rw [List.length_append] at hn
  subst hn
  obtain ⟨i0, hi0, hz0, hz1, hz2⟩ := info_parts infoK
  obtain ⟨A', c', w', hrun, h2, h3, h4⟩ := run_append_any (P := Try.prog) w base 93 o.type 99 i0 _ 3 24 Try.underlying93 hi0 hz0 hz1 hz2 rfl (by omega) v xs.length (cellsK xs) hown B A ys.length c (cellsK ys) hr (cellsK_one ys) (by unfold maxLen; omega) (by omega) hbase
  refine wpListIn_plain hgd fun K hK' => ?_
  unfold Oper.wpIn
  refine ⟨?_, ?_⟩
  · simp [Oper.about, ho, resolve, Target.leads, Sem.run_pure]
  · rw [Oper.semAt_plain F _ _ (by rw [ho]; intro c hc'; cases hc')]
    simp [execOp, ho, resolve, invoke, builtin, hs, hx, hrun, Result.andThen]
    refine hK' _ _ (h A' c' w' ?_ h3 (own_grown_below hown h3 hbase) h4)
    unfold OwnK
    rw [List.length_append, cellsK_append]
    exact h2


def tellP (all : Bool) (row : List Kp) : List (Nat × Int) := if all = true then wsF 0 row else (wsF 0 row).take 1
def tellS (s : Int → Mon) (r t : Int) (all : Bool) : Int → Mon := if ownE (s r) t = 0 then setS s r ⟨(s r).own, (s r).cnt, markT (s r).row (tellP all (s r).row)⟩ else s
def tellO (m : Mon) (t : Int) (all : Bool) : List Int := if ownE m t = 0 then (tellP all m.row).map (·.2) else []
theorem setT_kept (l : List Kp) (i : Nat) (k : Kp) (h : k ∈ setT l i) : ∃ k' ∈ l, k.n = k'.n := by
  unfold setT at h
  split at h
  · rename_i k0 h0
    rcases List.mem_or_eq_of_mem_set h with h1 | h1
    · exact ⟨k, h1, rfl⟩
    · exact ⟨k0, List.mem_of_getElem? h0, by rw [h1]⟩
  · exact ⟨k, h, rfl⟩
theorem markT_kept : ∀ (pre : List (Nat × Int)) (l : List Kp) (k : Kp), k ∈ markT l pre → ∃ k' ∈ l, k.n = k'.n
  | [], l, k, h => ⟨k, h, rfl⟩
  | x :: pre, l, k, h => by
    obtain ⟨k1, h1, e1⟩ := markT_kept pre (setT l x.1) k h
    obtain ⟨k2, h2, e2⟩ := setT_kept l x.1 k1 h1
    exact ⟨k2, h2, e1.trans e2⟩
theorem Reads.put {w : World} {size n D : Nat} {A : Option Addr} {xs : List Value} {o : Obj} (h : Reads w w.heap.size size A n xs) (ho : w.heap[D]? = some o) (hc : o.isCells = false) (o' : Obj) : Reads (w.putObj D o') (w.putObj D o').heap.size size A n xs := by
  have hg := grownBy_putObj' w D o'
  refine ⟨h.1, fun hn => ?_⟩
  obtain ⟨ad, e, hb, hcell⟩ := h.2 hn
  refine ⟨ad, e, Nat.lt_of_lt_of_le hb hg.size, fun j u hu => ?_⟩
  have h0 := hcell j u hu
  obtain ⟨q, hq, hqc⟩ := cells_of_cell h0
  have hne : (ad.add j).block ≠ D := by
    intro e
    rw [e, ho] at hq
    injection hq with hq
    subst hq
    rw [hc] at hqc
    cases hqc
  exact (World.cell?_of_block (hg.block _ (by rw [block_of_add]; exact hb) (by simpa using hne))).trans h0
theorem LS.put {w : World} {p b n D : Nat} {s : Int → Mon} {o : Obj} (h : LS w p b n s) (ho : w.heap[D]? = some o) (hc : o.isCells = false) (hD : D ≠ b) (o' : Obj) : LS (w.putObj D o') p b n s := by
  obtain ⟨⟨f, hM, hH⟩, hB, hbd⟩ := h
  have hg := grownBy_putObj' w D o'
  have hpD : p ≠ D := by
    rintro rfl
    unfold Blk at hB
    rw [hB] at ho
    injection ho with ho
    subst ho
    cases hc
  refine ⟨⟨f, hM.kept hg (by simpa using fun e => hD e.symm), fun r => ?_⟩, hB.grown hg (by simpa using hpD), hbd⟩
  obtain ⟨A, c, e, hr, h1, h2, h3⟩ := hH r
  exact ⟨A, c, e, Reads.put hr ho hc o', h1, h2, h3.grown hg ho (fun cs fz e => by subst e; cases hc)⟩
theorem wsG_cell {Fx : Nat → Prop} {O g : Nat} {W : World} (hF : Fx g) (hO : O ≠ g) (i : Nat) (u : Value) : Kept (WsG Fx O) W (W.setCell ⟨g, i, none⟩ u) := by
  have hsz : (W.setCell ⟨g, i, none⟩ u).heap.size = W.heap.size := by simp [World.setCell]
  have hback : ∀ k, WsG Fx O (W.setCell ⟨g, i, none⟩ u) k → WsG Fx O W k := fun k hk => by
    rcases hk with h | h | ⟨v, hv, ho⟩
    · exact .inl h
    · exact .inr (.inl h)
    · exact .inr (.inr ⟨v, (Below.heap_setCell W ⟨g, i, none⟩ u O hO).symm.trans hv, ho⟩)
  exact ⟨by rw [hsz]; exact Nat.le_refl _, fun k o hk _ hn => (Below.heap_setCell W ⟨g, i, none⟩ u k (fun e => hn (.inl (by rw [e]; exact hF)))).trans hk, fun k _ h => hback k h, fun hr k h => by rw [hsz]; exact hr k (hback k h)⟩
/-- Between two rounds of Tell. -/
def TlI (w : World) (H m0 R : Nat) (all : Bool) (own cnt : Int) (row : List Kp) (A : Option Addr) (c : Nat) (A2 : Option Addr) (c2 : Nat) (pre : List (Pl row)) (W : World) : Prop :=
  Blk W H 4 #[.bool all] ∧ Blk W m0 95 #[.int .i64 own, .int .i64 cnt, .slice A row.length c] ∧ Blk W R 93 #[.slice A2 row.length c2] ∧ OwnK W (m0 + 1) (.slice A2 row.length c2) (markT row (pre.map (·.1))) ∧
  (∃ v, Blk W (R + 1) 38 #[v] ∧ OwnZ W (R + 1) v (pre.map (fun x => x.1.2))) ∧ Below w.heap.size w W
theorem ownsRow_from {base B : Nat} {e : TypeId} {size n : Nat} {v : Value} {xs : List Value} {W W' : World} {row : Option Nat} (ho : W.ownsRow base e size v n xs) (hg : W.grownBy W' row) (hr : ∀ r, row = some r → B ≤ r ∧ ∃ o : Obj, W.heap[r]? = some o ∧ o.isCells = false) : W'.ownsRow base e size v n xs := by
  refine World.ownsRow.kept ho hg ?_
  rcases ho.2 with ⟨rfl, _⟩ | ⟨g, cap, cur, rfl, _, hgb, _⟩
  · exact .inl rfl
  · refine .inr fun e => ?_
    obtain ⟨_, o, ho', hc⟩ := hr g e.symm
    rw [hgb] at ho'
    injection ho' with ho'
    subst ho'
    cases hc
theorem tlI_own (w : World) (H m0 R : Nat) (all : Bool) (own cnt : Int) (row : List Kp) (A : Option Addr) (c : Nat) (A2 : Option Addr) (c2 B : Nat) (hB : w.heap.size ≤ B) : OwnFrom B (TlI w H m0 R all own cnt row A c A2 c2) := fun s W W' row' hs hg hr => by
  obtain ⟨h0, h1, h2, h3, ⟨v, hv, ho⟩, hb⟩ := hs
  exact ⟨blk_own h0 hg hr, blk_own h1 hg hr, blk_own h2 hg hr, ownsRow_from h3 hg hr, ⟨v, blk_own hv hg hr, ownsRow_from ho hg hr⟩, hb.grown hg hb.size (fun k e => Nat.le_trans hB (hr k e).1)⟩
/-- A round has left. -/
def TlX (w : World) (H m0 R : Nat) (all : Bool) (own cnt : Int) (row : List Kp) (A : Option Addr) (c : Nat) (A2 : Option Addr) (c2 : Nat) (cd : Code) (pre : List (Pl row)) (W : World) : Prop :=
  cd = .exit 0 ∧ all = false ∧ pre.length = 1 ∧ TlI w H m0 R all own cnt row A c A2 c2 pre W
def encT {row : List Kp} (x : Pl row) : Array Value := #[.int .i64 x.1.1, .int .i64 x.1.2]
def TlA (H m0 R p : Nat) (r t : Int) (all : Bool) (own cnt : Int) (row : List Kp) (A : Option Addr) (c : Nat) (A2 : Option Addr) (c2 : Nat) (x : Pl row) (a' : Act) (W : World) : Prop :=
  a' = { tmps := #[.pointer (some ⟨p, 0, none⟩), .int .i64 r, .int .i64 t, .bool all, undef, undef, undef, .pointer (some ⟨H, 0, none⟩), .slice none 0 0, .int .i64 0, .pointer (some ⟨m0, 0, none⟩), .int .i64 0, .pointer (some ⟨R, 0, none⟩), .pointer (some ⟨R + 1, 0, none⟩), .int .i64 x.1.1, .int .i64 x.1.2,
    .tuple #[.agg #[.int .i64 own, .int .i64 cnt, .slice A row.length c], .int .i64 0], .pointer (some ⟨p, 0, none⟩), .int .i64 r, .int .i64 t, .tuple #[.agg #[.int .i64 own, .int .i64 cnt, .slice A row.length c], .int .i64 0], .agg #[.int .i64 own, .int .i64 cnt, .slice A row.length c], .int .i64 0, .int .i64 0, .bool false, undef, .pointer (some ⟨m0, 2, none⟩), .slice A row.length c, .slice A2 row.length c2, .agg #[.int .i64 own, .int .i64 cnt, .slice A row.length c],
    .func (.func 54) #[] #[.pointer (some ⟨R + 1 + 1, 0, none⟩)], .int .i64 x.1.1, .int .i64 x.1.2, undef, undef, undef, undef, undef, undef, undef, undef, undef, undef, undef, undef, undef, undef, undef, undef, undef], defers := [] }
set_option maxRecDepth 100000 in
set_option maxHeartbeats 4000000 in
theorem tell_any (p b n : Nat) (s : Int → Mon) (r t : Int) (all : Bool) (hx : fit64 r) (w : World) (h : LS w p b n s) (hn : n < 4398046511104) :
    Calls Try.prog 22 #[.pointer (some ⟨p, 0, none⟩), .int .i64 r, .int .i64 t, .bool all] w fun e w' => ∃ A c, e = .returned (.tuple #[.slice A (tellO (s r) t all).length c, .int .i64 (ownE (s r) t)]) ∧ ReadsZ w' w'.heap.size A (tellO (s r) t all) ∧ (tellO (s r) t all).length ≤ c ∧ c ≤ maxLen ∧
      LS w' p b (n + 1) (tellS s r t all) ∧ w.grownBy w' (some b) := by
  have hW := b0 w (.cells #[.bool all] 4)
  have hown := Lib.hid (owned_any p b n s r t hx _ (h.below hW))
  have hmb := h.bd r
  have hBa := Blk.new w 4 #[.bool all]
  refine (callsIn_wide (n := 3)).1 ?_
  refine callsIn_of_wp_marks Try.func22 rfl trivial ?_ rfl
  simp only [Try.ntmps22, List.size_toArray, List.length_cons, List.length_nil, Nat.reduceAdd, Nat.reduceSub, Array.replicate_succ, Array.replicate_zero, List.push_toArray, List.append_toArray, List.nil_append, List.cons_append]
  by_cases he : ownE (s r) t = 0
  · rw [he] at hown
    unfold Mon.v at hown
    generalize hsr : s r = m at *
    obtain ⟨own, cnt, row⟩ := m
    obtain ⟨hb1, hb2, hb3⟩ := hmb
    dsimp only at hown hb1 hb2 hb3
    replace hsr := Lib.hid hsr
    replace he := Lib.hid he
    gi_wp2_with fail
    refine ⟨trivial, (callsIn_wide.2 hown.out).mono ?_⟩
    rintro _ w1 ⟨A, c, rfl, hr, hlc, hmc, hkt, hbw⟩
    have hWm := ba hbw (.cells #[.int .i64 own, .int .i64 cnt, .slice A row.length c] 95)
    have hRm := Lib.hid (Reads.more (Reads.below hr hWm) hWm.size)
    gi_wp2_with (first
      | (gi_at_builtin
         refine wpListIn_appK (w1.alloc (.cells #[.int .i64 own, .int .i64 cnt, .slice A row.length c] 95)) rfl (.const (.slice none 0 0)) (.tmp 27) rfl (w1.heap.size + 1) (.slice none 0 0) [] rfl (OwnK.nil _ _) (w1.alloc (.cells #[.int .i64 own, .int .i64 cnt, .slice A row.length c] 95)).heap.size A row.length c row rfl hRm.out rfl
           row row.length rfl rfl (by omega) (by simp) ?_
         intro A2 c2 w2 hown2 hg2 hb2 hat2
         have hBm2 : Blk w2 w1.heap.size 95 #[.int .i64 own, .int .i64 cnt, .slice A row.length c] := (Blk.new w1 95 #[.int .i64 own, .int .i64 cnt, .slice A row.length c]).grown hg2 (by simp [Value.ownBlock])
         have hBm3 : Blk ((w2.alloc (.cells #[.slice A2 row.length c2] 93)).alloc (.cells #[.slice none 0 0] 38)) w1.heap.size 95 #[.int .i64 own, .int .i64 cnt, .slice A row.length c] := (hBm2.alloc _).alloc _
         have d0 : ((w2.alloc (.cells #[.slice A2 row.length c2] 93)).alloc (.cells #[.slice none 0 0] 38)).cell? ⟨w1.heap.size, 0, none⟩ = some (.int .i64 own) := hBm3.cell 0
         have d1 : ((w2.alloc (.cells #[.slice A2 row.length c2] 93)).alloc (.cells #[.slice none 0 0] 38)).cell? ⟨w1.heap.size, 1, none⟩ = some (.int .i64 cnt) := hBm3.cell 1
         have d2 : ((w2.alloc (.cells #[.slice A2 row.length c2] 93)).alloc (.cells #[.slice none 0 0] 38)).cell? ⟨w1.heap.size, 2, none⟩ = some (.slice A row.length c) := hBm3.cell 2))
    refine ⟨trivial, (callsIn_wide.2 (waiting_any own cnt row A c _)).mono ?_⟩
    rintro _ w3 ⟨rfl, rfl⟩
    gi_wp2_with fail
    have hgk := hown2.lt
    have hWb := ((hWm.trans (hb2.mono (by simp; have := hbw.size; simp at this; omega))).alloc (by have := hb2.size; have := hbw.size; simp at *; omega) (.cells #[.slice A2 row.length c2] 93)).alloc (by have := hb2.size; have := hbw.size; simp at *; omega) (.cells #[.slice none 0 0] 38)
    obtain ⟨W0, hW0⟩ : ∃ W0, ((w2.alloc (.cells #[.slice A2 row.length c2] 93)).alloc (.cells #[.slice none 0 0] 38)).alloc (.cells #[.int .i64 own, .int .i64 cnt, .slice A row.length c] 95) = W0 := ⟨_, rfl⟩
    have hsz : W0.heap.size = w2.heap.size + 3 := by rw [← hW0]; simp
    have hs2 : w1.heap.size + 1 ≤ w2.heap.size := by have := hb2.size; simpa using this
    have hs1 : w.heap.size + 1 ≤ w1.heap.size := by have := hbw.size; simpa using this
    have hB0 : Below w.heap.size w W0 := by
      rw [← hW0]
      exact hW.trans ((hWb.alloc (by simp; omega) _).mono hW.size)
    have hWr : Below (w.alloc (.cells #[.bool all] 4)).heap.size (w.alloc (.cells #[.bool all] 4)) W0 := by
      rw [← hW0]
      exact hWb.alloc (by simp; omega) _
    have hsA : (w.alloc (.cells #[.bool all] 4)).heap.size = w.heap.size + 1 := by simp
    have kR : Blk W0 w2.heap.size 93 #[.slice A2 row.length c2] := by
      rw [← hW0]
      exact ((Blk.new w2 93 #[.slice A2 row.length c2]).alloc _).alloc _
    have kO : Blk W0 (w2.heap.size + 1) 38 #[.slice none 0 0] := by
      rw [← hW0]
      have := (Blk.new (w2.alloc (.cells #[.slice A2 row.length c2] 93)) 38 #[.slice none 0 0]).alloc (.cells #[.int .i64 own, .int .i64 cnt, .slice A row.length c] 95)
      simpa using this
    have kC : Blk W0 (w2.heap.size + 2) 95 #[.int .i64 own, .int .i64 cnt, .slice A row.length c] := by
      rw [← hW0]
      have := Blk.new ((w2.alloc (.cells #[.slice A2 row.length c2] 93)).alloc (.cells #[.slice none 0 0] 38)) 95 #[.int .i64 own, .int .i64 cnt, .slice A row.length c]
      simpa using this
    have kM : Blk W0 w1.heap.size 95 #[.int .i64 own, .int .i64 cnt, .slice A row.length c] := by
      rw [← hW0]
      exact hBm3.alloc _
    have hBa1 : Blk w1 w.heap.size 4 #[.bool all] := hBa.below hbw hBa.lt
    have kA : Blk W0 w.heap.size 4 #[.bool all] := by
      rw [← hW0]
      exact ((((hBa1.alloc _).grown hg2 (by simp [Value.ownBlock])).alloc _).alloc _).alloc _
    have kK : OwnK W0 (w1.heap.size + 1) (.slice A2 row.length c2) row := by
      rw [← hW0]
      exact ((hown2.alloc _).alloc _).alloc _
    have hG0 : ∀ k, WsG (fun k => (Value.slice A2 row.length c2).ownBlock = some k) (w2.heap.size + 1) W0 k → w1.heap.size + 1 ≤ k ∧ k < w2.heap.size + 2 ∧ k ≠ w2.heap.size := fun k hk => by
      rcases hk with h | h | ⟨v, hv, ho⟩
      · have := hgk k h; omega
      · omega
      · unfold Blk at hv kO
        rw [kO] at hv
        simp only [Option.some.injEq, Obj.cells.injEq, and_true, List.cons.injEq, Array.mk.injEq] at hv
        subst hv
        simp [Value.ownBlock] at ho
    rw [hW0]
    clear hW0 hWb hBm3 hBm2 hBa1 d0 d1 d2
    have hGr0 : ∀ k, WsG (fun k => (Value.slice A2 row.length c2).ownBlock = some k) (w2.heap.size + 1) W0 k → k < W0.heap.size := fun k hk => by have := hG0 k hk; omega
    refine wpIn_rangeFunc_ownH (α := Pl row) (F := Fence.wide) (n := 3) rfl (by decide) (gf := 54) (lb := #[.pointer (some ⟨w2.heap.size + 1 + 1, 0, none⟩)]) rfl trivial (enters_of Try.func54 (by kernel_rfl) rfl)
      (encs := encT) (Kp := Kept (WsG (fun k => (Value.slice A2 row.length c2).ownBlock = some k) (w2.heap.size + 1))) (S := fun ys => ys.map (·.1) = wsF 0 row) (Sp := fun pre => pre.map (·.1) <+: wsF 0 row) (N := row.length) (w0 := W0)
      (fun l J Jx W hW hJ _ hY h0 => waiting1s_in 2 (by decide) (WsG (fun k => (Value.slice A2 row.length c2).ownBlock = some k) (w2.heap.size + 1)) (wsG_told _ _) l (w2.heap.size + 1 + 1) (w.alloc (.cells #[.bool all] 4)).heap.size own cnt A c row (by omega) J Jx hY W hJ (kC.below hW kC.lt)
        (fun h => by have := hG0 _ ((wsG_told _ _).below hGr0 hW _ h); omega) (Reads.below hr (hWr.trans (hW.mono (by omega)))) (by have := hW.size; omega)
        (fun j hj h => by have := hG0 _ ((wsG_told _ _).below hGr0 hW _ h); omega) (fun k h => by have := hG0 _ ((wsG_told _ _).below hGr0 hW _ h); have := hW.size; omega) h0)
      Kept.trans (fun W l o o' hl ho hcl _ => wsG_put o' (fun k hk => by have := hgk k hk; omega) (by omega) ho hcl) (Below.refl _ _) (fun _ => rfl)
      (fun pre W => TlI w w.heap.size w1.heap.size w2.heap.size all own cnt row A c A2 c2 pre W ∧ (all = false → pre = [])) (TlX w w.heap.size w1.heap.size w2.heap.size all own cnt row A c A2 c2) (fun s W W' row' hs hg hr => ⟨tlI_own w _ _ _ all own cnt row A c A2 c2 _ (by omega) s W W' row' hs.1 hg hr, hs.2⟩)
      (fun cd s W W' row' hs hg hr => ⟨hs.1, hs.2.1, hs.2.2.1, tlI_own w _ _ _ all own cnt row A c A2 c2 _ (by omega) s W W' row' hs.2.2.2 hg hr⟩) ⟨⟨kA, kM, kR, kK, ⟨_, kO, OwnZ.nil _ _⟩, hB0⟩, fun _ => rfl⟩ (TlA w.heap.size w1.heap.size w2.heap.size p r t all own cnt row A c A2 c2)
      (fun x a' _ X Y row' hs hg hrow => hs) ?assign ?body ?done ?stop
    case assign =>
      rintro l pre x W K ⟨⟨h0, h1, h2, h3, ⟨v, hv, ho⟩, hB⟩, hp⟩ hK
      have hvl := hv.lt
      unfold encT
      gi_wp2
      exact hK _ _ ((KeepsOthers.refl _).from _) (wsG_below hvl (Below.refl _ _)) ⟨⟨h0, h1, h2, h3, ⟨v, hv, ho⟩, hB⟩, hp⟩ rfl
    case body =>
      rintro l pre x a' W hl ⟨r', hrl⟩ ⟨⟨h0, h1, h2, h3, ⟨v, hv, ho⟩, hB⟩, hp⟩ rfl hlt
      obtain ⟨A4, c4, rfl, hlc4, hmx4, hrd4⟩ := own_form ho
      rw [List.length_map] at hv ho
      have hxl : x.1.1 < (markT row (pre.map (·.1))).length := by rw [markT_len]; exact x.2
      obtain ⟨k, hk⟩ := kp_at hxl
      obtain ⟨g, rfl, hgl, hfz, hcl, hset⟩ := OwnK.blk h3 hk
      have hgb := hgk g rfl
      have e2 : W.cell? ⟨w2.heap.size, 0, none⟩ = some (.slice (some ⟨g, 0, none⟩) row.length c2) := h2.cell 0
      have hx2 := x.2
      obtain ⟨u, hu⟩ := Option.isSome_iff_exists.1 hcl
      clear hcl
      have hne0 : w.heap.size ≠ g := by omega
      have hne1 : w1.heap.size ≠ g := by omega
      have hneR : w2.heap.size ≠ g := by omega
      have hneO : w2.heap.size + 1 ≠ g := by omega
      have p0 := h0.far (p := ⟨g, x.1.1 * 3 + 2, none⟩) hne0 (.bool true)
      have p1 := h1.far (p := ⟨g, x.1.1 * 3 + 2, none⟩) hne1 (.bool true)
      have p2 := h2.far (p := ⟨g, x.1.1 * 3 + 2, none⟩) hneR (.bool true)
      have pO := hv.far (p := ⟨g, x.1.1 * 3 + 2, none⟩) hneO (.bool true)
      have poz : OwnZ (W.setCell ⟨g, x.1.1 * 3 + 2, none⟩ (.bool true)) (w2.heap.size + 1) (.slice A4 pre.length c4) (pre.map (fun x => x.1.2)) := ownsRow_setCell_below ho (a := ⟨g, x.1.1 * 3 + 2, none⟩) (by simp; omega) (.bool true)
      have hk1 : Kept (WsG (fun k => (Value.slice (some ⟨g, 0, none⟩) row.length c2).ownBlock = some k) (w2.heap.size + 1)) W (W.setCell ⟨g, x.1.1 * 3 + 2, none⟩ (.bool true)) := wsG_cell (by rfl) hneO _ _
      have hB1 := hB.setCell (p := ⟨g, x.1.1 * 3 + 2, none⟩) (by simp; omega) (.bool true)
      have hko1 : KeepsOthers W (W.setCell ⟨g, x.1.1 * 3 + 2, none⟩ (.bool true)) := KeepsOthers.setCell W ⟨g, x.1.1 * 3 + 2, none⟩ (.bool true)
      have e3 : (W.setCell ⟨g, x.1.1 * 3 + 2, none⟩ (.bool true)).cell? ⟨w2.heap.size + 1, 0, none⟩ = some (.slice A4 pre.length c4) := pO.cell 0
      generalize hW1 : W.setCell ⟨g, x.1.1 * 3 + 2, none⟩ (.bool true) = W1 at *
      have hone := Lib.hid (ReadsZ.one W1 x.1.2)
      have hOa := Lib.hid (OwnZ.alloc poz (.cells #[.int .i64 x.1.2] 3))
      have hgv := own_blk_ne poz pO (by decide)
      have hz1 : pre.map (fun x => x.1.2) ++ [x.1.2] = (pre ++ [x]).map (fun x => x.1.2) := by simp
      have hz2 : ((pre ++ [x]).map (fun x => x.1.2)).length = pre.length + 1 := by simp
      have hz3 : markT row ((pre ++ [x]).map (·.1)) = (markT row (pre.map (·.1))).set x.1.1 ⟨k.t, k.n, true⟩ := by
        rw [List.map_append]
        exact (markT_next _ _ _).trans (by unfold setT; rw [hk])
      rw [← hz3] at hset
      replace hz1 := Lib.hid hz1
      replace hz2 := Lib.hid hz2
      replace hz3 := Lib.hid hz3
      have hBs := hB1.size
      have hOl := pO.lt
      gi_wp2_with (first
        | (gi_at_builtin
           refine wpListIn_appZ (W1.alloc (.cells #[.int .i64 x.1.2] 3)) rfl (.tmp 37) (.tmp 39) rfl (w2.heap.size + 1) (.slice A4 pre.length c4) (pre.map (fun x => x.1.2)) rfl hOa.out (W1.heap.size + 1) (some ⟨W1.heap.size, 0, none⟩) 1 1 [x.1.2] rfl hone.out rfl
             ((pre ++ [x]).map (fun x => x.1.2)) (pre.length + 1) hz1.out hz2.out (by omega) (by simp; omega) ?_
           intro A3 c3 w3 hown3 hg3 hb3 hat3
           have hB3 : Blk w3 (w2.heap.size + 1) 38 #[.slice A4 pre.length c4] := (pO.alloc _).grown hg3 hgv.symm
           have c03 : w3.cell? ⟨w2.heap.size + 1, 0, none⟩ = some (.slice A4 pre.length c4) := hB3.cell 0
           have f03 : w3.frozen? ⟨w2.heap.size + 1, 0, none⟩ = false := hB3.frozen 0
           have q0 := own_blk_ne poz p0 (by decide)
           have hH3 : Blk w3 w.heap.size 4 #[.bool all] := (p0.alloc _).grown hg3 q0.symm
           have cH3 : w3.cell? ⟨w.heap.size, 0, none⟩ = some (.bool all) := hH3.cell 0))
      all_goals
        have hin3 : ∀ k, (Value.slice A3 (pre.length + 1) c3).ownBlock = some k → k < w3.heap.size := fun k hk => (hown3.lt k hk).2
        have hkp := hk1.trans (wsG_push (Fx := fun k => (Value.slice (some ⟨g, 0, none⟩) row.length c2).ownBlock = some k) pO hg3 hgv hat3 hin3)
        have hKF : KeepsFrom (w2.heap.size + 3) W (w3.setCell ⟨w2.heap.size + 1, 0, none⟩ (.slice A3 (pre.length + 1) c3)) := by
          refine (((hko1.trans (KeepsOthers.alloc W1 (.cells #[.int .i64 x.1.2] 3))).trans (KeepsOthers.of_grownBy hg3 fun j o ej hj => ?_)).trans (KeepsOthers.setCell _ _ _)).from _
          rcases (World.ownsRow.alloc poz (.cells #[.int .i64 x.1.2] 3)).2 with ⟨hn', _⟩ | ⟨g', cap, cur, hn', _, hgb', _⟩
          · rw [hn'] at ej
            simp [Value.ownBlock] at ej
          · rw [hn'] at ej
            obtain rfl : g' = j := by simpa [Value.ownBlock] using ej
            rw [hgb'] at hj
            cases hj
            rfl
        have q1 := own_blk_ne poz p1 (by decide)
        have q2 := own_blk_ne poz p2 (by decide)
        have qk : (Value.slice (some ⟨g, 0, none⟩) row.length c2).ownBlock ≠ (Value.slice A4 pre.length c4).ownBlock := fun e => by
          have := (poz.lt g (e.symm.trans rfl)).1
          omega
        have hK3 : OwnK w3 (w1.heap.size + 1) (.slice (some ⟨g, 0, none⟩) row.length c2) (markT row ((pre ++ [x]).map (·.1))) := World.ownsRow.kept (OwnK.alloc hset _) hg3 (.inr qk)
        have hTI : TlI w w.heap.size w1.heap.size w2.heap.size all own cnt row A c (some ⟨g, 0, none⟩) c2 (pre ++ [x]) (w3.setCell ⟨w2.heap.size + 1, 0, none⟩ (.slice A3 (pre.length + 1) c3)) :=
          ⟨hH3.far (p := ⟨w2.heap.size + 1, 0, none⟩) (by simp; omega) _, ((p1.alloc _).grown hg3 q1.symm).far (p := ⟨w2.heap.size + 1, 0, none⟩) (by simp; omega) _, ((p2.alloc _).grown hg3 q2.symm).far (p := ⟨w2.heap.size + 1, 0, none⟩) (by simp) _,
            ownK_setCell hK3 hB3 (by decide) _, ⟨_, (hB3.set_ 0 _ : Blk _ _ _ _), by
              rw [← hz1.out] at hown3 ⊢
              exact ownZ_setCell hown3 hB3 (by decide) _⟩, ((hB1.alloc hBs _).trans (hb3.mono (by omega))).setCell (p := ⟨w2.heap.size + 1, 0, none⟩) (by simp; omega) _⟩
      · have hal : all = false := by first | assumption | (simp_all; done)
        have hpre := hp hal
        exact ⟨hKF, rfl, hal, by rw [hpre]; rfl, hTI⟩
      · have hal : all = true := by first | assumption | (simp_all; done)
        exact ⟨hKF, hkp, hTI, fun e => by rw [hal] at e; cases e⟩
    case done =>
      rintro D ys W hD hys ⟨⟨h0, h1, h2, h3, ⟨v, hv, ho⟩, hB⟩, hp⟩ hK
      have hPs : tellP all row = ys.map (·.1) := by
        unfold tellP
        rw [hys]
        cases hal : all with
        | true => rfl
        | false => rw [← hys, hp hal]; rfl
      obtain ⟨A4, c4, rfl, hlc4, hmx4, hrd4⟩ := own_form ho
      rw [List.length_map] at hv ho hlc4
      have m0 : W.cell? ⟨w1.heap.size, 0, none⟩ = some (.int .i64 own) := h1.cell 0
      have m1 : W.cell? ⟨w1.heap.size, 1, none⟩ = some (.int .i64 cnt) := h1.cell 1
      have m2 : W.cell? ⟨w1.heap.size, 2, none⟩ = some (.slice A row.length c) := h1.cell 2
      have mf2 := h1.frozen 2
      have eR : W.cell? ⟨w2.heap.size, 0, none⟩ = some (.slice A2 row.length c2) := h2.cell 0
      have hq5 := hB.setCell (p := ⟨w1.heap.size, 2, none⟩) (by simp; omega) (.slice A2 row.length c2)
      have ho5 := ownK_setCell (i := 2) h3 h1 (by decide) (.slice A2 row.length c2)
      have hlm : (markT row (ys.map (·.1))).length = row.length := markT_len _ _
      have hcp := ho5.cap
      have hset := set_any p b n s r hx own cnt (markT row (ys.map (·.1))) A2 c2 _ (h.below hq5) ⟨by dsimp only; omega, by dsimp only; rw [hlm]; omega, fun k hk => by
        obtain ⟨k', hk', e⟩ := markT_kept _ _ k hk
        have := hb3 k' hk'
        omega⟩ ho5.reads (by rw [hlm] at hcp ⊢; exact hcp.1) hcp.2 ho5.ty (by omega)
      rw [hlm] at hset
      replace hset := Lib.hid hset
      gi_wp2_with fail
      refine ⟨trivial, (callsIn_wide.2 hset.out).mono ?_⟩
      rintro _ w5 ⟨rfl, hL, hg5⟩
      have hbl : b < w.heap.size := by
        obtain ⟨⟨f, hM, _⟩, _, _⟩ := h
        exact hM.lt
      have hvO : Blk w5 (w2.heap.size + 1) 38 #[.slice A4 ys.length c4] := (hv.far (p := ⟨w1.heap.size, 2, none⟩) (by simp; omega) _).grown hg5 (by simp; omega)
      have eO : w5.cell? ⟨w2.heap.size + 1, 0, none⟩ = some (.slice A4 ys.length c4) := hvO.cell 0
      have ho6 : OwnZ w5 (w2.heap.size + 1) (.slice A4 ys.length c4) (ys.map (fun x => x.1.2)) := World.ownsRow.kept (ownZ_setCell (i := 2) ho h1 (by decide) _) hg5 (.inr (fun e => by have := (ho.lt b e).1; omega))
      have hK5 : w5.heap[D]? = some _ := (hg5.block D (by have := (Array.getElem?_eq_some_iff.1 hK).1; simpa [World.setCell] using this) (by simp; omega)).trans ((Below.heap_setCell W ⟨w1.heap.size, 2, none⟩ _ D (by simp; omega)).trans hK)
      gi_wp2_with fail
      refine ⟨by simp, .inl ⟨_, _, rfl, run_takeDeferred hK5, ?_⟩⟩
      have hgD := grownBy_putObj' w5 D (.deferred none)
      have hO : tellO (s r) t all = ys.map (fun x => x.1.2) := by
        rw [hsr.out]
        unfold tellO
        rw [if_pos he.out, hPs, List.map_map]
        rfl
      have hE : ownE (s r) t = 0 := by rw [hsr.out]; exact he.out
      have hS : tellS s r t all = setS s r ⟨own, cnt, markT row (ys.map (·.1))⟩ := by
        unfold tellS
        rw [if_pos hE, hsr.out, hPs]
      rw [hsr.out] at hO hE
      refine ⟨.tuple #[.slice A4 ys.length c4, .int .i64 0], by simp [results, Try.results22, go_sem], A4, c4, ?_, ?_, ?_, hmx4, ?_, ?_⟩
      · rw [hO, hE, List.length_map]
      · rw [hO]; exact OwnZ.reads (ownsRow_putObj ho6 (.deferred none) hK5 rfl)
      · rw [hO, List.length_map]; exact hlc4
      · rw [hS]
        exact hL.put hK5 rfl (by omega) _
      · exact only_then (only_trans (only_of_below hq5 _) hg5) hgD (fun g e => by injection e with e; omega)
    case stop =>
      rintro D cd ys W hD hpre ⟨rfl, hal, hlen, h0, h1, h2, h3, ⟨v, hv, ho⟩, hB⟩ hK
      have hPs : tellP all row = ys.map (·.1) := by
        obtain ⟨q, hq⟩ := hpre
        unfold tellP
        rw [hal, if_neg (by decide), ← hq, List.take_append_of_le_length (by rw [List.length_map]; omega), List.take_of_length_le (by rw [List.length_map]; omega)]
      clear hlen
      obtain ⟨A4, c4, rfl, hlc4, hmx4, hrd4⟩ := own_form ho
      rw [List.length_map] at hv ho hlc4
      have m0 : W.cell? ⟨w1.heap.size, 0, none⟩ = some (.int .i64 own) := h1.cell 0
      have m1 : W.cell? ⟨w1.heap.size, 1, none⟩ = some (.int .i64 cnt) := h1.cell 1
      have m2 : W.cell? ⟨w1.heap.size, 2, none⟩ = some (.slice A row.length c) := h1.cell 2
      have mf2 := h1.frozen 2
      have eR : W.cell? ⟨w2.heap.size, 0, none⟩ = some (.slice A2 row.length c2) := h2.cell 0
      have hq5 := hB.setCell (p := ⟨w1.heap.size, 2, none⟩) (by simp; omega) (.slice A2 row.length c2)
      have ho5 := ownK_setCell (i := 2) h3 h1 (by decide) (.slice A2 row.length c2)
      have hlm : (markT row (ys.map (·.1))).length = row.length := markT_len _ _
      have hcp := ho5.cap
      have hset := set_any p b n s r hx own cnt (markT row (ys.map (·.1))) A2 c2 _ (h.below hq5) ⟨by dsimp only; omega, by dsimp only; rw [hlm]; omega, fun k hk => by
        obtain ⟨k', hk', e⟩ := markT_kept _ _ k hk
        have := hb3 k' hk'
        omega⟩ ho5.reads (by rw [hlm] at hcp ⊢; exact hcp.1) hcp.2 ho5.ty (by omega)
      rw [hlm] at hset
      replace hset := Lib.hid hset
      gi_wp2_with fail
      refine ⟨trivial, (callsIn_wide.2 hset.out).mono ?_⟩
      rintro _ w5 ⟨rfl, hL, hg5⟩
      have hbl : b < w.heap.size := by
        obtain ⟨⟨f, hM, _⟩, _, _⟩ := h
        exact hM.lt
      have hvO : Blk w5 (w2.heap.size + 1) 38 #[.slice A4 ys.length c4] := (hv.far (p := ⟨w1.heap.size, 2, none⟩) (by simp; omega) _).grown hg5 (by simp; omega)
      have eO : w5.cell? ⟨w2.heap.size + 1, 0, none⟩ = some (.slice A4 ys.length c4) := hvO.cell 0
      have ho6 : OwnZ w5 (w2.heap.size + 1) (.slice A4 ys.length c4) (ys.map (fun x => x.1.2)) := World.ownsRow.kept (ownZ_setCell (i := 2) ho h1 (by decide) _) hg5 (.inr (fun e => by have := (ho.lt b e).1; omega))
      have hK5 : w5.heap[D]? = some _ := (hg5.block D (by have := (Array.getElem?_eq_some_iff.1 hK).1; simpa [World.setCell] using this) (by simp; omega)).trans ((Below.heap_setCell W ⟨w1.heap.size, 2, none⟩ _ D (by simp; omega)).trans hK)
      gi_wp2_with fail
      refine ⟨by simp, .inl ⟨_, _, rfl, run_takeDeferred hK5, ?_⟩⟩
      have hgD := grownBy_putObj' w5 D (.deferred none)
      have hO : tellO (s r) t all = ys.map (fun x => x.1.2) := by
        rw [hsr.out]
        unfold tellO
        rw [if_pos he.out, hPs, List.map_map]
        rfl
      have hE : ownE (s r) t = 0 := by rw [hsr.out]; exact he.out
      have hS : tellS s r t all = setS s r ⟨own, cnt, markT row (ys.map (·.1))⟩ := by
        unfold tellS
        rw [if_pos hE, hsr.out, hPs]
      rw [hsr.out] at hO hE
      refine ⟨.tuple #[.slice A4 ys.length c4, .int .i64 0], by simp [results, Try.results22, go_sem], A4, c4, ?_, ?_, ?_, hmx4, ?_, ?_⟩
      · rw [hO, hE, List.length_map]
      · rw [hO]; exact OwnZ.reads (ownsRow_putObj ho6 (.deferred none) hK5 rfl)
      · rw [hO, List.length_map]; exact hlc4
      · rw [hS]
        exact hL.put hK5 rfl (by omega) _
      · exact only_then (only_trans (only_of_below hq5 _) hg5) hgD (fun g e => by injection e with e; omega)
  · generalize hcode : ownE (s r) t = code at *
    have hO : tellO (s r) t all = [] := by unfold tellO; rw [hcode, if_neg he]
    have hS : tellS s r t all = s := by unfold tellS; rw [hcode, if_neg he]
    replace hcode := Lib.hid hcode
    have b1 : decide (code = 0) = false := by simpa using he
    have b2 : (code != 0) = true := by simpa using he
    unfold Mon.v at hown
    replace hO := Lib.hid hO
    replace hS := Lib.hid hS
    generalize hsr : s r = m at *
    obtain ⟨own, cnt, row⟩ := m
    dsimp only at hown
    replace hsr := Lib.hid hsr
    gi_wp2_with fail
    refine ⟨trivial, (callsIn_wide.2 hown.out).mono ?_⟩
    rintro _ w1 ⟨A, c, rfl, hr, hlc, hmc, hkt, hbw⟩
    gi_wp2_with fail
    have hWf := hW.trans ((ba hbw (.cells #[.int .i64 own, .int .i64 cnt, .slice A row.length c] 95)).mono hW.size)
    refine ⟨.tuple #[.slice none 0 0, .int .i64 code], by simp [results, Try.results22, go_sem], none, 0, ?_, ?_, ?_, Nat.zero_le _, ?_, ?_⟩
    · rw [hO.out]; rfl
    · rw [hO.out]; exact Reads.none_
    · rw [hO.out]; exact Nat.le_refl _
    · rw [hS.out]; exact (h.below hWf).more (Nat.le_succ _)
    · exact only_of_below hWf _
end Go.Proofs.Ytpfgdgelnehjpaa
