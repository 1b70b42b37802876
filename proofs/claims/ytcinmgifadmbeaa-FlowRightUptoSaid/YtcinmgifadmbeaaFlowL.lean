/- flow.List: the instructions of a code. -/
import Derived.Test.YtcinmgifadmbeaaFlow
namespace Go.Proofs.Ytcinmgifadmbeaa
open Go.RowKit Go.Shelf
set_option linter.unusedVariables false
attribute [local go_sem] Oper.semAt_some

/-- The number of what is wrong with a code; its instructions. -/
noncomputable def listE (bs : List Int) : Int := match (walkAt bs 0).getLast? with | some x => x.2 | none => 0
noncomputable def listL (bs : List Int) : List Ins := if listE bs = 0 then (walkAt bs 0).map (·.1) else []
theorem walk_bad {bs : List Int} : ∀ (n k : Nat) (p : List (Ins × Int)) (x : Ins × Int), bs.length - k ≤ n → p ++ [x] <+: walkAt bs k → ¬ x.2 = 0 → walkAt bs k = p ++ [x] := by
  intro n
  induction n with
  | zero =>
    intro k p x hn hp hx
    rw [walkAt_end (by omega)] at hp
    have := List.IsPrefix.length_le hp
    simp at this
  | succ n ih =>
    intro k p x hn hp hx
    by_cases hk : k < bs.length
    · by_cases h0 : decC bs k = 0
      · rw [walkAt_go hk h0] at hp ⊢
        cases p with
        | nil =>
          obtain ⟨r, hr⟩ := hp
          simp only [List.nil_append, List.cons_append, List.cons.injEq] at hr
          rw [hr.1] at hx
          exact absurd rfl hx
        | cons y p =>
          obtain ⟨r, hr⟩ := hp
          simp only [List.cons_append, List.cons.injEq] at hr
          have hs := (szAt_bd bs k).1
          rw [ih (k + szAt bs k) p x (by omega) ⟨r, by simpa using hr.2⟩ hx, hr.1]
          rfl
      · rw [walkAt_no hk h0] at hp ⊢
        cases p with
        | nil =>
          obtain ⟨r, hr⟩ := hp
          simp only [List.nil_append, List.cons_append, List.cons.injEq] at hr
          rw [hr.1]
          rfl
        | cons y p =>
          have := List.IsPrefix.length_le hp
          simp at this
    · rw [walkAt_end hk] at hp
      have := List.IsPrefix.length_le hp
      simp at this
theorem list_bad {bs : List Int} {p : List (Ins × Int)} {x : Ins × Int} (hp : p ++ [x] <+: walkAt bs 0) (hx : ¬ x.2 = 0) : listE bs = x.2 ∧ listL bs = [] := by
  have h := walk_bad (bs.length - 0) 0 p x (Nat.le_refl _) hp hx
  have e : listE bs = x.2 := by unfold listE; rw [h, List.getLast?_concat]
  exact ⟨e, by unfold listL; rw [if_neg (by rw [e]; exact hx)]⟩
theorem list_good {bs : List Int} (h : ∀ x ∈ walkAt bs 0, x.2 = 0) : listE bs = 0 ∧ listL bs = (walkAt bs 0).map (·.1) := by
  have e : listE bs = 0 := by
    unfold listE
    cases hl : (walkAt bs 0).getLast? with
    | none => rfl
    | some x => exact h x (List.mem_of_getLast? hl)
  exact ⟨e, by unfold listL; rw [if_pos e]⟩
/-- What a call that lists a code comes to. -/
def LsPost (w : World) (bs : List Int) (e : Ending) (w' : World) : Prop :=
  ∃ A c, e = .returned (.tuple #[.slice A (listL bs).length c, .int .i64 (listE bs)]) ∧ ReadsI w' w'.heap.size A (listL bs) ∧ (listL bs).length ≤ c ∧ c ≤ maxLen ∧ Below w.heap.size w w'

theorem wpListIn_appI {F : Fence} {n : Nat} {ops : Array Oper} {rest : List Oper} {o : Oper} {a : Act} {Q : Exit → Act → World → Prop} (w : World) (hgd : o.guard = none) (s x : Operand)
    (ho : o.op = .call { callee := .builtin .append, args := #[s, x], argTypes := #[43, 43] })
    (base : Nat) (v : Value) (xs : List Ins) (hs : a.eval s = v) (hown : OwnI w base v xs)
    (B : Nat) (A : Option Addr) (m c : Nat) (ys : List Ins) (hx : a.eval x = .slice A m c) (hr : ReadsI w B A ys) (hm : m = ys.length)
    (zs : List Ins) (n' : Nat) (hz : xs ++ ys = zs) (hn : zs.length = n')
    (hb : n' ≤ 3518437208883) (hbase : base ≤ w.heap.size)
    (h : ∀ A' c' w', OwnI w' base (.slice A' n' c') zs → w.grownBy w' v.ownBlock → Below base w w' →
      ((Value.slice A' n' c').ownBlock = v.ownBlock ∨ (Value.slice A' n' c').ownBlock = some w.heap.size) → wpListIn F n Try.prog ops Q rest (a.put o.dst (.slice A' n' c')) w') : wpListIn F n Try.prog ops Q (o :: rest) a w := by
  subst hm
  subst hz
  rw [List.length_append] at hn
  subst hn
  obtain ⟨i0, hi0, hz0, hz1, hz2⟩ := info_parts infoI
  obtain ⟨A', c', w', hrun, h2, h3, h4⟩ := run_append_any (P := Try.prog) w base 43 o.type 28 i0 _ 5 40 Try.underlying43 hi0 hz0 hz1 hz2 rfl (by omega) v xs.length (cellsI xs) hown B A ys.length c (cellsI ys) hr (cellsI_one ys) (by unfold maxLen; omega) (by omega) hbase
  refine wpListIn_plain hgd fun K hK' => ?_
  unfold Oper.wpIn
  refine ⟨?_, ?_⟩
  · simp [Oper.about, ho, resolve, Target.leads, Sem.run_pure]
  · rw [Oper.semAt_plain F _ _ (by rw [ho]; intro c hc'; cases hc')]
    simp [execOp, ho, resolve, invoke, builtin, hs, hx, hrun, Result.andThen]
    refine hK' _ _ (h A' c' w' ?_ h3 (own_grown_below hown h3 hbase) h4)
    unfold OwnI
    rw [List.length_append, cellsI_append]
    exact h2

/-- The blocks that List's rounds may turn. -/
def LsG (H : Nat) (W : World) (k : Nat) : Prop := k = H ∨ k = H + 1 ∨ k = H + 2 ∨ ∃ v, Blk W (H + 2) 43 #[v] ∧ v.ownBlock = some k
theorem lsG_told (H : Nat) : Told (LsG H) := ⟨fun {W W'} hr hb k hk => by
  have h2 := hr (H + 2) (.inr (.inr (.inl rfl)))
  rcases hk with h | h | h | ⟨v, hv, ho⟩
  · exact .inl h
  · exact .inr (.inl h)
  · exact .inr (.inr (.inl h))
  · exact .inr (.inr (.inr ⟨v, (hb.block _ h2).symm.trans hv, ho⟩))⟩
/-- Between two rounds. -/
def LsI (w : World) (A : Option Addr) (n c : Nat) (pre : List (Ins × Int)) (W : World) : Prop :=
  (∃ v, Blk W (w.heap.size + 2) 43 #[v] ∧ OwnI W w.heap.size v (pre.map (·.1))) ∧ Blk W w.heap.size 43 #[.slice none 0 0] ∧ Blk W (w.heap.size + 1) 32 #[.int .i64 0] ∧ Blk W (w.heap.size + 3) 31 #[.slice A n c] ∧ Below w.heap.size w W ∧ ∀ x ∈ pre, x.2 = 0
/-- A round has left. -/
def LsX (w : World) (cd : Code) (pre : List (Ins × Int)) (W : World) : Prop :=
  cd = .ret ∧ (∃ p x, pre = p ++ [x] ∧ ¬ x.2 = 0 ∧ Blk W w.heap.size 43 #[.slice none 0 0] ∧ Blk W (w.heap.size + 1) 32 #[.int .i64 x.2]) ∧ Below w.heap.size w W
theorem blk_own {B : Nat} {W W' : World} {row : Option Nat} {g : Nat} {t : TypeId} {cs : Array Value} (h : Blk W g t cs) (hg : W.grownBy W' row) (hr : ∀ r, row = some r → B ≤ r ∧ ∃ o : Obj, W.heap[r]? = some o ∧ o.isCells = false) : Blk W' g t cs :=
  h.grown hg (fun e => by
    obtain ⟨_, o, ho, hc⟩ := hr g e.symm
    unfold Blk at h
    rw [h] at ho
    injection ho with ho
    subst ho
    cases hc)
theorem lsI_own (w : World) (A : Option Addr) (n c B : Nat) (hB : w.heap.size ≤ B) : OwnFrom B (LsI w A n c) := fun s W W' row hs hg hr => by
  obtain ⟨⟨v, hv, ho⟩, h0, h1, h3, hb, hz⟩ := hs
  refine ⟨⟨v, blk_own hv hg hr, World.ownsRow.kept ho hg ?_⟩, blk_own h0 hg hr, blk_own h1 hg hr, blk_own h3 hg hr, hb.grown hg hb.size (fun k e => Nat.le_trans hB (hr k e).1), hz⟩
  rcases ho.2 with ⟨rfl, _⟩ | ⟨g, cap, cur, rfl, _, hgb, _⟩
  · exact .inl rfl
  · refine .inr fun e => ?_
    obtain ⟨_, o, ho', hc⟩ := hr g e.symm
    rw [hgb] at ho'
    injection ho' with ho'
    subst ho'
    cases hc
theorem lsX_own (w : World) (B : Nat) (hB : w.heap.size ≤ B) (cd : Code) : OwnFrom B (LsX w cd) := fun s W W' row hs hg hr => by
  obtain ⟨h, ⟨p, x, e, hx, h0, h1⟩, hb⟩ := hs
  exact ⟨h, ⟨p, x, e, hx, blk_own h0 hg hr, blk_own h1 hg hr⟩, hb.grown hg hb.size (fun k e => Nat.le_trans hB (hr k e).1)⟩

theorem lsG_put {H l : Nat} {W : World} {o : Obj} (o' : Obj) (hl : H + 2 < l) (ho : W.heap[l]? = some o) (hc : o.isCells = false) : Kept (LsG H) W (W.putObj l o') := by
  have hg := grownBy_putObj' W l o'
  refine ⟨hg.size, fun k q hk hq _ => ?_, fun k hk hG => ?_, fun hr k hG => ?_⟩
  · refine (hg.block k (Array.getElem?_eq_some_iff.1 hk).1 (fun e => ?_)).trans hk
    injection e with e
    subst e
    rw [ho] at hk
    injection hk with hk
    subst hk
    rw [hc] at hq
    cases hq
  · rcases hG with h | h | h | ⟨v, hv, hv'⟩
    · exact .inl h
    · exact .inr (.inl h)
    · exact .inr (.inr (.inl h))
    · refine .inr (.inr (.inr ⟨v, ?_, hv'⟩))
      unfold Blk at hv ⊢
      rw [← hv]
      exact (hg.block (H + 2) (by have := (Array.getElem?_eq_some_iff.1 ho).1; omega) (fun e => by injection e with e; omega)).symm
  · have hs := hg.size
    have hlt := (Array.getElem?_eq_some_iff.1 ho).1
    rcases hG with h | h | h | ⟨v, hv, hv'⟩
    · omega
    · omega
    · omega
    · have := hr k (.inr (.inr (.inr ⟨v, by
        unfold Blk at hv ⊢
        rw [← hv]
        exact (hg.block (H + 2) (by omega) (fun e => by injection e with e; omega)).symm, hv'⟩)))
      omega
theorem lsG_below {H : Nat} {W W' : World} (hlt : H + 2 < W.heap.size) (hb : Below W.heap.size W W') : Kept (LsG H) W W' := by
  have hback : ∀ k, LsG H W' k → LsG H W k := fun k hk => by
    rcases hk with h | h | h | ⟨v, hv, ho⟩
    · exact .inl h
    · exact .inr (.inl h)
    · exact .inr (.inr (.inl h))
    · exact .inr (.inr (.inr ⟨v, (hb.block _ hlt).symm.trans hv, ho⟩))
  exact ⟨hb.size, fun k o hk _ _ => (hb.block k (Array.getElem?_eq_some_iff.1 hk).1).trans hk, fun k _ h => hback k h, fun hr k h => Nat.lt_of_lt_of_le (hr k (hback k h)) hb.size⟩
/-- A round's append and store. -/
theorem lsG_push {H : Nat} {W w1 : World} {A2 A3 : Option Addr} {n2 c2 n3 c3 : Nat} {E : Obj} (hv : Blk W (H + 2) 43 #[.slice A2 n2 c2]) (hg : (W.alloc E).grownBy w1 (Value.slice A2 n2 c2).ownBlock) (hne : (Value.slice A2 n2 c2).ownBlock ≠ some (H + 2))
    (hat : (Value.slice A3 n3 c3).ownBlock = (Value.slice A2 n2 c2).ownBlock ∨ (Value.slice A3 n3 c3).ownBlock = some (W.alloc E).heap.size) (hin : ∀ k, (Value.slice A3 n3 c3).ownBlock = some k → k < w1.heap.size) :
    Kept (LsG H) W (w1.setCell ⟨H + 2, 0, none⟩ (.slice A3 n3 c3)) := by
  have hvl := hv.lt
  have hs1 : W.heap.size + 1 ≤ w1.heap.size := by have := hg.size; simpa using this
  have hB1 : Blk w1 (H + 2) 43 #[.slice A2 n2 c2] := (hv.alloc E).grown hg hne.symm
  have hB2 : Blk (w1.setCell ⟨H + 2, 0, none⟩ (.slice A3 n3 c3)) (H + 2) 43 #[.slice A3 n3 c3] := hB1.set_ 0 _
  have hsz : (w1.setCell ⟨H + 2, 0, none⟩ (.slice A3 n3 c3)).heap.size = w1.heap.size := by simp [World.setCell]
  refine ⟨by rw [hsz]; omega, fun k o hk ho hn => ?_, fun k hk hG => ?_, fun hr k hG => ?_⟩
  · have hkl := (Array.getElem?_eq_some_iff.1 hk).1
    have h1 : k ≠ H + 2 := fun e => hn (.inr (.inr (.inl e)))
    have h2 : some k ≠ (Value.slice A2 n2 c2).ownBlock := fun e => hn (.inr (.inr (.inr ⟨_, hv, e.symm⟩)))
    exact (Below.heap_setCell w1 _ _ k h1).trans ((hg.block k (by simp; omega) h2).trans ((Below.heap_alloc W E k hkl).trans hk))
  · rcases hG with h | h | h | ⟨v, hv', ho⟩
    · exact .inl h
    · exact .inr (.inl h)
    · exact .inr (.inr (.inl h))
    · unfold Blk at hB2 hv'
      rw [hB2] at hv'
      simp only [Option.some.injEq, Obj.cells.injEq, and_true, List.cons.injEq, Array.mk.injEq] at hv'
      subst hv'
      rcases hat with h | h
      · exact .inr (.inr (.inr ⟨_, hv, h ▸ ho⟩))
      · rw [h] at ho
        injection ho with ho
        simp at ho
        omega
  · rw [hsz]
    rcases hG with h | h | h | ⟨v, hv', ho⟩
    · omega
    · omega
    · omega
    · unfold Blk at hB2 hv'
      rw [hB2] at hv'
      simp only [Option.some.injEq, Obj.cells.injEq, and_true, List.cons.injEq, Array.mk.injEq] at hv'
      subst hv'
      exact hin k ho
def encI (x : Ins × Int) : Array Value := #[x.1.val, .int .i64 x.2]
/-- The activation behind the assignment to the loop's variables. -/
def LsA (w : World) (A : Option Addr) (n c : Nat) (x : Ins × Int) (a' : Act) (W : World) : Prop :=
  ∃ Bi, w.heap.size + 4 ≤ Bi ∧ Blk W Bi 28 #[.int .i64 x.1.at_, .int .i64 x.1.op, .int .i64 x.1.a, .int .i64 x.1.b, .int .i64 x.1.size] ∧ a' = { tmps := #[.slice A n c, undef, .pointer (some ⟨w.heap.size, 0, none⟩), .pointer (some ⟨w.heap.size + 1, 0, none⟩), .pointer (some ⟨w.heap.size + 1 + 1, 0, none⟩), .pointer (some ⟨Bi, 0, none⟩), .int .i64 x.2, .slice A n c, .func (.func 58) #[] #[.pointer (some ⟨w.heap.size + 1 + 1 + 1, 0, none⟩)], x.1.val, .int .i64 x.2, undef, undef, undef, undef, undef, undef, undef, undef], defers := [] }

set_option maxRecDepth 100000 in
set_option maxHeartbeats 4000000 in
theorem list_any (A : Option Addr) (c : Nat) (bs : List Int) (w : World) (hsm : bs.length ≤ 4194304) (hb : Bytes bs) (hr : ReadsB w w.heap.size A bs) (hc : bs.length ≤ c) (hm : c ≤ 9223372036854775807) :
    Calls Try.prog 26 #[.slice A bs.length c] w (LsPost w bs) := by
  refine (callsIn_wide (n := 3)).1 ?_
  refine callsIn_of_wp_marks Try.func26 rfl trivial ?_ rfl
  simp only [Try.ntmps26, List.size_toArray, List.length_cons, List.length_nil, Nat.reduceAdd, Nat.reduceSub, Array.replicate_succ, Array.replicate_zero, List.push_toArray, List.append_toArray, List.nil_append, List.cons_append]
  have b0 := Blk.new w 43 #[.slice none 0 0]
  gi_wp2_with fail
  refine ⟨trivial, (callsIn_wide.2 (each_any A bs.length c _)).mono ?_⟩
  rintro _ w1 ⟨rfl, rfl⟩
  gi_wp2_with fail
  obtain ⟨W0, hW0⟩ : ∃ W0, (((w.alloc (.cells #[.slice none 0 0] 43)).alloc (.cells #[.int .i64 0] 32)).alloc (.cells #[.slice none 0 0] 43)).alloc (.cells #[.slice A bs.length c] 31) = W0 := ⟨_, rfl⟩
  have hsz : W0.heap.size = w.heap.size + 4 := by rw [← hW0]; simp
  have hB0 : Below w.heap.size w W0 := by
    rw [← hW0]
    exact ((((Below.refl _ _).alloc (Nat.le_refl _) _).alloc (by simp) _).alloc (by simp; omega) _).alloc (by simp; omega) _
  have k0 : Blk W0 w.heap.size 43 #[.slice none 0 0] := by
    rw [← hW0]
    exact (((Blk.new w 43 #[.slice none 0 0]).alloc _).alloc _).alloc _
  have k1 : Blk W0 (w.heap.size + 1) 32 #[.int .i64 0] := by
    rw [← hW0]
    have := ((Blk.new (w.alloc (.cells #[.slice none 0 0] 43)) 32 #[.int .i64 0]).alloc (.cells #[.slice none 0 0] 43)).alloc (.cells #[.slice A bs.length c] 31)
    simpa using this
  have k2 : Blk W0 (w.heap.size + 2) 43 #[.slice none 0 0] := by
    rw [← hW0]
    have := (Blk.new ((w.alloc (.cells #[.slice none 0 0] 43)).alloc (.cells #[.int .i64 0] 32)) 43 #[.slice none 0 0]).alloc (.cells #[.slice A bs.length c] 31)
    simpa using this
  have k3 : Blk W0 (w.heap.size + 3) 31 #[.slice A bs.length c] := by
    rw [← hW0]
    have := Blk.new (((w.alloc (.cells #[.slice none 0 0] 43)).alloc (.cells #[.int .i64 0] 32)).alloc (.cells #[.slice none 0 0] 43)) 31 #[.slice A bs.length c]
    simpa using this
  have hG0 : ∀ k, LsG w.heap.size W0 k → k = w.heap.size ∨ k = w.heap.size + 1 ∨ k = w.heap.size + 2 := fun k hk => by
    rcases hk with h | h | h | ⟨v, hv, ho⟩
    · exact .inl h
    · exact .inr (.inl h)
    · exact .inr (.inr h)
    · unfold Blk at hv k2
      rw [k2] at hv
      simp only [Option.some.injEq, Obj.cells.injEq, and_true, List.cons.injEq, Array.mk.injEq] at hv
      subst hv
      simp [Value.ownBlock] at ho
  rw [hW0]
  clear hW0 b0
  have hGr0 : ∀ k, LsG w.heap.size W0 k → k < W0.heap.size := fun k hk => by have := hG0 k hk; omega
  refine wpIn_rangeFunc_ownH (α := Ins × Int) (F := Fence.wide) (n := 3) rfl (by decide) (gf := 58) (lb := #[.pointer (some ⟨w.heap.size + 1 + 1 + 1, 0, none⟩)]) rfl trivial (enters_of Try.func58 (by kernel_rfl) rfl)
    (encs := encI) (Kp := Kept (LsG w.heap.size)) (S := fun ys => ys = walkAt bs 0) (Sp := fun pre => pre <+: walkAt bs 0) (N := bs.length) (w0 := W0)
    (fun l J Jx W hW hJ _ hY h0 => each1_in 2 (by decide) (LsG w.heap.size) (lsG_told _) l (w.heap.size + 1 + 1 + 1) w.heap.size A c bs hb hc hm J Jx hY W hJ (k3.below hW k3.lt)
      (fun h => by have := hG0 _ ((lsG_told _).below hGr0 hW _ h); omega) (Reads.below hr (hB0.trans (hW.mono (by omega)))) (by have := hW.size; omega)
      (fun j hj h => by have := hG0 _ ((lsG_told _).below hGr0 hW _ h); omega) (fun k h => by have := hG0 _ ((lsG_told _).below hGr0 hW _ h); have := hW.size; omega) h0)
    Kept.trans (fun W l o o' hl ho hcl _ => lsG_put o' (by omega) ho hcl) (Below.refl _ _) (fun _ => rfl)
    (LsI w A bs.length c) (LsX w) (lsI_own w A bs.length c _ (by omega)) (fun cd => lsX_own w _ (by omega) cd) ⟨⟨_, k2, OwnI.nil _ _⟩, k0, k1, k3, hB0, fun x hx => by cases hx⟩ (LsA w A bs.length c)
    (fun x a' _ X Y row hs hg hrow => by
      obtain ⟨Bi, hBi, bX, e⟩ := hs
      exact ⟨Bi, hBi, blk_own bX hg hrow, e⟩) ?assign ?body ?done ?stop
  case assign =>
    rintro l pre x W K ⟨⟨v, hv, hO⟩, h0, h1, h3, hB, hz⟩ hK
    have hvl := hv.lt
    unfold encI Ins.val
    gi_wp2
    have hb1 : Below W.heap.size W (W.alloc (.cells #[.int .i64 x.1.at_, .int .i64 x.1.op, .int .i64 x.1.a, .int .i64 x.1.b, .int .i64 x.1.size] 28)) := (Below.refl _ _).alloc (Nat.le_refl _) _
    exact hK _ _ ((KeepsOthers.alloc _ _).from _) (lsG_below hvl hb1) ⟨⟨v, hv.alloc _, hO.alloc _⟩, h0.alloc _, h1.alloc _, h3.alloc _, hB.alloc hB.size _, hz⟩ ⟨W.heap.size, by have := h3.lt; omega, Blk.new _ _ _, rfl⟩
  case body =>
    rintro l pre x a' W hl ⟨r, hrl⟩ ⟨⟨v, hv, hO⟩, h0, h1, h3, hB, hz⟩ ⟨Bi, hBi, bX, rfl⟩ hlt
    obtain ⟨A2, c2, rfl, hlc, hmx, hrd⟩ := hO.form
    rw [List.length_map] at hv hO
    have e2 : W.cell? ⟨w.heap.size + 1 + 1, 0, none⟩ = some (.slice A2 pre.length c2) := hv.cell 0
    have f2 : W.frozen? ⟨w.heap.size + 1 + 1, 0, none⟩ = false := hv.frozen 0
    have x0 : W.cell? ⟨Bi, 0, none⟩ = some (.int .i64 x.1.at_) := bX.cell 0
    have x1 : W.cell? ⟨Bi, 1, none⟩ = some (.int .i64 x.1.op) := bX.cell 1
    have x2 : W.cell? ⟨Bi, 2, none⟩ = some (.int .i64 x.1.a) := bX.cell 2
    have x3 : W.cell? ⟨Bi, 3, none⟩ = some (.int .i64 x.1.b) := bX.cell 3
    have x4 : W.cell? ⟨Bi, 4, none⟩ = some (.int .i64 x.1.size) := bX.cell 4
    have r0 : W.cell? ⟨w.heap.size, 0, none⟩ = some (.slice none 0 0) := h0.cell 0
    have rf0 := h0.frozen 0
    have r1 : W.cell? ⟨w.heap.size + 1, 0, none⟩ = some (.int .i64 0) := h1.cell 0
    have rf1 : W.frozen? ⟨w.heap.size + 1, 0, none⟩ = false := h1.frozen 0
    by_cases hx : x.2 = 0
    · have b1 : (x.2 != 0) = false := by rw [hx]; rfl
      have hz1 : pre.map (·.1) ++ [x.1] = (pre ++ [x]).map (·.1) := by simp
      have hz2 : ((pre ++ [x]).map (·.1)).length = pre.length + 1 := by simp
      have hone := Lib.hid (ReadsI.one W x.1)
      have hOa := Lib.hid (OwnI.alloc hO (.cells #[.int .i64 x.1.at_, .int .i64 x.1.op, .int .i64 x.1.a, .int .i64 x.1.b, .int .i64 x.1.size] 28))
      have hgv := own_blk_ne hO hv (by decide)
      replace hz1 := Lib.hid hz1
      replace hz2 := Lib.hid hz2
      replace hx := Lib.hid hx
      have hBs := hB.size
      gi_wp2_with (first
        | (gi_at_builtin
           refine wpListIn_appI (W.alloc (.cells #[.int .i64 x.1.at_, .int .i64 x.1.op, .int .i64 x.1.a, .int .i64 x.1.b, .int .i64 x.1.size] 28)) rfl (.tmp 14) (.tmp 16) rfl w.heap.size (.slice A2 pre.length c2) (pre.map (·.1)) rfl hOa.out (W.heap.size + 1) (some ⟨W.heap.size, 0, none⟩) 1 1 [x.1] rfl hone.out rfl
             ((pre ++ [x]).map (·.1)) (pre.length + 1) hz1.out hz2.out (by omega) (by simp; omega) ?_
           intro A3 c3 w3 hown3 hg3 hb3 hat3
           have hB3 : Blk w3 (w.heap.size + 2) 43 #[.slice A2 pre.length c2] := (hv.alloc _).grown hg3 hgv.symm
           have c03 : w3.cell? ⟨w.heap.size + 1 + 1, 0, none⟩ = some (.slice A2 pre.length c2) := hB3.cell 0
           have f03 : w3.frozen? ⟨w.heap.size + 1 + 1, 0, none⟩ = false := hB3.frozen 0))
      have hin3 : ∀ k, (Value.slice A3 (pre.length + 1) c3).ownBlock = some k → k < w3.heap.size := fun k hk => (hown3.lt k hk).2
      have hkp := lsG_push hv hg3 hgv hat3 hin3
      have hsz3 := hg3.size
      simp only [World.size_alloc] at hsz3
      have hKF : KeepsFrom (w.heap.size + 4) W (w3.setCell ⟨w.heap.size + 1 + 1, 0, none⟩ (.slice A3 (pre.length + 1) c3)) := by
        refine (((KeepsOthers.alloc W (.cells #[.int .i64 x.1.at_, .int .i64 x.1.op, .int .i64 x.1.a, .int .i64 x.1.b, .int .i64 x.1.size] 28)).trans (KeepsOthers.of_grownBy hg3 fun j o ej hj => ?_)).trans (KeepsOthers.setCell _ _ _)).from _
        rcases (World.ownsRow.alloc hO (.cells #[.int .i64 x.1.at_, .int .i64 x.1.op, .int .i64 x.1.a, .int .i64 x.1.b, .int .i64 x.1.size] 28)).2 with ⟨hn, _⟩ | ⟨g, cap, cur, hn, _, hgb, _⟩
        · rw [hn] at ej
          simp [Value.ownBlock] at ej
        · rw [hn] at ej
          obtain rfl : g = j := by simpa [Value.ownBlock] using ej
          rw [hgb] at hj
          cases hj
          rfl
      have hn0 : w.heap.size ≠ w.heap.size + 2 := by omega
      have hn1 : w.heap.size + 1 ≠ w.heap.size + 2 := by omega
      have hn3 : w.heap.size + 3 ≠ w.heap.size + 2 := by omega
      have q0 := own_blk_ne hO h0 (by decide)
      have q1 := own_blk_ne hO h1 (by decide)
      have q3 := own_blk_ne hO h3 (by decide)
      exact ⟨hKF, hkp, ⟨⟨_, (hB3.set_ 0 _ : Blk _ _ _ _), by
          rw [← hz1.out] at hown3 ⊢
          exact ownI_setCell hown3 hB3 (by decide) _⟩,
        ((h0.alloc _).grown hg3 q0.symm).far (p := ⟨w.heap.size + 2, 0, none⟩) hn0 _, ((h1.alloc _).grown hg3 q1.symm).far (p := ⟨w.heap.size + 2, 0, none⟩) hn1 _, ((h3.alloc _).grown hg3 q3.symm).far (p := ⟨w.heap.size + 2, 0, none⟩) hn3 _,
        ((hB.alloc hBs _).trans hb3).setCell (p := ⟨w.heap.size + 2, 0, none⟩) (by simp) _, fun y hy => by
          rcases List.mem_append.1 hy with hy | hy
          · exact hz y hy
          · rw [List.mem_singleton.1 hy]; exact hx.out⟩⟩
    · have b1 : (x.2 != 0) = true := by simpa using hx
      replace hx := Lib.hid hx
      gi_wp2_with fail
      refine ⟨((KeepsOthers.setCell W ⟨w.heap.size, 0, none⟩ (.slice none 0 0)).trans (KeepsOthers.setCell _ ⟨w.heap.size + 1, 0, none⟩ (.int .i64 x.2))).from _, rfl, ⟨pre, x, rfl, hx.out, ?_, ?_⟩, ?_⟩
      · exact (h0.set_ 0 _).far (p := ⟨w.heap.size + 1, 0, none⟩) (by simp) _
      · exact (h1.far (p := ⟨w.heap.size, 0, none⟩) (by simp) _).set_ 0 _
      · exact (hB.setCell (p := ⟨w.heap.size, 0, none⟩) (Nat.le_refl _) _).setCell (p := ⟨w.heap.size + 1, 0, none⟩) (by simp) _
  case done =>
    rintro D ys W hD rfl ⟨⟨v, hv, hO⟩, h0, h1, h3, hB, hz⟩ hK
    obtain ⟨A2, c2, rfl, hlc, hmx, hrd⟩ := hO.form
    obtain ⟨g1, g2⟩ := list_good hz
    have e2 : W.cell? ⟨w.heap.size + 1 + 1, 0, none⟩ = some (.slice A2 ((walkAt bs 0).map (·.1)).length c2) := hv.cell 0
    have r0 : W.cell? ⟨w.heap.size, 0, none⟩ = some (.slice none 0 0) := h0.cell 0
    have rf0 := h0.frozen 0
    have r1 : W.cell? ⟨w.heap.size + 1, 0, none⟩ = some (.int .i64 0) := h1.cell 0
    have rf1 : W.frozen? ⟨w.heap.size + 1, 0, none⟩ = false := h1.frozen 0
    generalize hll : (walkAt bs 0).map (·.1) = ls at *
    replace hll := Lib.hid hll
    replace g1 := Lib.hid g1
    replace g2 := Lib.hid g2
    gi_wp2
    have hn02 : w.heap.size ≠ w.heap.size + 2 := by omega
    have hn12 : w.heap.size + 1 ≠ w.heap.size + 2 := by omega
    have hw0 : Blk ((W.setCell ⟨w.heap.size, 0, none⟩ (.slice A2 ls.length c2)).setCell ⟨w.heap.size + 1, 0, none⟩ (.int .i64 0)) w.heap.size 43 #[.slice A2 ls.length c2] := (h0.set_ 0 _).far (p := ⟨w.heap.size + 1, 0, none⟩) (by simp) _
    have hw1 : Blk ((W.setCell ⟨w.heap.size, 0, none⟩ (.slice A2 ls.length c2)).setCell ⟨w.heap.size + 1, 0, none⟩ (.int .i64 0)) (w.heap.size + 1) 32 #[.int .i64 0] := (h1.far (p := ⟨w.heap.size, 0, none⟩) (by simp) _).set_ 0 _
    have hOw := ownI_setCell (i := 0) (ownI_setCell (i := 0) hO h0 (by decide) (.slice A2 ls.length c2)) (h1.far (p := ⟨w.heap.size, 0, none⟩) (by simp) (.slice A2 ls.length c2)) (by decide) (.int .i64 0)
    have hBw := (hB.setCell (p := ⟨w.heap.size, 0, none⟩) (Nat.le_refl _) (.slice A2 ls.length c2)).setCell (p := ⟨w.heap.size + 1, 0, none⟩) (by simp) (.int .i64 0)
    have hKw := ((KeepsOthers.setCell W ⟨w.heap.size, 0, none⟩ (.slice A2 ls.length c2)).trans (KeepsOthers.setCell _ ⟨w.heap.size + 1, 0, none⟩ (.int .i64 0))).same D _ hK rfl
    refine ⟨by simp, .inl ⟨_, _, rfl, run_takeDeferred hKw, ?_⟩⟩
    generalize (W.setCell ⟨w.heap.size, 0, none⟩ (.slice A2 ls.length c2)).setCell ⟨w.heap.size + 1, 0, none⟩ (.int .i64 0) = Wf at *
    have hg := grownBy_putObj' Wf D (.deferred none)
    have c0 : (Wf.putObj D (.deferred none)).cell? ⟨w.heap.size, 0, none⟩ = some (.slice A2 ls.length c2) := (hw0.grown hg (fun e => by injection e with e; omega)).cell 0
    have c1 : (Wf.putObj D (.deferred none)).cell? ⟨w.heap.size + 1, 0, none⟩ = some (.int .i64 0) := (hw1.grown hg (fun e => by injection e with e; omega)).cell 0
    refine ⟨.tuple #[.slice A2 ls.length c2, .int .i64 0], by simp [results, Try.results26, go_sem, c0, c1], A2, c2, ?_, ?_, ?_, hmx, ?_⟩
    · rw [g1.out, g2.out]
    · rw [g2.out]
      exact OwnI.reads (ownsRow_putObj hOw (.deferred none) hKw rfl)
    · rw [g2.out]; exact hlc
    · exact hBw.grown hg hBw.size (fun k e => by injection e with e; omega)
  case stop =>
    rintro D cd pre W hD hpre ⟨rfl, ⟨p, x, rfl, hx, h0, h1⟩, hB⟩ hK
    obtain ⟨g1, g2⟩ := list_bad hpre hx
    replace g1 := Lib.hid g1
    replace g2 := Lib.hid g2
    gi_wp2
    refine ⟨by simp, .inl ⟨_, _, rfl, run_takeDeferred hK, ?_⟩⟩
    have hg := grownBy_putObj' W D (.deferred none)
    have c0 : (W.putObj D (.deferred none)).cell? ⟨w.heap.size, 0, none⟩ = some (.slice none 0 0) := (h0.grown hg (fun e => by injection e with e; omega)).cell 0
    have c1 : (W.putObj D (.deferred none)).cell? ⟨w.heap.size + 1, 0, none⟩ = some (.int .i64 x.2) := (h1.grown hg (fun e => by injection e with e; omega)).cell 0
    refine ⟨.tuple #[.slice none 0 0, .int .i64 x.2], by simp [results, Try.results26, go_sem, c0, c1], none, 0, ?_, ?_, ?_, by unfold maxLen; omega, ?_⟩
    · rw [g1.out, g2.out]; rfl
    · rw [g2.out]; exact ReadsI.nil_ _ _
    · rw [g2.out]; exact Nat.le_refl _
    · exact hB.grown hg hB.size (fun k e => by injection e with e; omega)
end Go.Proofs.Ytcinmgifadmbeaa
