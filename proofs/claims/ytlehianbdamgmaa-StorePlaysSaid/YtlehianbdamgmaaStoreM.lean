/- A log in memory, and its methods. -/
import Derived.Test.YtlehianbdamgmaaStoreC
import Derived.Deep.RegionLaw
import Derived.BigRegion
namespace Go.Proofs.Ytlehianbdamgmaa
open Go.RowKit
set_option linter.unusedVariables false

theorem infoE : (Try.prog.info? 33).map (fun i => (i.zero, i.size, i.bytes)) = some (some (.agg #[.int .i64 0, .int .i64 0, .int .i64 0, .int .i64 0]), 4, 32) := by kernel_rfl

/-- A slice value of the call's own that reads as the entries l. -/
def OwnE (w : World) (base : Nat) (v : Value) (l : List Ent) : Prop := w.ownsRow base 33 4 v l.length (cellsE l)
section
variable {w w' : World} {base : Nat} {v : Value} {l : List Ent}
theorem OwnE.below (h : OwnE w base v l) (hb : Below w.heap.size w w') : OwnE w' base v l := own_below h hb
theorem OwnE.base_ {b : Nat} (h : OwnE w base v l) (hb : b ≤ base) : OwnE w b v l := own_base h hb
theorem OwnE.alloc (h : OwnE w base v l) (o : Obj) : OwnE (w.alloc o) base v l := World.ownsRow.alloc h o
theorem OwnE.reads {A : Option Addr} {n c : Nat} (h : OwnE w base (.slice A n c) l) : ReadsE w w.heap.size A l := by
  obtain ⟨A', c', hv, _, _, hr⟩ := own_form h
  injection hv with h1
  subst h1
  exact hr
theorem OwnE.len {A : Option Addr} {n c : Nat} (h : OwnE w base (.slice A n c) l) : n = l.length := by
  obtain ⟨A', c', hv, _, _, hr⟩ := own_form h
  injection hv
theorem OwnE.cap {A : Option Addr} {n c : Nat} (h : OwnE w base (.slice A n c) l) : l.length ≤ c ∧ c ≤ maxLen := own_cap h
theorem OwnE.nil (w : World) (base : Nat) : OwnE w base (.slice none 0 0) [] := World.ownsRow_nil _ _ _ _
theorem ReadsE.one (w : World) (e : Ent) : ReadsE (w.alloc (.cells #[.int .i64 e.view, .int .i64 e.what, .int .i64 e.a, .int .i64 e.n] 33)) (w.heap.size + 1) (some ⟨w.heap.size, 0, none⟩) [e] := by
  have := Reads.new w #[.int .i64 e.view, .int .i64 e.what, .int .i64 e.a, .int .i64 e.n] 33 (0, 0) 1 4 rfl
  simpa [ReadsE, cellsE, Ent.cells] using this
end

theorem wpList_appE {ops : Array Oper} {rest : List Oper} {o : Oper} {a : Act} {Q : Exit → Act → World → Prop} (w : World) (hgd : o.guard = none) (s x : Operand)
    (ho : o.op = .call { callee := .builtin .append, args := #[s, x], argTypes := #[25, 25] })
    (base : Nat) (v : Value) (xs : List Ent) (hs : a.eval s = v) (hown : OwnE w base v xs)
    (B : Nat) (A : Option Addr) (m c : Nat) (ys : List Ent) (hx : a.eval x = .slice A m c) (hr : ReadsE w B A ys) (hm : m = ys.length)
    (zs : List Ent) (n' : Nat) (hz : xs ++ ys = zs) (hn : zs.length = n')
    (hb : n' ≤ 4398046511104) (hbase : base ≤ w.heap.size)
    (h : ∀ A' c' w', OwnE w' base (.slice A' n' c') zs → w.grownBy w' v.ownBlock → Below base w w' →
      ((Value.slice A' n' c').ownBlock = v.ownBlock ∨ (Value.slice A' n' c').ownBlock = some w.heap.size) → wpList Try.prog ops Q rest (a.put o.dst (.slice A' n' c')) w') : wpList Try.prog ops Q (o :: rest) a w := by
  subst hm
  subst hz
  rw [List.length_append] at hn
  subst hn
  obtain ⟨i0, hi0, hz0, hz1, hz2⟩ := info_parts infoE
  refine wpList_app (P := Try.prog) w hgd s x 25 ho base 33 i0 _ 4 32 Try.underlying25 hi0 hz0 hz1 hz2 rfl (by omega) v xs.length (cellsE xs) hs hown B A ys.length c (cellsE ys) hx hr (cellsE_one ys)
    (by unfold maxLen; omega) (by omega) hbase fun A' c' w' h1 h2 h3 => h A' c' w' ?_ h2 (own_grown_below hown h2 hbase) h3
  unfold OwnE
  rw [List.length_append, cellsE_append]
  exact h1
theorem step_appE {ops : Array Oper} {o : Oper} {a : Act} {K : Act → World → Prop} {Q : Exit → Act → World → Prop} {E : Prop} (w : World) (hgd : o.guard = none) (s x : Operand)
    (ho : o.op = .call { callee := .builtin .append, args := #[s, x], argTypes := #[25, 25] })
    (base : Nat) (v : Value) (xs : List Ent) (hs : a.eval s = v) (hown : OwnE w base v xs)
    (B : Nat) (A : Option Addr) (m c : Nat) (ys : List Ent) (hx : a.eval x = .slice A m c) (hr : ReadsE w B A ys) (hm : m = ys.length)
    (zs : List Ent) (n' : Nat) (hz : xs ++ ys = zs) (hn : zs.length = n')
    (hb : n' ≤ 4398046511104) (hbase : base ≤ w.heap.size)
    (h : ∀ A' c' w', OwnE w' base (.slice A' n' c') zs → w.grownBy w' v.ownBlock → Below base w w' →
      ((Value.slice A' n' c').ownBlock = v.ownBlock ∨ (Value.slice A' n' c').ownBlock = some w.heap.size) → K (a.put o.dst (.slice A' n' c')) w') :
    if Region.wanted o (yielded ops a.tmps) = true then Oper.wp Try.prog o a w K Q else E := by
  subst hm
  subst hz
  rw [List.length_append] at hn
  subst hn
  obtain ⟨i0, hi0, hz0, hz1, hz2⟩ := info_parts infoE
  refine step_app (P := Try.prog) w hgd s x 25 ho base 33 i0 _ 4 32 Try.underlying25 hi0 hz0 hz1 hz2 rfl (by omega) v xs.length (cellsE xs) hs hown B A ys.length c (cellsE ys) hx hr (cellsE_one ys)
    (by unfold maxLen; omega) (by omega) hbase fun A' c' w' h1 h2 h3 => h A' c' w' ?_ h2 (own_grown_below hown h2 hbase) h3
  unfold OwnE
  rw [List.length_append, cellsE_append]
  exact h1
theorem ownE_setCell {w : World} {g i : Nat} {t : TypeId} {cs : Array Value} {v : Value} {xs : List Ent} {base : Nat} (h : OwnE w base v xs) (hB : Blk w g t cs) (ht : 33 ≠ t) (u : Value) :
    OwnE (w.setCell ⟨g, i, none⟩ u) base v xs :=
  World.ownsRow.kept (row := some g) h ⟨rfl, rfl, rfl, by simp [World.setCell], fun k _ hne => Below.heap_setCell w _ u k (fun e => hne (by rw [e]))⟩ (.inr (own_blk_ne h hB ht))

/-- A log of the entries l. Its blocks are F's, none below base. -/
def St (w : World) (F : Nat → Prop) (base g : Nat) (l : List Ent) : Prop :=
  ∃ A c, Blk w g 53 #[.slice A l.length c, .bool true] ∧ OwnE w base (.slice A l.length c) l ∧ l.length ≤ 4096 ∧ base ≤ g ∧
    F g ∧ (∀ k, (Value.slice A l.length c).ownBlock = some k → F k) ∧ (∀ k, F k → base ≤ k ∧ k < w.heap.size)

/-- What becomes of a log when its row has grown and the new row is stored. -/
theorem st_push {F : Nat → Prop} {w wa w2 : World} {base g n' c c2 : Nat} {A A2 : Option Addr} {zs zs' : List Ent}
    (hB : Blk w g 53 #[.slice A zs.length c, .bool true]) (hO : OwnE w base (.slice A zs.length c) zs)
    (hbg : base ≤ g) (hFg : F g) (hFv : ∀ k, (Value.slice A zs.length c).ownBlock = some k → F k) (hFw : ∀ k, F k → base ≤ k ∧ k < w.heap.size)
    (ha : Below w.heap.size w wa) {b2 : Nat} (hown2 : OwnE w2 b2 (.slice A2 n' c2) zs') (hb2 : base ≤ b2) {row : Option Nat} (hrow : row = none ∨ row = (Value.slice A zs.length c).ownBlock) (hg2 : wa.grownBy w2 row)
    (hat : (Value.slice A2 n' c2).ownBlock = (Value.slice A zs.length c).ownBlock ∨ (Value.slice A2 n' c2).ownBlock = some wa.heap.size ∨ (Value.slice A2 n' c2).ownBlock = none)
    (hn : n' = zs'.length) (hl : zs'.length ≤ 4096) :
    St (w2.setCell ⟨g, 0, none⟩ (.slice A2 n' c2)) (Grow F w (w2.setCell ⟨g, 0, none⟩ (.slice A2 n' c2))) base g zs' ∧ Turned F w (w2.setCell ⟨g, 0, none⟩ (.slice A2 n' c2)) := by
  subst hn
  have hgv := own_blk_ne hO hB (by decide)
  have hrg : some g ≠ row := by
    rcases hrow with rfl | rfl
    · simp
    · exact hgv.symm
  have hB2 : Blk w2 g 53 #[.slice A zs.length c, .bool true] := Blk.grown (hB.below ha hB.lt) hg2 hrg
  have hra : w.heap.size ≤ wa.heap.size := ha.size
  have hT2 : Turned F w w2 := (Turned.of_below ha).trans (Turned.of_grown (F := fun k => row = some k) hg2 (fun k h => h)) (fun i hi hv => by
    rcases hrow with rfl | rfl
    · cases hv
    · exact hFv i hv)
  have hs2 := hT2.size
  have hsz : (w2.setCell ⟨g, 0, none⟩ (.slice A2 zs'.length c2)).heap.size = w2.heap.size := by simp [World.setCell]
  have hT3 : Turned F w (w2.setCell ⟨g, 0, none⟩ (.slice A2 zs'.length c2)) := hT2.setCell (.inl hFg) _
  have ha2 : wa.heap.size ≤ w2.heap.size := hg2.size
  refine ⟨⟨A2, c2, hB2.set_ 0 _, (ownE_setCell hown2 hB2 (by decide) _).base_ hb2, hl, hbg, .inl hFg, fun k hk => ?_, fun k hk => ?_⟩, hT3⟩
  · rcases hat with h | h | h
    · exact .inl (hFv k (h ▸ hk))
    · have hk' : k = wa.heap.size := by rw [h] at hk; injection hk with hk; exact hk.symm
      have := hown2.lt k hk
      exact .inr ⟨by omega, by omega⟩
    · rw [h] at hk; cases hk
  · rcases hk with h | h
    · have := hFw k h; omega
    · have := hFw g hFg
      exact ⟨by omega, by omega⟩

section
variable {w w' : World} {F G : Nat → Prop} {base g : Nat} {l : List Ent}
theorem St.turned (h : St w F base g l) (k : Turned G w w') (hd : ∀ i, F i → ¬ G i) : St w' F base g l := by
  obtain ⟨A, c, hB, hO, hl, hbg, hFg, hFv, hFw⟩ := h
  exact ⟨A, c, hB.turned k (hd g hFg), own_turned hO k (fun i hi => hd i (hFv i hi)), hl, hbg, hFg, hFv, fun i hi => ⟨(hFw i hi).1, by have := (hFw i hi).2; have := k.size; omega⟩⟩
theorem St.below (h : St w F base g l) (k : Below w.heap.size w w') : St w' F base g l :=
  h.turned (Turned.of_below (F := fun _ => False) k) fun _ _ h => h
theorem St.grow (h : St w F base g l) (k : Below w.heap.size w w') : St w' (Grow F w w') base g l ∧ Turned F w w' := by
  refine ⟨?_, Turned.of_below k⟩
  obtain ⟨A, c, hB, hO, hl, hbg, hFg, hFv, hFw⟩ := h.below k
  refine ⟨A, c, hB, hO, hl, hbg, .inl hFg, fun i hi => .inl (hFv i hi), fun i hi => ?_⟩
  rcases hi with hi | hi
  · exact hFw i hi
  · obtain ⟨A', c', hB', hO', hl', hbg', hFg', hFv', hFw'⟩ := h
    have := hFw' g hFg'
    exact ⟨by omega, hi.2⟩
theorem St.lt (h : St w F base g l) (k : Nat) (hk : F k) : base ≤ k ∧ k < w.heap.size := by
  obtain ⟨A, c, hB, hO, hl, hbg, hFg, hFv, hFw⟩ := h
  exact hFw k hk
theorem St.len (h : St w F base g l) : l.length ≤ 4096 := by
  obtain ⟨A, c, hB, hO, hl, _⟩ := h
  exact hl
theorem St.cells (h : St w F base g l) : ∃ A c, w.cell? ⟨g, 0, none⟩ = some (.slice A l.length c) ∧ w.cell? ⟨g, 1, none⟩ = some (.bool true) ∧ w.frozen? ⟨g, 0, none⟩ = false ∧ g < w.heap.size ∧ ReadsE w w.heap.size A l ∧ l.length ≤ c ∧ c ≤ maxLen := by
  obtain ⟨A, c, hB, hO, hl, _⟩ := h
  exact ⟨A, c, hB.cell 0, hB.cell 1, hB.frozen 0, hB.lt, hO.reads, hO.cap.1, hO.cap.2⟩
end

set_option maxRecDepth 100000 in
theorem new_any (w : World) :
    Calls Try.prog 30 #[] w fun e w' => e = .returned (.pointer (some ⟨w.heap.size, 0, none⟩)) ∧ St w' (Grow (fun _ => False) w w') w.heap.size w.heap.size [] ∧ Below w.heap.size w w' := by
  go_enter Try.func30, Try.ntmps30
  go_wp2_with fail
  go_ret
  have hb : Below w.heap.size w (w.alloc (.cells #[.slice none 0 0, .bool true] 53)) := (Below.refl _ _).alloc (Nat.le_refl _) _
  refine ⟨rfl, ⟨none, 0, Blk.new _ _ _, OwnE.nil _ _, by decide, Nat.le_refl _, .inr ⟨Nat.le_refl _, by simp⟩, fun k hk => by simp [Value.ownBlock] at hk, fun k hk => ?_⟩, hb⟩
  rcases hk with h | h
  · cases h
  · exact h

set_option maxRecDepth 100000 in
theorem none_any (g : Nat) (b : Bool) (w : World) (h : w.cell? ⟨g, 1, none⟩ = some (.bool b)) :
    Calls Try.prog 54 #[.pointer (some ⟨g, 0, none⟩)] w fun e w' => e = .returned (.bool (!b)) ∧ w = w' := by
  go_enter Try.func54, Try.ntmps54
  go_wp2_with fail
  go_ret
  exact ⟨rfl, rfl⟩
set_option maxRecDepth 100000 in
theorem none_nil (w : World) :
    Calls Try.prog 54 #[.pointer none] w fun e w' => e = .returned (.bool true) ∧ w = w' := by
  go_enter Try.func54, Try.ntmps54
  go_wp2_with fail
  go_ret
  exact ⟨rfl, rfl⟩

/-- The last one's view. -/
def viewL (l : List Ent) : Int := match l.getLast? with | some e => e.view | none => 0

set_option maxRecDepth 100000 in
set_option maxHeartbeats 1000000 in
theorem view_any (g : Nat) (l : List Ent) (w : World) (F : Nat → Prop) (base : Nat) (h : St w F base g l) :
    Calls Try.prog 35 #[.pointer (some ⟨g, 0, none⟩)] w fun e w' => e = .returned (.int .i64 (viewL l)) ∧ ∃ n, w' = w.drewN n := by
  obtain ⟨A, c, c0, c1, f0, hlt, hr, hc, hm⟩ := h.cells
  have hl := h.len
  unfold maxLen at hm
  have hn := fun w h => Lib.hid (none_any g true w h)
  by_cases h0 : l.length = 0
  · have hv : viewL l = 0 := by rw [List.eq_nil_of_length_eq_zero h0]; rfl
    replace hv := Lib.hid hv
    have b1 : ((l.length : Int) == 0) = true := by rw [beq_iff_eq]; omega
    have b2 : (l.length == 0) = true := by rw [beq_iff_eq]; omega
    clear h0
    go_enter Try.func35, Try.ntmps35
    go_wp2_with (refine (hn _ (by assumption)).out.mono ?_; rintro e w' ⟨rfl, rfl⟩)
    go_ret
    exact ⟨by rw [hv.out]; rfl, 0, rfl⟩
  · obtain ⟨K, hK⟩ : ∃ K, l.length = K + 1 := ⟨l.length - 1, by omega⟩
    obtain ⟨x, hx⟩ := ent_at (show K < l.length by omega)
    have hv : viewL l = x.view := by
      unfold viewL
      rw [List.getLast?_eq_getElem?, show l.length - 1 = K from by omega, hx]
    replace hv := Lib.hid hv
    obtain ⟨ad, rfl, _, e1⟩ := hr.at_ hx
    obtain ⟨a0, a1, a2, a3⟩ := e1
    have b1 : ((l.length : Int) == 0) = false := by rw [beq_eq_false_iff_ne]; omega
    have b2 : (l.length == 0) = false := by rw [beq_eq_false_iff_ne]; omega
    have g1 : IntKind.i64.wrap ((l.length : Int) - 1) = (K : Int) := by rw [IntKind.wrap_i64]; omega
    have g2 : ((l.length : Int) - 1) = (K : Int) := by omega
    have g3 : decide ((K : Int) < (l.length : Int)) = true := decide_eq_true (by omega)
    have g4 : K < l.length := by omega
    replace hK := Lib.hid hK
    clear h0 hx
    go_enter Try.func35, Try.ntmps35
    go_wp2_with (refine (hn _ (by assumption)).out.mono ?_; rintro e w' ⟨rfl, rfl⟩)
    go_quiet (fail)
    go_wp2_with fail
    go_ret
    exact ⟨by rw [hv.out]; rfl, _, rfl⟩

set_option maxRecDepth 100000 in
set_option maxHeartbeats 1000000 in
theorem len_any (g : Nat) (l : List Ent) (w : World) (F : Nat → Prop) (base : Nat) (h : St w F base g l) :
    Calls Try.prog 36 #[.pointer (some ⟨g, 0, none⟩)] w fun e w' => e = .returned (.int .i64 l.length) ∧ w = w' := by
  obtain ⟨A, c, c0, c1, f0, hlt, hr, hc, hm⟩ := h.cells
  have hn := fun w h => Lib.hid (none_any g true w h)
  go_enter Try.func36, Try.ntmps36
  go_wp2_with (refine (hn _ (by assumption)).out.mono ?_; rintro e w' ⟨rfl, rfl⟩)
  go_ret
  exact ⟨rfl, rfl⟩
