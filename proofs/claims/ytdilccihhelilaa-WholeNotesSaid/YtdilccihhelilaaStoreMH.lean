/- A log in memory, and its methods. -/
import Derived.Test.YtdilccihhelilaaStoreCH
import Derived.Deep.RegionLaw
import Derived.BigRegion
namespace Go.Proofs.Ytdilccihhelilaa
open Go.RowKit
set_option linter.unusedVariables false

theorem infoE : (Try.prog.info? 42).map (fun i => (i.zero, i.size, i.bytes)) = some (some (.agg #[.int .i64 0, .int .i64 0, .int .i64 0, .int .i64 0]), 4, 32) := by kernel_rfl

/-- A slice value of the call's own that reads as the entries l. -/
def OwnE (w : World) (base : Nat) (v : Value) (l : List Ent) : Prop := w.ownsRow base 42 4 v l.length (cellsE l)
section
variable {w w' : World} {base : Nat} {v : Value} {l : List Ent}
theorem OwnE.below (h : OwnE w base v l) (hb : Below w.heap.size w w') : OwnE w' base v l := own_below h hb
theorem OwnE.base_ {b : Nat} (h : OwnE w base v l) (hb : b ≤ base) : OwnE w b v l := own_base h hb
theorem OwnE.alloc (h : OwnE w base v l) (o : Obj) : OwnE (w.alloc o) base v l := World.ownsRow.alloc h o
theorem OwnE.reads {A : Option Addr} {n c : Nat} (h : OwnE w base (.slice A n c) l) : ReadsE w w.heap.size A l := by
  obtain ⟨A', c', hv, _, _, hr⟩ := own_form h
  injection hv with h1
  subst h1
  exact hr
theorem OwnE.len {A : Option Addr} {n c : Nat} (h : OwnE w base (.slice A n c) l) : n = l.length := by
  obtain ⟨A', c', hv, _, _, hr⟩ := own_form h
  injection hv
theorem OwnE.cap {A : Option Addr} {n c : Nat} (h : OwnE w base (.slice A n c) l) : l.length ≤ c ∧ c ≤ maxLen := own_cap h
theorem OwnE.nil (w : World) (base : Nat) : OwnE w base (.slice none 0 0) [] := World.ownsRow_nil _ _ _ _
theorem ReadsE.one (w : World) (e : Ent) : ReadsE (w.alloc (.cells #[.int .i64 e.view, .int .i64 e.what, .int .i64 e.a, .int .i64 e.n] 42)) (w.heap.size + 1) (some ⟨w.heap.size, 0, none⟩) [e] := by
  have := Reads.new w #[.int .i64 e.view, .int .i64 e.what, .int .i64 e.a, .int .i64 e.n] 42 (0, 0) 1 4 rfl
  simpa [ReadsE, cellsE, Ent.cells] using this
end

theorem wpList_appE {ops : Array Oper} {rest : List Oper} {o : Oper} {a : Act} {Q : Exit → Act → World → Prop} (w : World) (hgd : o.guard = none) (s x : Operand)
    (ho : o.op = .call { callee := .builtin .append, args := #[s, x], argTypes := #[31, 31] })
    (base : Nat) (v : Value) (xs : List Ent) (hs : a.eval s = v) (hown : OwnE w base v xs)
    (B : Nat) (A : Option Addr) (m c : Nat) (ys : List Ent) (hx : a.eval x = .slice A m c) (hr : ReadsE w B A ys) (hm : m = ys.length)
    (zs : List Ent) (n' : Nat) (hz : xs ++ ys = zs) (hn : zs.length = n')
    (hb : n' ≤ 4398046511104) (hbase : base ≤ w.heap.size)
    (h : ∀ A' c' w', OwnE w' base (.slice A' n' c') zs → w.grownBy w' v.ownBlock → Below base w w' →
      ((Value.slice A' n' c').ownBlock = v.ownBlock ∨ (Value.slice A' n' c').ownBlock = some w.heap.size) → wpList Try.prog ops Q rest (a.put o.dst (.slice A' n' c')) w') : wpList Try.prog ops Q (o :: rest) a w := by
  subst hm
  subst hz
  rw [List.length_append] at hn
  subst hn
  obtain ⟨i0, hi0, hz0, hz1, hz2⟩ := info_parts infoE
  refine wpList_app (P := Try.prog) w hgd s x 31 ho base 42 i0 _ 4 32 Try.underlying31 hi0 hz0 hz1 hz2 rfl (by omega) v xs.length (cellsE xs) hs hown B A ys.length c (cellsE ys) hx hr (cellsE_one ys)
    (by unfold maxLen; omega) (by omega) hbase fun A' c' w' h1 h2 h3 => h A' c' w' ?_ h2 (own_grown_below hown h2 hbase) h3
  unfold OwnE
  rw [List.length_append, cellsE_append]
  exact h1
theorem step_appE {ops : Array Oper} {o : Oper} {a : Act} {K : Act → World → Prop} {Q : Exit → Act → World → Prop} {E : Prop} (w : World) (hgd : o.guard = none) (s x : Operand)
    (ho : o.op = .call { callee := .builtin .append, args := #[s, x], argTypes := #[31, 31] })
    (base : Nat) (v : Value) (xs : List Ent) (hs : a.eval s = v) (hown : OwnE w base v xs)
    (B : Nat) (A : Option Addr) (m c : Nat) (ys : List Ent) (hx : a.eval x = .slice A m c) (hr : ReadsE w B A ys) (hm : m = ys.length)
    (zs : List Ent) (n' : Nat) (hz : xs ++ ys = zs) (hn : zs.length = n')
    (hb : n' ≤ 4398046511104) (hbase : base ≤ w.heap.size)
    (h : ∀ A' c' w', OwnE w' base (.slice A' n' c') zs → w.grownBy w' v.ownBlock → Below base w w' →
      ((Value.slice A' n' c').ownBlock = v.ownBlock ∨ (Value.slice A' n' c').ownBlock = some w.heap.size) → K (a.put o.dst (.slice A' n' c')) w') :
    if Region.wanted o (yielded ops a.tmps) = true then Oper.wp Try.prog o a w K Q else E := by
  subst hm
  subst hz
  rw [List.length_append] at hn
  subst hn
  obtain ⟨i0, hi0, hz0, hz1, hz2⟩ := info_parts infoE
  refine step_app (P := Try.prog) w hgd s x 31 ho base 42 i0 _ 4 32 Try.underlying31 hi0 hz0 hz1 hz2 rfl (by omega) v xs.length (cellsE xs) hs hown B A ys.length c (cellsE ys) hx hr (cellsE_one ys)
    (by unfold maxLen; omega) (by omega) hbase fun A' c' w' h1 h2 h3 => h A' c' w' ?_ h2 (own_grown_below hown h2 hbase) h3
  unfold OwnE
  rw [List.length_append, cellsE_append]
  exact h1
theorem ownE_setCell {w : World} {g i : Nat} {t : TypeId} {cs : Array Value} {v : Value} {xs : List Ent} {base : Nat} (h : OwnE w base v xs) (hB : Blk w g t cs) (ht : 42 ≠ t) (u : Value) :
    OwnE (w.setCell ⟨g, i, none⟩ u) base v xs :=
  World.ownsRow.kept (row := some g) h ⟨rfl, rfl, rfl, by simp [World.setCell], fun k _ hne => Below.heap_setCell w _ u k (fun e => hne (by rw [e]))⟩ (.inr (own_blk_ne h hB ht))

section
variable {w w' : World} {F G : Nat → Prop} {base g : Nat} {l : List Ent}
end
