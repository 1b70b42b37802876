/- A map with int keys whose elements are any values: it reads as a function of its keys. -/
import Derived.Test.YtdilccihhelilaaRows
import Derived.Test.YtdilccihhelilaaMem
import Derived.Maps.OwnSet
import Derived.Maps.OwnOps
namespace Go.Proofs.Ytdilccihhelilaa
open Go.RowKit Go.Maps
set_option linter.unusedVariables false

def heldR (v : Value) : Option (DataW Value × List MemPlace) := some (.held v, [])
theorem lawI : Keyed Try.prog 3 := int_keyed Try.underlying3
/-- A number of its kind. -/
def fit64 (x : Int) : Prop := -9223372036854775808 ≤ x ∧ x < 9223372036854775808
theorem key_fit {x : Int} (h : fit64 x) : keyOf Try.prog 3 (.int .i64 x) = some (.int .i64 x) := keyOf_int_mk Try.underlying3 (WalkArith.wf_i64 (by unfold fit64 at h; omega))
/-- Block b is a map of at most n entries that holds f. -/
def MapI (w : World) (b n : Nat) (f : Int → Option Value) : Prop :=
  ∃ D : DataW Value, w.ownsMap Try.prog 3 heldR b n D ∧ ∀ x : Int, has D (.int .i64 x) = (f x).isSome ∧ ∀ z, D.atKey (.int .i64 x) z = match f x with | some v => .held v | none => z
section
variable {w w' : World} {b n : Nat} {f : Int → Option Value}
theorem MapI.made (w : World) : MapI (w.alloc (.map #[] 0)) w.heap.size 0 (fun _ => none) :=
  ⟨.map [], World.ownsMap_made _ _ _ _, fun x => ⟨rfl, fun z => rfl⟩⟩
theorem MapI.lt (h : MapI w b n f) : b < w.heap.size := by
  obtain ⟨D, h, _⟩ := h
  exact h.lt
theorem MapI.kept {row : Option Nat} (h : MapI w b n f) (hg : w.grownBy w' row) (hne : some b ≠ row) : MapI w' b n f := by
  obtain ⟨D, h, k⟩ := h
  exact ⟨D, h.kept hg hne, k⟩
theorem MapI.below (h : MapI w b n f) (hb : Below w.heap.size w w') : MapI w' b n f := h.kept (only_of_below hb none) (by simp)
theorem MapI.alloc (h : MapI w b n f) (o : Obj) : MapI (w.alloc o) b n f := h.below ((Below.refl _ _).alloc (Nat.le_refl _) o)
theorem MapI.setCell (h : MapI w b n f) {p : Addr} (hp : b ≠ p.block) (u : Value) : MapI (w.setCell p u) b n f := by
  obtain ⟨D, h, k⟩ := h
  exact ⟨D, h.setCell hp u, k⟩
theorem MapI.turned {F : Nat → Prop} (h : MapI w b n f) (k : Turned F w w') (hF : ¬ F b) : MapI w' b n f := by
  obtain ⟨D, ⟨es, clock, hb, r⟩, h2⟩ := h
  exact ⟨D, ⟨es, clock, (k.block b (Array.getElem?_eq_some_iff.1 hb).1 hF).trans hb, r⟩, h2⟩
theorem MapI.more {m : Nat} (h : MapI w b n f) (hn : n ≤ m) : MapI w b m f := by
  obtain ⟨D, h, k⟩ := h
  exact ⟨D, h.mono hn, k⟩
theorem MapI.congr {g : Int → Option Value} (h : MapI w b n f) (e : ∀ x, f x = g x) : MapI w b n g := by
  obtain rfl : f = g := funext e
  exact h
/-- v, ok := m[x] -/
theorem MapI.look_ok {T E : TypeId} (h : MapI w b n f) (ht : Try.prog.underlying T = some (.map 3 E)) {z : Value} (hz : (zeroValue E).run Try.prog w = .ok z w) {x : Int} (hx : fit64 x) :
    (Instr.lookup T (.map (some b)) (.int .i64 x) true).run Try.prog w = .ok (.tuple #[(f x).getD z, .bool (f x).isSome]) w := by
  obtain ⟨D, hD, k⟩ := h
  obtain ⟨v, ps, hrun, hv⟩ := hD.look_ok lawI ht hz (zd := .held z) (zp := []) rfl (key_fit hx)
  obtain ⟨k1, k2⟩ := k x
  rw [hrun, k1]
  rw [k2] at hv
  cases hfx : f x with
  | none =>
    rw [hfx] at hv
    simp only [heldR, Option.some.injEq, Prod.mk.injEq, DataW.held.injEq] at hv
    rw [hv.1]
    rfl
  | some u =>
    rw [hfx] at hv
    simp only [heldR, Option.some.injEq, Prod.mk.injEq, DataW.held.injEq] at hv
    rw [hv.1]
    rfl
/-- m[x] -/
theorem MapI.look {T E : TypeId} (h : MapI w b n f) (ht : Try.prog.underlying T = some (.map 3 E)) {z : Value} (hz : (zeroValue E).run Try.prog w = .ok z w) {x : Int} (hx : fit64 x) :
    (Instr.lookup T (.map (some b)) (.int .i64 x) false).run Try.prog w = .ok ((f x).getD z) w := by
  obtain ⟨D, hD, k⟩ := h
  obtain ⟨v, ps, hrun, hv⟩ := hD.lookup lawI ht hz (zd := .held z) (zp := []) rfl (key_fit hx)
  obtain ⟨k1, k2⟩ := k x
  rw [hrun]
  rw [k2] at hv
  cases hfx : f x with
  | none =>
    rw [hfx] at hv
    simp only [heldR, Option.some.injEq, Prod.mk.injEq, DataW.held.injEq] at hv
    rw [hv.1]
    rfl
  | some u =>
    rw [hfx] at hv
    simp only [heldR, Option.some.injEq, Prod.mk.injEq, DataW.held.injEq] at hv
    rw [hv.1]
    rfl
theorem keyI_ne {x y : Int} (h : y ≠ x) : Lit.int .i64 y ≠ Lit.int .i64 x := fun e => h (by injection e)
theorem MapI.set_ {T E : TypeId} (h : MapI w b n f) (ht : Try.prog.underlying T = some (.map 3 E)) (hn : n < maxLen) {x : Int} (hx : fit64 x) (v : Value) :
    ∃ w', (Instr.mapUpdate T (.map (some b)) (.int .i64 x) v).run Try.prog w = .ok () w' ∧ MapI w' b (n + 1) (fun y => if y = x then some v else f y) ∧ w.grownBy w' (some b) := by
  obtain ⟨D, hD, k⟩ := h
  obtain ⟨w', hrun, h1, h2⟩ := hD.update (val := v) (d := .held v) (ps := []) lawI ht hn (key_fit hx) rfl
  refine ⟨w', hrun, ⟨_, h1, fun y => ?_⟩, h2⟩
  by_cases e : y = x
  · subst e
    simp only [if_true]
    exact ⟨has_put_same hD.isMap (show WideAt.IsKeyLit (Lit.int .i64 _) from trivial) _, fun z => atKey_put_same hD.isMap (show WideAt.IsKeyLit (Lit.int .i64 _) from trivial) _ z⟩
  · simp only [if_neg e]
    exact ⟨(has_put_other (keyI_ne e) _).trans (k y).1, fun z => (atKey_put_other (keyI_ne e) _ z).trans ((k y).2 z)⟩
theorem MapI.del_ {T E : TypeId} (h : MapI w b n f) (ht : Try.prog.underlying T = some (.map 3 E)) {x : Int} (hx : fit64 x) (ty : TypeId) :
    ∃ w', (Builtin.delete_ #[T, 3] ty #[.map (some b), .int .i64 x]).run Try.prog w = .ok (.tuple #[]) w' ∧ MapI w' b n (fun y => if y = x then none else f y) ∧ w.grownBy w' (some b) := by
  obtain ⟨D, hD, k⟩ := h
  obtain ⟨w', hrun, h1, h2⟩ := hD.drop lawI ht (key_fit hx) ty
  refine ⟨w', hrun, ⟨_, h1, fun y => ?_⟩, h2.grown⟩
  by_cases e : y = x
  · subst e
    simp only [if_true]
    exact ⟨has_del_same, fun z => atKey_del_same z⟩
  · simp only [if_neg e]
    exact ⟨(has_del_other (keyI_ne e)).trans (k y).1, fun z => (atKey_del_other (keyI_ne e) z).trans ((k y).2 z)⟩
end
/-- m[x] = v, in a walk. -/
theorem wpList_setI {ops : Array Oper} {rest : List Oper} {o : Oper} {a : Act} {Q : Exit → Act → World → Prop} (w : World) (hg : o.guard = none) (m x v : Operand) (T E : TypeId) (hop : o.op = Op.mapUpdate T m x v)
    (ht : Try.prog.underlying T = some (.map 3 E)) (b n : Nat) (f : Int → Option Value) (hm : a.eval m = .map (some b)) (h : MapI w b n f) (hn : n < maxLen) (y : Int) (hy : fit64 y) (u : Value) (hx : a.eval x = .int .i64 y) (hv : a.eval v = u)
    (hK : ∀ w', MapI w' b (n + 1) (fun z => if z = y then some u else f z) → w.grownBy w' (some b) → wpList Try.prog ops Q rest (a.put o.dst undef) w') :
    wpList Try.prog ops Q (o :: rest) a w := by
  refine wpList_plain hg fun K' hK' => ?_
  obtain ⟨w', hrun, r1, r2⟩ := h.set_ ht hn hy u
  unfold Oper.wp
  simp [execOp, hop, hm, hx, hv, hrun, Result.andThen]
  exact hK' _ _ (hK w' r1 r2)
/-- delete(m, x), in a walk. -/
theorem wpList_delI {ops : Array Oper} {rest : List Oper} {o : Oper} {a : Act} {Q : Exit → Act → World → Prop} (w : World) (hg : o.guard = none) (m x : Operand) (T E : TypeId) (hop : o.op = Op.call { callee := Callee.builtin Builtin.delete, args := #[m, x], argTypes := #[T, 3] })
    (ht : Try.prog.underlying T = some (.map 3 E)) (b n : Nat) (f : Int → Option Value) (hm : a.eval m = .map (some b)) (h : MapI w b n f) (y : Int) (hy : fit64 y) (hx : a.eval x = .int .i64 y)
    (hK : ∀ w', MapI w' b n (fun z => if z = y then none else f z) → w.grownBy w' (some b) → wpList Try.prog ops Q rest (a.put o.dst (.tuple #[])) w') :
    wpList Try.prog ops Q (o :: rest) a w := by
  refine wpList_plain hg fun K' hK' => ?_
  obtain ⟨w', hrun, r1, r2⟩ := h.del_ ht hy o.type
  unfold Oper.wp
  simp [execOp, hop, resolve, invoke, builtin, hm, hx, hrun, Result.andThen]
  exact hK' _ _ (hK w' r1 r2)
end Go.Proofs.Ytdilccihhelilaa
