/- Lists of instructions in memory: how they read, whether two are the same. -/
import Derived.Test.YtcinmgifadmbeaaPlain
import Derived.Test.YtcinmgifadmbeaaMem
import Derived.BigQuiet
import Derived.Laws.StructEq
import Derived.Lib.Hide
namespace Go.Proofs.Ytcinmgifadmbeaa
open Go.RowKit
set_option linter.unusedVariables false

theorem Ins.ext_ {a b : Ins} (h0 : a.at_ = b.at_) (h1 : a.op = b.op) (h2 : a.a = b.a) (h3 : a.b = b.b) (h4 : a.size = b.size) : a = b := by
  cases a
  cases b
  simp_all
noncomputable instance : DecidableEq Ins := fun a b => Classical.propDecidable _
def Ins.cells (i : Ins) : List Value := [.int .i64 i.at_, .int .i64 i.op, .int .i64 i.a, .int .i64 i.b, .int .i64 i.size]
def cellsI (l : List Ins) : List Value := l.flatMap Ins.cells
theorem cellsI_cons (e : Ins) (l : List Ins) : cellsI (e :: l) = e.cells ++ cellsI l := rfl
theorem cellsI_append (l m : List Ins) : cellsI (l ++ m) = cellsI l ++ cellsI m := List.flatMap_append
theorem cellsI_length (l : List Ins) : (cellsI l).length = l.length * 5 := by
  induction l with
  | nil => rfl
  | cons e l ih => rw [cellsI_cons, List.length_append, ih]; simp [Ins.cells]; omega
theorem cellsI_get : ∀ {l : List Ins} {k : Nat} {e : Ins}, l[k]? = some e → ∀ j, j < 5 → (cellsI l)[k * 5 + j]? = e.cells[j]?
  | [], k, e, h, _, _ => by simp at h
  | x :: l, 0, e, h, j, hj => by
    simp at h
    subst h
    rw [cellsI_cons, List.getElem?_append_left (by simp [Ins.cells]; omega)]
    simp
  | x :: l, k + 1, e, h, j, hj => by
    rw [cellsI_cons, List.getElem?_append_right (by simp [Ins.cells]; omega), show (k + 1) * 5 + j - x.cells.length = k * 5 + j from by simp [Ins.cells]; omega]
    exact cellsI_get (by simpa using h) j hj
theorem cellsI_one (l : List Ins) : ∀ u ∈ cellsI l, u.oneCell' = true := by
  intro u hu
  simp only [cellsI, List.mem_flatMap, Ins.cells] at hu
  obtain ⟨e, _, he⟩ := hu
  simp only [List.mem_cons, List.not_mem_nil, or_false] at he
  rcases he with rfl | rfl | rfl | rfl | rfl <;> rfl

/-- At this place of memory stands this instruction. -/
structure InsAt (w : World) (ad : Addr) (e : Ins) : Prop where
  c0 : w.cell? ad = some (.int .i64 e.at_)
  c1 : w.cell? ⟨ad.block, ad.off + 1, none⟩ = some (.int .i64 e.op)
  c2 : w.cell? ⟨ad.block, ad.off + 2, none⟩ = some (.int .i64 e.a)
  c3 : w.cell? ⟨ad.block, ad.off + 3, none⟩ = some (.int .i64 e.b)
  c4 : w.cell? ⟨ad.block, ad.off + 4, none⟩ = some (.int .i64 e.size)

/-- A slice of instructions that reads as l. -/
def ReadsI (w : World) (B : Nat) (A : Option Addr) (l : List Ins) : Prop := Reads w B 5 A l.length (cellsI l)
theorem ReadsI.at_ {w : World} {B : Nat} {A : Option Addr} {l : List Ins} {k : Nat} {e : Ins} (h : ReadsI w B A l) (hk : l[k]? = some e) :
    ∃ ad, A = some ad ∧ ad.block < B ∧ InsAt w (ad.add (k * 5)) e := by
  have hlt : k < l.length := (List.getElem?_eq_some_iff.1 hk).1
  obtain ⟨ad, hA, hb, hc⟩ := h.2 (by omega)
  have hg := cellsI_get hk
  refine ⟨ad, hA, hb, ⟨hc (k * 5) _ (hg 0 (by omega)), ?_, ?_, ?_, ?_⟩⟩
  · have := hc (k * 5 + 1) _ (hg 1 (by omega)); rwa [← add_of_add] at this
  · have := hc (k * 5 + 2) _ (hg 2 (by omega)); rwa [← add_of_add] at this
  · have := hc (k * 5 + 3) _ (hg 3 (by omega)); rwa [← add_of_add] at this
  · have := hc (k * 5 + 4) _ (hg 4 (by omega)); rwa [← add_of_add] at this
theorem ReadsI.nil_ (w : World) (B : Nat) : ReadsI w B none [] := Reads.none_
theorem ReadsI.drewN {w : World} {B : Nat} {A : Option Addr} {l : List Ins} (h : ReadsI w B A l) (n : Nat) : ReadsI (w.drewN n) B A l := Reads.drewN h n
theorem ReadsI.below {w w' : World} {B : Nat} {A : Option Addr} {l : List Ins} (h : ReadsI w B A l) (hb : Below B w w') : ReadsI w' B A l := Reads.below h hb
theorem takeI_next {l : List Ins} {k : Nat} {x : Ins} (h : l[k]? = some x) : l.take (k + 1) = l.take k ++ [x] := by
  rw [List.take_add_one, h]; rfl
theorem ins_at {l : List Ins} {k : Nat} (h : k < l.length) : ∃ x, l[k]? = some x := ⟨l[k], List.getElem?_eq_getElem h⟩
/-- Two instructions are the same, or where they first differ. -/
theorem ins_or (x y : Ins) : x = y ∨ (x ≠ y ∧ ((¬ x.at_ = y.at_) ∨ (x.at_ = y.at_ ∧ ¬ x.op = y.op) ∨ (x.at_ = y.at_ ∧ x.op = y.op ∧ ¬ x.a = y.a) ∨ (x.at_ = y.at_ ∧ x.op = y.op ∧ x.a = y.a ∧ ¬ x.b = y.b) ∨ (x.at_ = y.at_ ∧ x.op = y.op ∧ x.a = y.a ∧ x.b = y.b ∧ ¬ x.size = y.size))) := by
  by_cases h : x = y
  · exact .inl h
  · refine .inr ⟨h, ?_⟩
    by_cases h0 : x.at_ = y.at_
    · by_cases h1 : x.op = y.op
      · by_cases h2 : x.a = y.a
        · by_cases h3 : x.b = y.b
          · exact .inr (.inr (.inr (.inr ⟨h0, h1, h2, h3, fun h4 => h (Ins.ext_ h0 h1 h2 h3 h4)⟩)))
          · exact .inr (.inr (.inr (.inl ⟨h0, h1, h2, h3⟩)))
        · exact .inr (.inr (.inl ⟨h0, h1, h2⟩))
      · exact .inr (.inl ⟨h0, h1⟩)
    · exact .inl h0
set_option maxRecDepth 100000 in
set_option maxHeartbeats 2000000 in
theorem same07_any (A1 A2 : Option Addr) (c1 c2 : Nat) (l : List Ins) (w : World) (B1 B2 : Nat) (h1 : ReadsI w B1 A1 l) (h2 : ReadsI w B2 A2 l) (hl : l.length ≤ maxLen) :
    Calls Try.prog 28 #[.slice A1 l.length c1, .slice A2 l.length c2] w fun e w' => e = .returned (.bool true) ∧ ∃ n, w' = w.drewN n := by
  unfold maxLen at hl
  go_enter Try.func28, Try.ntmps28
  go_wp2_with fail
  go_loopw [5] (fun i wr => ∃ k : Nat, k ≤ l.length ∧ i = .int .i64 k ∧ ∃ n, wr = w.drewN n) (fun i _ => l.length - (intOf i).toNat)
  case atStart => exact ⟨0, by omega, rfl, 0, rfl⟩
  case round =>
    obtain ⟨k, hk, rfl, n, rfl⟩ := hrel
    by_cases hlt : k < l.length
    · obtain ⟨x, hx⟩ := ins_at hlt
      obtain ⟨ad1, rfl, _, e1⟩ := h1.at_ hx
      obtain ⟨ad2, rfl, _, e2⟩ := h2.at_ hx
      replace hx := Lib.hid hx
      obtain ⟨a0, a1, a2, a3, a4⟩ := e1
      obtain ⟨d0, d1, d2, d3, d4⟩ := e2
      go_wp2_with fail
      go_quiet (fail)
      go_wp2_with fail
      exact ⟨⟨k + 1, by omega, by go_num, _, rfl⟩, by simp [intOf]; omega⟩
    · obtain rfl : k = l.length := by omega
      go_wp2_with fail
      go_ret
      exact ⟨rfl, _, rfl⟩

theorem infoI : (Try.prog.info? 28).map (fun i => (i.zero, i.size, i.bytes)) = some (some (.agg #[.int .i64 0, .int .i64 0, .int .i64 0, .int .i64 0, .int .i64 0]), 5, 40) := by kernel_rfl
/-- A slice value of the call's own that reads as the instructions l. -/
def OwnI (w : World) (base : Nat) (v : Value) (l : List Ins) : Prop := w.ownsRow base 28 5 v l.length (cellsI l)
section
variable {w w' : World} {base : Nat} {v : Value} {l : List Ins}
theorem OwnI.below (h : OwnI w base v l) (hb : Below w.heap.size w w') : OwnI w' base v l := own_below h hb
theorem OwnI.base_ {b : Nat} (h : OwnI w base v l) (hb : b ≤ base) : OwnI w b v l := own_base h hb
theorem OwnI.alloc (h : OwnI w base v l) (o : Obj) : OwnI (w.alloc o) base v l := World.ownsRow.alloc h o
theorem OwnI.reads {A : Option Addr} {n c : Nat} (h : OwnI w base (.slice A n c) l) : ReadsI w w.heap.size A l := by
  obtain ⟨A', c', hv, _, _, hr⟩ := own_form h
  injection hv with h1
  subst h1
  exact hr
theorem OwnI.form (h : OwnI w base v l) : ∃ A c, v = .slice A l.length c ∧ l.length ≤ c ∧ c ≤ maxLen ∧ ReadsI w w.heap.size A l := own_form h
theorem OwnI.cap {A : Option Addr} {n c : Nat} (h : OwnI w base (.slice A n c) l) : l.length ≤ c ∧ c ≤ maxLen := own_cap h
theorem OwnI.nil (w : World) (base : Nat) : OwnI w base (.slice none 0 0) [] := World.ownsRow_nil _ _ _ _
theorem ReadsI.one (w : World) (i : Ins) : ReadsI (w.alloc (.cells #[.int .i64 i.at_, .int .i64 i.op, .int .i64 i.a, .int .i64 i.b, .int .i64 i.size] 28)) (w.heap.size + 1) (some ⟨w.heap.size, 0, none⟩) [i] := by
  have := Reads.new w #[.int .i64 i.at_, .int .i64 i.op, .int .i64 i.a, .int .i64 i.b, .int .i64 i.size] 28 (0, 0) 1 5 rfl
  simpa [ReadsI, cellsI, Ins.cells] using this
end
theorem wpList_appI {ops : Array Oper} {rest : List Oper} {o : Oper} {a : Act} {Q : Exit → Act → World → Prop} (w : World) (hgd : o.guard = none) (s x : Operand)
    (ho : o.op = .call { callee := .builtin .append, args := #[s, x], argTypes := #[43, 43] })
    (base : Nat) (v : Value) (xs : List Ins) (hs : a.eval s = v) (hown : OwnI w base v xs)
    (B : Nat) (A : Option Addr) (m c : Nat) (ys : List Ins) (hx : a.eval x = .slice A m c) (hr : ReadsI w B A ys) (hm : m = ys.length)
    (zs : List Ins) (n' : Nat) (hz : xs ++ ys = zs) (hn : zs.length = n')
    (hb : n' ≤ 3518437208883) (hbase : base ≤ w.heap.size)
    (h : ∀ A' c' w', OwnI w' base (.slice A' n' c') zs → w.grownBy w' v.ownBlock → Below base w w' →
      ((Value.slice A' n' c').ownBlock = v.ownBlock ∨ (Value.slice A' n' c').ownBlock = some w.heap.size) → wpList Try.prog ops Q rest (a.put o.dst (.slice A' n' c')) w') : wpList Try.prog ops Q (o :: rest) a w := by
  subst hm
  subst hz
  rw [List.length_append] at hn
  subst hn
  obtain ⟨i0, hi0, hz0, hz1, hz2⟩ := info_parts infoI
  refine wpList_app (P := Try.prog) w hgd s x 43 ho base 28 i0 _ 5 40 Try.underlying43 hi0 hz0 hz1 hz2 rfl (by omega) v xs.length (cellsI xs) hs hown B A ys.length c (cellsI ys) hx hr (cellsI_one ys)
    (by unfold maxLen; omega) (by omega) hbase fun A' c' w' h1 h2 h3 => h A' c' w' ?_ h2 (own_grown_below hown h2 hbase) h3
  unfold OwnI
  rw [List.length_append, cellsI_append]
  exact h1
theorem ownI_setCell {w : World} {g i : Nat} {t : TypeId} {cs : Array Value} {v : Value} {xs : List Ins} {base : Nat} (h : OwnI w base v xs) (hB : Blk w g t cs) (ht : 28 ≠ t) (u : Value) :
    OwnI (w.setCell ⟨g, i, none⟩ u) base v xs :=
  World.ownsRow.kept (row := some g) h ⟨rfl, rfl, rfl, by simp [World.setCell], fun k _ hne => Below.heap_setCell w _ u k (fun e => hne (by rw [e]))⟩ (.inr (own_blk_ne h hB ht))
end Go.Proofs.Ytcinmgifadmbeaa
