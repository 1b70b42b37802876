/- Appending bytes, and bytes as a text, over this program. -/
import Derived.Test.YtdilccihhelilaaRows
import Derived.Test.YtdilccihhelilaaMem
import Derived.WalkKit
namespace Go.Proofs.Ytdilccihhelilaa
open Go.RowKit

theorem infoB : (Try.prog.info? 5).map (fun i => (i.zero, i.size, i.bytes)) = some (some (.int .u8 0), 1, 1) := by kernel_rfl

/-- A slice value of the call's own that reads as the bytes xs. -/
def OwnB (w : World) (base : Nat) (v : Value) (xs : List Int) : Prop := w.ownsRow base 5 1 v xs.length (cellsOf .u8 xs)

section
variable {w w' : World} {base : Nat} {v : Value} {xs : List Int}
theorem OwnB.below (h : OwnB w base v xs) (hb : Below w.heap.size w w') : OwnB w' base v xs := own_below h hb
theorem OwnB.base_ {b : Nat} (h : OwnB w base v xs) (hb : b ≤ base) : OwnB w b v xs := own_base h hb
theorem OwnB.alloc (h : OwnB w base v xs) (o : Obj) : OwnB (w.alloc o) base v xs := World.ownsRow.alloc h o
theorem OwnB.reads {A : Option Addr} {n c : Nat} (h : OwnB w base (.slice A n c) xs) : ReadsB w w.heap.size A xs := by
  obtain ⟨A', c', hv, _, _, hr⟩ := own_form h
  injection hv with h1
  subst h1
  exact hr
theorem OwnB.len {A : Option Addr} {n c : Nat} (h : OwnB w base (.slice A n c) xs) : n = xs.length := by
  obtain ⟨A', c', hv, _, _, hr⟩ := own_form h
  injection hv
theorem OwnB.cap {A : Option Addr} {n c : Nat} (h : OwnB w base (.slice A n c) xs) : xs.length ≤ c ∧ c ≤ maxLen := own_cap h
theorem OwnB.nil (w : World) (base : Nat) : OwnB w base (.slice none 0 0) [] := World.ownsRow_nil _ _ _ _
end

theorem OwnB.lit {w : World} {base : Nat} {C : Array Value} {xs : List Int} (hC : C.toList = cellsOf .u8 xs) (hb : base ≤ w.heap.size) (hm : xs.length ≤ maxLen) :
    OwnB (w.alloc (.cells C 5)) base (.slice (some ⟨w.heap.size, 0, none⟩) xs.length xs.length) xs := by
  have := World.ownsRow_lit (base := base) (e := 5) (size := 1) w C xs.length hb hm (by rw [← Array.length_toList, hC, cellsOf_length]; omega)
  unfold OwnB
  rw [← hC]
  exact this

theorem wpList_appB {ops : Array Oper} {rest : List Oper} {o : Oper} {a : Act} {Q : Exit → Act → World → Prop} (w : World) (hgd : o.guard = none) (s x : Operand)
    (ho : o.op = .call { callee := .builtin .append, args := #[s, x], argTypes := #[27, 27] })
    (base : Nat) (v : Value) (xs : List Int) (hs : a.eval s = v) (hown : OwnB w base v xs)
    (B : Nat) (A : Option Addr) (m c : Nat) (ys : List Int) (hx : a.eval x = .slice A m c) (hr : ReadsB w B A ys) (hm : m = ys.length)
    (zs : List Int) (n' : Nat) (hz : xs ++ ys = zs) (hn : zs.length = n')
    (hb : n' ≤ 140737488355328) (hbase : base ≤ w.heap.size)
    (h : ∀ A' c' w', OwnB w' base (.slice A' n' c') zs → w.grownBy w' v.ownBlock → Below base w w' →
      ((Value.slice A' n' c').ownBlock = v.ownBlock ∨ (Value.slice A' n' c').ownBlock = some w.heap.size) → wpList Try.prog ops Q rest (a.put o.dst (.slice A' n' c')) w') : wpList Try.prog ops Q (o :: rest) a w := by
  subst hm
  subst hz
  rw [List.length_append] at hn
  subst hn
  obtain ⟨i0, hi0, hz0, hz1, hz2⟩ := info_parts infoB
  refine wpList_app (P := Try.prog) w hgd s x 27 ho base 5 i0 _ 1 1 Try.underlying27 hi0 hz0 hz1 hz2 rfl (by omega) v xs.length (cellsOf .u8 xs) hs hown B A ys.length c (cellsOf .u8 ys) hx hr cellsOf_one
    (by unfold maxLen; omega) (by omega) hbase fun A' c' w' h1 h2 h3 => h A' c' w' ?_ h2 (own_grown_below hown h2 hbase) h3
  unfold OwnB
  rw [List.length_append]
  unfold cellsOf at h1 ⊢
  rw [List.map_append]
  exact h1

theorem step_appB {ops : Array Oper} {o : Oper} {a : Act} {K : Act → World → Prop} {Q : Exit → Act → World → Prop} {E : Prop} (w : World) (hgd : o.guard = none) (s x : Operand)
    (ho : o.op = .call { callee := .builtin .append, args := #[s, x], argTypes := #[27, 27] })
    (base : Nat) (v : Value) (xs : List Int) (hs : a.eval s = v) (hown : OwnB w base v xs)
    (B : Nat) (A : Option Addr) (m c : Nat) (ys : List Int) (hx : a.eval x = .slice A m c) (hr : ReadsB w B A ys) (hm : m = ys.length)
    (zs : List Int) (n' : Nat) (hz : xs ++ ys = zs) (hn : zs.length = n')
    (hb : n' ≤ 140737488355328) (hbase : base ≤ w.heap.size)
    (h : ∀ A' c' w', OwnB w' base (.slice A' n' c') zs → w.grownBy w' v.ownBlock → Below base w w' →
      ((Value.slice A' n' c').ownBlock = v.ownBlock ∨ (Value.slice A' n' c').ownBlock = some w.heap.size) → K (a.put o.dst (.slice A' n' c')) w') :
    if Region.wanted o (yielded ops a.tmps) = true then Oper.wp Try.prog o a w K Q else E := by
  subst hm
  subst hz
  rw [List.length_append] at hn
  subst hn
  obtain ⟨i0, hi0, hz0, hz1, hz2⟩ := info_parts infoB
  refine step_app (P := Try.prog) w hgd s x 27 ho base 5 i0 _ 1 1 Try.underlying27 hi0 hz0 hz1 hz2 rfl (by omega) v xs.length (cellsOf .u8 xs) hs hown B A ys.length c (cellsOf .u8 ys) hx hr cellsOf_one
    (by unfold maxLen; omega) (by omega) hbase fun A' c' w' h1 h2 h3 => h A' c' w' ?_ h2 (own_grown_below hown h2 hbase) h3
  unfold OwnB
  rw [List.length_append]
  unfold cellsOf at h1 ⊢
  rw [List.map_append]
  exact h1

theorem own_setCell {w : World} {g i : Nat} {t : TypeId} {cs : Array Value} {v : Value} {xs : List Int} {base : Nat} (h : OwnB w base v xs) (hB : Blk w g t cs) (ht : 5 ≠ t) (u : Value) :
    OwnB (w.setCell ⟨g, i, none⟩ u) base v xs :=
  World.ownsRow.kept (row := some g) h ⟨rfl, rfl, rfl, by simp [World.setCell], fun k _ hne => Below.heap_setCell w _ u k (fun e => hne (by rw [e]))⟩ (.inr (own_blk_ne h hB ht))

/-- string(b). -/
theorem run_text {w : World} {B : Nat} {A : Option Addr} {xs : List Int} (n c : Nat) (h : ReadsB w B A xs) (hn : n = xs.length) :
    (convert 27 9 (.slice A n c)).run Try.prog w = .ok (.string (strOfNums xs)) w := by
  subst hn
  rcases A with _ | ad
  · have hx : xs = [] := by
      rcases Nat.eq_zero_or_pos xs.length with h0 | h0
      · exact List.eq_nil_of_length_eq_zero h0
      · obtain ⟨_, h1, _⟩ := h.2 h0; cases h1
    subst hx
    rw [run_convert_bytes_nil w 27 5 Try.underlying27 Try.underlying5 _ _ _ Try.underlying9]
    rfl
  · have hl : (loadCells ad xs.length).run Try.prog w = .ok (xs.map (Value.int .u8)).toArray w := by
      have := run_loadCells_list (P := Try.prog) w ad (xs.map (Value.int .u8)) (fun j u hj => by
        have hlt : j < xs.length := by
          rcases Nat.lt_or_ge j xs.length with h | h
          · exact h
          · simp [List.getElem?_eq_none (show (xs.map (Value.int .u8)).length ≤ j by simpa using h)] at hj
        obtain ⟨ad', h1, _, h3⟩ := h.2 (by omega)
        injection h1 with h1
        subst h1
        exact h3 j u hj)
      simpa using this
    rw [run_convert_bytes_string w 27 9 5 _ xs.length c Try.underlying27 Try.underlying5 Try.underlying9, run_bytesToString w _ xs.length c xs hl, foldl_push_bytes]
    simp [strOfNums, ByteArray.empty, ByteArray.emptyWithCapacity]
    rfl
end Go.Proofs.Ytdilccihhelilaa
