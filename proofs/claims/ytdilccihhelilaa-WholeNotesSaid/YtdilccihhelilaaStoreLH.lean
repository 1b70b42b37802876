/- Logs as lists: whether one begins with another, which lists may be logs. -/
import Derived.Test.YtdilccihhelilaaEntLH
namespace Go.Proofs.Ytdilccihhelilaa
open Go.RowKit
set_option linter.unusedVariables false

theorem bnext {a b c : World} (h : Below a.heap.size a b) (k : Below b.heap.size b c) : Below a.heap.size a c := h.trans (k.mono h.size)

/-- Does a log begin with another one? -/
def begins (l a : List Ent) : Bool := decide (l.take a.length = a)
theorem begins_no {l a : List Ent} {k : Nat} {x y : Ent} (hx : l[k]? = some x) (hy : a[k]? = some y) (h : x ≠ y) : begins l a = false := by
  refine decide_eq_false fun e => h ?_
  have hk : k < a.length := (List.getElem?_eq_some_iff.1 hy).1
  have h1 : (l.take a.length)[k]? = l[k]? := by rw [List.getElem?_take, if_pos hk]
  rw [e, hx, hy] at h1
  injection h1 with h1
  exact h1.symm
theorem begins_short {l a : List Ent} (h : l.length < a.length) : begins l a = false := by
  refine decide_eq_false fun e => ?_
  have := congrArg List.length e
  rw [List.length_take] at this
  omega
theorem begins_yes {l a : List Ent} (h : l.take a.length = a) : begins l a = true := decide_eq_true h

/-- The box of one entry that the round has made. -/
theorem entAt_box (w : World) (e : Ent) : EntAt (w.alloc (.cells #[.int .i64 e.view, .int .i64 e.what, .int .i64 e.a, .int .i64 e.n] 42)) ⟨w.heap.size, 0, none⟩ e := by
  have h := Blk.new w 42 #[.int .i64 e.view, .int .i64 e.what, .int .i64 e.a, .int .i64 e.n]
  exact ⟨h.cell 0, h.cell 1, h.cell 2, h.cell 3⟩
theorem EntAt.alloc {w : World} {ad : Addr} {e : Ent} (h : EntAt w ad e) (hl : ad.block < w.heap.size) (o : Obj) : EntAt (w.alloc o) ad e := h.keep ((Below.refl _ _).alloc (Nat.le_refl _) o) hl
