/- Logs as lists: whether one begins with another, which lists may be logs. -/
import Derived.Test.YtlehianbdamgmaaEntL
namespace Go.Proofs.Ytlehianbdamgmaa
open Go.RowKit
set_option linter.unusedVariables false

theorem bnext {a b c : World} (h : Below a.heap.size a b) (k : Below b.heap.size b c) : Below a.heap.size a c := h.trans (k.mono h.size)

/-- Does a log begin with another one? -/
def begins (l a : List Ent) : Bool := decide (l.take a.length = a)
theorem begins_no {l a : List Ent} {k : Nat} {x y : Ent} (hx : l[k]? = some x) (hy : a[k]? = some y) (h : x ≠ y) : begins l a = false := by
  refine decide_eq_false fun e => h ?_
  have hk : k < a.length := (List.getElem?_eq_some_iff.1 hy).1
  have h1 : (l.take a.length)[k]? = l[k]? := by rw [List.getElem?_take, if_pos hk]
  rw [e, hx, hy] at h1
  injection h1 with h1
  exact h1.symm
theorem begins_short {l a : List Ent} (h : l.length < a.length) : begins l a = false := by
  refine decide_eq_false fun e => ?_
  have := congrArg List.length e
  rw [List.length_take] at this
  omega
theorem begins_yes {l a : List Ent} (h : l.take a.length = a) : begins l a = true := decide_eq_true h

/-- The box of one entry that the round has made. -/
theorem entAt_box (w : World) (e : Ent) : EntAt (w.alloc (.cells #[.int .i64 e.view, .int .i64 e.what, .int .i64 e.a, .int .i64 e.n] 33)) ⟨w.heap.size, 0, none⟩ e := by
  have h := Blk.new w 33 #[.int .i64 e.view, .int .i64 e.what, .int .i64 e.a, .int .i64 e.n]
  exact ⟨h.cell 0, h.cell 1, h.cell 2, h.cell 3⟩
theorem EntAt.alloc {w : World} {ad : Addr} {e : Ent} (h : EntAt w ad e) (hl : ad.block < w.heap.size) (o : Obj) : EntAt (w.alloc o) ad e := h.keep ((Below.refl _ _).alloc (Nat.le_refl _) o) hl

set_option maxRecDepth 100000 in
set_option maxHeartbeats 2000000 in
theorem begins_any (A1 A2 : Option Addr) (c1 c2 : Nat) (l a : List Ent) (w : World) (h1 : ReadsE w w.heap.size A1 l) (h2 : ReadsE w w.heap.size A2 a) (hl : l.length ≤ maxLen) (hm : a.length ≤ maxLen) :
    Calls Try.prog 19 #[.slice A1 l.length c1, .slice A2 a.length c2] w fun e w' => e = .returned (.bool (begins l a)) ∧ Below w.heap.size w w' := by
  unfold maxLen at hl hm
  go_enter Try.func19, Try.ntmps19
  go_wp2_with fail
  go_loopw [9] (fun i wr => ∃ k : Nat, k ≤ a.length ∧ i = .int .i64 k ∧ l.take k = a.take k ∧ k ≤ l.length ∧ Below w.heap.size w wr) (fun i _ => a.length - (intOf i).toNat)
  case atStart => exact ⟨0, by omega, rfl, rfl, by omega, Below.refl _ _⟩
  case round =>
    obtain ⟨k, hk, rfl, he, hkl, hb⟩ := hrel
    replace he := Lib.hid he
    by_cases hlt : k < a.length
    · obtain ⟨y, hy⟩ := ent_at hlt
      obtain ⟨ad2, rfl, hB2, e2⟩ := h2.at_ hy
      replace hB2 : (ad2.add (k * 4)).block < w.heap.size := by rw [block_of_add]; exact hB2
      have hs := hb.size
      replace e2 := e2.keep hb hB2
      obtain ⟨d0, d1, d2, d3⟩ := e2
      have hbx := entAt_box wr y
      replace hy := Lib.hid hy
      by_cases hlt2 : k < l.length
      · have g1 : decide ((l.length : Int) ≤ (k : Int)) = false := decide_eq_false (by omega)
        have g2 : decide (l.length ≤ k) = false := decide_eq_false (by omega)
        obtain ⟨x, hx⟩ := ent_at hlt2
        obtain ⟨ad1, rfl, hB1, e1⟩ := h1.at_ hx
        replace hB1 : (ad1.add (k * 4)).block < w.heap.size := by rw [block_of_add]; exact hB1
        replace e1 := (e1.keep hb hB1).alloc (by omega) (.cells #[.int .i64 y.view, .int .i64 y.what, .int .i64 y.a, .int .i64 y.n] 33)
        replace hx := Lib.hid hx
        have hbel := hb.alloc hs (.cells #[.int .i64 y.view, .int .i64 y.what, .int .i64 y.a, .int .i64 y.n] 33)
        go_wp2_with fail
        generalize wr.alloc (.cells #[.int .i64 y.view, .int .i64 y.what, .int .i64 y.a, .int .i64 y.n] 33) = W at *
        obtain ⟨a0, a1, a2, a3⟩ := e1
        obtain ⟨b0, b1, b2, b3⟩ := hbx
        clear d0 d1 d2 d3
        rcases ent_or x y with rfl | ⟨hne, hd⟩
        · go_quiet (fail)
          go_wp2_with fail
          exact ⟨⟨k + 1, by omega, by go_num, by rw [take_next hx.out, take_next hy.out, he.out], by omega, below_drewN hbel _⟩, by simp [intOf]; omega⟩
        · have hd2 := begins_no hx.out hy.out hne
          replace hne := Lib.hid hne
          replace hd2 := Lib.hid hd2
          rcases hd with h | ⟨g0, h⟩ | ⟨g0, q1, h⟩ | ⟨g0, q1, q2, h⟩
          all_goals
            go_quiet (fail)
            go_wp2_with fail
            go_ret
            exact ⟨by rw [hd2.out]; rfl, below_drewN hbel _⟩
      · have g1 : decide ((l.length : Int) ≤ (k : Int)) = true := decide_eq_true (by omega)
        have g2 : decide (l.length ≤ k) = true := decide_eq_true (by omega)
        have hd2 := begins_short (l := l) (a := a) (by omega)
        replace hd2 := Lib.hid hd2
        have hbel := hb.alloc hs (.cells #[.int .i64 y.view, .int .i64 y.what, .int .i64 y.a, .int .i64 y.n] 33)
        go_wp2_with fail
        generalize wr.alloc (.cells #[.int .i64 y.view, .int .i64 y.what, .int .i64 y.a, .int .i64 y.n] 33) = W at *
        go_quiet (fail)
        go_wp2_with fail
        go_ret
        exact ⟨by rw [hd2.out]; rfl, below_drewN hbel _⟩
    · obtain rfl : k = a.length := by omega
      have hd2 := begins_yes (l := l) (a := a) (by rw [he.out, List.take_length])
      replace hd2 := Lib.hid hd2
      go_wp2_with fail
      go_ret
      exact ⟨by rw [hd2.out]; rfl, hb⟩

set_option maxRecDepth 100000 in
set_option maxHeartbeats 2000000 in
theorem rbegins_any (A1 A2 : Option Addr) (c1 c2 : Nat) (l a : List Ent) (w : World) (h1 : ReadsE w w.heap.size A1 l) (h2 : ReadsE w w.heap.size A2 a) (hl : l.length ≤ maxLen) (hm : a.length ≤ maxLen) :
    Calls Try.prog 29 #[.slice A1 l.length c1, .slice A2 a.length c2] w fun e w' => e = .returned (.bool (begins l a)) ∧ ∃ n, w' = w.drewN n := by
  unfold maxLen at hl hm
  by_cases hn : l.length < a.length
  · have hd2 := begins_short hn
    replace hd2 := Lib.hid hd2
    go_enter Try.func29, Try.ntmps29
    go_wp2_with fail
    go_ret
    exact ⟨by rw [hd2.out]; rfl, 0, rfl⟩
  · go_enter Try.func29, Try.ntmps29
    go_wp2_with fail
    go_loopw [5] (fun i wr => ∃ k : Nat, k ≤ a.length ∧ i = .int .i64 k ∧ l.take k = a.take k ∧ ∃ n, wr = w.drewN n) (fun i _ => a.length - (intOf i).toNat)
    case atStart => exact ⟨0, by omega, rfl, rfl, 0, rfl⟩
    case round =>
      obtain ⟨k, hk, rfl, he, n, rfl⟩ := hrel
      replace he := Lib.hid he
      by_cases hlt : k < a.length
      · have hlt2 : k < l.length := by omega
        obtain ⟨x, hx⟩ := ent_at hlt2
        obtain ⟨y, hy⟩ := ent_at hlt
        obtain ⟨ad1, rfl, _, e1⟩ := h1.at_ hx
        obtain ⟨ad2, rfl, _, e2⟩ := h2.at_ hy
        replace hx := Lib.hid hx
        replace hy := Lib.hid hy
        obtain ⟨a0, a1, a2, a3⟩ := e1
        obtain ⟨d0, d1, d2, d3⟩ := e2
        rcases ent_or x y with rfl | ⟨hne, hd⟩
        · go_wp2_with fail
          go_quiet (fail)
          go_wp2_with fail
          exact ⟨⟨k + 1, by omega, by go_num, by rw [take_next hx.out, take_next hy.out, he.out], _, rfl⟩, by simp [intOf]; omega⟩
        · have hd2 := begins_no hx.out hy.out hne
          replace hne := Lib.hid hne
          replace hd2 := Lib.hid hd2
          rcases hd with h | ⟨g0, h⟩ | ⟨g0, g1, h⟩ | ⟨g0, g1, g2, h⟩
          all_goals
            go_wp2_with fail
            go_quiet (fail)
            go_wp2_with fail
            go_ret
            exact ⟨by rw [hd2.out]; rfl, _, World.drewN_drewN _ _ _⟩
      · obtain rfl : k = a.length := by omega
        have hd2 := begins_yes (l := l) (a := a) (by rw [he.out, List.take_length])
        replace hd2 := Lib.hid hd2
        go_wp2_with fail
        go_ret
        exact ⟨by rw [hd2.out]; rfl, _, rfl⟩
