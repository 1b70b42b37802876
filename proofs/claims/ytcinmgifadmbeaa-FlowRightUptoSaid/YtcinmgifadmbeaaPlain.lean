/- An instruction's plain form, as the program and as the reference give it. -/
import Derived.Test.YtcinmgifadmbeaaOpsAwake
namespace Go.Proofs.Ytcinmgifadmbeaa
open Go.RowKit
set_option linter.unusedVariables false

/-- An instruction's value: its five cells. -/
structure Ins where
  at_ : Int
  op : Int
  a : Int
  b : Int
  size : Int
def Ins.val (i : Ins) : Value := .agg #[.int .i64 i.at_, .int .i64 i.op, .int .i64 i.a, .int .i64 i.b, .int .i64 i.size]
def in64 (x : Int) : Prop := -9223372036854775808 ≤ x ∧ x < 9223372036854775808
structure Ins.In (i : Ins) : Prop where
  at_ : in64 i.at_
  op : in64 i.op
  a : in64 i.a
  b : in64 i.b
  size : in64 i.size

/-- Codes in a row that are one with a number: the first, how many, the code, the least number. -/
def plainRows : List (Int × Int × Int × Int) := [(2, 7, 17, -1), (10, 1, 9, 1), (26, 4, 21, 0), (30, 4, 22, 0), (42, 4, 25, 0), (59, 4, 54, 0), (63, 4, 55, 0), (75, 4, 58, 0)]
def plainOf (i : Ins) : List (Int × Int × Int × Int) → Ins
  | [] => i
  | r :: rs => if r.1 ≤ i.op ∧ i.op < r.1 + r.2.1 then ⟨i.at_, r.2.2.1, i.op - r.1 + r.2.2.2, 0, i.size⟩ else plainOf i rs
def plainI (i : Ins) : Ins := if i.op = 16 then ⟨i.at_, 17, i.a, 0, i.size⟩ else plainOf i plainRows

def rowVal (r : Int × Int × Int × Int) : List Value := [.int .i64 r.1, .int .i64 r.2.1, .int .i64 r.2.2.1, .int .i64 r.2.2.2]
set_option maxRecDepth 100000 in
theorem row_index {j : Nat} {r : Int × Int × Int × Int} (h : plainRows[j]? = some r) (w : World) :
    (Instr.index 73 (.agg #[.int .i64 2, .int .i64 7, .int .i64 17, .int .i64 (-1), .int .i64 10, .int .i64 1, .int .i64 9, .int .i64 1, .int .i64 26, .int .i64 4, .int .i64 21, .int .i64 0, .int .i64 30, .int .i64 4, .int .i64 22, .int .i64 0, .int .i64 42, .int .i64 4, .int .i64 25, .int .i64 0, .int .i64 59, .int .i64 4, .int .i64 54, .int .i64 0, .int .i64 63, .int .i64 4, .int .i64 55, .int .i64 0, .int .i64 75, .int .i64 4, .int .i64 58, .int .i64 0]) (.int .i64 j)).run Try.prog w = .ok (.agg #[.int .i64 r.1, .int .i64 r.2.1, .int .i64 r.2.2.1, .int .i64 r.2.2.2]) w := by
  have hj : j < 8 := (List.getElem?_eq_some_iff.1 h).1
  have : j = 0 ∨ j = 1 ∨ j = 2 ∨ j = 3 ∨ j = 4 ∨ j = 5 ∨ j = 6 ∨ j = 7 := by omega
  rcases this with rfl | rfl | rfl | rfl | rfl | rfl | rfl | rfl <;> (simp [plainRows] at h; subst h; show Sem.run _ _ _ = _; kernel_rfl)

def hits (op : Int) (r : Int × Int × Int × Int) : Prop := r.1 ≤ op ∧ op < r.1 + r.2.1
def NoHit (op : Int) (l : List (Int × Int × Int × Int)) (j : Nat) : Prop := ∀ m r, m < j → l[m]? = some r → ¬ hits op r
theorem plainOf_hit {i : Ins} : ∀ {l : List (Int × Int × Int × Int)} {j : Nat} {r : Int × Int × Int × Int}, l[j]? = some r → NoHit i.op l j → hits i.op r → plainOf i l = ⟨i.at_, r.2.2.1, i.op - r.1 + r.2.2.2, 0, i.size⟩
  | [], j, r, h, _, _ => by simp at h
  | x :: l, 0, r, h, _, hh => by
    simp at h
    subst h
    exact if_pos hh
  | x :: l, j + 1, r, h, hn, hh => by
    rw [plainOf, if_neg (show ¬ (x.1 ≤ i.op ∧ i.op < x.1 + x.2.1) from hn 0 x (by omega) rfl)]
    exact plainOf_hit (j := j) (by simpa using h) (fun m r' hm hr' => hn (m + 1) r' (by omega) (by simpa using hr')) hh
theorem plainOf_none {i : Ins} : ∀ {l : List (Int × Int × Int × Int)}, NoHit i.op l l.length → plainOf i l = i
  | [], _ => rfl
  | x :: l, hn => by
    rw [plainOf, if_neg (show ¬ (x.1 ≤ i.op ∧ i.op < x.1 + x.2.1) from hn 0 x (by simp) rfl)]
    exact plainOf_none (fun m r' hm hr' => hn (m + 1) r' (by simp; omega) (by simpa using hr'))
theorem NoHit.next {op : Int} {l : List (Int × Int × Int × Int)} {j : Nat} {r : Int × Int × Int × Int} (h : NoHit op l j) (hr : l[j]? = some r) (hn : ¬ hits op r) : NoHit op l (j + 1) := by
  intro m r' hm hr'
  by_cases e : m = j
  · subst e; rw [hr] at hr'; injection hr' with hr'; subst hr'; exact hn
  · exact h m r' (by omega) hr'

theorem row_in {j : Nat} {r : Int × Int × Int × Int} (h : plainRows[j]? = some r) : 0 ≤ r.1 ∧ r.1 < 100 ∧ 0 < r.2.1 ∧ r.2.1 < 10 ∧ -1 ≤ r.2.2.2 ∧ r.2.2.2 ≤ 1 := by
  have hm := List.mem_of_getElem? h
  have : ∀ r ∈ plainRows, 0 ≤ r.1 ∧ r.1 < 100 ∧ 0 < r.2.1 ∧ r.2.1 < 10 ∧ -1 ≤ r.2.2.2 ∧ r.2.2.2 ≤ 1 := by decide
  exact this r hm

structure PW (w : World) (i : Ins) (wr : World) : Prop where
  box : Blk wr w.heap.size 28 #[.int .i64 i.at_, .int .i64 i.op, .int .i64 i.a, .int .i64 i.b, .int .i64 i.size]
  out : Blk wr (w.heap.size + 1) 28 #[.int .i64 0, .int .i64 0, .int .i64 0, .int .i64 0, .int .i64 0]
  below : Below w.heap.size w wr

set_option maxRecDepth 100000 in
set_option maxHeartbeats 1000000 in
theorem plain_any (i : Ins) (w : World) (hi : i.In) :
    Calls Try.prog 20 #[i.val] w fun e w' => e = .returned (plainI i).val ∧ Below w.heap.size w w' := by
  obtain ⟨_, ⟨ho0, ho1⟩, _, _, _⟩ := hi
  by_cases h16 : i.op = 16
  · obtain ⟨at_, op, a, b, size⟩ := i
    unfold plainI
    rw [if_pos h16]
    unfold Ins.val
    dsimp only at *
    subst h16
    clear ho0 ho1
    go_enter Try.func20, Try.ntmps20
    go_wp2_with fail
    exact bodyPost_ret (v := .agg #[.int .i64 at_, .int .i64 17, .int .i64 a, .int .i64 0, .int .i64 size]) (by simp [results, Try.results20, go_sem]) rfl ⟨rfl, ((Below.refl _ _).alloc (Nat.le_refl _) _).alloc (by simp) _⟩
  · unfold plainI
    rw [if_neg h16]
    have b16 : (i.op == 16) = false := by rw [beq_eq_false_iff_ne]; exact h16
    unfold Ins.val
    clear h16
    have ho : in64 i.op := ⟨ho0, ho1⟩
    replace ho := Lib.hid ho
    clear ho0 ho1
    go_enter Try.func20, Try.ntmps20
    go_wp2_with fail
    go_loopw [25] (fun x wr => ∃ j : Nat, j ≤ 8 ∧ x = .int .i64 j ∧ PW w i wr ∧ NoHit i.op plainRows j) (fun x _ => 8 - (intOf x).toNat)
    case atStart => exact ⟨0, by omega, rfl, ⟨(Blk.new w _ _).alloc _, by simpa using Blk.new (w.alloc (.cells _ 28)) _ _, ((Below.refl _ _).alloc (Nat.le_refl _) _).alloc (by simp) _⟩, fun m r hm => by omega⟩
    case round =>
      obtain ⟨j, hj, rfl, hP, hN⟩ := hrel
      replace hN := Lib.hid hN
      have lt0 := hP.box.lt
      have lt1 := hP.out.lt
      have c0 := hP.box.cell 0
      have c1 := hP.box.cell 1
      have c2 := hP.box.cell 2
      have c3 := hP.box.cell 3
      have c4 := hP.box.cell 4
      simp only [List.getElem?_toArray, List.getElem?_cons_zero, List.getElem?_cons_succ] at c0 c1 c2 c3 c4
      have o0 := hP.out.cell 0
      have o1 := hP.out.cell 1
      have o2 := hP.out.cell 2
      have o3 := hP.out.cell 3
      have o4 := hP.out.cell 4
      simp only [List.getElem?_toArray, List.getElem?_cons_zero, List.getElem?_cons_succ] at o0 o1 o2 o3 o4
      have q0 := hP.out.frozen 0
      have q1 := hP.out.frozen 1
      have q2 := hP.out.frozen 2
      have q3 := hP.out.frozen 3
      have q4 := hP.out.frozen 4
      by_cases hlt : j < 8
      · obtain ⟨r, hr⟩ : ∃ r, plainRows[j]? = some r := ⟨plainRows[j]'hlt, List.getElem?_eq_getElem hlt⟩
        have hx := fun w => row_index hr w
        replace hr := Lib.hid hr
        obtain ⟨r0, r1, r2, r3, r4, r5⟩ := row_in hr.out
        obtain ⟨ho0, ho1⟩ := ho.out
        by_cases hh : hits i.op r
        · have hw : wrap64 (i.op - r.1) = i.op - r.1 := by unfold hits at hh; unfold wrap64; omega
          have hw2 : wrap64 (i.op - r.1 + r.2.2.2) = i.op - r.1 + r.2.2.2 := by unfold hits at hh; unfold wrap64; omega
          have d1 : decide (0 ≤ i.op - r.1) = true := decide_eq_true (by unfold hits at hh; omega)
          have d2 : decide (i.op - r.1 < r.2.1) = true := decide_eq_true (by unfold hits at hh; omega)
          replace hh := Lib.hid hh
          clear ho0 ho1 r0 r1 r2 r3 r4 r5
          have e := plainOf_hit hr.out hN.out hh.out
          replace e := Lib.hid e
          go_wp2_with fail
          case roundEnd =>
            exfalso
            have := hh.out
            unfold hits at this
            omega
          · exact bodyPost_ret (v := .agg #[.int .i64 i.at_, .int .i64 r.2.2.1, .int .i64 (i.op - r.1 + r.2.2.2), .int .i64 0, .int .i64 i.size]) (by simp [results, Try.results20, go_sem, o0, o1, o2, o3, o4, lt1]) rfl ⟨by rw [e.out], (((((hP.below.setCell (by simp) _).setCell (by simp) _).setCell (by simp) _).setCell (by simp) _).setCell (by simp) _).alloc (by simpa using hP.below.size) _⟩
        · have d : (decide (0 ≤ wrap64 (i.op - r.1)) = true ∧ decide (wrap64 (i.op - r.1) < r.2.1) = false) ∨ decide (0 ≤ wrap64 (i.op - r.1)) = false := by
            unfold hits at hh
            unfold wrap64
            simp only [decide_eq_true_eq, decide_eq_false_iff_not]
            omega
          replace hh := Lib.hid hh
          clear ho0 ho1 r0 r1 r2 r3 r4 r5
          rcases d with ⟨d1, d2⟩ | d1
          · go_wp2_with fail
            all_goals exact ⟨⟨j + 1, by omega, by go_num, ⟨hP.box.alloc _, hP.out.alloc _, hP.below.alloc hP.below.size _⟩, NoHit.next hN.out hr.out hh.out⟩, by simp [intOf]; omega⟩
          · go_wp2_with fail
            all_goals exact ⟨⟨j + 1, by omega, by go_num, ⟨hP.box.alloc _, hP.out.alloc _, hP.below.alloc hP.below.size _⟩, NoHit.next hN.out hr.out hh.out⟩, by simp [intOf]; omega⟩
      · obtain rfl : j = 8 := by omega
        have e := plainOf_none (l := plainRows) hN.out
        replace e := Lib.hid e
        go_wp2_with fail
        exact bodyPost_ret (v := .agg #[.int .i64 i.at_, .int .i64 i.op, .int .i64 i.a, .int .i64 i.b, .int .i64 i.size]) (by simp [results, Try.results20, go_sem, o0, o1, o2, o3, o4]) rfl ⟨by rw [e.out], ((((hP.below.setCell (by simp) _).setCell (by simp) _).setCell (by simp) _).setCell (by simp) _).setCell (by simp) _⟩
