/- Which lists may be logs: store.Check and its reference. -/
import Derived.Test.YtlehianbdamgmaaStoreL
namespace Go.Proofs.Ytlehianbdamgmaa
open Go.RowKit
set_option linter.unusedVariables false

/-- Does a view fall? -/
def falls : List Ent → Bool
  | x :: y :: r => decide (y.view < x.view) || falls (y :: r)
  | _ => false
theorem falls_snoc (p : List Ent) (x y : Ent) : falls (p ++ [x, y]) = (falls (p ++ [x]) || decide (y.view < x.view)) := by
  induction p with
  | nil => simp [falls]
  | cons a p ih =>
    cases p with
    | nil => simp [falls]
    | cons b p =>
      simp only [List.cons_append, falls] at ih ⊢
      rw [ih, Bool.or_assoc]
theorem falls_take {l : List Ent} {k : Nat} {x y : Ent} (hx : l[k]? = some x) (hy : l[k + 1]? = some y) : falls (l.take (k + 1 + 1)) = (falls (l.take (k + 1)) || decide (y.view < x.view)) := by
  rw [take_next hy, take_next hx, List.append_assoc]
  exact falls_snoc _ _ _
theorem falls_one (l : List Ent) : falls (l.take 1) = false := by
  cases l with
  | nil => rfl
  | cons a l => simp [falls]
theorem falls_mono {l : List Ent} {k n : Nat} (h : falls (l.take k) = true) (hk : k ≤ n) : falls (l.take n) = true := by
  induction n with
  | zero => obtain rfl : k = 0 := by omega
            exact h
  | succ n ih =>
    rcases Nat.lt_or_ge n k with h1 | h1
    · obtain rfl : k = n + 1 := by omega
      exact h
    · have h2 := ih h1
      cases n with
      | zero => simp [falls] at h2
      | succ n =>
        rcases Nat.lt_or_ge (n + 1) l.length with h3 | h3
        · obtain ⟨y, hy⟩ := ent_at h3
          obtain ⟨x, hx⟩ := ent_at (show n < l.length by omega)
          rw [falls_take hx hy, h2]
          rfl
        · rw [List.take_of_length_le (by omega)] at h2 ⊢
          exact h2
/-- May all entries be? -/
def allOk (l : List Ent) : Bool := l.all fun e => decide e.ok
theorem allOk_next {l : List Ent} {k : Nat} {x : Ent} (h : allOk (l.take k) = true) (hx : l[k]? = some x) (ho : x.ok) : allOk (l.take (k + 1)) = true := by
  unfold allOk at *
  rw [take_next hx, List.all_append, h]
  simp [ho]
theorem allOk_no {l : List Ent} {k : Nat} {x : Ent} (hx : l[k]? = some x) (ho : ¬ x.ok) : allOk l = false := by
  unfold allOk
  rw [Bool.eq_false_iff]
  intro h
  have := List.all_eq_true.1 h x (List.mem_of_getElem? hx)
  exact ho (by simpa using this)
/-- Why a list is no log; 0: it is one. -/
def checkL (l : List Ent) : Int := if 4096 < l.length then 9 else if allOk l = false then 1 else if falls l = true then 190 else 0
theorem checkL_long {l : List Ent} (h : 4096 < l.length) : checkL l = 9 := if_pos h
theorem checkL_bad {l : List Ent} (h : ¬ 4096 < l.length) (h1 : allOk l = false) : checkL l = 1 := by unfold checkL; rw [if_neg h, if_pos h1]
theorem checkL_falls {l : List Ent} (h : ¬ 4096 < l.length) (h1 : allOk l = true) (h2 : falls l = true) : checkL l = 190 := by unfold checkL; rw [if_neg h, if_neg (by rw [h1]; decide), if_pos h2]
theorem checkL_yes {l : List Ent} (h : ¬ 4096 < l.length) (h1 : allOk l = true) (h2 : falls l = false) : checkL l = 0 := by unfold checkL; rw [if_neg h, if_neg (by rw [h1]; decide), if_neg (by rw [h2]; decide)]

/-- All entries' numbers are of their kind. -/
def InL (l : List Ent) : Prop := ∀ e ∈ l, e.In
theorem InL.at_ {l : List Ent} {k : Nat} {x : Ent} (h : InL l) (hx : l[k]? = some x) : x.In := h x (List.mem_of_getElem? hx)

set_option maxRecDepth 100000 in
set_option maxHeartbeats 2000000 in
theorem scheck_any (A : Option Addr) (c : Nat) (l : List Ent) (w : World) (h1 : ReadsE w w.heap.size A l) (hi : InL l) (hl : l.length ≤ maxLen) :
    Calls Try.prog 22 #[.slice A l.length c] w fun e w' => e = .returned (.int .i64 (checkL l)) ∧ Below w.heap.size w w' := by
  unfold maxLen at hl
  by_cases hn : 4096 < l.length
  · have hd := Lib.hid (checkL_long hn)
    go_enter Try.func22, Try.ntmps22
    go_wp2_with fail
    go_ret
    exact ⟨by rw [hd.out]; rfl, Below.refl _ _⟩
  · go_enter Try.func22, Try.ntmps22
    go_wp2_with fail
    go_loopw [11, 3] (fun i f wr => ∃ k : Nat, k ≤ l.length ∧ i = .int .i64 k ∧ f = .bool (falls (l.take k)) ∧ allOk (l.take k) = true ∧ Below w.heap.size w wr) (fun i _ _ => l.length - (intOf i).toNat)
    case atStart => exact ⟨0, by omega, rfl, rfl, rfl, Below.refl _ _⟩
    case round =>
      obtain ⟨k, hk, rfl, rfl, ho, hb⟩ := hrel
      replace ho := Lib.hid ho
      by_cases hlt : k < l.length
      · obtain ⟨x, hx⟩ := ent_at hlt
        have hxi := hi.at_ hx
        have hc := fun w => Lib.hid (check_any x w hxi)
        obtain ⟨ad, rfl, hB, e1⟩ := h1.at_ hx
        replace hB : (ad.add (k * 4)).block < w.heap.size := by rw [block_of_add]; exact hB
        have hs := hb.size
        replace e1 := e1.keep hb hB
        have hbx := entAt_box wr x
        have hbel := hb.alloc hs (.cells #[.int .i64 x.view, .int .i64 x.what, .int .i64 x.a, .int .i64 x.n] 33)
        have hlw : wr.heap.size < (wr.alloc (.cells #[.int .i64 x.view, .int .i64 x.what, .int .i64 x.a, .int .i64 x.n] 33)).heap.size := by simp
        obtain ⟨a0, a1, a2, a3⟩ := e1
        generalize hb0 : falls (l.take k) = b at *
        replace hb0 := Lib.hid hb0
        replace hx := Lib.hid hx
        by_cases hok : x.ok
        · simp only [Ent.err_yes hok] at hc
          go_wp2_with fail
          refine (hc _).out.mono ?_
          rintro e w2 ⟨rfl, hb2⟩
          generalize wr.alloc (.cells #[.int .i64 x.view, .int .i64 x.what, .int .i64 x.a, .int .i64 x.n] 33) = W at *
          have hbx2 := hbx.keep hb2 hlw
          have hbel2 := hbel.trans (hb2.mono hbel.size)
          obtain ⟨b0, b1, b2, b3⟩ := hbx2
          clear a0 a1 a2 a3 hbx
          cases b with
          | true =>
            go_wp2_with fail
            go_quiet (fail)
            go_wp2_with fail
            exact ⟨⟨k + 1, by omega, by go_num, by rw [falls_mono hb0.out (by omega)], allOk_next ho.out hx.out hok, below_drewN hbel2 _⟩, by simp [intOf]; omega⟩
          | false =>
            by_cases hk0 : k = 0
            · subst hk0
              go_wp2_with fail
              go_quiet (fail)
              go_wp2_with fail
              exact ⟨⟨0 + 1, by omega, by go_num, by rw [falls_one], allOk_next ho.out hx.out hok, below_drewN hbel2 _⟩, by simp [intOf]; omega⟩
            · obtain ⟨K, rfl⟩ : ∃ K, k = K + 1 := ⟨k - 1, by omega⟩
              obtain ⟨y, hy⟩ := ent_at (show K < l.length by omega)
              obtain ⟨_, had, _, e2⟩ := h1.at_ hy
              injection had with had
              subst had
              replace e2 := e2.keep hbel2 (by rw [block_of_add] at hB ⊢; exact hB)
              obtain ⟨d0, d1, d2, d3⟩ := e2
              have hd := Lib.hid (falls_take hy hx.out)
              have g1 : IntKind.i64.wrap (((K + 1 : Nat) : Int) - 1) = (K : Int) := by rw [IntKind.wrap_i64]; omega
              have g2 : IntKind.i64.wrap ((K : Int) + 1 - 1) = (K : Int) := by rw [IntKind.wrap_i64]; omega
              have g3 : ((K : Int) + 1 - 1) = (K : Int) := by omega
              have g4 : decide (0 < ((K + 1 : Nat) : Int)) = true := decide_eq_true (by omega)
              have g5 : decide (0 < ((K : Int) + 1)) = true := decide_eq_true (by omega)
              replace hy := Lib.hid hy
              go_wp2_with fail
              go_quiet (fail)
              go_wp2_with fail
              exact ⟨⟨K + 1 + 1, by omega, by go_num, by rw [hd.out, hb0.out]; rfl, allOk_next ho.out hx.out hok, below_drewN hbel2 _⟩, by simp [intOf]; omega⟩
        · have hd := Lib.hid (checkL_bad hn (allOk_no hx.out hok))
          simp only [Ent.err_no hok] at hc
          go_wp2_with fail
          refine (hc _).out.mono ?_
          rintro e w2 ⟨rfl, hb2⟩
          generalize wr.alloc (.cells #[.int .i64 x.view, .int .i64 x.what, .int .i64 x.a, .int .i64 x.n] 33) = W at *
          go_wp2_with fail
          go_ret
          exact ⟨by rw [hd.out]; rfl, hbel.trans (hb2.mono hbel.size)⟩
      · obtain rfl : k = l.length := by omega
        have ho' := ho.out
        rw [List.take_length] at ho'
        rw [List.take_length]
        cases hf : falls l with
        | true =>
          have hd := Lib.hid (checkL_falls hn ho' hf)
          clear hf ho'
          go_wp2_with fail
          go_ret
          exact ⟨by rw [hd.out]; rfl, hb⟩
        | false =>
          have hd := Lib.hid (checkL_yes hn ho' hf)
          clear hf ho'
          go_wp2_with fail
          go_ret
          exact ⟨by rw [hd.out]; rfl, hb⟩

set_option maxRecDepth 100000 in
set_option maxHeartbeats 2000000 in
theorem rscheck_any (A : Option Addr) (c : Nat) (l : List Ent) (w : World) (h1 : ReadsE w w.heap.size A l) (hl : l.length ≤ maxLen) :
    Calls Try.prog 27 #[.slice A l.length c] w fun e w' => e = .returned (.int .i64 (checkL l)) ∧ Below w.heap.size w w' := by
  unfold maxLen at hl
  by_cases hn : 4096 < l.length
  · have hd := Lib.hid (checkL_long hn)
    go_enter Try.func27, Try.ntmps27
    go_wp2_with fail
    go_ret
    exact ⟨by rw [hd.out]; rfl, Below.refl _ _⟩
  · go_enter Try.func27, Try.ntmps27
    go_wp2_with fail
    go_loopw [3] (fun i wr => ∃ k : Nat, k ≤ l.length ∧ i = .int .i64 k ∧ allOk (l.take k) = true ∧ Below w.heap.size w wr) (fun i _ => l.length - (intOf i).toNat)
    case atStart => exact ⟨0, by omega, rfl, rfl, Below.refl _ _⟩
    case round =>
      obtain ⟨k, hk, rfl, ho, hb⟩ := hrel
      replace ho := Lib.hid ho
      by_cases hlt : k < l.length
      · obtain ⟨x, hx⟩ := ent_at hlt
        have hc := fun w => Lib.hid (rcheck_any x w)
        obtain ⟨ad, rfl, hB, e1⟩ := h1.at_ hx
        replace hB : (ad.add (k * 4)).block < w.heap.size := by rw [block_of_add]; exact hB
        replace e1 := e1.keep hb hB
        obtain ⟨a0, a1, a2, a3⟩ := e1
        replace hx := Lib.hid hx
        by_cases hok : x.ok
        · simp only [Ent.err_yes hok] at hc
          go_wp2_with fail
          refine (hc _).out.mono ?_
          rintro e w2 ⟨rfl, hb2⟩
          go_wp2_with fail
          exact ⟨⟨k + 1, by omega, by go_num, allOk_next ho.out hx.out hok, hb.trans (hb2.mono hb.size)⟩, by simp [intOf]; omega⟩
        · have hd := Lib.hid (checkL_bad hn (allOk_no hx.out hok))
          simp only [Ent.err_no hok] at hc
          go_wp2_with fail
          refine (hc _).out.mono ?_
          rintro e w2 ⟨rfl, hb2⟩
          go_wp2_with fail
          go_ret
          exact ⟨by rw [hd.out]; rfl, hb.trans (hb2.mono hb.size)⟩
      · obtain rfl : k = l.length := by omega
        have ho' := ho.out
        rw [List.take_length] at ho'
        replace ho' := Lib.hid ho'
        clear ho
        obtain ⟨wo, rfl⟩ : ∃ wo : World, wo = wr := ⟨_, rfl⟩
        go_wp2_with fail
        go_loopw [4] (fun i wr => ∃ k : Nat, (k + 1 ≤ l.length ∨ k = 0) ∧ i = .int .i64 ((k + 1 : Nat) : Int) ∧ falls (l.take (k + 1)) = false ∧ ∃ n, wr = wo.drewN n) (fun i _ => l.length + 1 - (intOf i).toNat)
        case atStart => exact ⟨0, by omega, rfl, falls_one l, 0, rfl⟩
        case round =>
          obtain ⟨K, hK, rfl, hf, n, rfl⟩ := hrel
          replace hf := Lib.hid hf
          by_cases hlt2 : K + 1 < l.length
          · obtain ⟨x, hx⟩ := ent_at hlt2
            obtain ⟨y, hy⟩ := ent_at (show K < l.length by omega)
            obtain ⟨ad, rfl, hB, e1⟩ := h1.at_ hx
            obtain ⟨_, had, hB2, e2⟩ := h1.at_ hy
            injection had with had
            subst had
            replace e1 := e1.keep hb (by rw [block_of_add]; exact hB)
            replace e2 := e2.keep hb (by rw [block_of_add]; exact hB)
            obtain ⟨a0, a1, a2, a3⟩ := e1
            obtain ⟨d0, d1, d2, d3⟩ := e2
            have hft := Lib.hid (falls_take hy hx)
            have g1 : IntKind.i64.wrap (((K + 1 : Nat) : Int) - 1) = (K : Int) := by rw [IntKind.wrap_i64]; omega
            have g2 : IntKind.i64.wrap ((K : Int) + 1 - 1) = (K : Int) := by rw [IntKind.wrap_i64]; omega
            have g3 : ((K : Int) + 1 - 1) = (K : Int) := by omega
            replace hx := Lib.hid hx
            replace hy := Lib.hid hy
            by_cases hv : x.view < y.view
            · have hd := Lib.hid (checkL_falls hn ho'.out (by
                have := falls_mono (l := l) (k := K + 1 + 1) (n := l.length) (by rw [hft.out]; simp [hv]) (by omega)
                rwa [List.take_length] at this))
              have b1 : decide (x.view < y.view) = true := decide_eq_true hv
              go_wp2_with fail
              go_quiet (fail)
              go_wp2_with fail
              go_ret
              exact ⟨by rw [hd.out]; rfl, below_drewN (below_drewN hb _) _⟩
            · have b1 : decide (x.view < y.view) = false := decide_eq_false hv
              go_wp2_with fail
              go_quiet (fail)
              go_wp2_with fail
              exact ⟨⟨K + 1, by omega, by go_num, by rw [hft.out, hf.out, decide_eq_false (show ¬ x.view < y.view by omega)]; rfl, _, rfl⟩, by simp [intOf]; omega⟩
          · have hd := Lib.hid (checkL_yes hn ho'.out (by
              have := hf.out
              rwa [List.take_of_length_le (by omega)] at this))
            go_wp2_with fail
            go_ret
            exact ⟨by rw [hd.out]; rfl, below_drewN hb _⟩
