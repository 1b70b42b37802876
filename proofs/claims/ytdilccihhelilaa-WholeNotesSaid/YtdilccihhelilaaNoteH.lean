/- A note: what is wrong with it. -/
import Derived.Test.YtdilccihhelilaaGetPH
import Derived.Test.YtdilccihhelilaaErrJ
import Derived.Test.YtdilccihhelilaaStoreCH
namespace Go.Proofs.Ytdilccihhelilaa
open Go.RowKit
set_option linter.unusedVariables false
set_option linter.unusedSimpArgs false

/-- What 'check' answers: nothing, or a fault of this number. -/
def CPost (w : World) (code : Int) (e : Ending) (w' : World) : Prop := Below w.heap.size w w' ∧ ((code = 0 ∧ e = .returned .nilIface) ∨ (code ≠ 0 ∧ ∃ g, e = .returned (joinV g) ∧ JoinAt w' g code))
set_option maxRecDepth 100000 in
set_option maxHeartbeats 4000000 in
theorem chk_neg (what view n : Int) (A : Option Addr) (c : Nat) (es : List Ent) (w : World) (hr : ReadsE w w.heap.size A es) (hi : InL es) (hv : in64 view) (hn : in64 n) (hm : es.length ≤ maxLen) (h : what < 0) : Calls Try.prog 18 #[.agg #[.int .i64 what, .int .i64 view, .int .i64 n, .slice A es.length c]] w (CPost w 1) := by
  have hN0 := Blk.new w 33 #[.int .i64 what, .int .i64 view, .int .i64 n, .slice A es.length c]
  have hB0 : Below w.heap.size w (w.alloc (.cells #[.int .i64 what, .int .i64 view, .int .i64 n, .slice A es.length c] 33)) := (Below.refl _ _).alloc (Nat.le_refl _) _
  have gv := fun w => Lib.hid (bits_any view w hv)
  have gn := fun w => Lib.hid (bits_any n w hn)
  have b1 : decide (what < 0) = true := decide_eq_true (by omega)
  go_enter Try.func18, Try.ntmps18
  go_wp2_with fail
  refine (fault_any 1 _).mono ?_
  rintro _ y ⟨jg, rfl, hJ, _, hy⟩
  go_wp2_with fail
  refine bodyPost_ret (v := joinV jg) (by unfold joinV; simp [results, Try.results18, go_sem]) rfl ?_
  exact ⟨hB0.trans (hy.mono hB0.size), .inr ⟨by decide, jg, rfl, hJ⟩⟩
set_option maxRecDepth 100000 in
set_option maxHeartbeats 4000000 in
theorem chk_big (what view n : Int) (A : Option Addr) (c : Nat) (es : List Ent) (w : World) (hr : ReadsE w w.heap.size A es) (hi : InL es) (hv : in64 view) (hn : in64 n) (hm : es.length ≤ maxLen) (h : ¬ what < 0) (h2 : 5 < what) : Calls Try.prog 18 #[.agg #[.int .i64 what, .int .i64 view, .int .i64 n, .slice A es.length c]] w (CPost w 1) := by
  have hN0 := Blk.new w 33 #[.int .i64 what, .int .i64 view, .int .i64 n, .slice A es.length c]
  have hB0 : Below w.heap.size w (w.alloc (.cells #[.int .i64 what, .int .i64 view, .int .i64 n, .slice A es.length c] 33)) := (Below.refl _ _).alloc (Nat.le_refl _) _
  have gv := fun w => Lib.hid (bits_any view w hv)
  have gn := fun w => Lib.hid (bits_any n w hn)
  have b1 : decide (what < 0) = false := decide_eq_false (by omega)
  have b2 : decide (5 < what) = true := decide_eq_true (by omega)
  go_enter Try.func18, Try.ntmps18
  go_wp2_with fail
  refine (fault_any 1 _).mono ?_
  rintro _ y ⟨jg, rfl, hJ, _, hy⟩
  go_wp2_with fail
  refine bodyPost_ret (v := joinV jg) (by unfold joinV; simp [results, Try.results18, go_sem]) rfl ?_
  exact ⟨hB0.trans (hy.mono hB0.size), .inr ⟨by decide, jg, rfl, hJ⟩⟩
set_option maxRecDepth 100000 in
set_option maxHeartbeats 4000000 in
theorem chk_view (what view n : Int) (A : Option Addr) (c : Nat) (es : List Ent) (w : World) (hr : ReadsE w w.heap.size A es) (hi : InL es) (hv : in64 view) (hn : in64 n) (hm : es.length ≤ maxLen) (h : ¬ what < 0) (h2 : ¬ 5 < what) (h3 : inV view = false) : Calls Try.prog 18 #[.agg #[.int .i64 what, .int .i64 view, .int .i64 n, .slice A es.length c]] w (CPost w 1) := by
  have hN0 := Blk.new w 33 #[.int .i64 what, .int .i64 view, .int .i64 n, .slice A es.length c]
  have hB0 : Below w.heap.size w (w.alloc (.cells #[.int .i64 what, .int .i64 view, .int .i64 n, .slice A es.length c] 33)) := (Below.refl _ _).alloc (Nat.le_refl _) _
  have gv := fun w => Lib.hid (bits_any view w hv)
  have gn := fun w => Lib.hid (bits_any n w hn)
  have b1 : decide (what < 0) = false := decide_eq_false (by omega)
  have b2 : decide (5 < what) = false := decide_eq_false (by omega)
  rw [h3] at gv
  go_enter Try.func18, Try.ntmps18
  go_wp2_with fail
  refine (gv _).out.mono ?_
  rintro _ _ ⟨rfl, rfl⟩
  go_wp2_with fail
  refine (fault_any 1 _).mono ?_
  rintro _ y ⟨jg, rfl, hJ, _, hy⟩
  go_wp2_with fail
  refine bodyPost_ret (v := joinV jg) (by unfold joinV; simp [results, Try.results18, go_sem]) rfl ?_
  exact ⟨hB0.trans (hy.mono hB0.size), .inr ⟨by decide, jg, rfl, hJ⟩⟩
set_option maxRecDepth 100000 in
set_option maxHeartbeats 4000000 in
theorem chk_n (what view n : Int) (A : Option Addr) (c : Nat) (es : List Ent) (w : World) (hr : ReadsE w w.heap.size A es) (hi : InL es) (hv : in64 view) (hn : in64 n) (hm : es.length ≤ maxLen) (h : ¬ what < 0) (h2 : ¬ 5 < what) (h3 : inV view = true) (h4 : inV n = false) : Calls Try.prog 18 #[.agg #[.int .i64 what, .int .i64 view, .int .i64 n, .slice A es.length c]] w (CPost w 1) := by
  have hN0 := Blk.new w 33 #[.int .i64 what, .int .i64 view, .int .i64 n, .slice A es.length c]
  have hB0 : Below w.heap.size w (w.alloc (.cells #[.int .i64 what, .int .i64 view, .int .i64 n, .slice A es.length c] 33)) := (Below.refl _ _).alloc (Nat.le_refl _) _
  have gv := fun w => Lib.hid (bits_any view w hv)
  have gn := fun w => Lib.hid (bits_any n w hn)
  have b1 : decide (what < 0) = false := decide_eq_false (by omega)
  have b2 : decide (5 < what) = false := decide_eq_false (by omega)
  rw [h3] at gv
  rw [h4] at gn
  go_enter Try.func18, Try.ntmps18
  go_wp2_with fail
  refine (gv _).out.mono ?_
  rintro _ _ ⟨rfl, rfl⟩
  go_wp2_with fail
  refine (gn _).out.mono ?_
  rintro _ _ ⟨rfl, rfl⟩
  go_wp2_with fail
  refine (fault_any 1 _).mono ?_
  rintro _ y ⟨jg, rfl, hJ, _, hy⟩
  go_wp2_with fail
  refine bodyPost_ret (v := joinV jg) (by unfold joinV; simp [results, Try.results18, go_sem]) rfl ?_
  exact ⟨hB0.trans (hy.mono hB0.size), .inr ⟨by decide, jg, rfl, hJ⟩⟩
set_option maxRecDepth 100000 in
set_option maxHeartbeats 4000000 in
theorem chk_long (what view n : Int) (A : Option Addr) (c : Nat) (es : List Ent) (w : World) (hr : ReadsE w w.heap.size A es) (hi : InL es) (hv : in64 view) (hn : in64 n) (hm : es.length ≤ maxLen) (h : ¬ what < 0) (h2 : ¬ 5 < what) (h3 : inV view = true) (h4 : inV n = true) (h5 : 4096 < es.length) : Calls Try.prog 18 #[.agg #[.int .i64 what, .int .i64 view, .int .i64 n, .slice A es.length c]] w (CPost w 2) := by
  have hN0 := Blk.new w 33 #[.int .i64 what, .int .i64 view, .int .i64 n, .slice A es.length c]
  have hB0 : Below w.heap.size w (w.alloc (.cells #[.int .i64 what, .int .i64 view, .int .i64 n, .slice A es.length c] 33)) := (Below.refl _ _).alloc (Nat.le_refl _) _
  have gv := fun w => Lib.hid (bits_any view w hv)
  have gn := fun w => Lib.hid (bits_any n w hn)
  have b1 : decide (what < 0) = false := decide_eq_false (by omega)
  have b2 : decide (5 < what) = false := decide_eq_false (by omega)
  rw [h3] at gv
  rw [h4] at gn
  have b3 : decide (4096 < (es.length : Int)) = true := decide_eq_true (by omega)
  go_enter Try.func18, Try.ntmps18
  go_wp2_with fail
  refine (gv _).out.mono ?_
  rintro _ _ ⟨rfl, rfl⟩
  go_wp2_with fail
  refine (gn _).out.mono ?_
  rintro _ _ ⟨rfl, rfl⟩
  go_wp2_with fail
  refine (fault_any 2 _).mono ?_
  rintro _ y ⟨jg, rfl, hJ, _, hy⟩
  go_wp2_with fail
  refine bodyPost_ret (v := joinV jg) (by unfold joinV; simp [results, Try.results18, go_sem]) rfl ?_
  exact ⟨hB0.trans (hy.mono hB0.size), .inr ⟨by decide, jg, rfl, hJ⟩⟩
set_option maxRecDepth 100000 in
set_option maxHeartbeats 4000000 in
theorem chk_loop (what view n : Int) (A : Option Addr) (c : Nat) (es : List Ent) (w : World) (hr : ReadsE w w.heap.size A es) (hi : InL es) (hv : in64 view) (hn : in64 n) (hm : es.length ≤ maxLen) (h : ¬ what < 0) (h2 : ¬ 5 < what) (h3 : inV view = true) (h4 : inV n = true) (h5 : ¬ 4096 < es.length) (code : Int) (hcode : Hid (code = if allOk es = true then 0 else 1)) : Calls Try.prog 18 #[.agg #[.int .i64 what, .int .i64 view, .int .i64 n, .slice A es.length c]] w (CPost w code) := by
  have hN0 := Blk.new w 33 #[.int .i64 what, .int .i64 view, .int .i64 n, .slice A es.length c]
  have hB0 : Below w.heap.size w (w.alloc (.cells #[.int .i64 what, .int .i64 view, .int .i64 n, .slice A es.length c] 33)) := (Below.refl _ _).alloc (Nat.le_refl _) _
  have gv := fun w => Lib.hid (bits_any view w hv)
  have gn := fun w => Lib.hid (bits_any n w hn)
  have b1 : decide (what < 0) = false := decide_eq_false (by omega)
  have b2 : decide (5 < what) = false := decide_eq_false (by omega)
  rw [h3] at gv
  rw [h4] at gn
  have b3 : decide (4096 < (es.length : Int)) = false := decide_eq_false (by omega)
  go_enter Try.func18, Try.ntmps18
  go_wp2_with fail
  refine (gv _).out.mono ?_
  rintro _ _ ⟨rfl, rfl⟩
  go_wp2_with fail
  refine (gn _).out.mono ?_
  rintro _ _ ⟨rfl, rfl⟩
  go_wp2_with fail
  go_loopw [36] (fun i wr => ∃ k : Nat, k ≤ es.length ∧ i = .int .i64 k ∧ allOk (es.take k) = true ∧ Below w.heap.size w wr) (fun i _ => es.length - (intOf i).toNat)
  case atStart => exact ⟨0, by omega, rfl, rfl, hB0⟩
  case round =>
    obtain ⟨k, hk, rfl, ho, hb⟩ := hrel
    replace ho := Lib.hid ho
    by_cases hlt : k < es.length
    · obtain ⟨x, hx⟩ := ent_at hlt
      have hxi := hi.at_ hx
      have hc := fun w => Lib.hid (check_any x w hxi)
      obtain ⟨ad, rfl, hB, e1⟩ := hr.at_ hx
      replace hB : (ad.add (k * 4)).block < w.heap.size := by rw [block_of_add]; exact hB
      have hs := hb.size
      replace e1 := e1.keep hb hB
      have hbx := entAt_box wr x
      have hbel := hb.alloc hs (.cells #[.int .i64 x.view, .int .i64 x.what, .int .i64 x.a, .int .i64 x.n] 42)
      have hlw : wr.heap.size < (wr.alloc (.cells #[.int .i64 x.view, .int .i64 x.what, .int .i64 x.a, .int .i64 x.n] 42)).heap.size := by simp
      obtain ⟨a0, a1, a2, a3⟩ := e1
      replace hx := Lib.hid hx
      clear gv gn
      by_cases hok : x.ok
      · simp only [Ent.err_yes hok] at hc
        go_wp2_with fail
        refine (hc _).out.mono ?_
        rintro _ w2 ⟨rfl, hb2⟩
        have hbel2 := hbel.trans (hb2.mono hbel.size)
        go_wp2_with fail
        exact ⟨⟨k + 1, by omega, by go_num, allOk_next ho.out hx.out hok, hbel2⟩, by simp [intOf]; omega⟩
      · simp only [Ent.err_no hok] at hc
        have he : code = 1 := by rw [hcode.out, if_neg (by rw [allOk_no hx.out hok]; decide)]
        replace he := Lib.hid he
        go_wp2_with fail
        refine (hc _).out.mono ?_
        rintro _ w2 ⟨rfl, hb2⟩
        have hbel2 := hbel.trans (hb2.mono hbel.size)
        go_wp2_with fail
        refine (fault_any 1 _).mono ?_
        rintro _ y ⟨jg, rfl, hJ, _, hy⟩
        go_wp2_with fail
        refine bodyPost_ret (v := joinV jg) (by unfold joinV; simp [results, Try.results18, go_sem]) rfl ?_
        rw [he.out]
        exact ⟨hbel2.trans (hy.mono hbel2.size), .inr ⟨by decide, jg, rfl, hJ⟩⟩
    · obtain rfl : k = es.length := by omega
      have he : code = 0 := by
        have h := ho.out
        rw [List.take_length] at h
        rw [hcode.out, if_pos h]
      replace he := Lib.hid he
      go_wp2_with fail
      refine bodyPost_ret (v := .nilIface) (by simp [results, Try.results18, go_sem]) rfl ?_
      rw [he.out]
      exact ⟨hb, .inl ⟨rfl, rfl⟩⟩
/-- What is wrong with a note. -/
def nErr (what view n : Int) (es : List Ent) : Int :=
  if what < 0 ∨ 5 < what ∨ inV view = false ∨ inV n = false then 1 else if 4096 < es.length then 2 else if allOk es = true then 0 else 1
theorem chk_any (what view n : Int) (A : Option Addr) (c : Nat) (es : List Ent) (w : World) (hr : ReadsE w w.heap.size A es) (hi : InL es) (hv : in64 view) (hn : in64 n) (hm : es.length ≤ maxLen) : Calls Try.prog 18 #[.agg #[.int .i64 what, .int .i64 view, .int .i64 n, .slice A es.length c]] w (CPost w (nErr what view n es)) := by
  unfold nErr
  by_cases h : what < 0
  · rw [if_pos (.inl h)]; exact chk_neg what view n A c es w hr hi hv hn hm h
  · by_cases h2 : 5 < what
    · rw [if_pos (.inr (.inl h2))]; exact chk_big what view n A c es w hr hi hv hn hm h h2
    · cases h3 : inV view with
      | false => rw [if_pos (.inr (.inr (.inl rfl)))]; exact chk_view what view n A c es w hr hi hv hn hm h h2 h3
      | true =>
        cases h4 : inV n with
        | false => rw [if_pos (.inr (.inr (.inr rfl)))]; exact chk_n what view n A c es w hr hi hv hn hm h h2 h3 h4
        | true =>
          rw [if_neg (by rintro (k | k | k | k); exact h k; exact h2 k; cases k; cases k)]
          by_cases h5 : 4096 < es.length
          · rw [if_pos h5]; exact chk_long what view n A c es w hr hi hv hn hm h h2 h3 h4 h5
          · rw [if_neg h5]; exact chk_loop what view n A c es w hr hi hv hn hm h h2 h3 h4 h5 _ (Lib.hid rfl)
end Go.Proofs.Ytdilccihhelilaa
