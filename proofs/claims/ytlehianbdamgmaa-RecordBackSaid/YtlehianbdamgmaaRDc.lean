/- The entry of bytes: record.Decode. -/
import Derived.Test.YtlehianbdamgmaaGetP
import Derived.Test.YtlehianbdamgmaaErrJ
namespace Go.Proofs.Ytlehianbdamgmaa
open Go.RowKit
set_option linter.unusedVariables false
set_option linter.unusedSimpArgs false
set_option maxRecDepth 100000 in
set_option maxHeartbeats 4000000 in
theorem rdc_short (A : Option Addr) (c : Nat) (xs : List Int) (w : World) (hb : Bytes xs) (hr : ReadsB w w.heap.size A xs) (hc : xs.length ≤ c) (hm : c ≤ maxLen) (hl : xs.length < 14) : Calls Try.prog 47 #[.slice A xs.length c] w (fun e w' => e = .returned (.tuple #[.agg #[.int .i64 0, .int .i64 0, .int .i64 0, .int .i64 0], .int .i64 3]) ∧ Below w.heap.size w w') := by
  have b1 : decide ((xs.length : Int) < 14) = true := decide_eq_true (by omega)
  have hZ0 := Blk.new w 33 #[.int .i64 0, .int .i64 0, .int .i64 0, .int .i64 0]
  have hB0 : Below w.heap.size w (w.alloc (.cells #[.int .i64 0, .int .i64 0, .int .i64 0, .int .i64 0] 33)) := (Below.refl _ _).alloc (Nat.le_refl _) _
  go_enter Try.func47, Try.ntmps47
  go_wp2_with fail
  refine (fault_any 3 _).mono ?_
  rintro _ y1 ⟨jg, rfl, hJ, _, hy1⟩
  have hzy := hZ0.below hy1 hZ0.lt
  have hby := hB0.trans (hy1.mono hB0.size)
  have ht := Lib.hid (told_any jg 3 y1 (by omega) hJ)
  have z0 : y1.cell? ⟨w.heap.size, 0, none⟩ = some (.int .i64 0) := hzy.cell 0
  have zf0 := hzy.frozen 0
  have z1 : y1.cell? ⟨w.heap.size, 1, none⟩ = some (.int .i64 0) := hzy.cell 1
  have zf1 := hzy.frozen 1
  have z2 : y1.cell? ⟨w.heap.size, 2, none⟩ = some (.int .i64 0) := hzy.cell 2
  have zf2 := hzy.frozen 2
  have z3 : y1.cell? ⟨w.heap.size, 3, none⟩ = some (.int .i64 0) := hzy.cell 3
  have zf3 := hzy.frozen 3
  unfold joinV at *
  go_wp2_with fail
  refine ht.out.mono ?_
  rintro _ y2 ⟨rfl, hyy⟩
  subst hyy
  go_wp2_with fail
  have hzz : Blk ((((y2.setCell ⟨w.heap.size, 0, none⟩ (.int .i64 0)).setCell ⟨w.heap.size, 1, none⟩ (.int .i64 0)).setCell ⟨w.heap.size, 2, none⟩ (.int .i64 0)).setCell ⟨w.heap.size, 3, none⟩ (.int .i64 0)) w.heap.size 33 #[.int .i64 0, .int .i64 0, .int .i64 0, .int .i64 0] := ((((hzy.set_ 0 (.int .i64 0)).set_ 1 (.int .i64 0)).set_ 2 (.int .i64 0)).set_ 3 (.int .i64 0))
  have hbb := ((((hby.setCell (p := ⟨w.heap.size, 0, none⟩) (Nat.le_refl _) (.int .i64 0)).setCell (p := ⟨w.heap.size, 1, none⟩) (Nat.le_refl _) (.int .i64 0)).setCell (p := ⟨w.heap.size, 2, none⟩) (Nat.le_refl _) (.int .i64 0)).setCell (p := ⟨w.heap.size, 3, none⟩) (Nat.le_refl _) (.int .i64 0))
  clear z0 zf0 z1 zf1 z2 zf2 z3 zf3
  generalize ((((y2.setCell ⟨w.heap.size, 0, none⟩ (.int .i64 0)).setCell ⟨w.heap.size, 1, none⟩ (.int .i64 0)).setCell ⟨w.heap.size, 2, none⟩ (.int .i64 0)).setCell ⟨w.heap.size, 3, none⟩ (.int .i64 0)) = Wf at *
  have d0 : Wf.cell? ⟨w.heap.size, 0, none⟩ = some (.int .i64 0) := hzz.cell 0
  have d1 : Wf.cell? ⟨w.heap.size, 1, none⟩ = some (.int .i64 0) := hzz.cell 1
  have d2 : Wf.cell? ⟨w.heap.size, 2, none⟩ = some (.int .i64 0) := hzz.cell 2
  have d3 : Wf.cell? ⟨w.heap.size, 3, none⟩ = some (.int .i64 0) := hzz.cell 3
  refine bodyPost_ret (v := .tuple #[.agg #[.int .i64 0, .int .i64 0, .int .i64 0, .int .i64 0], .int .i64 3]) (by simp [results, Try.results47, go_sem, d0, d1, d2, d3]) rfl ?_
  exact ⟨rfl, hbb⟩
set_option maxRecDepth 100000 in
set_option maxHeartbeats 4000000 in
theorem rdc_long (A : Option Addr) (c : Nat) (xs : List Int) (w : World) (hb : Bytes xs) (hr : ReadsB w w.heap.size A xs) (hc : xs.length ≤ c) (hm : c ≤ maxLen) (hx47 : xs.length ≤ 140737488355328) (hi : (getE xs).In) (hl : 14 < xs.length) : Calls Try.prog 47 #[.slice A xs.length c] w (fun e w' => e = .returned (.tuple #[.agg #[.int .i64 0, .int .i64 0, .int .i64 0, .int .i64 0], .int .i64 4]) ∧ Below w.heap.size w w') := by
  have b1 : decide ((xs.length : Int) < 14) = false := decide_eq_false (by omega)
  have b2 : decide (14 < (xs.length : Int)) = true := decide_eq_true (by omega)
  have hZ0 := Blk.new w 33 #[.int .i64 0, .int .i64 0, .int .i64 0, .int .i64 0]
  have hB0 : Below w.heap.size w (w.alloc (.cells #[.int .i64 0, .int .i64 0, .int .i64 0, .int .i64 0] 33)) := (Below.refl _ _).alloc (Nat.le_refl _) _
  have hR0 := Lib.hid (newReader_any A c xs.length xs _ _ (Reads.alloc hr (Nat.le_refl _) (.cells #[.int .i64 0, .int .i64 0, .int .i64 0, .int .i64 0] 33)) rfl hx47)
  have hget := fun g x1 (hR : Rd x1 g xs 0) => get_any g xs x1 hb 0 hR (by omega)
  rw [List.drop_zero] at hget
  have hge : ∃ e, e = getE xs := ⟨_, rfl⟩
  obtain ⟨e, hge⟩ := hge
  rw [← hge] at hget hi
  have gck := fun w => Lib.hid (check_any e w hi)
  clear hge
  obtain ⟨ev, ew, ea, en⟩ := e
  generalize hER : (Ent.err ⟨ev, ew, ea, en⟩) = er at *
  unfold Ent.val at *
  have hget' := fun g x1 hR => Lib.hid (hget g x1 hR)
  clear hget hER
  replace hl := Lib.hid hl
  go_enter Try.func47, Try.ntmps47
  go_wp2_with fail
  refine hR0.out.mono ?_
  rintro _ x1 ⟨g, rfl, hgg, hR, hb1⟩
  have hZ1 := hZ0.below hb1 hZ0.lt
  have hB1 := hB0.trans (hb1.mono hB0.size)
  have hlZ := hZ0.lt
  have hg2 := hget' g x1 hR
  clear hget' hR0
  go_wp2_with fail
  refine hg2.out.mono ?_
  rintro _ x2 ⟨rfl, _, hT⟩
  have hZ2 := hZ1.turned hT (by omega)
  have hB2 := hB1.trans (hT.below hB1.size (fun j hj => by subst hj; simp at hgg; omega))
  have hE2 := Blk.new x2 33 #[.int .i64 ev, .int .i64 ew, .int .i64 ea, .int .i64 en]
  have hZ3 := hZ2.alloc (.cells #[.int .i64 ev, .int .i64 ew, .int .i64 ea, .int .i64 en] 33)
  have hB3 := hB2.alloc hB2.size (.cells #[.int .i64 ev, .int .i64 ew, .int .i64 ea, .int .i64 en] 33)
  clear hg2 hT hR hb1
  go_wp2_with fail
  refine (fault_any 4 _).mono ?_
  rintro _ y1 ⟨jg, rfl, hJ, _, hy1⟩
  have hzy := hZ3.below hy1 hZ3.lt
  have hby := hB3.trans (hy1.mono hB3.size)
  have ht := Lib.hid (told_any jg 4 y1 (by omega) hJ)
  have z0 : y1.cell? ⟨w.heap.size, 0, none⟩ = some (.int .i64 0) := hzy.cell 0
  have zf0 := hzy.frozen 0
  have z1 : y1.cell? ⟨w.heap.size, 1, none⟩ = some (.int .i64 0) := hzy.cell 1
  have zf1 := hzy.frozen 1
  have z2 : y1.cell? ⟨w.heap.size, 2, none⟩ = some (.int .i64 0) := hzy.cell 2
  have zf2 := hzy.frozen 2
  have z3 : y1.cell? ⟨w.heap.size, 3, none⟩ = some (.int .i64 0) := hzy.cell 3
  have zf3 := hzy.frozen 3
  unfold joinV at *
  go_wp2_with fail
  refine ht.out.mono ?_
  rintro _ y2 ⟨rfl, hyy⟩
  subst hyy
  go_wp2_with fail
  have hzz : Blk ((((y2.setCell ⟨w.heap.size, 0, none⟩ (.int .i64 0)).setCell ⟨w.heap.size, 1, none⟩ (.int .i64 0)).setCell ⟨w.heap.size, 2, none⟩ (.int .i64 0)).setCell ⟨w.heap.size, 3, none⟩ (.int .i64 0)) w.heap.size 33 #[.int .i64 0, .int .i64 0, .int .i64 0, .int .i64 0] := ((((hzy.set_ 0 (.int .i64 0)).set_ 1 (.int .i64 0)).set_ 2 (.int .i64 0)).set_ 3 (.int .i64 0))
  have hbb := ((((hby.setCell (p := ⟨w.heap.size, 0, none⟩) (Nat.le_refl _) (.int .i64 0)).setCell (p := ⟨w.heap.size, 1, none⟩) (Nat.le_refl _) (.int .i64 0)).setCell (p := ⟨w.heap.size, 2, none⟩) (Nat.le_refl _) (.int .i64 0)).setCell (p := ⟨w.heap.size, 3, none⟩) (Nat.le_refl _) (.int .i64 0))
  clear z0 zf0 z1 zf1 z2 zf2 z3 zf3
  generalize ((((y2.setCell ⟨w.heap.size, 0, none⟩ (.int .i64 0)).setCell ⟨w.heap.size, 1, none⟩ (.int .i64 0)).setCell ⟨w.heap.size, 2, none⟩ (.int .i64 0)).setCell ⟨w.heap.size, 3, none⟩ (.int .i64 0)) = Wf at *
  have d0 : Wf.cell? ⟨w.heap.size, 0, none⟩ = some (.int .i64 0) := hzz.cell 0
  have d1 : Wf.cell? ⟨w.heap.size, 1, none⟩ = some (.int .i64 0) := hzz.cell 1
  have d2 : Wf.cell? ⟨w.heap.size, 2, none⟩ = some (.int .i64 0) := hzz.cell 2
  have d3 : Wf.cell? ⟨w.heap.size, 3, none⟩ = some (.int .i64 0) := hzz.cell 3
  refine bodyPost_ret (v := .tuple #[.agg #[.int .i64 0, .int .i64 0, .int .i64 0, .int .i64 0], .int .i64 4]) (by simp [results, Try.results47, go_sem, d0, d1, d2, d3]) rfl ?_
  exact ⟨rfl, hbb⟩

set_option maxRecDepth 100000 in
set_option maxHeartbeats 4000000 in
theorem rdc_bad (A : Option Addr) (c : Nat) (xs : List Int) (w : World) (hb : Bytes xs) (hr : ReadsB w w.heap.size A xs) (hc : xs.length ≤ c) (hm : c ≤ maxLen) (hx47 : xs.length ≤ 140737488355328) (hi : (getE xs).In) (hl : xs.length = 14) (he : ¬ (getE xs).err = 0) : Calls Try.prog 47 #[.slice A xs.length c] w (fun e w' => e = .returned (.tuple #[.agg #[.int .i64 0, .int .i64 0, .int .i64 0, .int .i64 0], .int .i64 4]) ∧ Below w.heap.size w w') := by
  have b1 : decide ((xs.length : Int) < 14) = false := decide_eq_false (by omega)
  have b2 : decide (14 < (xs.length : Int)) = false := decide_eq_false (by omega)
  have hZ0 := Blk.new w 33 #[.int .i64 0, .int .i64 0, .int .i64 0, .int .i64 0]
  have hB0 : Below w.heap.size w (w.alloc (.cells #[.int .i64 0, .int .i64 0, .int .i64 0, .int .i64 0] 33)) := (Below.refl _ _).alloc (Nat.le_refl _) _
  have hR0 := Lib.hid (newReader_any A c xs.length xs _ _ (Reads.alloc hr (Nat.le_refl _) (.cells #[.int .i64 0, .int .i64 0, .int .i64 0, .int .i64 0] 33)) rfl hx47)
  have hget := fun g x1 (hR : Rd x1 g xs 0) => get_any g xs x1 hb 0 hR (by omega)
  rw [List.drop_zero] at hget
  have hge : ∃ e, e = getE xs := ⟨_, rfl⟩
  obtain ⟨e, hge⟩ := hge
  rw [← hge] at hget hi he
  have gck := fun w => Lib.hid (check_any e w hi)
  clear hge
  obtain ⟨ev, ew, ea, en⟩ := e
  generalize hER : (Ent.err ⟨ev, ew, ea, en⟩) = er at *
  unfold Ent.val at *
  have hget' := fun g x1 hR => Lib.hid (hget g x1 hR)
  clear hget hER
  replace hl := Lib.hid hl
  go_enter Try.func47, Try.ntmps47
  go_wp2_with fail
  refine hR0.out.mono ?_
  rintro _ x1 ⟨g, rfl, hgg, hR, hb1⟩
  have hZ1 := hZ0.below hb1 hZ0.lt
  have hB1 := hB0.trans (hb1.mono hB0.size)
  have hlZ := hZ0.lt
  have hg2 := hget' g x1 hR
  clear hget' hR0
  go_wp2_with fail
  refine hg2.out.mono ?_
  rintro _ x2 ⟨rfl, _, hT⟩
  have hZ2 := hZ1.turned hT (by omega)
  have hB2 := hB1.trans (hT.below hB1.size (fun j hj => by subst hj; simp at hgg; omega))
  have hE2 := Blk.new x2 33 #[.int .i64 ev, .int .i64 ew, .int .i64 ea, .int .i64 en]
  have hZ3 := hZ2.alloc (.cells #[.int .i64 ev, .int .i64 ew, .int .i64 ea, .int .i64 en] 33)
  have hB3 := hB2.alloc hB2.size (.cells #[.int .i64 ev, .int .i64 ew, .int .i64 ea, .int .i64 en] 33)
  clear hg2 hT hR hb1
  have b3 : (er != 0) = true := by simpa using he
  have b4 : (er == 0) = false := by simpa using he
  go_wp2_with fail
  generalize x2.alloc (.cells #[.int .i64 ev, .int .i64 ew, .int .i64 ea, .int .i64 en] 33) = x3 at *
  refine (gck _).out.mono ?_
  rintro _ x4 ⟨rfl, hb4⟩
  have hZ4 := hZ3.below hb4 hZ3.lt
  have hE4 := hE2.below hb4 hE2.lt
  have hB4 := hB3.trans (hb4.mono hB3.size)
  go_wp2_with fail
  refine (fault_any 4 _).mono ?_
  rintro _ y1 ⟨jg, rfl, hJ, _, hy1⟩
  have hzy := hZ4.below hy1 hZ4.lt
  have hby := hB4.trans (hy1.mono hB4.size)
  have ht := Lib.hid (told_any jg 4 y1 (by omega) hJ)
  have z0 : y1.cell? ⟨w.heap.size, 0, none⟩ = some (.int .i64 0) := hzy.cell 0
  have zf0 := hzy.frozen 0
  have z1 : y1.cell? ⟨w.heap.size, 1, none⟩ = some (.int .i64 0) := hzy.cell 1
  have zf1 := hzy.frozen 1
  have z2 : y1.cell? ⟨w.heap.size, 2, none⟩ = some (.int .i64 0) := hzy.cell 2
  have zf2 := hzy.frozen 2
  have z3 : y1.cell? ⟨w.heap.size, 3, none⟩ = some (.int .i64 0) := hzy.cell 3
  have zf3 := hzy.frozen 3
  unfold joinV at *
  go_wp2_with fail
  refine ht.out.mono ?_
  rintro _ y2 ⟨rfl, hyy⟩
  subst hyy
  go_wp2_with fail
  have hzz : Blk ((((y2.setCell ⟨w.heap.size, 0, none⟩ (.int .i64 0)).setCell ⟨w.heap.size, 1, none⟩ (.int .i64 0)).setCell ⟨w.heap.size, 2, none⟩ (.int .i64 0)).setCell ⟨w.heap.size, 3, none⟩ (.int .i64 0)) w.heap.size 33 #[.int .i64 0, .int .i64 0, .int .i64 0, .int .i64 0] := ((((hzy.set_ 0 (.int .i64 0)).set_ 1 (.int .i64 0)).set_ 2 (.int .i64 0)).set_ 3 (.int .i64 0))
  have hbb := ((((hby.setCell (p := ⟨w.heap.size, 0, none⟩) (Nat.le_refl _) (.int .i64 0)).setCell (p := ⟨w.heap.size, 1, none⟩) (Nat.le_refl _) (.int .i64 0)).setCell (p := ⟨w.heap.size, 2, none⟩) (Nat.le_refl _) (.int .i64 0)).setCell (p := ⟨w.heap.size, 3, none⟩) (Nat.le_refl _) (.int .i64 0))
  clear z0 zf0 z1 zf1 z2 zf2 z3 zf3
  generalize ((((y2.setCell ⟨w.heap.size, 0, none⟩ (.int .i64 0)).setCell ⟨w.heap.size, 1, none⟩ (.int .i64 0)).setCell ⟨w.heap.size, 2, none⟩ (.int .i64 0)).setCell ⟨w.heap.size, 3, none⟩ (.int .i64 0)) = Wf at *
  have d0 : Wf.cell? ⟨w.heap.size, 0, none⟩ = some (.int .i64 0) := hzz.cell 0
  have d1 : Wf.cell? ⟨w.heap.size, 1, none⟩ = some (.int .i64 0) := hzz.cell 1
  have d2 : Wf.cell? ⟨w.heap.size, 2, none⟩ = some (.int .i64 0) := hzz.cell 2
  have d3 : Wf.cell? ⟨w.heap.size, 3, none⟩ = some (.int .i64 0) := hzz.cell 3
  refine bodyPost_ret (v := .tuple #[.agg #[.int .i64 0, .int .i64 0, .int .i64 0, .int .i64 0], .int .i64 4]) (by simp [results, Try.results47, go_sem, d0, d1, d2, d3]) rfl ?_
  exact ⟨rfl, hbb⟩

set_option maxRecDepth 100000 in
set_option maxHeartbeats 4000000 in
theorem rdc_ok (A : Option Addr) (c : Nat) (xs : List Int) (w : World) (hb : Bytes xs) (hr : ReadsB w w.heap.size A xs) (hc : xs.length ≤ c) (hm : c ≤ maxLen) (hx47 : xs.length ≤ 140737488355328) (hi : (getE xs).In) (hl : xs.length = 14) (he : (getE xs).err = 0) : Calls Try.prog 47 #[.slice A xs.length c] w (fun e w' => e = .returned (.tuple #[(getE xs).val, .int .i64 0]) ∧ Below w.heap.size w w') := by
  have b1 : decide ((xs.length : Int) < 14) = false := decide_eq_false (by omega)
  have b2 : decide (14 < (xs.length : Int)) = false := decide_eq_false (by omega)
  have hZ0 := Blk.new w 33 #[.int .i64 0, .int .i64 0, .int .i64 0, .int .i64 0]
  have hB0 : Below w.heap.size w (w.alloc (.cells #[.int .i64 0, .int .i64 0, .int .i64 0, .int .i64 0] 33)) := (Below.refl _ _).alloc (Nat.le_refl _) _
  have hR0 := Lib.hid (newReader_any A c xs.length xs _ _ (Reads.alloc hr (Nat.le_refl _) (.cells #[.int .i64 0, .int .i64 0, .int .i64 0, .int .i64 0] 33)) rfl hx47)
  have hget := fun g x1 (hR : Rd x1 g xs 0) => get_any g xs x1 hb 0 hR (by omega)
  rw [List.drop_zero] at hget
  have hge : ∃ e, e = getE xs := ⟨_, rfl⟩
  obtain ⟨e, hge⟩ := hge
  rw [← hge] at hget hi he ⊢
  have gck := fun w => Lib.hid (check_any e w hi)
  clear hge
  obtain ⟨ev, ew, ea, en⟩ := e
  generalize hER : (Ent.err ⟨ev, ew, ea, en⟩) = er at *
  unfold Ent.val at *
  have hget' := fun g x1 hR => Lib.hid (hget g x1 hR)
  clear hget hER
  replace hl := Lib.hid hl
  go_enter Try.func47, Try.ntmps47
  go_wp2_with fail
  refine hR0.out.mono ?_
  rintro _ x1 ⟨g, rfl, hgg, hR, hb1⟩
  have hZ1 := hZ0.below hb1 hZ0.lt
  have hB1 := hB0.trans (hb1.mono hB0.size)
  have hlZ := hZ0.lt
  have hg2 := hget' g x1 hR
  clear hget' hR0
  go_wp2_with fail
  refine hg2.out.mono ?_
  rintro _ x2 ⟨rfl, _, hT⟩
  have hZ2 := hZ1.turned hT (by omega)
  have hB2 := hB1.trans (hT.below hB1.size (fun j hj => by subst hj; simp at hgg; omega))
  have hE2 := Blk.new x2 33 #[.int .i64 ev, .int .i64 ew, .int .i64 ea, .int .i64 en]
  have hZ3 := hZ2.alloc (.cells #[.int .i64 ev, .int .i64 ew, .int .i64 ea, .int .i64 en] 33)
  have hB3 := hB2.alloc hB2.size (.cells #[.int .i64 ev, .int .i64 ew, .int .i64 ea, .int .i64 en] 33)
  clear hg2 hT hR hb1
  subst he
  go_wp2_with fail
  generalize x2.alloc (.cells #[.int .i64 ev, .int .i64 ew, .int .i64 ea, .int .i64 en] 33) = x3 at *
  refine (gck _).out.mono ?_
  rintro _ x4 ⟨rfl, hb4⟩
  have hZ4 := hZ3.below hb4 hZ3.lt
  have hE4 := hE2.below hb4 hE2.lt
  have hB4 := hB3.trans (hb4.mono hB3.size)
  have z0 : x4.cell? ⟨w.heap.size, 0, none⟩ = some (.int .i64 0) := hZ4.cell 0
  have zf0 := hZ4.frozen 0
  have z1 : x4.cell? ⟨w.heap.size, 1, none⟩ = some (.int .i64 0) := hZ4.cell 1
  have zf1 := hZ4.frozen 1
  have z2 : x4.cell? ⟨w.heap.size, 2, none⟩ = some (.int .i64 0) := hZ4.cell 2
  have zf2 := hZ4.frozen 2
  have z3 : x4.cell? ⟨w.heap.size, 3, none⟩ = some (.int .i64 0) := hZ4.cell 3
  have zf3 := hZ4.frozen 3
  have q0 : x4.cell? ⟨x2.heap.size, 0, none⟩ = some (.int .i64 ev) := hE4.cell 0
  have qf0 := hE4.frozen 0
  have q1 : x4.cell? ⟨x2.heap.size, 1, none⟩ = some (.int .i64 ew) := hE4.cell 1
  have qf1 := hE4.frozen 1
  have q2 : x4.cell? ⟨x2.heap.size, 2, none⟩ = some (.int .i64 ea) := hE4.cell 2
  have qf2 := hE4.frozen 2
  have q3 : x4.cell? ⟨x2.heap.size, 3, none⟩ = some (.int .i64 en) := hE4.cell 3
  have qf3 := hE4.frozen 3
  have hlt4 := hZ4.lt
  go_wp2_with fail
  have hzz : Blk ((((x4.setCell ⟨w.heap.size, 0, none⟩ (.int .i64 ev)).setCell ⟨w.heap.size, 1, none⟩ (.int .i64 ew)).setCell ⟨w.heap.size, 2, none⟩ (.int .i64 ea)).setCell ⟨w.heap.size, 3, none⟩ (.int .i64 en)) w.heap.size 33 #[.int .i64 ev, .int .i64 ew, .int .i64 ea, .int .i64 en] := ((((hZ4.set_ 0 (.int .i64 ev)).set_ 1 (.int .i64 ew)).set_ 2 (.int .i64 ea)).set_ 3 (.int .i64 en))
  have hbb := ((((hB4.setCell (p := ⟨w.heap.size, 0, none⟩) (Nat.le_refl _) (.int .i64 ev)).setCell (p := ⟨w.heap.size, 1, none⟩) (Nat.le_refl _) (.int .i64 ew)).setCell (p := ⟨w.heap.size, 2, none⟩) (Nat.le_refl _) (.int .i64 ea)).setCell (p := ⟨w.heap.size, 3, none⟩) (Nat.le_refl _) (.int .i64 en))
  clear z0 zf0 z1 zf1 z2 zf2 z3 zf3
  generalize ((((x4.setCell ⟨w.heap.size, 0, none⟩ (.int .i64 ev)).setCell ⟨w.heap.size, 1, none⟩ (.int .i64 ew)).setCell ⟨w.heap.size, 2, none⟩ (.int .i64 ea)).setCell ⟨w.heap.size, 3, none⟩ (.int .i64 en)) = Wf at *
  have d0 : Wf.cell? ⟨w.heap.size, 0, none⟩ = some (.int .i64 ev) := hzz.cell 0
  have d1 : Wf.cell? ⟨w.heap.size, 1, none⟩ = some (.int .i64 ew) := hzz.cell 1
  have d2 : Wf.cell? ⟨w.heap.size, 2, none⟩ = some (.int .i64 ea) := hzz.cell 2
  have d3 : Wf.cell? ⟨w.heap.size, 3, none⟩ = some (.int .i64 en) := hzz.cell 3
  refine bodyPost_ret (v := .tuple #[.agg #[.int .i64 ev, .int .i64 ew, .int .i64 ea, .int .i64 en], .int .i64 0]) (by simp [results, Try.results47, go_sem, d0, d1, d2, d3]) rfl ?_
  exact ⟨rfl, hbb⟩

set_option maxRecDepth 100000 in
set_option maxHeartbeats 4000000 in
theorem rrdc_short (A : Option Addr) (c : Nat) (xs : List Int) (w : World) (hb : Bytes xs) (hr : ReadsB w w.heap.size A xs) (hc : xs.length ≤ c) (hm : c ≤ maxLen) (hl : xs.length < 14) : Calls Try.prog 48 #[.slice A xs.length c] w (fun e w' => e = .returned (.tuple #[.agg #[.int .i64 0, .int .i64 0, .int .i64 0, .int .i64 0], .int .i64 3]) ∧ Below w.heap.size w w') := by
  have b1 : decide ((xs.length : Int) < 14) = true := decide_eq_true (by omega)
  have hZ0 := Blk.new w 33 #[.int .i64 0, .int .i64 0, .int .i64 0, .int .i64 0]
  have hB0 : Below w.heap.size w (w.alloc (.cells #[.int .i64 0, .int .i64 0, .int .i64 0, .int .i64 0] 33)) := (Below.refl _ _).alloc (Nat.le_refl _) _
  go_enter Try.func48, Try.ntmps48
  go_wp2_with fail
  refine bodyPost_ret (v := .tuple #[.agg #[.int .i64 0, .int .i64 0, .int .i64 0, .int .i64 0], .int .i64 3]) (by simp [results, Try.results48, go_sem]) rfl ?_
  exact ⟨rfl, hB0⟩
set_option maxRecDepth 100000 in
set_option maxHeartbeats 4000000 in
theorem rrdc_long (A : Option Addr) (c : Nat) (xs : List Int) (w : World) (hb : Bytes xs) (hr : ReadsB w w.heap.size A xs) (hc : xs.length ≤ c) (hm : c ≤ maxLen) (hl : 14 < xs.length) : Calls Try.prog 48 #[.slice A xs.length c] w (fun e w' => e = .returned (.tuple #[.agg #[.int .i64 0, .int .i64 0, .int .i64 0, .int .i64 0], .int .i64 4]) ∧ Below w.heap.size w w') := by
  have b1 : decide ((xs.length : Int) < 14) = false := decide_eq_false (by omega)
  have b2 : decide (14 < (xs.length : Int)) = true := decide_eq_true (by omega)
  have hZ0 := Blk.new w 33 #[.int .i64 0, .int .i64 0, .int .i64 0, .int .i64 0]
  have hB0 : Below w.heap.size w (w.alloc (.cells #[.int .i64 0, .int .i64 0, .int .i64 0, .int .i64 0] 33)) := (Below.refl _ _).alloc (Nat.le_refl _) _
  have hget := Lib.hid (rget_any A c xs _ hb ((Reads.below hr hB0).more hB0.size) hc hm (by omega))
  obtain ⟨e, hge⟩ : ∃ e, e = getE xs := ⟨_, rfl⟩
  rw [← hge] at hget
  have gck := fun w => Lib.hid (rcheck_any e w)
  clear hge
  obtain ⟨ev, ew, ea, en⟩ := e
  generalize hER : (Ent.err ⟨ev, ew, ea, en⟩) = er at *
  unfold Ent.val at *
  clear hER
  replace hl := Lib.hid hl
  have hlZ := hZ0.lt
  go_enter Try.func48, Try.ntmps48
  go_wp2_with fail
  refine hget.out.mono ?_
  rintro _ x2 ⟨rfl, hb1⟩
  have hZ2 := hZ0.below hb1 hZ0.lt
  have hB2 := hB0.trans (hb1.mono hB0.size)
  have hE2 := Blk.new x2 33 #[.int .i64 ev, .int .i64 ew, .int .i64 ea, .int .i64 en]
  have hZ3 := hZ2.alloc (.cells #[.int .i64 ev, .int .i64 ew, .int .i64 ea, .int .i64 en] 33)
  have hB3 := hB2.alloc hB2.size (.cells #[.int .i64 ev, .int .i64 ew, .int .i64 ea, .int .i64 en] 33)
  clear hget hb1
  have z0 : x2.cell? ⟨w.heap.size, 0, none⟩ = some (.int .i64 0) := hZ2.cell 0
  have zf0 := hZ2.frozen 0
  have z1 : x2.cell? ⟨w.heap.size, 1, none⟩ = some (.int .i64 0) := hZ2.cell 1
  have zf1 := hZ2.frozen 1
  have z2 : x2.cell? ⟨w.heap.size, 2, none⟩ = some (.int .i64 0) := hZ2.cell 2
  have zf2 := hZ2.frozen 2
  have z3 : x2.cell? ⟨w.heap.size, 3, none⟩ = some (.int .i64 0) := hZ2.cell 3
  have zf3 := hZ2.frozen 3
  have hlz2 := hZ2.lt
  go_wp2_with fail
  have hzz : Blk (((((x2.setCell ⟨w.heap.size, 0, none⟩ (.int .i64 0)).setCell ⟨w.heap.size, 1, none⟩ (.int .i64 0)).setCell ⟨w.heap.size, 2, none⟩ (.int .i64 0)).setCell ⟨w.heap.size, 3, none⟩ (.int .i64 0)).alloc (.cells #[.int .i64 ev, .int .i64 ew, .int .i64 ea, .int .i64 en] 33)) w.heap.size 33 #[.int .i64 0, .int .i64 0, .int .i64 0, .int .i64 0] := (((((hZ2.set_ 0 (.int .i64 0)).set_ 1 (.int .i64 0)).set_ 2 (.int .i64 0)).set_ 3 (.int .i64 0)).alloc (.cells #[.int .i64 ev, .int .i64 ew, .int .i64 ea, .int .i64 en] 33))
  have hbb := ((((((hB2.setCell (p := ⟨w.heap.size, 0, none⟩) (Nat.le_refl _) (.int .i64 0)).setCell (p := ⟨w.heap.size, 1, none⟩) (Nat.le_refl _) (.int .i64 0)).setCell (p := ⟨w.heap.size, 2, none⟩) (Nat.le_refl _) (.int .i64 0)).setCell (p := ⟨w.heap.size, 3, none⟩) (Nat.le_refl _) (.int .i64 0))).alloc (((((hB2.setCell (p := ⟨w.heap.size, 0, none⟩) (Nat.le_refl _) (.int .i64 0)).setCell (p := ⟨w.heap.size, 1, none⟩) (Nat.le_refl _) (.int .i64 0)).setCell (p := ⟨w.heap.size, 2, none⟩) (Nat.le_refl _) (.int .i64 0)).setCell (p := ⟨w.heap.size, 3, none⟩) (Nat.le_refl _) (.int .i64 0))).size (.cells #[.int .i64 ev, .int .i64 ew, .int .i64 ea, .int .i64 en] 33))
  clear z0 zf0 z1 zf1 z2 zf2 z3 zf3
  generalize (((((x2.setCell ⟨w.heap.size, 0, none⟩ (.int .i64 0)).setCell ⟨w.heap.size, 1, none⟩ (.int .i64 0)).setCell ⟨w.heap.size, 2, none⟩ (.int .i64 0)).setCell ⟨w.heap.size, 3, none⟩ (.int .i64 0)).alloc (.cells #[.int .i64 ev, .int .i64 ew, .int .i64 ea, .int .i64 en] 33)) = Wf at *
  have d0 : Wf.cell? ⟨w.heap.size, 0, none⟩ = some (.int .i64 0) := hzz.cell 0
  have d1 : Wf.cell? ⟨w.heap.size, 1, none⟩ = some (.int .i64 0) := hzz.cell 1
  have d2 : Wf.cell? ⟨w.heap.size, 2, none⟩ = some (.int .i64 0) := hzz.cell 2
  have d3 : Wf.cell? ⟨w.heap.size, 3, none⟩ = some (.int .i64 0) := hzz.cell 3
  refine bodyPost_ret (v := .tuple #[.agg #[.int .i64 0, .int .i64 0, .int .i64 0, .int .i64 0], .int .i64 4]) (by simp [results, Try.results48, go_sem, d0, d1, d2, d3]) rfl ?_
  exact ⟨rfl, hbb⟩

set_option maxRecDepth 100000 in
set_option maxHeartbeats 4000000 in
theorem rrdc_bad (A : Option Addr) (c : Nat) (xs : List Int) (w : World) (hb : Bytes xs) (hr : ReadsB w w.heap.size A xs) (hc : xs.length ≤ c) (hm : c ≤ maxLen) (hl : xs.length = 14) (he : ¬ (getE xs).err = 0) : Calls Try.prog 48 #[.slice A xs.length c] w (fun e w' => e = .returned (.tuple #[.agg #[.int .i64 0, .int .i64 0, .int .i64 0, .int .i64 0], .int .i64 4]) ∧ Below w.heap.size w w') := by
  have b1 : decide ((xs.length : Int) < 14) = false := decide_eq_false (by omega)
  have b2 : decide (14 < (xs.length : Int)) = false := decide_eq_false (by omega)
  have hZ0 := Blk.new w 33 #[.int .i64 0, .int .i64 0, .int .i64 0, .int .i64 0]
  have hB0 : Below w.heap.size w (w.alloc (.cells #[.int .i64 0, .int .i64 0, .int .i64 0, .int .i64 0] 33)) := (Below.refl _ _).alloc (Nat.le_refl _) _
  have hget := Lib.hid (rget_any A c xs _ hb ((Reads.below hr hB0).more hB0.size) hc hm (by omega))
  obtain ⟨e, hge⟩ : ∃ e, e = getE xs := ⟨_, rfl⟩
  rw [← hge] at hget he
  have gck := fun w => Lib.hid (rcheck_any e w)
  clear hge
  obtain ⟨ev, ew, ea, en⟩ := e
  generalize hER : (Ent.err ⟨ev, ew, ea, en⟩) = er at *
  unfold Ent.val at *
  clear hER
  replace hl := Lib.hid hl
  have hlZ := hZ0.lt
  go_enter Try.func48, Try.ntmps48
  go_wp2_with fail
  refine hget.out.mono ?_
  rintro _ x2 ⟨rfl, hb1⟩
  have hZ2 := hZ0.below hb1 hZ0.lt
  have hB2 := hB0.trans (hb1.mono hB0.size)
  have hE2 := Blk.new x2 33 #[.int .i64 ev, .int .i64 ew, .int .i64 ea, .int .i64 en]
  have hZ3 := hZ2.alloc (.cells #[.int .i64 ev, .int .i64 ew, .int .i64 ea, .int .i64 en] 33)
  have hB3 := hB2.alloc hB2.size (.cells #[.int .i64 ev, .int .i64 ew, .int .i64 ea, .int .i64 en] 33)
  clear hget hb1
  have b3 : (er != 0) = true := by simpa using he
  go_wp2_with fail
  generalize x2.alloc (.cells #[.int .i64 ev, .int .i64 ew, .int .i64 ea, .int .i64 en] 33) = x3 at *
  refine (gck _).out.mono ?_
  rintro _ x4 ⟨rfl, hb4⟩
  have hZ4 := hZ3.below hb4 hZ3.lt
  have hE4 := hE2.below hb4 hE2.lt
  have hB4 := hB3.trans (hb4.mono hB3.size)
  have z0 : x4.cell? ⟨w.heap.size, 0, none⟩ = some (.int .i64 0) := hZ4.cell 0
  have zf0 := hZ4.frozen 0
  have z1 : x4.cell? ⟨w.heap.size, 1, none⟩ = some (.int .i64 0) := hZ4.cell 1
  have zf1 := hZ4.frozen 1
  have z2 : x4.cell? ⟨w.heap.size, 2, none⟩ = some (.int .i64 0) := hZ4.cell 2
  have zf2 := hZ4.frozen 2
  have z3 : x4.cell? ⟨w.heap.size, 3, none⟩ = some (.int .i64 0) := hZ4.cell 3
  have zf3 := hZ4.frozen 3
  go_wp2_with fail
  have hzz : Blk ((((x4.setCell ⟨w.heap.size, 0, none⟩ (.int .i64 0)).setCell ⟨w.heap.size, 1, none⟩ (.int .i64 0)).setCell ⟨w.heap.size, 2, none⟩ (.int .i64 0)).setCell ⟨w.heap.size, 3, none⟩ (.int .i64 0)) w.heap.size 33 #[.int .i64 0, .int .i64 0, .int .i64 0, .int .i64 0] := ((((hZ4.set_ 0 (.int .i64 0)).set_ 1 (.int .i64 0)).set_ 2 (.int .i64 0)).set_ 3 (.int .i64 0))
  have hbb := ((((hB4.setCell (p := ⟨w.heap.size, 0, none⟩) (Nat.le_refl _) (.int .i64 0)).setCell (p := ⟨w.heap.size, 1, none⟩) (Nat.le_refl _) (.int .i64 0)).setCell (p := ⟨w.heap.size, 2, none⟩) (Nat.le_refl _) (.int .i64 0)).setCell (p := ⟨w.heap.size, 3, none⟩) (Nat.le_refl _) (.int .i64 0))
  clear z0 zf0 z1 zf1 z2 zf2 z3 zf3
  generalize ((((x4.setCell ⟨w.heap.size, 0, none⟩ (.int .i64 0)).setCell ⟨w.heap.size, 1, none⟩ (.int .i64 0)).setCell ⟨w.heap.size, 2, none⟩ (.int .i64 0)).setCell ⟨w.heap.size, 3, none⟩ (.int .i64 0)) = Wf at *
  have d0 : Wf.cell? ⟨w.heap.size, 0, none⟩ = some (.int .i64 0) := hzz.cell 0
  have d1 : Wf.cell? ⟨w.heap.size, 1, none⟩ = some (.int .i64 0) := hzz.cell 1
  have d2 : Wf.cell? ⟨w.heap.size, 2, none⟩ = some (.int .i64 0) := hzz.cell 2
  have d3 : Wf.cell? ⟨w.heap.size, 3, none⟩ = some (.int .i64 0) := hzz.cell 3
  refine bodyPost_ret (v := .tuple #[.agg #[.int .i64 0, .int .i64 0, .int .i64 0, .int .i64 0], .int .i64 4]) (by simp [results, Try.results48, go_sem, d0, d1, d2, d3]) rfl ?_
  exact ⟨rfl, hbb⟩

set_option maxRecDepth 100000 in
set_option maxHeartbeats 4000000 in
theorem rrdc_ok (A : Option Addr) (c : Nat) (xs : List Int) (w : World) (hb : Bytes xs) (hr : ReadsB w w.heap.size A xs) (hc : xs.length ≤ c) (hm : c ≤ maxLen) (hl : xs.length = 14) (he : (getE xs).err = 0) : Calls Try.prog 48 #[.slice A xs.length c] w (fun e w' => e = .returned (.tuple #[(getE xs).val, .int .i64 0]) ∧ Below w.heap.size w w') := by
  have b1 : decide ((xs.length : Int) < 14) = false := decide_eq_false (by omega)
  have b2 : decide (14 < (xs.length : Int)) = false := decide_eq_false (by omega)
  have hZ0 := Blk.new w 33 #[.int .i64 0, .int .i64 0, .int .i64 0, .int .i64 0]
  have hB0 : Below w.heap.size w (w.alloc (.cells #[.int .i64 0, .int .i64 0, .int .i64 0, .int .i64 0] 33)) := (Below.refl _ _).alloc (Nat.le_refl _) _
  have hget := Lib.hid (rget_any A c xs _ hb ((Reads.below hr hB0).more hB0.size) hc hm (by omega))
  obtain ⟨e, hge⟩ : ∃ e, e = getE xs := ⟨_, rfl⟩
  rw [← hge] at hget he ⊢
  have gck := fun w => Lib.hid (rcheck_any e w)
  clear hge
  obtain ⟨ev, ew, ea, en⟩ := e
  generalize hER : (Ent.err ⟨ev, ew, ea, en⟩) = er at *
  unfold Ent.val at *
  clear hER
  replace hl := Lib.hid hl
  have hlZ := hZ0.lt
  go_enter Try.func48, Try.ntmps48
  go_wp2_with fail
  refine hget.out.mono ?_
  rintro _ x2 ⟨rfl, hb1⟩
  have hZ2 := hZ0.below hb1 hZ0.lt
  have hB2 := hB0.trans (hb1.mono hB0.size)
  have hE2 := Blk.new x2 33 #[.int .i64 ev, .int .i64 ew, .int .i64 ea, .int .i64 en]
  have hZ3 := hZ2.alloc (.cells #[.int .i64 ev, .int .i64 ew, .int .i64 ea, .int .i64 en] 33)
  have hB3 := hB2.alloc hB2.size (.cells #[.int .i64 ev, .int .i64 ew, .int .i64 ea, .int .i64 en] 33)
  clear hget hb1
  subst he
  go_wp2_with fail
  generalize x2.alloc (.cells #[.int .i64 ev, .int .i64 ew, .int .i64 ea, .int .i64 en] 33) = x3 at *
  refine (gck _).out.mono ?_
  rintro _ x4 ⟨rfl, hb4⟩
  have hZ4 := hZ3.below hb4 hZ3.lt
  have hE4 := hE2.below hb4 hE2.lt
  have hB4 := hB3.trans (hb4.mono hB3.size)
  have z0 : x4.cell? ⟨w.heap.size, 0, none⟩ = some (.int .i64 0) := hZ4.cell 0
  have zf0 := hZ4.frozen 0
  have z1 : x4.cell? ⟨w.heap.size, 1, none⟩ = some (.int .i64 0) := hZ4.cell 1
  have zf1 := hZ4.frozen 1
  have z2 : x4.cell? ⟨w.heap.size, 2, none⟩ = some (.int .i64 0) := hZ4.cell 2
  have zf2 := hZ4.frozen 2
  have z3 : x4.cell? ⟨w.heap.size, 3, none⟩ = some (.int .i64 0) := hZ4.cell 3
  have zf3 := hZ4.frozen 3
  have q0 : x4.cell? ⟨x2.heap.size, 0, none⟩ = some (.int .i64 ev) := hE4.cell 0
  have qf0 := hE4.frozen 0
  have q1 : x4.cell? ⟨x2.heap.size, 1, none⟩ = some (.int .i64 ew) := hE4.cell 1
  have qf1 := hE4.frozen 1
  have q2 : x4.cell? ⟨x2.heap.size, 2, none⟩ = some (.int .i64 ea) := hE4.cell 2
  have qf2 := hE4.frozen 2
  have q3 : x4.cell? ⟨x2.heap.size, 3, none⟩ = some (.int .i64 en) := hE4.cell 3
  have qf3 := hE4.frozen 3
  have hlt4 := hZ4.lt
  go_wp2_with fail
  have hzz : Blk ((((x4.setCell ⟨w.heap.size, 0, none⟩ (.int .i64 ev)).setCell ⟨w.heap.size, 1, none⟩ (.int .i64 ew)).setCell ⟨w.heap.size, 2, none⟩ (.int .i64 ea)).setCell ⟨w.heap.size, 3, none⟩ (.int .i64 en)) w.heap.size 33 #[.int .i64 ev, .int .i64 ew, .int .i64 ea, .int .i64 en] := ((((hZ4.set_ 0 (.int .i64 ev)).set_ 1 (.int .i64 ew)).set_ 2 (.int .i64 ea)).set_ 3 (.int .i64 en))
  have hbb := ((((hB4.setCell (p := ⟨w.heap.size, 0, none⟩) (Nat.le_refl _) (.int .i64 ev)).setCell (p := ⟨w.heap.size, 1, none⟩) (Nat.le_refl _) (.int .i64 ew)).setCell (p := ⟨w.heap.size, 2, none⟩) (Nat.le_refl _) (.int .i64 ea)).setCell (p := ⟨w.heap.size, 3, none⟩) (Nat.le_refl _) (.int .i64 en))
  clear z0 zf0 z1 zf1 z2 zf2 z3 zf3
  generalize ((((x4.setCell ⟨w.heap.size, 0, none⟩ (.int .i64 ev)).setCell ⟨w.heap.size, 1, none⟩ (.int .i64 ew)).setCell ⟨w.heap.size, 2, none⟩ (.int .i64 ea)).setCell ⟨w.heap.size, 3, none⟩ (.int .i64 en)) = Wf at *
  have d0 : Wf.cell? ⟨w.heap.size, 0, none⟩ = some (.int .i64 ev) := hzz.cell 0
  have d1 : Wf.cell? ⟨w.heap.size, 1, none⟩ = some (.int .i64 ew) := hzz.cell 1
  have d2 : Wf.cell? ⟨w.heap.size, 2, none⟩ = some (.int .i64 ea) := hzz.cell 2
  have d3 : Wf.cell? ⟨w.heap.size, 3, none⟩ = some (.int .i64 en) := hzz.cell 3
  refine bodyPost_ret (v := .tuple #[.agg #[.int .i64 ev, .int .i64 ew, .int .i64 ea, .int .i64 en], .int .i64 0]) (by simp [results, Try.results48, go_sem, d0, d1, d2, d3]) rfl ?_
  exact ⟨rfl, hbb⟩


/-- What bytes are, as an entry. -/
def dcC (xs : List Int) : Int := if xs.length < 14 then 3 else if 14 < xs.length ∨ ¬ (getE xs).err = 0 then 4 else 0
def dcE (xs : List Int) : Ent := if dcC xs = 0 then getE xs else ⟨0, 0, 0, 0⟩
theorem getE_in {xs : List Int} (hb : Bytes xs) (hl : 14 ≤ xs.length) : (getE xs).In := by
  have v1 := gf_small (hb.take 4) (by rw [List.length_take]; omega)
  have v2 := gf_small ((hb.drop 4).take 1) (by rw [List.length_take]; omega)
  have v3 := gf_small ((hb.drop 5).take 1) (by rw [List.length_take]; omega)
  have hl8 : ((xs.drop 6).take 8).length = 8 := by rw [List.length_take, List.length_drop]; omega
  have hs := sval_wrap ((hb.drop 6).take 8) hl8
  refine ⟨?_, ?_, ?_, ?_⟩
  · show in64 (gfold 0 (xs.take 4)); unfold in64; omega
  · show in64 (gfold 0 ((xs.drop 4).take 1)); unfold in64; omega
  · show in64 (gfold 0 ((xs.drop 5).take 1)); unfold in64; omega
  · show in64 (sval ((xs.drop 6).take 8))
    rw [← hs]
    unfold in64 wrap64
    omega
theorem rdc_any (A : Option Addr) (c : Nat) (xs : List Int) (w : World) (hb : Bytes xs) (hr : ReadsB w w.heap.size A xs) (hc : xs.length ≤ c) (hm : c ≤ maxLen) (hx47 : xs.length ≤ 140737488355328) : Calls Try.prog 47 #[.slice A xs.length c] w (fun e w' => e = .returned (.tuple #[(dcE xs).val, .int .i64 (dcC xs)]) ∧ Below w.heap.size w w') := by
  unfold dcE
  by_cases h1 : xs.length < 14
  · have e : dcC xs = 3 := if_pos h1
    rw [e, if_neg (by omega)]
    exact rdc_short A c xs w hb hr hc hm h1
  · by_cases h2 : 14 < xs.length
    · have e : dcC xs = 4 := by unfold dcC; rw [if_neg h1, if_pos (.inl h2)]
      rw [e, if_neg (by omega)]
      exact rdc_long A c xs w hb hr hc hm hx47 (getE_in hb (by omega)) h2
    · by_cases h3 : (getE xs).err = 0
      · have e : dcC xs = 0 := by unfold dcC; rw [if_neg h1, if_neg (by rintro (h | h); exact h2 h; exact h h3)]
        rw [e, if_pos rfl]
        exact rdc_ok A c xs w hb hr hc hm hx47 (getE_in hb (by omega)) (by omega) h3
      · have e : dcC xs = 4 := by unfold dcC; rw [if_neg h1, if_pos (.inr h3)]
        rw [e, if_neg (by omega)]
        exact rdc_bad A c xs w hb hr hc hm hx47 (getE_in hb (by omega)) (by omega) h3
theorem rrdc_any (A : Option Addr) (c : Nat) (xs : List Int) (w : World) (hb : Bytes xs) (hr : ReadsB w w.heap.size A xs) (hc : xs.length ≤ c) (hm : c ≤ maxLen) : Calls Try.prog 48 #[.slice A xs.length c] w (fun e w' => e = .returned (.tuple #[(dcE xs).val, .int .i64 (dcC xs)]) ∧ Below w.heap.size w w') := by
  unfold dcE
  by_cases h1 : xs.length < 14
  · have e : dcC xs = 3 := if_pos h1
    rw [e, if_neg (by omega)]
    exact rrdc_short A c xs w hb hr hc hm h1
  · by_cases h2 : 14 < xs.length
    · have e : dcC xs = 4 := by unfold dcC; rw [if_neg h1, if_pos (.inl h2)]
      rw [e, if_neg (by omega)]
      exact rrdc_long A c xs w hb hr hc hm h2
    · by_cases h3 : (getE xs).err = 0
      · have e : dcC xs = 0 := by unfold dcC; rw [if_neg h1, if_neg (by rintro (h | h); exact h2 h; exact h h3)]
        rw [e, if_pos rfl]
        exact rrdc_ok A c xs w hb hr hc hm (by omega) h3
      · have e : dcC xs = 4 := by unfold dcC; rw [if_neg h1, if_pos (.inr h3)]
        rw [e, if_neg (by omega)]
        exact rrdc_bad A c xs w hb hr hc hm (by omega) h3
end Go.Proofs.Ytlehianbdamgmaa
