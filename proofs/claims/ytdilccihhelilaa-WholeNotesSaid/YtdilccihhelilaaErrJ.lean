/- errors.Join of one number, and errors.Is over it. -/
import Derived.Test.YtdilccihhelilaaErr
import Derived.Test.YtdilccihhelilaaMem
namespace Go.Proofs.Ytdilccihhelilaa
open Go.RowKit Go.Extern.Stop Go.Stop Go.Extern
set_option linter.unusedVariables false

theorem noIsJ (v : Value) (xT : TypeId) (w : World) : (Instr.typeAssert (.iface 111 v) xT 117 true).run Try.prog w = .ok (.tuple #[.nilIface, .bool false]) w := run_typeAssert_lacksB Try.underlying117 (by kernel_rfl) (by kernel_rfl) v xT w
theorem noUnJ (v : Value) (xT : TypeId) (w : World) : (Instr.typeAssert (.iface 111 v) xT 120 true).run Try.prog w = .ok (.tuple #[.nilIface, .bool false]) w := run_typeAssert_lacksB Try.underlying120 (by kernel_rfl) (by kernel_rfl) v xT w
theorem hasUsJ (v : Value) (xT : TypeId) (w : World) : (Instr.typeAssert (.iface 111 v) xT 122 true).run Try.prog w = .ok (.tuple #[.iface 111 v, .bool true]) w := run_typeAssert_hasB Try.underlying122 (by kernel_rfl) v xT w
theorem methodUsJ (v : Value) (w : World) : (Go.method 261 111 v "Unwrap").run Try.prog w = .ok (73, v) w := by kernel_rfl

/-- At g stands what errors.Join makes of one number. -/
def JoinAt (w : World) (g : Nat) (c : Int) : Prop := ∃ ad cap, w.cell? ⟨g, 0, none⟩ = some (.slice (some ad) 1 cap) ∧ w.cell? ad = some (.iface 28 (.int .i64 c)) ∧ ad.block < w.heap.size ∧ g < w.heap.size
theorem JoinAt.below {w w' : World} {g : Nat} {c : Int} (h : JoinAt w g c) (hb : Below w.heap.size w w') : JoinAt w' g c := by
  obtain ⟨ad, cap, h1, h2, h3, h4⟩ := h
  have := hb.size
  exact ⟨ad, cap, (hb.cell (p := ⟨g, 0, none⟩) h4).trans h1, (hb.cell h3).trans h2, by omega, by omega⟩
def joinV (g : Nat) : Value := .iface 111 (.pointer (some ⟨g, 0, none⟩))

set_option maxRecDepth 100000 in
set_option maxHeartbeats 2000000 in
theorem unwraps_any (g : Nat) (v : Value) (w : World) (h : w.cell? ⟨g, 0, none⟩ = some v) (hv : ∃ A n c, v = .slice A n c) :
    Calls Try.prog 73 #[.pointer (some ⟨g, 0, none⟩)] w fun e w' => e = .returned v ∧ w' = w := by
  obtain ⟨A, n, c, rfl⟩ := hv
  go_enter Try.func73, Try.ntmps73
  go_wp2
  go_ret
  exact ⟨rfl, rfl⟩

set_option maxRecDepth 100000 in
set_option maxHeartbeats 2000000 in
theorem is_join (g : Nat) (c t : Int) (w : World) (h : JoinAt w g c) : Calls Try.prog 44 #[joinV g, .iface 28 (.int .i64 t), .bool true] w fun e w' => e = .returned (.bool (c == t)) ∧ w' = w := by
  obtain ⟨ad, cap, h1, h2, h3, h4⟩ := h
  unfold joinV
  have hty := run_eql_iface_types (P := Try.prog) 111 28 (.pointer (some ⟨g, 0, none⟩)) (.int .i64 t) Try.underlying55 (by decide) w
  have n1 := noIsJ
  have n2 := noUnJ
  have n3 := hasUsJ
  have mU := methodUsJ
  have gu := Lib.hid (unwraps_any g _ w h1 ⟨_, _, _, rfl⟩)
  have gn := Lib.hid (is_num c t w)
  cases hb : (c == t) with
  | true =>
    rw [hb] at gn
    go_enter Try.func44, Try.ntmps44
    go_wp2
    refine wp_loop_rounds 1 ?_
    rw [rounds_succ]
    go_wp2_with (first | (go_at_call 73; refine gu.out.mono ?_; rintro _ _ ⟨rfl, rfl⟩))
    refine wp_loop_rounds 1 ?_
    rw [rounds_succ]
    go_wp2_with (first | (go_at_call 44; refine gn.out.mono ?_; rintro _ _ ⟨rfl, rfl⟩))
    go_ret
    exact ⟨rfl, rfl⟩
  | false =>
    rw [hb] at gn
    go_enter Try.func44, Try.ntmps44
    go_wp2
    refine wp_loop_rounds 1 ?_
    rw [rounds_succ]
    go_wp2_with (first | (go_at_call 73; refine gu.out.mono ?_; rintro _ _ ⟨rfl, rfl⟩))
    refine wp_loop_rounds 2 ?_
    rw [rounds_succ]
    go_wp2_with (first | (go_at_call 44; refine gn.out.mono ?_; rintro _ _ ⟨rfl, rfl⟩))
    rw [rounds_succ]
    go_wp2
    go_ret
    exact ⟨rfl, rfl⟩
set_option maxRecDepth 100000 in
set_option maxHeartbeats 2000000 in
/-- errors.Is of a joined number. -/
theorem errIs_join (g : Nat) (c t : Int) (w : World) (h : JoinAt w g c) : Calls Try.prog 27 #[joinV g, .iface 28 (.int .i64 t)] w fun e w' => e = .returned (.bool (c == t)) ∧ w' = w := by
  have h8 := @run_callFunc_extern Try.prog 43 _ Extern.ReflectliteType.typeOf Try.func43 (by kernel_rfl) (by kernel_rfl) (by kernel_rfl) (by kernel_rfl)
  have h32 := @run_callFunc_extern Try.prog 77 _ cmpM Try.func77 (by kernel_rfl) (by kernel_rfl) (by kernel_rfl) (by kernel_rfl)
  have tT := eTypeOf
  have cT := eComparable
  have mR := eMethodC
  have gi := Lib.hid (is_join g c t w h)
  unfold joinV at *
  go_enter Try.func27, Try.ntmps27
  go_wp2_with (first | (go_at_call 44; refine gi.out.mono ?_; rintro _ _ ⟨rfl, rfl⟩))
  go_ret
  exact ⟨rfl, rfl⟩

set_option maxRecDepth 100000 in
set_option maxHeartbeats 2000000 in
theorem join_make (w : World) : (Instr.makeSlice 110 (.int .i64 0) (.int .i64 1)).run Try.prog w = .ok (.slice (some ⟨w.heap.size, 0, none⟩) 0 1) (w.alloc (.cells #[.nilIface] 55)) := by kernel_rfl
set_option maxRecDepth 100000 in
set_option maxHeartbeats 2000000 in
theorem fault_any (c : Int) (w : World) : Calls Try.prog 33 #[.int .i64 c] w fun e w' => ∃ g, e = .returned (joinV g) ∧ JoinAt w' g c ∧ w.heap.size ≤ g ∧ Below w.heap.size w w' := by
  go_enter Try.func33, Try.ntmps33
  have hmk := join_make
  go_wp2_with fail
  go_enter Try.func41, Try.ntmps41
  go_wp2
  refine wp_loop_rounds 2 ?_
  rw [rounds_succ]
  go_wp2
  rw [rounds_succ]
  go_wp2
  refine wp_loop_rounds 2 ?_
  rw [rounds_succ]
  go_wp2
  rw [rounds_succ]
  go_wp2
  go_ret
  have b1 := Blk.new (w.alloc (.cells #[.iface 28 (.int .i64 c)] 55)) 55 #[.iface 28 (.int .i64 c)]
  have b2 := (b1.alloc (.cells #[.slice (some ⟨w.heap.size + 1, 0, none⟩) 1 1] 113)).alloc (.cells #[.iface 28 (.int .i64 c)] 55)
  have b3 := (Blk.new ((w.alloc (.cells #[.iface 28 (.int .i64 c)] 55)).alloc (.cells #[.iface 28 (.int .i64 c)] 55)) 113 #[.slice (some ⟨w.heap.size + 1, 0, none⟩) 1 1]).alloc (.cells #[.iface 28 (.int .i64 c)] 55)
  simp only [World.size_alloc] at b2 b3
  have hbb : Below w.heap.size w ((((w.alloc (.cells #[.iface 28 (.int .i64 c)] 55)).alloc (.cells #[.iface 28 (.int .i64 c)] 55)).alloc (.cells #[.slice (some ⟨w.heap.size + 1, 0, none⟩) 1 1] 113)).alloc (.cells #[.iface 28 (.int .i64 c)] 55)) :=
    ((((Below.refl w.heap.size w).alloc (Nat.le_refl _) _).alloc (by simp) _).alloc (by simp; omega) _).alloc (by simp; omega) _
  exact ⟨w.heap.size + 1 + 1, rfl, ⟨⟨w.heap.size + 1, 0, none⟩, 1, b3.cell 0, b2.cell 0, b2.lt, b3.lt⟩, by omega, hbb⟩

theorem told0 (w : World) : (Instr.index 69 (.agg #[.int .i64 3, .int .i64 4, .int .i64 2, .int .i64 1]) (.int .i64 0)).run Try.prog w = .ok (.int .i64 3) w := by kernel_rfl
theorem told1 (w : World) : (Instr.index 69 (.agg #[.int .i64 3, .int .i64 4, .int .i64 2, .int .i64 1]) (.int .i64 1)).run Try.prog w = .ok (.int .i64 4) w := by kernel_rfl
theorem told2 (w : World) : (Instr.index 69 (.agg #[.int .i64 3, .int .i64 4, .int .i64 2, .int .i64 1]) (.int .i64 2)).run Try.prog w = .ok (.int .i64 2) w := by kernel_rfl
theorem told3 (w : World) : (Instr.index 69 (.agg #[.int .i64 3, .int .i64 4, .int .i64 2, .int .i64 1]) (.int .i64 3)).run Try.prog w = .ok (.int .i64 1) w := by kernel_rfl
set_option maxRecDepth 100000 in
set_option maxHeartbeats 2000000 in
theorem told_3 (g : Nat) (w : World) (h : JoinAt w g 3) : Calls Try.prog 19 #[joinV g] w fun e w' => e = .returned (.int .i64 3) ∧ w' = w := by
  have i0 := told0
  have i1 := told1
  have i2 := told2
  have i3 := told3
  have gi := fun t => Lib.hid (errIs_join g 3 t w h)
  unfold joinV at *
  go_enter Try.func19, Try.ntmps19
  go_wp2
  refine wp_loop_rounds 1 ?_
  rw [rounds_succ]
  go_wp2_with (first | (go_at_call 27; refine (gi _).out.mono ?_; rintro _ _ ⟨rfl, rfl⟩))
  go_ret
  exact ⟨rfl, rfl⟩
set_option maxRecDepth 100000 in
set_option maxHeartbeats 2000000 in
theorem told_4 (g : Nat) (w : World) (h : JoinAt w g 4) : Calls Try.prog 19 #[joinV g] w fun e w' => e = .returned (.int .i64 4) ∧ w' = w := by
  have i0 := told0
  have i1 := told1
  have i2 := told2
  have i3 := told3
  have gi := fun t => Lib.hid (errIs_join g 4 t w h)
  unfold joinV at *
  go_enter Try.func19, Try.ntmps19
  go_wp2
  refine wp_loop_rounds 2 ?_
  rw [rounds_succ]
  go_wp2_with (first | (go_at_call 27; refine (gi _).out.mono ?_; rintro _ _ ⟨rfl, rfl⟩))
  rw [rounds_succ]
  go_wp2_with (first | (go_at_call 27; refine (gi _).out.mono ?_; rintro _ _ ⟨rfl, rfl⟩))
  go_ret
  exact ⟨rfl, rfl⟩
set_option maxRecDepth 100000 in
set_option maxHeartbeats 2000000 in
theorem told_2 (g : Nat) (w : World) (h : JoinAt w g 2) : Calls Try.prog 19 #[joinV g] w fun e w' => e = .returned (.int .i64 2) ∧ w' = w := by
  have i0 := told0
  have i1 := told1
  have i2 := told2
  have i3 := told3
  have gi := fun t => Lib.hid (errIs_join g 2 t w h)
  unfold joinV at *
  go_enter Try.func19, Try.ntmps19
  go_wp2
  refine wp_loop_rounds 3 ?_
  rw [rounds_succ]
  go_wp2_with (first | (go_at_call 27; refine (gi _).out.mono ?_; rintro _ _ ⟨rfl, rfl⟩))
  rw [rounds_succ]
  go_wp2_with (first | (go_at_call 27; refine (gi _).out.mono ?_; rintro _ _ ⟨rfl, rfl⟩))
  rw [rounds_succ]
  go_wp2_with (first | (go_at_call 27; refine (gi _).out.mono ?_; rintro _ _ ⟨rfl, rfl⟩))
  go_ret
  exact ⟨rfl, rfl⟩
set_option maxRecDepth 100000 in
set_option maxHeartbeats 2000000 in
theorem told_1 (g : Nat) (w : World) (h : JoinAt w g 1) : Calls Try.prog 19 #[joinV g] w fun e w' => e = .returned (.int .i64 1) ∧ w' = w := by
  have i0 := told0
  have i1 := told1
  have i2 := told2
  have i3 := told3
  have gi := fun t => Lib.hid (errIs_join g 1 t w h)
  unfold joinV at *
  go_enter Try.func19, Try.ntmps19
  go_wp2
  refine wp_loop_rounds 4 ?_
  rw [rounds_succ]
  go_wp2_with (first | (go_at_call 27; refine (gi _).out.mono ?_; rintro _ _ ⟨rfl, rfl⟩))
  rw [rounds_succ]
  go_wp2_with (first | (go_at_call 27; refine (gi _).out.mono ?_; rintro _ _ ⟨rfl, rfl⟩))
  rw [rounds_succ]
  go_wp2_with (first | (go_at_call 27; refine (gi _).out.mono ?_; rintro _ _ ⟨rfl, rfl⟩))
  rw [rounds_succ]
  go_wp2_with (first | (go_at_call 27; refine (gi _).out.mono ?_; rintro _ _ ⟨rfl, rfl⟩))
  go_ret
  exact ⟨rfl, rfl⟩
/-- A fault's number. -/
theorem told_any (g : Nat) (c : Int) (w : World) (hc : c = 1 ∨ c = 2 ∨ c = 3 ∨ c = 4) (h : JoinAt w g c) : Calls Try.prog 19 #[joinV g] w fun e w' => e = .returned (.int .i64 c) ∧ w' = w := by
  rcases hc with rfl | rfl | rfl | rfl
  · exact told_1 g w h
  · exact told_2 g w h
  · exact told_3 g w h
  · exact told_4 g w h
end Go.Proofs.Ytdilccihhelilaa
