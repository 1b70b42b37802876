/- The note of bytes: record.Read. -/
import Derived.Test.YtdilccihhelilaaGetPH
import Derived.Test.YtdilccihhelilaaReadRH
import Derived.Deep.RegionLaw
namespace Go.Proofs.Ytdilccihhelilaa
open Go.RowKit
set_option linter.unusedVariables false
set_option linter.unusedSimpArgs false

theorem sizes40 (w : World) : (Instr.index 75 (.agg #[.int .i64 1, .int .i64 4, .int .i64 4, .int .i64 4]) (.int .i64 0)).run Try.prog w = .ok (.int .i64 1) w := by kernel_rfl
theorem sizes41 (w : World) : (Instr.index 75 (.agg #[.int .i64 1, .int .i64 4, .int .i64 4, .int .i64 4]) (.int .i64 1)).run Try.prog w = .ok (.int .i64 4) w := by kernel_rfl
theorem sizes42 (w : World) : (Instr.index 75 (.agg #[.int .i64 1, .int .i64 4, .int .i64 4, .int .i64 4]) (.int .i64 2)).run Try.prog w = .ok (.int .i64 4) w := by kernel_rfl
theorem sizes43 (w : World) : (Instr.index 75 (.agg #[.int .i64 1, .int .i64 4, .int .i64 4, .int .i64 4]) (.int .i64 3)).run Try.prog w = .ok (.int .i64 4) w := by kernel_rfl
theorem quiet_moreR {P : Program} {f : FuncId} {args : Array Value} {w : World} {n : Nat} {v : Value}
    (h : Calls P f args (w.drewN n) fun e w' => e = .returned v ∧ ∃ m, w' = (w.drewN n).drewN m) : Calls P f args (w.drewN n) fun e w'' => e = .returned v ∧ ∃ m, w'' = w.drewN m :=
  h.mono fun _ _ ⟨he, m, hm⟩ => ⟨he, n + m, by rw [hm, World.drewN_drewN]⟩
theorem Rd.blk {w : World} {g k : Nat} {xs : List Int} (h : Rd w g xs k) : ∃ cs, Blk w g 97 cs := by
  obtain ⟨A, c, h1, _⟩ := h
  exact ⟨_, h1⟩
theorem Rd.grownE {w w' : World} {g k base : Nat} {xs : List Int} {v : Value} {l : List Ent} (h : Rd w g xs k) (hO : OwnE w base v l) (hg : w.grownBy w' v.ownBlock) : Rd w' g xs k := by
  obtain ⟨A, c, h1, h2, h3⟩ := h
  refine ⟨A, c, h1.grown hg (own_blk_ne hO h1 (by decide)).symm, World.ownsRow.kept (row := v.ownBlock) h2 hg ?_, h3⟩
  rcases h2.2 with ⟨hn, _⟩ | ⟨g', cap, cur, hv, _, hh, _⟩
  · rw [hn]; exact .inl rfl
  · refine .inr fun e => ?_
    have hB : Blk w g' 5 cur := hh
    exact own_blk_ne hO hB (by decide) (by rw [← e, hv]; rfl)

set_option maxRecDepth 100000 in
set_option maxHeartbeats 4000000 in
theorem read_short (A : Option Addr) (c : Nat) (xs : List Int) (w : World) (hb : Bytes xs) (hr : ReadsB w w.heap.size A xs) (hc : xs.length ≤ c) (hm : c ≤ maxLen) (hx47 : xs.length ≤ 140737488355328) (hl : xs.length < 13) : Calls Try.prog 12 #[.slice A xs.length c] w (fun e w' => e = .returned (.tuple #[.agg #[.int .i64 0, .int .i64 0, .int .i64 0, .slice none 0 0], .int .i64 3]) ∧ Below w.heap.size w w') := by
  have b1 : decide ((xs.length : Int) < 13) = true := decide_eq_true (by omega)
  have hB0 : Below w.heap.size w (w.alloc (.cells #[.int .i64 0, .int .i64 0, .int .i64 0, .slice none 0 0] 33)) := (Below.refl _ _).alloc (Nat.le_refl _) _
  go_enter Try.func12, Try.ntmps12
  go_wp2_with fail
  refine bodyPost_ret (v := .tuple #[.agg #[.int .i64 0, .int .i64 0, .int .i64 0, .slice none 0 0], .int .i64 3]) (by simp [results, Try.results12, go_sem]) rfl ?_
  exact ⟨rfl, hB0⟩
set_option maxRecDepth 100000 in
set_option maxHeartbeats 4000000 in
theorem read_many (A : Option Addr) (c : Nat) (xs : List Int) (w : World) (hb : Bytes xs) (hr : ReadsB w w.heap.size A xs) (hc : xs.length ≤ c) (hm : c ≤ maxLen) (hx47 : xs.length ≤ 140737488355328) (hl : 13 ≤ xs.length) (N : Nat) (f0 f1 f2 : Int) (hf0 : f0 = gfold 0 ((xs.drop 0).take 1)) (hf1 : f1 = gfold 0 ((xs.drop 1).take 4)) (hf2 : f2 = gfold 0 ((xs.drop 5).take 4)) (hN : gfold 0 ((xs.drop 9).take 4) = N) (hn : 4096 < N) (hN32 : (N : Int) < 4294967296) : Calls Try.prog 12 #[.slice A xs.length c] w (fun e w' => e = .returned (.tuple #[.agg #[.int .i64 0, .int .i64 0, .int .i64 0, .slice none 0 0], .int .i64 4]) ∧ Below w.heap.size w w') := by
  have hZ0 := Blk.new w 33 #[.int .i64 0, .int .i64 0, .int .i64 0, .slice none 0 0]
  have hB0 : Below w.heap.size w (w.alloc (.cells #[.int .i64 0, .int .i64 0, .int .i64 0, .slice none 0 0] 33)) := (Below.refl _ _).alloc (Nat.le_refl _) _
  have hR0 := Lib.hid (newReader_any A c xs.length xs _ _ (Reads.alloc hr (Nat.le_refl _) (.cells #[.int .i64 0, .int .i64 0, .int .i64 0, .slice none 0 0] 33)) rfl hx47)
  have hb1 : decide ((xs.length : Int) < 13) = false := decide_eq_false (by omega)
  have s0 := sizes40
  have s1 := sizes41
  have s2 := sizes42
  have s3 := sizes43
  have hzs := hZ0.lt
  go_enter Try.func12, Try.ntmps12
  go_wp2_with fail
  refine hR0.out.mono ?_
  rintro _ x1 ⟨g, rfl, hgg, hR, hb1'⟩
  have hgx := hR.lt
  have hZ1 := hZ0.below hb1' hZ0.lt
  have hB1 := hB0.trans (hb1'.mono hB0.size)
  have hgz : w.heap.size ≤ g := by simp at hgg; omega
  have hnz : ¬ w.heap.size = g := by simp at hgg; omega
  have hnx : ¬ x1.heap.size = g := by omega
  have hzx : w.heap.size ≠ x1.heap.size := by have := hZ1.lt; omega
  have hwx : w.heap.size ≤ x1.heap.size := hB1.size
  have hX0 := Blk.new x1 74 #[.int .u64 0, .int .u64 0, .int .u64 0, .int .u64 0]
  have hR0' : Rd (x1.alloc (.cells #[.int .u64 0, .int .u64 0, .int .u64 0, .int .u64 0] 74)) g xs 0 := hR.keep ((Below.refl _ _).alloc (Nat.le_refl _) _)
  have hZ0' := hZ1.alloc (.cells #[.int .u64 0, .int .u64 0, .int .u64 0, .int .u64 0] 74)
  have hB0' := hB1.alloc hwx (.cells #[.int .u64 0, .int .u64 0, .int .u64 0, .int .u64 0] 74)
  have k0 := fun W (h : Rd W g xs 0) => Lib.hid (ruint_yes g 0 1 xs W hb h (by decide) (by decide) (by omega))
  have k1 := fun W (h : Rd W g xs 1) => Lib.hid (ruint_yes g 1 4 xs W hb h (by decide) (by decide) (by omega))
  have k2 := fun W (h : Rd W g xs 5) => Lib.hid (ruint_yes g 5 4 xs W hb h (by decide) (by decide) (by omega))
  have k3 := fun W (h : Rd W g xs 9) => Lib.hid (ruint_yes g 9 4 xs W hb h (by decide) (by decide) (by omega))
  unfold RUint at k0 k1 k2 k3
  rw [show (1 : Int).toNat = 1 from rfl, ← hf0] at k0
  rw [show (4 : Int).toNat = 4 from rfl, ← hf1] at k1
  rw [show (4 : Int).toNat = 4 from rfl, ← hf2] at k2
  rw [show (4 : Int).toNat = 4 from rfl, hN] at k3
  have v0 := gf_small ((hb.drop 0).take 1) (by rw [List.length_take]; omega)
  have v1 := gf_small ((hb.drop 1).take 4) (by rw [List.length_take]; omega)
  have v2 := gf_small ((hb.drop 5).take 4) (by rw [List.length_take]; omega)
  rw [← hf0] at v0
  rw [← hf1] at v1
  rw [← hf2] at v2
  clear hZ0 hB0 hR hR0 hb1' hZ1 hB1 hf0 hf1 hf2 hgg
  go_wp2_with fail
  have hR0 := hR0'
  have hZ0 := hZ0'
  have hB0 := hB0'
  clear hR0' hZ0' hB0'
  generalize x1.alloc (.cells #[.int .u64 0, .int .u64 0, .int .u64 0, .int .u64 0] 74) = W0 at *
  refine wp_loop_rounds 5 ?_
  rw [rounds_succ]
  go_wp2_with fail
  refine (k0 _ hR0).out.mono ?_
  rintro _ x2 ⟨rfl, hRx, hg⟩
  have hTx := Turned.of_grown (F := fun i => i = g) hg (fun k h => by injection h with h; exact h.symm)
  have hXx := hX0.turned hTx hnx
  have hZx := hZ0.turned hTx hnz
  have hBx := hB0.trans (hTx.below hB0.size (fun j hj => by subst hj; exact hgz))
  have hsx := hTx.size
  have hR1 : Rd (x2.setCell ⟨x1.heap.size, 0, none⟩ (.int .u64 f0)) g xs 1 := hRx.setCellN hXx (by decide) (fun h => hnx h.symm) _
  have hX1 : Blk (x2.setCell ⟨x1.heap.size, 0, none⟩ (.int .u64 f0)) x1.heap.size 74 #[.int .u64 f0, .int .u64 0, .int .u64 0, .int .u64 0] := hXx.set_ 0 _
  have hZ1 : Blk (x2.setCell ⟨x1.heap.size, 0, none⟩ (.int .u64 f0)) w.heap.size 33 #[.int .i64 0, .int .i64 0, .int .i64 0, .slice none 0 0] := hZx.far (p := ⟨x1.heap.size, 0, none⟩) hzx _
  have hB1 : Below w.heap.size w (x2.setCell ⟨x1.heap.size, 0, none⟩ (.int .u64 f0)) := hBx.setCell (p := ⟨x1.heap.size, 0, none⟩) hwx _
  have d1 : x2.cell? ⟨x1.heap.size, 0, none⟩ = some (.int .u64 0) := hXx.cell 0
  have e1 := hXx.frozen 0
  clear hRx hg hTx hXx hZx hBx hsx hR0 hX0 hZ0 hB0 k0
  go_wp2_with fail
  clear d1 e1
  generalize x2.setCell ⟨x1.heap.size, 0, none⟩ (.int .u64 f0) = W1 at *
  rw [rounds_succ]
  go_wp2_with fail
  refine (k1 _ hR1).out.mono ?_
  rintro _ x3 ⟨rfl, hRx, hg⟩
  have hTx := Turned.of_grown (F := fun i => i = g) hg (fun k h => by injection h with h; exact h.symm)
  have hXx := hX1.turned hTx hnx
  have hZx := hZ1.turned hTx hnz
  have hBx := hB1.trans (hTx.below hB1.size (fun j hj => by subst hj; exact hgz))
  have hsx := hTx.size
  have hR2 : Rd (x3.setCell ⟨x1.heap.size, 1, none⟩ (.int .u64 f1)) g xs 5 := hRx.setCellN hXx (by decide) (fun h => hnx h.symm) _
  have hX2 : Blk (x3.setCell ⟨x1.heap.size, 1, none⟩ (.int .u64 f1)) x1.heap.size 74 #[.int .u64 f0, .int .u64 f1, .int .u64 0, .int .u64 0] := hXx.set_ 1 _
  have hZ2 : Blk (x3.setCell ⟨x1.heap.size, 1, none⟩ (.int .u64 f1)) w.heap.size 33 #[.int .i64 0, .int .i64 0, .int .i64 0, .slice none 0 0] := hZx.far (p := ⟨x1.heap.size, 1, none⟩) hzx _
  have hB2 : Below w.heap.size w (x3.setCell ⟨x1.heap.size, 1, none⟩ (.int .u64 f1)) := hBx.setCell (p := ⟨x1.heap.size, 1, none⟩) hwx _
  have d1 : x3.cell? ⟨x1.heap.size, 1, none⟩ = some (.int .u64 0) := hXx.cell 1
  have e1 := hXx.frozen 1
  clear hRx hg hTx hXx hZx hBx hsx hR1 hX1 hZ1 hB1 k1
  go_wp2_with fail
  clear d1 e1
  generalize x3.setCell ⟨x1.heap.size, 1, none⟩ (.int .u64 f1) = W2 at *
  rw [rounds_succ]
  go_wp2_with fail
  refine (k2 _ hR2).out.mono ?_
  rintro _ x4 ⟨rfl, hRx, hg⟩
  have hTx := Turned.of_grown (F := fun i => i = g) hg (fun k h => by injection h with h; exact h.symm)
  have hXx := hX2.turned hTx hnx
  have hZx := hZ2.turned hTx hnz
  have hBx := hB2.trans (hTx.below hB2.size (fun j hj => by subst hj; exact hgz))
  have hsx := hTx.size
  have hR3 : Rd (x4.setCell ⟨x1.heap.size, 2, none⟩ (.int .u64 f2)) g xs 9 := hRx.setCellN hXx (by decide) (fun h => hnx h.symm) _
  have hX3 : Blk (x4.setCell ⟨x1.heap.size, 2, none⟩ (.int .u64 f2)) x1.heap.size 74 #[.int .u64 f0, .int .u64 f1, .int .u64 f2, .int .u64 0] := hXx.set_ 2 _
  have hZ3 : Blk (x4.setCell ⟨x1.heap.size, 2, none⟩ (.int .u64 f2)) w.heap.size 33 #[.int .i64 0, .int .i64 0, .int .i64 0, .slice none 0 0] := hZx.far (p := ⟨x1.heap.size, 2, none⟩) hzx _
  have hB3 : Below w.heap.size w (x4.setCell ⟨x1.heap.size, 2, none⟩ (.int .u64 f2)) := hBx.setCell (p := ⟨x1.heap.size, 2, none⟩) hwx _
  have d1 : x4.cell? ⟨x1.heap.size, 2, none⟩ = some (.int .u64 0) := hXx.cell 2
  have e1 := hXx.frozen 2
  clear hRx hg hTx hXx hZx hBx hsx hR2 hX2 hZ2 hB2 k2
  go_wp2_with fail
  clear d1 e1
  generalize x4.setCell ⟨x1.heap.size, 2, none⟩ (.int .u64 f2) = W3 at *
  rw [rounds_succ]
  go_wp2_with fail
  refine (k3 _ hR3).out.mono ?_
  rintro _ x5 ⟨rfl, hRx, hg⟩
  have hTx := Turned.of_grown (F := fun i => i = g) hg (fun k h => by injection h with h; exact h.symm)
  have hXx := hX3.turned hTx hnx
  have hZx := hZ3.turned hTx hnz
  have hBx := hB3.trans (hTx.below hB3.size (fun j hj => by subst hj; exact hgz))
  have hsx := hTx.size
  have hR4 : Rd (x5.setCell ⟨x1.heap.size, 3, none⟩ (.int .u64 N)) g xs 13 := hRx.setCellN hXx (by decide) (fun h => hnx h.symm) _
  have hX4 : Blk (x5.setCell ⟨x1.heap.size, 3, none⟩ (.int .u64 N)) x1.heap.size 74 #[.int .u64 f0, .int .u64 f1, .int .u64 f2, .int .u64 N] := hXx.set_ 3 _
  have hZ4 : Blk (x5.setCell ⟨x1.heap.size, 3, none⟩ (.int .u64 N)) w.heap.size 33 #[.int .i64 0, .int .i64 0, .int .i64 0, .slice none 0 0] := hZx.far (p := ⟨x1.heap.size, 3, none⟩) hzx _
  have hB4 : Below w.heap.size w (x5.setCell ⟨x1.heap.size, 3, none⟩ (.int .u64 N)) := hBx.setCell (p := ⟨x1.heap.size, 3, none⟩) hwx _
  have d1 : x5.cell? ⟨x1.heap.size, 3, none⟩ = some (.int .u64 0) := hXx.cell 3
  have e1 := hXx.frozen 3
  clear hRx hg hTx hXx hZx hBx hsx hR3 hX3 hZ3 hB3 k3
  go_wp2_with fail
  clear d1 e1
  generalize x5.setCell ⟨x1.heap.size, 3, none⟩ (.int .u64 N) = W4 at *
  rw [rounds_succ]
  have c0 : W4.cell? ⟨x1.heap.size, 0, none⟩ = some (.int .u64 f0) := hX4.cell 0
  have c1 : W4.cell? ⟨x1.heap.size, 1, none⟩ = some (.int .u64 f1) := hX4.cell 1
  have c2 : W4.cell? ⟨x1.heap.size, 2, none⟩ = some (.int .u64 f2) := hX4.cell 2
  have c3 : W4.cell? ⟨x1.heap.size, 3, none⟩ = some (.int .u64 N) := hX4.cell 3
  clear s0 s1 s2 s3
  have b2 : decide (4096 < (N : Int)) = true := decide_eq_true (by omega)
  have z0 : W4.cell? ⟨w.heap.size, 0, none⟩ = some (.int .i64 0) := hZ4.cell 0
  have zf0 := hZ4.frozen 0
  have z1 : W4.cell? ⟨w.heap.size, 1, none⟩ = some (.int .i64 0) := hZ4.cell 1
  have zf1 := hZ4.frozen 1
  have z2 : W4.cell? ⟨w.heap.size, 2, none⟩ = some (.int .i64 0) := hZ4.cell 2
  have zf2 := hZ4.frozen 2
  have z3 : W4.cell? ⟨w.heap.size, 3, none⟩ = some (.slice none 0 0) := hZ4.cell 3
  have zf3 := hZ4.frozen 3
  go_wp2_with fail
  have hzz : Blk ((((W4.setCell ⟨w.heap.size, 0, none⟩ (.int .i64 0)).setCell ⟨w.heap.size, 1, none⟩ (.int .i64 0)).setCell ⟨w.heap.size, 2, none⟩ (.int .i64 0)).setCell ⟨w.heap.size, 3, none⟩ (.slice none 0 0)) w.heap.size 33 #[.int .i64 0, .int .i64 0, .int .i64 0, .slice none 0 0] := ((((hZ4.set_ 0 (.int .i64 0)).set_ 1 (.int .i64 0)).set_ 2 (.int .i64 0)).set_ 3 (.slice none 0 0))
  have hbb := ((((hB4.setCell (p := ⟨w.heap.size, 0, none⟩) (Nat.le_refl _) (.int .i64 0)).setCell (p := ⟨w.heap.size, 1, none⟩) (Nat.le_refl _) (.int .i64 0)).setCell (p := ⟨w.heap.size, 2, none⟩) (Nat.le_refl _) (.int .i64 0)).setCell (p := ⟨w.heap.size, 3, none⟩) (Nat.le_refl _) (.slice none 0 0))
  clear z0 zf0 z1 zf1 z2 zf2 z3 zf3
  generalize ((((W4.setCell ⟨w.heap.size, 0, none⟩ (.int .i64 0)).setCell ⟨w.heap.size, 1, none⟩ (.int .i64 0)).setCell ⟨w.heap.size, 2, none⟩ (.int .i64 0)).setCell ⟨w.heap.size, 3, none⟩ (.slice none 0 0)) = Wf at *
  have d0 : Wf.cell? ⟨w.heap.size, 0, none⟩ = some (.int .i64 0) := hzz.cell 0
  have d1 : Wf.cell? ⟨w.heap.size, 1, none⟩ = some (.int .i64 0) := hzz.cell 1
  have d2 : Wf.cell? ⟨w.heap.size, 2, none⟩ = some (.int .i64 0) := hzz.cell 2
  have d3 : Wf.cell? ⟨w.heap.size, 3, none⟩ = some (.slice none 0 0) := hzz.cell 3
  refine bodyPost_ret (v := .tuple #[.agg #[.int .i64 0, .int .i64 0, .int .i64 0, .slice none 0 0], .int .i64 4]) (by simp [results, Try.results12, go_sem, d0, d1, d2, d3]) rfl ?_
  exact ⟨rfl, hbb⟩
set_option maxRecDepth 100000 in
set_option maxHeartbeats 4000000 in
theorem read_less (A : Option Addr) (c : Nat) (xs : List Int) (w : World) (hb : Bytes xs) (hr : ReadsB w w.heap.size A xs) (hc : xs.length ≤ c) (hm : c ≤ maxLen) (hx47 : xs.length ≤ 140737488355328) (hl : 13 ≤ xs.length) (N : Nat) (f0 f1 f2 : Int) (hf0 : f0 = gfold 0 ((xs.drop 0).take 1)) (hf1 : f1 = gfold 0 ((xs.drop 1).take 4)) (hf2 : f2 = gfold 0 ((xs.drop 5).take 4)) (hN : gfold 0 ((xs.drop 9).take 4) = N) (hn : ¬ 4096 < N) (hs : (xs.length : Int) < 13 + 14 * N) : Calls Try.prog 12 #[.slice A xs.length c] w (fun e w' => e = .returned (.tuple #[.agg #[.int .i64 0, .int .i64 0, .int .i64 0, .slice none 0 0], .int .i64 3]) ∧ Below w.heap.size w w') := by
  have hZ0 := Blk.new w 33 #[.int .i64 0, .int .i64 0, .int .i64 0, .slice none 0 0]
  have hB0 : Below w.heap.size w (w.alloc (.cells #[.int .i64 0, .int .i64 0, .int .i64 0, .slice none 0 0] 33)) := (Below.refl _ _).alloc (Nat.le_refl _) _
  have hR0 := Lib.hid (newReader_any A c xs.length xs _ _ (Reads.alloc hr (Nat.le_refl _) (.cells #[.int .i64 0, .int .i64 0, .int .i64 0, .slice none 0 0] 33)) rfl hx47)
  have hb1 : decide ((xs.length : Int) < 13) = false := decide_eq_false (by omega)
  have s0 := sizes40
  have s1 := sizes41
  have s2 := sizes42
  have s3 := sizes43
  have hzs := hZ0.lt
  go_enter Try.func12, Try.ntmps12
  go_wp2_with fail
  refine hR0.out.mono ?_
  rintro _ x1 ⟨g, rfl, hgg, hR, hb1'⟩
  have hgx := hR.lt
  have hZ1 := hZ0.below hb1' hZ0.lt
  have hB1 := hB0.trans (hb1'.mono hB0.size)
  have hgz : w.heap.size ≤ g := by simp at hgg; omega
  have hnz : ¬ w.heap.size = g := by simp at hgg; omega
  have hnx : ¬ x1.heap.size = g := by omega
  have hzx : w.heap.size ≠ x1.heap.size := by have := hZ1.lt; omega
  have hwx : w.heap.size ≤ x1.heap.size := hB1.size
  have hX0 := Blk.new x1 74 #[.int .u64 0, .int .u64 0, .int .u64 0, .int .u64 0]
  have hR0' : Rd (x1.alloc (.cells #[.int .u64 0, .int .u64 0, .int .u64 0, .int .u64 0] 74)) g xs 0 := hR.keep ((Below.refl _ _).alloc (Nat.le_refl _) _)
  have hZ0' := hZ1.alloc (.cells #[.int .u64 0, .int .u64 0, .int .u64 0, .int .u64 0] 74)
  have hB0' := hB1.alloc hwx (.cells #[.int .u64 0, .int .u64 0, .int .u64 0, .int .u64 0] 74)
  have k0 := fun W (h : Rd W g xs 0) => Lib.hid (ruint_yes g 0 1 xs W hb h (by decide) (by decide) (by omega))
  have k1 := fun W (h : Rd W g xs 1) => Lib.hid (ruint_yes g 1 4 xs W hb h (by decide) (by decide) (by omega))
  have k2 := fun W (h : Rd W g xs 5) => Lib.hid (ruint_yes g 5 4 xs W hb h (by decide) (by decide) (by omega))
  have k3 := fun W (h : Rd W g xs 9) => Lib.hid (ruint_yes g 9 4 xs W hb h (by decide) (by decide) (by omega))
  unfold RUint at k0 k1 k2 k3
  rw [show (1 : Int).toNat = 1 from rfl, ← hf0] at k0
  rw [show (4 : Int).toNat = 4 from rfl, ← hf1] at k1
  rw [show (4 : Int).toNat = 4 from rfl, ← hf2] at k2
  rw [show (4 : Int).toNat = 4 from rfl, hN] at k3
  have v0 := gf_small ((hb.drop 0).take 1) (by rw [List.length_take]; omega)
  have v1 := gf_small ((hb.drop 1).take 4) (by rw [List.length_take]; omega)
  have v2 := gf_small ((hb.drop 5).take 4) (by rw [List.length_take]; omega)
  rw [← hf0] at v0
  rw [← hf1] at v1
  rw [← hf2] at v2
  clear hZ0 hB0 hR hR0 hb1' hZ1 hB1 hf0 hf1 hf2 hgg
  go_wp2_with fail
  have hR0 := hR0'
  have hZ0 := hZ0'
  have hB0 := hB0'
  clear hR0' hZ0' hB0'
  generalize x1.alloc (.cells #[.int .u64 0, .int .u64 0, .int .u64 0, .int .u64 0] 74) = W0 at *
  refine wp_loop_rounds 5 ?_
  rw [rounds_succ]
  go_wp2_with fail
  refine (k0 _ hR0).out.mono ?_
  rintro _ x2 ⟨rfl, hRx, hg⟩
  have hTx := Turned.of_grown (F := fun i => i = g) hg (fun k h => by injection h with h; exact h.symm)
  have hXx := hX0.turned hTx hnx
  have hZx := hZ0.turned hTx hnz
  have hBx := hB0.trans (hTx.below hB0.size (fun j hj => by subst hj; exact hgz))
  have hsx := hTx.size
  have hR1 : Rd (x2.setCell ⟨x1.heap.size, 0, none⟩ (.int .u64 f0)) g xs 1 := hRx.setCellN hXx (by decide) (fun h => hnx h.symm) _
  have hX1 : Blk (x2.setCell ⟨x1.heap.size, 0, none⟩ (.int .u64 f0)) x1.heap.size 74 #[.int .u64 f0, .int .u64 0, .int .u64 0, .int .u64 0] := hXx.set_ 0 _
  have hZ1 : Blk (x2.setCell ⟨x1.heap.size, 0, none⟩ (.int .u64 f0)) w.heap.size 33 #[.int .i64 0, .int .i64 0, .int .i64 0, .slice none 0 0] := hZx.far (p := ⟨x1.heap.size, 0, none⟩) hzx _
  have hB1 : Below w.heap.size w (x2.setCell ⟨x1.heap.size, 0, none⟩ (.int .u64 f0)) := hBx.setCell (p := ⟨x1.heap.size, 0, none⟩) hwx _
  have d1 : x2.cell? ⟨x1.heap.size, 0, none⟩ = some (.int .u64 0) := hXx.cell 0
  have e1 := hXx.frozen 0
  clear hRx hg hTx hXx hZx hBx hsx hR0 hX0 hZ0 hB0 k0
  go_wp2_with fail
  clear d1 e1
  generalize x2.setCell ⟨x1.heap.size, 0, none⟩ (.int .u64 f0) = W1 at *
  rw [rounds_succ]
  go_wp2_with fail
  refine (k1 _ hR1).out.mono ?_
  rintro _ x3 ⟨rfl, hRx, hg⟩
  have hTx := Turned.of_grown (F := fun i => i = g) hg (fun k h => by injection h with h; exact h.symm)
  have hXx := hX1.turned hTx hnx
  have hZx := hZ1.turned hTx hnz
  have hBx := hB1.trans (hTx.below hB1.size (fun j hj => by subst hj; exact hgz))
  have hsx := hTx.size
  have hR2 : Rd (x3.setCell ⟨x1.heap.size, 1, none⟩ (.int .u64 f1)) g xs 5 := hRx.setCellN hXx (by decide) (fun h => hnx h.symm) _
  have hX2 : Blk (x3.setCell ⟨x1.heap.size, 1, none⟩ (.int .u64 f1)) x1.heap.size 74 #[.int .u64 f0, .int .u64 f1, .int .u64 0, .int .u64 0] := hXx.set_ 1 _
  have hZ2 : Blk (x3.setCell ⟨x1.heap.size, 1, none⟩ (.int .u64 f1)) w.heap.size 33 #[.int .i64 0, .int .i64 0, .int .i64 0, .slice none 0 0] := hZx.far (p := ⟨x1.heap.size, 1, none⟩) hzx _
  have hB2 : Below w.heap.size w (x3.setCell ⟨x1.heap.size, 1, none⟩ (.int .u64 f1)) := hBx.setCell (p := ⟨x1.heap.size, 1, none⟩) hwx _
  have d1 : x3.cell? ⟨x1.heap.size, 1, none⟩ = some (.int .u64 0) := hXx.cell 1
  have e1 := hXx.frozen 1
  clear hRx hg hTx hXx hZx hBx hsx hR1 hX1 hZ1 hB1 k1
  go_wp2_with fail
  clear d1 e1
  generalize x3.setCell ⟨x1.heap.size, 1, none⟩ (.int .u64 f1) = W2 at *
  rw [rounds_succ]
  go_wp2_with fail
  refine (k2 _ hR2).out.mono ?_
  rintro _ x4 ⟨rfl, hRx, hg⟩
  have hTx := Turned.of_grown (F := fun i => i = g) hg (fun k h => by injection h with h; exact h.symm)
  have hXx := hX2.turned hTx hnx
  have hZx := hZ2.turned hTx hnz
  have hBx := hB2.trans (hTx.below hB2.size (fun j hj => by subst hj; exact hgz))
  have hsx := hTx.size
  have hR3 : Rd (x4.setCell ⟨x1.heap.size, 2, none⟩ (.int .u64 f2)) g xs 9 := hRx.setCellN hXx (by decide) (fun h => hnx h.symm) _
  have hX3 : Blk (x4.setCell ⟨x1.heap.size, 2, none⟩ (.int .u64 f2)) x1.heap.size 74 #[.int .u64 f0, .int .u64 f1, .int .u64 f2, .int .u64 0] := hXx.set_ 2 _
  have hZ3 : Blk (x4.setCell ⟨x1.heap.size, 2, none⟩ (.int .u64 f2)) w.heap.size 33 #[.int .i64 0, .int .i64 0, .int .i64 0, .slice none 0 0] := hZx.far (p := ⟨x1.heap.size, 2, none⟩) hzx _
  have hB3 : Below w.heap.size w (x4.setCell ⟨x1.heap.size, 2, none⟩ (.int .u64 f2)) := hBx.setCell (p := ⟨x1.heap.size, 2, none⟩) hwx _
  have d1 : x4.cell? ⟨x1.heap.size, 2, none⟩ = some (.int .u64 0) := hXx.cell 2
  have e1 := hXx.frozen 2
  clear hRx hg hTx hXx hZx hBx hsx hR2 hX2 hZ2 hB2 k2
  go_wp2_with fail
  clear d1 e1
  generalize x4.setCell ⟨x1.heap.size, 2, none⟩ (.int .u64 f2) = W3 at *
  rw [rounds_succ]
  go_wp2_with fail
  refine (k3 _ hR3).out.mono ?_
  rintro _ x5 ⟨rfl, hRx, hg⟩
  have hTx := Turned.of_grown (F := fun i => i = g) hg (fun k h => by injection h with h; exact h.symm)
  have hXx := hX3.turned hTx hnx
  have hZx := hZ3.turned hTx hnz
  have hBx := hB3.trans (hTx.below hB3.size (fun j hj => by subst hj; exact hgz))
  have hsx := hTx.size
  have hR4 : Rd (x5.setCell ⟨x1.heap.size, 3, none⟩ (.int .u64 N)) g xs 13 := hRx.setCellN hXx (by decide) (fun h => hnx h.symm) _
  have hX4 : Blk (x5.setCell ⟨x1.heap.size, 3, none⟩ (.int .u64 N)) x1.heap.size 74 #[.int .u64 f0, .int .u64 f1, .int .u64 f2, .int .u64 N] := hXx.set_ 3 _
  have hZ4 : Blk (x5.setCell ⟨x1.heap.size, 3, none⟩ (.int .u64 N)) w.heap.size 33 #[.int .i64 0, .int .i64 0, .int .i64 0, .slice none 0 0] := hZx.far (p := ⟨x1.heap.size, 3, none⟩) hzx _
  have hB4 : Below w.heap.size w (x5.setCell ⟨x1.heap.size, 3, none⟩ (.int .u64 N)) := hBx.setCell (p := ⟨x1.heap.size, 3, none⟩) hwx _
  have d1 : x5.cell? ⟨x1.heap.size, 3, none⟩ = some (.int .u64 0) := hXx.cell 3
  have e1 := hXx.frozen 3
  clear hRx hg hTx hXx hZx hBx hsx hR3 hX3 hZ3 hB3 k3
  go_wp2_with fail
  clear d1 e1
  generalize x5.setCell ⟨x1.heap.size, 3, none⟩ (.int .u64 N) = W4 at *
  rw [rounds_succ]
  have c0 : W4.cell? ⟨x1.heap.size, 0, none⟩ = some (.int .u64 f0) := hX4.cell 0
  have c1 : W4.cell? ⟨x1.heap.size, 1, none⟩ = some (.int .u64 f1) := hX4.cell 1
  have c2 : W4.cell? ⟨x1.heap.size, 2, none⟩ = some (.int .u64 f2) := hX4.cell 2
  have c3 : W4.cell? ⟨x1.heap.size, 3, none⟩ = some (.int .u64 N) := hX4.cell 3
  clear s0 s1 s2 s3
  have hlf := fun m => Lib.hid (left_any g 13 xs (W4.drewN m) (hR4.drewN m))
  have q3 : IntKind.i64.wrap (N : Int) = N := by rw [IntKind.wrap_i64]; omega
  have q4 : IntKind.i64.wrap (14 * (N : Int)) = 14 * N := by rw [IntKind.wrap_i64]; omega
  have b2 : decide (4096 < (N : Int)) = false := decide_eq_false (by omega)
  have b3 : decide ((xs.length : Int) - 13 < 14 * (N : Int)) = true := decide_eq_true (by omega)
  go_wp2_with fail
  go_quiet ((go_at_call 30; exact quiet_moreR (hlf _).out))
  obtain ⟨m1, rfl⟩ : ∃ m, m = nq := ⟨_, rfl⟩
  have hZ5 := hZ4.drewN m1
  have hB5 := below_drewN hB4 m1
  have z0 : (W4.drewN m1).cell? ⟨w.heap.size, 0, none⟩ = some (.int .i64 0) := hZ5.cell 0
  have zf0 := hZ5.frozen 0
  have z1 : (W4.drewN m1).cell? ⟨w.heap.size, 1, none⟩ = some (.int .i64 0) := hZ5.cell 1
  have zf1 := hZ5.frozen 1
  have z2 : (W4.drewN m1).cell? ⟨w.heap.size, 2, none⟩ = some (.int .i64 0) := hZ5.cell 2
  have zf2 := hZ5.frozen 2
  have z3 : (W4.drewN m1).cell? ⟨w.heap.size, 3, none⟩ = some (.slice none 0 0) := hZ5.cell 3
  have zf3 := hZ5.frozen 3
  go_wp2_with fail
  have hzz : Blk (((((W4.drewN m1).setCell ⟨w.heap.size, 0, none⟩ (.int .i64 0)).setCell ⟨w.heap.size, 1, none⟩ (.int .i64 0)).setCell ⟨w.heap.size, 2, none⟩ (.int .i64 0)).setCell ⟨w.heap.size, 3, none⟩ (.slice none 0 0)) w.heap.size 33 #[.int .i64 0, .int .i64 0, .int .i64 0, .slice none 0 0] := ((((hZ5.set_ 0 (.int .i64 0)).set_ 1 (.int .i64 0)).set_ 2 (.int .i64 0)).set_ 3 (.slice none 0 0))
  have hbb := ((((hB5.setCell (p := ⟨w.heap.size, 0, none⟩) (Nat.le_refl _) (.int .i64 0)).setCell (p := ⟨w.heap.size, 1, none⟩) (Nat.le_refl _) (.int .i64 0)).setCell (p := ⟨w.heap.size, 2, none⟩) (Nat.le_refl _) (.int .i64 0)).setCell (p := ⟨w.heap.size, 3, none⟩) (Nat.le_refl _) (.slice none 0 0))
  clear z0 zf0 z1 zf1 z2 zf2 z3 zf3
  generalize (((((W4.drewN m1).setCell ⟨w.heap.size, 0, none⟩ (.int .i64 0)).setCell ⟨w.heap.size, 1, none⟩ (.int .i64 0)).setCell ⟨w.heap.size, 2, none⟩ (.int .i64 0)).setCell ⟨w.heap.size, 3, none⟩ (.slice none 0 0)) = Wf at *
  have d0 : Wf.cell? ⟨w.heap.size, 0, none⟩ = some (.int .i64 0) := hzz.cell 0
  have d1 : Wf.cell? ⟨w.heap.size, 1, none⟩ = some (.int .i64 0) := hzz.cell 1
  have d2 : Wf.cell? ⟨w.heap.size, 2, none⟩ = some (.int .i64 0) := hzz.cell 2
  have d3 : Wf.cell? ⟨w.heap.size, 3, none⟩ = some (.slice none 0 0) := hzz.cell 3
  refine bodyPost_ret (v := .tuple #[.agg #[.int .i64 0, .int .i64 0, .int .i64 0, .slice none 0 0], .int .i64 3]) (by simp [results, Try.results12, go_sem, d0, d1, d2, d3]) rfl ?_
  exact ⟨rfl, hbb⟩
set_option maxRecDepth 100000 in
set_option maxHeartbeats 4000000 in
theorem read_loop (A : Option Addr) (c : Nat) (xs : List Int) (w : World) (hb : Bytes xs) (hr : ReadsB w w.heap.size A xs) (hc : xs.length ≤ c) (hm : c ≤ maxLen) (hx47 : xs.length ≤ 140737488355328) (hl : 13 ≤ xs.length) (N : Nat) (f0 f1 f2 : Int) (hf0 : f0 = gfold 0 ((xs.drop 0).take 1)) (hf1 : f1 = gfold 0 ((xs.drop 1).take 4)) (hf2 : f2 = gfold 0 ((xs.drop 5).take 4)) (hN : gfold 0 ((xs.drop 9).take 4) = N) (hn : N ≤ 4096) (hs : 13 + 14 * N ≤ xs.length) (code : Int) (hcode : Hid (code = nErr f0 f1 f2 (ents xs N))) : Calls Try.prog 12 #[.slice A xs.length c] w (RdEnd w f0 f1 f2 (ents xs N) (xs.length = 13 + 14 * N ∧ code = 0)) := by
  have hZ0 := Blk.new w 33 #[.int .i64 0, .int .i64 0, .int .i64 0, .slice none 0 0]
  have hB0 : Below w.heap.size w (w.alloc (.cells #[.int .i64 0, .int .i64 0, .int .i64 0, .slice none 0 0] 33)) := (Below.refl _ _).alloc (Nat.le_refl _) _
  have hR0 := Lib.hid (newReader_any A c xs.length xs _ _ (Reads.alloc hr (Nat.le_refl _) (.cells #[.int .i64 0, .int .i64 0, .int .i64 0, .slice none 0 0] 33)) rfl hx47)
  have hb1 : decide ((xs.length : Int) < 13) = false := decide_eq_false (by omega)
  have s0 := sizes40
  have s1 := sizes41
  have s2 := sizes42
  have s3 := sizes43
  have hzs := hZ0.lt
  go_enter Try.func12, Try.ntmps12
  go_wp2_with fail
  refine hR0.out.mono ?_
  rintro _ x1 ⟨g, rfl, hgg, hR, hb1'⟩
  have hgx := hR.lt
  have hZ1 := hZ0.below hb1' hZ0.lt
  have hB1 := hB0.trans (hb1'.mono hB0.size)
  have hgz : w.heap.size ≤ g := by simp at hgg; omega
  have hnz : ¬ w.heap.size = g := by simp at hgg; omega
  have hnx : ¬ x1.heap.size = g := by omega
  have hzx : w.heap.size ≠ x1.heap.size := by have := hZ1.lt; omega
  have hwx : w.heap.size ≤ x1.heap.size := hB1.size
  have hX0 := Blk.new x1 74 #[.int .u64 0, .int .u64 0, .int .u64 0, .int .u64 0]
  have hR0' : Rd (x1.alloc (.cells #[.int .u64 0, .int .u64 0, .int .u64 0, .int .u64 0] 74)) g xs 0 := hR.keep ((Below.refl _ _).alloc (Nat.le_refl _) _)
  have hZ0' := hZ1.alloc (.cells #[.int .u64 0, .int .u64 0, .int .u64 0, .int .u64 0] 74)
  have hB0' := hB1.alloc hwx (.cells #[.int .u64 0, .int .u64 0, .int .u64 0, .int .u64 0] 74)
  have k0 := fun W (h : Rd W g xs 0) => Lib.hid (ruint_yes g 0 1 xs W hb h (by decide) (by decide) (by omega))
  have k1 := fun W (h : Rd W g xs 1) => Lib.hid (ruint_yes g 1 4 xs W hb h (by decide) (by decide) (by omega))
  have k2 := fun W (h : Rd W g xs 5) => Lib.hid (ruint_yes g 5 4 xs W hb h (by decide) (by decide) (by omega))
  have k3 := fun W (h : Rd W g xs 9) => Lib.hid (ruint_yes g 9 4 xs W hb h (by decide) (by decide) (by omega))
  unfold RUint at k0 k1 k2 k3
  rw [show (1 : Int).toNat = 1 from rfl, ← hf0] at k0
  rw [show (4 : Int).toNat = 4 from rfl, ← hf1] at k1
  rw [show (4 : Int).toNat = 4 from rfl, ← hf2] at k2
  rw [show (4 : Int).toNat = 4 from rfl, hN] at k3
  have v0 := gf_small ((hb.drop 0).take 1) (by rw [List.length_take]; omega)
  have v1 := gf_small ((hb.drop 1).take 4) (by rw [List.length_take]; omega)
  have v2 := gf_small ((hb.drop 5).take 4) (by rw [List.length_take]; omega)
  rw [← hf0] at v0
  rw [← hf1] at v1
  rw [← hf2] at v2
  clear hZ0 hB0 hR hR0 hb1' hZ1 hB1 hf0 hf1 hf2 hgg
  go_wp2_with fail
  have hR0 := hR0'
  have hZ0 := hZ0'
  have hB0 := hB0'
  clear hR0' hZ0' hB0'
  generalize x1.alloc (.cells #[.int .u64 0, .int .u64 0, .int .u64 0, .int .u64 0] 74) = W0 at *
  refine wp_loop_rounds 5 ?_
  rw [rounds_succ]
  go_wp2_with fail
  refine (k0 _ hR0).out.mono ?_
  rintro _ x2 ⟨rfl, hRx, hg⟩
  have hTx := Turned.of_grown (F := fun i => i = g) hg (fun k h => by injection h with h; exact h.symm)
  have hXx := hX0.turned hTx hnx
  have hZx := hZ0.turned hTx hnz
  have hBx := hB0.trans (hTx.below hB0.size (fun j hj => by subst hj; exact hgz))
  have hsx := hTx.size
  have hR1 : Rd (x2.setCell ⟨x1.heap.size, 0, none⟩ (.int .u64 f0)) g xs 1 := hRx.setCellN hXx (by decide) (fun h => hnx h.symm) _
  have hX1 : Blk (x2.setCell ⟨x1.heap.size, 0, none⟩ (.int .u64 f0)) x1.heap.size 74 #[.int .u64 f0, .int .u64 0, .int .u64 0, .int .u64 0] := hXx.set_ 0 _
  have hZ1 : Blk (x2.setCell ⟨x1.heap.size, 0, none⟩ (.int .u64 f0)) w.heap.size 33 #[.int .i64 0, .int .i64 0, .int .i64 0, .slice none 0 0] := hZx.far (p := ⟨x1.heap.size, 0, none⟩) hzx _
  have hB1 : Below w.heap.size w (x2.setCell ⟨x1.heap.size, 0, none⟩ (.int .u64 f0)) := hBx.setCell (p := ⟨x1.heap.size, 0, none⟩) hwx _
  have d1 : x2.cell? ⟨x1.heap.size, 0, none⟩ = some (.int .u64 0) := hXx.cell 0
  have e1 := hXx.frozen 0
  clear hRx hg hTx hXx hZx hBx hsx hR0 hX0 hZ0 hB0 k0
  go_wp2_with fail
  clear d1 e1
  generalize x2.setCell ⟨x1.heap.size, 0, none⟩ (.int .u64 f0) = W1 at *
  rw [rounds_succ]
  go_wp2_with fail
  refine (k1 _ hR1).out.mono ?_
  rintro _ x3 ⟨rfl, hRx, hg⟩
  have hTx := Turned.of_grown (F := fun i => i = g) hg (fun k h => by injection h with h; exact h.symm)
  have hXx := hX1.turned hTx hnx
  have hZx := hZ1.turned hTx hnz
  have hBx := hB1.trans (hTx.below hB1.size (fun j hj => by subst hj; exact hgz))
  have hsx := hTx.size
  have hR2 : Rd (x3.setCell ⟨x1.heap.size, 1, none⟩ (.int .u64 f1)) g xs 5 := hRx.setCellN hXx (by decide) (fun h => hnx h.symm) _
  have hX2 : Blk (x3.setCell ⟨x1.heap.size, 1, none⟩ (.int .u64 f1)) x1.heap.size 74 #[.int .u64 f0, .int .u64 f1, .int .u64 0, .int .u64 0] := hXx.set_ 1 _
  have hZ2 : Blk (x3.setCell ⟨x1.heap.size, 1, none⟩ (.int .u64 f1)) w.heap.size 33 #[.int .i64 0, .int .i64 0, .int .i64 0, .slice none 0 0] := hZx.far (p := ⟨x1.heap.size, 1, none⟩) hzx _
  have hB2 : Below w.heap.size w (x3.setCell ⟨x1.heap.size, 1, none⟩ (.int .u64 f1)) := hBx.setCell (p := ⟨x1.heap.size, 1, none⟩) hwx _
  have d1 : x3.cell? ⟨x1.heap.size, 1, none⟩ = some (.int .u64 0) := hXx.cell 1
  have e1 := hXx.frozen 1
  clear hRx hg hTx hXx hZx hBx hsx hR1 hX1 hZ1 hB1 k1
  go_wp2_with fail
  clear d1 e1
  generalize x3.setCell ⟨x1.heap.size, 1, none⟩ (.int .u64 f1) = W2 at *
  rw [rounds_succ]
  go_wp2_with fail
  refine (k2 _ hR2).out.mono ?_
  rintro _ x4 ⟨rfl, hRx, hg⟩
  have hTx := Turned.of_grown (F := fun i => i = g) hg (fun k h => by injection h with h; exact h.symm)
  have hXx := hX2.turned hTx hnx
  have hZx := hZ2.turned hTx hnz
  have hBx := hB2.trans (hTx.below hB2.size (fun j hj => by subst hj; exact hgz))
  have hsx := hTx.size
  have hR3 : Rd (x4.setCell ⟨x1.heap.size, 2, none⟩ (.int .u64 f2)) g xs 9 := hRx.setCellN hXx (by decide) (fun h => hnx h.symm) _
  have hX3 : Blk (x4.setCell ⟨x1.heap.size, 2, none⟩ (.int .u64 f2)) x1.heap.size 74 #[.int .u64 f0, .int .u64 f1, .int .u64 f2, .int .u64 0] := hXx.set_ 2 _
  have hZ3 : Blk (x4.setCell ⟨x1.heap.size, 2, none⟩ (.int .u64 f2)) w.heap.size 33 #[.int .i64 0, .int .i64 0, .int .i64 0, .slice none 0 0] := hZx.far (p := ⟨x1.heap.size, 2, none⟩) hzx _
  have hB3 : Below w.heap.size w (x4.setCell ⟨x1.heap.size, 2, none⟩ (.int .u64 f2)) := hBx.setCell (p := ⟨x1.heap.size, 2, none⟩) hwx _
  have d1 : x4.cell? ⟨x1.heap.size, 2, none⟩ = some (.int .u64 0) := hXx.cell 2
  have e1 := hXx.frozen 2
  clear hRx hg hTx hXx hZx hBx hsx hR2 hX2 hZ2 hB2 k2
  go_wp2_with fail
  clear d1 e1
  generalize x4.setCell ⟨x1.heap.size, 2, none⟩ (.int .u64 f2) = W3 at *
  rw [rounds_succ]
  go_wp2_with fail
  refine (k3 _ hR3).out.mono ?_
  rintro _ x5 ⟨rfl, hRx, hg⟩
  have hTx := Turned.of_grown (F := fun i => i = g) hg (fun k h => by injection h with h; exact h.symm)
  have hXx := hX3.turned hTx hnx
  have hZx := hZ3.turned hTx hnz
  have hBx := hB3.trans (hTx.below hB3.size (fun j hj => by subst hj; exact hgz))
  have hsx := hTx.size
  have hR4 : Rd (x5.setCell ⟨x1.heap.size, 3, none⟩ (.int .u64 N)) g xs 13 := hRx.setCellN hXx (by decide) (fun h => hnx h.symm) _
  have hX4 : Blk (x5.setCell ⟨x1.heap.size, 3, none⟩ (.int .u64 N)) x1.heap.size 74 #[.int .u64 f0, .int .u64 f1, .int .u64 f2, .int .u64 N] := hXx.set_ 3 _
  have hZ4 : Blk (x5.setCell ⟨x1.heap.size, 3, none⟩ (.int .u64 N)) w.heap.size 33 #[.int .i64 0, .int .i64 0, .int .i64 0, .slice none 0 0] := hZx.far (p := ⟨x1.heap.size, 3, none⟩) hzx _
  have hB4 : Below w.heap.size w (x5.setCell ⟨x1.heap.size, 3, none⟩ (.int .u64 N)) := hBx.setCell (p := ⟨x1.heap.size, 3, none⟩) hwx _
  have d1 : x5.cell? ⟨x1.heap.size, 3, none⟩ = some (.int .u64 0) := hXx.cell 3
  have e1 := hXx.frozen 3
  clear hRx hg hTx hXx hZx hBx hsx hR3 hX3 hZ3 hB3 k3
  go_wp2_with fail
  clear d1 e1
  generalize x5.setCell ⟨x1.heap.size, 3, none⟩ (.int .u64 N) = W4 at *
  rw [rounds_succ]
  have c0 : W4.cell? ⟨x1.heap.size, 0, none⟩ = some (.int .u64 f0) := hX4.cell 0
  have c1 : W4.cell? ⟨x1.heap.size, 1, none⟩ = some (.int .u64 f1) := hX4.cell 1
  have c2 : W4.cell? ⟨x1.heap.size, 2, none⟩ = some (.int .u64 f2) := hX4.cell 2
  have c3 : W4.cell? ⟨x1.heap.size, 3, none⟩ = some (.int .u64 N) := hX4.cell 3
  clear s0 s1 s2 s3
  have hlf := fun m => Lib.hid (left_any g 13 xs (W4.drewN m) (hR4.drewN m))
  have q3 : IntKind.i64.wrap (N : Int) = N := by rw [IntKind.wrap_i64]; omega
  have q4 : IntKind.i64.wrap (14 * (N : Int)) = 14 * N := by rw [IntKind.wrap_i64]; omega
  have b2 : decide (4096 < (N : Int)) = false := decide_eq_false (by omega)
  have b3 : decide ((xs.length : Int) - 13 < 14 * (N : Int)) = false := decide_eq_false (by omega)
  have q0' : IntKind.i64.wrap f0 = f0 := by rw [IntKind.wrap_i64]; omega
  have q1' : IntKind.i64.wrap f1 = f1 := by rw [IntKind.wrap_i64]; omega
  have q2' : IntKind.i64.wrap f2 = f2 := by rw [IntKind.wrap_i64]; omega
  have q0 : wrap64 f0 = f0 := IntWalk.wrap64_in _ (by omega)
  have q1 : wrap64 f1 = f1 := IntWalk.wrap64_in _ (by omega)
  have q2 : wrap64 f2 = f2 := IntWalk.wrap64_in _ (by omega)
  go_wp2_with fail
  go_quiet ((go_at_call 30; exact quiet_moreR (hlf _).out))
  obtain ⟨m1, rfl⟩ : ∃ m, m = nq := ⟨_, rfl⟩
  have hZ5 := hZ4.drewN m1
  have hB5 := below_drewN hB4 m1
  have hR5 := hR4.drewN m1
  have hX5 := hX4.drewN m1
  clear c0 c1 c2 c3 hX4 hlf hR4 hZ4 hB4 q3 q4
  generalize W4.drewN m1 = W5 at *
  have c0 : W5.cell? ⟨x1.heap.size, 0, none⟩ = some (.int .u64 f0) := hX5.cell 0
  have c1 : W5.cell? ⟨x1.heap.size, 1, none⟩ = some (.int .u64 f1) := hX5.cell 1
  have c2 : W5.cell? ⟨x1.heap.size, 2, none⟩ = some (.int .u64 f2) := hX5.cell 2
  have c3 : W5.cell? ⟨x1.heap.size, 3, none⟩ = some (.int .u64 N) := hX5.cell 3
  have hxs := hX5.lt
  go_wp2_with fail
  have hN6 := Blk.new W5 33 #[.int .i64 f0, .int .i64 f1, .int .i64 f2, .slice none 0 0]
  have hZ6 := hZ5.alloc (.cells #[.int .i64 f0, .int .i64 f1, .int .i64 f2, .slice none 0 0] 33)
  have hB6 := hB5.alloc hB5.size (.cells #[.int .i64 f0, .int .i64 f1, .int .i64 f2, .slice none 0 0] 33)
  have hR6 : Rd (W5.alloc (.cells #[.int .i64 f0, .int .i64 f1, .int .i64 f2, .slice none 0 0] 33)) g xs 13 := hR5.keep ((Below.refl _ _).alloc (Nat.le_refl _) _)
  have hnb : w.heap.size ≠ W5.heap.size := by have := hZ5.lt; omega
  have hgb : ¬ W5.heap.size = g := by have := hR5.lt; omega
  have hnw : w.heap.size ≤ W5.heap.size := hB5.size
  clear c0 c1 c2 c3 hX5 hZ5 hB5 hR5 hxs
  go_loopw [55] (fun i wr => ∃ k : Nat, k ≤ N ∧ i = .int .u64 k ∧ ∃ Ae ce, Blk wr W5.heap.size 33 #[.int .i64 f0, .int .i64 f1, .int .i64 f2, .slice Ae k ce] ∧ OwnE wr w.heap.size (.slice Ae k ce) (ents xs k) ∧ Blk wr w.heap.size 33 #[.int .i64 0, .int .i64 0, .int .i64 0, .slice none 0 0] ∧ Rd wr g xs (13 + 14 * k) ∧ Below w.heap.size w wr) (fun i _ => N - (intOf i).toNat)
  case atStart => exact ⟨0, by omega, rfl, none, 0, hN6, OwnE.nil _ _, hZ6, hR6, hB6⟩
  case round =>
    obtain ⟨k, hk, rfl, Ae, ce, hNb, hO, hZ, hR, hB⟩ := hrel
    by_cases hlt : k < N
    · have hget := get_any g xs wr.drew hb (13 + 14 * k) hR (by omega)
      obtain ⟨x, hx⟩ : ∃ x, x = getE (xs.drop (13 + 14 * k)) := ⟨_, rfl⟩
      rw [← hx] at hget
      have hnx' := ents_next xs k
      rw [← hx] at hnx'
      unfold Ent.val at hget
      replace hget := Lib.hid hget
      have hx' := Lib.hid hx
      clear hx
      have d3 : wr.cell? ⟨W5.heap.size, 3, none⟩ = some (.slice Ae k ce) := hNb.cell 3
      have df3 := hNb.frozen 3
      have hl1 : (ents xs (k + 1)).length = k + 1 := ents_length xs (k + 1)
      have hbig : k + 1 ≤ 4398046511104 := by omega
      have hgv := own_blk_ne hO hNb (by decide)
      have hgz' := own_blk_ne hO hZ (by decide)
      have hgr : (Value.slice Ae k ce).ownBlock ≠ some g := by
        obtain ⟨cs, hcs⟩ := hR.blk
        exact own_blk_ne hO hcs (by decide)
      have hz1 : ents xs k ++ [x] = ents xs (k + 1) := hnx'.symm
      have hOd : OwnE wr.drew w.heap.size (.slice Ae k ce) (ents xs k) := hO
      have hNd : Blk wr.drew W5.heap.size 33 #[.int .i64 f0, .int .i64 f1, .int .i64 f2, .slice Ae k ce] := hNb
      have hZd : Blk wr.drew w.heap.size 33 #[.int .i64 0, .int .i64 0, .int .i64 0, .slice none 0 0] := hZ
      have hoB : Below w.heap.size w wr.drew := hB.drew
      have hww := hB.size
      replace hl1 := Lib.hid hl1
      replace hz1 := Lib.hid hz1
      clear hnx'
      go_wp2_with fail
      go_region_law (first
        | (go_simp
           go_at_call 31
           refine hget.out.mono ?_
           rintro _ y1 ⟨rfl, hRy, hTy⟩
           have hsy := hTy.size
           have hNy := hNd.turned hTy hgb
           have hZy := hZd.turned hTy hnz
           have hOy0 := own_turned hOd hTy (fun j hj h => hgr (by rw [hj, h]))
           have hOy := OwnE.alloc hOy0 (.cells #[.int .i64 x.view, .int .i64 x.what, .int .i64 x.a, .int .i64 x.n] 42)
           have hRy1 := ReadsE.one y1 x
           have ny3 : y1.cell? ⟨W5.heap.size, 3, none⟩ = some (.slice Ae k ce) := hNy.cell 3
           have hNya := Blk.alloc hNy (.cells #[.int .i64 x.view, .int .i64 x.what, .int .i64 x.a, .int .i64 x.n] 42)
           have hZya := Blk.alloc hZy (.cells #[.int .i64 x.view, .int .i64 x.what, .int .i64 x.a, .int .i64 x.n] 42)
           have ny3a : (y1.alloc (.cells #[.int .i64 x.view, .int .i64 x.what, .int .i64 x.a, .int .i64 x.n] 42)).cell? ⟨W5.heap.size, 3, none⟩ = some (.slice Ae k ce) := hNya.cell 3
           have nyf3 := hNy.frozen 3
           have hBy := (hoB.trans (hTy.below hoB.size (fun j hj => by subst hj; exact hgz))).alloc (by have := hTy.size; exact Nat.le_trans hoB.size this) (.cells #[.int .i64 x.view, .int .i64 x.what, .int .i64 x.a, .int .i64 x.n] 42)
           have hRya : Rd (y1.alloc (.cells #[.int .i64 x.view, .int .i64 x.what, .int .i64 x.a, .int .i64 x.n] 42)) g xs (13 + 14 * k + 14) := hRy.keep ((Below.refl _ _).alloc (Nat.le_refl _) _))
        | (refine step_appE _ (by rfl) (.tmp 58) (.tmp 61) (by rfl) w.heap.size (.slice Ae k ce) (ents xs k) (by simp [Act.eval]) hOy (y1.heap.size + 1) (some ⟨y1.heap.size, 0, none⟩) 1 1 [x] (by simp [Act.eval]) hRy1 rfl
            (ents xs (k + 1)) (k + 1) hz1.out hl1.out hbig (by simp at hsy; simp; omega) ?_
           intro A9 c9 w9 hown9 hg9 hb9 hat9
           have hN9 := Blk.grown hNya hg9 hgv.symm
           have hZ9 := Blk.grown hZya hg9 hgz'.symm
           have hR9 := Rd.grownE hRya hOy hg9
           have n93 : w9.cell? ⟨W5.heap.size, 3, none⟩ = some (.slice Ae k ce) := hN9.cell 3
           have n9f := hN9.frozen 3))
      all_goals
        have hNa : Blk (w9.setCell ⟨W5.heap.size, 3, none⟩ (.slice A9 (k + 1) c9)) W5.heap.size 33 #[.int .i64 f0, .int .i64 f1, .int .i64 f2, .slice A9 (k + 1) c9] := hN9.set_ 3 (.slice A9 (k + 1) c9)
        have hOa := ownE_setCell hown9 hN9 (by decide) (i := 3) (.slice A9 (k + 1) c9)
        have hZa := hZ9.far (p := ⟨W5.heap.size, 3, none⟩) hnb (.slice A9 (k + 1) c9)
        have hRa : Rd (w9.setCell ⟨W5.heap.size, 3, none⟩ (.slice A9 (k + 1) c9)) g xs (13 + 14 * (k + 1)) := by
          have h := hR9.setCellN (i := 3) hN9 (by decide) (fun h => hgb h.symm) (.slice A9 (k + 1) c9)
          rw [show 13 + 14 * (k + 1) = 13 + 14 * k + 14 from by omega]
          exact h
        have hBa := (hBy.trans hb9).setCell (p := ⟨W5.heap.size, 3, none⟩) hnw (.slice A9 (k + 1) c9)
        clear d3 df3 hNy hZy hOy hRy hRy1 ny3 hNya hZya ny3a nyf3 n93 n9f hget hRya hR9
        go_wp2_with fail
        refine ⟨?a1, ?e3⟩
        case a1 =>
          iterate 10 apply Exists.intro
          refine ⟨⟨k + 1, by omega, ?e1, A9, c9, hNa, hOa, hZa, hRa, hBa⟩, ?e2⟩
          case e2 => rfl
          case e1 => go_num
        case e3 => simp [intOf]; omega
    · obtain rfl : k = N := by omega
      have hlenN := ents_length xs k
      have hin := ents_in xs hb k hs
      have hread := hO.reads
      have hcap := hO.cap
      rw [hlenN] at hcap
      have i1 : in64 f1 := by unfold in64; omega
      have i2 : in64 f2 := by unfold in64; omega
      have e0 : wr.cell? ⟨W5.heap.size, 0, none⟩ = some (.int .i64 f0) := hNb.cell 0
      have e1 : wr.cell? ⟨W5.heap.size, 1, none⟩ = some (.int .i64 f1) := hNb.cell 1
      have e2 : wr.cell? ⟨W5.heap.size, 2, none⟩ = some (.int .i64 f2) := hNb.cell 2
      have e3 : wr.cell? ⟨W5.heap.size, 3, none⟩ = some (.slice Ae k ce) := hNb.cell 3
      have hlf := Lib.hid (left_any g (13 + 14 * k) xs wr hR)
      by_cases hlong : xs.length = 13 + 14 * k
      · have b4 : decide (0 < (xs.length : Int) - ((13 + 14 * k : Nat) : Int)) = false := decide_eq_false (by omega)
        have b4' : decide (0 < (xs.length : Int) - (13 + 14 * (k : Int))) = false := decide_eq_false (by omega)
        have b5' : decide (13 + 14 * (k : Int) < (xs.length : Int)) = false := decide_eq_false (by omega)
        have hckm := fun m => chk_any f0 f1 f2 Ae ce (ents xs k) (wr.drewN m) (hread.drewN m) hin i1 i2 (by rw [hlenN]; unfold maxLen; omega)
        unfold CPost at hckm
        rw [hlenN, ← hcode.out] at hckm
        replace hckm := Lib.hid hckm
        have hlong' := Lib.hid hlong
        clear hlong
        go_wp2_with fail
        refine hlf.out.mono ?_
        rintro _ y0 ⟨rfl, m1, rfl⟩
        go_wp2_with fail
        refine (hckm.out m1).mono ?_
        rintro _ y ⟨hy, hres⟩
        have hy : Below wr.heap.size wr y := (Below.refl _ _ : Below wr.heap.size wr wr) |>.trans ⟨hy.os, hy.tape, hy.output, hy.size, hy.block⟩
        have hZy := hZ.below hy hZ.lt
        have hNy := hNb.below hy hNb.lt
        have hBy := hB.trans (hy.mono hB.size)
        have z0 : y.cell? ⟨w.heap.size, 0, none⟩ = some (.int .i64 0) := hZy.cell 0
        have zf0 := hZy.frozen 0
        have z1 : y.cell? ⟨w.heap.size, 1, none⟩ = some (.int .i64 0) := hZy.cell 1
        have zf1 := hZy.frozen 1
        have z2 : y.cell? ⟨w.heap.size, 2, none⟩ = some (.int .i64 0) := hZy.cell 2
        have zf2 := hZy.frozen 2
        have z3 : y.cell? ⟨w.heap.size, 3, none⟩ = some (.slice none 0 0) := hZy.cell 3
        have zf3 := hZy.frozen 3
        have y0 : y.cell? ⟨W5.heap.size, 0, none⟩ = some (.int .i64 f0) := hNy.cell 0
        have y1 : y.cell? ⟨W5.heap.size, 1, none⟩ = some (.int .i64 f1) := hNy.cell 1
        have y2 : y.cell? ⟨W5.heap.size, 2, none⟩ = some (.int .i64 f2) := hNy.cell 2
        have y3 : y.cell? ⟨W5.heap.size, 3, none⟩ = some (.slice Ae k ce) := hNy.cell 3
        have hOy := OwnE.below hO hy
        clear e0 e1 e2 e3
        rcases hres with ⟨hc0, rfl⟩ | ⟨hc0, gj, rfl, _⟩
        · subst hc0
          go_wp2_with fail
          have hOz0 := ownE_setCell hOy hZy (by decide) (i := 0) (.int .i64 f0)
          have hOz1 := ownE_setCell hOz0 (hZy.set_ 0 (.int .i64 f0)) (by decide) (i := 1) (.int .i64 f1)
          have hOz2 := ownE_setCell hOz1 ((hZy.set_ 0 (.int .i64 f0)).set_ 1 (.int .i64 f1)) (by decide) (i := 2) (.int .i64 f2)
          have hOz3 := ownE_setCell hOz2 (((hZy.set_ 0 (.int .i64 f0)).set_ 1 (.int .i64 f1)).set_ 2 (.int .i64 f2)) (by decide) (i := 3) (.slice Ae k ce)
          have hfin : OwnE ((((y.setCell ⟨w.heap.size, 0, none⟩ (.int .i64 f0)).setCell ⟨w.heap.size, 1, none⟩ (.int .i64 f1)).setCell ⟨w.heap.size, 2, none⟩ (.int .i64 f2)).setCell ⟨w.heap.size, 3, none⟩ (.slice Ae k ce)) w.heap.size (.slice Ae k ce) (ents xs k) := hOz3
          have hzz : Blk ((((y.setCell ⟨w.heap.size, 0, none⟩ (.int .i64 f0)).setCell ⟨w.heap.size, 1, none⟩ (.int .i64 f1)).setCell ⟨w.heap.size, 2, none⟩ (.int .i64 f2)).setCell ⟨w.heap.size, 3, none⟩ (.slice Ae k ce)) w.heap.size 33 #[.int .i64 f0, .int .i64 f1, .int .i64 f2, .slice Ae k ce] := ((((hZy.set_ 0 (.int .i64 f0)).set_ 1 (.int .i64 f1)).set_ 2 (.int .i64 f2)).set_ 3 (.slice Ae k ce))
          have hbb := ((((hBy.setCell (p := ⟨w.heap.size, 0, none⟩) (Nat.le_refl _) (.int .i64 f0)).setCell (p := ⟨w.heap.size, 1, none⟩) (Nat.le_refl _) (.int .i64 f1)).setCell (p := ⟨w.heap.size, 2, none⟩) (Nat.le_refl _) (.int .i64 f2)).setCell (p := ⟨w.heap.size, 3, none⟩) (Nat.le_refl _) (.slice Ae k ce))
          clear z0 zf0 z1 zf1 z2 zf2 z3 zf3 hOz0 hOz1 hOz2 hOz3
          generalize ((((y.setCell ⟨w.heap.size, 0, none⟩ (.int .i64 f0)).setCell ⟨w.heap.size, 1, none⟩ (.int .i64 f1)).setCell ⟨w.heap.size, 2, none⟩ (.int .i64 f2)).setCell ⟨w.heap.size, 3, none⟩ (.slice Ae k ce)) = Wf at *
          have d0 : Wf.cell? ⟨w.heap.size, 0, none⟩ = some (.int .i64 f0) := hzz.cell 0
          have d1 : Wf.cell? ⟨w.heap.size, 1, none⟩ = some (.int .i64 f1) := hzz.cell 1
          have d2 : Wf.cell? ⟨w.heap.size, 2, none⟩ = some (.int .i64 f2) := hzz.cell 2
          have d3 : Wf.cell? ⟨w.heap.size, 3, none⟩ = some (.slice Ae k ce) := hzz.cell 3
          refine bodyPost_ret (v := .tuple #[.agg #[.int .i64 f0, .int .i64 f1, .int .i64 f2, .slice Ae k ce], .int .i64 0]) (by simp [results, Try.results12, go_sem, d0, d1, d2, d3]) rfl ?_
          exact ⟨fun _ => ⟨hbb, Ae, ce, by rw [hlenN], hfin.reads, by rw [hlenN]; exact hcap.1, hcap.2⟩, fun h => absurd ⟨hlong'.out, by first | trivial | rfl⟩ h⟩
        · have hng : ¬ (xs.length = 13 + 14 * k ∧ code = 0) := fun h => hc0 h.2
          replace hng := Lib.hid hng
          replace hc0 := Lib.hid hc0
          unfold joinV
          go_wp2_with fail
          have hzz : Blk ((((y.setCell ⟨w.heap.size, 0, none⟩ (.int .i64 0)).setCell ⟨w.heap.size, 1, none⟩ (.int .i64 0)).setCell ⟨w.heap.size, 2, none⟩ (.int .i64 0)).setCell ⟨w.heap.size, 3, none⟩ (.slice none 0 0)) w.heap.size 33 #[.int .i64 0, .int .i64 0, .int .i64 0, .slice none 0 0] := ((((hZy.set_ 0 (.int .i64 0)).set_ 1 (.int .i64 0)).set_ 2 (.int .i64 0)).set_ 3 (.slice none 0 0))
          have hbb := ((((hBy.setCell (p := ⟨w.heap.size, 0, none⟩) (Nat.le_refl _) (.int .i64 0)).setCell (p := ⟨w.heap.size, 1, none⟩) (Nat.le_refl _) (.int .i64 0)).setCell (p := ⟨w.heap.size, 2, none⟩) (Nat.le_refl _) (.int .i64 0)).setCell (p := ⟨w.heap.size, 3, none⟩) (Nat.le_refl _) (.slice none 0 0))
          clear z0 zf0 z1 zf1 z2 zf2 z3 zf3
          generalize ((((y.setCell ⟨w.heap.size, 0, none⟩ (.int .i64 0)).setCell ⟨w.heap.size, 1, none⟩ (.int .i64 0)).setCell ⟨w.heap.size, 2, none⟩ (.int .i64 0)).setCell ⟨w.heap.size, 3, none⟩ (.slice none 0 0)) = Wf at *
          have d0 : Wf.cell? ⟨w.heap.size, 0, none⟩ = some (.int .i64 0) := hzz.cell 0
          have d1 : Wf.cell? ⟨w.heap.size, 1, none⟩ = some (.int .i64 0) := hzz.cell 1
          have d2 : Wf.cell? ⟨w.heap.size, 2, none⟩ = some (.int .i64 0) := hzz.cell 2
          have d3 : Wf.cell? ⟨w.heap.size, 3, none⟩ = some (.slice none 0 0) := hzz.cell 3
          refine bodyPost_ret (v := .tuple #[.agg #[.int .i64 0, .int .i64 0, .int .i64 0, .slice none 0 0], .int .i64 4]) (by simp [results, Try.results12, go_sem, d0, d1, d2, d3]) rfl ?_
          exact ⟨fun h => absurd h hng.out, fun _ => ⟨hbb, none, 0, rfl, ReadsE.nil_ _ _, by simp, by unfold maxLen; omega⟩⟩
      · have hng : ¬ (xs.length = 13 + 14 * k ∧ code = 0) := fun h => hlong h.1
        replace hng := Lib.hid hng
        have b4 : decide (0 < (xs.length : Int) - ((13 + 14 * k : Nat) : Int)) = true := decide_eq_true (by omega)
        have b4' : decide (0 < (xs.length : Int) - (13 + 14 * (k : Int))) = true := decide_eq_true (by omega)
        have b5' : decide (13 + 14 * (k : Int) < (xs.length : Int)) = true := decide_eq_true (by omega)
        clear hlong
        clear e0 e1 e2 e3
        go_wp2_with fail
        refine hlf.out.mono ?_
        rintro _ y0 ⟨rfl, m1, rfl⟩
        have hZy := hZ.drewN m1
        have hBy := below_drewN hB m1
        generalize wr.drewN m1 = y at *
        have z0 : y.cell? ⟨w.heap.size, 0, none⟩ = some (.int .i64 0) := hZy.cell 0
        have zf0 := hZy.frozen 0
        have z1 : y.cell? ⟨w.heap.size, 1, none⟩ = some (.int .i64 0) := hZy.cell 1
        have zf1 := hZy.frozen 1
        have z2 : y.cell? ⟨w.heap.size, 2, none⟩ = some (.int .i64 0) := hZy.cell 2
        have zf2 := hZy.frozen 2
        have z3 : y.cell? ⟨w.heap.size, 3, none⟩ = some (.slice none 0 0) := hZy.cell 3
        have zf3 := hZy.frozen 3
        go_wp2_with fail
        have hzz : Blk ((((y.setCell ⟨w.heap.size, 0, none⟩ (.int .i64 0)).setCell ⟨w.heap.size, 1, none⟩ (.int .i64 0)).setCell ⟨w.heap.size, 2, none⟩ (.int .i64 0)).setCell ⟨w.heap.size, 3, none⟩ (.slice none 0 0)) w.heap.size 33 #[.int .i64 0, .int .i64 0, .int .i64 0, .slice none 0 0] := ((((hZy.set_ 0 (.int .i64 0)).set_ 1 (.int .i64 0)).set_ 2 (.int .i64 0)).set_ 3 (.slice none 0 0))
        have hbb := ((((hBy.setCell (p := ⟨w.heap.size, 0, none⟩) (Nat.le_refl _) (.int .i64 0)).setCell (p := ⟨w.heap.size, 1, none⟩) (Nat.le_refl _) (.int .i64 0)).setCell (p := ⟨w.heap.size, 2, none⟩) (Nat.le_refl _) (.int .i64 0)).setCell (p := ⟨w.heap.size, 3, none⟩) (Nat.le_refl _) (.slice none 0 0))
        clear z0 zf0 z1 zf1 z2 zf2 z3 zf3
        generalize ((((y.setCell ⟨w.heap.size, 0, none⟩ (.int .i64 0)).setCell ⟨w.heap.size, 1, none⟩ (.int .i64 0)).setCell ⟨w.heap.size, 2, none⟩ (.int .i64 0)).setCell ⟨w.heap.size, 3, none⟩ (.slice none 0 0)) = Wf at *
        have d0 : Wf.cell? ⟨w.heap.size, 0, none⟩ = some (.int .i64 0) := hzz.cell 0
        have d1 : Wf.cell? ⟨w.heap.size, 1, none⟩ = some (.int .i64 0) := hzz.cell 1
        have d2 : Wf.cell? ⟨w.heap.size, 2, none⟩ = some (.int .i64 0) := hzz.cell 2
        have d3 : Wf.cell? ⟨w.heap.size, 3, none⟩ = some (.slice none 0 0) := hzz.cell 3
        refine bodyPost_ret (v := .tuple #[.agg #[.int .i64 0, .int .i64 0, .int .i64 0, .slice none 0 0], .int .i64 4]) (by simp [results, Try.results12, go_sem, d0, d1, d2, d3]) rfl ?_
        exact ⟨fun h => absurd h hng.out, fun _ => ⟨hbb, none, 0, rfl, ReadsE.nil_ _ _, by simp, by unfold maxLen; omega⟩⟩
theorem read_any (A : Option Addr) (c : Nat) (xs : List Int) (w : World) (hb : Bytes xs) (hr : ReadsB w w.heap.size A xs) (hc : xs.length ≤ c) (hm : c ≤ maxLen) (hx47 : xs.length ≤ 140737488355328) : Calls Try.prog 12 #[.slice A xs.length c] w (RdAll w xs) := by
  by_cases h1 : xs.length < 13
  · exact (read_short A c xs w hb hr hc hm hx47 h1).mono fun e w' h => RdAll.no (rdC_short h1) (by decide) h
  · have hmn : 0 ≤ manyN xs ∧ manyN xs < 4294967296 := gf_small ((hb.drop 9).take 4) (by rw [List.length_take]; omega)
    have hN : manyN xs = (rdN xs : Int) := by unfold rdN; omega
    by_cases h2 : 4096 < manyN xs
    · exact (read_many A c xs w hb hr hc hm hx47 (by omega) (rdN xs) (rd0 xs) (rd1_ xs) (rd2_ xs) rfl rfl rfl hN (by omega) (by omega)).mono fun e w' h => RdAll.no (rdC_many h1 h2) (by decide) h
    · by_cases h3 : (xs.length : Int) < 13 + 14 * manyN xs
      · exact (read_less A c xs w hb hr hc hm hx47 (by omega) (rdN xs) (rd0 xs) (rd1_ xs) (rd2_ xs) rfl rfl rfl hN (by omega) (by omega)).mono fun e w' h => RdAll.no (rdC_less h1 h2 h3) (by decide) h
      · refine (read_loop A c xs w hb hr hc hm hx47 (by omega) (rdN xs) (rd0 xs) (rd1_ xs) (rd2_ xs) rfl rfl rfl hN (by omega) (by omega) (nErr (rd0 xs) (rd1_ xs) (rd2_ xs) (ents xs (rdN xs))) (Lib.hid rfl)).mono fun e w' h => ?_
        by_cases h4 : rdGood xs
        · obtain ⟨e0, e1, e2, e3⟩ := rd_good (rdC_good h1 h2 h3 h4)
          unfold RdAll
          rw [e0, e1, e2, e3, rdC_good h1 h2 h3 h4]
          exact h.1 h4
        · obtain ⟨e0, e1, e2, e3⟩ := rd_bad (xs := xs) (by rw [rdC_no h1 h2 h3 h4]; decide)
          unfold RdAll
          rw [e0, e1, e2, e3, rdC_no h1 h2 h3 h4]
          exact h.2 h4
end Go.Proofs.Ytdilccihhelilaa
