/- The entry of bytes: the program's and the reference's. -/
import Derived.Test.YtlehianbdamgmaaRRd
import Derived.Test.YtlehianbdamgmaaRec
namespace Go.Proofs.Ytlehianbdamgmaa
open Go.RowKit
set_option linter.unusedVariables false

/-- The entry that 14 bytes make. -/
def getE (xs : List Int) : Ent := ⟨gfold 0 (xs.take 4), gfold 0 ((xs.drop 4).take 1), gfold 0 ((xs.drop 5).take 1), sval ((xs.drop 6).take 8)⟩
theorem sizes0 (w : World) : (Instr.index 92 (.agg #[.int .i64 4, .int .i64 1, .int .i64 1]) (.int .i64 0)).run Try.prog w = .ok (.int .i64 4) w := by kernel_rfl
theorem sizes1 (w : World) : (Instr.index 92 (.agg #[.int .i64 4, .int .i64 1, .int .i64 1]) (.int .i64 1)).run Try.prog w = .ok (.int .i64 1) w := by kernel_rfl
theorem sizes2 (w : World) : (Instr.index 92 (.agg #[.int .i64 4, .int .i64 1, .int .i64 1]) (.int .i64 2)).run Try.prog w = .ok (.int .i64 1) w := by kernel_rfl
theorem ptrs0 (a b c : Option Addr) (w : World) : (Instr.index 127 (.agg #[.pointer a, .pointer b, .pointer c]) (.int .i64 0)).run Try.prog w = .ok (.pointer a) w := by kernel_rfl
theorem ptrs1 (a b c : Option Addr) (w : World) : (Instr.index 127 (.agg #[.pointer a, .pointer b, .pointer c]) (.int .i64 1)).run Try.prog w = .ok (.pointer b) w := by kernel_rfl
theorem ptrs2 (a b c : Option Addr) (w : World) : (Instr.index 127 (.agg #[.pointer a, .pointer b, .pointer c]) (.int .i64 2)).run Try.prog w = .ok (.pointer c) w := by kernel_rfl
theorem gf_small {ys : List Int} (hb : Bytes ys) (hl : ys.length ≤ 4) : 0 ≤ gfold 0 ys ∧ gfold 0 ys < 4294967296 := by
  have h0 := gfold_nn ys 0 hb (by omega)
  have h1 := (gfold_bd ys 0 1 hb (by omega) (by omega)).2
  have h2 := pow_mono256 hl
  have h3 : (256 : Int) ^ 4 = 4294967296 := by decide
  omega

set_option maxRecDepth 100000 in
set_option maxHeartbeats 2000000 in
theorem rget_any (A : Option Addr) (c : Nat) (xs : List Int) (w : World) (hb : Bytes xs) (hr : ReadsB w w.heap.size A xs) (hc : xs.length ≤ c) (hm : c ≤ maxLen) (hl : 14 ≤ xs.length) :
    Calls Try.prog 67 #[.slice A xs.length c] w fun e w' => e = .returned (getE xs).val ∧ Below w.heap.size w w' := by
  have hb0 : Below w.heap.size w (w.alloc (.cells #[.int .i64 0, .int .i64 0, .int .i64 0, .int .i64 0] 33)) := (Below.refl _ _).alloc (Nat.le_refl _) _
  have hR0 : RRd ((w.alloc (.cells #[.int .i64 0, .int .i64 0, .int .i64 0, .int .i64 0] 33)).alloc (.cells #[.slice A xs.length c, .int .i64 0] 110)) w.heap.size (w.heap.size + 1) A c xs 0 :=
    ⟨by have h := Blk.new (w.alloc (.cells #[.int .i64 0, .int .i64 0, .int .i64 0, .int .i64 0] 33)) 110 #[.slice A xs.length c, .int .i64 0]; simp only [World.size_alloc] at h; exact h,
      (Reads.below hr hb0).alloc hb0.size _, by omega, hc, hm⟩
  have hE := (Blk.new w 33 #[.int .i64 0, .int .i64 0, .int .i64 0, .int .i64 0]).alloc (.cells #[.slice A xs.length c, .int .i64 0] 110)
  have hb1 := hb0.alloc hb0.size (.cells #[.slice A xs.length c, .int .i64 0] 110)
  have g1 := Lib.hid (rrduint _ _ _ _ 0 4 _ xs hb hR0 (by omega) (by omega) (by omega))
  have v1 := gf_small ((hb.drop 0).take 4) (by rw [List.length_take]; omega)
  have v2 := gf_small ((hb.drop 4).take 1) (by rw [List.length_take]; omega)
  have v3 := gf_small ((hb.drop 5).take 1) (by rw [List.length_take]; omega)
  clear hR0 hb0
  go_enter Try.func67, Try.ntmps67
  go_wp2_with fail
  refine g1.out.mono ?_
  rintro _ w1 ⟨rfl, hR1, hT1⟩
  have hE1 := hE.turned hT1 (by omega)
  have hB1 := hb1.trans (hT1.below hb1.size (fun j hj => by subst hj; omega))
  have g2 := Lib.hid (rrduint _ _ _ _ (0 + 4) 1 _ xs hb hR1 (by omega) (by omega) (by omega))
  clear g1 hE hb1 hT1 hR1
  go_wp2_with fail
  refine g2.out.mono ?_
  rintro _ w2 ⟨rfl, hR2, hT2⟩
  have hE2 := hE1.turned hT2 (by omega)
  have hB2 := hB1.trans (hT2.below hB1.size (fun j hj => by subst hj; omega))
  have g3 := Lib.hid (rrduint _ _ _ _ (0 + 4 + 1) 1 _ xs hb hR2 (by omega) (by omega) (by omega))
  clear g2 hE1 hB1 hT2 hR2
  go_wp2_with fail
  refine g3.out.mono ?_
  rintro _ w3 ⟨rfl, hR3, hT3⟩
  have hE3 := hE2.turned hT3 (by omega)
  have hB3 := hB2.trans (hT3.below hB2.size (fun j hj => by subst hj; omega))
  have g4 := Lib.hid (rrdint8 _ _ _ _ (0 + 4 + 1 + 1) _ xs hb hR3 (by omega))
  clear g3 hE2 hB2 hT3 hR3
  go_wp2_with fail
  refine g4.out.mono ?_
  rintro _ w4 ⟨rfl, hR4, hT4⟩
  have hE4 := hE3.turned hT4 (by omega)
  have hB4 := hB3.trans (hT4.below hB3.size (fun j hj => by subst hj; omega))
  clear g4 hE3 hB3 hT4 hR4
  have v1' : 0 ≤ gfold 0 (xs.take 4) ∧ gfold 0 (xs.take 4) < 4294967296 := v1
  have e2 : gfold 0 ((xs.drop (0 + 4)).take 1) = gfold 0 ((xs.drop 4).take 1) := rfl
  have e3 : gfold 0 ((xs.drop (0 + 4 + 1)).take 1) = gfold 0 ((xs.drop 5).take 1) := rfl
  have e4 : sval ((xs.drop (0 + 4 + 1 + 1)).take 8) = sval ((xs.drop 6).take 8) := rfl
  try rw [e2]
  try rw [e3]
  try rw [e4]
  obtain ⟨u1, hu1⟩ : ∃ u, u = gfold 0 (xs.take 4) := ⟨_, rfl⟩
  obtain ⟨u2, hu2⟩ : ∃ u, u = gfold 0 ((xs.drop 4).take 1) := ⟨_, rfl⟩
  obtain ⟨u3, hu3⟩ : ∃ u, u = gfold 0 ((xs.drop 5).take 1) := ⟨_, rfl⟩
  obtain ⟨u4, hu4⟩ : ∃ u, u = sval ((xs.drop 6).take 8) := ⟨_, rfl⟩
  rw [← hu1] at v1'
  rw [← hu2] at v2
  rw [← hu3] at v3
  rw [← hu1, ← hu2, ← hu3, ← hu4]
  have hg : getE xs = ⟨u1, u2, u3, u4⟩ := by rw [hu1, hu2, hu3, hu4]; rfl
  replace hg := Lib.hid hg
  clear hu1 hu2 hu3 hu4
  have q1 : wrap64 u1 = u1 := IntWalk.wrap64_in _ (by omega)
  have q2 : wrap64 u2 = u2 := IntWalk.wrap64_in _ (by omega)
  have q3 : wrap64 u3 = u3 := IntWalk.wrap64_in _ (by omega)
  have d0 : w4.cell? ⟨w.heap.size, 0, none⟩ = some (.int .i64 0) := hE4.cell 0
  have d1 : w4.cell? ⟨w.heap.size, 1, none⟩ = some (.int .i64 0) := hE4.cell 1
  have d2 : w4.cell? ⟨w.heap.size, 2, none⟩ = some (.int .i64 0) := hE4.cell 2
  have d3 : w4.cell? ⟨w.heap.size, 3, none⟩ = some (.int .i64 0) := hE4.cell 3
  have f0 := hE4.frozen 0
  have f1 := hE4.frozen 1
  have f2 := hE4.frozen 2
  have f3 := hE4.frozen 3
  clear e2 e3 e4 v1 v1' v2 v3
  go_wp2_with fail
  have hF := (((hE4.set_ 0 (.int .i64 u1)).set_ 1 (.int .i64 u2)).set_ 2 (.int .i64 u3)).set_ 3 (.int .i64 u4)
  have hBF := (((hB4.setCell (p := ⟨w.heap.size, 0, none⟩) (Nat.le_refl _) (.int .i64 u1)).setCell (p := ⟨w.heap.size, 1, none⟩) (Nat.le_refl _) (.int .i64 u2)).setCell (p := ⟨w.heap.size, 2, none⟩) (Nat.le_refl _) (.int .i64 u3)).setCell (p := ⟨w.heap.size, 3, none⟩) (Nat.le_refl _) (.int .i64 u4)
  clear d0 d1 d2 d3 f0 f1 f2 f3
  generalize (((w4.setCell ⟨w.heap.size, 0, none⟩ (.int .i64 u1)).setCell ⟨w.heap.size, 1, none⟩ (.int .i64 u2)).setCell ⟨w.heap.size, 2, none⟩ (.int .i64 u3)).setCell ⟨w.heap.size, 3, none⟩ (.int .i64 u4) = Wf at *
  have d0 : Wf.cell? ⟨w.heap.size, 0, none⟩ = some (.int .i64 u1) := hF.cell 0
  have d1 : Wf.cell? ⟨w.heap.size, 1, none⟩ = some (.int .i64 u2) := hF.cell 1
  have d2 : Wf.cell? ⟨w.heap.size, 2, none⟩ = some (.int .i64 u3) := hF.cell 2
  have d3 : Wf.cell? ⟨w.heap.size, 3, none⟩ = some (.int .i64 u4) := hF.cell 3
  refine bodyPost_ret (v := .agg #[.int .i64 u1, .int .i64 u2, .int .i64 u3, .int .i64 u4]) (by simp [results, Try.results67, go_sem, d0, d1, d2, d3]) rfl ?_
  exact ⟨by rw [hg.out]; rfl, hBF⟩
end Go.Proofs.Ytlehianbdamgmaa
