/- The entry of bytes: the program's. -/
import Derived.Test.YtdilccihhelilaaGetH
namespace Go.Proofs.Ytdilccihhelilaa
open Go.RowKit
set_option linter.unusedVariables false

theorem Rd.setCellN {w : World} {g k r i : Nat} {xs : List Int} {t : TypeId} {cs : Array Value} (h : Rd w g xs k) (hB : Blk w r t cs) (ht : 5 ≠ t) (hne : g ≠ r) (u : Value) : Rd (w.setCell ⟨r, i, none⟩ u) g xs k := by
  obtain ⟨A, c, h1, h2, h3⟩ := h
  exact ⟨A, c, h1.far (p := ⟨r, i, none⟩) hne u, own_setCell h2 hB ht u, h3⟩
set_option maxRecDepth 100000 in
set_option maxHeartbeats 4000000 in
theorem get_any (g : Nat) (xs : List Int) (w : World) (hb : Bytes xs) (k : Nat) (hR : Rd w g xs k) (hl : k + 14 ≤ xs.length) :
    Calls Try.prog 31 #[.pointer (some ⟨g, 0, none⟩)] w fun e w' => e = .returned (getE (xs.drop k)).val ∧ Rd w' g xs (k + 14) ∧ Turned (fun i => i = g) w w' := by
  have hgl := hR.lt
  have hne : ¬ w.heap.size = g := by omega
  have hba : Below w.heap.size w (w.alloc (.cells #[.int .i64 0, .int .i64 0, .int .i64 0, .int .i64 0] 42)) := (Below.refl _ _).alloc (Nat.le_refl _) _
  have hR0 := hR.keep hba
  have hE0 := Blk.new w 42 #[.int .i64 0, .int .i64 0, .int .i64 0, .int .i64 0]
  have hT0 : Turned (fun i => i = g) w (w.alloc (.cells #[.int .i64 0, .int .i64 0, .int .i64 0, .int .i64 0] 42)) := Turned.of_below hba
  have v1 := gf_small ((hb.drop k).take 4) (by rw [List.length_take]; omega)
  have v2 := gf_small ((hb.drop (k + 4)).take 1) (by rw [List.length_take]; omega)
  have v3 := gf_small ((hb.drop (k + 5)).take 1) (by rw [List.length_take]; omega)
  obtain ⟨u1, hu1⟩ : ∃ u, u = gfold 0 ((xs.drop k).take 4) := ⟨_, rfl⟩
  obtain ⟨u2, hu2⟩ : ∃ u, u = gfold 0 ((xs.drop (k + 4)).take 1) := ⟨_, rfl⟩
  obtain ⟨u3, hu3⟩ : ∃ u, u = gfold 0 ((xs.drop (k + 5)).take 1) := ⟨_, rfl⟩
  obtain ⟨u4, hu4⟩ : ∃ u, u = sval ((xs.drop (k + 6)).take 8) := ⟨_, rfl⟩
  rw [← hu1] at v1
  rw [← hu2] at v2
  rw [← hu3] at v3
  have hg : getE (xs.drop k) = ⟨u1, u2, u3, u4⟩ := by
    unfold getE
    rw [List.drop_drop, List.drop_drop, List.drop_drop, hu1, hu2, hu3, hu4]
  replace hg := Lib.hid hg
  have k1 := fun W (h : Rd W g xs k) => Lib.hid (ruint_yes g k 4 xs W hb h (by decide) (by decide) (by omega))
  have k2 := fun W (h : Rd W g xs (k + 4)) => Lib.hid (ruint_yes g (k + 4) 1 xs W hb h (by decide) (by decide) (by omega))
  have k3 := fun W (h : Rd W g xs (k + 5)) => Lib.hid (ruint_yes g (k + 5) 1 xs W hb h (by decide) (by decide) (by omega))
  have k4 := fun W (h : Rd W g xs (k + 6)) => Lib.hid (rint_yes g (k + 6) 8 xs W hb h (by decide) (by decide) (by omega))
  unfold RUint at k1 k2 k3
  unfold RInt at k4
  have t4 : (4 : Int).toNat = 4 := rfl
  have t1 : (1 : Int).toNat = 1 := rfl
  have t8 : (8 : Int).toNat = 8 := rfl
  rw [t4] at k1
  rw [t1] at k2 k3
  rw [t8] at k4
  rw [← hu1] at k1
  rw [← hu2] at k2
  rw [← hu3] at k3
  rw [← hu4] at k4
  have q1 : wrap64 u1 = u1 := IntWalk.wrap64_in _ (by omega)
  have q2 : wrap64 u2 = u2 := IntWalk.wrap64_in _ (by omega)
  have q3 : wrap64 u3 = u3 := IntWalk.wrap64_in _ (by omega)
  have s0 := sizes0
  have s1 := sizes1
  have s2 := sizes2
  have p0 := ptrs0
  have p1 := ptrs1
  have p2 := ptrs2
  clear hu1 hu2 hu3 hu4 v1 v2 v3 t4 t1 t8 hR hba
  go_enter Try.func31, Try.ntmps31
  go_wp2_with fail
  generalize w.alloc (.cells #[.int .i64 0, .int .i64 0, .int .i64 0, .int .i64 0] 42) = W0 at *
  refine wp_loop_rounds 4 ?_
  rw [rounds_succ]
  go_wp2_with fail
  refine (k1 _ hR0).out.mono ?_
  rintro _ x1 ⟨rfl, hRx1, hg1⟩
  have hTx1 := Turned.of_grown (F := fun i => i = g) hg1 (fun k h => by injection h with h; exact h.symm)
  have hEx1 := hE0.turned hTx1 hne
  have hTT1 := hT0.trans hTx1 (fun i _ h => h)
  have hR1 : Rd (x1.setCell ⟨w.heap.size, 0, none⟩ (.int .i64 u1)) g xs (k + 4) := hRx1.setCellN hEx1 (by decide) (fun h => hne h.symm) _
  have hE1 : Blk (x1.setCell ⟨w.heap.size, 0, none⟩ (.int .i64 u1)) w.heap.size 42 #[.int .i64 u1, .int .i64 0, .int .i64 0, .int .i64 0] := hEx1.set_ 0 _
  have hT1 := hTT1.setCell (p := ⟨w.heap.size, 0, none⟩) (.inr (Nat.le_refl _)) (.int .i64 u1)
  have d1 : x1.cell? ⟨w.heap.size, 0, none⟩ = some (.int .i64 0) := hEx1.cell 0
  have f1 := hEx1.frozen 0
  clear hRx1 hg1 hTx1 hEx1 hTT1 hR0 hE0 hT0 k1
  go_wp2_with fail
  clear d1 f1
  generalize x1.setCell ⟨w.heap.size, 0, none⟩ (.int .i64 u1) = W1 at *
  rw [rounds_succ]
  go_wp2_with fail
  refine (k2 _ hR1).out.mono ?_
  rintro _ x2 ⟨rfl, hRx2, hg2⟩
  have hTx2 := Turned.of_grown (F := fun i => i = g) hg2 (fun k h => by injection h with h; exact h.symm)
  have hEx2 := hE1.turned hTx2 hne
  have hTT2 := hT1.trans hTx2 (fun i _ h => h)
  have hR2 : Rd (x2.setCell ⟨w.heap.size, 1, none⟩ (.int .i64 u2)) g xs (k + 5) := hRx2.setCellN hEx2 (by decide) (fun h => hne h.symm) _
  have hE2 : Blk (x2.setCell ⟨w.heap.size, 1, none⟩ (.int .i64 u2)) w.heap.size 42 #[.int .i64 u1, .int .i64 u2, .int .i64 0, .int .i64 0] := hEx2.set_ 1 _
  have hT2 := hTT2.setCell (p := ⟨w.heap.size, 1, none⟩) (.inr (Nat.le_refl _)) (.int .i64 u2)
  have d2 : x2.cell? ⟨w.heap.size, 1, none⟩ = some (.int .i64 0) := hEx2.cell 1
  have f2 := hEx2.frozen 1
  clear hRx2 hg2 hTx2 hEx2 hTT2 hR1 hE1 hT1 k2
  go_wp2_with fail
  clear d2 f2
  generalize x2.setCell ⟨w.heap.size, 1, none⟩ (.int .i64 u2) = W2 at *
  rw [rounds_succ]
  go_wp2_with fail
  refine (k3 _ hR2).out.mono ?_
  rintro _ x3 ⟨rfl, hRx3, hg3⟩
  have hTx3 := Turned.of_grown (F := fun i => i = g) hg3 (fun k h => by injection h with h; exact h.symm)
  have hEx3 := hE2.turned hTx3 hne
  have hTT3 := hT2.trans hTx3 (fun i _ h => h)
  have hR3 : Rd (x3.setCell ⟨w.heap.size, 2, none⟩ (.int .i64 u3)) g xs (k + 6) := hRx3.setCellN hEx3 (by decide) (fun h => hne h.symm) _
  have hE3 : Blk (x3.setCell ⟨w.heap.size, 2, none⟩ (.int .i64 u3)) w.heap.size 42 #[.int .i64 u1, .int .i64 u2, .int .i64 u3, .int .i64 0] := hEx3.set_ 2 _
  have hT3 := hTT3.setCell (p := ⟨w.heap.size, 2, none⟩) (.inr (Nat.le_refl _)) (.int .i64 u3)
  have d3 : x3.cell? ⟨w.heap.size, 2, none⟩ = some (.int .i64 0) := hEx3.cell 2
  have f3 := hEx3.frozen 2
  clear hRx3 hg3 hTx3 hEx3 hTT3 hR2 hE2 hT2 k3
  go_wp2_with fail
  clear d3 f3
  generalize x3.setCell ⟨w.heap.size, 2, none⟩ (.int .i64 u3) = W3 at *
  rw [rounds_succ]
  go_wp2_with fail
  refine (k4 _ hR3).out.mono ?_
  rintro _ x4 ⟨rfl, hRx4, hg4⟩
  have hTx4 := Turned.of_grown (F := fun i => i = g) hg4 (fun k h => by injection h with h; exact h.symm)
  have hEx4 := hE3.turned hTx4 hne
  have hTT4 := hT3.trans hTx4 (fun i _ h => h)
  have d0 : x4.cell? ⟨w.heap.size, 0, none⟩ = some (.int .i64 u1) := hEx4.cell 0
  have d1 : x4.cell? ⟨w.heap.size, 1, none⟩ = some (.int .i64 u2) := hEx4.cell 1
  have d2 : x4.cell? ⟨w.heap.size, 2, none⟩ = some (.int .i64 u3) := hEx4.cell 2
  have d3 : x4.cell? ⟨w.heap.size, 3, none⟩ = some (.int .i64 0) := hEx4.cell 3
  have f0 := hEx4.frozen 0
  have f1 := hEx4.frozen 1
  have f2 := hEx4.frozen 2
  have f3 := hEx4.frozen 3
  have hTT5 := (((((hTT4.setCell (p := ⟨w.heap.size, 3, none⟩) (.inr (Nat.le_refl _)) (.int .i64 u4)).setCell (p := ⟨w.heap.size, 0, none⟩) (.inr (Nat.le_refl _)) (.int .i64 u1)).setCell (p := ⟨w.heap.size, 1, none⟩) (.inr (Nat.le_refl _)) (.int .i64 u2)).setCell (p := ⟨w.heap.size, 2, none⟩) (.inr (Nat.le_refl _)) (.int .i64 u3)).setCell (p := ⟨w.heap.size, 3, none⟩) (.inr (Nat.le_refl _)) (.int .i64 u4))
  have hRR5 := (Rd.setCellN (i := 3) (Rd.setCellN (i := 2) (Rd.setCellN (i := 1) (Rd.setCellN (i := 0) (Rd.setCellN (i := 3) hRx4 hEx4 (by decide) (fun h => hne h.symm) (.int .i64 u4)) (hEx4.set_ 3 (.int .i64 u4)) (by decide) (fun h => hne h.symm) (.int .i64 u1)) ((hEx4.set_ 3 (.int .i64 u4)).set_ 0 (.int .i64 u1)) (by decide) (fun h => hne h.symm) (.int .i64 u2)) (((hEx4.set_ 3 (.int .i64 u4)).set_ 0 (.int .i64 u1)).set_ 1 (.int .i64 u2)) (by decide) (fun h => hne h.symm) (.int .i64 u3)) ((((hEx4.set_ 3 (.int .i64 u4)).set_ 0 (.int .i64 u1)).set_ 1 (.int .i64 u2)).set_ 2 (.int .i64 u3)) (by decide) (fun h => hne h.symm) (.int .i64 u4))
  have hEE5 : Blk ((((((x4.setCell ⟨w.heap.size, 3, none⟩ (.int .i64 u4)).setCell ⟨w.heap.size, 0, none⟩ (.int .i64 u1)).setCell ⟨w.heap.size, 1, none⟩ (.int .i64 u2)).setCell ⟨w.heap.size, 2, none⟩ (.int .i64 u3)).setCell ⟨w.heap.size, 3, none⟩ (.int .i64 u4))) w.heap.size 42 #[.int .i64 u1, .int .i64 u2, .int .i64 u3, .int .i64 u4] := (((((hEx4.set_ 3 (.int .i64 u4)).set_ 0 (.int .i64 u1)).set_ 1 (.int .i64 u2)).set_ 2 (.int .i64 u3)).set_ 3 (.int .i64 u4))
  replace hTT5 := Lib.hid hTT5
  replace hRR5 := Lib.hid hRR5
  replace hEE5 := Lib.hid hEE5
  go_wp2_with fail
  clear d0 d1 d2 d3 f0 f1 f2 f3
  generalize (((((x4.setCell ⟨w.heap.size, 3, none⟩ (.int .i64 u4)).setCell ⟨w.heap.size, 0, none⟩ (.int .i64 u1)).setCell ⟨w.heap.size, 1, none⟩ (.int .i64 u2)).setCell ⟨w.heap.size, 2, none⟩ (.int .i64 u3)).setCell ⟨w.heap.size, 3, none⟩ (.int .i64 u4)) = Wf at *
  have d0 : Wf.cell? ⟨w.heap.size, 0, none⟩ = some (.int .i64 u1) := hEE5.out.cell 0
  have d1 : Wf.cell? ⟨w.heap.size, 1, none⟩ = some (.int .i64 u2) := hEE5.out.cell 1
  have d2 : Wf.cell? ⟨w.heap.size, 2, none⟩ = some (.int .i64 u3) := hEE5.out.cell 2
  have d3 : Wf.cell? ⟨w.heap.size, 3, none⟩ = some (.int .i64 u4) := hEE5.out.cell 3
  refine bodyPost_ret (v := .agg #[.int .i64 u1, .int .i64 u2, .int .i64 u3, .int .i64 u4]) (by simp [results, Try.results31, go_sem, d0, d1, d2, d3]) rfl ?_
  exact ⟨by rw [hg.out]; rfl, hRR5.out, hTT5.out⟩
theorem getE_in {xs : List Int} (hb : Bytes xs) (hl : 14 ≤ xs.length) : (getE xs).In := by
  have v1 := gf_small (hb.take 4) (by rw [List.length_take]; omega)
  have v2 := gf_small ((hb.drop 4).take 1) (by rw [List.length_take]; omega)
  have v3 := gf_small ((hb.drop 5).take 1) (by rw [List.length_take]; omega)
  have hl8 : ((xs.drop 6).take 8).length = 8 := by rw [List.length_take, List.length_drop]; omega
  have hs := sval_wrap ((hb.drop 6).take 8) hl8
  refine ⟨?_, ?_, ?_, ?_⟩
  · show in64 (gfold 0 (xs.take 4)); unfold in64; omega
  · show in64 (gfold 0 ((xs.drop 4).take 1)); unfold in64; omega
  · show in64 (gfold 0 ((xs.drop 5).take 1)); unfold in64; omega
  · show in64 (sval ((xs.drop 6).take 8))
    rw [← hs]
    unfold in64 wrap64
    omega
end Go.Proofs.Ytdilccihhelilaa
