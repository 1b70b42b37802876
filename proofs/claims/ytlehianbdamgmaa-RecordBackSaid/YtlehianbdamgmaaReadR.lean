/- The note of bytes: the reference's Read. -/
import Derived.Test.YtlehianbdamgmaaNoteR
import Derived.Test.YtlehianbdamgmaaStoreM
import Derived.Deep.RegionLaw
namespace Go.Proofs.Ytlehianbdamgmaa
open Go.RowKit
set_option linter.unusedVariables false
set_option linter.unusedSimpArgs false

/-- How many entries bytes say that they bear. -/
def manyN (xs : List Int) : Int := gfold 0 ((xs.drop 9).take 4)
/-- The first k entries of bytes. -/
def ents (xs : List Int) (k : Nat) : List Ent := (List.range k).map fun i => getE (xs.drop (13 + 14 * i))
theorem ents_length (xs : List Int) (k : Nat) : (ents xs k).length = k := by simp [ents]
theorem ents_next (xs : List Int) (k : Nat) : ents xs (k + 1) = ents xs k ++ [getE (xs.drop (13 + 14 * k))] := by simp [ents, List.range_succ]
theorem sub_readsR {w : World} {B k n c : Nat} {ad : Addr} {bs : List Int} (hr : ReadsB w B (some ad) bs) (hk : k + n ≤ bs.length) (hc : bs.length ≤ c) :
    ReadsB w B (if c = k then some ad else some (ad.add k)) ((bs.drop k).take n) := by
  have h1 := (Reads.cut hr (k := k) (cap := c) (by omega) hc).take (k := n) (by omega)
  have hl : ((bs.drop k).take n).length = n := by rw [List.length_take, List.length_drop]; omega
  unfold ReadsB
  rw [hl]
  have hx : cellsOf .u8 ((bs.drop k).take n) = List.take (n * 1) (List.drop (k * 1) (cellsOf .u8 bs)) := by simp [cellsOf, List.map_take, List.map_drop]
  rw [hx]
  simpa only [Nat.mul_one, Option.map_some] using h1
set_option maxRecDepth 100000 in
set_option maxHeartbeats 4000000 in
theorem rread_short (A : Option Addr) (c : Nat) (xs : List Int) (w : World) (hb : Bytes xs) (hr : ReadsB w w.heap.size A xs) (hc : xs.length ≤ c) (hm : c ≤ maxLen) (hl : xs.length < 13) : Calls Try.prog 45 #[.slice A xs.length c] w (fun e w' => e = .returned (.tuple #[.agg #[.int .i64 0, .int .i64 0, .int .i64 0, .slice none 0 0], .int .i64 3]) ∧ Below w.heap.size w w') := by
  have b1 : decide ((xs.length : Int) < 13) = true := decide_eq_true (by omega)
  have hZ0 := Blk.new w 64 #[.int .i64 0, .int .i64 0, .int .i64 0, .slice none 0 0]
  have hB0 : Below w.heap.size w (w.alloc (.cells #[.int .i64 0, .int .i64 0, .int .i64 0, .slice none 0 0] 64)) := (Below.refl _ _).alloc (Nat.le_refl _) _
  go_enter Try.func45, Try.ntmps45
  go_wp2_with fail
  refine bodyPost_ret (v := .tuple #[.agg #[.int .i64 0, .int .i64 0, .int .i64 0, .slice none 0 0], .int .i64 3]) (by simp [results, Try.results45, go_sem]) rfl ?_
  exact ⟨rfl, hB0⟩
set_option maxRecDepth 100000 in
set_option maxHeartbeats 4000000 in
theorem rread_many (A : Option Addr) (c : Nat) (xs : List Int) (w : World) (hb : Bytes xs) (hr : ReadsB w w.heap.size A xs) (hc : xs.length ≤ c) (hm : c ≤ maxLen) (hl : 13 ≤ xs.length) (hn : 4096 < manyN xs) : Calls Try.prog 45 #[.slice A xs.length c] w (fun e w' => e = .returned (.tuple #[.agg #[.int .i64 0, .int .i64 0, .int .i64 0, .slice none 0 0], .int .i64 4]) ∧ Below w.heap.size w w') := by
  have hZ0 := Blk.new w 64 #[.int .i64 0, .int .i64 0, .int .i64 0, .slice none 0 0]
  have hB0 : Below w.heap.size w (w.alloc (.cells #[.int .i64 0, .int .i64 0, .int .i64 0, .slice none 0 0] 64)) := (Below.refl _ _).alloc (Nat.le_refl _) _
  have hR1 : RRd ((w.alloc (.cells #[.int .i64 0, .int .i64 0, .int .i64 0, .slice none 0 0] 64)).alloc (.cells #[.slice A xs.length c, .int .i64 0] 110)) w.heap.size (w.heap.size + 1) A c xs 0 :=
    ⟨by have h := Blk.new (w.alloc (.cells #[.int .i64 0, .int .i64 0, .int .i64 0, .slice none 0 0] 64)) 110 #[.slice A xs.length c, .int .i64 0]; simp only [World.size_alloc] at h; exact h, (Reads.below hr hB0).alloc hB0.size _, by omega, hc, hm⟩
  have hZ1 := hZ0.alloc (.cells #[.slice A xs.length c, .int .i64 0] 110)
  have hB1 := hB0.alloc hB0.size (.cells #[.slice A xs.length c, .int .i64 0] 110)
  have hb1 : decide ((xs.length : Int) < 13) = false := decide_eq_false (by omega)
  clear hB0 hZ0
  go_enter Try.func45, Try.ntmps45
  go_wp2_with fail
  have hu2 := Lib.hid (rrduint _ _ _ _ 0 1 _ xs hb hR1 (by omega) (by omega) (by omega))
  go_wp2_with fail
  refine hu2.out.mono ?_
  rintro _ w2 ⟨rfl, hR2, hT2⟩
  have hZ2 := hZ1.turned hT2 (by omega)
  have hB2 := hB1.trans (hT2.below hB1.size (fun j hj => by subst hj; omega))
  clear hu2 hZ1 hB1 hT2 hR1
  have hu3 := Lib.hid (rrduint _ _ _ _ (0 + 1) 4 _ xs hb hR2 (by omega) (by omega) (by omega))
  go_wp2_with fail
  refine hu3.out.mono ?_
  rintro _ w3 ⟨rfl, hR3, hT3⟩
  have hZ3 := hZ2.turned hT3 (by omega)
  have hB3 := hB2.trans (hT3.below hB2.size (fun j hj => by subst hj; omega))
  clear hu3 hZ2 hB2 hT3 hR2
  have hu4 := Lib.hid (rrduint _ _ _ _ (0 + 1 + 4) 4 _ xs hb hR3 (by omega) (by omega) (by omega))
  go_wp2_with fail
  refine hu4.out.mono ?_
  rintro _ w4 ⟨rfl, hR4, hT4⟩
  have hZ4 := hZ3.turned hT4 (by omega)
  have hB4 := hB3.trans (hT4.below hB3.size (fun j hj => by subst hj; omega))
  clear hu4 hZ3 hB3 hT4 hR3
  have hu5 := Lib.hid (rrduint _ _ _ _ (0 + 1 + 4 + 4) 4 _ xs hb hR4 (by omega) (by omega) (by omega))
  go_wp2_with fail
  refine hu5.out.mono ?_
  rintro _ w5 ⟨rfl, hR5, hT5⟩
  have hZ5 := hZ4.turned hT5 (by omega)
  have hB5 := hB4.trans (hT5.below hB4.size (fun j hj => by subst hj; omega))
  clear hu5 hZ4 hB4 hT5 hR4
  have e5 : gfold 0 ((xs.drop (0 + 1 + 4 + 4)).take 4) = manyN xs := rfl
  rw [e5]
  have hmn := gf_small ((hb.drop 9).take 4) (by rw [List.length_take]; omega)
  have hmn' : 0 ≤ manyN xs ∧ manyN xs < 4294967296 := hmn
  clear e5 hmn
  generalize manyN xs = N at *
  have b2 : decide (4096 < N) = true := decide_eq_true hn
  have z0 : w5.cell? ⟨w.heap.size, 0, none⟩ = some (.int .i64 0) := hZ5.cell 0
  have zf0 := hZ5.frozen 0
  have z1 : w5.cell? ⟨w.heap.size, 1, none⟩ = some (.int .i64 0) := hZ5.cell 1
  have zf1 := hZ5.frozen 1
  have z2 : w5.cell? ⟨w.heap.size, 2, none⟩ = some (.int .i64 0) := hZ5.cell 2
  have zf2 := hZ5.frozen 2
  have z3 : w5.cell? ⟨w.heap.size, 3, none⟩ = some (.slice none 0 0) := hZ5.cell 3
  have zf3 := hZ5.frozen 3
  go_wp2_with fail
  have hzz : Blk ((((w5.setCell ⟨w.heap.size, 0, none⟩ (.int .i64 0)).setCell ⟨w.heap.size, 1, none⟩ (.int .i64 0)).setCell ⟨w.heap.size, 2, none⟩ (.int .i64 0)).setCell ⟨w.heap.size, 3, none⟩ (.slice none 0 0)) w.heap.size 64 #[.int .i64 0, .int .i64 0, .int .i64 0, .slice none 0 0] := ((((hZ5.set_ 0 (.int .i64 0)).set_ 1 (.int .i64 0)).set_ 2 (.int .i64 0)).set_ 3 (.slice none 0 0))
  have hbb := ((((hB5.setCell (p := ⟨w.heap.size, 0, none⟩) (Nat.le_refl _) (.int .i64 0)).setCell (p := ⟨w.heap.size, 1, none⟩) (Nat.le_refl _) (.int .i64 0)).setCell (p := ⟨w.heap.size, 2, none⟩) (Nat.le_refl _) (.int .i64 0)).setCell (p := ⟨w.heap.size, 3, none⟩) (Nat.le_refl _) (.slice none 0 0))
  clear z0 zf0 z1 zf1 z2 zf2 z3 zf3
  generalize ((((w5.setCell ⟨w.heap.size, 0, none⟩ (.int .i64 0)).setCell ⟨w.heap.size, 1, none⟩ (.int .i64 0)).setCell ⟨w.heap.size, 2, none⟩ (.int .i64 0)).setCell ⟨w.heap.size, 3, none⟩ (.slice none 0 0)) = Wf at *
  have d0 : Wf.cell? ⟨w.heap.size, 0, none⟩ = some (.int .i64 0) := hzz.cell 0
  have d1 : Wf.cell? ⟨w.heap.size, 1, none⟩ = some (.int .i64 0) := hzz.cell 1
  have d2 : Wf.cell? ⟨w.heap.size, 2, none⟩ = some (.int .i64 0) := hzz.cell 2
  have d3 : Wf.cell? ⟨w.heap.size, 3, none⟩ = some (.slice none 0 0) := hzz.cell 3
  refine bodyPost_ret (v := .tuple #[.agg #[.int .i64 0, .int .i64 0, .int .i64 0, .slice none 0 0], .int .i64 4]) (by simp [results, Try.results45, go_sem, d0, d1, d2, d3]) rfl ?_
  exact ⟨rfl, hbb⟩

set_option maxRecDepth 100000 in
set_option maxHeartbeats 4000000 in
theorem rread_less (A : Option Addr) (c : Nat) (xs : List Int) (w : World) (hb : Bytes xs) (hr : ReadsB w w.heap.size A xs) (hc : xs.length ≤ c) (hm : c ≤ maxLen) (hl : 13 ≤ xs.length) (hn : ¬ 4096 < manyN xs) (hs : (xs.length : Int) < 13 + 14 * manyN xs) : Calls Try.prog 45 #[.slice A xs.length c] w (fun e w' => e = .returned (.tuple #[.agg #[.int .i64 0, .int .i64 0, .int .i64 0, .slice none 0 0], .int .i64 3]) ∧ Below w.heap.size w w') := by
  have hZ0 := Blk.new w 64 #[.int .i64 0, .int .i64 0, .int .i64 0, .slice none 0 0]
  have hB0 : Below w.heap.size w (w.alloc (.cells #[.int .i64 0, .int .i64 0, .int .i64 0, .slice none 0 0] 64)) := (Below.refl _ _).alloc (Nat.le_refl _) _
  have hR1 : RRd ((w.alloc (.cells #[.int .i64 0, .int .i64 0, .int .i64 0, .slice none 0 0] 64)).alloc (.cells #[.slice A xs.length c, .int .i64 0] 110)) w.heap.size (w.heap.size + 1) A c xs 0 :=
    ⟨by have h := Blk.new (w.alloc (.cells #[.int .i64 0, .int .i64 0, .int .i64 0, .slice none 0 0] 64)) 110 #[.slice A xs.length c, .int .i64 0]; simp only [World.size_alloc] at h; exact h, (Reads.below hr hB0).alloc hB0.size _, by omega, hc, hm⟩
  have hZ1 := hZ0.alloc (.cells #[.slice A xs.length c, .int .i64 0] 110)
  have hB1 := hB0.alloc hB0.size (.cells #[.slice A xs.length c, .int .i64 0] 110)
  have hb1 : decide ((xs.length : Int) < 13) = false := decide_eq_false (by omega)
  clear hB0 hZ0
  go_enter Try.func45, Try.ntmps45
  go_wp2_with fail
  have hu2 := Lib.hid (rrduint _ _ _ _ 0 1 _ xs hb hR1 (by omega) (by omega) (by omega))
  go_wp2_with fail
  refine hu2.out.mono ?_
  rintro _ w2 ⟨rfl, hR2, hT2⟩
  have hZ2 := hZ1.turned hT2 (by omega)
  have hB2 := hB1.trans (hT2.below hB1.size (fun j hj => by subst hj; omega))
  clear hu2 hZ1 hB1 hT2 hR1
  have hu3 := Lib.hid (rrduint _ _ _ _ (0 + 1) 4 _ xs hb hR2 (by omega) (by omega) (by omega))
  go_wp2_with fail
  refine hu3.out.mono ?_
  rintro _ w3 ⟨rfl, hR3, hT3⟩
  have hZ3 := hZ2.turned hT3 (by omega)
  have hB3 := hB2.trans (hT3.below hB2.size (fun j hj => by subst hj; omega))
  clear hu3 hZ2 hB2 hT3 hR2
  have hu4 := Lib.hid (rrduint _ _ _ _ (0 + 1 + 4) 4 _ xs hb hR3 (by omega) (by omega) (by omega))
  go_wp2_with fail
  refine hu4.out.mono ?_
  rintro _ w4 ⟨rfl, hR4, hT4⟩
  have hZ4 := hZ3.turned hT4 (by omega)
  have hB4 := hB3.trans (hT4.below hB3.size (fun j hj => by subst hj; omega))
  clear hu4 hZ3 hB3 hT4 hR3
  have hu5 := Lib.hid (rrduint _ _ _ _ (0 + 1 + 4 + 4) 4 _ xs hb hR4 (by omega) (by omega) (by omega))
  go_wp2_with fail
  refine hu5.out.mono ?_
  rintro _ w5 ⟨rfl, hR5, hT5⟩
  have hZ5 := hZ4.turned hT5 (by omega)
  have hB5 := hB4.trans (hT5.below hB4.size (fun j hj => by subst hj; omega))
  clear hu5 hZ4 hB4 hT5 hR4
  have e5 : gfold 0 ((xs.drop (0 + 1 + 4 + 4)).take 4) = manyN xs := rfl
  rw [e5]
  have hmn := gf_small ((hb.drop 9).take 4) (by rw [List.length_take]; omega)
  have hmn' : 0 ≤ manyN xs ∧ manyN xs < 4294967296 := hmn
  clear e5 hmn
  generalize manyN xs = N at *
  have b2 : decide (4096 < N) = false := decide_eq_false (by omega)
  have q0 : wrap64 N = N := IntWalk.wrap64_in _ (by omega)
  have q1 : wrap64 (14 * N) = 14 * N := IntWalk.wrap64_in _ (by omega)
  have q2 : wrap64 (13 + 14 * N) = 13 + 14 * N := IntWalk.wrap64_in _ (by omega)
  have b3 : decide ((xs.length : Int) < 13 + 14 * N) = true := decide_eq_true hs
  have z0 : w5.cell? ⟨w.heap.size, 0, none⟩ = some (.int .i64 0) := hZ5.cell 0
  have zf0 := hZ5.frozen 0
  have z1 : w5.cell? ⟨w.heap.size, 1, none⟩ = some (.int .i64 0) := hZ5.cell 1
  have zf1 := hZ5.frozen 1
  have z2 : w5.cell? ⟨w.heap.size, 2, none⟩ = some (.int .i64 0) := hZ5.cell 2
  have zf2 := hZ5.frozen 2
  have z3 : w5.cell? ⟨w.heap.size, 3, none⟩ = some (.slice none 0 0) := hZ5.cell 3
  have zf3 := hZ5.frozen 3
  go_wp2_with fail
  have hzz : Blk ((((w5.setCell ⟨w.heap.size, 0, none⟩ (.int .i64 0)).setCell ⟨w.heap.size, 1, none⟩ (.int .i64 0)).setCell ⟨w.heap.size, 2, none⟩ (.int .i64 0)).setCell ⟨w.heap.size, 3, none⟩ (.slice none 0 0)) w.heap.size 64 #[.int .i64 0, .int .i64 0, .int .i64 0, .slice none 0 0] := ((((hZ5.set_ 0 (.int .i64 0)).set_ 1 (.int .i64 0)).set_ 2 (.int .i64 0)).set_ 3 (.slice none 0 0))
  have hbb := ((((hB5.setCell (p := ⟨w.heap.size, 0, none⟩) (Nat.le_refl _) (.int .i64 0)).setCell (p := ⟨w.heap.size, 1, none⟩) (Nat.le_refl _) (.int .i64 0)).setCell (p := ⟨w.heap.size, 2, none⟩) (Nat.le_refl _) (.int .i64 0)).setCell (p := ⟨w.heap.size, 3, none⟩) (Nat.le_refl _) (.slice none 0 0))
  clear z0 zf0 z1 zf1 z2 zf2 z3 zf3
  generalize ((((w5.setCell ⟨w.heap.size, 0, none⟩ (.int .i64 0)).setCell ⟨w.heap.size, 1, none⟩ (.int .i64 0)).setCell ⟨w.heap.size, 2, none⟩ (.int .i64 0)).setCell ⟨w.heap.size, 3, none⟩ (.slice none 0 0)) = Wf at *
  have d0 : Wf.cell? ⟨w.heap.size, 0, none⟩ = some (.int .i64 0) := hzz.cell 0
  have d1 : Wf.cell? ⟨w.heap.size, 1, none⟩ = some (.int .i64 0) := hzz.cell 1
  have d2 : Wf.cell? ⟨w.heap.size, 2, none⟩ = some (.int .i64 0) := hzz.cell 2
  have d3 : Wf.cell? ⟨w.heap.size, 3, none⟩ = some (.slice none 0 0) := hzz.cell 3
  refine bodyPost_ret (v := .tuple #[.agg #[.int .i64 0, .int .i64 0, .int .i64 0, .slice none 0 0], .int .i64 3]) (by simp [results, Try.results45, go_sem, d0, d1, d2, d3]) rfl ?_
  exact ⟨rfl, hbb⟩
theorem getE_take (ys : List Int) : getE (ys.take 14) = getE ys := by
  unfold getE
  rw [List.take_take, List.drop_take, List.take_take, List.drop_take, List.take_take, List.drop_take, List.take_take]
  rfl
theorem ents_in (xs : List Int) (hb : Bytes xs) (k : Nat) (h : 13 + 14 * k ≤ xs.length) : InL (ents xs k) := by
  intro e he
  unfold ents at he
  rw [List.mem_map] at he
  obtain ⟨i, hi, rfl⟩ := he
  rw [List.mem_range] at hi
  exact getE_in (hb.drop _) (by rw [List.length_drop]; omega)
def RdPost (w : World) (what view n : Int) (es : List Ent) (code : Int) (e : Ending) (w' : World) : Prop :=
  Below w.heap.size w w' ∧ ∃ A c, e = .returned (.tuple #[.agg #[.int .i64 what, .int .i64 view, .int .i64 n, .slice A es.length c], .int .i64 code]) ∧ ReadsE w' w'.heap.size A es ∧ es.length ≤ c ∧ c ≤ maxLen
def RdEnd (w : World) (what view n : Int) (es : List Ent) (good : Prop) (e : Ending) (w' : World) : Prop := (good → RdPost w what view n es 0 e w') ∧ (¬ good → RdPost w 0 0 0 [] 4 e w')
set_option maxRecDepth 100000 in
set_option maxHeartbeats 4000000 in
theorem rread_loop (A : Option Addr) (c : Nat) (xs : List Int) (w : World) (hb : Bytes xs) (hr : ReadsB w w.heap.size A xs) (hc : xs.length ≤ c) (hm : c ≤ maxLen) (hl : 13 ≤ xs.length) (N : Nat) (f0 f1 f2 : Int) (hf0 : f0 = gfold 0 ((xs.drop 0).take 1)) (hf1 : f1 = gfold 0 ((xs.drop (0 + 1)).take 4)) (hf2 : f2 = gfold 0 ((xs.drop (0 + 1 + 4)).take 4)) (hN : manyN xs = N) (hn : N ≤ 4096) (hs : 13 + 14 * N ≤ xs.length) (code : Int) (hcode : Hid (code = nErr f0 f1 f2 (ents xs N))) : Calls Try.prog 45 #[.slice A xs.length c] w (RdEnd w f0 f1 f2 (ents xs N) (xs.length = 13 + 14 * N ∧ code = 0)) := by
  have hZ0 := Blk.new w 64 #[.int .i64 0, .int .i64 0, .int .i64 0, .slice none 0 0]
  have hB0 : Below w.heap.size w (w.alloc (.cells #[.int .i64 0, .int .i64 0, .int .i64 0, .slice none 0 0] 64)) := (Below.refl _ _).alloc (Nat.le_refl _) _
  have hR1 : RRd ((w.alloc (.cells #[.int .i64 0, .int .i64 0, .int .i64 0, .slice none 0 0] 64)).alloc (.cells #[.slice A xs.length c, .int .i64 0] 110)) w.heap.size (w.heap.size + 1) A c xs 0 :=
    ⟨by have h := Blk.new (w.alloc (.cells #[.int .i64 0, .int .i64 0, .int .i64 0, .slice none 0 0] 64)) 110 #[.slice A xs.length c, .int .i64 0]; simp only [World.size_alloc] at h; exact h, (Reads.below hr hB0).alloc hB0.size _, by omega, hc, hm⟩
  have hZ1 := hZ0.alloc (.cells #[.slice A xs.length c, .int .i64 0] 110)
  have hB1 := hB0.alloc hB0.size (.cells #[.slice A xs.length c, .int .i64 0] 110)
  have hb1 : decide ((xs.length : Int) < 13) = false := decide_eq_false (by omega)
  have g0 := gf_small ((hb.drop 0).take 1) (by rw [List.length_take]; omega)
  have g1 := gf_small ((hb.drop (0 + 1)).take 4) (by rw [List.length_take]; omega)
  have g2 := gf_small ((hb.drop (0 + 1 + 4)).take 4) (by rw [List.length_take]; omega)
  rw [← hf0] at g0
  rw [← hf1] at g1
  rw [← hf2] at g2
  have q0' : IntKind.i64.wrap f0 = f0 := by rw [IntKind.wrap_i64]; omega
  have q1' : IntKind.i64.wrap f1 = f1 := by rw [IntKind.wrap_i64]; omega
  have q2' : IntKind.i64.wrap f2 = f2 := by rw [IntKind.wrap_i64]; omega
  have q0 : wrap64 f0 = f0 := IntWalk.wrap64_in _ (by omega)
  have q1 : wrap64 f1 = f1 := IntWalk.wrap64_in _ (by omega)
  have q2 : wrap64 f2 = f2 := IntWalk.wrap64_in _ (by omega)
  have hN' : (N : Int) = gfold 0 ((xs.drop (0 + 1 + 4 + 4)).take 4) := hN.symm
  have b2 : decide (4096 < (N : Int)) = false := decide_eq_false (by omega)
  have b3 : decide ((xs.length : Int) < 13 + 14 * (N : Int)) = false := decide_eq_false (by omega)
  clear hB0 hZ0 g0 g1 g2
  go_enter Try.func45, Try.ntmps45
  go_wp2_with fail
  have hu2 := Lib.hid (rrduint _ _ _ _ 0 1 _ xs hb hR1 (by omega) (by omega) (by omega))
  rw [← hf0] at hu2
  go_wp2_with fail
  refine hu2.out.mono ?_
  rintro _ w2 ⟨rfl, hR2, hT2⟩
  have hZ2 := hZ1.turned hT2 (by omega)
  have hB2 := hB1.trans (hT2.below hB1.size (fun j hj => by subst hj; omega))
  clear hu2 hZ1 hB1 hT2 hR1 hf0
  have hu3 := Lib.hid (rrduint _ _ _ _ (0 + 1) 4 _ xs hb hR2 (by omega) (by omega) (by omega))
  rw [← hf1] at hu3
  go_wp2_with fail
  refine hu3.out.mono ?_
  rintro _ w3 ⟨rfl, hR3, hT3⟩
  have hZ3 := hZ2.turned hT3 (by omega)
  have hB3 := hB2.trans (hT3.below hB2.size (fun j hj => by subst hj; omega))
  clear hu3 hZ2 hB2 hT3 hR2 hf1
  have hu4 := Lib.hid (rrduint _ _ _ _ (0 + 1 + 4) 4 _ xs hb hR3 (by omega) (by omega) (by omega))
  rw [← hf2] at hu4
  go_wp2_with fail
  refine hu4.out.mono ?_
  rintro _ w4 ⟨rfl, hR4, hT4⟩
  have hZ4 := hZ3.turned hT4 (by omega)
  have hB4 := hB3.trans (hT4.below hB3.size (fun j hj => by subst hj; omega))
  clear hu4 hZ3 hB3 hT4 hR3 hf2
  have hu5 := Lib.hid (rrduint _ _ _ _ (0 + 1 + 4 + 4) 4 _ xs hb hR4 (by omega) (by omega) (by omega))
  rw [← hN'] at hu5
  go_wp2_with fail
  refine hu5.out.mono ?_
  rintro _ w5 ⟨rfl, hR5, hT5⟩
  have hZ5 := hZ4.turned hT5 (by omega)
  have hB5 := hB4.trans (hT5.below hB4.size (fun j hj => by subst hj; omega))
  clear hu5 hZ4 hB4 hT5 hR4 hN'
  go_wp2_with fail
  go_loopw [14] (fun i wr => ∃ k : Nat, k ≤ N ∧ i = .int .i64 k ∧ ∃ Ae ce, Blk wr w5.heap.size 64 #[.int .i64 f0, .int .i64 f1, .int .i64 f2, .slice Ae k ce] ∧ OwnE wr w.heap.size (.slice Ae k ce) (ents xs k) ∧ Blk wr w.heap.size 64 #[.int .i64 0, .int .i64 0, .int .i64 0, .slice none 0 0] ∧ Below w.heap.size w wr) (fun i _ => N - (intOf i).toNat)
  case atStart =>
    have hs5 := hB5.size
    have h0 : (ents xs 0) = [] := rfl
    refine ⟨0, by omega, rfl, none, 0, Blk.new w5 _ _, ?_, hZ5.alloc _, hB5.alloc hs5 _⟩
    rw [h0]
    exact OwnE.nil _ _
  case round =>
    obtain ⟨k, hk, rfl, Ae, ce, hNb, hO, hZ, hB⟩ := hrel
    by_cases hlt : k < N
    · obtain ⟨ad, rfl, had, _⟩ := hr.at_ (k := 0) (by omega)
      have hnc : ¬ c = 13 + 14 * k := by omega
      have hsub0 := sub_readsR (k := 13 + 14 * k) (n := 14) (c := c) (Reads.below hr hB) (by omega) hc
      rw [if_neg hnc] at hsub0
      obtain ⟨a2, ha2⟩ : ∃ a, ad.add (13 + 14 * k) = a := ⟨_, rfl⟩
      rw [ha2] at hsub0
      have hsl : ((xs.drop (13 + 14 * k)).take 14).length = 14 := by rw [List.length_take, List.length_drop]; omega
      have hget := rget_any (some a2) (c - (13 + 14 * k)) ((xs.drop (13 + 14 * k)).take 14) wr.drew ((hb.drop _).take _) (Reads.more hsub0 hB.size) (by omega) (by omega) (by omega)
      rw [hsl, getE_take] at hget
      obtain ⟨x, hx⟩ : ∃ x, x = getE (xs.drop (13 + 14 * k)) := ⟨_, rfl⟩
      rw [← hx] at hget
      have hnx := ents_next xs k
      rw [← hx] at hnx
      unfold Ent.val at hget
      replace hget := Lib.hid hget
      have hx' := Lib.hid hx
      clear hx
      have d3 : wr.cell? ⟨w5.heap.size, 3, none⟩ = some (.slice Ae k ce) := hNb.cell 3
      have df3 := hNb.frozen 3
      have hoB : Below w.heap.size w wr.drew := hB.drew
      have hl1 : (ents xs (k + 1)).length = k + 1 := ents_length xs (k + 1)
      have hbig : k + 1 ≤ 4398046511104 := by omega
      have hOd : OwnE wr.drew w.heap.size (.slice Ae k ce) (ents xs k) := hO
      have hNd : Blk wr.drew w5.heap.size 64 #[.int .i64 f0, .int .i64 f1, .int .i64 f2, .slice Ae k ce] := hNb
      have hZd : Blk wr.drew w.heap.size 64 #[.int .i64 0, .int .i64 0, .int .i64 0, .slice none 0 0] := hZ
      have hgv := own_blk_ne hO hNb (by decide)
      have hgz := own_blk_ne hO hZ (by decide)
      have hww := hB.size
      have hz1 : ents xs k ++ [x] = ents xs (k + 1) := hnx.symm
      have x1 : IntKind.i64.wrap (14 * (k : Int)) = 14 * k := by rw [IntKind.wrap_i64]; omega
      have x2 : IntKind.i64.wrap (13 + 14 * (k : Int)) = 13 + 14 * k := by rw [IntKind.wrap_i64]; omega
      have x3 : IntKind.i64.wrap (27 + 14 * (k : Int)) = 27 + 14 * k := by rw [IntKind.wrap_i64]; omega
      have x4 : (13 : Int) + 14 * k ≤ 27 + 14 * k := by omega
      have x5 : (27 : Int) + 14 * k ≤ c := by omega
      have x6 : (0 : Int) ≤ 13 + 14 * k := by omega
      have x7 : (0 : Int) ≤ 27 + 14 * k := by omega
      have w2 : (13 + 14 * (k : Int)).toNat = 13 + 14 * k := by omega
      have w3 : (27 + 14 * (k : Int)).toNat = 27 + 14 * k := by omega
      have w4 : 27 + 14 * k - (13 + 14 * k) = 14 := by omega
      have w6 : 13 + 14 * k ≤ 27 + 14 * k := by omega
      have w7 : 27 + 14 * k ≤ c := by omega
      have hne5 : w5.heap.size ≠ w.heap.size := by have := hB5.size; have := hZ5.lt; omega
      go_wp2_with fail
      go_region_law (first
        | (go_simp
           go_at_call 67
           refine hget.out.mono ?_
           rintro _ y1 ⟨rfl, hy1⟩
           have hNy := hNd.below hy1 hNd.lt
           have hZy := hZd.below hy1 hZd.lt
           have hOy := OwnE.alloc (OwnE.below hOd hy1) (.cells #[.int .i64 x.view, .int .i64 x.what, .int .i64 x.a, .int .i64 x.n] 33)
           have hRy := ReadsE.one y1 x
           have ny3 : y1.cell? ⟨w5.heap.size, 3, none⟩ = some (.slice Ae k ce) := hNy.cell 3
           have hNya := Blk.alloc hNy (.cells #[.int .i64 x.view, .int .i64 x.what, .int .i64 x.a, .int .i64 x.n] 33)
           have hZya := Blk.alloc hZy (.cells #[.int .i64 x.view, .int .i64 x.what, .int .i64 x.a, .int .i64 x.n] 33)
           have ny3a : (y1.alloc (.cells #[.int .i64 x.view, .int .i64 x.what, .int .i64 x.a, .int .i64 x.n] 33)).cell? ⟨w5.heap.size, 3, none⟩ = some (.slice Ae k ce) := hNya.cell 3
           have nyf3 := hNy.frozen 3
           have hBy := (hoB.trans (hy1.mono hoB.size)).alloc (Nat.le_trans hoB.size hy1.size) (.cells #[.int .i64 x.view, .int .i64 x.what, .int .i64 x.a, .int .i64 x.n] 33))
        | (refine step_appE _ (by rfl) (.tmp 67) (.tmp 77) (by rfl) w.heap.size (.slice Ae k ce) (ents xs k) (by simp [Act.eval]) hOy (y1.heap.size + 1) (some ⟨y1.heap.size, 0, none⟩) 1 1 [x] (by simp [Act.eval]) hRy rfl
            (ents xs (k + 1)) (k + 1) hz1 hl1 hbig (by have := hy1.size; simp at this; simp; omega) ?_
           intro A9 c9 w9 hown9 hg9 hb9 hat9
           have hN9 := Blk.grown hNya hg9 hgv.symm
           have hZ9 := Blk.grown hZya hg9 hgz.symm
           have n93 : w9.cell? ⟨w5.heap.size, 3, none⟩ = some (.slice Ae k ce) := hN9.cell 3
           have n9f := hN9.frozen 3))
      all_goals
        have hNa : Blk (w9.setCell ⟨w5.heap.size, 3, none⟩ (.slice A9 (k + 1) c9)) w5.heap.size 64 #[.int .i64 f0, .int .i64 f1, .int .i64 f2, .slice A9 (k + 1) c9] := hN9.set_ 3 (.slice A9 (k + 1) c9)
        have hOa := ownE_setCell hown9 hN9 (by decide) (i := 3) (.slice A9 (k + 1) c9)
        have hZa := hZ9.far (p := ⟨w5.heap.size, 3, none⟩) hne5.symm (.slice A9 (k + 1) c9)
        have hBa := (hBy.trans hb9).setCell (p := ⟨w5.heap.size, 3, none⟩) (by have := hB5.size; exact this) (.slice A9 (k + 1) c9)
        clear d3 df3 hNy hZy hOy hRy ny3 hNya hZya ny3a nyf3 n93 n9f hget hsub0 x1 x2 x3 w2 w3
        go_wp2_with fail


        exact ⟨⟨k + 1, by omega, by go_num, A9, c9, hNa, hOa, hZa, hBa⟩, by simp [intOf]; omega⟩
    · obtain rfl : k = N := by omega
      have hlenN := ents_length xs k
      have hin := ents_in xs hb k hs
      have hread := hO.reads
      have hcap := hO.cap
      rw [hlenN] at hcap
      have hri := rright_any f0 f1 f2 Ae ce (ents xs k) wr hread hin (by rw [hlenN]; unfold maxLen; omega)
      rw [hlenN, ← hcode.out] at hri
      replace hri := Lib.hid hri
      have e0 : wr.cell? ⟨w5.heap.size, 0, none⟩ = some (.int .i64 f0) := hNb.cell 0
      have e1 : wr.cell? ⟨w5.heap.size, 1, none⟩ = some (.int .i64 f1) := hNb.cell 1
      have e2 : wr.cell? ⟨w5.heap.size, 2, none⟩ = some (.int .i64 f2) := hNb.cell 2
      have e3 : wr.cell? ⟨w5.heap.size, 3, none⟩ = some (.slice Ae k ce) := hNb.cell 3
      by_cases hlong : xs.length = 13 + 14 * k
      · have b4 : decide (13 + 14 * (k : Int) < (xs.length : Int)) = false := decide_eq_false (by omega)
        go_wp2_with fail
        refine hri.out.mono ?_
        rintro _ y ⟨rfl, hy⟩
        have hZy := hZ.below hy hZ.lt
        have hNy := hNb.below hy hNb.lt
        have hBy := hB.trans (hy.mono hB.size)
        have hreadY := hread.below hy
        have z0 : y.cell? ⟨w.heap.size, 0, none⟩ = some (.int .i64 0) := hZy.cell 0
        have zf0 := hZy.frozen 0
        have z1 : y.cell? ⟨w.heap.size, 1, none⟩ = some (.int .i64 0) := hZy.cell 1
        have zf1 := hZy.frozen 1
        have z2 : y.cell? ⟨w.heap.size, 2, none⟩ = some (.int .i64 0) := hZy.cell 2
        have zf2 := hZy.frozen 2
        have z3 : y.cell? ⟨w.heap.size, 3, none⟩ = some (.slice none 0 0) := hZy.cell 3
        have zf3 := hZy.frozen 3
        by_cases hc0 : code = 0
        · subst hc0
          have hlong' := Lib.hid hlong
          have hOy := OwnE.below hO hy
          have y0 : y.cell? ⟨w5.heap.size, 0, none⟩ = some (.int .i64 f0) := hNy.cell 0
          have y1 : y.cell? ⟨w5.heap.size, 1, none⟩ = some (.int .i64 f1) := hNy.cell 1
          have y2 : y.cell? ⟨w5.heap.size, 2, none⟩ = some (.int .i64 f2) := hNy.cell 2
          have y3 : y.cell? ⟨w5.heap.size, 3, none⟩ = some (.slice Ae k ce) := hNy.cell 3
          clear e0 e1 e2 e3
          go_wp2_with fail
          have hOz0 := ownE_setCell hOy hZy (by decide) (i := 0) (.int .i64 f0)
          have hOz1 := ownE_setCell hOz0 (hZy.set_ 0 (.int .i64 f0)) (by decide) (i := 1) (.int .i64 f1)
          have hOz2 := ownE_setCell hOz1 ((hZy.set_ 0 (.int .i64 f0)).set_ 1 (.int .i64 f1)) (by decide) (i := 2) (.int .i64 f2)
          have hOz3 := ownE_setCell hOz2 (((hZy.set_ 0 (.int .i64 f0)).set_ 1 (.int .i64 f1)).set_ 2 (.int .i64 f2)) (by decide) (i := 3) (.slice Ae k ce)
          have hfin : OwnE ((((y.setCell ⟨w.heap.size, 0, none⟩ (.int .i64 f0)).setCell ⟨w.heap.size, 1, none⟩ (.int .i64 f1)).setCell ⟨w.heap.size, 2, none⟩ (.int .i64 f2)).setCell ⟨w.heap.size, 3, none⟩ (.slice Ae k ce)) w.heap.size (.slice Ae k ce) (ents xs k) := hOz3
          have hzz : Blk ((((y.setCell ⟨w.heap.size, 0, none⟩ (.int .i64 f0)).setCell ⟨w.heap.size, 1, none⟩ (.int .i64 f1)).setCell ⟨w.heap.size, 2, none⟩ (.int .i64 f2)).setCell ⟨w.heap.size, 3, none⟩ (.slice Ae k ce)) w.heap.size 64 #[.int .i64 f0, .int .i64 f1, .int .i64 f2, .slice Ae k ce] := ((((hZy.set_ 0 (.int .i64 f0)).set_ 1 (.int .i64 f1)).set_ 2 (.int .i64 f2)).set_ 3 (.slice Ae k ce))
          have hbb := ((((hBy.setCell (p := ⟨w.heap.size, 0, none⟩) (Nat.le_refl _) (.int .i64 f0)).setCell (p := ⟨w.heap.size, 1, none⟩) (Nat.le_refl _) (.int .i64 f1)).setCell (p := ⟨w.heap.size, 2, none⟩) (Nat.le_refl _) (.int .i64 f2)).setCell (p := ⟨w.heap.size, 3, none⟩) (Nat.le_refl _) (.slice Ae k ce))
          clear z0 zf0 z1 zf1 z2 zf2 z3 zf3 hOz0 hOz1 hOz2 hOz3
          generalize ((((y.setCell ⟨w.heap.size, 0, none⟩ (.int .i64 f0)).setCell ⟨w.heap.size, 1, none⟩ (.int .i64 f1)).setCell ⟨w.heap.size, 2, none⟩ (.int .i64 f2)).setCell ⟨w.heap.size, 3, none⟩ (.slice Ae k ce)) = Wf at *
          have d0 : Wf.cell? ⟨w.heap.size, 0, none⟩ = some (.int .i64 f0) := hzz.cell 0
          have d1 : Wf.cell? ⟨w.heap.size, 1, none⟩ = some (.int .i64 f1) := hzz.cell 1
          have d2 : Wf.cell? ⟨w.heap.size, 2, none⟩ = some (.int .i64 f2) := hzz.cell 2
          have d3 : Wf.cell? ⟨w.heap.size, 3, none⟩ = some (.slice Ae k ce) := hzz.cell 3
          refine bodyPost_ret (v := .tuple #[.agg #[.int .i64 f0, .int .i64 f1, .int .i64 f2, .slice Ae k ce], .int .i64 0]) (by simp [results, Try.results45, go_sem, d0, d1, d2, d3]) rfl ?_
          exact ⟨fun _ => ⟨hbb, Ae, ce, by rw [hlenN], hfin.reads, by rw [hlenN]; exact hcap.1, hcap.2⟩, fun h => absurd ⟨hlong'.out, by first | trivial | rfl⟩ h⟩
        · have hng : ¬ (xs.length = 13 + 14 * k ∧ code = 0) := fun h => hc0 h.2
          replace hng := Lib.hid hng
          have b5 : (code != 0) = true := by rw [bne_iff_ne]; exact hc0
          replace hc0 := Lib.hid hc0
          clear e0 e1 e2 e3
          go_wp2_with fail
          have hzz : Blk ((((y.setCell ⟨w.heap.size, 0, none⟩ (.int .i64 0)).setCell ⟨w.heap.size, 1, none⟩ (.int .i64 0)).setCell ⟨w.heap.size, 2, none⟩ (.int .i64 0)).setCell ⟨w.heap.size, 3, none⟩ (.slice none 0 0)) w.heap.size 64 #[.int .i64 0, .int .i64 0, .int .i64 0, .slice none 0 0] := ((((hZy.set_ 0 (.int .i64 0)).set_ 1 (.int .i64 0)).set_ 2 (.int .i64 0)).set_ 3 (.slice none 0 0))
          have hbb := ((((hBy.setCell (p := ⟨w.heap.size, 0, none⟩) (Nat.le_refl _) (.int .i64 0)).setCell (p := ⟨w.heap.size, 1, none⟩) (Nat.le_refl _) (.int .i64 0)).setCell (p := ⟨w.heap.size, 2, none⟩) (Nat.le_refl _) (.int .i64 0)).setCell (p := ⟨w.heap.size, 3, none⟩) (Nat.le_refl _) (.slice none 0 0))
          clear z0 zf0 z1 zf1 z2 zf2 z3 zf3
          generalize ((((y.setCell ⟨w.heap.size, 0, none⟩ (.int .i64 0)).setCell ⟨w.heap.size, 1, none⟩ (.int .i64 0)).setCell ⟨w.heap.size, 2, none⟩ (.int .i64 0)).setCell ⟨w.heap.size, 3, none⟩ (.slice none 0 0)) = Wf at *
          have d0 : Wf.cell? ⟨w.heap.size, 0, none⟩ = some (.int .i64 0) := hzz.cell 0
          have d1 : Wf.cell? ⟨w.heap.size, 1, none⟩ = some (.int .i64 0) := hzz.cell 1
          have d2 : Wf.cell? ⟨w.heap.size, 2, none⟩ = some (.int .i64 0) := hzz.cell 2
          have d3 : Wf.cell? ⟨w.heap.size, 3, none⟩ = some (.slice none 0 0) := hzz.cell 3
          refine bodyPost_ret (v := .tuple #[.agg #[.int .i64 0, .int .i64 0, .int .i64 0, .slice none 0 0], .int .i64 4]) (by simp [results, Try.results45, go_sem, d0, d1, d2, d3]) rfl ?_
          exact ⟨fun h => absurd h hng.out, fun _ => ⟨hbb, none, 0, rfl, ReadsE.nil_ _ _, by simp, by unfold maxLen; omega⟩⟩
      · have hng : ¬ (xs.length = 13 + 14 * k ∧ code = 0) := fun h => hlong h.1
        replace hng := Lib.hid hng
        have b4 : decide (13 + 14 * (k : Int) < (xs.length : Int)) = true := decide_eq_true (by omega)
        clear hlong
        have z0 : wr.cell? ⟨w.heap.size, 0, none⟩ = some (.int .i64 0) := hZ.cell 0
        have zf0 := hZ.frozen 0
        have z1 : wr.cell? ⟨w.heap.size, 1, none⟩ = some (.int .i64 0) := hZ.cell 1
        have zf1 := hZ.frozen 1
        have z2 : wr.cell? ⟨w.heap.size, 2, none⟩ = some (.int .i64 0) := hZ.cell 2
        have zf2 := hZ.frozen 2
        have z3 : wr.cell? ⟨w.heap.size, 3, none⟩ = some (.slice none 0 0) := hZ.cell 3
        have zf3 := hZ.frozen 3
        clear e0 e1 e2 e3
        go_wp2_with fail
        have hzz : Blk ((((wr.setCell ⟨w.heap.size, 0, none⟩ (.int .i64 0)).setCell ⟨w.heap.size, 1, none⟩ (.int .i64 0)).setCell ⟨w.heap.size, 2, none⟩ (.int .i64 0)).setCell ⟨w.heap.size, 3, none⟩ (.slice none 0 0)) w.heap.size 64 #[.int .i64 0, .int .i64 0, .int .i64 0, .slice none 0 0] := ((((hZ.set_ 0 (.int .i64 0)).set_ 1 (.int .i64 0)).set_ 2 (.int .i64 0)).set_ 3 (.slice none 0 0))
        have hbb := ((((hB.setCell (p := ⟨w.heap.size, 0, none⟩) (Nat.le_refl _) (.int .i64 0)).setCell (p := ⟨w.heap.size, 1, none⟩) (Nat.le_refl _) (.int .i64 0)).setCell (p := ⟨w.heap.size, 2, none⟩) (Nat.le_refl _) (.int .i64 0)).setCell (p := ⟨w.heap.size, 3, none⟩) (Nat.le_refl _) (.slice none 0 0))
        clear z0 zf0 z1 zf1 z2 zf2 z3 zf3
        generalize ((((wr.setCell ⟨w.heap.size, 0, none⟩ (.int .i64 0)).setCell ⟨w.heap.size, 1, none⟩ (.int .i64 0)).setCell ⟨w.heap.size, 2, none⟩ (.int .i64 0)).setCell ⟨w.heap.size, 3, none⟩ (.slice none 0 0)) = Wf at *
        have d0 : Wf.cell? ⟨w.heap.size, 0, none⟩ = some (.int .i64 0) := hzz.cell 0
        have d1 : Wf.cell? ⟨w.heap.size, 1, none⟩ = some (.int .i64 0) := hzz.cell 1
        have d2 : Wf.cell? ⟨w.heap.size, 2, none⟩ = some (.int .i64 0) := hzz.cell 2
        have d3 : Wf.cell? ⟨w.heap.size, 3, none⟩ = some (.slice none 0 0) := hzz.cell 3
        refine bodyPost_ret (v := .tuple #[.agg #[.int .i64 0, .int .i64 0, .int .i64 0, .slice none 0 0], .int .i64 4]) (by simp [results, Try.results45, go_sem, d0, d1, d2, d3]) rfl ?_
        exact ⟨fun h => absurd h hng.out, fun _ => ⟨hbb, none, 0, rfl, ReadsE.nil_ _ _, by simp, by unfold maxLen; omega⟩⟩

/-- What bytes are, as a note. -/
def rdN (xs : List Int) : Nat := (manyN xs).toNat
def rd0 (xs : List Int) : Int := gfold 0 ((xs.drop 0).take 1)
def rd1_ (xs : List Int) : Int := gfold 0 ((xs.drop (0 + 1)).take 4)
def rd2_ (xs : List Int) : Int := gfold 0 ((xs.drop (0 + 1 + 4)).take 4)
def rdGood (xs : List Int) : Prop := xs.length = 13 + 14 * rdN xs ∧ nErr (rd0 xs) (rd1_ xs) (rd2_ xs) (ents xs (rdN xs)) = 0
instance (xs : List Int) : Decidable (rdGood xs) := by unfold rdGood; exact inferInstance
def rdC (xs : List Int) : Int := if xs.length < 13 then 3 else if 4096 < manyN xs then 4 else if (xs.length : Int) < 13 + 14 * manyN xs then 3 else if rdGood xs then 0 else 4
def rdWhat (xs : List Int) : Int := if rdC xs = 0 then rd0 xs else 0
def rdView (xs : List Int) : Int := if rdC xs = 0 then rd1_ xs else 0
def rdNum (xs : List Int) : Int := if rdC xs = 0 then rd2_ xs else 0
def rdL (xs : List Int) : List Ent := if rdC xs = 0 then ents xs (rdN xs) else []
theorem rd_bad {xs : List Int} (h : ¬ rdC xs = 0) : rdWhat xs = 0 ∧ rdView xs = 0 ∧ rdNum xs = 0 ∧ rdL xs = [] := ⟨if_neg h, if_neg h, if_neg h, if_neg h⟩
theorem rd_good {xs : List Int} (h : rdC xs = 0) : rdWhat xs = rd0 xs ∧ rdView xs = rd1_ xs ∧ rdNum xs = rd2_ xs ∧ rdL xs = ents xs (rdN xs) := ⟨if_pos h, if_pos h, if_pos h, if_pos h⟩
theorem rdC_short {xs : List Int} (h : xs.length < 13) : rdC xs = 3 := if_pos h
theorem rdC_many {xs : List Int} (h : ¬ xs.length < 13) (h2 : 4096 < manyN xs) : rdC xs = 4 := by unfold rdC; rw [if_neg h, if_pos h2]
theorem rdC_less {xs : List Int} (h : ¬ xs.length < 13) (h2 : ¬ 4096 < manyN xs) (h3 : (xs.length : Int) < 13 + 14 * manyN xs) : rdC xs = 3 := by unfold rdC; rw [if_neg h, if_neg h2, if_pos h3]
theorem rdC_good {xs : List Int} (h : ¬ xs.length < 13) (h2 : ¬ 4096 < manyN xs) (h3 : ¬ (xs.length : Int) < 13 + 14 * manyN xs) (h4 : rdGood xs) : rdC xs = 0 := by unfold rdC; rw [if_neg h, if_neg h2, if_neg h3, if_pos h4]
theorem rdC_no {xs : List Int} (h : ¬ xs.length < 13) (h2 : ¬ 4096 < manyN xs) (h3 : ¬ (xs.length : Int) < 13 + 14 * manyN xs) (h4 : ¬ rdGood xs) : rdC xs = 4 := by unfold rdC; rw [if_neg h, if_neg h2, if_neg h3, if_neg h4]
theorem rdC_inv {xs : List Int} (h : rdC xs = 0) : ¬ xs.length < 13 ∧ ¬ 4096 < manyN xs ∧ rdGood xs := by
  unfold rdC at h
  split at h
  · cases h
  · split at h
    · cases h
    · split at h
      · cases h
      · split at h
        · exact ⟨by assumption, by assumption, by assumption⟩
        · cases h
/-- What a call that reads a note comes to. -/
def RdAll (w : World) (xs : List Int) (e : Ending) (w' : World) : Prop := RdPost w (rdWhat xs) (rdView xs) (rdNum xs) (rdL xs) (rdC xs) e w'
theorem RdAll.no {w w' : World} {xs : List Int} {code : Int} {e : Ending} (hc : rdC xs = code) (hne : ¬ code = 0) (h : e = .returned (.tuple #[.agg #[.int .i64 0, .int .i64 0, .int .i64 0, .slice none 0 0], .int .i64 code]) ∧ Below w.heap.size w w') : RdAll w xs e w' := by
  subst hc
  obtain ⟨h0, h1, h2, h3⟩ := rd_bad hne
  unfold RdAll
  rw [h0, h1, h2, h3]
  exact ⟨h.2, none, 0, h.1, ReadsE.nil_ _ _, Nat.le_refl _, by unfold maxLen; omega⟩
theorem rread_any (A : Option Addr) (c : Nat) (xs : List Int) (w : World) (hb : Bytes xs) (hr : ReadsB w w.heap.size A xs) (hc : xs.length ≤ c) (hm : c ≤ maxLen) : Calls Try.prog 45 #[.slice A xs.length c] w (RdAll w xs) := by
  by_cases h1 : xs.length < 13
  · exact (rread_short A c xs w hb hr hc hm h1).mono fun e w' h => RdAll.no (rdC_short h1) (by decide) h
  · by_cases h2 : 4096 < manyN xs
    · exact (rread_many A c xs w hb hr hc hm (by omega) h2).mono fun e w' h => RdAll.no (rdC_many h1 h2) (by decide) h
    · by_cases h3 : (xs.length : Int) < 13 + 14 * manyN xs
      · exact (rread_less A c xs w hb hr hc hm (by omega) h2 h3).mono fun e w' h => RdAll.no (rdC_less h1 h2 h3) (by decide) h
      · have hmn : 0 ≤ manyN xs := gfold_nn _ 0 ((hb.drop 9).take 4) (by omega)
        have hN : manyN xs = (rdN xs : Int) := by unfold rdN; omega
        refine (rread_loop A c xs w hb hr hc hm (by omega) (rdN xs) (rd0 xs) (rd1_ xs) (rd2_ xs) rfl rfl rfl hN (by omega) (by omega) (nErr (rd0 xs) (rd1_ xs) (rd2_ xs) (ents xs (rdN xs))) (Lib.hid rfl)).mono fun e w' h => ?_
        by_cases h4 : rdGood xs
        · obtain ⟨e0, e1, e2, e3⟩ := rd_good (rdC_good h1 h2 h3 h4)
          unfold RdAll
          rw [e0, e1, e2, e3, rdC_good h1 h2 h3 h4]
          exact h.1 h4
        · obtain ⟨e0, e1, e2, e3⟩ := rd_bad (xs := xs) (by rw [rdC_no h1 h2 h3 h4]; decide)
          unfold RdAll
          rw [e0, e1, e2, e3, rdC_no h1 h2 h3 h4]
          exact h.2 h4
end Go.Proofs.Ytlehianbdamgmaa
