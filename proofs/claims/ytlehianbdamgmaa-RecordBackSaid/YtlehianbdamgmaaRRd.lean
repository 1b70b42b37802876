/- The reference's reader. -/
import Derived.Test.YtlehianbdamgmaaRead
import Derived.Lib.SmallJoins
namespace Go.Proofs.Ytlehianbdamgmaa
open Go.RowKit
set_option linter.unusedVariables false

/-- The reference's reader over xs at the place k; its bytes lie below B, itself does not. -/
structure RRd (w : World) (B g : Nat) (A : Option Addr) (c : Nat) (xs : List Int) (k : Nat) : Prop where
  blk : Blk w g 110 #[.slice A xs.length c, .int .i64 k]
  reads : ReadsB w B A xs
  lt : B ≤ g
  cap : xs.length ≤ c
  most : c ≤ maxLen
theorem RRd.drewN {w : World} {B g c k : Nat} {A : Option Addr} {xs : List Int} (h : RRd w B g A c xs k) (m : Nat) : RRd (w.drewN m) B g A c xs k := ⟨h.blk.drewN m, Reads.drewN h.reads m, h.lt, h.cap, h.most⟩

set_option maxRecDepth 100000 in
set_option maxHeartbeats 2000000 in
theorem rrduint (w : World) (B g c k n : Nat) (A : Option Addr) (xs : List Int) (hb : Bytes xs) (h : RRd w B g A c xs k) (h1 : 1 ≤ n) (h2 : n ≤ 8) (h3 : k + n ≤ xs.length) :
    Calls Try.prog 66 #[.pointer (some ⟨g, 0, none⟩), .int .i64 n] w fun e w' =>
      e = .returned (.tuple #[.int .u64 (gfold 0 ((xs.drop k).take n)), .int .i64 0]) ∧ RRd w' B g A c xs (k + n) ∧ Turned (fun i => i = g) w w' := by
  obtain ⟨hB, hr, hlt, hc, hm⟩ := h
  have c0 : w.cell? ⟨g, 0, none⟩ = some (.slice A xs.length c) := hB.cell 0
  have c1 : w.cell? ⟨g, 1, none⟩ = some (.int .i64 k) := hB.cell 1
  have f1 := hB.frozen 1
  have hB' := Lib.hid hB
  have hr' := Lib.hid hr
  unfold maxLen at hm
  have hbys := (hb.drop k).take n
  obtain ⟨ys, hys⟩ : ∃ ys, ys = (xs.drop k).take n := ⟨_, rfl⟩
  have hyl : ys.length = n := by rw [hys, List.length_take, List.length_drop]; omega
  have hcell : ∀ j, j < n → ∃ ad, A = some ad ∧ w.cell? (ad.add (k + j)) = some (.int .u8 (ys.getD j 0)) := fun j hj => by
    obtain ⟨ad, e1, _, e3⟩ := hr.at_ (k := k + j) (by omega)
    refine ⟨ad, e1, ?_⟩
    rw [e3, hys]
    congr 2
    simp only [List.getD]
    rw [List.getElem?_take_of_lt hj, List.getElem?_drop]
  rw [← hys] at hbys ⊢
  have hN : (1 : Int) * 256 ^ ys.length ≤ 18446744073709551616 := by
    have := pow_mono256 (show ys.length ≤ 8 by omega)
    have e : (256 : Int) ^ 8 = 18446744073709551616 := by decide
    rw [e] at this
    omega
  replace hN := Lib.hid hN
  have b1 : decide ((n : Int) < 1) = false := decide_eq_false (by omega)
  have b2 : decide (8 < (n : Int)) = false := decide_eq_false (by omega)
  have b3 : decide ((xs.length : Int) - k < n) = false := decide_eq_false (by omega)
  replace hyl := Lib.hid hyl
  clear hys hB hr
  go_enter Try.func66, Try.ntmps66
  go_wp2_with fail
  go_quiet (fail)
  obtain ⟨m0, rfl⟩ : ∃ m, m = nq := ⟨_, rfl⟩
  go_wp2_with fail
  go_loopw [7, 6] (fun i s wr => ∃ j m : Nat, j ≤ n ∧ i = .int .i64 j ∧ s = .int .u64 (gfold 0 (ys.take j)) ∧ wr = w.drewN m) (fun i _ _ => n - (intOf i).toNat)
  case atStart => exact ⟨0, m0, by omega, rfl, rfl, rfl⟩
  case round =>
    obtain ⟨j, m, hj, rfl, rfl, rfl⟩ := hrel
    by_cases hlt' : j < n
    · obtain ⟨ad, rfl, hcj⟩ := hcell j hlt'
      obtain ⟨hx0, hx1⟩ := hbys.at_ j
      obtain ⟨_, hhi⟩ := gfold_step_bd hbys (show j < ys.length by have := hyl.out; omega) (by decide : (-1 : Int) ≤ 0) (by decide : (0 : Int) < 1) (by decide) hN.out
      have hnn := gfold_nn (ys.take j) 0 (hbys.take j) (by decide)
      have hct := Lib.hid (gfold_take 0 ys j (by have := hyl.out; omega))
      generalize ys.getD j 0 = x at *
      generalize gfold 0 (ys.take j) = s at *
      have hj' := u64_join hnn hhi hx0 hx1
      have l1 : (k : Int) + j < xs.length := by omega
      have l2 : (0 : Int) ≤ (k : Int) + j := by omega
      have l3 : ((k : Int) + j).toNat = k + j := by omega
      go_wp2_with fail
      go_quiet (fail)
      obtain ⟨m1, rfl⟩ : ∃ m, m = nq := ⟨_, rfl⟩
      go_wp2_with fail
      exact ⟨⟨j + 1, _, by omega, by go_num, by rw [hct.out], rfl⟩, by simp [intOf]; omega⟩
    · obtain rfl : j = n := by omega
      have ht : ys.take j = ys := List.take_of_length_le (by have := hyl.out; omega)
      rw [ht]
      go_wp2_with fail
      refine bodyPost_ret (v := .tuple #[.int .u64 (gfold 0 ys), .int .i64 0]) (by simp [results, Try.results66, go_sem]) rfl ?_
      exact ⟨rfl, ⟨(hB'.out.drewN m).set_ 1 _, (Reads.drewN hr'.out m).setCell (p := ⟨g, 1, none⟩) hlt _, hlt, hc, by unfold maxLen; omega⟩, ((Turned.refl (fun i => i = g) w).drewN m).setCell (p := ⟨g, 1, none⟩) (.inl rfl) _⟩

theorem gfold_lin : ∀ (cs : List Int) (x : Int), gfold x cs = x * 256 ^ cs.length + gfold 0 cs
  | [], x => by simp [gfold]
  | c :: cs, x => by
    rw [gfold_cons, gfold_cons, gfold_lin cs (x * 256 + c), gfold_lin cs (0 * 256 + c), List.length_cons, Int.pow_succ]
    rw [Int.zero_mul, Int.zero_add, Int.add_mul, Int.mul_comm (256 ^ cs.length) 256, ← Int.mul_assoc, Int.add_assoc]
theorem sval_wrap {ys : List Int} (hb : Bytes ys) (hl : ys.length = 8) : wrap64 (gfold 0 ys) = sval ys := by
  match ys, hl with
  | c :: cs, hl =>
    have hc := hb c (by simp)
    have hcl : cs.length = 7 := by simpa using hl
    have h1 := gfold_bd cs 0 1 (fun x hx => hb x (List.mem_cons_of_mem _ hx)) (by omega) (by omega)
    have h2 := gfold_nn cs 0 (fun x hx => hb x (List.mem_cons_of_mem _ hx)) (by omega)
    have e7 : (256 : Int) ^ 7 = 72057594037927936 := by decide
    rw [hcl, e7] at h1
    show wrap64 (gfold 0 (c :: cs)) = gfold (sbyte c) cs
    rw [gfold_cons, gfold_lin cs (0 * 256 + c), gfold_lin cs (sbyte c), hcl, e7]
    generalize gfold 0 cs = G at *
    unfold wrap64 sbyte
    omega

set_option maxRecDepth 100000 in
set_option maxHeartbeats 2000000 in
theorem rrdint8 (w : World) (B g c k : Nat) (A : Option Addr) (xs : List Int) (hb : Bytes xs) (h : RRd w B g A c xs k) (h3 : k + 8 ≤ xs.length) :
    Calls Try.prog 78 #[.pointer (some ⟨g, 0, none⟩), .int .i64 8] w fun e w' =>
      e = .returned (.tuple #[.int .i64 (sval ((xs.drop k).take 8)), .int .i64 0]) ∧ RRd w' B g A c xs (k + 8) ∧ Turned (fun i => i = g) w w' := by
  have hu := Lib.hid (rrduint w B g c k 8 A xs hb h (by omega) (by omega) h3)
  have hl : ((xs.drop k).take 8).length = 8 := by rw [List.length_take, List.length_drop]; omega
  have hs := sval_wrap ((hb.drop k).take 8) hl
  generalize (xs.drop k).take 8 = ys at *
  replace hs := Lib.hid hs
  obtain ⟨G, hG⟩ : ∃ G, G = gfold 0 ys := ⟨_, rfl⟩
  rw [← hG] at hu hs
  clear hG hl
  go_enter Try.func78, Try.ntmps78
  go_wp2_with fail
  refine hu.out.mono ?_
  rintro _ w1 ⟨rfl, hR, hT⟩
  go_wp2_with fail
  refine bodyPost_ret (v := .tuple #[.int .i64 (wrap64 G), .int .i64 0]) (by simp [results, Try.results78, go_sem]) rfl ?_
  exact ⟨by rw [← hs.out], hR, hT⟩
end Go.Proofs.Ytlehianbdamgmaa
