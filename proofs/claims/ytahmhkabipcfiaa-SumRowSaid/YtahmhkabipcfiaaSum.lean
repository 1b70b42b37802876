/- The walks of the two sums. -/
import Derived.Test.YtahmhkabipcfiaaRows
import Derived.Test.YtahmhkabipcfiaaMem
import Derived.Test.YtahmhkabipcfiaaCrc
import Derived.WalkKit
import Derived.Outline
import Derived.Below
import Derived.Lib.Hide
import Derived.Lib.SlBytesConst
import Derived.WalkSpells
import Derived.WalkLawsBesides
namespace Go.Proofs.Ytahmhkabipcfiaa
open Go.RowKit

theorem step_any (c : Int) (s : BitVec 32) (a : Addr) (w : World) (h0 : 0 ≤ c) (h1 : c < 256) (hcell : w.cell? a = some (.int .u32 s.toNat)) (hf : w.frozen? a = false) :
    Calls Try.prog 42 #[.int .u8 c, .pointer (some a)] w fun e w' => e = .returned (.tuple #[]) ∧ w.setCell a (.int .u32 (byteB s c).toNat) = w' := by
  go_enter Try.func42, Try.ntmps42
  go_wp2
  go_loopw [7] (fun i wr => ∃ k : Nat, k ≤ 8 ∧ i = .int .i64 k ∧ wr = w.setCell a (.int .u32 (turnsB k (s ^^^ BitVec.ofInt 32 c)).toNat)) (fun i _ => 8 - (intOf i).toNat)
  case atStart => exact ⟨0, by omega, rfl, by rw [bits_xor_bv, ofInt_toNat]; rfl⟩
  case round =>
    obtain ⟨k, hk, rfl, rfl⟩ := hrel
    by_cases hlt : k < 8
    · go_wp2
      exact ⟨⟨k + 1, by omega, by go_num, by rw [turn_walk]; rw [setCell_setCell]; rfl⟩, by simp [intOf]; omega⟩
    · go_wp2
      obtain rfl : k = 8 := by omega
      go_end0
      exact ⟨rfl, rfl⟩
set_option maxRecDepth 100000 in
set_option maxHeartbeats 400000 in
theorem sum_any (A : Option Addr) (c : Nat) (xs : List Int) (w : World) (hb : Bytes xs) (hr : ReadsB w w.heap.size A xs) (hm : xs.length ≤ maxLen) :
    Calls Try.prog 39 #[.slice A xs.length c] w fun e w' => e = .returned (.int .u32 (sumB xs)) ∧ Below w.heap.size w w' := by
  unfold maxLen at hm
  go_enter Try.func39, Try.ntmps39
  go_wp2_with fail
  go_loopw [10, 6] (fun i _ wr => ∃ k : Nat, k ≤ xs.length ∧ i = .int .i64 k ∧ wr = w.alloc (.cells #[.int .u32 (crcB (xs.take k)).toNat] 83)) (fun i _ _ => xs.length - (intOf i).toNat)
  case atStart => exact ⟨0, by omega, rfl, rfl⟩
  case round =>
    obtain ⟨k, hk, rfl, rfl⟩ := hrel
    by_cases hlt : k < xs.length
    · obtain ⟨ad, rfl, hlo, hc⟩ := hr.at_ hlt
      obtain ⟨hx0, hx1⟩ := hb.at_ k
      have hct := Lib.hid (crcB_take xs k hlt)
      generalize xs.getD k 0 = x at *
      have hc' : (w.alloc (.cells #[.int .u32 (crcB (xs.take k)).toNat] 83)).cell? (ad.add k) = some (.int .u8 x) := by
        rw [World.cell?_alloc_lt _ _ _ (by rw [block_of_add]; exact hlo)]; exact hc
      go_wp2_with fail
      refine (step_any x (crcB (xs.take k)) _ _ hx0 hx1 (by simp) (by simp)).mono ?_
      rintro e w' ⟨rfl, rfl⟩
      go_wp2_with fail
      exact ⟨⟨k + 1, by omega, by go_num, by rw [hct.out]⟩, by simp [intOf]; omega⟩
    · go_wp2
      obtain rfl : k = xs.length := by omega
      go_ret
      refine ⟨?_, (Below.refl _ _).alloc (Nat.le_refl _) _⟩
      rw [List.take_length]
      have e : bits BinOp.xor IntKind.u32 IntKind.u32.max ↑(crcB xs).toNat = sumB xs := by
        rw [bits_xor_bv, ofInt_toNat]; rfl
      simp [e]

set_option maxRecDepth 100000 in
set_option maxHeartbeats 400000 in
theorem rsum_any (A : Option Addr) (c : Nat) (xs : List Int) (w : World) (hb : Bytes xs) (hr : ReadsB w w.heap.size A xs) (hm : xs.length ≤ maxLen) :
    Calls Try.prog 38 #[.slice A xs.length c] w fun e w' => e = .returned (.int .u32 (sumB xs)) ∧ w = w' := by
  unfold maxLen at hm
  go_enter Try.func38, Try.ntmps38
  go_wp2_with fail
  go_loop [4, 3] (fun i s => ∃ k : Nat, k ≤ xs.length ∧ i = .int .i64 k ∧ s = .int .u32 (crcB (xs.take k)).toNat) (fun i _ => xs.length - (intOf i).toNat)
  case atStart => exact ⟨0, by omega, rfl, rfl⟩
  case round =>
    obtain ⟨k, hk, rfl, rfl⟩ := hrel
    by_cases hlt : k < xs.length
    · obtain ⟨ad, rfl, hlo, hc⟩ := hr.at_ hlt
      obtain ⟨hx0, hx1⟩ := hb.at_ k
      have hct := Lib.hid (crcB_take xs k hlt)
      generalize xs.getD k 0 = x at *
      generalize crcB (xs.take k) = s0 at *
      go_wp2_with fail
      go_loop [6, 3, 5] (fun i s y => ∃ (j : Nat) (s' x' : BitVec 32), j ≤ 8 ∧ i = .int .i64 j ∧ s = .int .u32 s'.toNat ∧ y = .int .u8 x'.toNat ∧ x'.toNat < 256 ∧ x' = BitVec.ofInt 32 x >>> j ∧ s' ^^^ x' = turnsB j (s0 ^^^ BitVec.ofInt 32 x)) (fun i _ _ => 8 - (intOf i).toNat)
      case atStart => exact ⟨0, s0, BitVec.ofInt 32 x, by omega, rfl, rfl, by rw [ofInt_byte hx0 hx1], by have := ofInt_byte hx0 hx1; omega, rfl, rfl⟩
      case round =>
        obtain ⟨j, s', x', hj, rfl, rfl, rfl, hx', hxx, hss⟩ := hrel
        replace hxx := Lib.hid hxx
        replace hss := Lib.hid hss
        by_cases hjl : j < 8
        · go_wp2
          · have ht : (bits .and .u32 (bits .xor .u32 (s'.toNat : Int) (x'.toNat : Int)) 1 == 1) = true := by assumption
            obtain ⟨s2, x2, e1, e2, e3, e4, e5⟩ := ref_round_yes ht hxx.out hx' hss.out
            exact ⟨⟨j + 1, s2, x2, by omega, by go_num, by rw [e1], by rw [e2], e3, e4, e5⟩, by simp [intOf]; omega⟩
          · have ht : (bits .and .u32 (bits .xor .u32 (s'.toNat : Int) (x'.toNat : Int)) 1 == 1) = false := by assumption
            obtain ⟨s2, x2, e1, e2, e3, e4, e5⟩ := ref_round_no ht hxx.out hx' hss.out
            exact ⟨⟨j + 1, s2, x2, by omega, by go_num, by rw [e1], by rw [e2], e3, e4, e5⟩, by simp [intOf]; omega⟩
        · go_wp2
          obtain rfl : j = 8 := by omega
          exact ⟨⟨k + 1, by omega, by go_num, by rw [hct.out, ref_byte hx0 hx1 hxx.out hss.out]⟩, by simp [intOf]; omega⟩
    · go_wp2
      obtain rfl : k = xs.length := by omega
      go_ret
      rw [List.take_length]
      have e : bits BinOp.xor IntKind.u32 ↑(crcB xs).toNat 4294967295 = sumB xs := by
        rw [bits_xor_bv, ofInt_toNat, BitVec.xor_comm]; rfl
      simp [e]

set_option maxRecDepth 100000 in
set_option maxHeartbeats 400000 in
theorem awake_any (w : World) :
    Calls Try.prog 27 #[] w fun e w' => e = .returned (.bool true) ∧ Below w.heap.size w w' := by
  have kc := fun (w : World) (C : Array Value) (n c : Nat) => Lib.run_convert_bytes_const (P := Try.prog) w 31 5 C n c Try.underlying31 Try.underlying5
  go_enter Try.func27, Try.ntmps27
  go_wp2_with fail
  refine (sum_any _ 9 [49, 50, 51, 52, 53, 54, 55, 56, 57] _ (by unfold Bytes; decide) (ReadsB.new _ _ _ _ _ rfl) (by unfold maxLen; decide)).mono ?_
  rintro e w' ⟨rfl, hb⟩
  go_wp2_with fail
  go_ret
  have e : sumB [49, 50, 51, 52, 53, 54, 55, 56, 57] = 3421780262 := by decide +kernel
  refine ⟨?_, ((Below.refl _ _).alloc (Nat.le_refl _) _).trans (hb.mono (by simp))⟩
  simp only [e]
  rfl
end Go.Proofs.Ytahmhkabipcfiaa
