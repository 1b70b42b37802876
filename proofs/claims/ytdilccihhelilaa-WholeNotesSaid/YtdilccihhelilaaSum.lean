/- The walks of the two sums. -/
import Derived.Test.YtdilccihhelilaaRows
import Derived.Test.YtdilccihhelilaaMem
import Derived.Test.YtdilccihhelilaaCrc
import Derived.WalkKit
import Derived.Outline
import Derived.Below
import Derived.Lib.Hide
import Derived.Lib.SlBytesConst
import Derived.WalkSpells
import Derived.WalkLawsBesides
namespace Go.Proofs.Ytdilccihhelilaa
open Go.RowKit

theorem step_any (c : Int) (s : BitVec 32) (a : Addr) (w : World) (h0 : 0 ≤ c) (h1 : c < 256) (hcell : w.cell? a = some (.int .u32 s.toNat)) (hf : w.frozen? a = false) :
    Calls Try.prog 53 #[.int .u8 c, .pointer (some a)] w fun e w' => e = .returned (.tuple #[]) ∧ w.setCell a (.int .u32 (byteB s c).toNat) = w' := by
  go_enter Try.func53, Try.ntmps53
  go_wp2
  go_loopw [7] (fun i wr => ∃ k : Nat, k ≤ 8 ∧ i = .int .i64 k ∧ wr = w.setCell a (.int .u32 (turnsB k (s ^^^ BitVec.ofInt 32 c)).toNat)) (fun i _ => 8 - (intOf i).toNat)
  case atStart => exact ⟨0, by omega, rfl, by rw [bits_xor_bv, ofInt_toNat]; rfl⟩
  case round =>
    obtain ⟨k, hk, rfl, rfl⟩ := hrel
    by_cases hlt : k < 8
    · go_wp2
      exact ⟨⟨k + 1, by omega, by go_num, by rw [turn_walk]; rw [setCell_setCell]; rfl⟩, by simp [intOf]; omega⟩
    · go_wp2
      obtain rfl : k = 8 := by omega
      go_end0
      exact ⟨rfl, rfl⟩
set_option maxRecDepth 100000 in
set_option maxHeartbeats 400000 in
theorem sum_any (A : Option Addr) (c : Nat) (xs : List Int) (w : World) (hb : Bytes xs) (hr : ReadsB w w.heap.size A xs) (hm : xs.length ≤ maxLen) :
    Calls Try.prog 50 #[.slice A xs.length c] w fun e w' => e = .returned (.int .u32 (sumB xs)) ∧ Below w.heap.size w w' := by
  unfold maxLen at hm
  go_enter Try.func50, Try.ntmps50
  go_wp2_with fail
  go_loopw [10, 6] (fun i _ wr => ∃ k : Nat, k ≤ xs.length ∧ i = .int .i64 k ∧ wr = w.alloc (.cells #[.int .u32 (crcB (xs.take k)).toNat] 105)) (fun i _ _ => xs.length - (intOf i).toNat)
  case atStart => exact ⟨0, by omega, rfl, rfl⟩
  case round =>
    obtain ⟨k, hk, rfl, rfl⟩ := hrel
    by_cases hlt : k < xs.length
    · obtain ⟨ad, rfl, hlo, hc⟩ := hr.at_ hlt
      obtain ⟨hx0, hx1⟩ := hb.at_ k
      have hct := Lib.hid (crcB_take xs k hlt)
      generalize xs.getD k 0 = x at *
      have hc' : (w.alloc (.cells #[.int .u32 (crcB (xs.take k)).toNat] 105)).cell? (ad.add k) = some (.int .u8 x) := by
        rw [World.cell?_alloc_lt _ _ _ (by rw [block_of_add]; exact hlo)]; exact hc
      go_wp2_with fail
      refine (step_any x (crcB (xs.take k)) _ _ hx0 hx1 (by simp) (by simp)).mono ?_
      rintro e w' ⟨rfl, rfl⟩
      go_wp2_with fail
      exact ⟨⟨k + 1, by omega, by go_num, by rw [hct.out]⟩, by simp [intOf]; omega⟩
    · go_wp2
      obtain rfl : k = xs.length := by omega
      go_ret
      refine ⟨?_, (Below.refl _ _).alloc (Nat.le_refl _) _⟩
      rw [List.take_length]
      have e : bits BinOp.xor IntKind.u32 IntKind.u32.max ↑(crcB xs).toNat = sumB xs := by
        rw [bits_xor_bv, ofInt_toNat]; rfl
      simp [e]

end Go.Proofs.Ytdilccihhelilaa
