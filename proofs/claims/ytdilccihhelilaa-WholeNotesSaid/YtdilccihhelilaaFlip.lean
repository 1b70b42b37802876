/- Frames: what opens them; one byte turned. -/
import Derived.Test.YtdilccihhelilaaOpn
namespace Go.Proofs.Ytdilccihhelilaa
open Go.RowKit
set_option linter.unusedVariables false

theorem low_bit (x : BitVec 32) : x &&& 1#32 = if x.getLsbD 0 then 1#32 else 0#32 := by
  apply BitVec.eq_of_getLsbD_eq
  intro i hi
  rw [BitVec.getLsbD_and]
  by_cases h0 : i = 0
  · subst h0
    cases x.getLsbD 0 <;> decide
  · have h1 : (1#32).getLsbD i = false := by
      rw [BitVec.getLsbD_one]
      simp
      omega
    rw [h1, Bool.and_false]
    cases x.getLsbD 0
    · simp
    · simp [h1]
theorem turnB_if (x : BitVec 32) : turnB x = x >>> 1 ^^^ (if x.getLsbD 0 then 3988292384#32 else 0#32) := by
  unfold turnB
  rw [low_bit]
  cases x.getLsbD 0
  · rfl
  · rfl
theorem turnB_top (x : BitVec 32) : (turnB x).getLsbD 31 = x.getLsbD 0 := by
  rw [turnB_if, BitVec.getLsbD_xor, BitVec.getLsbD_ushiftRight]
  rw [BitVec.getLsbD_of_ge x (1 + 31) (by omega), Bool.false_xor]
  cases x.getLsbD 0
  · rfl
  · rfl
theorem turnB_inj {s t : BitVec 32} (h : turnB s = turnB t) : s = t := by
  have h0 : s.getLsbD 0 = t.getLsbD 0 := by rw [← turnB_top, ← turnB_top, h]
  rw [turnB_if, turnB_if, h0] at h
  have h1 : s >>> 1 = t >>> 1 := by
    have := congrArg (· ^^^ (if t.getLsbD 0 = true then 3988292384#32 else 0#32)) h
    simpa [BitVec.xor_assoc] using this
  apply BitVec.eq_of_getLsbD_eq
  intro i hi
  cases i with
  | zero => exact h0
  | succ i =>
    have := congrArg (fun v => v.getLsbD i) h1
    simp only [BitVec.getLsbD_ushiftRight] at this
    rw [Nat.add_comm 1 i] at this
    exact this
theorem turnsB_inj : ∀ (k : Nat) {s t : BitVec 32}, turnsB k s = turnsB k t → s = t
  | 0, _, _, h => h
  | k + 1, _, _, h => turnsB_inj k (turnB_inj h)
theorem byteB_state {s t : BitVec 32} {c : Int} (h : byteB s c = byteB t c) : s = t := by
  have h1 := turnsB_inj 8 h
  have := congrArg (· ^^^ BitVec.ofInt 32 c) h1
  simpa [BitVec.xor_assoc] using this
theorem byteB_byte {s : BitVec 32} {c d : Int} (hc : 0 ≤ c ∧ c < 256) (hd : 0 ≤ d ∧ d < 256) (h : byteB s c = byteB s d) : c = d := by
  have h1 := turnsB_inj 8 h
  have h2 : BitVec.ofInt 32 c = BitVec.ofInt 32 d := by
    have := congrArg (s ^^^ ·) h1
    simpa [← BitVec.xor_assoc] using this
  have h3 := congrArg (fun v => (v.toNat : Int)) h2
  simp only [ofInt_byte hc.1 hc.2, ofInt_byte hd.1 hd.2] at h3
  exact h3
theorem fold_state : ∀ (xs : List Int) {s t : BitVec 32}, xs.foldl byteB s = xs.foldl byteB t → s = t
  | [], _, _, h => h
  | x :: xs, _, _, h => byteB_state (fold_state xs h)
theorem crc_set {xs : List Int} {p : Nat} {v : Int} (hp : p < xs.length) (hb : Bytes xs) (hv : 0 ≤ v ∧ v < 256) (h : crcB (xs.set p v) = crcB xs) : v = xs.getD p 0 := by
  have e1 : xs = xs.take p ++ xs.getD p 0 :: xs.drop (p + 1) := by
    conv => lhs; rw [← List.take_append_drop p xs, List.drop_eq_getElem_cons hp]
    simp [List.getD, List.getElem?_eq_getElem hp]
  have e2 : xs.set p v = xs.take p ++ v :: xs.drop (p + 1) := List.set_eq_take_append_cons_drop.trans (if_pos hp)
  have h3 := hb.at_ p
  rw [e2] at h
  conv at h => rhs; rw [e1]
  unfold crcB at h
  rw [List.foldl_append, List.foldl_append, List.foldl_cons, List.foldl_cons] at h
  exact byteB_byte hv h3 (fold_state _ h)
theorem sum_set {xs : List Int} {p : Nat} {v : Int} (hp : p < xs.length) (hb : Bytes xs) (hv : 0 ≤ v ∧ v < 256) (hne : v ≠ xs.getD p 0) : sumB (xs.set p v) ≠ sumB xs := by
  intro h
  apply hne
  apply crc_set hp hb hv
  unfold sumB at h
  have h1 : (4294967295#32 ^^^ crcB (xs.set p v)) = 4294967295#32 ^^^ crcB xs := BitVec.eq_of_toNat_eq (Int.ofNat.inj h)
  have := congrArg (4294967295#32 ^^^ ·) h1
  simpa [← BitVec.xor_assoc] using this

/-! ### Frames -/
theorem hd_be4 {n : Nat} {zs : List Int} (hn : n ≤ 1048576) (h : zs.take 4 = be4 n) : hdN zs = n := by
  unfold hdN
  rw [h]
  show (((0 * 256 + (n : Int) / 16777216 % 256) * 256 + (n : Int) / 65536 % 256) * 256 + (n : Int) / 256 % 256) * 256 + (n : Int) % 256 = n
  omega
theorem frame_take {xs : List Int} : (frame xs).take 4 = be4 xs.length := rfl
theorem frame_head {xs : List Int} : (frame xs).take (xs.length + 4) = be4 xs.length ++ xs := by
  unfold frame
  rw [List.take_append_of_le_length (by rw [List.length_append]; simp [be4]; omega), List.take_of_length_le (by rw [List.length_append]; simp [be4]; omega)]
theorem frame_tail {xs : List Int} (i : Nat) : (frame xs).getD (xs.length + 4 + i) 0 = (le4 (sumB (be4 xs.length ++ xs))).getD i 0 := by
  unfold frame
  simp only [List.getD]
  rw [List.getElem?_append_right (by rw [List.length_append]; simp [be4]; omega)]
  congr 2
  rw [List.length_append]
  simp [be4]
  omega
theorem le4_sum {s : Int} (h : 0 ≤ s ∧ s < 4294967296) : (le4 s).getD 0 0 + (le4 s).getD 1 0 * 256 + (le4 s).getD 2 0 * 65536 + (le4 s).getD 3 0 * 16777216 = s := by
  show s % 256 + s / 256 % 256 * 256 + s / 65536 % 256 * 65536 + s / 16777216 % 256 * 16777216 = s
  omega
/-- A frame opens, whatever stands behind. -/
theorem opens_frame {xs ys : List Int} (hn : xs.length ≤ 1048576) : opC (frame xs ++ ys) = 0 ∧ opK (frame xs ++ ys) = xs.length + 8 ∧ opB (frame xs ++ ys) = xs := by
  have hfl := frame_length xs
  have ht : (frame xs ++ ys).take 4 = be4 xs.length := by rw [List.take_append_of_le_length (by omega)]; rfl
  have hh := hd_be4 hn ht
  have htl : tlN (frame xs ++ ys) xs.length = sumB (be4 xs.length ++ xs) := by
    have hg : ∀ i, i < 4 → (frame xs ++ ys).getD (xs.length + 4 + i) 0 = (le4 (sumB (be4 xs.length ++ xs))).getD i 0 := fun i hi => by
      rw [← frame_tail]
      simp only [List.getD]
      rw [List.getElem?_append_left (by omega)]
    unfold tlN
    have g0 := hg 0 (by omega)
    have g1 := hg 1 (by omega)
    have g2 := hg 2 (by omega)
    have g3 := hg 3 (by omega)
    rw [Nat.add_zero] at g0
    rw [g0, show xs.length + 5 = xs.length + 4 + 1 by omega, g1, show xs.length + 6 = xs.length + 4 + 2 by omega, g2, show xs.length + 7 = xs.length + 4 + 3 by omega, g3]
    exact le4_sum (sumB_bd _)
  have hc : opC (frame xs ++ ys) = 0 := by
    unfold opC
    rw [hh, Int.toNat_natCast, htl, if_neg (by rw [List.length_append]; omega), if_neg (by omega), if_neg (by rw [List.length_append]; omega), if_neg]
    intro h
    apply h
    rw [List.take_append_of_le_length (by omega), frame_head]
  refine ⟨hc, ?_, ?_⟩
  · unfold opK; rw [if_pos (.inr hc), hh]
  · unfold opB
    rw [if_pos hc, hh, Int.toNat_natCast]
    have e : (frame xs ++ ys).drop 4 = xs ++ (le4 (sumB (be4 xs.length ++ xs)) ++ ys) := by
      unfold frame
      rw [List.append_assoc, List.append_assoc]
      rfl
    rw [e, List.take_append_of_le_length (Nat.le_refl _), List.take_length]
/-- A frame cut short does not open. -/
theorem opens_cut {xs : List Int} {m : Nat} (hn : xs.length ≤ 1048576) (hm : m < xs.length + 8) : opC ((frame xs).take m) = 3 := by
  have hfl := frame_length xs
  have hl : ((frame xs).take m).length = m := by rw [List.length_take]; omega
  unfold opC
  by_cases h4 : m < 4
  · rw [if_pos (by omega)]
  · have hh : hdN ((frame xs).take m) = xs.length := hd_be4 hn (by rw [List.take_take, Nat.min_eq_left (by omega)]; rfl)
    rw [if_neg (by omega), hh, if_neg (by omega), if_pos (by omega)]
/-- A frame with one byte turned, behind its first four, does not open. -/
theorem opens_flip {xs : List Int} {p : Nat} {v : Int} (hn : xs.length ≤ 1048576) (hb : Bytes xs) (hp : 4 ≤ p) (hq : p < xs.length + 8) (hv : 0 ≤ v ∧ v < 256) (hne : v ≠ (frame xs).getD p 0) :
    opC ((frame xs).set p v) = 30 ∧ opK ((frame xs).set p v) = xs.length + 8 ∧ opB ((frame xs).set p v) = [] := by
  have hfl := frame_length xs
  have hfb := frame_bytes hb
  have hl : ((frame xs).set p v).length = xs.length + 8 := by rw [List.length_set, hfl]
  have hh : hdN ((frame xs).set p v) = xs.length := hd_be4 hn (by rw [List.take_set_of_le (by omega)]; rfl)
  have htl0 := (opens_frame (xs := xs) (ys := []) hn).1
  have hgs : ∀ i, i ≠ p → ((frame xs).set p v).getD i 0 = (frame xs).getD i 0 := fun i hi => by
    simp only [List.getD]
    rw [List.getElem?_set_ne (fun h => hi h.symm)]
  have hgp : ((frame xs).set p v).getD p 0 = v := by
    simp only [List.getD]
    rw [List.getElem?_set_self (by omega)]
    rfl
  have hft : tlN (frame xs) xs.length = sumB (be4 xs.length ++ xs) := by
    unfold tlN
    have g0 := frame_tail (xs := xs) 0
    have g1 := frame_tail (xs := xs) 1
    have g2 := frame_tail (xs := xs) 2
    have g3 := frame_tail (xs := xs) 3
    rw [Nat.add_zero] at g0
    rw [g0, show xs.length + 5 = xs.length + 4 + 1 by omega, g1, show xs.length + 6 = xs.length + 4 + 2 by omega, g2, show xs.length + 7 = xs.length + 4 + 3 by omega, g3]
    exact le4_sum (sumB_bd _)
  have hbad : tlN ((frame xs).set p v) xs.length ≠ sumB (((frame xs).set p v).take (xs.length + 4)) := by
    by_cases hlt : p < xs.length + 4
    · have e1 : tlN ((frame xs).set p v) xs.length = tlN (frame xs) xs.length := by
        unfold tlN
        rw [hgs _ (by omega), hgs _ (by omega), hgs _ (by omega), hgs _ (by omega)]
      rw [e1, hft, List.take_set, frame_head]
      refine fun h => sum_set (xs := be4 xs.length ++ xs) (p := p) (v := v) ?_ ((be4_bytes _).append hb) hv ?_ h.symm
      · rw [List.length_append]; simp [be4]; omega
      · intro he
        apply hne
        rw [he, ← frame_head]
        simp only [List.getD]
        rw [List.getElem?_take_of_lt hlt]
    · have e1 : ((frame xs).set p v).take (xs.length + 4) = be4 xs.length ++ xs := by rw [List.take_set_of_le (by omega), frame_head]
      rw [e1, ← hft]
      have hbp := hfb.at_ p
      have hd : p = xs.length + 4 ∨ p = xs.length + 5 ∨ p = xs.length + 6 ∨ p = xs.length + 7 := by omega
      unfold tlN
      rcases hd with rfl | rfl | rfl | rfl
      all_goals
        rw [hgp]
        simp (discharger := omega) only [hgs]
        omega
  have hc : opC ((frame xs).set p v) = 30 := by
    unfold opC
    rw [hh, Int.toNat_natCast, hl, if_neg (by omega), if_neg (by omega), if_neg (by omega), if_pos hbad]
  refine ⟨hc, ?_, ?_⟩
  · unfold opK; rw [if_pos (.inl hc), hh]
  · unfold opB; rw [if_neg (by omega)]
end Go.Proofs.Ytdilccihhelilaa
