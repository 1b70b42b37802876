/- The walks of the reader. -/
import Derived.Test.YtdilccihhelilaaBytes
import Derived.Test.YtdilccihhelilaaVal
import Derived.Lib.Hide
import Derived.WalkKit
import Derived.Outline
import Derived.WalkSpells
import Derived.WalkLawsBesides
import Derived.Deep.QuietTactic
import Derived.BigQuiet
namespace Go.Proofs.Ytdilccihhelilaa
open Go.RowKit
set_option linter.unusedVariables false

/-- A reader over the bytes xs at the place k. -/
def Rd (w : World) (g : Nat) (xs : List Int) (k : Nat) : Prop :=
  ∃ A c, Blk w g 97 #[.slice A xs.length c, .int .i64 k, .bool true] ∧ OwnB w 0 (.slice A xs.length c) xs ∧ k ≤ xs.length

set_option maxRecDepth 100000 in
set_option maxHeartbeats 400000 in
theorem gatherU_any (A : Option Addr) (c : Nat) (xs : List Int) (w : World) (B : Nat) (hb : Bytes xs) (hr : ReadsB w B A xs) (hm : xs.length ≤ 8) :
    Calls Try.prog 46 #[.slice A xs.length c, .int .u64 0] w fun e w' => e = .returned (.int .u64 (gfold 0 xs)) ∧ w = w' := by
  have hN : (1 : Int) * 256 ^ xs.length ≤ 18446744073709551616 := by
    have := pow_mono256 hm
    have e : (256 : Int) ^ 8 = 18446744073709551616 := by decide
    rw [e] at this
    omega
  replace hN := Lib.hid hN
  go_enter Try.func46, Try.ntmps46
  go_wp2_with fail
  go_loop [9, 1] (fun i s => ∃ k : Nat, k ≤ xs.length ∧ i = .int .i64 k ∧ s = .int .u64 (gfold 0 (xs.take k))) (fun i _ => xs.length - (intOf i).toNat)
  case atStart => exact ⟨0, by omega, rfl, rfl⟩
  case round =>
    obtain ⟨k, hk, rfl, rfl⟩ := hrel
    by_cases hlt : k < xs.length
    · obtain ⟨ad, rfl, hlo, hc⟩ := hr.at_ hlt
      obtain ⟨hx0, hx1⟩ := hb.at_ k
      obtain ⟨_, hhi⟩ := gfold_step_bd hb hlt (by decide : (-1 : Int) ≤ 0) (by decide : (0 : Int) < 1) (by decide) hN.out
      have hnn := gfold_nn (xs.take k) 0 (hb.take k) (by decide)
      have hct := Lib.hid (gfold_take 0 xs k hlt)
      generalize xs.getD k 0 = x at *
      generalize gfold 0 (xs.take k) = s at *
      have hj := u64_join hnn hhi hx0 hx1
      go_wp2_with fail
      exact ⟨⟨k + 1, by omega, by go_num, by rw [hct.out]⟩, by simp [intOf]; omega⟩
    · go_wp2
      obtain rfl : k = xs.length := by omega
      go_ret
      rw [List.take_length]
      exact ⟨rfl, rfl⟩

theorem Rd.keep {w w' : World} {g k : Nat} {xs : List Int} (h : Rd w g xs k) (hb : Below w.heap.size w w') : Rd w' g xs k := by
  obtain ⟨A, c, h1, h2, h3⟩ := h
  exact ⟨A, c, h1.below hb h1.lt, h2.below hb, h3⟩
theorem Rd.drewN {w : World} {g k : Nat} {xs : List Int} (h : Rd w g xs k) (n : Nat) : Rd (w.drewN n) g xs k := h
theorem Rd.lt {w : World} {g k : Nat} {xs : List Int} (h : Rd w g xs k) : g < w.heap.size := by
  obtain ⟨A, c, h1, _⟩ := h
  exact h1.lt

set_option maxHeartbeats 400000 in
theorem rnone_no (g : Nat) (w : World) (h : w.cell? ⟨g, 2, none⟩ = some (.bool true)) :
    Calls Try.prog 47 #[.pointer (some ⟨g, 0, none⟩)] w fun e w' => e = .returned (.bool false) ∧ w = w' := by
  go_enter Try.func47, Try.ntmps47
  go_wp2_with fail
  go_ret
  exact ⟨rfl, rfl⟩
set_option maxHeartbeats 400000 in
theorem rnone_nil (w : World) :
    Calls Try.prog 47 #[.pointer none] w fun e w' => e = .returned (.bool true) ∧ w = w' := by
  go_enter Try.func47, Try.ntmps47
  go_wp2_with fail
  go_ret
  exact ⟨rfl, rfl⟩

/-- What the next bytes of a reader come to. -/
def Next (w : World) (g : Nat) (xs : List Int) (k n : Nat) (e : Ending) (w' : World) : Prop :=
  ∃ A c, e = .returned (.tuple #[.slice A n c, .int .i64 0]) ∧ n ≤ c ∧ c ≤ maxLen ∧ ReadsB w' w'.heap.size A ((xs.drop k).take n) ∧ Rd w' g xs (k + n) ∧ w.grownBy w' (some g)

set_option maxRecDepth 100000 in
set_option maxHeartbeats 400000 in
/-- 'next' where there are so many bytes. -/
theorem next_yes (g k : Nat) (n least most : Int) (xs : List Int) (w : World) (hB : Rd w g xs k) (h0 : 0 ≤ least) (h1 : least ≤ n) (h2 : n ≤ most) (h3 : n ≤ (xs.length : Int) - k) :
    Calls Try.prog 45 #[.pointer (some ⟨g, 0, none⟩), .int .i64 n, .int .i64 least, .int .i64 most] w (Next w g xs k n.toNat) := by
  obtain ⟨A, c, hB, hO, hk⟩ := hB
  have hO' := Lib.hid hO
  obtain ⟨hc, hm⟩ := hO.cap
  unfold maxLen at hm
  have c0 : w.cell? ⟨g, 0, none⟩ = some (.slice A xs.length c) := hB.cell 0
  have c1 : w.cell? ⟨g, 1, none⟩ = some (.int .i64 k) := hB.cell 1
  have c2 : w.cell? ⟨g, 2, none⟩ = some (.bool true) := hB.cell 2
  have f1 := hB.frozen 1
  replace hB := Lib.hid hB
  clear hO
  obtain ⟨n, rfl⟩ := Int.eq_ofNat_of_zero_le (show 0 ≤ n by omega)
  rw [Int.toNat_natCast]
  go_enter Try.func45, Try.ntmps45
  go_wp2_with fail
  refine (rnone_no g w c2).mono ?_
  rintro e w' ⟨rfl, rfl⟩
  go_wp2_with fail
  go_quiet (fail)
  obtain ⟨m1, rfl⟩ : ∃ m, m = nq := ⟨_, rfl⟩
  go_wp2_with fail
  have e1 : IntKind.i64.wrap ((k : Int) + n - n) = k := by rw [IntKind.wrap_i64]; omega
  have e2 : ((k : Int) + n - n).toNat = k := by omega
  have e3 : ((k : Int) + n).toNat = k + n := by omega
  have e4 : k + n - k = n := by omega
  go_quiet (fail)
  obtain ⟨m2, rfl⟩ : ∃ m, m = nq := ⟨_, rfl⟩
  clear e1 e2 e3 e4
  generalize hA2 : (if c = k then A else Option.map (fun x => x.add k) A) = A2
  replace hA2 := Lib.hid hA2
  go_wp2_with fail
  go_ret2
  have hB2 := Blk.drewN (Blk.set_ (Blk.drewN hB.out m1) 1 (.int .i64 (k + n))) m2
  have hO2 : OwnB ((((w.drewN m1).setCell ⟨g, 1, none⟩ (.int .i64 (k + n)))).drewN m2) 0 (.slice A xs.length c) xs := own_setCell (w := w.drewN m1) hO'.out (Blk.drewN hB.out m1) (by decide) _
  refine ⟨_, _, rfl, by omega, by unfold maxLen; omega, ?_, ⟨A, c, hB2, hO2, by omega⟩, only_drewN (only_setCell (only_drewN (only_refl _ _) _) (.inl rfl) _) _⟩
  have hr := (Reads.cut hO2.reads hk hc).take (k := n) (by omega)
  have hl : ((xs.drop k).take n).length = n := by rw [List.length_take, List.length_drop]; omega
  unfold ReadsB
  rw [hl]
  have hx : cellsOf .u8 ((xs.drop k).take n) = List.take (n * 1) (List.drop (k * 1) (cellsOf .u8 xs)) := by simp [cellsOf, List.map_take, List.map_drop]
  rw [hx]
  rw [← hA2.out]
  simpa only [Nat.mul_one] using hr

set_option maxRecDepth 100000 in
set_option maxHeartbeats 400000 in
/-- 'next' where there are too few bytes. -/
theorem next_short (g k : Nat) (n least most : Int) (xs : List Int) (w : World) (hB : Rd w g xs k) (h0 : 0 ≤ least) (h1 : least ≤ n) (h2 : n ≤ most) (h3 : (xs.length : Int) - k < n) :
    Calls Try.prog 45 #[.pointer (some ⟨g, 0, none⟩), .int .i64 n, .int .i64 least, .int .i64 most] w fun e w' =>
      e = .returned (.tuple #[.slice none 0 0, .int .i64 3]) ∧ ∃ m, w' = w.drewN m := by
  obtain ⟨A, c, hB, hO, hk⟩ := hB
  obtain ⟨hc, hm⟩ := hO.cap
  unfold maxLen at hm
  have c0 : w.cell? ⟨g, 0, none⟩ = some (.slice A xs.length c) := hB.cell 0
  have c1 : w.cell? ⟨g, 1, none⟩ = some (.int .i64 k) := hB.cell 1
  have c2 : w.cell? ⟨g, 2, none⟩ = some (.bool true) := hB.cell 2
  clear hB hO
  go_enter Try.func45, Try.ntmps45
  go_wp2_with fail
  refine (rnone_no g w c2).mono ?_
  rintro e w' ⟨rfl, rfl⟩
  go_wp2_with fail
  go_quiet (fail)
  go_wp2_with fail
  go_ret2
  exact ⟨rfl, _, rfl⟩

/-- What a number without a sign comes to. -/
def RUint (w : World) (g : Nat) (xs : List Int) (k n : Nat) (e : Ending) (w' : World) : Prop :=
  e = .returned (.tuple #[.int .u64 (gfold 0 ((xs.drop k).take n)), .int .i64 0]) ∧ Rd w' g xs (k + n) ∧ w.grownBy w' (some g)
set_option maxRecDepth 100000 in
set_option maxHeartbeats 400000 in
theorem ruint_yes (g k : Nat) (n : Int) (xs : List Int) (w : World) (hb : Bytes xs) (hB : Rd w g xs k) (h1 : 1 ≤ n) (h2 : n ≤ 8) (h3 : n ≤ (xs.length : Int) - k) :
    Calls Try.prog 29 #[.pointer (some ⟨g, 0, none⟩), .int .i64 n] w (RUint w g xs k n.toNat) := by
  go_enter Try.func29, Try.ntmps29
  go_wp2_with fail
  refine (next_yes g k n 1 8 xs w hB (by decide) h1 h2 h3).mono ?_
  rintro e w1 ⟨A, c, rfl, hnc, hcm, hr, hR, hg⟩
  have hl : ((xs.drop k).take n.toNat).length = n.toNat := by rw [List.length_take, List.length_drop]; omega
  have hG := gatherU_any A c _ w1 _ ((hb.drop k).take n.toNat) hr (by rw [hl]; omega)
  rw [hl] at hG
  replace hl := Lib.hid hl
  replace hG := Lib.hid hG
  generalize hv : gfold 0 ((xs.drop k).take n.toNat) = v at *
  replace hv := Lib.hid hv
  go_wp2_with fail
  refine hG.out.mono ?_
  rintro e w2 ⟨rfl, rfl⟩
  go_wp2_with fail
  go_ret2
  exact ⟨by rw [hv.out]; rfl, hR, hg⟩
set_option maxRecDepth 100000 in
set_option maxHeartbeats 400000 in
theorem ruint_short (g k : Nat) (n : Int) (xs : List Int) (w : World) (hB : Rd w g xs k) (h1 : 1 ≤ n) (h2 : n ≤ 8) (h3 : (xs.length : Int) - k < n) :
    Calls Try.prog 29 #[.pointer (some ⟨g, 0, none⟩), .int .i64 n] w fun e w' => e = .returned (.tuple #[.int .u64 0, .int .i64 3]) ∧ ∃ m, w' = w.drewN m := by
  go_enter Try.func29, Try.ntmps29
  go_wp2_with fail
  refine (next_short g k n 1 8 xs w hB (by decide) h1 h2 h3).mono ?_
  rintro e w1 ⟨rfl, m, rfl⟩
  go_wp2_with fail
  refine (gatherU_any none 0 [] _ 0 Bytes.nil (ReadsB.nil_ _ _) (by simp)).mono ?_
  rintro e w2 ⟨rfl, rfl⟩
  go_wp2_with fail
  go_ret2
  exact ⟨rfl, _, rfl⟩

/-- A byte with its sign. -/
def sbyte (c : Int) : Int := (c + 128) % 256 - 128
/-- The number with a sign that bytes make. -/
def sval : List Int → Int
  | [] => 0
  | c :: cs => gfold (sbyte c) cs

set_option maxHeartbeats 400000 in
theorem gatherI_any (A : Option Addr) (c : Nat) (xs : List Int) (x : Int) (w : World) (B : Nat) (hb : Bytes xs) (hr : ReadsB w B A xs) (hm : xs.length ≤ 7) (h1 : -128 ≤ x) (h2 : x < 128) :
    Calls Try.prog 52 #[.slice A xs.length c, .int .i64 x] w fun e w' => e = .returned (.int .i64 (gfold x xs)) ∧ w = w' := by
  have hN : (128 : Int) * 256 ^ xs.length ≤ 9223372036854775808 := by
    have := pow_mono256 hm
    have e : (256 : Int) ^ 7 = 72057594037927936 := by decide
    rw [e] at this
    omega
  replace hN := Lib.hid hN
  go_enter Try.func52, Try.ntmps52
  go_wp2_with fail
  go_loop [9, 1] (fun i s => ∃ k : Nat, k ≤ xs.length ∧ i = .int .i64 k ∧ s = .int .i64 (gfold x (xs.take k))) (fun i _ => xs.length - (intOf i).toNat)
  case atStart => exact ⟨0, by omega, rfl, rfl⟩
  case round =>
    obtain ⟨k, hk, rfl, rfl⟩ := hrel
    by_cases hlt : k < xs.length
    · obtain ⟨ad, rfl, hlo, hc⟩ := hr.at_ hlt
      obtain ⟨hx0, hx1⟩ := hb.at_ k
      obtain ⟨hlw, hhi⟩ := gfold_step_bd hb hlt h1 h2 (by decide) hN.out
      have hct := Lib.hid (gfold_take x xs k hlt)
      generalize xs.getD k 0 = y at *
      generalize gfold x (xs.take k) = s at *
      have hs1 : -9223372036854775808 ≤ s * 256 := by omega
      have hs2 : s * 256 < 9223372036854775808 := by omega
      have hj := i64_join hs1 hhi hx0 hx1
      go_wp2_with fail
      exact ⟨⟨k + 1, by omega, by go_num, by rw [hct.out]⟩, by simp [intOf]; omega⟩
    · go_wp2
      obtain rfl : k = xs.length := by omega
      go_ret
      rw [List.take_length]
      exact ⟨rfl, rfl⟩

/-- What a number with a sign comes to. -/
def RInt (w : World) (g : Nat) (xs : List Int) (k n : Nat) (e : Ending) (w' : World) : Prop :=
  e = .returned (.tuple #[.int .i64 (sval ((xs.drop k).take n)), .int .i64 0]) ∧ Rd w' g xs (k + n) ∧ w.grownBy w' (some g)
set_option maxRecDepth 100000 in
set_option maxHeartbeats 400000 in
theorem rint_yes (g k : Nat) (n : Int) (xs : List Int) (w : World) (hb : Bytes xs) (hB : Rd w g xs k) (h1 : 1 ≤ n) (h2 : n ≤ 8) (h3 : n ≤ (xs.length : Int) - k) :
    Calls Try.prog 48 #[.pointer (some ⟨g, 0, none⟩), .int .i64 n] w (RInt w g xs k n.toNat) := by
  obtain ⟨n, rfl⟩ := Int.eq_ofNat_of_zero_le (show 0 ≤ n by omega)
  rw [Int.toNat_natCast]
  go_enter Try.func48, Try.ntmps48
  go_wp2_with fail
  refine (next_yes g k n 1 8 xs w hB (by decide) h1 h2 h3).mono ?_
  rw [Int.toNat_natCast]
  rintro e w1 ⟨A, c, rfl, hnc, hcm, hr, hR, hg⟩
  have hl : ((xs.drop k).take n).length = n := by rw [List.length_take, List.length_drop]; omega
  have hbb := (hb.drop k).take n
  generalize hys : (xs.drop k).take n = ys at *
  replace hys := Lib.hid hys
  replace hl := Lib.hid hl
  unfold maxLen at hcm
  cases ys with
  | nil => have := hl.out; simp at this; omega
  | cons y ys =>
    obtain ⟨ad, rfl, _, hc0⟩ := ReadsB.at_ hr (k := 0) (by simp)
    have hc : w1.cell? ad = some (.int .u8 y) := hc0
    have hy := hbb y (List.mem_cons_self ..)
    have hn1 : (ys.length : Int) = (n : Int) - 1 := by have := hl.out; simp at this; omega
    have hn2 : ys.length = n - 1 := by have := hl.out; simp at this; omega
    have hcut := Reads.cut (show Reads w1 w1.heap.size 1 (some ad) (y :: ys).length (cellsOf .u8 (y :: ys)) from hr) (k := 1) (cap := c) (by simp) (by have := hl.out; omega)
    have hcut2 : ReadsB w1 w1.heap.size (if c = 1 then some ad else some { block := ad.block, off := ad.off + 1 }) ys := by
      have e1 : (y :: ys).length - 1 = ys.length := by simp
      have e2 : List.drop (1 * 1) (cellsOf .u8 (y :: ys)) = cellsOf .u8 ys := rfl
      rw [e1, e2] at hcut
      exact hcut
    have hsb : wrap64 (IntKind.i8.wrap y) = sbyte y := by
      unfold wrap64; simp only [IntKind.wrap, IntKind.bits, IntKind.signed]; unfold sbyte; simp; omega
    have hG := fun m => gatherI_any _ (c - 1) ys (sbyte y) (w1.drewN m) _ (fun z hz => hbb z (List.mem_cons_of_mem _ hz)) (Reads.drewN hcut2 m) (by omega) (by unfold sbyte; omega) (by unfold sbyte; omega)
    rw [hn2, ← hsb] at hG
    replace hG := Lib.hid hG
    replace hsb := Lib.hid hsb
    have h1n : 1 ≤ n := by omega
    have h0n : 0 < n := by omega
    have h1c : 1 ≤ c := by omega
    replace hn1 := Lib.hid hn1
    replace hn2 := Lib.hid hn2
    go_wp2_with fail
    go_quiet ((go_at_call 52; exact quiet_left (hG.out _)))
    generalize (if c = 1 then some ad else some { block := ad.block, off := ad.off + 1 }) = A3
    go_wp2_with fail
    go_ret2
    refine ⟨?_, Rd.drewN hR _, only_drewN hg _⟩
    rw [hys.out]
    show Ending.returned (.tuple #[.int .i64 (gfold (wrap64 (IntKind.i8.wrap y)) ys), .int .i64 0]) = _
    rw [hsb.out]
    rfl

/-- What some bytes come to. -/
def RBytes (w : World) (g : Nat) (xs : List Int) (k n : Nat) (e : Ending) (w' : World) : Prop :=
  ∃ A c, e = .returned (.tuple #[.slice A n c, .int .i64 0]) ∧ OwnB w' w.heap.size (.slice A n c) ((xs.drop k).take n) ∧ Rd w' g xs (k + n) ∧ w.grownBy w' (some g)
set_option maxRecDepth 100000 in
set_option maxHeartbeats 400000 in
theorem rbytes_yes (g k : Nat) (n : Int) (xs : List Int) (w : World) (hb : Bytes xs) (hB : Rd w g xs k) (h1 : 0 ≤ n) (h3 : n ≤ (xs.length : Int) - k) (hm : xs.length ≤ 140737488355328) :
    Calls Try.prog 42 #[.pointer (some ⟨g, 0, none⟩), .int .i64 n] w (RBytes w g xs k n.toNat) := by
  obtain ⟨n, rfl⟩ := Int.eq_ofNat_of_zero_le h1
  rw [Int.toNat_natCast]
  go_enter Try.func42, Try.ntmps42
  go_wp2_with fail
  refine (next_yes g k n 0 4611686018427387904 xs w hB (by decide) h1 (by omega) h3).mono ?_
  rw [Int.toNat_natCast]
  rintro e w1 ⟨A, c, rfl, hnc, hcm, hr, hR, hg⟩
  have hl : ((xs.drop k).take n).length = n := by rw [List.length_take, List.length_drop]; omega
  generalize hys : (xs.drop k).take n = ys at *
  replace hys := Lib.hid hys
  replace hl := Lib.hid hl
  go_wp2_with (first
    | (at_builtin
       refine wpList_appB _ rfl (.const (.slice none 0 0)) (.tmp 14) rfl w1.heap.size (.slice none 0 0) [] rfl (OwnB.nil _ _) w1.heap.size A n c ys rfl hr hl.out.symm
         ys n rfl hl.out (by have := hl.out; omega) (Nat.le_refl _) ?_
       intro A2 c2 w2 hown2 _ hb2 _))
  go_ret2
  refine ⟨A2, c2, rfl, ?_, Rd.keep hR hb2, only_then hg (only_of_below hb2 none) (fun g h => by cases h)⟩
  rw [hys.out]
  exact hown2.base_ hg.size

set_option maxRecDepth 100000 in
set_option maxHeartbeats 400000 in
theorem newReader_any (A : Option Addr) (c n : Nat) (xs : List Int) (w : World) (B : Nat) (hr : ReadsB w B A xs) (hn : n = xs.length) (hm : xs.length ≤ 140737488355328) :
    Calls Try.prog 28 #[.slice A n c] w fun e w' => ∃ g, e = .returned (.pointer (some ⟨g, 0, none⟩)) ∧ w.heap.size ≤ g ∧ Rd w' g xs 0 ∧ Below w.heap.size w w' := by
  subst hn
  go_enter Try.func28, Try.ntmps28
  go_wp2_with (first
    | (at_builtin
       refine wpList_appB _ rfl (.const (.slice none 0 0)) (.tmp 3) rfl w.heap.size (.slice none 0 0) [] rfl (OwnB.nil _ _) B A xs.length c xs rfl hr rfl
         xs xs.length rfl rfl (by omega) (Nat.le_refl _) ?_
       intro A2 c2 w2 hown2 _ hb2 _))
  go_ret
  have hs := hb2.size
  exact ⟨w2.heap.size, rfl, by omega, ⟨A2, c2, Blk.new _ _ _, OwnB.alloc (hown2.base_ (by omega)) _, by omega⟩, hb2.alloc hb2.size _⟩

set_option maxRecDepth 100000 in
set_option maxHeartbeats 400000 in
theorem left_any (g k : Nat) (xs : List Int) (w : World) (hB : Rd w g xs k) :
    Calls Try.prog 30 #[.pointer (some ⟨g, 0, none⟩)] w fun e w' => e = .returned (.int .i64 ((xs.length : Int) - k)) ∧ ∃ m, w' = w.drewN m := by
  obtain ⟨A, c, hB, hO, hk⟩ := hB
  obtain ⟨hc, hm⟩ := hO.cap
  unfold maxLen at hm
  have c0 : w.cell? ⟨g, 0, none⟩ = some (.slice A xs.length c) := hB.cell 0
  have c1 : w.cell? ⟨g, 1, none⟩ = some (.int .i64 k) := hB.cell 1
  have c2 : w.cell? ⟨g, 2, none⟩ = some (.bool true) := hB.cell 2
  clear hB hO
  go_enter Try.func30, Try.ntmps30
  go_wp2_with fail
  refine (rnone_no g w c2).mono ?_
  rintro e w' ⟨rfl, rfl⟩
  go_wp2_with fail
  go_quiet (fail)
  go_wp2_with fail
  go_ret
  exact ⟨rfl, _, rfl⟩
end Go.Proofs.Ytdilccihhelilaa
