/- What is in a frame: the reference's. -/
import Derived.Test.YtahmhkabipcfiaaOpn
namespace Go.Proofs.Ytahmhkabipcfiaa
open Go.RowKit
set_option linter.unusedVariables false
set_option linter.unusedSimpArgs false



theorem take4 {xs : List Int} (h : 4 ≤ xs.length) : xs.take 4 = [xs.getD 0 0, xs.getD 1 0, xs.getD 2 0, xs.getD 3 0] := by
  match xs, h with
  | a :: b :: c :: d :: l, _ => rfl
theorem i64_or_nat (a b : Int) (h0 : 0 ≤ a) (h1 : a < 4611686018427387904) (h2 : 0 ≤ b) (h3 : b < 4611686018427387904) : bits .or .i64 a b = ((a.toNat ||| b.toNat : Nat) : Int) := by
  show IntKind.i64.wrap ((BitVec.ofInt 64 a ||| BitVec.ofInt 64 b).toNat : Int) = _
  have e1 : (BitVec.ofInt 64 a).toNat = a.toNat := by rw [BitVec.toNat_ofInt]; omega
  have e2 : (BitVec.ofInt 64 b).toNat = b.toNat := by rw [BitVec.toNat_ofInt]; omega
  have hlt : a.toNat ||| b.toNat < 2 ^ 62 := Nat.or_lt_two_pow (by omega) (by omega)
  rw [BitVec.toNat_or, e1, e2, IntKind.wrap_i64]
  omega
theorem be_join {y0 y1 y2 y3 : Int} (h0 : 0 ≤ y0 ∧ y0 < 256) (h1 : 0 ≤ y1 ∧ y1 < 256) (h2 : 0 ≤ y2 ∧ y2 < 256) (h3 : 0 ≤ y3 ∧ y3 < 256) :
    bits BinOp.or IntKind.i64 (bits BinOp.or IntKind.i64 (bits BinOp.or IntKind.i64 (wrap64 (wrap64 y0 * 16777216)) (wrap64 (wrap64 y1 * 65536))) (wrap64 (wrap64 y2 * 256))) (wrap64 y3) = y0 * 16777216 + y1 * 65536 + y2 * 256 + y3 := by
  rw [IntWalk.wrap64_in y0 (by omega), IntWalk.wrap64_in y1 (by omega), IntWalk.wrap64_in y2 (by omega), IntWalk.wrap64_in y3 (by omega), IntWalk.wrap64_in (y0 * 16777216) (by omega), IntWalk.wrap64_in (y1 * 65536) (by omega), IntWalk.wrap64_in (y2 * 256) (by omega)]
  rw [i64_or_nat (y0 * 16777216) (y1 * 65536) (by omega) (by omega) (by omega) (by omega), nat_join 24 (y0 * 16777216).toNat _ (by omega) (by omega)]
  rw [i64_or_nat _ (y2 * 256) (by omega) (by omega) (by omega) (by omega), nat_join 16 _ (y2 * 256).toNat (by omega) (by omega)]
  rw [i64_or_nat _ y3 (by omega) (by omega) (by omega) (by omega), nat_join 8 _ y3.toNat (by omega) (by omega)]
  omega
set_option maxRecDepth 100000 in
set_option maxHeartbeats 2000000 in
theorem ropen_tiny (A : Option Addr) (c0 : Nat) (xs : List Int) (w : World) (hr : ReadsB w w.heap.size A xs) (hb : Bytes xs) (hc : xs.length ≤ c0) (hm : c0 ≤ maxLen) (hs : xs.length < 4) : Calls Try.prog 26 #[.slice A xs.length c0] w (FPost w [] 0 (.int .i64 3)) := by
  have b0 : decide ((xs.length : Int) < 4) = true := decide_eq_true (by omega)
  go_enter Try.func26, Try.ntmps26
  go_wp2_with fail
  refine bodyPost_ret (v := .tuple #[.slice none 0 0, .int .i64 0, .int .i64 3]) (by simp [results, Try.results26, go_sem]) rfl ?_
  exact ⟨none, 0, rfl, OwnB.nil _ _, Below.refl _ _⟩
set_option maxRecDepth 100000 in
set_option maxHeartbeats 2000000 in
theorem ropen_long (A : Option Addr) (c0 : Nat) (xs : List Int) (w : World) (hr : ReadsB w w.heap.size A xs) (hb : Bytes xs) (hc : xs.length ≤ c0) (hm : c0 ≤ maxLen) (hs : 4 ≤ xs.length) (hn : 1048576 < hdN xs) : Calls Try.prog 26 #[.slice A xs.length c0] w (FPost w [] 0 (.int .i64 2)) := by
  obtain ⟨hN0, hN1⟩ := hdN_bd hb
  obtain ⟨ad, rfl, had, _⟩ := hr.at_ (k := 0) (by omega)
  have hce : ∀ i, i < xs.length → w.cell? (ad.add i) = some (.int .u8 (xs.getD i 0)) := fun i hi => by
    obtain ⟨ad', h1, _, h3⟩ := hr.at_ (k := i) hi
    injection h1 with h1
    subst h1
    exact h3
  have hhd : hdN xs = xs.getD 0 0 * 16777216 + xs.getD 1 0 * 65536 + xs.getD 2 0 * 256 + xs.getD 3 0 := by
    unfold hdN
    rw [take4 hs]
    show (((0 * 256 + _) * 256 + _) * 256 + _) * 256 + _ = _
    omega
  have t0 := hb.at_ 0
  have t1 := hb.at_ 1
  have t2 := hb.at_ 2
  have t3 := hb.at_ 3
  have x0 : w.cell? ad = some (.int .u8 (xs.getD 0 0)) := hce 0 (by omega)
  have x1 : w.cell? { block := ad.block, off := ad.off + 1 } = some (.int .u8 (xs.getD 1 0)) := hce 1 (by omega)
  have x2 : w.cell? { block := ad.block, off := ad.off + 2 } = some (.int .u8 (xs.getD 2 0)) := hce 2 (by omega)
  have x3 : w.cell? { block := ad.block, off := ad.off + 3 } = some (.int .u8 (xs.getD 3 0)) := hce 3 (by omega)
  generalize xs.getD 0 0 = y0 at x0 t0 hhd
  generalize xs.getD 1 0 = y1 at x1 t1 hhd
  generalize xs.getD 2 0 = y2 at x2 t2 hhd
  generalize xs.getD 3 0 = y3 at x3 t3 hhd
  have hbe := be_join t0 t1 t2 t3
  rw [← hhd] at hbe
  have hl0 : (0 : Int) < xs.length := by omega
  have hl1 : (1 : Int) < xs.length := by omega
  have hl2 : (2 : Int) < xs.length := by omega
  have hl3 : (3 : Int) < xs.length := by omega
  have b0 : decide ((xs.length : Int) < 4) = false := decide_eq_false (by omega)
  obtain ⟨N, hN⟩ : ∃ N, N = hdN xs := ⟨_, rfl⟩
  rw [← hN] at hN0 hN1 hbe
  clear t0 t1 t2 t3 hhd
  rw [← hN] at hn
  have b1 : decide (1048576 < N) = true := decide_eq_true hn
  clear hN
  go_enter Try.func26, Try.ntmps26
  go_wp2_with fail
  go_quiet (fail)
  go_wp2_with fail
  refine bodyPost_ret (v := .tuple #[.slice none 0 0, .int .i64 0, .int .i64 2]) (by simp [results, Try.results26, go_sem]) rfl ?_
  exact ⟨none, 0, rfl, OwnB.nil _ _, Go.Joins.below_draws _ _ _⟩
set_option maxRecDepth 100000 in
set_option maxHeartbeats 2000000 in
theorem ropen_short (A : Option Addr) (c0 : Nat) (xs : List Int) (w : World) (hr : ReadsB w w.heap.size A xs) (hb : Bytes xs) (hc : xs.length ≤ c0) (hm : c0 ≤ maxLen) (hs : 4 ≤ xs.length) (hn : hdN xs ≤ 1048576) (hl : (xs.length : Int) < hdN xs + 8) : Calls Try.prog 26 #[.slice A xs.length c0] w (FPost w [] 0 (.int .i64 3)) := by
  obtain ⟨hN0, hN1⟩ := hdN_bd hb
  obtain ⟨ad, rfl, had, _⟩ := hr.at_ (k := 0) (by omega)
  have hce : ∀ i, i < xs.length → w.cell? (ad.add i) = some (.int .u8 (xs.getD i 0)) := fun i hi => by
    obtain ⟨ad', h1, _, h3⟩ := hr.at_ (k := i) hi
    injection h1 with h1
    subst h1
    exact h3
  have hhd : hdN xs = xs.getD 0 0 * 16777216 + xs.getD 1 0 * 65536 + xs.getD 2 0 * 256 + xs.getD 3 0 := by
    unfold hdN
    rw [take4 hs]
    show (((0 * 256 + _) * 256 + _) * 256 + _) * 256 + _ = _
    omega
  have t0 := hb.at_ 0
  have t1 := hb.at_ 1
  have t2 := hb.at_ 2
  have t3 := hb.at_ 3
  have x0 : w.cell? ad = some (.int .u8 (xs.getD 0 0)) := hce 0 (by omega)
  have x1 : w.cell? { block := ad.block, off := ad.off + 1 } = some (.int .u8 (xs.getD 1 0)) := hce 1 (by omega)
  have x2 : w.cell? { block := ad.block, off := ad.off + 2 } = some (.int .u8 (xs.getD 2 0)) := hce 2 (by omega)
  have x3 : w.cell? { block := ad.block, off := ad.off + 3 } = some (.int .u8 (xs.getD 3 0)) := hce 3 (by omega)
  generalize xs.getD 0 0 = y0 at x0 t0 hhd
  generalize xs.getD 1 0 = y1 at x1 t1 hhd
  generalize xs.getD 2 0 = y2 at x2 t2 hhd
  generalize xs.getD 3 0 = y3 at x3 t3 hhd
  have hbe := be_join t0 t1 t2 t3
  rw [← hhd] at hbe
  have hl0 : (0 : Int) < xs.length := by omega
  have hl1 : (1 : Int) < xs.length := by omega
  have hl2 : (2 : Int) < xs.length := by omega
  have hl3 : (3 : Int) < xs.length := by omega
  have b0 : decide ((xs.length : Int) < 4) = false := decide_eq_false (by omega)
  obtain ⟨N, hN⟩ : ∃ N, N = hdN xs := ⟨_, rfl⟩
  rw [← hN] at hN0 hN1 hbe
  clear t0 t1 t2 t3 hhd
  rw [← hN] at hn hl
  have b1 : decide (1048576 < N) = false := decide_eq_false (by omega)
  have b2 : decide ((xs.length : Int) < N + 8) = true := decide_eq_true (by omega)
  have q8 : wrap64 (N + 8) = N + 8 := IntWalk.wrap64_in _ (by omega)
  clear hN
  go_enter Try.func26, Try.ntmps26
  go_wp2_with fail
  go_quiet (fail)
  go_wp2_with fail
  refine bodyPost_ret (v := .tuple #[.slice none 0 0, .int .i64 0, .int .i64 3]) (by simp [results, Try.results26, go_sem]) rfl ?_
  exact ⟨none, 0, rfl, OwnB.nil _ _, Go.Joins.below_draws _ _ _⟩
set_option maxRecDepth 100000 in
set_option maxHeartbeats 2000000 in
theorem ropen_bad (A : Option Addr) (c0 : Nat) (xs : List Int) (w : World) (hr : ReadsB w w.heap.size A xs) (hb : Bytes xs) (hc : xs.length ≤ c0) (hm : c0 ≤ maxLen) (hs : 4 ≤ xs.length) (hn : hdN xs ≤ 1048576) (hl : hdN xs + 8 ≤ (xs.length : Int)) (ht : tlN xs (hdN xs).toNat ≠ sumB (xs.take ((hdN xs).toNat + 4))) :
    Calls Try.prog 26 #[.slice A xs.length c0] w (FPost w [] (hdN xs + 8) (.int .i64 30)) := by
  obtain ⟨hN0, hN1⟩ := hdN_bd hb
  obtain ⟨ad, rfl, had, _⟩ := hr.at_ (k := 0) (by omega)
  have hce : ∀ i, i < xs.length → w.cell? (ad.add i) = some (.int .u8 (xs.getD i 0)) := fun i hi => by
    obtain ⟨ad', h1, _, h3⟩ := hr.at_ (k := i) hi
    injection h1 with h1
    subst h1
    exact h3
  have hhd : hdN xs = xs.getD 0 0 * 16777216 + xs.getD 1 0 * 65536 + xs.getD 2 0 * 256 + xs.getD 3 0 := by
    unfold hdN
    rw [take4 hs]
    show (((0 * 256 + _) * 256 + _) * 256 + _) * 256 + _ = _
    omega
  have t0 := hb.at_ 0
  have t1 := hb.at_ 1
  have t2 := hb.at_ 2
  have t3 := hb.at_ 3
  have x0 : w.cell? ad = some (.int .u8 (xs.getD 0 0)) := hce 0 (by omega)
  have x1 : w.cell? { block := ad.block, off := ad.off + 1 } = some (.int .u8 (xs.getD 1 0)) := hce 1 (by omega)
  have x2 : w.cell? { block := ad.block, off := ad.off + 2 } = some (.int .u8 (xs.getD 2 0)) := hce 2 (by omega)
  have x3 : w.cell? { block := ad.block, off := ad.off + 3 } = some (.int .u8 (xs.getD 3 0)) := hce 3 (by omega)
  generalize xs.getD 0 0 = y0 at x0 t0 hhd
  generalize xs.getD 1 0 = y1 at x1 t1 hhd
  generalize xs.getD 2 0 = y2 at x2 t2 hhd
  generalize xs.getD 3 0 = y3 at x3 t3 hhd
  have hbe := be_join t0 t1 t2 t3
  rw [← hhd] at hbe
  have hl0 : (0 : Int) < xs.length := by omega
  have hl1 : (1 : Int) < xs.length := by omega
  have hl2 : (2 : Int) < xs.length := by omega
  have hl3 : (3 : Int) < xs.length := by omega
  have b0 : decide ((xs.length : Int) < 4) = false := decide_eq_false (by omega)
  obtain ⟨N, hN⟩ : ∃ N, N = hdN xs := ⟨_, rfl⟩
  rw [← hN] at hN0 hN1 hbe
  clear t0 t1 t2 t3 hhd
  rw [← hN] at hn hl ht
  have b1 : decide (1048576 < N) = false := decide_eq_false (by omega)
  have b2 : decide ((xs.length : Int) < N + 8) = false := decide_eq_false (by omega)
  obtain ⟨e, he⟩ : ∃ e : Nat, (N + 4).toNat = e := ⟨_, rfl⟩
  obtain ⟨e5, he5⟩ : ∃ e : Nat, (N + 5).toNat = e := ⟨_, rfl⟩
  obtain ⟨e6, he6⟩ : ∃ e : Nat, (N + 6).toNat = e := ⟨_, rfl⟩
  obtain ⟨e7, he7⟩ : ∃ e : Nat, (N + 7).toNat = e := ⟨_, rfl⟩
  have hee : e + 4 ≤ xs.length := by omega
  have heN : N.toNat + 4 = e := by omega
  have hlt : (xs.take e).length = e := by rw [List.length_take]; omega
  have htl : tlN xs N.toNat = xs.getD e 0 + xs.getD e5 0 * 256 + xs.getD e6 0 * 65536 + xs.getD e7 0 * 16777216 := by
    unfold tlN
    rw [show N.toNat + 4 = e by omega, show N.toNat + 5 = e5 by omega, show N.toNat + 6 = e6 by omega, show N.toNat + 7 = e7 by omega]
  have z0 := hce e (by omega)
  have z1 := hce e5 (by omega)
  have z2 := hce e6 (by omega)
  have z3 := hce e7 (by omega)
  have t0 := hb.at_ e
  have t1 := hb.at_ e5
  have t2 := hb.at_ e6
  have t3 := hb.at_ e7
  generalize xs.getD e 0 = u0 at z0 t0 htl
  generalize xs.getD e5 0 = u1 at z1 t1 htl
  generalize xs.getD e6 0 = u2 at z2 t2 htl
  generalize xs.getD e7 0 = u3 at z3 t3 htl
  have hle := le_join t0 t1 t2 t3
  rw [← htl] at hle
  obtain ⟨TL, hTL⟩ : ∃ z, z = tlN xs N.toNat := ⟨_, rfl⟩
  rw [← hTL] at hle ht
  obtain ⟨a4, ha4⟩ : ∃ a, ad.add e = a := ⟨_, rfl⟩
  obtain ⟨a5, ha5⟩ : ∃ a, ad.add e5 = a := ⟨_, rfl⟩
  obtain ⟨a6, ha6⟩ : ∃ a, ad.add e6 = a := ⟨_, rfl⟩
  obtain ⟨a7, ha7⟩ : ∃ a, ad.add e7 = a := ⟨_, rfl⟩
  rw [ha4] at z0
  rw [ha5] at z1
  rw [ha6] at z2
  rw [ha7] at z3
  have l4 : N + 4 < xs.length := by omega
  have l5 : N + 5 < xs.length := by omega
  have l6 : N + 6 < xs.length := by omega
  have l7 : N + 7 < xs.length := by omega
  have p4 : 0 ≤ N + 4 := by omega
  have p5 : 0 ≤ N + 5 := by omega
  have p6 : 0 ≤ N + 6 := by omega
  have p7 : 0 ≤ N + 7 := by omega
  have hrt : ReadsB w w.heap.size (some ad) (xs.take e) := by
    have h := sub_reads (k := 0) (n := e) (c := c0) hr (by omega) hc
    rw [List.drop_zero] at h
    rw [if_neg (by omega)] at h
    exact h
  have gsum := fun m => Lib.hid (rsum_any (some ad) c0 (xs.take e) (w.drewN m) (hb.take e) (Reads.drewN hrt m) (by unfold maxLen at hm ⊢; omega))
  rw [hlt] at gsum
  rw [heN] at ht
  generalize sumB (xs.take e) = S at *
  clear t0 t1 t2 t3 htl hTL hce
  have q8 : wrap64 (N + 8) = N + 8 := IntWalk.wrap64_in _ (by omega)
  have q4 : wrap64 (N + 4) = N + 4 := IntWalk.wrap64_in _ (by omega)
  have q5 : wrap64 (N + 5) = N + 5 := IntWalk.wrap64_in _ (by omega)
  have q6 : wrap64 (N + 6) = N + 6 := IntWalk.wrap64_in _ (by omega)
  have q7 : wrap64 (N + 7) = N + 7 := IntWalk.wrap64_in _ (by omega)
  have b5 : (TL != S) = true := by simpa using ht
  rw [← hN]
  clear hN
  go_enter Try.func26, Try.ntmps26
  go_wp2_with fail
  go_quiet (fail)
  obtain ⟨m1, rfl⟩ : ∃ m, m = nq := ⟨_, rfl⟩
  go_wp2_with fail
  go_quiet (fail)
  go_wp2_with fail
  refine (gsum _).out.mono ?_
  rintro _ v ⟨rfl, hv⟩
  have hB : Below w.heap.size w v := by first | exact (Go.Joins.below_draws _ _ _).trans hv | (rw [← hv]; exact Go.Joins.below_draws _ _ _)
  go_wp2_with fail
  refine bodyPost_ret (v := .tuple #[.slice none 0 0, .int .i64 (N + 8), .int .i64 30]) (by simp [results, Try.results26, go_sem]) rfl ?_
  exact ⟨none, 0, rfl, OwnB.nil _ _, hB⟩
set_option maxRecDepth 100000 in
set_option maxHeartbeats 2000000 in
theorem ropen_ok (A : Option Addr) (c0 : Nat) (xs : List Int) (w : World) (hr : ReadsB w w.heap.size A xs) (hb : Bytes xs) (hc : xs.length ≤ c0) (hm : c0 ≤ maxLen) (hs : 4 ≤ xs.length) (hn : hdN xs ≤ 1048576) (hl : hdN xs + 8 ≤ (xs.length : Int)) (ht : tlN xs (hdN xs).toNat = sumB (xs.take ((hdN xs).toNat + 4))) :
    Calls Try.prog 26 #[.slice A xs.length c0] w (FPost w ((xs.drop 4).take (hdN xs).toNat) (hdN xs + 8) (.int .i64 0)) := by
  obtain ⟨hN0, hN1⟩ := hdN_bd hb
  obtain ⟨ad, rfl, had, _⟩ := hr.at_ (k := 0) (by omega)
  have hce : ∀ i, i < xs.length → w.cell? (ad.add i) = some (.int .u8 (xs.getD i 0)) := fun i hi => by
    obtain ⟨ad', h1, _, h3⟩ := hr.at_ (k := i) hi
    injection h1 with h1
    subst h1
    exact h3
  have hhd : hdN xs = xs.getD 0 0 * 16777216 + xs.getD 1 0 * 65536 + xs.getD 2 0 * 256 + xs.getD 3 0 := by
    unfold hdN
    rw [take4 hs]
    show (((0 * 256 + _) * 256 + _) * 256 + _) * 256 + _ = _
    omega
  have t0 := hb.at_ 0
  have t1 := hb.at_ 1
  have t2 := hb.at_ 2
  have t3 := hb.at_ 3
  have x0 : w.cell? ad = some (.int .u8 (xs.getD 0 0)) := hce 0 (by omega)
  have x1 : w.cell? { block := ad.block, off := ad.off + 1 } = some (.int .u8 (xs.getD 1 0)) := hce 1 (by omega)
  have x2 : w.cell? { block := ad.block, off := ad.off + 2 } = some (.int .u8 (xs.getD 2 0)) := hce 2 (by omega)
  have x3 : w.cell? { block := ad.block, off := ad.off + 3 } = some (.int .u8 (xs.getD 3 0)) := hce 3 (by omega)
  generalize xs.getD 0 0 = y0 at x0 t0 hhd
  generalize xs.getD 1 0 = y1 at x1 t1 hhd
  generalize xs.getD 2 0 = y2 at x2 t2 hhd
  generalize xs.getD 3 0 = y3 at x3 t3 hhd
  have hbe := be_join t0 t1 t2 t3
  rw [← hhd] at hbe
  have hl0 : (0 : Int) < xs.length := by omega
  have hl1 : (1 : Int) < xs.length := by omega
  have hl2 : (2 : Int) < xs.length := by omega
  have hl3 : (3 : Int) < xs.length := by omega
  have b0 : decide ((xs.length : Int) < 4) = false := decide_eq_false (by omega)
  obtain ⟨N, hN⟩ : ∃ N, N = hdN xs := ⟨_, rfl⟩
  rw [← hN] at hN0 hN1 hbe
  clear t0 t1 t2 t3 hhd
  rw [← hN] at hn hl ht
  have b1 : decide (1048576 < N) = false := decide_eq_false (by omega)
  have b2 : decide ((xs.length : Int) < N + 8) = false := decide_eq_false (by omega)
  obtain ⟨e, he⟩ : ∃ e : Nat, (N + 4).toNat = e := ⟨_, rfl⟩
  obtain ⟨e5, he5⟩ : ∃ e : Nat, (N + 5).toNat = e := ⟨_, rfl⟩
  obtain ⟨e6, he6⟩ : ∃ e : Nat, (N + 6).toNat = e := ⟨_, rfl⟩
  obtain ⟨e7, he7⟩ : ∃ e : Nat, (N + 7).toNat = e := ⟨_, rfl⟩
  have hee : e + 4 ≤ xs.length := by omega
  have heN : N.toNat + 4 = e := by omega
  have hlt : (xs.take e).length = e := by rw [List.length_take]; omega
  have htl : tlN xs N.toNat = xs.getD e 0 + xs.getD e5 0 * 256 + xs.getD e6 0 * 65536 + xs.getD e7 0 * 16777216 := by
    unfold tlN
    rw [show N.toNat + 4 = e by omega, show N.toNat + 5 = e5 by omega, show N.toNat + 6 = e6 by omega, show N.toNat + 7 = e7 by omega]
  have z0 := hce e (by omega)
  have z1 := hce e5 (by omega)
  have z2 := hce e6 (by omega)
  have z3 := hce e7 (by omega)
  have t0 := hb.at_ e
  have t1 := hb.at_ e5
  have t2 := hb.at_ e6
  have t3 := hb.at_ e7
  generalize xs.getD e 0 = u0 at z0 t0 htl
  generalize xs.getD e5 0 = u1 at z1 t1 htl
  generalize xs.getD e6 0 = u2 at z2 t2 htl
  generalize xs.getD e7 0 = u3 at z3 t3 htl
  have hle := le_join t0 t1 t2 t3
  rw [← htl] at hle
  obtain ⟨TL, hTL⟩ : ∃ z, z = tlN xs N.toNat := ⟨_, rfl⟩
  rw [← hTL] at hle ht
  obtain ⟨a4, ha4⟩ : ∃ a, ad.add e = a := ⟨_, rfl⟩
  obtain ⟨a5, ha5⟩ : ∃ a, ad.add e5 = a := ⟨_, rfl⟩
  obtain ⟨a6, ha6⟩ : ∃ a, ad.add e6 = a := ⟨_, rfl⟩
  obtain ⟨a7, ha7⟩ : ∃ a, ad.add e7 = a := ⟨_, rfl⟩
  rw [ha4] at z0
  rw [ha5] at z1
  rw [ha6] at z2
  rw [ha7] at z3
  have l4 : N + 4 < xs.length := by omega
  have l5 : N + 5 < xs.length := by omega
  have l6 : N + 6 < xs.length := by omega
  have l7 : N + 7 < xs.length := by omega
  have p4 : 0 ≤ N + 4 := by omega
  have p5 : 0 ≤ N + 5 := by omega
  have p6 : 0 ≤ N + 6 := by omega
  have p7 : 0 ≤ N + 7 := by omega
  have hrt : ReadsB w w.heap.size (some ad) (xs.take e) := by
    have h := sub_reads (k := 0) (n := e) (c := c0) hr (by omega) hc
    rw [List.drop_zero] at h
    rw [if_neg (by omega)] at h
    exact h
  have gsum := fun m => Lib.hid (rsum_any (some ad) c0 (xs.take e) (w.drewN m) (hb.take e) (Reads.drewN hrt m) (by unfold maxLen at hm ⊢; omega))
  rw [hlt] at gsum
  rw [heN] at ht
  generalize sumB (xs.take e) = S at *
  clear t0 t1 t2 t3 htl hTL hce
  have q8 : wrap64 (N + 8) = N + 8 := IntWalk.wrap64_in _ (by omega)
  have q4 : wrap64 (N + 4) = N + 4 := IntWalk.wrap64_in _ (by omega)
  have q5 : wrap64 (N + 5) = N + 5 := IntWalk.wrap64_in _ (by omega)
  have q6 : wrap64 (N + 6) = N + 6 := IntWalk.wrap64_in _ (by omega)
  have q7 : wrap64 (N + 7) = N + 7 := IntWalk.wrap64_in _ (by omega)
  have b5 : (TL != S) = false := by simpa using ht
  rw [← hN, show N.toNat = e - 4 by omega]
  clear hN
  have hne4 : ¬ c0 = 4 := by omega
  have hle4 : 4 ≤ e := by omega
  have hlec : e ≤ c0 := by omega
  have hrb : ReadsB w w.heap.size (some (ad.add 4)) ((xs.drop 4).take (e - 4)) := by
    have h := sub_reads (k := 4) (n := e - 4) (c := c0) hr (by omega) hc
    rw [if_neg hne4] at h
    exact h
  have hrl : ((xs.drop 4).take (e - 4)).length = e - 4 := by rw [List.length_take, List.length_drop]; omega
  have hem : e ≤ 2000000 := by omega
  generalize (xs.drop 4).take (e - 4) = bs at *
  go_enter Try.func26, Try.ntmps26
  go_wp2_with fail
  go_quiet (fail)
  obtain ⟨m1, rfl⟩ : ∃ m, m = nq := ⟨_, rfl⟩
  go_wp2_with fail
  go_quiet (fail)
  go_wp2_with fail
  refine (gsum _).out.mono ?_
  rintro _ v ⟨rfl, hv⟩
  have hB : Below w.heap.size w v := by first | exact (Go.Joins.below_draws _ _ _).trans hv | (rw [← hv]; exact Go.Joins.below_draws _ _ _)
  go_wp2_with (first
    | (at_builtin
       refine wpList_appB _ rfl (.tmp 78) (.tmp 82) rfl v.heap.size (.slice (some ⟨v.heap.size, 0, none⟩) 0 0) [] rfl (OwnB.lit rfl (Nat.le_refl _) (by unfold maxLen; simp)) w.heap.size (some (ad.add 4)) (e - 4) (c0 - 4) bs rfl ((Reads.below hrb hB).alloc hB.size _) hrl.symm
         bs (e - 4) rfl hrl (by omega) (by simp) ?_
       intro A6 c6 w6 hown6 _ hb6 _))
  refine bodyPost_ret (v := .tuple #[.slice A6 (e - 4) c6, .int .i64 (N + 8), .int .i64 0]) (by simp [results, Try.results26, go_sem]) rfl ?_
  refine ⟨A6, c6, by rw [hrl], ?_, (hB.alloc hB.size _).trans (hb6.mono hB.size)⟩
  rw [hrl]
  exact hown6.base_ hB.size
theorem ropn_any (A : Option Addr) (c0 : Nat) (xs : List Int) (w : World) (hr : ReadsB w w.heap.size A xs) (hb : Bytes xs) (hc : xs.length ≤ c0) (hm : c0 ≤ maxLen) : Calls Try.prog 26 #[.slice A xs.length c0] w (FPost w (opB xs) (opK xs) (.int .i64 (opC xs))) := by
  by_cases h1 : xs.length < 4
  · have e : opC xs = 3 := by unfold opC; rw [if_pos h1]
    have ek : opK xs = 0 := by unfold opK; rw [e, if_neg (by omega)]
    have eb : opB xs = [] := by unfold opB; rw [e, if_neg (by omega)]
    rw [e, ek, eb]
    exact ropen_tiny A c0 xs w hr hb hc hm h1
  · by_cases h2 : 1048576 < hdN xs
    · have e : opC xs = 2 := by unfold opC; rw [if_neg h1, if_pos h2]
      have ek : opK xs = 0 := by unfold opK; rw [e, if_neg (by omega)]
      have eb : opB xs = [] := by unfold opB; rw [e, if_neg (by omega)]
      rw [e, ek, eb]
      exact ropen_long A c0 xs w hr hb hc hm (by omega) h2
    · by_cases h3 : (xs.length : Int) < hdN xs + 8
      · have e : opC xs = 3 := by unfold opC; rw [if_neg h1, if_neg h2, if_pos h3]
        have ek : opK xs = 0 := by unfold opK; rw [e, if_neg (by omega)]
        have eb : opB xs = [] := by unfold opB; rw [e, if_neg (by omega)]
        rw [e, ek, eb]
        exact ropen_short A c0 xs w hr hb hc hm (by omega) (by omega) h3
      · by_cases h4 : tlN xs (hdN xs).toNat = sumB (xs.take ((hdN xs).toNat + 4))
        · have e : opC xs = 0 := by unfold opC; rw [if_neg h1, if_neg h2, if_neg h3, if_neg (fun k => k h4)]
          have ek : opK xs = hdN xs + 8 := by unfold opK; rw [e, if_pos (.inr rfl)]
          have eb : opB xs = (xs.drop 4).take (hdN xs).toNat := by unfold opB; rw [e, if_pos rfl]
          rw [e, ek, eb]
          exact ropen_ok A c0 xs w hr hb hc hm (by omega) (by omega) (by omega) h4
        · have e : opC xs = 30 := by unfold opC; rw [if_neg h1, if_neg h2, if_neg h3, if_pos h4]
          have ek : opK xs = hdN xs + 8 := by unfold opK; rw [e, if_pos (.inl rfl)]
          have eb : opB xs = [] := by unfold opB; rw [e, if_neg (by omega)]
          rw [e, ek, eb]
          exact ropen_bad A c0 xs w hr hb hc hm (by omega) (by omega) (by omega) h4
end Go.Proofs.Ytahmhkabipcfiaa
