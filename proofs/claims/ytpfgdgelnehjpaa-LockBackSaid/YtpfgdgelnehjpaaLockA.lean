/- Law 15: ints, awake. -/
import Derived.Test.YtpfgdgelnehjpaaLockW
namespace Go.Proofs.Ytpfgdgelnehjpaa
open Go.RowKit
set_option linter.unusedVariables false
set_option linter.unusedSimpArgs false

theorem ReadsZ.at_ {w : World} {B : Nat} {A : Option Addr} {xs : List Int} (h : ReadsZ w B A xs) {k : Nat} (hk : k < xs.length) :
    ∃ ad, A = some ad ∧ ad.block < B ∧ w.cell? (ad.add k) = some (.int .i64 (xs.getD k 0)) := by
  obtain ⟨ad, u, hA, hB, hx, hc⟩ := Reads.at_ h hk
  exact ⟨ad, hA, hB, by rw [hc, cellsOf_get hx]⟩
theorem freeM_mon0 (t : Int) : freeM mon0 t = true := rfl
set_option maxRecDepth 100000 in
set_option maxHeartbeats 4000000 in
theorem ints_any (A1 A2 : Option Addr) (c1 c2 : Nat) (l : List Int) (w : World) (B1 B2 : Nat) (h1 : ReadsZ w B1 A1 l) (h2 : ReadsZ w B2 A2 l) (hl : l.length ≤ maxLen) :
    Calls Try.prog 20 #[.slice A1 l.length c1, .slice A2 l.length c2] w fun e w' => e = .returned (.bool true) ∧ ∃ n, w' = w.drewN n := by
  unfold maxLen at hl
  go_enter Try.func20, Try.ntmps20
  go_wp2_with fail
  go_loopw [5] (fun i wr => ∃ k : Nat, k ≤ l.length ∧ i = .int .i64 k ∧ ∃ n, wr = w.drewN n) (fun i _ => l.length - (intOf i).toNat)
  case atStart => exact ⟨0, by omega, rfl, 0, rfl⟩
  case round =>
    obtain ⟨k, hk, rfl, n, rfl⟩ := hrel
    by_cases hlt : k < l.length
    · obtain ⟨ad1, rfl, _, e1⟩ := h1.at_ hlt
      obtain ⟨ad2, rfl, _, e2⟩ := h2.at_ hlt
      generalize l.getD k 0 = x at *
      have e1' : (w.drewN n).cell? (ad1.add k) = some (.int .i64 x) := e1
      have e2' : (w.drewN n).cell? (ad2.add k) = some (.int .i64 x) := e2
      go_wp2_with fail
      try go_quiet (fail)
      go_wp2_with fail
      exact ⟨⟨k + 1, by omega, by go_num, _, rfl⟩, by simp [intOf]; omega⟩
    · obtain rfl : k = l.length := by omega
      go_wp2_with fail
      go_ret
      exact ⟨rfl, _, rfl⟩
set_option maxRecDepth 100000 in
set_option maxHeartbeats 4000000 in
theorem awake15 (w : World) : Calls Try.prog 23 #[] w fun e w' => e = .returned (.bool true) ∧ Below w.heap.size w w' := by
  have hnew := Lib.hid (new_any w)
  go_enter Try.func23, Try.ntmps23
  go_wp2_with fail
  refine hnew.out.mono ?_
  rintro _ w1 ⟨rfl, hL, hb1⟩
  have hent := enter_any (w.heap.size + 1) w.heap.size 0 (fun _ => mon0) 1 2 (by unfold fit64; omega) w1 hL (by omega)
  rw [freeM_mon0] at hent
  replace hent := Lib.hid hent
  go_wp2_with fail
  refine hent.out.mono ?_
  rintro _ w2 ⟨rfl, hL2, hg2⟩
  go_wp2_with fail
  go_ret
  exact ⟨rfl, hb1.grown hg2 hb1.size (fun k e => by injection e with e; omega)⟩
end Go.Proofs.Ytpfgdgelnehjpaa
