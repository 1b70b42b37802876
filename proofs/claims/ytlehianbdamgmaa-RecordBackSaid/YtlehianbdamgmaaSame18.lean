/- Two notes that are the same. -/
import Derived.Test.YtlehianbdamgmaaEntL
import Derived.Lib.SmallJoins
namespace Go.Proofs.Ytlehianbdamgmaa
open Go.RowKit
set_option linter.unusedVariables false

set_option maxRecDepth 100000 in
set_option maxHeartbeats 4000000 in
theorem same18_any (what view n : Int) (A1 A2 : Option Addr) (c1 c2 : Nat) (es : List Ent) (w : World) (h1 : ReadsE w w.heap.size A1 es) (h2 : ReadsE w w.heap.size A2 es) (hl : es.length ≤ maxLen) :
    Calls Try.prog 46 #[.agg #[.int .i64 what, .int .i64 view, .int .i64 n, .slice A1 es.length c1], .agg #[.int .i64 what, .int .i64 view, .int .i64 n, .slice A2 es.length c2]] w fun e w' => e = .returned (.bool true) ∧ Below w.heap.size w w' := by
  unfold maxLen at hl
  have hb0 : Below w.heap.size w (w.alloc (.cells #[.int .i64 what, .int .i64 view, .int .i64 n, .slice A1 es.length c1] 64)) := (Below.refl _ _).alloc (Nat.le_refl _) _
  have hB := hb0.alloc hb0.size (.cells #[.int .i64 what, .int .i64 view, .int .i64 n, .slice A2 es.length c2] 64)
  have hX := (Blk.new w 64 #[.int .i64 what, .int .i64 view, .int .i64 n, .slice A1 es.length c1]).alloc (.cells #[.int .i64 what, .int .i64 view, .int .i64 n, .slice A2 es.length c2] 64)
  have hY := Blk.new (w.alloc (.cells #[.int .i64 what, .int .i64 view, .int .i64 n, .slice A1 es.length c1] 64)) 64 #[.int .i64 what, .int .i64 view, .int .i64 n, .slice A2 es.length c2]
  simp only [World.size_alloc] at hY
  have r1 := ReadsE.below h1 hB
  have r2 := ReadsE.below h2 hB
  clear hb0 h1 h2
  go_enter Try.func46, Try.ntmps46
  go_wp2_with fail
  generalize (w.alloc (.cells #[.int .i64 what, .int .i64 view, .int .i64 n, .slice A1 es.length c1] 64)).alloc (.cells #[.int .i64 what, .int .i64 view, .int .i64 n, .slice A2 es.length c2] 64) = W at *
  have d1 : W.cell? ⟨w.heap.size, 3, none⟩ = some (.slice A1 es.length c1) := hX.cell 3
  have d2 : W.cell? ⟨w.heap.size + 1, 3, none⟩ = some (.slice A2 es.length c2) := hY.cell 3
  go_loopw [5] (fun i wr => ∃ k m : Nat, k ≤ es.length ∧ i = .int .i64 k ∧ wr = W.drewN m) (fun i _ => es.length - (intOf i).toNat)
  case atStart => exact ⟨0, 0, by omega, rfl, rfl⟩
  case round =>
    obtain ⟨k, m, hk, rfl, rfl⟩ := hrel
    by_cases hlt : k < es.length
    · obtain ⟨x, hx⟩ := ent_at hlt
      obtain ⟨ad1, rfl, _, e1⟩ := r1.at_ hx
      obtain ⟨ad2, rfl, _, e2⟩ := r2.at_ hx
      replace hx := Lib.hid hx
      obtain ⟨a0, a1, a2, a3⟩ := e1
      obtain ⟨b0, b1, b2, b3⟩ := e2
      go_wp2_with fail
      go_quiet (fail)
      go_wp2_with fail
      exact ⟨⟨k + 1, _, by omega, by go_num, rfl⟩, by simp [intOf]; omega⟩
    · obtain rfl : k = es.length := by omega
      go_wp2_with fail
      go_ret
      exact ⟨rfl, hB.trans (Go.Joins.below_draws _ _ _)⟩
end Go.Proofs.Ytlehianbdamgmaa
