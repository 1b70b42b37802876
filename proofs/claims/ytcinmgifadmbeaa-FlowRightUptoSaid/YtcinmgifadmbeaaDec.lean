/- The instruction at a place of bytes: the program's. -/
import Derived.Test.YtcinmgifadmbeaaDecT
namespace Go.Proofs.Ytcinmgifadmbeaa
open Go.RowKit
set_option linter.unusedVariables false

set_option maxRecDepth 100000 in
set_option maxHeartbeats 1000000 in
theorem dec_any (A0 : Option Addr) (c0 : Nat) (bs : List Int) (at_ : Int) (w : World) (hr : ReadsB w w.heap.size A0 bs) (hb : Bytes bs) (hc : bs.length ≤ c0) (hm : c0 ≤ 9223372036854775807) :
    Calls Try.prog 24 #[.slice A0 bs.length c0, .int .i64 at_] w (DPost w (decI bs at_) (decC bs at_)) := by
  have hb0 : Below w.heap.size w (w.alloc (.cells #[.int .i64 0, .int .i64 0, .int .i64 0, .int .i64 0, .int .i64 0] 28)) := (Below.refl _ _).alloc (Nat.le_refl _) _
  have hZ := Blk.new w 28 #[.int .i64 0, .int .i64 0, .int .i64 0, .int .i64 0, .int .i64 0]
  have hz : ∀ c, decC bs at_ = c → ¬ c = 0 → decI bs at_ = zeroI := fun c h k => by unfold decI; rw [if_neg (by rw [h]; exact k)]
  by_cases h1 : at_ < 0
  · have b1 : decide (at_ < 0) = true := decide_eq_true h1
    have ec : decC bs at_ = 1 := by unfold decC; rw [if_pos (.inl h1)]
    rw [hz _ ec (by omega), ec]
    go_enter Try.func24, Try.ntmps24
    go_wp2_with fail
    refine bodyPost_ret (v := .tuple #[.agg #[.int .i64 0, .int .i64 0, .int .i64 0, .int .i64 0, .int .i64 0], .int .i64 1]) (by simp [results, Try.results24, go_sem]) rfl ?_
    exact ⟨rfl, hb0⟩
  · by_cases h2 : (bs.length : Int) < at_
    · have b1 : decide (at_ < 0) = false := decide_eq_false h1
      have b2 : decide ((bs.length : Int) < at_) = true := decide_eq_true h2
      have ec : decC bs at_ = 1 := by unfold decC; rw [if_pos (.inr h2)]
      rw [hz _ ec (by omega), ec]
      go_enter Try.func24, Try.ntmps24
      go_wp2_with fail
      refine bodyPost_ret (v := .tuple #[.agg #[.int .i64 0, .int .i64 0, .int .i64 0, .int .i64 0, .int .i64 0], .int .i64 1]) (by simp [results, Try.results24, go_sem]) rfl ?_
      exact ⟨rfl, hb0⟩
    · obtain ⟨k, rfl⟩ := Int.eq_ofNat_of_zero_le (show 0 ≤ at_ by omega)
      have b1 : decide ((k : Int) < 0) = false := decide_eq_false h1
      have b2 : decide ((bs.length : Int) < (k : Int)) = false := decide_eq_false h2
      by_cases h3 : k = bs.length
      · subst h3
        have ec : decC bs bs.length = 3 := by unfold decC; rw [if_neg (by omega), if_pos rfl]
        rw [hz _ ec (by omega), ec]
        go_enter Try.func24, Try.ntmps24
        go_wp2_with fail
        refine bodyPost_ret (v := .tuple #[.agg #[.int .i64 0, .int .i64 0, .int .i64 0, .int .i64 0, .int .i64 0], .int .i64 3]) (by simp [results, Try.results24, go_sem]) rfl ?_
        exact ⟨rfl, hb0⟩
      · have b3 : ((k : Int) == (bs.length : Int)) = false := by simpa using (show ¬ (k : Int) = bs.length by omega)
        have hk : k < bs.length := by omega
        obtain ⟨ad, rfl, hlo, hcell⟩ := hr.at_ hk
        have hop := hb.at_ k
        obtain ⟨op, hopv⟩ : ∃ op, op = bs.getD k 0 := ⟨_, rfl⟩
        rw [← hopv] at hop hcell
        have hopv' := Lib.hid hopv
        clear hopv
        have gs := fun w => Lib.hid (shape_any op w)
        have gp := fun w => Lib.hid (parts_any (sh op) w)
        unfold partsV at gp
        have hI0 := Blk.new (w.alloc (.cells #[.int .i64 0, .int .i64 0, .int .i64 0, .int .i64 0, .int .i64 0] 28)) 28 #[.int .i64 k, .int .i64 op, .int .i64 0, .int .i64 0, .int .i64 0]
        have hba : Below w.heap.size w ((w.alloc (.cells #[.int .i64 0, .int .i64 0, .int .i64 0, .int .i64 0, .int .i64 0] 28)).alloc (.cells #[.int .i64 k, .int .i64 op, .int .i64 0, .int .i64 0, .int .i64 0] 28)) := hb0.alloc hb0.size _
        have hZa := hZ.alloc (.cells #[.int .i64 k, .int .i64 op, .int .i64 0, .int .i64 0, .int .i64 0] 28)
        have hsz : (w.alloc (.cells #[.int .i64 0, .int .i64 0, .int .i64 0, .int .i64 0, .int .i64 0] 28)).heap.size = w.heap.size + 1 := by simp
        rw [hsz] at hI0
        have hw8 : IntKind.i64.wrap op = op := by rw [IntKind.wrap_i64]; omega
        have hcell' : (w.alloc (.cells #[.int .i64 0, .int .i64 0, .int .i64 0, .int .i64 0, .int .i64 0] 28)).cell? (ad.add k) = some (.int .u8 op) := (hb0.cell (p := ad.add k) (by rw [block_of_add]; exact hlo)).trans hcell
        have h63 : bs.length ≤ 9223372036854775807 := by omega
        cases hC : isC op with
        | false =>
          rw [hC] at gs
          have ec : decC bs k = 60 := by unfold decC; rw [if_neg (by omega), if_neg (by omega), if_pos (by rw [Int.toNat_natCast, ← hopv'.out]; exact hC)]
          rw [hz _ ec (by omega), ec]
          clear hz ec
          go_enter Try.func24, Try.ntmps24
          go_wp2_with fail
          generalize (w.alloc (.cells #[.int .i64 0, .int .i64 0, .int .i64 0, .int .i64 0, .int .i64 0] 28)).alloc (.cells #[.int .i64 k, .int .i64 op, .int .i64 0, .int .i64 0, .int .i64 0] 28) = W at *
          refine (gs _).out.mono ?_
          rintro _ w1 ⟨rfl, hb1⟩
          have hZ1 := hZa.below hb1 hZa.lt
          have d0 : w1.cell? ⟨w.heap.size, 0, none⟩ = some (.int .i64 0) := hZ1.cell 0
          have d1 : w1.cell? ⟨w.heap.size, 1, none⟩ = some (.int .i64 0) := hZ1.cell 1
          have d2 : w1.cell? ⟨w.heap.size, 2, none⟩ = some (.int .i64 0) := hZ1.cell 2
          have d3 : w1.cell? ⟨w.heap.size, 3, none⟩ = some (.int .i64 0) := hZ1.cell 3
          have d4 : w1.cell? ⟨w.heap.size, 4, none⟩ = some (.int .i64 0) := hZ1.cell 4
          have df0 := hZ1.frozen 0
          have df1 := hZ1.frozen 1
          have df2 := hZ1.frozen 2
          have df3 := hZ1.frozen 3
          have df4 := hZ1.frozen 4
          go_wp2_with fail
          have hZf : Blk (((((w1.setCell ⟨w.heap.size, 0, none⟩ (.int .i64 0)).setCell ⟨w.heap.size, 1, none⟩ (.int .i64 0)).setCell ⟨w.heap.size, 2, none⟩ (.int .i64 0)).setCell ⟨w.heap.size, 3, none⟩ (.int .i64 0)).setCell ⟨w.heap.size, 4, none⟩ (.int .i64 0)) w.heap.size 28 #[.int .i64 0, .int .i64 0, .int .i64 0, .int .i64 0, .int .i64 0] := ((((hZ1.set_ 0 _).set_ 1 _).set_ 2 _).set_ 3 _).set_ 4 _
          have hTf : Turned (fun _ => False) w (((((w1.setCell ⟨w.heap.size, 0, none⟩ (.int .i64 0)).setCell ⟨w.heap.size, 1, none⟩ (.int .i64 0)).setCell ⟨w.heap.size, 2, none⟩ (.int .i64 0)).setCell ⟨w.heap.size, 3, none⟩ (.int .i64 0)).setCell ⟨w.heap.size, 4, none⟩ (.int .i64 0)) :=
            (((((Turned.of_below (F := fun _ => False) (bnext hba hb1)).setCell (.inr (Nat.le_refl _)) _).setCell (.inr (Nat.le_refl _)) _).setCell (.inr (Nat.le_refl _)) _).setCell (.inr (Nat.le_refl _)) _).setCell (.inr (Nat.le_refl _)) _
          have hBf := hTf.below (Nat.le_refl _) (fun _ h => h.elim)
          generalize ((((w1.setCell ⟨w.heap.size, 0, none⟩ (.int .i64 0)).setCell ⟨w.heap.size, 1, none⟩ (.int .i64 0)).setCell ⟨w.heap.size, 2, none⟩ (.int .i64 0)).setCell ⟨w.heap.size, 3, none⟩ (.int .i64 0)).setCell ⟨w.heap.size, 4, none⟩ (.int .i64 0) = Wf at *
          have f0 : Wf.cell? ⟨w.heap.size, 0, none⟩ = some (.int .i64 0) := hZf.cell 0
          have f1 : Wf.cell? ⟨w.heap.size, 1, none⟩ = some (.int .i64 0) := hZf.cell 1
          have f2 : Wf.cell? ⟨w.heap.size, 2, none⟩ = some (.int .i64 0) := hZf.cell 2
          have f3 : Wf.cell? ⟨w.heap.size, 3, none⟩ = some (.int .i64 0) := hZf.cell 3
          have f4 : Wf.cell? ⟨w.heap.size, 4, none⟩ = some (.int .i64 0) := hZf.cell 4
          have ff0 := hZf.frozen 0
          have ff1 := hZf.frozen 1
          have ff2 := hZf.frozen 2
          have ff3 := hZf.frozen 3
          have ff4 := hZf.frozen 4
          refine bodyPost_ret (v := .tuple #[.agg #[.int .i64 0, .int .i64 0, .int .i64 0, .int .i64 0, .int .i64 0], .int .i64 60]) (by simp [results, Try.results24, go_sem, f0, f1, f2, f3, f4]) rfl ?_
          exact ⟨rfl, hBf⟩
        | true =>
          rw [hC] at gs
          have hp := pn_facts (sh op)
          have hsa : shAt bs (k : Int).toNat = sh op := by unfold shAt; rw [Int.toNat_natCast, ← hopv'.out]
          obtain ⟨n0, hn0⟩ : ∃ n : Nat, pn0 (sh op) = n := Int.eq_ofNat_of_zero_le hp.1
          obtain ⟨n1, hn1⟩ : ∃ n : Nat, pn1 (sh op) = n := Int.eq_ofNat_of_zero_le hp.2.2.1
          rw [hn0, hn1] at gp hp
          by_cases hs : (bs.length : Int) - k < 1 + n0 + n1
          · have ec : decC bs k = 3 := by
              unfold decC
              rw [if_neg (by omega), if_neg (by omega), if_neg (by rw [Int.toNat_natCast, ← hopv'.out, hC]; decide), hsa, hn0, hn1, if_pos hs]
            rw [hz _ ec (by omega), ec]
            exact dec_short ad c0 bs.length n0 n1 (k : Int) (ps0 (sh op)) (ps1 (sh op)) op (sh op) w hlo (by rw [Int.toNat_natCast]; exact hcell) hop (by omega) (by omega) h63 (by omega) (by omega) gs gp hs
          · have ec : decC bs k = 0 := by
              unfold decC
              rw [if_neg (by omega), if_neg (by omega), if_neg (by rw [Int.toNat_natCast, ← hopv'.out, hC]; decide), hsa, hn0, hn1, if_neg hs]
            have eI : decI bs k = ⟨k, op, leads (sh op) k (rdP n0 (ps0 (sh op)) ((bs.drop (k + 1)).take n0)), rdP n1 (ps1 (sh op)) ((bs.drop (k + 1 + n0)).take n1), 1 + n0 + n1⟩ := by
              unfold decI
              rw [if_pos ec, hsa, hn0, hn1, Int.toNat_natCast, Int.toNat_natCast, Int.toNat_natCast, ← hopv'.out]
            rw [eI, ec]
            exact dec_long ad c0 k n0 n1 k (Lib.hid rfl) (ps0 (sh op)) (ps1 (sh op)) op (sh op) bs w hr hb hlo (by rw [Int.toNat_natCast]; exact hcell) hop bs.length rfl (by omega) (by omega) hc h63 hm (by omega) (by omega) gs gp (by omega) _ (Lib.hid rfl)
end Go.Proofs.Ytcinmgifadmbeaa
