/- ops.Decode's reference. -/
import Derived.Test.YtcinmgifadmbeaaDec
import Derived.Test.YtcinmgifadmbeaaREnc
import Derived.StillTailTactics
import Derived.BigRegion
namespace Go.Proofs.Ytcinmgifadmbeaa
open Go.RowKit
set_option linter.unusedVariables false
set_option linter.unusedSimpArgs false
def xt (s : Int) : Int := if s = 45 then 0 else if s = 98 ∨ s = 117 then 1 else 2
set_option maxRecDepth 100000 in
set_option maxHeartbeats 2000000 in
theorem extra_any (s : Int) (w : World) : Calls Try.prog 45 #[.int .u8 s] w fun e w' => e = .returned (.int .i64 (xt s)) ∧ w = w' := by
  unfold xt
  by_cases h1 : s = 45
  · subst h1
    go_enter Try.func45, Try.ntmps45
    go_wp2_with fail
    go_ret
    exact ⟨rfl, rfl⟩
  · rw [if_neg h1]
    by_cases h2 : s = 98
    · subst h2
      go_enter Try.func45, Try.ntmps45
      go_wp2_with fail
      go_ret
      exact ⟨rfl, rfl⟩
    · by_cases h3 : s = 117
      · subst h3
        go_enter Try.func45, Try.ntmps45
        go_wp2_with fail
        go_ret
        exact ⟨rfl, rfl⟩
      · rw [if_neg (by rintro (h | h); exact h2 h; exact h3 h)]
        have b1 : (s == 45) = false := by simpa using h1
        have b2 : (s == 98) = false := by simpa using h2
        have b3 : (s == 117) = false := by simpa using h3
        go_enter Try.func45, Try.ntmps45
        go_wp2_with fail
        go_ret
        exact ⟨rfl, rfl⟩
theorem w64_7 {L : Nat} {K : Int} (h : L ≤ 9223372036854775807) (h0 : 0 ≤ K) (h1 : K + 2 < L) : wrap64 (K + 2) = K + 2 := IntWalk.wrap64_in _ (by omega)
theorem u16_join {x c : Int} (hx : 0 ≤ x ∧ x < 256) (hc : 0 ≤ c ∧ c < 256) : bits .or .u16 (x * 256) c = x * 256 + c := by
  rw [u16_or (x * 256) c (by omega) (by omega) hc.1 (by omega)]
  have e := nat_join 8 (x * 256).toNat c.toNat (by omega) (by omega)
  rw [e]; omega
theorem wr_i8 {x : Int} (hx : 0 ≤ x ∧ x < 256) : wrap64 (IntKind.i8.wrap x) = sbyte x := by
  unfold wrap64; simp only [IntKind.wrap, IntKind.bits, IntKind.signed]; unfold sbyte; simp; omega
theorem wr_i16 {x c : Int} (hx : 0 ≤ x ∧ x < 256) (hc : 0 ≤ c ∧ c < 256) : wrap64 (IntKind.i16.wrap (bits .or .u16 (x * 256) c)) = sbyte x * 256 + c := by
  rw [u16_join hx hc]
  unfold wrap64; simp only [IntKind.wrap, IntKind.bits, IntKind.signed]; unfold sbyte; simp; omega
theorem wr_or {x c : Int} (hx : 0 ≤ x ∧ x < 256) (hc : 0 ≤ c ∧ c < 256) : bits .or .i64 (x * 256) c = x * 256 + c := i64_join (by omega) (by omega) hc.1 hc.2
theorem wr_far (K : Int) {x c : Int} (hx : 0 ≤ x ∧ x < 256) (hc : 0 ≤ c ∧ c < 256) : wrap64 (K + wrap64 (IntKind.i16.wrap (bits .or .u16 (x * 256) c))) = wrap64 (sbyte x * 256 + c + K) := by
  rw [wr_i16 hx hc, Int.add_comm]
set_option maxRecDepth 100000 in
set_option maxHeartbeats 2000000 in
theorem rdec_45 (ad : Addr) (c0 L : Nat) (K : Int) (op : Int) (w : World) (hlo : ad.block < w.heap.size) (hcell : w.cell? (ad.add K.toNat) = some (.int .u8 op)) (hop : 0 ≤ op ∧ op < 256) (hK0 : 0 ≤ K) (hk : K < L) (hm : L ≤ 9223372036854775807)
    (gs : ∀ w, Hid (Calls Try.prog 16 #[.int .i64 op] w fun e w' => e = .returned (.tuple #[.int .u8 45, .bool true]) ∧ Below w.heap.size w w'))
    (hs : K + 0 < L) (I : Ins) (hIw : Hid (I = ⟨K, op, 0, 0, 1⟩)) :
    Calls Try.prog 25 #[.slice (some ad) L c0, .int .i64 K] w (DPost w I 0) := by
  have b4 : decide ((L : Int) - K < 1) = false := decide_eq_false (by omega)
  have hI0 := Blk.new (w.alloc (.cells #[.int .i64 0, .int .i64 0, .int .i64 0, .int .i64 0, .int .i64 0] 28)) 28 #[.int .i64 K, .int .i64 op, .int .i64 0, .int .i64 0, .int .i64 0]
  have hZa := (Blk.new w 28 #[.int .i64 0, .int .i64 0, .int .i64 0, .int .i64 0, .int .i64 0]).alloc (.cells #[.int .i64 K, .int .i64 op, .int .i64 0, .int .i64 0, .int .i64 0] 28)
  have hba : Below w.heap.size w ((w.alloc (.cells #[.int .i64 0, .int .i64 0, .int .i64 0, .int .i64 0, .int .i64 0] 28)).alloc (.cells #[.int .i64 K, .int .i64 op, .int .i64 0, .int .i64 0, .int .i64 0] 28)) := ((Below.refl w.heap.size w).alloc (Nat.le_refl _) _).alloc (by simp) _
  have hcell' : (w.alloc (.cells #[.int .i64 0, .int .i64 0, .int .i64 0, .int .i64 0, .int .i64 0] 28)).cell? (ad.add K.toNat) = some (.int .u8 op) := (((Below.refl w.heap.size w).alloc (Nat.le_refl _) _).cell (p := ad.add K.toNat) (by rw [block_of_add]; exact hlo)).trans hcell
  have hsz : (w.alloc (.cells #[.int .i64 0, .int .i64 0, .int .i64 0, .int .i64 0, .int .i64 0] 28)).heap.size = w.heap.size + 1 := by simp
  rw [hsz] at hI0
  have hw8 : IntKind.i64.wrap op = op := by rw [IntKind.wrap_i64]; omega
  have b1 : decide (K < 0) = false := decide_eq_false (by omega)
  have b2 : decide ((L : Int) < K) = false := decide_eq_false (by omega)
  have b3 : (K == (L : Int)) = false := by simpa using (show ¬ K = L by omega)
  go_enter Try.func25, Try.ntmps25
  go_wp2_with fail
  generalize (w.alloc (.cells #[.int .i64 0, .int .i64 0, .int .i64 0, .int .i64 0, .int .i64 0] 28)).alloc (.cells #[.int .i64 K, .int .i64 op, .int .i64 0, .int .i64 0, .int .i64 0] 28) = W at *
  refine (gs _).out.mono ?_
  rintro _ w1 ⟨rfl, hb1⟩
  have hI1 := hI0.below hb1 hI0.lt
  have hZ1 := hZa.below hb1 hZa.lt
  have hB1 := hba.trans (hb1.mono hba.size)
  have d0 : w1.cell? ⟨w.heap.size + 1, 0, none⟩ = some (.int .i64 K) := hI1.cell 0
  have d1 : w1.cell? ⟨w.heap.size + 1, 1, none⟩ = some (.int .i64 op) := hI1.cell 1
  have d2 : w1.cell? ⟨w.heap.size + 1, 2, none⟩ = some (.int .i64 0) := hI1.cell 2
  have d3 : w1.cell? ⟨w.heap.size + 1, 3, none⟩ = some (.int .i64 0) := hI1.cell 3
  have d4 : w1.cell? ⟨w.heap.size + 1, 4, none⟩ = some (.int .i64 0) := hI1.cell 4
  have df0 := hI1.frozen 0
  have df1 := hI1.frozen 1
  have df2 := hI1.frozen 2
  have df3 := hI1.frozen 3
  have df4 := hI1.frozen 4
  have z0 : w1.cell? ⟨w.heap.size, 0, none⟩ = some (.int .i64 0) := hZ1.cell 0
  have z1 : w1.cell? ⟨w.heap.size, 1, none⟩ = some (.int .i64 0) := hZ1.cell 1
  have z2 : w1.cell? ⟨w.heap.size, 2, none⟩ = some (.int .i64 0) := hZ1.cell 2
  have z3 : w1.cell? ⟨w.heap.size, 3, none⟩ = some (.int .i64 0) := hZ1.cell 3
  have z4 : w1.cell? ⟨w.heap.size, 4, none⟩ = some (.int .i64 0) := hZ1.cell 4
  have zf0 := hZ1.frozen 0
  have zf1 := hZ1.frozen 1
  have zf2 := hZ1.frozen 2
  have zf3 := hZ1.frozen 3
  have zf4 := hZ1.frozen 4
  have hlt1 : w.heap.size + 1 < w1.heap.size := hI1.lt
  have hZ1' := Lib.hid hZ1
  have hI1' := Lib.hid hI1
  have hB1' := Lib.hid hB1
  clear hI0 hZa hba hb1 hI1 hZ1 hB1 hcell hcell' hsz hw8 gs
  have hx : ∀ w, Calls Try.prog 45 #[.int .u8 45] w fun e w' => e = .returned (.int .i64 0) ∧ w = w' := extra_any 45
  have q3 := w64_3 hm hK0 hk
  go_wp2_with fail
  refine (hx _).mono ?_
  rintro _ _ ⟨rfl, rfl⟩
  have hne : ¬ w.heap.size = (⟨w.heap.size + 1, 0, none⟩ : Addr).block := by show ¬ w.heap.size = w.heap.size + 1; omega
  have hIv : Blk (w1.setCell ⟨w.heap.size + 1, 4, none⟩ (.int .i64 1)) (w.heap.size + 1) 28 #[.int .i64 K, .int .i64 op, .int .i64 0, .int .i64 0, .int .i64 1] := hI1'.out.set_ 4 _
  have hZv : Blk (w1.setCell ⟨w.heap.size + 1, 4, none⟩ (.int .i64 1)) w.heap.size 28 #[.int .i64 0, .int .i64 0, .int .i64 0, .int .i64 0, .int .i64 0] := hZ1'.out.far (p := ⟨w.heap.size + 1, 4, none⟩) hne _
  have hBv : Below w.heap.size w (w1.setCell ⟨w.heap.size + 1, 4, none⟩ (.int .i64 1)) := hB1'.out.setCell (p := ⟨w.heap.size + 1, 4, none⟩) (Nat.le_succ _) _
  replace hIv := Lib.hid hIv
  replace hZv := Lib.hid hZv
  replace hBv := Lib.hid hBv
  go_wp2_with fail
  have hZf : Blk ((((((w1.setCell ⟨w.heap.size + 1, 4, none⟩ (.int .i64 1)).setCell ⟨w.heap.size, 0, none⟩ (.int .i64 K)).setCell ⟨w.heap.size, 1, none⟩ (.int .i64 op)).setCell ⟨w.heap.size, 2, none⟩ (.int .i64 0)).setCell ⟨w.heap.size, 3, none⟩ (.int .i64 0)).setCell ⟨w.heap.size, 4, none⟩ (.int .i64 1)) w.heap.size 28 #[.int .i64 K, .int .i64 op, .int .i64 0, .int .i64 0, .int .i64 1] := (((((hZv.out.set_ 0 (.int .i64 K)).set_ 1 (.int .i64 op)).set_ 2 (.int .i64 0)).set_ 3 (.int .i64 0)).set_ 4 (.int .i64 1))
  have hBf : Below w.heap.size w ((((((w1.setCell ⟨w.heap.size + 1, 4, none⟩ (.int .i64 1)).setCell ⟨w.heap.size, 0, none⟩ (.int .i64 K)).setCell ⟨w.heap.size, 1, none⟩ (.int .i64 op)).setCell ⟨w.heap.size, 2, none⟩ (.int .i64 0)).setCell ⟨w.heap.size, 3, none⟩ (.int .i64 0)).setCell ⟨w.heap.size, 4, none⟩ (.int .i64 1)) := (((((hBv.out.setCell (p := ⟨w.heap.size, 0, none⟩) (Nat.le_refl _) (.int .i64 K)).setCell (p := ⟨w.heap.size, 1, none⟩) (Nat.le_refl _) (.int .i64 op)).setCell (p := ⟨w.heap.size, 2, none⟩) (Nat.le_refl _) (.int .i64 0)).setCell (p := ⟨w.heap.size, 3, none⟩) (Nat.le_refl _) (.int .i64 0)).setCell (p := ⟨w.heap.size, 4, none⟩) (Nat.le_refl _) (.int .i64 1))
  clear d0 d1 d2 d3 d4 df0 df1 df2 df3 df4 z0 z1 z2 z3 z4 zf0 zf1 zf2 zf3 zf4
  generalize ((((((w1.setCell ⟨w.heap.size + 1, 4, none⟩ (.int .i64 1)).setCell ⟨w.heap.size, 0, none⟩ (.int .i64 K)).setCell ⟨w.heap.size, 1, none⟩ (.int .i64 op)).setCell ⟨w.heap.size, 2, none⟩ (.int .i64 0)).setCell ⟨w.heap.size, 3, none⟩ (.int .i64 0)).setCell ⟨w.heap.size, 4, none⟩ (.int .i64 1)) = Wf at *
  have f0 : Wf.cell? ⟨w.heap.size, 0, none⟩ = some (.int .i64 K) := hZf.cell 0
  have f1 : Wf.cell? ⟨w.heap.size, 1, none⟩ = some (.int .i64 op) := hZf.cell 1
  have f2 : Wf.cell? ⟨w.heap.size, 2, none⟩ = some (.int .i64 0) := hZf.cell 2
  have f3 : Wf.cell? ⟨w.heap.size, 3, none⟩ = some (.int .i64 0) := hZf.cell 3
  have f4 : Wf.cell? ⟨w.heap.size, 4, none⟩ = some (.int .i64 1) := hZf.cell 4
  have ff0 := hZf.frozen 0
  have ff1 := hZf.frozen 1
  have ff2 := hZf.frozen 2
  have ff3 := hZf.frozen 3
  have ff4 := hZf.frozen 4
  refine bodyPost_ret (v := .tuple #[.agg #[.int .i64 K, .int .i64 op, .int .i64 0, .int .i64 0, .int .i64 1], .int .i64 0]) (by simp [results, Try.results25, go_sem, f0, f1, f2, f3, f4]) rfl ?_
  refine ⟨?_, hBf⟩
  rw [hIw.out]
  rfl
set_option maxRecDepth 100000 in
set_option maxHeartbeats 2000000 in
theorem rdec_98 (ad : Addr) (c0 L : Nat) (K : Int) (op : Int) (w : World) (hlo : ad.block < w.heap.size) (hcell : w.cell? (ad.add K.toNat) = some (.int .u8 op)) (hop : 0 ≤ op ∧ op < 256) (hK0 : 0 ≤ K) (hk : K < L) (hm : L ≤ 9223372036854775807) (x1 : Int) (hx1 : w.cell? (ad.add (K + 1).toNat) = some (.int .u8 x1)) (hy1 : 0 ≤ x1 ∧ x1 < 256)
    (gs : ∀ w, Hid (Calls Try.prog 16 #[.int .i64 op] w fun e w' => e = .returned (.tuple #[.int .u8 98, .bool true]) ∧ Below w.heap.size w w'))
    (hs : K + 1 < L) (I : Ins) (hIw : Hid (I = ⟨K, op, (sbyte x1), 0, 2⟩)) :
    Calls Try.prog 25 #[.slice (some ad) L c0, .int .i64 K] w (DPost w I 0) := by
  have b4 : decide ((L : Int) - K < 2) = false := decide_eq_false (by omega)
  have hI0 := Blk.new (w.alloc (.cells #[.int .i64 0, .int .i64 0, .int .i64 0, .int .i64 0, .int .i64 0] 28)) 28 #[.int .i64 K, .int .i64 op, .int .i64 0, .int .i64 0, .int .i64 0]
  have hZa := (Blk.new w 28 #[.int .i64 0, .int .i64 0, .int .i64 0, .int .i64 0, .int .i64 0]).alloc (.cells #[.int .i64 K, .int .i64 op, .int .i64 0, .int .i64 0, .int .i64 0] 28)
  have hba : Below w.heap.size w ((w.alloc (.cells #[.int .i64 0, .int .i64 0, .int .i64 0, .int .i64 0, .int .i64 0] 28)).alloc (.cells #[.int .i64 K, .int .i64 op, .int .i64 0, .int .i64 0, .int .i64 0] 28)) := ((Below.refl w.heap.size w).alloc (Nat.le_refl _) _).alloc (by simp) _
  have hcell' : (w.alloc (.cells #[.int .i64 0, .int .i64 0, .int .i64 0, .int .i64 0, .int .i64 0] 28)).cell? (ad.add K.toNat) = some (.int .u8 op) := (((Below.refl w.heap.size w).alloc (Nat.le_refl _) _).cell (p := ad.add K.toNat) (by rw [block_of_add]; exact hlo)).trans hcell
  have hsz : (w.alloc (.cells #[.int .i64 0, .int .i64 0, .int .i64 0, .int .i64 0, .int .i64 0] 28)).heap.size = w.heap.size + 1 := by simp
  rw [hsz] at hI0
  have hw8 : IntKind.i64.wrap op = op := by rw [IntKind.wrap_i64]; omega
  have b1 : decide (K < 0) = false := decide_eq_false (by omega)
  have b2 : decide ((L : Int) < K) = false := decide_eq_false (by omega)
  have b3 : (K == (L : Int)) = false := by simpa using (show ¬ K = L by omega)
  go_enter Try.func25, Try.ntmps25
  go_wp2_with fail
  generalize (w.alloc (.cells #[.int .i64 0, .int .i64 0, .int .i64 0, .int .i64 0, .int .i64 0] 28)).alloc (.cells #[.int .i64 K, .int .i64 op, .int .i64 0, .int .i64 0, .int .i64 0] 28) = W at *
  refine (gs _).out.mono ?_
  rintro _ w1 ⟨rfl, hb1⟩
  have hI1 := hI0.below hb1 hI0.lt
  have hZ1 := hZa.below hb1 hZa.lt
  have hB1 := hba.trans (hb1.mono hba.size)
  have d0 : w1.cell? ⟨w.heap.size + 1, 0, none⟩ = some (.int .i64 K) := hI1.cell 0
  have d1 : w1.cell? ⟨w.heap.size + 1, 1, none⟩ = some (.int .i64 op) := hI1.cell 1
  have d2 : w1.cell? ⟨w.heap.size + 1, 2, none⟩ = some (.int .i64 0) := hI1.cell 2
  have d3 : w1.cell? ⟨w.heap.size + 1, 3, none⟩ = some (.int .i64 0) := hI1.cell 3
  have d4 : w1.cell? ⟨w.heap.size + 1, 4, none⟩ = some (.int .i64 0) := hI1.cell 4
  have df0 := hI1.frozen 0
  have df1 := hI1.frozen 1
  have df2 := hI1.frozen 2
  have df3 := hI1.frozen 3
  have df4 := hI1.frozen 4
  have z0 : w1.cell? ⟨w.heap.size, 0, none⟩ = some (.int .i64 0) := hZ1.cell 0
  have z1 : w1.cell? ⟨w.heap.size, 1, none⟩ = some (.int .i64 0) := hZ1.cell 1
  have z2 : w1.cell? ⟨w.heap.size, 2, none⟩ = some (.int .i64 0) := hZ1.cell 2
  have z3 : w1.cell? ⟨w.heap.size, 3, none⟩ = some (.int .i64 0) := hZ1.cell 3
  have z4 : w1.cell? ⟨w.heap.size, 4, none⟩ = some (.int .i64 0) := hZ1.cell 4
  have zf0 := hZ1.frozen 0
  have zf1 := hZ1.frozen 1
  have zf2 := hZ1.frozen 2
  have zf3 := hZ1.frozen 3
  have zf4 := hZ1.frozen 4
  have hlt1 : w.heap.size + 1 < w1.heap.size := hI1.lt
  have hZ1' := Lib.hid hZ1
  have hI1' := Lib.hid hI1
  have hB1' := Lib.hid hB1
  clear hI0 hZa hba hb1 hI1 hZ1 hB1 hcell hcell' hsz hw8 gs
  have hx : ∀ w, Calls Try.prog 45 #[.int .u8 98] w fun e w' => e = .returned (.int .i64 1) ∧ w = w' := extra_any 98
  have q3 := w64_3 hm hK0 hk
  have c1 : w1.cell? (ad.add (K + 1).toNat) = some (.int .u8 x1) := (hB1'.out.cell (p := ad.add (K + 1).toNat) (by rw [block_of_add]; exact hlo)).trans hx1
  have g1 : (ad.add (K + 1).toNat).block < w.heap.size := by rw [block_of_add]; exact hlo
  obtain ⟨a1, ha1⟩ : ∃ a, ad.add (K + 1).toNat = a := ⟨_, rfl⟩
  rw [ha1] at c1 g1
  have q5 := w64_5 hm hK0 hk
  clear hx1
  go_wp2_with fail
  refine (hx _).mono ?_
  rintro _ _ ⟨rfl, rfl⟩
  have hne : ¬ w.heap.size = (⟨w.heap.size + 1, 0, none⟩ : Addr).block := by show ¬ w.heap.size = w.heap.size + 1; omega
  have hIv : Blk (w1.setCell ⟨w.heap.size + 1, 4, none⟩ (.int .i64 2)) (w.heap.size + 1) 28 #[.int .i64 K, .int .i64 op, .int .i64 0, .int .i64 0, .int .i64 2] := hI1'.out.set_ 4 _
  have hZv : Blk (w1.setCell ⟨w.heap.size + 1, 4, none⟩ (.int .i64 2)) w.heap.size 28 #[.int .i64 0, .int .i64 0, .int .i64 0, .int .i64 0, .int .i64 0] := hZ1'.out.far (p := ⟨w.heap.size + 1, 4, none⟩) hne _
  have hBv : Below w.heap.size w (w1.setCell ⟨w.heap.size + 1, 4, none⟩ (.int .i64 2)) := hB1'.out.setCell (p := ⟨w.heap.size + 1, 4, none⟩) (Nat.le_succ _) _
  have c1v : (w1.setCell ⟨w.heap.size + 1, 4, none⟩ (.int .i64 2)).cell? a1 = some (.int .u8 x1) := (World.cell?_setCell_other _ _ _ _ (fun e => by subst e; exact absurd g1 (by show ¬ w.heap.size + 1 < w.heap.size; omega))).trans c1
  replace hIv := Lib.hid hIv
  replace hZv := Lib.hid hZv
  replace hBv := Lib.hid hBv
  go_wp2_with fail
  have hZf : Blk (((((((w1.setCell ⟨w.heap.size + 1, 4, none⟩ (.int .i64 2)).setCell ⟨w.heap.size + 1, 2, none⟩ (.int .i64 (wrap64 (IntKind.i8.wrap x1)))).setCell ⟨w.heap.size, 0, none⟩ (.int .i64 K)).setCell ⟨w.heap.size, 1, none⟩ (.int .i64 op)).setCell ⟨w.heap.size, 2, none⟩ (.int .i64 (wrap64 (IntKind.i8.wrap x1)))).setCell ⟨w.heap.size, 3, none⟩ (.int .i64 0)).setCell ⟨w.heap.size, 4, none⟩ (.int .i64 2)) w.heap.size 28 #[.int .i64 K, .int .i64 op, .int .i64 (wrap64 (IntKind.i8.wrap x1)), .int .i64 0, .int .i64 2] := ((((((hZv.out.far (p := ⟨w.heap.size + 1, 2, none⟩) hne (.int .i64 (wrap64 (IntKind.i8.wrap x1)))).set_ 0 (.int .i64 K)).set_ 1 (.int .i64 op)).set_ 2 (.int .i64 (wrap64 (IntKind.i8.wrap x1)))).set_ 3 (.int .i64 0)).set_ 4 (.int .i64 2))
  have hBf : Below w.heap.size w (((((((w1.setCell ⟨w.heap.size + 1, 4, none⟩ (.int .i64 2)).setCell ⟨w.heap.size + 1, 2, none⟩ (.int .i64 (wrap64 (IntKind.i8.wrap x1)))).setCell ⟨w.heap.size, 0, none⟩ (.int .i64 K)).setCell ⟨w.heap.size, 1, none⟩ (.int .i64 op)).setCell ⟨w.heap.size, 2, none⟩ (.int .i64 (wrap64 (IntKind.i8.wrap x1)))).setCell ⟨w.heap.size, 3, none⟩ (.int .i64 0)).setCell ⟨w.heap.size, 4, none⟩ (.int .i64 2)) := ((((((hBv.out.setCell (p := ⟨w.heap.size + 1, 2, none⟩) (Nat.le_succ _) (.int .i64 (wrap64 (IntKind.i8.wrap x1)))).setCell (p := ⟨w.heap.size, 0, none⟩) (Nat.le_refl _) (.int .i64 K)).setCell (p := ⟨w.heap.size, 1, none⟩) (Nat.le_refl _) (.int .i64 op)).setCell (p := ⟨w.heap.size, 2, none⟩) (Nat.le_refl _) (.int .i64 (wrap64 (IntKind.i8.wrap x1)))).setCell (p := ⟨w.heap.size, 3, none⟩) (Nat.le_refl _) (.int .i64 0)).setCell (p := ⟨w.heap.size, 4, none⟩) (Nat.le_refl _) (.int .i64 2))
  clear d0 d1 d2 d3 d4 df0 df1 df2 df3 df4 z0 z1 z2 z3 z4 zf0 zf1 zf2 zf3 zf4 c1 c1v
  generalize (((((((w1.setCell ⟨w.heap.size + 1, 4, none⟩ (.int .i64 2)).setCell ⟨w.heap.size + 1, 2, none⟩ (.int .i64 (wrap64 (IntKind.i8.wrap x1)))).setCell ⟨w.heap.size, 0, none⟩ (.int .i64 K)).setCell ⟨w.heap.size, 1, none⟩ (.int .i64 op)).setCell ⟨w.heap.size, 2, none⟩ (.int .i64 (wrap64 (IntKind.i8.wrap x1)))).setCell ⟨w.heap.size, 3, none⟩ (.int .i64 0)).setCell ⟨w.heap.size, 4, none⟩ (.int .i64 2)) = Wf at *
  have f0 : Wf.cell? ⟨w.heap.size, 0, none⟩ = some (.int .i64 K) := hZf.cell 0
  have f1 : Wf.cell? ⟨w.heap.size, 1, none⟩ = some (.int .i64 op) := hZf.cell 1
  have f2 : Wf.cell? ⟨w.heap.size, 2, none⟩ = some (.int .i64 (wrap64 (IntKind.i8.wrap x1))) := hZf.cell 2
  have f3 : Wf.cell? ⟨w.heap.size, 3, none⟩ = some (.int .i64 0) := hZf.cell 3
  have f4 : Wf.cell? ⟨w.heap.size, 4, none⟩ = some (.int .i64 2) := hZf.cell 4
  have ff0 := hZf.frozen 0
  have ff1 := hZf.frozen 1
  have ff2 := hZf.frozen 2
  have ff3 := hZf.frozen 3
  have ff4 := hZf.frozen 4
  refine bodyPost_ret (v := .tuple #[.agg #[.int .i64 K, .int .i64 op, .int .i64 (wrap64 (IntKind.i8.wrap x1)), .int .i64 0, .int .i64 2], .int .i64 0]) (by simp [results, Try.results25, go_sem, f0, f1, f2, f3, f4]) rfl ?_
  refine ⟨?_, hBf⟩
  rw [hIw.out, ← wr_i8 hy1]
  rfl
set_option maxRecDepth 100000 in
set_option maxHeartbeats 2000000 in
theorem rdec_117 (ad : Addr) (c0 L : Nat) (K : Int) (op : Int) (w : World) (hlo : ad.block < w.heap.size) (hcell : w.cell? (ad.add K.toNat) = some (.int .u8 op)) (hop : 0 ≤ op ∧ op < 256) (hK0 : 0 ≤ K) (hk : K < L) (hm : L ≤ 9223372036854775807) (x1 : Int) (hx1 : w.cell? (ad.add (K + 1).toNat) = some (.int .u8 x1)) (hy1 : 0 ≤ x1 ∧ x1 < 256)
    (gs : ∀ w, Hid (Calls Try.prog 16 #[.int .i64 op] w fun e w' => e = .returned (.tuple #[.int .u8 117, .bool true]) ∧ Below w.heap.size w w'))
    (hs : K + 1 < L) (I : Ins) (hIw : Hid (I = ⟨K, op, x1, 0, 2⟩)) :
    Calls Try.prog 25 #[.slice (some ad) L c0, .int .i64 K] w (DPost w I 0) := by
  have b4 : decide ((L : Int) - K < 2) = false := decide_eq_false (by omega)
  have hI0 := Blk.new (w.alloc (.cells #[.int .i64 0, .int .i64 0, .int .i64 0, .int .i64 0, .int .i64 0] 28)) 28 #[.int .i64 K, .int .i64 op, .int .i64 0, .int .i64 0, .int .i64 0]
  have hZa := (Blk.new w 28 #[.int .i64 0, .int .i64 0, .int .i64 0, .int .i64 0, .int .i64 0]).alloc (.cells #[.int .i64 K, .int .i64 op, .int .i64 0, .int .i64 0, .int .i64 0] 28)
  have hba : Below w.heap.size w ((w.alloc (.cells #[.int .i64 0, .int .i64 0, .int .i64 0, .int .i64 0, .int .i64 0] 28)).alloc (.cells #[.int .i64 K, .int .i64 op, .int .i64 0, .int .i64 0, .int .i64 0] 28)) := ((Below.refl w.heap.size w).alloc (Nat.le_refl _) _).alloc (by simp) _
  have hcell' : (w.alloc (.cells #[.int .i64 0, .int .i64 0, .int .i64 0, .int .i64 0, .int .i64 0] 28)).cell? (ad.add K.toNat) = some (.int .u8 op) := (((Below.refl w.heap.size w).alloc (Nat.le_refl _) _).cell (p := ad.add K.toNat) (by rw [block_of_add]; exact hlo)).trans hcell
  have hsz : (w.alloc (.cells #[.int .i64 0, .int .i64 0, .int .i64 0, .int .i64 0, .int .i64 0] 28)).heap.size = w.heap.size + 1 := by simp
  rw [hsz] at hI0
  have hw8 : IntKind.i64.wrap op = op := by rw [IntKind.wrap_i64]; omega
  have b1 : decide (K < 0) = false := decide_eq_false (by omega)
  have b2 : decide ((L : Int) < K) = false := decide_eq_false (by omega)
  have b3 : (K == (L : Int)) = false := by simpa using (show ¬ K = L by omega)
  go_enter Try.func25, Try.ntmps25
  go_wp2_with fail
  generalize (w.alloc (.cells #[.int .i64 0, .int .i64 0, .int .i64 0, .int .i64 0, .int .i64 0] 28)).alloc (.cells #[.int .i64 K, .int .i64 op, .int .i64 0, .int .i64 0, .int .i64 0] 28) = W at *
  refine (gs _).out.mono ?_
  rintro _ w1 ⟨rfl, hb1⟩
  have hI1 := hI0.below hb1 hI0.lt
  have hZ1 := hZa.below hb1 hZa.lt
  have hB1 := hba.trans (hb1.mono hba.size)
  have d0 : w1.cell? ⟨w.heap.size + 1, 0, none⟩ = some (.int .i64 K) := hI1.cell 0
  have d1 : w1.cell? ⟨w.heap.size + 1, 1, none⟩ = some (.int .i64 op) := hI1.cell 1
  have d2 : w1.cell? ⟨w.heap.size + 1, 2, none⟩ = some (.int .i64 0) := hI1.cell 2
  have d3 : w1.cell? ⟨w.heap.size + 1, 3, none⟩ = some (.int .i64 0) := hI1.cell 3
  have d4 : w1.cell? ⟨w.heap.size + 1, 4, none⟩ = some (.int .i64 0) := hI1.cell 4
  have df0 := hI1.frozen 0
  have df1 := hI1.frozen 1
  have df2 := hI1.frozen 2
  have df3 := hI1.frozen 3
  have df4 := hI1.frozen 4
  have z0 : w1.cell? ⟨w.heap.size, 0, none⟩ = some (.int .i64 0) := hZ1.cell 0
  have z1 : w1.cell? ⟨w.heap.size, 1, none⟩ = some (.int .i64 0) := hZ1.cell 1
  have z2 : w1.cell? ⟨w.heap.size, 2, none⟩ = some (.int .i64 0) := hZ1.cell 2
  have z3 : w1.cell? ⟨w.heap.size, 3, none⟩ = some (.int .i64 0) := hZ1.cell 3
  have z4 : w1.cell? ⟨w.heap.size, 4, none⟩ = some (.int .i64 0) := hZ1.cell 4
  have zf0 := hZ1.frozen 0
  have zf1 := hZ1.frozen 1
  have zf2 := hZ1.frozen 2
  have zf3 := hZ1.frozen 3
  have zf4 := hZ1.frozen 4
  have hlt1 : w.heap.size + 1 < w1.heap.size := hI1.lt
  have hZ1' := Lib.hid hZ1
  have hI1' := Lib.hid hI1
  have hB1' := Lib.hid hB1
  clear hI0 hZa hba hb1 hI1 hZ1 hB1 hcell hcell' hsz hw8 gs
  have hx : ∀ w, Calls Try.prog 45 #[.int .u8 117] w fun e w' => e = .returned (.int .i64 1) ∧ w = w' := extra_any 117
  have q3 := w64_3 hm hK0 hk
  have c1 : w1.cell? (ad.add (K + 1).toNat) = some (.int .u8 x1) := (hB1'.out.cell (p := ad.add (K + 1).toNat) (by rw [block_of_add]; exact hlo)).trans hx1
  have g1 : (ad.add (K + 1).toNat).block < w.heap.size := by rw [block_of_add]; exact hlo
  obtain ⟨a1, ha1⟩ : ∃ a, ad.add (K + 1).toNat = a := ⟨_, rfl⟩
  rw [ha1] at c1 g1
  have q5 := w64_5 hm hK0 hk
  clear hx1
  go_wp2_with fail
  refine (hx _).mono ?_
  rintro _ _ ⟨rfl, rfl⟩
  have hne : ¬ w.heap.size = (⟨w.heap.size + 1, 0, none⟩ : Addr).block := by show ¬ w.heap.size = w.heap.size + 1; omega
  have hIv : Blk (w1.setCell ⟨w.heap.size + 1, 4, none⟩ (.int .i64 2)) (w.heap.size + 1) 28 #[.int .i64 K, .int .i64 op, .int .i64 0, .int .i64 0, .int .i64 2] := hI1'.out.set_ 4 _
  have hZv : Blk (w1.setCell ⟨w.heap.size + 1, 4, none⟩ (.int .i64 2)) w.heap.size 28 #[.int .i64 0, .int .i64 0, .int .i64 0, .int .i64 0, .int .i64 0] := hZ1'.out.far (p := ⟨w.heap.size + 1, 4, none⟩) hne _
  have hBv : Below w.heap.size w (w1.setCell ⟨w.heap.size + 1, 4, none⟩ (.int .i64 2)) := hB1'.out.setCell (p := ⟨w.heap.size + 1, 4, none⟩) (Nat.le_succ _) _
  have c1v : (w1.setCell ⟨w.heap.size + 1, 4, none⟩ (.int .i64 2)).cell? a1 = some (.int .u8 x1) := (World.cell?_setCell_other _ _ _ _ (fun e => by subst e; exact absurd g1 (by show ¬ w.heap.size + 1 < w.heap.size; omega))).trans c1
  replace hIv := Lib.hid hIv
  replace hZv := Lib.hid hZv
  replace hBv := Lib.hid hBv
  go_wp2_with fail
  have hZf : Blk (((((((w1.setCell ⟨w.heap.size + 1, 4, none⟩ (.int .i64 2)).setCell ⟨w.heap.size + 1, 2, none⟩ (.int .i64 x1)).setCell ⟨w.heap.size, 0, none⟩ (.int .i64 K)).setCell ⟨w.heap.size, 1, none⟩ (.int .i64 op)).setCell ⟨w.heap.size, 2, none⟩ (.int .i64 x1)).setCell ⟨w.heap.size, 3, none⟩ (.int .i64 0)).setCell ⟨w.heap.size, 4, none⟩ (.int .i64 2)) w.heap.size 28 #[.int .i64 K, .int .i64 op, .int .i64 x1, .int .i64 0, .int .i64 2] := ((((((hZv.out.far (p := ⟨w.heap.size + 1, 2, none⟩) hne (.int .i64 x1)).set_ 0 (.int .i64 K)).set_ 1 (.int .i64 op)).set_ 2 (.int .i64 x1)).set_ 3 (.int .i64 0)).set_ 4 (.int .i64 2))
  have hBf : Below w.heap.size w (((((((w1.setCell ⟨w.heap.size + 1, 4, none⟩ (.int .i64 2)).setCell ⟨w.heap.size + 1, 2, none⟩ (.int .i64 x1)).setCell ⟨w.heap.size, 0, none⟩ (.int .i64 K)).setCell ⟨w.heap.size, 1, none⟩ (.int .i64 op)).setCell ⟨w.heap.size, 2, none⟩ (.int .i64 x1)).setCell ⟨w.heap.size, 3, none⟩ (.int .i64 0)).setCell ⟨w.heap.size, 4, none⟩ (.int .i64 2)) := ((((((hBv.out.setCell (p := ⟨w.heap.size + 1, 2, none⟩) (Nat.le_succ _) (.int .i64 x1)).setCell (p := ⟨w.heap.size, 0, none⟩) (Nat.le_refl _) (.int .i64 K)).setCell (p := ⟨w.heap.size, 1, none⟩) (Nat.le_refl _) (.int .i64 op)).setCell (p := ⟨w.heap.size, 2, none⟩) (Nat.le_refl _) (.int .i64 x1)).setCell (p := ⟨w.heap.size, 3, none⟩) (Nat.le_refl _) (.int .i64 0)).setCell (p := ⟨w.heap.size, 4, none⟩) (Nat.le_refl _) (.int .i64 2))
  clear d0 d1 d2 d3 d4 df0 df1 df2 df3 df4 z0 z1 z2 z3 z4 zf0 zf1 zf2 zf3 zf4 c1 c1v
  generalize (((((((w1.setCell ⟨w.heap.size + 1, 4, none⟩ (.int .i64 2)).setCell ⟨w.heap.size + 1, 2, none⟩ (.int .i64 x1)).setCell ⟨w.heap.size, 0, none⟩ (.int .i64 K)).setCell ⟨w.heap.size, 1, none⟩ (.int .i64 op)).setCell ⟨w.heap.size, 2, none⟩ (.int .i64 x1)).setCell ⟨w.heap.size, 3, none⟩ (.int .i64 0)).setCell ⟨w.heap.size, 4, none⟩ (.int .i64 2)) = Wf at *
  have f0 : Wf.cell? ⟨w.heap.size, 0, none⟩ = some (.int .i64 K) := hZf.cell 0
  have f1 : Wf.cell? ⟨w.heap.size, 1, none⟩ = some (.int .i64 op) := hZf.cell 1
  have f2 : Wf.cell? ⟨w.heap.size, 2, none⟩ = some (.int .i64 x1) := hZf.cell 2
  have f3 : Wf.cell? ⟨w.heap.size, 3, none⟩ = some (.int .i64 0) := hZf.cell 3
  have f4 : Wf.cell? ⟨w.heap.size, 4, none⟩ = some (.int .i64 2) := hZf.cell 4
  have ff0 := hZf.frozen 0
  have ff1 := hZf.frozen 1
  have ff2 := hZf.frozen 2
  have ff3 := hZf.frozen 3
  have ff4 := hZf.frozen 4
  refine bodyPost_ret (v := .tuple #[.agg #[.int .i64 K, .int .i64 op, .int .i64 x1, .int .i64 0, .int .i64 2], .int .i64 0]) (by simp [results, Try.results25, go_sem, f0, f1, f2, f3, f4]) rfl ?_
  refine ⟨?_, hBf⟩
  rw [hIw.out]
  rfl
set_option maxRecDepth 100000 in
set_option maxHeartbeats 2000000 in
theorem rdec_115 (ad : Addr) (c0 L : Nat) (K : Int) (op : Int) (w : World) (hlo : ad.block < w.heap.size) (hcell : w.cell? (ad.add K.toNat) = some (.int .u8 op)) (hop : 0 ≤ op ∧ op < 256) (hK0 : 0 ≤ K) (hk : K < L) (hm : L ≤ 9223372036854775807) (x1 : Int) (hx1 : w.cell? (ad.add (K + 1).toNat) = some (.int .u8 x1)) (hy1 : 0 ≤ x1 ∧ x1 < 256) (x2 : Int) (hx2 : w.cell? (ad.add (K + 2).toNat) = some (.int .u8 x2)) (hy2 : 0 ≤ x2 ∧ x2 < 256)
    (gs : ∀ w, Hid (Calls Try.prog 16 #[.int .i64 op] w fun e w' => e = .returned (.tuple #[.int .u8 115, .bool true]) ∧ Below w.heap.size w w'))
    (hs : K + 2 < L) (I : Ins) (hIw : Hid (I = ⟨K, op, (sbyte x1 * 256 + x2), 0, 3⟩)) :
    Calls Try.prog 25 #[.slice (some ad) L c0, .int .i64 K] w (DPost w I 0) := by
  have b4 : decide ((L : Int) - K < 3) = false := decide_eq_false (by omega)
  have hI0 := Blk.new (w.alloc (.cells #[.int .i64 0, .int .i64 0, .int .i64 0, .int .i64 0, .int .i64 0] 28)) 28 #[.int .i64 K, .int .i64 op, .int .i64 0, .int .i64 0, .int .i64 0]
  have hZa := (Blk.new w 28 #[.int .i64 0, .int .i64 0, .int .i64 0, .int .i64 0, .int .i64 0]).alloc (.cells #[.int .i64 K, .int .i64 op, .int .i64 0, .int .i64 0, .int .i64 0] 28)
  have hba : Below w.heap.size w ((w.alloc (.cells #[.int .i64 0, .int .i64 0, .int .i64 0, .int .i64 0, .int .i64 0] 28)).alloc (.cells #[.int .i64 K, .int .i64 op, .int .i64 0, .int .i64 0, .int .i64 0] 28)) := ((Below.refl w.heap.size w).alloc (Nat.le_refl _) _).alloc (by simp) _
  have hcell' : (w.alloc (.cells #[.int .i64 0, .int .i64 0, .int .i64 0, .int .i64 0, .int .i64 0] 28)).cell? (ad.add K.toNat) = some (.int .u8 op) := (((Below.refl w.heap.size w).alloc (Nat.le_refl _) _).cell (p := ad.add K.toNat) (by rw [block_of_add]; exact hlo)).trans hcell
  have hsz : (w.alloc (.cells #[.int .i64 0, .int .i64 0, .int .i64 0, .int .i64 0, .int .i64 0] 28)).heap.size = w.heap.size + 1 := by simp
  rw [hsz] at hI0
  have hw8 : IntKind.i64.wrap op = op := by rw [IntKind.wrap_i64]; omega
  have b1 : decide (K < 0) = false := decide_eq_false (by omega)
  have b2 : decide ((L : Int) < K) = false := decide_eq_false (by omega)
  have b3 : (K == (L : Int)) = false := by simpa using (show ¬ K = L by omega)
  go_enter Try.func25, Try.ntmps25
  go_wp2_with fail
  generalize (w.alloc (.cells #[.int .i64 0, .int .i64 0, .int .i64 0, .int .i64 0, .int .i64 0] 28)).alloc (.cells #[.int .i64 K, .int .i64 op, .int .i64 0, .int .i64 0, .int .i64 0] 28) = W at *
  refine (gs _).out.mono ?_
  rintro _ w1 ⟨rfl, hb1⟩
  have hI1 := hI0.below hb1 hI0.lt
  have hZ1 := hZa.below hb1 hZa.lt
  have hB1 := hba.trans (hb1.mono hba.size)
  have d0 : w1.cell? ⟨w.heap.size + 1, 0, none⟩ = some (.int .i64 K) := hI1.cell 0
  have d1 : w1.cell? ⟨w.heap.size + 1, 1, none⟩ = some (.int .i64 op) := hI1.cell 1
  have d2 : w1.cell? ⟨w.heap.size + 1, 2, none⟩ = some (.int .i64 0) := hI1.cell 2
  have d3 : w1.cell? ⟨w.heap.size + 1, 3, none⟩ = some (.int .i64 0) := hI1.cell 3
  have d4 : w1.cell? ⟨w.heap.size + 1, 4, none⟩ = some (.int .i64 0) := hI1.cell 4
  have df0 := hI1.frozen 0
  have df1 := hI1.frozen 1
  have df2 := hI1.frozen 2
  have df3 := hI1.frozen 3
  have df4 := hI1.frozen 4
  have z0 : w1.cell? ⟨w.heap.size, 0, none⟩ = some (.int .i64 0) := hZ1.cell 0
  have z1 : w1.cell? ⟨w.heap.size, 1, none⟩ = some (.int .i64 0) := hZ1.cell 1
  have z2 : w1.cell? ⟨w.heap.size, 2, none⟩ = some (.int .i64 0) := hZ1.cell 2
  have z3 : w1.cell? ⟨w.heap.size, 3, none⟩ = some (.int .i64 0) := hZ1.cell 3
  have z4 : w1.cell? ⟨w.heap.size, 4, none⟩ = some (.int .i64 0) := hZ1.cell 4
  have zf0 := hZ1.frozen 0
  have zf1 := hZ1.frozen 1
  have zf2 := hZ1.frozen 2
  have zf3 := hZ1.frozen 3
  have zf4 := hZ1.frozen 4
  have hlt1 : w.heap.size + 1 < w1.heap.size := hI1.lt
  have hZ1' := Lib.hid hZ1
  have hI1' := Lib.hid hI1
  have hB1' := Lib.hid hB1
  clear hI0 hZa hba hb1 hI1 hZ1 hB1 hcell hcell' hsz hw8 gs
  have hx : ∀ w, Calls Try.prog 45 #[.int .u8 115] w fun e w' => e = .returned (.int .i64 2) ∧ w = w' := extra_any 115
  have q3 := w64_3 hm hK0 hk
  have c1 : w1.cell? (ad.add (K + 1).toNat) = some (.int .u8 x1) := (hB1'.out.cell (p := ad.add (K + 1).toNat) (by rw [block_of_add]; exact hlo)).trans hx1
  have g1 : (ad.add (K + 1).toNat).block < w.heap.size := by rw [block_of_add]; exact hlo
  obtain ⟨a1, ha1⟩ : ∃ a, ad.add (K + 1).toNat = a := ⟨_, rfl⟩
  rw [ha1] at c1 g1
  have q5 := w64_5 hm hK0 hk
  clear hx1
  have c2 : w1.cell? (ad.add (K + 2).toNat) = some (.int .u8 x2) := (hB1'.out.cell (p := ad.add (K + 2).toNat) (by rw [block_of_add]; exact hlo)).trans hx2
  have g2 : (ad.add (K + 2).toNat).block < w.heap.size := by rw [block_of_add]; exact hlo
  obtain ⟨a2, ha2⟩ : ∃ a, ad.add (K + 2).toNat = a := ⟨_, rfl⟩
  rw [ha2] at c2 g2
  have q7 := w64_7 hm hK0 hs
  clear hx2
  go_wp2_with fail
  refine (hx _).mono ?_
  rintro _ _ ⟨rfl, rfl⟩
  have hne : ¬ w.heap.size = (⟨w.heap.size + 1, 0, none⟩ : Addr).block := by show ¬ w.heap.size = w.heap.size + 1; omega
  have hIv : Blk (w1.setCell ⟨w.heap.size + 1, 4, none⟩ (.int .i64 3)) (w.heap.size + 1) 28 #[.int .i64 K, .int .i64 op, .int .i64 0, .int .i64 0, .int .i64 3] := hI1'.out.set_ 4 _
  have hZv : Blk (w1.setCell ⟨w.heap.size + 1, 4, none⟩ (.int .i64 3)) w.heap.size 28 #[.int .i64 0, .int .i64 0, .int .i64 0, .int .i64 0, .int .i64 0] := hZ1'.out.far (p := ⟨w.heap.size + 1, 4, none⟩) hne _
  have hBv : Below w.heap.size w (w1.setCell ⟨w.heap.size + 1, 4, none⟩ (.int .i64 3)) := hB1'.out.setCell (p := ⟨w.heap.size + 1, 4, none⟩) (Nat.le_succ _) _
  have c1v : (w1.setCell ⟨w.heap.size + 1, 4, none⟩ (.int .i64 3)).cell? a1 = some (.int .u8 x1) := (World.cell?_setCell_other _ _ _ _ (fun e => by subst e; exact absurd g1 (by show ¬ w.heap.size + 1 < w.heap.size; omega))).trans c1
  have c2v : (w1.setCell ⟨w.heap.size + 1, 4, none⟩ (.int .i64 3)).cell? a2 = some (.int .u8 x2) := (World.cell?_setCell_other _ _ _ _ (fun e => by subst e; exact absurd g2 (by show ¬ w.heap.size + 1 < w.heap.size; omega))).trans c2
  replace hIv := Lib.hid hIv
  replace hZv := Lib.hid hZv
  replace hBv := Lib.hid hBv
  replace c1v := Lib.hid c1v
  replace c2v := Lib.hid c2v
  go_wp2_with fail
  obtain ⟨A, hA⟩ : ∃ v, v = (sbyte x1 * 256 + x2) := ⟨_, rfl⟩
  rw [← hA] at hIw
  have wA : wrap64 (IntKind.i16.wrap (bits BinOp.or IntKind.u16 (x1 * 256) x2)) = A := by rw [hA]; exact wr_i16 hy1 hy2
  clear hA
  clear d0 d1 d2 d3 d4 df0 df1 df2 df3 df4 z0 z1 z2 z3 z4 zf0 zf1 zf2 zf3 zf4 hZ1' hI1' hB1' hx c1 c2
  have hltv : w.heap.size + 1 < (w1.setCell ⟨w.heap.size + 1, 4, none⟩ (.int .i64 3)).heap.size := hIv.out.lt
  generalize (w1.setCell ⟨w.heap.size + 1, 4, none⟩ (.int .i64 3)) = V at *
  have c1 := c1v.out
  have c2 := c2v.out
  have d0 : V.cell? ⟨w.heap.size + 1, 0, none⟩ = some (.int .i64 K) := hIv.out.cell 0
  have d1 : V.cell? ⟨w.heap.size + 1, 1, none⟩ = some (.int .i64 op) := hIv.out.cell 1
  have d2 : V.cell? ⟨w.heap.size + 1, 2, none⟩ = some (.int .i64 0) := hIv.out.cell 2
  have d3 : V.cell? ⟨w.heap.size + 1, 3, none⟩ = some (.int .i64 0) := hIv.out.cell 3
  have d4 : V.cell? ⟨w.heap.size + 1, 4, none⟩ = some (.int .i64 3) := hIv.out.cell 4
  have df0 := hIv.out.frozen 0
  have df1 := hIv.out.frozen 1
  have df2 := hIv.out.frozen 2
  have df3 := hIv.out.frozen 3
  have df4 := hIv.out.frozen 4
  have z0 : V.cell? ⟨w.heap.size, 0, none⟩ = some (.int .i64 0) := hZv.out.cell 0
  have z1 : V.cell? ⟨w.heap.size, 1, none⟩ = some (.int .i64 0) := hZv.out.cell 1
  have z2 : V.cell? ⟨w.heap.size, 2, none⟩ = some (.int .i64 0) := hZv.out.cell 2
  have z3 : V.cell? ⟨w.heap.size, 3, none⟩ = some (.int .i64 0) := hZv.out.cell 3
  have z4 : V.cell? ⟨w.heap.size, 4, none⟩ = some (.int .i64 0) := hZv.out.cell 4
  have zf0 := hZv.out.frozen 0
  have zf1 := hZv.out.frozen 1
  have zf2 := hZv.out.frozen 2
  have zf3 := hZv.out.frozen 3
  have zf4 := hZv.out.frozen 4
  go_region
  have hI2 : Blk (V.setCell ⟨w.heap.size + 1, 2, none⟩ (.int .i64 A)).drew (w.heap.size + 1) 28 #[.int .i64 K, .int .i64 op, .int .i64 A, .int .i64 0, .int .i64 3] := hIv.out.set_ 2 _
  have hZ2 : Blk (V.setCell ⟨w.heap.size + 1, 2, none⟩ (.int .i64 A)).drew w.heap.size 28 #[.int .i64 0, .int .i64 0, .int .i64 0, .int .i64 0, .int .i64 0] := hZv.out.far (p := ⟨w.heap.size + 1, 2, none⟩) hne _
  have hB2 : Below w.heap.size w (V.setCell ⟨w.heap.size + 1, 2, none⟩ (.int .i64 A)).drew := (hBv.out.setCell (p := ⟨w.heap.size + 1, 2, none⟩) (Nat.le_succ _) _).drew
  clear d0 d1 d2 d3 d4 df0 df1 df2 df3 df4 z0 z1 z2 z3 z4 zf0 zf1 zf2 zf3 zf4 c1 c2
  generalize (V.setCell ⟨w.heap.size + 1, 2, none⟩ (.int .i64 A)).drew = V2 at *
  have d0 : V2.cell? ⟨w.heap.size + 1, 0, none⟩ = some (.int .i64 K) := hI2.cell 0
  have d1 : V2.cell? ⟨w.heap.size + 1, 1, none⟩ = some (.int .i64 op) := hI2.cell 1
  have d2 : V2.cell? ⟨w.heap.size + 1, 2, none⟩ = some (.int .i64 A) := hI2.cell 2
  have d3 : V2.cell? ⟨w.heap.size + 1, 3, none⟩ = some (.int .i64 0) := hI2.cell 3
  have d4 : V2.cell? ⟨w.heap.size + 1, 4, none⟩ = some (.int .i64 3) := hI2.cell 4
  have df0 := hI2.frozen 0
  have df1 := hI2.frozen 1
  have df2 := hI2.frozen 2
  have df3 := hI2.frozen 3
  have df4 := hI2.frozen 4
  have z0 : V2.cell? ⟨w.heap.size, 0, none⟩ = some (.int .i64 0) := hZ2.cell 0
  have z1 : V2.cell? ⟨w.heap.size, 1, none⟩ = some (.int .i64 0) := hZ2.cell 1
  have z2 : V2.cell? ⟨w.heap.size, 2, none⟩ = some (.int .i64 0) := hZ2.cell 2
  have z3 : V2.cell? ⟨w.heap.size, 3, none⟩ = some (.int .i64 0) := hZ2.cell 3
  have z4 : V2.cell? ⟨w.heap.size, 4, none⟩ = some (.int .i64 0) := hZ2.cell 4
  have zf0 := hZ2.frozen 0
  have zf1 := hZ2.frozen 1
  have zf2 := hZ2.frozen 2
  have zf3 := hZ2.frozen 3
  have zf4 := hZ2.frozen 4
  go_wp2_with fail
  have hZf : Blk (((((V2.setCell ⟨w.heap.size, 0, none⟩ (.int .i64 K)).setCell ⟨w.heap.size, 1, none⟩ (.int .i64 op)).setCell ⟨w.heap.size, 2, none⟩ (.int .i64 A)).setCell ⟨w.heap.size, 3, none⟩ (.int .i64 0)).setCell ⟨w.heap.size, 4, none⟩ (.int .i64 3)) w.heap.size 28 #[.int .i64 K, .int .i64 op, .int .i64 A, .int .i64 0, .int .i64 3] := (((((hZ2.set_ 0 (.int .i64 K)).set_ 1 (.int .i64 op)).set_ 2 (.int .i64 A)).set_ 3 (.int .i64 0)).set_ 4 (.int .i64 3))
  have hBf : Below w.heap.size w (((((V2.setCell ⟨w.heap.size, 0, none⟩ (.int .i64 K)).setCell ⟨w.heap.size, 1, none⟩ (.int .i64 op)).setCell ⟨w.heap.size, 2, none⟩ (.int .i64 A)).setCell ⟨w.heap.size, 3, none⟩ (.int .i64 0)).setCell ⟨w.heap.size, 4, none⟩ (.int .i64 3)) := (((((hB2.setCell (p := ⟨w.heap.size, 0, none⟩) (Nat.le_refl _) (.int .i64 K)).setCell (p := ⟨w.heap.size, 1, none⟩) (Nat.le_refl _) (.int .i64 op)).setCell (p := ⟨w.heap.size, 2, none⟩) (Nat.le_refl _) (.int .i64 A)).setCell (p := ⟨w.heap.size, 3, none⟩) (Nat.le_refl _) (.int .i64 0)).setCell (p := ⟨w.heap.size, 4, none⟩) (Nat.le_refl _) (.int .i64 3))
  clear d0 d1 d2 d3 d4 df0 df1 df2 df3 df4 z0 z1 z2 z3 z4 zf0 zf1 zf2 zf3 zf4
  generalize (((((V2.setCell ⟨w.heap.size, 0, none⟩ (.int .i64 K)).setCell ⟨w.heap.size, 1, none⟩ (.int .i64 op)).setCell ⟨w.heap.size, 2, none⟩ (.int .i64 A)).setCell ⟨w.heap.size, 3, none⟩ (.int .i64 0)).setCell ⟨w.heap.size, 4, none⟩ (.int .i64 3)) = Wf at *
  have f0 : Wf.cell? ⟨w.heap.size, 0, none⟩ = some (.int .i64 K) := hZf.cell 0
  have f1 : Wf.cell? ⟨w.heap.size, 1, none⟩ = some (.int .i64 op) := hZf.cell 1
  have f2 : Wf.cell? ⟨w.heap.size, 2, none⟩ = some (.int .i64 A) := hZf.cell 2
  have f3 : Wf.cell? ⟨w.heap.size, 3, none⟩ = some (.int .i64 0) := hZf.cell 3
  have f4 : Wf.cell? ⟨w.heap.size, 4, none⟩ = some (.int .i64 3) := hZf.cell 4
  have ff0 := hZf.frozen 0
  have ff1 := hZf.frozen 1
  have ff2 := hZf.frozen 2
  have ff3 := hZf.frozen 3
  have ff4 := hZf.frozen 4
  refine bodyPost_ret (v := .tuple #[.agg #[.int .i64 K, .int .i64 op, .int .i64 A, .int .i64 0, .int .i64 3], .int .i64 0]) (by simp [results, Try.results25, go_sem, f0, f1, f2, f3, f4]) rfl ?_
  refine ⟨?_, hBf⟩
  rw [hIw.out]
  rfl
set_option maxRecDepth 100000 in
set_option maxHeartbeats 2000000 in
theorem rdec_99 (ad : Addr) (c0 L : Nat) (K : Int) (op : Int) (w : World) (hlo : ad.block < w.heap.size) (hcell : w.cell? (ad.add K.toNat) = some (.int .u8 op)) (hop : 0 ≤ op ∧ op < 256) (hK0 : 0 ≤ K) (hk : K < L) (hm : L ≤ 9223372036854775807) (x1 : Int) (hx1 : w.cell? (ad.add (K + 1).toNat) = some (.int .u8 x1)) (hy1 : 0 ≤ x1 ∧ x1 < 256) (x2 : Int) (hx2 : w.cell? (ad.add (K + 2).toNat) = some (.int .u8 x2)) (hy2 : 0 ≤ x2 ∧ x2 < 256)
    (gs : ∀ w, Hid (Calls Try.prog 16 #[.int .i64 op] w fun e w' => e = .returned (.tuple #[.int .u8 99, .bool true]) ∧ Below w.heap.size w w'))
    (hs : K + 2 < L) (I : Ins) (hIw : Hid (I = ⟨K, op, (x1 * 256 + x2), 0, 3⟩)) :
    Calls Try.prog 25 #[.slice (some ad) L c0, .int .i64 K] w (DPost w I 0) := by
  have b4 : decide ((L : Int) - K < 3) = false := decide_eq_false (by omega)
  have hI0 := Blk.new (w.alloc (.cells #[.int .i64 0, .int .i64 0, .int .i64 0, .int .i64 0, .int .i64 0] 28)) 28 #[.int .i64 K, .int .i64 op, .int .i64 0, .int .i64 0, .int .i64 0]
  have hZa := (Blk.new w 28 #[.int .i64 0, .int .i64 0, .int .i64 0, .int .i64 0, .int .i64 0]).alloc (.cells #[.int .i64 K, .int .i64 op, .int .i64 0, .int .i64 0, .int .i64 0] 28)
  have hba : Below w.heap.size w ((w.alloc (.cells #[.int .i64 0, .int .i64 0, .int .i64 0, .int .i64 0, .int .i64 0] 28)).alloc (.cells #[.int .i64 K, .int .i64 op, .int .i64 0, .int .i64 0, .int .i64 0] 28)) := ((Below.refl w.heap.size w).alloc (Nat.le_refl _) _).alloc (by simp) _
  have hcell' : (w.alloc (.cells #[.int .i64 0, .int .i64 0, .int .i64 0, .int .i64 0, .int .i64 0] 28)).cell? (ad.add K.toNat) = some (.int .u8 op) := (((Below.refl w.heap.size w).alloc (Nat.le_refl _) _).cell (p := ad.add K.toNat) (by rw [block_of_add]; exact hlo)).trans hcell
  have hsz : (w.alloc (.cells #[.int .i64 0, .int .i64 0, .int .i64 0, .int .i64 0, .int .i64 0] 28)).heap.size = w.heap.size + 1 := by simp
  rw [hsz] at hI0
  have hw8 : IntKind.i64.wrap op = op := by rw [IntKind.wrap_i64]; omega
  have b1 : decide (K < 0) = false := decide_eq_false (by omega)
  have b2 : decide ((L : Int) < K) = false := decide_eq_false (by omega)
  have b3 : (K == (L : Int)) = false := by simpa using (show ¬ K = L by omega)
  go_enter Try.func25, Try.ntmps25
  go_wp2_with fail
  generalize (w.alloc (.cells #[.int .i64 0, .int .i64 0, .int .i64 0, .int .i64 0, .int .i64 0] 28)).alloc (.cells #[.int .i64 K, .int .i64 op, .int .i64 0, .int .i64 0, .int .i64 0] 28) = W at *
  refine (gs _).out.mono ?_
  rintro _ w1 ⟨rfl, hb1⟩
  have hI1 := hI0.below hb1 hI0.lt
  have hZ1 := hZa.below hb1 hZa.lt
  have hB1 := hba.trans (hb1.mono hba.size)
  have d0 : w1.cell? ⟨w.heap.size + 1, 0, none⟩ = some (.int .i64 K) := hI1.cell 0
  have d1 : w1.cell? ⟨w.heap.size + 1, 1, none⟩ = some (.int .i64 op) := hI1.cell 1
  have d2 : w1.cell? ⟨w.heap.size + 1, 2, none⟩ = some (.int .i64 0) := hI1.cell 2
  have d3 : w1.cell? ⟨w.heap.size + 1, 3, none⟩ = some (.int .i64 0) := hI1.cell 3
  have d4 : w1.cell? ⟨w.heap.size + 1, 4, none⟩ = some (.int .i64 0) := hI1.cell 4
  have df0 := hI1.frozen 0
  have df1 := hI1.frozen 1
  have df2 := hI1.frozen 2
  have df3 := hI1.frozen 3
  have df4 := hI1.frozen 4
  have z0 : w1.cell? ⟨w.heap.size, 0, none⟩ = some (.int .i64 0) := hZ1.cell 0
  have z1 : w1.cell? ⟨w.heap.size, 1, none⟩ = some (.int .i64 0) := hZ1.cell 1
  have z2 : w1.cell? ⟨w.heap.size, 2, none⟩ = some (.int .i64 0) := hZ1.cell 2
  have z3 : w1.cell? ⟨w.heap.size, 3, none⟩ = some (.int .i64 0) := hZ1.cell 3
  have z4 : w1.cell? ⟨w.heap.size, 4, none⟩ = some (.int .i64 0) := hZ1.cell 4
  have zf0 := hZ1.frozen 0
  have zf1 := hZ1.frozen 1
  have zf2 := hZ1.frozen 2
  have zf3 := hZ1.frozen 3
  have zf4 := hZ1.frozen 4
  have hlt1 : w.heap.size + 1 < w1.heap.size := hI1.lt
  have hZ1' := Lib.hid hZ1
  have hI1' := Lib.hid hI1
  have hB1' := Lib.hid hB1
  clear hI0 hZa hba hb1 hI1 hZ1 hB1 hcell hcell' hsz hw8 gs
  have hx : ∀ w, Calls Try.prog 45 #[.int .u8 99] w fun e w' => e = .returned (.int .i64 2) ∧ w = w' := extra_any 99
  have q3 := w64_3 hm hK0 hk
  have c1 : w1.cell? (ad.add (K + 1).toNat) = some (.int .u8 x1) := (hB1'.out.cell (p := ad.add (K + 1).toNat) (by rw [block_of_add]; exact hlo)).trans hx1
  have g1 : (ad.add (K + 1).toNat).block < w.heap.size := by rw [block_of_add]; exact hlo
  obtain ⟨a1, ha1⟩ : ∃ a, ad.add (K + 1).toNat = a := ⟨_, rfl⟩
  rw [ha1] at c1 g1
  have q5 := w64_5 hm hK0 hk
  clear hx1
  have c2 : w1.cell? (ad.add (K + 2).toNat) = some (.int .u8 x2) := (hB1'.out.cell (p := ad.add (K + 2).toNat) (by rw [block_of_add]; exact hlo)).trans hx2
  have g2 : (ad.add (K + 2).toNat).block < w.heap.size := by rw [block_of_add]; exact hlo
  obtain ⟨a2, ha2⟩ : ∃ a, ad.add (K + 2).toNat = a := ⟨_, rfl⟩
  rw [ha2] at c2 g2
  have q7 := w64_7 hm hK0 hs
  clear hx2
  go_wp2_with fail
  refine (hx _).mono ?_
  rintro _ _ ⟨rfl, rfl⟩
  have hne : ¬ w.heap.size = (⟨w.heap.size + 1, 0, none⟩ : Addr).block := by show ¬ w.heap.size = w.heap.size + 1; omega
  have hIv : Blk (w1.setCell ⟨w.heap.size + 1, 4, none⟩ (.int .i64 3)) (w.heap.size + 1) 28 #[.int .i64 K, .int .i64 op, .int .i64 0, .int .i64 0, .int .i64 3] := hI1'.out.set_ 4 _
  have hZv : Blk (w1.setCell ⟨w.heap.size + 1, 4, none⟩ (.int .i64 3)) w.heap.size 28 #[.int .i64 0, .int .i64 0, .int .i64 0, .int .i64 0, .int .i64 0] := hZ1'.out.far (p := ⟨w.heap.size + 1, 4, none⟩) hne _
  have hBv : Below w.heap.size w (w1.setCell ⟨w.heap.size + 1, 4, none⟩ (.int .i64 3)) := hB1'.out.setCell (p := ⟨w.heap.size + 1, 4, none⟩) (Nat.le_succ _) _
  have c1v : (w1.setCell ⟨w.heap.size + 1, 4, none⟩ (.int .i64 3)).cell? a1 = some (.int .u8 x1) := (World.cell?_setCell_other _ _ _ _ (fun e => by subst e; exact absurd g1 (by show ¬ w.heap.size + 1 < w.heap.size; omega))).trans c1
  have c2v : (w1.setCell ⟨w.heap.size + 1, 4, none⟩ (.int .i64 3)).cell? a2 = some (.int .u8 x2) := (World.cell?_setCell_other _ _ _ _ (fun e => by subst e; exact absurd g2 (by show ¬ w.heap.size + 1 < w.heap.size; omega))).trans c2
  replace hIv := Lib.hid hIv
  replace hZv := Lib.hid hZv
  replace hBv := Lib.hid hBv
  replace c1v := Lib.hid c1v
  replace c2v := Lib.hid c2v
  go_wp2_with fail
  obtain ⟨A, hA⟩ : ∃ v, v = (x1 * 256 + x2) := ⟨_, rfl⟩
  rw [← hA] at hIw
  have wA : bits BinOp.or IntKind.i64 (x1 * 256) x2 = A := by rw [hA]; exact wr_or hy1 hy2
  clear hA
  clear d0 d1 d2 d3 d4 df0 df1 df2 df3 df4 z0 z1 z2 z3 z4 zf0 zf1 zf2 zf3 zf4 hZ1' hI1' hB1' hx c1 c2
  have hltv : w.heap.size + 1 < (w1.setCell ⟨w.heap.size + 1, 4, none⟩ (.int .i64 3)).heap.size := hIv.out.lt
  generalize (w1.setCell ⟨w.heap.size + 1, 4, none⟩ (.int .i64 3)) = V at *
  have c1 := c1v.out
  have c2 := c2v.out
  have d0 : V.cell? ⟨w.heap.size + 1, 0, none⟩ = some (.int .i64 K) := hIv.out.cell 0
  have d1 : V.cell? ⟨w.heap.size + 1, 1, none⟩ = some (.int .i64 op) := hIv.out.cell 1
  have d2 : V.cell? ⟨w.heap.size + 1, 2, none⟩ = some (.int .i64 0) := hIv.out.cell 2
  have d3 : V.cell? ⟨w.heap.size + 1, 3, none⟩ = some (.int .i64 0) := hIv.out.cell 3
  have d4 : V.cell? ⟨w.heap.size + 1, 4, none⟩ = some (.int .i64 3) := hIv.out.cell 4
  have df0 := hIv.out.frozen 0
  have df1 := hIv.out.frozen 1
  have df2 := hIv.out.frozen 2
  have df3 := hIv.out.frozen 3
  have df4 := hIv.out.frozen 4
  have z0 : V.cell? ⟨w.heap.size, 0, none⟩ = some (.int .i64 0) := hZv.out.cell 0
  have z1 : V.cell? ⟨w.heap.size, 1, none⟩ = some (.int .i64 0) := hZv.out.cell 1
  have z2 : V.cell? ⟨w.heap.size, 2, none⟩ = some (.int .i64 0) := hZv.out.cell 2
  have z3 : V.cell? ⟨w.heap.size, 3, none⟩ = some (.int .i64 0) := hZv.out.cell 3
  have z4 : V.cell? ⟨w.heap.size, 4, none⟩ = some (.int .i64 0) := hZv.out.cell 4
  have zf0 := hZv.out.frozen 0
  have zf1 := hZv.out.frozen 1
  have zf2 := hZv.out.frozen 2
  have zf3 := hZv.out.frozen 3
  have zf4 := hZv.out.frozen 4
  go_region
  have hI2 : Blk (V.setCell ⟨w.heap.size + 1, 2, none⟩ (.int .i64 A)).drew (w.heap.size + 1) 28 #[.int .i64 K, .int .i64 op, .int .i64 A, .int .i64 0, .int .i64 3] := hIv.out.set_ 2 _
  have hZ2 : Blk (V.setCell ⟨w.heap.size + 1, 2, none⟩ (.int .i64 A)).drew w.heap.size 28 #[.int .i64 0, .int .i64 0, .int .i64 0, .int .i64 0, .int .i64 0] := hZv.out.far (p := ⟨w.heap.size + 1, 2, none⟩) hne _
  have hB2 : Below w.heap.size w (V.setCell ⟨w.heap.size + 1, 2, none⟩ (.int .i64 A)).drew := (hBv.out.setCell (p := ⟨w.heap.size + 1, 2, none⟩) (Nat.le_succ _) _).drew
  clear d0 d1 d2 d3 d4 df0 df1 df2 df3 df4 z0 z1 z2 z3 z4 zf0 zf1 zf2 zf3 zf4 c1 c2
  generalize (V.setCell ⟨w.heap.size + 1, 2, none⟩ (.int .i64 A)).drew = V2 at *
  have d0 : V2.cell? ⟨w.heap.size + 1, 0, none⟩ = some (.int .i64 K) := hI2.cell 0
  have d1 : V2.cell? ⟨w.heap.size + 1, 1, none⟩ = some (.int .i64 op) := hI2.cell 1
  have d2 : V2.cell? ⟨w.heap.size + 1, 2, none⟩ = some (.int .i64 A) := hI2.cell 2
  have d3 : V2.cell? ⟨w.heap.size + 1, 3, none⟩ = some (.int .i64 0) := hI2.cell 3
  have d4 : V2.cell? ⟨w.heap.size + 1, 4, none⟩ = some (.int .i64 3) := hI2.cell 4
  have df0 := hI2.frozen 0
  have df1 := hI2.frozen 1
  have df2 := hI2.frozen 2
  have df3 := hI2.frozen 3
  have df4 := hI2.frozen 4
  have z0 : V2.cell? ⟨w.heap.size, 0, none⟩ = some (.int .i64 0) := hZ2.cell 0
  have z1 : V2.cell? ⟨w.heap.size, 1, none⟩ = some (.int .i64 0) := hZ2.cell 1
  have z2 : V2.cell? ⟨w.heap.size, 2, none⟩ = some (.int .i64 0) := hZ2.cell 2
  have z3 : V2.cell? ⟨w.heap.size, 3, none⟩ = some (.int .i64 0) := hZ2.cell 3
  have z4 : V2.cell? ⟨w.heap.size, 4, none⟩ = some (.int .i64 0) := hZ2.cell 4
  have zf0 := hZ2.frozen 0
  have zf1 := hZ2.frozen 1
  have zf2 := hZ2.frozen 2
  have zf3 := hZ2.frozen 3
  have zf4 := hZ2.frozen 4
  go_wp2_with fail
  have hZf : Blk (((((V2.setCell ⟨w.heap.size, 0, none⟩ (.int .i64 K)).setCell ⟨w.heap.size, 1, none⟩ (.int .i64 op)).setCell ⟨w.heap.size, 2, none⟩ (.int .i64 A)).setCell ⟨w.heap.size, 3, none⟩ (.int .i64 0)).setCell ⟨w.heap.size, 4, none⟩ (.int .i64 3)) w.heap.size 28 #[.int .i64 K, .int .i64 op, .int .i64 A, .int .i64 0, .int .i64 3] := (((((hZ2.set_ 0 (.int .i64 K)).set_ 1 (.int .i64 op)).set_ 2 (.int .i64 A)).set_ 3 (.int .i64 0)).set_ 4 (.int .i64 3))
  have hBf : Below w.heap.size w (((((V2.setCell ⟨w.heap.size, 0, none⟩ (.int .i64 K)).setCell ⟨w.heap.size, 1, none⟩ (.int .i64 op)).setCell ⟨w.heap.size, 2, none⟩ (.int .i64 A)).setCell ⟨w.heap.size, 3, none⟩ (.int .i64 0)).setCell ⟨w.heap.size, 4, none⟩ (.int .i64 3)) := (((((hB2.setCell (p := ⟨w.heap.size, 0, none⟩) (Nat.le_refl _) (.int .i64 K)).setCell (p := ⟨w.heap.size, 1, none⟩) (Nat.le_refl _) (.int .i64 op)).setCell (p := ⟨w.heap.size, 2, none⟩) (Nat.le_refl _) (.int .i64 A)).setCell (p := ⟨w.heap.size, 3, none⟩) (Nat.le_refl _) (.int .i64 0)).setCell (p := ⟨w.heap.size, 4, none⟩) (Nat.le_refl _) (.int .i64 3))
  clear d0 d1 d2 d3 d4 df0 df1 df2 df3 df4 z0 z1 z2 z3 z4 zf0 zf1 zf2 zf3 zf4
  generalize (((((V2.setCell ⟨w.heap.size, 0, none⟩ (.int .i64 K)).setCell ⟨w.heap.size, 1, none⟩ (.int .i64 op)).setCell ⟨w.heap.size, 2, none⟩ (.int .i64 A)).setCell ⟨w.heap.size, 3, none⟩ (.int .i64 0)).setCell ⟨w.heap.size, 4, none⟩ (.int .i64 3)) = Wf at *
  have f0 : Wf.cell? ⟨w.heap.size, 0, none⟩ = some (.int .i64 K) := hZf.cell 0
  have f1 : Wf.cell? ⟨w.heap.size, 1, none⟩ = some (.int .i64 op) := hZf.cell 1
  have f2 : Wf.cell? ⟨w.heap.size, 2, none⟩ = some (.int .i64 A) := hZf.cell 2
  have f3 : Wf.cell? ⟨w.heap.size, 3, none⟩ = some (.int .i64 0) := hZf.cell 3
  have f4 : Wf.cell? ⟨w.heap.size, 4, none⟩ = some (.int .i64 3) := hZf.cell 4
  have ff0 := hZf.frozen 0
  have ff1 := hZf.frozen 1
  have ff2 := hZf.frozen 2
  have ff3 := hZf.frozen 3
  have ff4 := hZf.frozen 4
  refine bodyPost_ret (v := .tuple #[.agg #[.int .i64 K, .int .i64 op, .int .i64 A, .int .i64 0, .int .i64 3], .int .i64 0]) (by simp [results, Try.results25, go_sem, f0, f1, f2, f3, f4]) rfl ?_
  refine ⟨?_, hBf⟩
  rw [hIw.out]
  rfl
set_option maxRecDepth 100000 in
set_option maxHeartbeats 2000000 in
theorem rdec_116 (ad : Addr) (c0 L : Nat) (K : Int) (op : Int) (w : World) (hlo : ad.block < w.heap.size) (hcell : w.cell? (ad.add K.toNat) = some (.int .u8 op)) (hop : 0 ≤ op ∧ op < 256) (hK0 : 0 ≤ K) (hk : K < L) (hm : L ≤ 9223372036854775807) (x1 : Int) (hx1 : w.cell? (ad.add (K + 1).toNat) = some (.int .u8 x1)) (hy1 : 0 ≤ x1 ∧ x1 < 256) (x2 : Int) (hx2 : w.cell? (ad.add (K + 2).toNat) = some (.int .u8 x2)) (hy2 : 0 ≤ x2 ∧ x2 < 256)
    (gs : ∀ w, Hid (Calls Try.prog 16 #[.int .i64 op] w fun e w' => e = .returned (.tuple #[.int .u8 116, .bool true]) ∧ Below w.heap.size w w'))
    (hs : K + 2 < L) (I : Ins) (hIw : Hid (I = ⟨K, op, (wrap64 (sbyte x1 * 256 + x2 + K)), 0, 3⟩)) :
    Calls Try.prog 25 #[.slice (some ad) L c0, .int .i64 K] w (DPost w I 0) := by
  have b4 : decide ((L : Int) - K < 3) = false := decide_eq_false (by omega)
  have hI0 := Blk.new (w.alloc (.cells #[.int .i64 0, .int .i64 0, .int .i64 0, .int .i64 0, .int .i64 0] 28)) 28 #[.int .i64 K, .int .i64 op, .int .i64 0, .int .i64 0, .int .i64 0]
  have hZa := (Blk.new w 28 #[.int .i64 0, .int .i64 0, .int .i64 0, .int .i64 0, .int .i64 0]).alloc (.cells #[.int .i64 K, .int .i64 op, .int .i64 0, .int .i64 0, .int .i64 0] 28)
  have hba : Below w.heap.size w ((w.alloc (.cells #[.int .i64 0, .int .i64 0, .int .i64 0, .int .i64 0, .int .i64 0] 28)).alloc (.cells #[.int .i64 K, .int .i64 op, .int .i64 0, .int .i64 0, .int .i64 0] 28)) := ((Below.refl w.heap.size w).alloc (Nat.le_refl _) _).alloc (by simp) _
  have hcell' : (w.alloc (.cells #[.int .i64 0, .int .i64 0, .int .i64 0, .int .i64 0, .int .i64 0] 28)).cell? (ad.add K.toNat) = some (.int .u8 op) := (((Below.refl w.heap.size w).alloc (Nat.le_refl _) _).cell (p := ad.add K.toNat) (by rw [block_of_add]; exact hlo)).trans hcell
  have hsz : (w.alloc (.cells #[.int .i64 0, .int .i64 0, .int .i64 0, .int .i64 0, .int .i64 0] 28)).heap.size = w.heap.size + 1 := by simp
  rw [hsz] at hI0
  have hw8 : IntKind.i64.wrap op = op := by rw [IntKind.wrap_i64]; omega
  have b1 : decide (K < 0) = false := decide_eq_false (by omega)
  have b2 : decide ((L : Int) < K) = false := decide_eq_false (by omega)
  have b3 : (K == (L : Int)) = false := by simpa using (show ¬ K = L by omega)
  go_enter Try.func25, Try.ntmps25
  go_wp2_with fail
  generalize (w.alloc (.cells #[.int .i64 0, .int .i64 0, .int .i64 0, .int .i64 0, .int .i64 0] 28)).alloc (.cells #[.int .i64 K, .int .i64 op, .int .i64 0, .int .i64 0, .int .i64 0] 28) = W at *
  refine (gs _).out.mono ?_
  rintro _ w1 ⟨rfl, hb1⟩
  have hI1 := hI0.below hb1 hI0.lt
  have hZ1 := hZa.below hb1 hZa.lt
  have hB1 := hba.trans (hb1.mono hba.size)
  have d0 : w1.cell? ⟨w.heap.size + 1, 0, none⟩ = some (.int .i64 K) := hI1.cell 0
  have d1 : w1.cell? ⟨w.heap.size + 1, 1, none⟩ = some (.int .i64 op) := hI1.cell 1
  have d2 : w1.cell? ⟨w.heap.size + 1, 2, none⟩ = some (.int .i64 0) := hI1.cell 2
  have d3 : w1.cell? ⟨w.heap.size + 1, 3, none⟩ = some (.int .i64 0) := hI1.cell 3
  have d4 : w1.cell? ⟨w.heap.size + 1, 4, none⟩ = some (.int .i64 0) := hI1.cell 4
  have df0 := hI1.frozen 0
  have df1 := hI1.frozen 1
  have df2 := hI1.frozen 2
  have df3 := hI1.frozen 3
  have df4 := hI1.frozen 4
  have z0 : w1.cell? ⟨w.heap.size, 0, none⟩ = some (.int .i64 0) := hZ1.cell 0
  have z1 : w1.cell? ⟨w.heap.size, 1, none⟩ = some (.int .i64 0) := hZ1.cell 1
  have z2 : w1.cell? ⟨w.heap.size, 2, none⟩ = some (.int .i64 0) := hZ1.cell 2
  have z3 : w1.cell? ⟨w.heap.size, 3, none⟩ = some (.int .i64 0) := hZ1.cell 3
  have z4 : w1.cell? ⟨w.heap.size, 4, none⟩ = some (.int .i64 0) := hZ1.cell 4
  have zf0 := hZ1.frozen 0
  have zf1 := hZ1.frozen 1
  have zf2 := hZ1.frozen 2
  have zf3 := hZ1.frozen 3
  have zf4 := hZ1.frozen 4
  have hlt1 : w.heap.size + 1 < w1.heap.size := hI1.lt
  have hZ1' := Lib.hid hZ1
  have hI1' := Lib.hid hI1
  have hB1' := Lib.hid hB1
  clear hI0 hZa hba hb1 hI1 hZ1 hB1 hcell hcell' hsz hw8 gs
  have hx : ∀ w, Calls Try.prog 45 #[.int .u8 116] w fun e w' => e = .returned (.int .i64 2) ∧ w = w' := extra_any 116
  have q3 := w64_3 hm hK0 hk
  have c1 : w1.cell? (ad.add (K + 1).toNat) = some (.int .u8 x1) := (hB1'.out.cell (p := ad.add (K + 1).toNat) (by rw [block_of_add]; exact hlo)).trans hx1
  have g1 : (ad.add (K + 1).toNat).block < w.heap.size := by rw [block_of_add]; exact hlo
  obtain ⟨a1, ha1⟩ : ∃ a, ad.add (K + 1).toNat = a := ⟨_, rfl⟩
  rw [ha1] at c1 g1
  have q5 := w64_5 hm hK0 hk
  clear hx1
  have c2 : w1.cell? (ad.add (K + 2).toNat) = some (.int .u8 x2) := (hB1'.out.cell (p := ad.add (K + 2).toNat) (by rw [block_of_add]; exact hlo)).trans hx2
  have g2 : (ad.add (K + 2).toNat).block < w.heap.size := by rw [block_of_add]; exact hlo
  obtain ⟨a2, ha2⟩ : ∃ a, ad.add (K + 2).toNat = a := ⟨_, rfl⟩
  rw [ha2] at c2 g2
  have q7 := w64_7 hm hK0 hs
  clear hx2
  go_wp2_with fail
  refine (hx _).mono ?_
  rintro _ _ ⟨rfl, rfl⟩
  have hne : ¬ w.heap.size = (⟨w.heap.size + 1, 0, none⟩ : Addr).block := by show ¬ w.heap.size = w.heap.size + 1; omega
  have hIv : Blk (w1.setCell ⟨w.heap.size + 1, 4, none⟩ (.int .i64 3)) (w.heap.size + 1) 28 #[.int .i64 K, .int .i64 op, .int .i64 0, .int .i64 0, .int .i64 3] := hI1'.out.set_ 4 _
  have hZv : Blk (w1.setCell ⟨w.heap.size + 1, 4, none⟩ (.int .i64 3)) w.heap.size 28 #[.int .i64 0, .int .i64 0, .int .i64 0, .int .i64 0, .int .i64 0] := hZ1'.out.far (p := ⟨w.heap.size + 1, 4, none⟩) hne _
  have hBv : Below w.heap.size w (w1.setCell ⟨w.heap.size + 1, 4, none⟩ (.int .i64 3)) := hB1'.out.setCell (p := ⟨w.heap.size + 1, 4, none⟩) (Nat.le_succ _) _
  have c1v : (w1.setCell ⟨w.heap.size + 1, 4, none⟩ (.int .i64 3)).cell? a1 = some (.int .u8 x1) := (World.cell?_setCell_other _ _ _ _ (fun e => by subst e; exact absurd g1 (by show ¬ w.heap.size + 1 < w.heap.size; omega))).trans c1
  have c2v : (w1.setCell ⟨w.heap.size + 1, 4, none⟩ (.int .i64 3)).cell? a2 = some (.int .u8 x2) := (World.cell?_setCell_other _ _ _ _ (fun e => by subst e; exact absurd g2 (by show ¬ w.heap.size + 1 < w.heap.size; omega))).trans c2
  replace hIv := Lib.hid hIv
  replace hZv := Lib.hid hZv
  replace hBv := Lib.hid hBv
  replace c1v := Lib.hid c1v
  replace c2v := Lib.hid c2v
  go_wp2_with fail
  obtain ⟨A, hA⟩ : ∃ v, v = (wrap64 (sbyte x1 * 256 + x2 + K)) := ⟨_, rfl⟩
  rw [← hA] at hIw
  have wA : wrap64 (K + wrap64 (IntKind.i16.wrap (bits BinOp.or IntKind.u16 (x1 * 256) x2))) = A := by rw [hA]; exact wr_far K hy1 hy2
  clear hA
  clear d0 d1 d2 d3 d4 df0 df1 df2 df3 df4 z0 z1 z2 z3 z4 zf0 zf1 zf2 zf3 zf4 hZ1' hI1' hB1' hx c1 c2
  have hltv : w.heap.size + 1 < (w1.setCell ⟨w.heap.size + 1, 4, none⟩ (.int .i64 3)).heap.size := hIv.out.lt
  generalize (w1.setCell ⟨w.heap.size + 1, 4, none⟩ (.int .i64 3)) = V at *
  have c1 := c1v.out
  have c2 := c2v.out
  have d0 : V.cell? ⟨w.heap.size + 1, 0, none⟩ = some (.int .i64 K) := hIv.out.cell 0
  have d1 : V.cell? ⟨w.heap.size + 1, 1, none⟩ = some (.int .i64 op) := hIv.out.cell 1
  have d2 : V.cell? ⟨w.heap.size + 1, 2, none⟩ = some (.int .i64 0) := hIv.out.cell 2
  have d3 : V.cell? ⟨w.heap.size + 1, 3, none⟩ = some (.int .i64 0) := hIv.out.cell 3
  have d4 : V.cell? ⟨w.heap.size + 1, 4, none⟩ = some (.int .i64 3) := hIv.out.cell 4
  have df0 := hIv.out.frozen 0
  have df1 := hIv.out.frozen 1
  have df2 := hIv.out.frozen 2
  have df3 := hIv.out.frozen 3
  have df4 := hIv.out.frozen 4
  have z0 : V.cell? ⟨w.heap.size, 0, none⟩ = some (.int .i64 0) := hZv.out.cell 0
  have z1 : V.cell? ⟨w.heap.size, 1, none⟩ = some (.int .i64 0) := hZv.out.cell 1
  have z2 : V.cell? ⟨w.heap.size, 2, none⟩ = some (.int .i64 0) := hZv.out.cell 2
  have z3 : V.cell? ⟨w.heap.size, 3, none⟩ = some (.int .i64 0) := hZv.out.cell 3
  have z4 : V.cell? ⟨w.heap.size, 4, none⟩ = some (.int .i64 0) := hZv.out.cell 4
  have zf0 := hZv.out.frozen 0
  have zf1 := hZv.out.frozen 1
  have zf2 := hZv.out.frozen 2
  have zf3 := hZv.out.frozen 3
  have zf4 := hZv.out.frozen 4
  go_region
  have hI2 : Blk (V.setCell ⟨w.heap.size + 1, 2, none⟩ (.int .i64 A)).drew (w.heap.size + 1) 28 #[.int .i64 K, .int .i64 op, .int .i64 A, .int .i64 0, .int .i64 3] := hIv.out.set_ 2 _
  have hZ2 : Blk (V.setCell ⟨w.heap.size + 1, 2, none⟩ (.int .i64 A)).drew w.heap.size 28 #[.int .i64 0, .int .i64 0, .int .i64 0, .int .i64 0, .int .i64 0] := hZv.out.far (p := ⟨w.heap.size + 1, 2, none⟩) hne _
  have hB2 : Below w.heap.size w (V.setCell ⟨w.heap.size + 1, 2, none⟩ (.int .i64 A)).drew := (hBv.out.setCell (p := ⟨w.heap.size + 1, 2, none⟩) (Nat.le_succ _) _).drew
  clear d0 d1 d2 d3 d4 df0 df1 df2 df3 df4 z0 z1 z2 z3 z4 zf0 zf1 zf2 zf3 zf4 c1 c2
  generalize (V.setCell ⟨w.heap.size + 1, 2, none⟩ (.int .i64 A)).drew = V2 at *
  have d0 : V2.cell? ⟨w.heap.size + 1, 0, none⟩ = some (.int .i64 K) := hI2.cell 0
  have d1 : V2.cell? ⟨w.heap.size + 1, 1, none⟩ = some (.int .i64 op) := hI2.cell 1
  have d2 : V2.cell? ⟨w.heap.size + 1, 2, none⟩ = some (.int .i64 A) := hI2.cell 2
  have d3 : V2.cell? ⟨w.heap.size + 1, 3, none⟩ = some (.int .i64 0) := hI2.cell 3
  have d4 : V2.cell? ⟨w.heap.size + 1, 4, none⟩ = some (.int .i64 3) := hI2.cell 4
  have df0 := hI2.frozen 0
  have df1 := hI2.frozen 1
  have df2 := hI2.frozen 2
  have df3 := hI2.frozen 3
  have df4 := hI2.frozen 4
  have z0 : V2.cell? ⟨w.heap.size, 0, none⟩ = some (.int .i64 0) := hZ2.cell 0
  have z1 : V2.cell? ⟨w.heap.size, 1, none⟩ = some (.int .i64 0) := hZ2.cell 1
  have z2 : V2.cell? ⟨w.heap.size, 2, none⟩ = some (.int .i64 0) := hZ2.cell 2
  have z3 : V2.cell? ⟨w.heap.size, 3, none⟩ = some (.int .i64 0) := hZ2.cell 3
  have z4 : V2.cell? ⟨w.heap.size, 4, none⟩ = some (.int .i64 0) := hZ2.cell 4
  have zf0 := hZ2.frozen 0
  have zf1 := hZ2.frozen 1
  have zf2 := hZ2.frozen 2
  have zf3 := hZ2.frozen 3
  have zf4 := hZ2.frozen 4
  go_wp2_with fail
  have hZf : Blk (((((V2.setCell ⟨w.heap.size, 0, none⟩ (.int .i64 K)).setCell ⟨w.heap.size, 1, none⟩ (.int .i64 op)).setCell ⟨w.heap.size, 2, none⟩ (.int .i64 A)).setCell ⟨w.heap.size, 3, none⟩ (.int .i64 0)).setCell ⟨w.heap.size, 4, none⟩ (.int .i64 3)) w.heap.size 28 #[.int .i64 K, .int .i64 op, .int .i64 A, .int .i64 0, .int .i64 3] := (((((hZ2.set_ 0 (.int .i64 K)).set_ 1 (.int .i64 op)).set_ 2 (.int .i64 A)).set_ 3 (.int .i64 0)).set_ 4 (.int .i64 3))
  have hBf : Below w.heap.size w (((((V2.setCell ⟨w.heap.size, 0, none⟩ (.int .i64 K)).setCell ⟨w.heap.size, 1, none⟩ (.int .i64 op)).setCell ⟨w.heap.size, 2, none⟩ (.int .i64 A)).setCell ⟨w.heap.size, 3, none⟩ (.int .i64 0)).setCell ⟨w.heap.size, 4, none⟩ (.int .i64 3)) := (((((hB2.setCell (p := ⟨w.heap.size, 0, none⟩) (Nat.le_refl _) (.int .i64 K)).setCell (p := ⟨w.heap.size, 1, none⟩) (Nat.le_refl _) (.int .i64 op)).setCell (p := ⟨w.heap.size, 2, none⟩) (Nat.le_refl _) (.int .i64 A)).setCell (p := ⟨w.heap.size, 3, none⟩) (Nat.le_refl _) (.int .i64 0)).setCell (p := ⟨w.heap.size, 4, none⟩) (Nat.le_refl _) (.int .i64 3))
  clear d0 d1 d2 d3 d4 df0 df1 df2 df3 df4 z0 z1 z2 z3 z4 zf0 zf1 zf2 zf3 zf4
  generalize (((((V2.setCell ⟨w.heap.size, 0, none⟩ (.int .i64 K)).setCell ⟨w.heap.size, 1, none⟩ (.int .i64 op)).setCell ⟨w.heap.size, 2, none⟩ (.int .i64 A)).setCell ⟨w.heap.size, 3, none⟩ (.int .i64 0)).setCell ⟨w.heap.size, 4, none⟩ (.int .i64 3)) = Wf at *
  have f0 : Wf.cell? ⟨w.heap.size, 0, none⟩ = some (.int .i64 K) := hZf.cell 0
  have f1 : Wf.cell? ⟨w.heap.size, 1, none⟩ = some (.int .i64 op) := hZf.cell 1
  have f2 : Wf.cell? ⟨w.heap.size, 2, none⟩ = some (.int .i64 A) := hZf.cell 2
  have f3 : Wf.cell? ⟨w.heap.size, 3, none⟩ = some (.int .i64 0) := hZf.cell 3
  have f4 : Wf.cell? ⟨w.heap.size, 4, none⟩ = some (.int .i64 3) := hZf.cell 4
  have ff0 := hZf.frozen 0
  have ff1 := hZf.frozen 1
  have ff2 := hZf.frozen 2
  have ff3 := hZf.frozen 3
  have ff4 := hZf.frozen 4
  refine bodyPost_ret (v := .tuple #[.agg #[.int .i64 K, .int .i64 op, .int .i64 A, .int .i64 0, .int .i64 3], .int .i64 0]) (by simp [results, Try.results25, go_sem, f0, f1, f2, f3, f4]) rfl ?_
  refine ⟨?_, hBf⟩
  rw [hIw.out]
  rfl
set_option maxRecDepth 100000 in
set_option maxHeartbeats 2000000 in
theorem rdec_105 (ad : Addr) (c0 L : Nat) (K : Int) (op : Int) (w : World) (hlo : ad.block < w.heap.size) (hcell : w.cell? (ad.add K.toNat) = some (.int .u8 op)) (hop : 0 ≤ op ∧ op < 256) (hK0 : 0 ≤ K) (hk : K < L) (hm : L ≤ 9223372036854775807) (x1 : Int) (hx1 : w.cell? (ad.add (K + 1).toNat) = some (.int .u8 x1)) (hy1 : 0 ≤ x1 ∧ x1 < 256) (x2 : Int) (hx2 : w.cell? (ad.add (K + 2).toNat) = some (.int .u8 x2)) (hy2 : 0 ≤ x2 ∧ x2 < 256)
    (gs : ∀ w, Hid (Calls Try.prog 16 #[.int .i64 op] w fun e w' => e = .returned (.tuple #[.int .u8 105, .bool true]) ∧ Below w.heap.size w w'))
    (hs : K + 2 < L) (I : Ins) (hIw : Hid (I = ⟨K, op, x1, (sbyte x2), 3⟩)) :
    Calls Try.prog 25 #[.slice (some ad) L c0, .int .i64 K] w (DPost w I 0) := by
  have b4 : decide ((L : Int) - K < 3) = false := decide_eq_false (by omega)
  have hI0 := Blk.new (w.alloc (.cells #[.int .i64 0, .int .i64 0, .int .i64 0, .int .i64 0, .int .i64 0] 28)) 28 #[.int .i64 K, .int .i64 op, .int .i64 0, .int .i64 0, .int .i64 0]
  have hZa := (Blk.new w 28 #[.int .i64 0, .int .i64 0, .int .i64 0, .int .i64 0, .int .i64 0]).alloc (.cells #[.int .i64 K, .int .i64 op, .int .i64 0, .int .i64 0, .int .i64 0] 28)
  have hba : Below w.heap.size w ((w.alloc (.cells #[.int .i64 0, .int .i64 0, .int .i64 0, .int .i64 0, .int .i64 0] 28)).alloc (.cells #[.int .i64 K, .int .i64 op, .int .i64 0, .int .i64 0, .int .i64 0] 28)) := ((Below.refl w.heap.size w).alloc (Nat.le_refl _) _).alloc (by simp) _
  have hcell' : (w.alloc (.cells #[.int .i64 0, .int .i64 0, .int .i64 0, .int .i64 0, .int .i64 0] 28)).cell? (ad.add K.toNat) = some (.int .u8 op) := (((Below.refl w.heap.size w).alloc (Nat.le_refl _) _).cell (p := ad.add K.toNat) (by rw [block_of_add]; exact hlo)).trans hcell
  have hsz : (w.alloc (.cells #[.int .i64 0, .int .i64 0, .int .i64 0, .int .i64 0, .int .i64 0] 28)).heap.size = w.heap.size + 1 := by simp
  rw [hsz] at hI0
  have hw8 : IntKind.i64.wrap op = op := by rw [IntKind.wrap_i64]; omega
  have b1 : decide (K < 0) = false := decide_eq_false (by omega)
  have b2 : decide ((L : Int) < K) = false := decide_eq_false (by omega)
  have b3 : (K == (L : Int)) = false := by simpa using (show ¬ K = L by omega)
  go_enter Try.func25, Try.ntmps25
  go_wp2_with fail
  generalize (w.alloc (.cells #[.int .i64 0, .int .i64 0, .int .i64 0, .int .i64 0, .int .i64 0] 28)).alloc (.cells #[.int .i64 K, .int .i64 op, .int .i64 0, .int .i64 0, .int .i64 0] 28) = W at *
  refine (gs _).out.mono ?_
  rintro _ w1 ⟨rfl, hb1⟩
  have hI1 := hI0.below hb1 hI0.lt
  have hZ1 := hZa.below hb1 hZa.lt
  have hB1 := hba.trans (hb1.mono hba.size)
  have d0 : w1.cell? ⟨w.heap.size + 1, 0, none⟩ = some (.int .i64 K) := hI1.cell 0
  have d1 : w1.cell? ⟨w.heap.size + 1, 1, none⟩ = some (.int .i64 op) := hI1.cell 1
  have d2 : w1.cell? ⟨w.heap.size + 1, 2, none⟩ = some (.int .i64 0) := hI1.cell 2
  have d3 : w1.cell? ⟨w.heap.size + 1, 3, none⟩ = some (.int .i64 0) := hI1.cell 3
  have d4 : w1.cell? ⟨w.heap.size + 1, 4, none⟩ = some (.int .i64 0) := hI1.cell 4
  have df0 := hI1.frozen 0
  have df1 := hI1.frozen 1
  have df2 := hI1.frozen 2
  have df3 := hI1.frozen 3
  have df4 := hI1.frozen 4
  have z0 : w1.cell? ⟨w.heap.size, 0, none⟩ = some (.int .i64 0) := hZ1.cell 0
  have z1 : w1.cell? ⟨w.heap.size, 1, none⟩ = some (.int .i64 0) := hZ1.cell 1
  have z2 : w1.cell? ⟨w.heap.size, 2, none⟩ = some (.int .i64 0) := hZ1.cell 2
  have z3 : w1.cell? ⟨w.heap.size, 3, none⟩ = some (.int .i64 0) := hZ1.cell 3
  have z4 : w1.cell? ⟨w.heap.size, 4, none⟩ = some (.int .i64 0) := hZ1.cell 4
  have zf0 := hZ1.frozen 0
  have zf1 := hZ1.frozen 1
  have zf2 := hZ1.frozen 2
  have zf3 := hZ1.frozen 3
  have zf4 := hZ1.frozen 4
  have hlt1 : w.heap.size + 1 < w1.heap.size := hI1.lt
  have hZ1' := Lib.hid hZ1
  have hI1' := Lib.hid hI1
  have hB1' := Lib.hid hB1
  clear hI0 hZa hba hb1 hI1 hZ1 hB1 hcell hcell' hsz hw8 gs
  have hx : ∀ w, Calls Try.prog 45 #[.int .u8 105] w fun e w' => e = .returned (.int .i64 2) ∧ w = w' := extra_any 105
  have q3 := w64_3 hm hK0 hk
  have c1 : w1.cell? (ad.add (K + 1).toNat) = some (.int .u8 x1) := (hB1'.out.cell (p := ad.add (K + 1).toNat) (by rw [block_of_add]; exact hlo)).trans hx1
  have g1 : (ad.add (K + 1).toNat).block < w.heap.size := by rw [block_of_add]; exact hlo
  obtain ⟨a1, ha1⟩ : ∃ a, ad.add (K + 1).toNat = a := ⟨_, rfl⟩
  rw [ha1] at c1 g1
  have q5 := w64_5 hm hK0 hk
  clear hx1
  have c2 : w1.cell? (ad.add (K + 2).toNat) = some (.int .u8 x2) := (hB1'.out.cell (p := ad.add (K + 2).toNat) (by rw [block_of_add]; exact hlo)).trans hx2
  have g2 : (ad.add (K + 2).toNat).block < w.heap.size := by rw [block_of_add]; exact hlo
  obtain ⟨a2, ha2⟩ : ∃ a, ad.add (K + 2).toNat = a := ⟨_, rfl⟩
  rw [ha2] at c2 g2
  have q7 := w64_7 hm hK0 hs
  clear hx2
  go_wp2_with fail
  refine (hx _).mono ?_
  rintro _ _ ⟨rfl, rfl⟩
  have hne : ¬ w.heap.size = (⟨w.heap.size + 1, 0, none⟩ : Addr).block := by show ¬ w.heap.size = w.heap.size + 1; omega
  have hIv : Blk (w1.setCell ⟨w.heap.size + 1, 4, none⟩ (.int .i64 3)) (w.heap.size + 1) 28 #[.int .i64 K, .int .i64 op, .int .i64 0, .int .i64 0, .int .i64 3] := hI1'.out.set_ 4 _
  have hZv : Blk (w1.setCell ⟨w.heap.size + 1, 4, none⟩ (.int .i64 3)) w.heap.size 28 #[.int .i64 0, .int .i64 0, .int .i64 0, .int .i64 0, .int .i64 0] := hZ1'.out.far (p := ⟨w.heap.size + 1, 4, none⟩) hne _
  have hBv : Below w.heap.size w (w1.setCell ⟨w.heap.size + 1, 4, none⟩ (.int .i64 3)) := hB1'.out.setCell (p := ⟨w.heap.size + 1, 4, none⟩) (Nat.le_succ _) _
  have c1v : (w1.setCell ⟨w.heap.size + 1, 4, none⟩ (.int .i64 3)).cell? a1 = some (.int .u8 x1) := (World.cell?_setCell_other _ _ _ _ (fun e => by subst e; exact absurd g1 (by show ¬ w.heap.size + 1 < w.heap.size; omega))).trans c1
  have c2v : (w1.setCell ⟨w.heap.size + 1, 4, none⟩ (.int .i64 3)).cell? a2 = some (.int .u8 x2) := (World.cell?_setCell_other _ _ _ _ (fun e => by subst e; exact absurd g2 (by show ¬ w.heap.size + 1 < w.heap.size; omega))).trans c2
  replace hIv := Lib.hid hIv
  replace hZv := Lib.hid hZv
  replace hBv := Lib.hid hBv
  have c2w : ((w1.setCell ⟨w.heap.size + 1, 4, none⟩ (.int .i64 3)).setCell ⟨w.heap.size + 1, 2, none⟩ (.int .i64 x1)).cell? a2 = some (.int .u8 x2) := (World.cell?_setCell_other _ _ _ _ (fun e => by subst e; exact absurd g2 (by show ¬ w.heap.size + 1 < w.heap.size; omega))).trans c2v
  go_wp2_with fail
  have hZf : Blk ((((((((w1.setCell ⟨w.heap.size + 1, 4, none⟩ (.int .i64 3)).setCell ⟨w.heap.size + 1, 2, none⟩ (.int .i64 x1)).setCell ⟨w.heap.size + 1, 3, none⟩ (.int .i64 (wrap64 (IntKind.i8.wrap x2)))).setCell ⟨w.heap.size, 0, none⟩ (.int .i64 K)).setCell ⟨w.heap.size, 1, none⟩ (.int .i64 op)).setCell ⟨w.heap.size, 2, none⟩ (.int .i64 x1)).setCell ⟨w.heap.size, 3, none⟩ (.int .i64 (wrap64 (IntKind.i8.wrap x2)))).setCell ⟨w.heap.size, 4, none⟩ (.int .i64 3)) w.heap.size 28 #[.int .i64 K, .int .i64 op, .int .i64 x1, .int .i64 (wrap64 (IntKind.i8.wrap x2)), .int .i64 3] := (((((((hZv.out.far (p := ⟨w.heap.size + 1, 2, none⟩) hne (.int .i64 x1)).far (p := ⟨w.heap.size + 1, 3, none⟩) hne (.int .i64 (wrap64 (IntKind.i8.wrap x2)))).set_ 0 (.int .i64 K)).set_ 1 (.int .i64 op)).set_ 2 (.int .i64 x1)).set_ 3 (.int .i64 (wrap64 (IntKind.i8.wrap x2)))).set_ 4 (.int .i64 3))
  have hBf : Below w.heap.size w ((((((((w1.setCell ⟨w.heap.size + 1, 4, none⟩ (.int .i64 3)).setCell ⟨w.heap.size + 1, 2, none⟩ (.int .i64 x1)).setCell ⟨w.heap.size + 1, 3, none⟩ (.int .i64 (wrap64 (IntKind.i8.wrap x2)))).setCell ⟨w.heap.size, 0, none⟩ (.int .i64 K)).setCell ⟨w.heap.size, 1, none⟩ (.int .i64 op)).setCell ⟨w.heap.size, 2, none⟩ (.int .i64 x1)).setCell ⟨w.heap.size, 3, none⟩ (.int .i64 (wrap64 (IntKind.i8.wrap x2)))).setCell ⟨w.heap.size, 4, none⟩ (.int .i64 3)) := (((((((hBv.out.setCell (p := ⟨w.heap.size + 1, 2, none⟩) (Nat.le_succ _) (.int .i64 x1)).setCell (p := ⟨w.heap.size + 1, 3, none⟩) (Nat.le_succ _) (.int .i64 (wrap64 (IntKind.i8.wrap x2)))).setCell (p := ⟨w.heap.size, 0, none⟩) (Nat.le_refl _) (.int .i64 K)).setCell (p := ⟨w.heap.size, 1, none⟩) (Nat.le_refl _) (.int .i64 op)).setCell (p := ⟨w.heap.size, 2, none⟩) (Nat.le_refl _) (.int .i64 x1)).setCell (p := ⟨w.heap.size, 3, none⟩) (Nat.le_refl _) (.int .i64 (wrap64 (IntKind.i8.wrap x2)))).setCell (p := ⟨w.heap.size, 4, none⟩) (Nat.le_refl _) (.int .i64 3))
  clear d0 d1 d2 d3 d4 df0 df1 df2 df3 df4 z0 z1 z2 z3 z4 zf0 zf1 zf2 zf3 zf4 c1 c1v c2 c2v c2w
  generalize ((((((((w1.setCell ⟨w.heap.size + 1, 4, none⟩ (.int .i64 3)).setCell ⟨w.heap.size + 1, 2, none⟩ (.int .i64 x1)).setCell ⟨w.heap.size + 1, 3, none⟩ (.int .i64 (wrap64 (IntKind.i8.wrap x2)))).setCell ⟨w.heap.size, 0, none⟩ (.int .i64 K)).setCell ⟨w.heap.size, 1, none⟩ (.int .i64 op)).setCell ⟨w.heap.size, 2, none⟩ (.int .i64 x1)).setCell ⟨w.heap.size, 3, none⟩ (.int .i64 (wrap64 (IntKind.i8.wrap x2)))).setCell ⟨w.heap.size, 4, none⟩ (.int .i64 3)) = Wf at *
  have f0 : Wf.cell? ⟨w.heap.size, 0, none⟩ = some (.int .i64 K) := hZf.cell 0
  have f1 : Wf.cell? ⟨w.heap.size, 1, none⟩ = some (.int .i64 op) := hZf.cell 1
  have f2 : Wf.cell? ⟨w.heap.size, 2, none⟩ = some (.int .i64 x1) := hZf.cell 2
  have f3 : Wf.cell? ⟨w.heap.size, 3, none⟩ = some (.int .i64 (wrap64 (IntKind.i8.wrap x2))) := hZf.cell 3
  have f4 : Wf.cell? ⟨w.heap.size, 4, none⟩ = some (.int .i64 3) := hZf.cell 4
  have ff0 := hZf.frozen 0
  have ff1 := hZf.frozen 1
  have ff2 := hZf.frozen 2
  have ff3 := hZf.frozen 3
  have ff4 := hZf.frozen 4
  refine bodyPost_ret (v := .tuple #[.agg #[.int .i64 K, .int .i64 op, .int .i64 x1, .int .i64 (wrap64 (IntKind.i8.wrap x2)), .int .i64 3], .int .i64 0]) (by simp [results, Try.results25, go_sem, f0, f1, f2, f3, f4]) rfl ?_
  refine ⟨?_, hBf⟩
  rw [hIw.out, ← wr_i8 hy2]
  rfl
set_option maxRecDepth 100000 in
set_option maxHeartbeats 2000000 in
theorem rdec_short (ad : Addr) (c0 L n : Nat) (K : Int) (op s : Int) (w : World) (hlo : ad.block < w.heap.size) (hcell : w.cell? (ad.add K.toNat) = some (.int .u8 op)) (hop : 0 ≤ op ∧ op < 256) (hK0 : 0 ≤ K) (hk : K < L) (hm : L ≤ 9223372036854775807) (hn : n ≤ 2) (hxs : xt s = n)
    (gs : ∀ w, Hid (Calls Try.prog 16 #[.int .i64 op] w fun e w' => e = .returned (.tuple #[.int .u8 s, .bool true]) ∧ Below w.heap.size w w'))
    (hs : (L : Int) - K < 1 + n) :
    Calls Try.prog 25 #[.slice (some ad) L c0, .int .i64 K] w (DPost w zeroI 3) := by
  have b4 : decide ((L : Int) - K < 1 + n) = true := decide_eq_true hs
  have hx : ∀ w, Calls Try.prog 45 #[.int .u8 s] w fun e w' => e = .returned (.int .i64 n) ∧ w = w' := fun w => by rw [← hxs]; exact extra_any s w
  have hI0 := Blk.new (w.alloc (.cells #[.int .i64 0, .int .i64 0, .int .i64 0, .int .i64 0, .int .i64 0] 28)) 28 #[.int .i64 K, .int .i64 op, .int .i64 0, .int .i64 0, .int .i64 0]
  have hZa := (Blk.new w 28 #[.int .i64 0, .int .i64 0, .int .i64 0, .int .i64 0, .int .i64 0]).alloc (.cells #[.int .i64 K, .int .i64 op, .int .i64 0, .int .i64 0, .int .i64 0] 28)
  have hba : Below w.heap.size w ((w.alloc (.cells #[.int .i64 0, .int .i64 0, .int .i64 0, .int .i64 0, .int .i64 0] 28)).alloc (.cells #[.int .i64 K, .int .i64 op, .int .i64 0, .int .i64 0, .int .i64 0] 28)) := ((Below.refl w.heap.size w).alloc (Nat.le_refl _) _).alloc (by simp) _
  have hcell' : (w.alloc (.cells #[.int .i64 0, .int .i64 0, .int .i64 0, .int .i64 0, .int .i64 0] 28)).cell? (ad.add K.toNat) = some (.int .u8 op) := (((Below.refl w.heap.size w).alloc (Nat.le_refl _) _).cell (p := ad.add K.toNat) (by rw [block_of_add]; exact hlo)).trans hcell
  have hsz : (w.alloc (.cells #[.int .i64 0, .int .i64 0, .int .i64 0, .int .i64 0, .int .i64 0] 28)).heap.size = w.heap.size + 1 := by simp
  rw [hsz] at hI0
  have hw8 : IntKind.i64.wrap op = op := by rw [IntKind.wrap_i64]; omega
  have b1 : decide (K < 0) = false := decide_eq_false (by omega)
  have b2 : decide ((L : Int) < K) = false := decide_eq_false (by omega)
  have b3 : (K == (L : Int)) = false := by simpa using (show ¬ K = L by omega)
  go_enter Try.func25, Try.ntmps25
  go_wp2_with fail
  generalize (w.alloc (.cells #[.int .i64 0, .int .i64 0, .int .i64 0, .int .i64 0, .int .i64 0] 28)).alloc (.cells #[.int .i64 K, .int .i64 op, .int .i64 0, .int .i64 0, .int .i64 0] 28) = W at *
  refine (gs _).out.mono ?_
  rintro _ w1 ⟨rfl, hb1⟩
  have hI1 := hI0.below hb1 hI0.lt
  have hZ1 := hZa.below hb1 hZa.lt
  have hB1 := hba.trans (hb1.mono hba.size)
  have d0 : w1.cell? ⟨w.heap.size + 1, 0, none⟩ = some (.int .i64 K) := hI1.cell 0
  have d1 : w1.cell? ⟨w.heap.size + 1, 1, none⟩ = some (.int .i64 op) := hI1.cell 1
  have d2 : w1.cell? ⟨w.heap.size + 1, 2, none⟩ = some (.int .i64 0) := hI1.cell 2
  have d3 : w1.cell? ⟨w.heap.size + 1, 3, none⟩ = some (.int .i64 0) := hI1.cell 3
  have d4 : w1.cell? ⟨w.heap.size + 1, 4, none⟩ = some (.int .i64 0) := hI1.cell 4
  have df0 := hI1.frozen 0
  have df1 := hI1.frozen 1
  have df2 := hI1.frozen 2
  have df3 := hI1.frozen 3
  have df4 := hI1.frozen 4
  have z0 : w1.cell? ⟨w.heap.size, 0, none⟩ = some (.int .i64 0) := hZ1.cell 0
  have z1 : w1.cell? ⟨w.heap.size, 1, none⟩ = some (.int .i64 0) := hZ1.cell 1
  have z2 : w1.cell? ⟨w.heap.size, 2, none⟩ = some (.int .i64 0) := hZ1.cell 2
  have z3 : w1.cell? ⟨w.heap.size, 3, none⟩ = some (.int .i64 0) := hZ1.cell 3
  have z4 : w1.cell? ⟨w.heap.size, 4, none⟩ = some (.int .i64 0) := hZ1.cell 4
  have zf0 := hZ1.frozen 0
  have zf1 := hZ1.frozen 1
  have zf2 := hZ1.frozen 2
  have zf3 := hZ1.frozen 3
  have zf4 := hZ1.frozen 4
  have hlt1 : w.heap.size + 1 < w1.heap.size := hI1.lt
  have hZ1' := Lib.hid hZ1
  have hI1' := Lib.hid hI1
  have hB1' := Lib.hid hB1
  clear hI0 hZa hba hb1 hI1 hZ1 hB1 hcell hcell' hsz hw8 gs
  have q3 := w64_3 hm hK0 hk
  have q1 := w64_1 hn
  go_wp2_with fail
  refine (hx _).mono ?_
  rintro _ _ ⟨rfl, rfl⟩
  have hne : ¬ w.heap.size = (⟨w.heap.size + 1, 0, none⟩ : Addr).block := by show ¬ w.heap.size = w.heap.size + 1; omega
  have hZv : Blk (w1.setCell ⟨w.heap.size + 1, 4, none⟩ (.int .i64 (1 + n))) w.heap.size 28 #[.int .i64 0, .int .i64 0, .int .i64 0, .int .i64 0, .int .i64 0] := hZ1'.out.far (p := ⟨w.heap.size + 1, 4, none⟩) hne _
  have hBv : Below w.heap.size w (w1.setCell ⟨w.heap.size + 1, 4, none⟩ (.int .i64 (1 + n))) := hB1'.out.setCell (p := ⟨w.heap.size + 1, 4, none⟩) (Nat.le_succ _) _
  go_wp2_with fail
  have hZf : Blk ((((((w1.setCell ⟨w.heap.size + 1, 4, none⟩ (.int .i64 (1 + n))).setCell ⟨w.heap.size, 0, none⟩ (.int .i64 0)).setCell ⟨w.heap.size, 1, none⟩ (.int .i64 0)).setCell ⟨w.heap.size, 2, none⟩ (.int .i64 0)).setCell ⟨w.heap.size, 3, none⟩ (.int .i64 0)).setCell ⟨w.heap.size, 4, none⟩ (.int .i64 0)) w.heap.size 28 #[.int .i64 0, .int .i64 0, .int .i64 0, .int .i64 0, .int .i64 0] := (((((hZv.set_ 0 (.int .i64 0)).set_ 1 (.int .i64 0)).set_ 2 (.int .i64 0)).set_ 3 (.int .i64 0)).set_ 4 (.int .i64 0))
  have hBf : Below w.heap.size w ((((((w1.setCell ⟨w.heap.size + 1, 4, none⟩ (.int .i64 (1 + n))).setCell ⟨w.heap.size, 0, none⟩ (.int .i64 0)).setCell ⟨w.heap.size, 1, none⟩ (.int .i64 0)).setCell ⟨w.heap.size, 2, none⟩ (.int .i64 0)).setCell ⟨w.heap.size, 3, none⟩ (.int .i64 0)).setCell ⟨w.heap.size, 4, none⟩ (.int .i64 0)) := (((((hBv.setCell (p := ⟨w.heap.size, 0, none⟩) (Nat.le_refl _) (.int .i64 0)).setCell (p := ⟨w.heap.size, 1, none⟩) (Nat.le_refl _) (.int .i64 0)).setCell (p := ⟨w.heap.size, 2, none⟩) (Nat.le_refl _) (.int .i64 0)).setCell (p := ⟨w.heap.size, 3, none⟩) (Nat.le_refl _) (.int .i64 0)).setCell (p := ⟨w.heap.size, 4, none⟩) (Nat.le_refl _) (.int .i64 0))
  clear d0 d1 d2 d3 d4 df0 df1 df2 df3 df4 z0 z1 z2 z3 z4 zf0 zf1 zf2 zf3 zf4
  generalize ((((((w1.setCell ⟨w.heap.size + 1, 4, none⟩ (.int .i64 (1 + n))).setCell ⟨w.heap.size, 0, none⟩ (.int .i64 0)).setCell ⟨w.heap.size, 1, none⟩ (.int .i64 0)).setCell ⟨w.heap.size, 2, none⟩ (.int .i64 0)).setCell ⟨w.heap.size, 3, none⟩ (.int .i64 0)).setCell ⟨w.heap.size, 4, none⟩ (.int .i64 0)) = Wf at *
  have f0 : Wf.cell? ⟨w.heap.size, 0, none⟩ = some (.int .i64 0) := hZf.cell 0
  have f1 : Wf.cell? ⟨w.heap.size, 1, none⟩ = some (.int .i64 0) := hZf.cell 1
  have f2 : Wf.cell? ⟨w.heap.size, 2, none⟩ = some (.int .i64 0) := hZf.cell 2
  have f3 : Wf.cell? ⟨w.heap.size, 3, none⟩ = some (.int .i64 0) := hZf.cell 3
  have f4 : Wf.cell? ⟨w.heap.size, 4, none⟩ = some (.int .i64 0) := hZf.cell 4
  have ff0 := hZf.frozen 0
  have ff1 := hZf.frozen 1
  have ff2 := hZf.frozen 2
  have ff3 := hZf.frozen 3
  have ff4 := hZf.frozen 4
  refine bodyPost_ret (v := .tuple #[.agg #[.int .i64 0, .int .i64 0, .int .i64 0, .int .i64 0, .int .i64 0], .int .i64 3]) (by simp [results, Try.results25, go_sem, f0, f1, f2, f3, f4]) rfl ?_
  refine ⟨?_, hBf⟩
  rfl
theorem pn_xt {k : Int} (h : isC k = true) : 1 + pn0 (sh k) + pn1 (sh k) = 1 + xt (sh k) ∧ 0 ≤ xt (sh k) ∧ xt (sh k) ≤ 2 := by
  rcases sh_some h with e | e | e | e | e | e | e <;> (rw [e]; decide)
theorem byte_at {w : World} {B k j : Nat} {J : Int} {ad : Addr} {bs : List Int} (hr : ReadsB w B (some ad) bs) (hJ : J = (j : Int)) (hk : k + j < bs.length) : w.cell? (ad.add ((k : Int) + J).toNat) = some (.int .u8 (bs.getD (k + j) 0)) := by
  obtain ⟨ad', h1, _, h3⟩ := hr.at_ hk
  injection h1 with h1
  subst h1
  rw [hJ, show ((k : Int) + (j : Int)).toNat = k + j by omega]
  exact h3
theorem take1 {m : Nat} {bs : List Int} (h : m < bs.length) : (bs.drop m).take 1 = [bs.getD m 0] := by
  rw [List.drop_eq_getElem_cons h, List.take_succ_cons, List.take_zero]
  simp [List.getD, List.getElem?_eq_getElem h]
theorem rd1 (x : Int) : rdP 1 false [x] = x := by show 0 * 256 + x = x; omega
theorem rd2 (x c : Int) : rdP 2 false [x, c] = x * 256 + c := by show (0 * 256 + x) * 256 + c = _; omega
theorem take2 {m : Nat} {bs : List Int} (h : m + 1 < bs.length) : (bs.drop m).take 2 = [bs.getD m 0, bs.getD (m + 1) 0] := by
  rw [List.drop_eq_getElem_cons (show m < bs.length by omega), List.drop_eq_getElem_cons h, List.take_succ_cons, List.take_succ_cons, List.take_zero]
  simp [List.getD, List.getElem?_eq_getElem h, List.getElem?_eq_getElem (show m < bs.length by omega)]
set_option maxRecDepth 100000 in
set_option maxHeartbeats 1000000 in
theorem rdec_any (A0 : Option Addr) (c0 : Nat) (bs : List Int) (at_ : Int) (w : World) (hr : ReadsB w w.heap.size A0 bs) (hb : Bytes bs) (hc : bs.length ≤ c0) (hm : c0 ≤ 9223372036854775807) :
    Calls Try.prog 25 #[.slice A0 bs.length c0, .int .i64 at_] w (DPost w (decI bs at_) (decC bs at_)) := by
  have hb0 : Below w.heap.size w (w.alloc (.cells #[.int .i64 0, .int .i64 0, .int .i64 0, .int .i64 0, .int .i64 0] 28)) := (Below.refl _ _).alloc (Nat.le_refl _) _
  have hZ := Blk.new w 28 #[.int .i64 0, .int .i64 0, .int .i64 0, .int .i64 0, .int .i64 0]
  have hz : ∀ c, decC bs at_ = c → ¬ c = 0 → decI bs at_ = zeroI := fun c h k => by unfold decI; rw [if_neg (by rw [h]; exact k)]
  by_cases h1 : at_ < 0
  · have b1 : decide (at_ < 0) = true := decide_eq_true h1
    have ec : decC bs at_ = 1 := by unfold decC; rw [if_pos (.inl h1)]
    rw [hz _ ec (by omega), ec]
    go_enter Try.func25, Try.ntmps25
    go_wp2_with fail
    refine bodyPost_ret (v := .tuple #[.agg #[.int .i64 0, .int .i64 0, .int .i64 0, .int .i64 0, .int .i64 0], .int .i64 1]) (by simp [results, Try.results25, go_sem]) rfl ?_
    exact ⟨rfl, hb0⟩
  · by_cases h2 : (bs.length : Int) < at_
    · have b1 : decide (at_ < 0) = false := decide_eq_false h1
      have b2 : decide ((bs.length : Int) < at_) = true := decide_eq_true h2
      have ec : decC bs at_ = 1 := by unfold decC; rw [if_pos (.inr h2)]
      rw [hz _ ec (by omega), ec]
      go_enter Try.func25, Try.ntmps25
      go_wp2_with fail
      refine bodyPost_ret (v := .tuple #[.agg #[.int .i64 0, .int .i64 0, .int .i64 0, .int .i64 0, .int .i64 0], .int .i64 1]) (by simp [results, Try.results25, go_sem]) rfl ?_
      exact ⟨rfl, hb0⟩
    · obtain ⟨k, rfl⟩ := Int.eq_ofNat_of_zero_le (show 0 ≤ at_ by omega)
      have b1 : decide ((k : Int) < 0) = false := decide_eq_false h1
      have b2 : decide ((bs.length : Int) < (k : Int)) = false := decide_eq_false h2
      by_cases h3 : k = bs.length
      · subst h3
        have ec : decC bs bs.length = 3 := by unfold decC; rw [if_neg (by omega), if_pos rfl]
        rw [hz _ ec (by omega), ec]
        go_enter Try.func25, Try.ntmps25
        go_wp2_with fail
        refine bodyPost_ret (v := .tuple #[.agg #[.int .i64 0, .int .i64 0, .int .i64 0, .int .i64 0, .int .i64 0], .int .i64 3]) (by simp [results, Try.results25, go_sem]) rfl ?_
        exact ⟨rfl, hb0⟩
      · have b3 : ((k : Int) == (bs.length : Int)) = false := by simpa using (show ¬ (k : Int) = bs.length by omega)
        have hk : k < bs.length := by omega
        obtain ⟨ad, rfl, hlo, hcell⟩ := hr.at_ hk
        have hop := hb.at_ k
        obtain ⟨op, hopv⟩ : ∃ op, op = bs.getD k 0 := ⟨_, rfl⟩
        rw [← hopv] at hop hcell
        have hopv' := Lib.hid hopv
        clear hopv
        have gs := fun w => Lib.hid (rshape_any op w)
        have hI0 := Blk.new (w.alloc (.cells #[.int .i64 0, .int .i64 0, .int .i64 0, .int .i64 0, .int .i64 0] 28)) 28 #[.int .i64 k, .int .i64 op, .int .i64 0, .int .i64 0, .int .i64 0]
        have hba : Below w.heap.size w ((w.alloc (.cells #[.int .i64 0, .int .i64 0, .int .i64 0, .int .i64 0, .int .i64 0] 28)).alloc (.cells #[.int .i64 k, .int .i64 op, .int .i64 0, .int .i64 0, .int .i64 0] 28)) := hb0.alloc hb0.size _
        have hZa := hZ.alloc (.cells #[.int .i64 k, .int .i64 op, .int .i64 0, .int .i64 0, .int .i64 0] 28)
        have hsz : (w.alloc (.cells #[.int .i64 0, .int .i64 0, .int .i64 0, .int .i64 0, .int .i64 0] 28)).heap.size = w.heap.size + 1 := by simp
        rw [hsz] at hI0
        have hw8 : IntKind.i64.wrap op = op := by rw [IntKind.wrap_i64]; omega
        have hcell' : (w.alloc (.cells #[.int .i64 0, .int .i64 0, .int .i64 0, .int .i64 0, .int .i64 0] 28)).cell? (ad.add k) = some (.int .u8 op) := (hb0.cell (p := ad.add k) (by rw [block_of_add]; exact hlo)).trans hcell
        have h63 : bs.length ≤ 9223372036854775807 := by omega
        cases hC : isC op with
        | false =>
          rw [hC] at gs
          have ec : decC bs k = 60 := by unfold decC; rw [if_neg (by omega), if_neg (by omega), if_pos (by rw [Int.toNat_natCast, ← hopv'.out]; exact hC)]
          rw [hz _ ec (by omega), ec]
          clear hz ec
          go_enter Try.func25, Try.ntmps25
          go_wp2_with fail
          generalize (w.alloc (.cells #[.int .i64 0, .int .i64 0, .int .i64 0, .int .i64 0, .int .i64 0] 28)).alloc (.cells #[.int .i64 k, .int .i64 op, .int .i64 0, .int .i64 0, .int .i64 0] 28) = W at *
          refine (gs _).out.mono ?_
          rintro _ w1 ⟨rfl, hb1⟩
          have hZ1 := hZa.below hb1 hZa.lt
          have d0 : w1.cell? ⟨w.heap.size, 0, none⟩ = some (.int .i64 0) := hZ1.cell 0
          have d1 : w1.cell? ⟨w.heap.size, 1, none⟩ = some (.int .i64 0) := hZ1.cell 1
          have d2 : w1.cell? ⟨w.heap.size, 2, none⟩ = some (.int .i64 0) := hZ1.cell 2
          have d3 : w1.cell? ⟨w.heap.size, 3, none⟩ = some (.int .i64 0) := hZ1.cell 3
          have d4 : w1.cell? ⟨w.heap.size, 4, none⟩ = some (.int .i64 0) := hZ1.cell 4
          have df0 := hZ1.frozen 0
          have df1 := hZ1.frozen 1
          have df2 := hZ1.frozen 2
          have df3 := hZ1.frozen 3
          have df4 := hZ1.frozen 4
          go_wp2_with fail
          have hZf : Blk (((((w1.setCell ⟨w.heap.size, 0, none⟩ (.int .i64 0)).setCell ⟨w.heap.size, 1, none⟩ (.int .i64 0)).setCell ⟨w.heap.size, 2, none⟩ (.int .i64 0)).setCell ⟨w.heap.size, 3, none⟩ (.int .i64 0)).setCell ⟨w.heap.size, 4, none⟩ (.int .i64 0)) w.heap.size 28 #[.int .i64 0, .int .i64 0, .int .i64 0, .int .i64 0, .int .i64 0] := ((((hZ1.set_ 0 _).set_ 1 _).set_ 2 _).set_ 3 _).set_ 4 _
          have hTf : Turned (fun _ => False) w (((((w1.setCell ⟨w.heap.size, 0, none⟩ (.int .i64 0)).setCell ⟨w.heap.size, 1, none⟩ (.int .i64 0)).setCell ⟨w.heap.size, 2, none⟩ (.int .i64 0)).setCell ⟨w.heap.size, 3, none⟩ (.int .i64 0)).setCell ⟨w.heap.size, 4, none⟩ (.int .i64 0)) :=
            (((((Turned.of_below (F := fun _ => False) (bnext hba hb1)).setCell (.inr (Nat.le_refl _)) _).setCell (.inr (Nat.le_refl _)) _).setCell (.inr (Nat.le_refl _)) _).setCell (.inr (Nat.le_refl _)) _).setCell (.inr (Nat.le_refl _)) _
          have hBf := hTf.below (Nat.le_refl _) (fun _ h => h.elim)
          generalize ((((w1.setCell ⟨w.heap.size, 0, none⟩ (.int .i64 0)).setCell ⟨w.heap.size, 1, none⟩ (.int .i64 0)).setCell ⟨w.heap.size, 2, none⟩ (.int .i64 0)).setCell ⟨w.heap.size, 3, none⟩ (.int .i64 0)).setCell ⟨w.heap.size, 4, none⟩ (.int .i64 0) = Wf at *
          have f0 : Wf.cell? ⟨w.heap.size, 0, none⟩ = some (.int .i64 0) := hZf.cell 0
          have f1 : Wf.cell? ⟨w.heap.size, 1, none⟩ = some (.int .i64 0) := hZf.cell 1
          have f2 : Wf.cell? ⟨w.heap.size, 2, none⟩ = some (.int .i64 0) := hZf.cell 2
          have f3 : Wf.cell? ⟨w.heap.size, 3, none⟩ = some (.int .i64 0) := hZf.cell 3
          have f4 : Wf.cell? ⟨w.heap.size, 4, none⟩ = some (.int .i64 0) := hZf.cell 4
          have ff0 := hZf.frozen 0
          have ff1 := hZf.frozen 1
          have ff2 := hZf.frozen 2
          have ff3 := hZf.frozen 3
          have ff4 := hZf.frozen 4
          refine bodyPost_ret (v := .tuple #[.agg #[.int .i64 0, .int .i64 0, .int .i64 0, .int .i64 0, .int .i64 0], .int .i64 60]) (by simp [results, Try.results25, go_sem, f0, f1, f2, f3, f4]) rfl ?_
          exact ⟨rfl, hBf⟩
        | true =>
          rw [hC] at gs
          have hp := pn_facts (sh op)
          have hsa : shAt bs (k : Int).toNat = sh op := by unfold shAt; rw [Int.toNat_natCast, ← hopv'.out]
          have hpx := pn_xt hC
          by_cases hs : (bs.length : Int) - k < 1 + xt (sh op)
          · have ec : decC bs k = 3 := by
              unfold decC
              rw [if_neg (by omega), if_neg (by omega), if_neg (by rw [Int.toNat_natCast, ← hopv'.out, hC]; decide), hsa, if_pos (by omega)]
            rw [hz _ ec (by omega), ec]
            obtain ⟨n, hn⟩ : ∃ n : Nat, xt (sh op) = n := Int.eq_ofNat_of_zero_le (by omega)
            exact rdec_short ad c0 bs.length n (k : Int) op (sh op) w hlo (by rw [Int.toNat_natCast]; exact hcell) hop (by omega) (by omega) h63 (by omega) hn gs (by omega)
          · have ec : decC bs k = 0 := by
              unfold decC
              rw [if_neg (by omega), if_neg (by omega), if_neg (by rw [Int.toNat_natCast, ← hopv'.out, hC]; decide), hsa, if_neg (by omega)]
            have hI : decI bs k = _ := if_pos ec
            rw [hsa, Int.toNat_natCast, ← hopv'.out] at hI
            clear hz
            rw [ec]
            have hca : w.cell? (ad.add (k : Int).toNat) = some (.int .u8 op) := by rw [Int.toNat_natCast]; exact hcell
            have hkL : (k : Int) < bs.length := by omega
            have hk0 : (0 : Int) ≤ k := by omega
            rcases sh_some hC with h | h | h | h | h | h | h
            · rw [h] at gs hs hI hpx
              have hx : xt 45 = 0 := rfl
              rw [hx] at hs
              refine rdec_45 ad c0 bs.length k op w hlo hca hop hk0 hkL h63 gs (by omega) _ (Lib.hid (hI.trans ?_))
              have e0 : pn0 45 = 0 := rfl
              have e1 : pn1 45 = 0 := rfl
              have e2 : ((0 : Int)).toNat = 0 := rfl
              have e3 : ((0 : Int)).toNat = 0 := rfl
              have e4 : ps0 45 = false := rfl
              simp only [e0, e1, e2, e3, e4]
              skip
              rfl
            · rw [h] at gs hs hI hpx
              have hx : xt 98 = 1 := rfl
              rw [hx] at hs
              refine rdec_98 ad c0 bs.length k op w hlo hca hop hk0 hkL h63 (bs.getD (k + 1) 0) (byte_at hr rfl (by omega)) (hb.at_ _) gs (by omega) _ (Lib.hid (hI.trans ?_))
              have e0 : pn0 98 = 1 := rfl
              have e1 : pn1 98 = 0 := rfl
              have e2 : ((1 : Int)).toNat = 1 := rfl
              have e3 : ((0 : Int)).toNat = 0 := rfl
              have e4 : ps0 98 = true := rfl
              simp only [e0, e1, e2, e3, e4]
              rw [take1 (show k + 1 < bs.length by omega)]
              rfl
            · rw [h] at gs hs hI hpx
              have hx : xt 117 = 1 := rfl
              rw [hx] at hs
              refine rdec_117 ad c0 bs.length k op w hlo hca hop hk0 hkL h63 (bs.getD (k + 1) 0) (byte_at hr rfl (by omega)) (hb.at_ _) gs (by omega) _ (Lib.hid (hI.trans ?_))
              have e0 : pn0 117 = 1 := rfl
              have e1 : pn1 117 = 0 := rfl
              have e2 : ((1 : Int)).toNat = 1 := rfl
              have e3 : ((0 : Int)).toNat = 0 := rfl
              have e4 : ps0 117 = false := rfl
              simp only [e0, e1, e2, e3, e4]
              rw [take1 (show k + 1 < bs.length by omega)]; rw [rd1]
              rfl
            · rw [h] at gs hs hI hpx
              have hx : xt 99 = 2 := rfl
              rw [hx] at hs
              refine rdec_99 ad c0 bs.length k op w hlo hca hop hk0 hkL h63 (bs.getD (k + 1) 0) (byte_at hr rfl (by omega)) (hb.at_ _) (bs.getD (k + 2) 0) (byte_at hr rfl (by omega)) (hb.at_ _) gs (by omega) _ (Lib.hid (hI.trans ?_))
              have e0 : pn0 99 = 2 := rfl
              have e1 : pn1 99 = 0 := rfl
              have e2 : ((2 : Int)).toNat = 2 := rfl
              have e3 : ((0 : Int)).toNat = 0 := rfl
              have e4 : ps0 99 = false := rfl
              simp only [e0, e1, e2, e3, e4]
              rw [take2 (show k + 1 + 1 < bs.length by omega)]; rw [rd2]
              rfl
            · rw [h] at gs hs hI hpx
              have hx : xt 115 = 2 := rfl
              rw [hx] at hs
              refine rdec_115 ad c0 bs.length k op w hlo hca hop hk0 hkL h63 (bs.getD (k + 1) 0) (byte_at hr rfl (by omega)) (hb.at_ _) (bs.getD (k + 2) 0) (byte_at hr rfl (by omega)) (hb.at_ _) gs (by omega) _ (Lib.hid (hI.trans ?_))
              have e0 : pn0 115 = 2 := rfl
              have e1 : pn1 115 = 0 := rfl
              have e2 : ((2 : Int)).toNat = 2 := rfl
              have e3 : ((0 : Int)).toNat = 0 := rfl
              have e4 : ps0 115 = true := rfl
              simp only [e0, e1, e2, e3, e4]
              rw [take2 (show k + 1 + 1 < bs.length by omega)]
              rfl
            · rw [h] at gs hs hI hpx
              have hx : xt 116 = 2 := rfl
              rw [hx] at hs
              refine rdec_116 ad c0 bs.length k op w hlo hca hop hk0 hkL h63 (bs.getD (k + 1) 0) (byte_at hr rfl (by omega)) (hb.at_ _) (bs.getD (k + 2) 0) (byte_at hr rfl (by omega)) (hb.at_ _) gs (by omega) _ (Lib.hid (hI.trans ?_))
              have e0 : pn0 116 = 2 := rfl
              have e1 : pn1 116 = 0 := rfl
              have e2 : ((2 : Int)).toNat = 2 := rfl
              have e3 : ((0 : Int)).toNat = 0 := rfl
              have e4 : ps0 116 = true := rfl
              simp only [e0, e1, e2, e3, e4]
              rw [take2 (show k + 1 + 1 < bs.length by omega)]
              rfl
            · rw [h] at gs hs hI hpx
              have hx : xt 105 = 2 := rfl
              rw [hx] at hs
              refine rdec_105 ad c0 bs.length k op w hlo hca hop hk0 hkL h63 (bs.getD (k + 1) 0) (byte_at hr rfl (by omega)) (hb.at_ _) (bs.getD (k + 2) 0) (byte_at hr rfl (by omega)) (hb.at_ _) gs (by omega) _ (Lib.hid (hI.trans ?_))
              have e0 : pn0 105 = 1 := rfl
              have e1 : pn1 105 = 1 := rfl
              have e2 : ((1 : Int)).toNat = 1 := rfl
              have e3 : ((1 : Int)).toNat = 1 := rfl
              have e4 : ps0 105 = false := rfl
              simp only [e0, e1, e2, e3, e4]
              rw [take1 (show k + 1 < bs.length by omega)]; rw [take1 (show k + 1 + 1 < bs.length by omega)]; rw [rd1]
              rfl
end Go.Proofs.Ytcinmgifadmbeaa
