/- The walks of the writer. -/
import Derived.Test.YtdilccihhelilaaBytes
import Derived.Test.YtdilccihhelilaaVal
import Derived.Lib.Hide
import Derived.WalkKit
import Derived.Outline
import Derived.WalkSpells
import Derived.WalkLawsBesides
import Derived.Deep.QuietTactic
import Derived.BigQuiet
import Derived.Deep.RegionLaw
import Derived.BigRegion
namespace Go.Proofs.Ytdilccihhelilaa
open Go.RowKit
set_option linter.unusedVariables false

/-- A writer of the bytes xs, that may hold most. Its blocks are F's, none below base. -/
def Wr (w : World) (F : Nat → Prop) (base g : Nat) (most : Int) (xs : List Int) : Prop :=
  ∃ A c, Blk w g 84 #[.slice A xs.length c, .int .i64 most, .bool true] ∧ OwnB w base (.slice A xs.length c) xs ∧ (xs.length : Int) ≤ most ∧ most ≤ 1048576 ∧ base ≤ g ∧
    F g ∧ (∀ k, (Value.slice A xs.length c).ownBlock = some k → F k) ∧ (∀ k, F k → base ≤ k ∧ k < w.heap.size)

/-- The bytes of a number, the highest first. -/
def beN : Nat → Int → List Int
  | 0, _ => []
  | n + 1, x => (x / 256 ^ n % 256) :: beN n x
theorem beN_length (n : Nat) (x : Int) : (beN n x).length = n := by
  induction n with
  | zero => rfl
  | succ n ih => simp [beN, ih]
theorem beN_bytes (n : Nat) (x : Int) : Bytes (beN n x) := by
  induction n with
  | zero => exact Bytes.nil
  | succ n ih =>
    intro y hy
    simp only [beN, List.mem_cons] at hy
    rcases hy with rfl | hy
    · omega
    · exact ih y hy

set_option maxHeartbeats 400000 in
theorem wnone_no (g : Nat) (w : World) (h : w.cell? ⟨g, 2, none⟩ = some (.bool true)) :
    Calls Try.prog 37 #[.pointer (some ⟨g, 0, none⟩)] w fun e w' => e = .returned (.bool false) ∧ w = w' := by
  go_enter Try.func37, Try.ntmps37
  go_wp2_with fail
  go_ret
  exact ⟨rfl, rfl⟩

/-- What becomes of a writer when its row has grown and the new row is stored. -/
theorem wr_push {F : Nat → Prop} {w wr wa w2 : World} {base g n' c c2 : Nat} {most : Int} {A A2 : Option Addr} {zs zs' : List Int}
    (hT : Turned F w wr) (hB : Blk wr g 84 #[.slice A zs.length c, .int .i64 most, .bool true]) (hO : OwnB wr base (.slice A zs.length c) zs)
    (hm : most ≤ 1048576) (hbg : base ≤ g) (hFg : Grow F w wr g) (hFv : ∀ k, (Value.slice A zs.length c).ownBlock = some k → Grow F w wr k) (hFw : ∀ k, Grow F w wr k → base ≤ k ∧ k < wr.heap.size)
    (ha : Below wr.heap.size wr wa) (hown2 : OwnB w2 base (.slice A2 n' c2) zs') (hg2 : wa.grownBy w2 (Value.slice A zs.length c).ownBlock)
    (hat : (Value.slice A2 n' c2).ownBlock = (Value.slice A zs.length c).ownBlock ∨ (Value.slice A2 n' c2).ownBlock = some wa.heap.size)
    (hn : n' = zs'.length) (hl : (zs'.length : Int) ≤ most) :
    Wr (w2.setCell ⟨g, 0, none⟩ (.slice A2 n' c2)) (Grow F w (w2.setCell ⟨g, 0, none⟩ (.slice A2 n' c2))) base g most zs' ∧ Turned F w (w2.setCell ⟨g, 0, none⟩ (.slice A2 n' c2)) := by
  subst hn
  have hgv := own_blk_ne hO hB (by decide)
  have hB2 : Blk w2 g 84 #[.slice A zs.length c, .int .i64 most, .bool true] := Blk.grown (hB.below ha hB.lt) hg2 hgv.symm
  have hT2 : Turned F w w2 := ((hT.next (Turned.of_below ha)).trans (Turned.of_grown (F := fun k => (Value.slice A zs.length c).ownBlock = some k) hg2 (fun k h => h)) (fun i hi hv => by
    rcases hFv i hv with h | h
    · exact h
    · omega))
  have hs2 := hT2.size
  have hsz : (w2.setCell ⟨g, 0, none⟩ (.slice A2 zs'.length c2)).heap.size = w2.heap.size := by simp [World.setCell]
  have hT3 : Turned F w (w2.setCell ⟨g, 0, none⟩ (.slice A2 zs'.length c2)) := hT2.setCell (hFg.elim .inl fun h => .inr h.1) _
  have hra : wr.heap.size ≤ wa.heap.size := ha.size
  have ha2 : wa.heap.size ≤ w2.heap.size := hg2.size
  have hsr := hT.size
  have hgr : ∀ k, Grow F w wr k → Grow F w (w2.setCell ⟨g, 0, none⟩ (.slice A2 zs'.length c2)) k := fun k h => by
    rcases h with h | h
    · exact .inl h
    · exact .inr ⟨h.1, by omega⟩
  refine ⟨⟨A2, c2, hB2.set_ 0 _, own_setCell hown2 hB2 (by decide) _, hl, hm, hbg, hgr g hFg, fun k hk => ?_, fun k hk => ?_⟩, hT3⟩
  · rcases hat with h | h
    · exact hgr k (hFv k (h ▸ hk))
    · have hk' : k = wa.heap.size := by rw [h] at hk; injection hk with hk; exact hk.symm
      have := hown2.lt k hk
      exact .inr ⟨by omega, by omega⟩
  · rcases hk with h | h
    · have := hFw k (.inl h); omega
    · have := hFw g hFg
      refine ⟨?_, by omega⟩
      rcases Nat.lt_or_ge k wr.heap.size with h1 | h1
      · exact (hFw k (.inr ⟨h.1, h1⟩)).1
      · omega

theorem pow256 (J : Nat) : (2 : Int) ^ (8 * J) = 256 ^ J := by rw [Int.pow_mul]; rfl
theorem shr_u64_byte (x : Int) (J : Nat) (h : J ≤ 7) : Op.shift .shr .u64 x .i64 (8 * (J : Int)) = pure (.int .u64 (x / 256 ^ J)) := by
  rw [shift_shr .u64 .i64 x (8 * (J : Int)) (by omega) (by show 8 * (J : Int) ≤ 64; omega), show (8 * (J : Int)).toNat = 8 * J from by omega, pow256]
theorem shr_i64_byte (x : Int) (J : Nat) (h : J ≤ 7) : Op.shift .shr .i64 x .i64 (8 * (J : Int)) = pure (.int .i64 (x / 256 ^ J)) := by
  rw [shift_shr .i64 .i64 x (8 * (J : Int)) (by omega) (by show 8 * (J : Int) ≤ 64; omega), show (8 * (J : Int)).toNat = 8 * J from by omega, pow256]

set_option maxRecDepth 100000 in
set_option maxHeartbeats 1000000 in
/-- 'put' of a number without a sign that fits. -/
theorem putU_yes (F : Nat → Prop) (base g : Nat) (most : Int) (xs : List Int) (n j : Nat) (x : Int) (w : World) (hW : Wr w F base g most xs) (h1 : (xs.length : Int) + n ≤ most) (hn : 1 ≤ n) (hn8 : n ≤ 8) :
    Calls Try.prog 35 #[.pointer (some ⟨g, 0, none⟩), .int .i64 n, .int .u64 x, .bool true] w fun e w' => e = .returned (.int .i64 0) ∧
      Wr w' (Grow F w w') base g most (xs ++ beN n x) ∧ Turned F w w' := by
  obtain ⟨A, c, hB, hO, hlm, hm, hbg, hFg, hFv, hFw⟩ := hW
  have c0 : w.cell? ⟨g, 0, none⟩ = some (.slice A xs.length c) := hB.cell 0
  have c1 : w.cell? ⟨g, 1, none⟩ = some (.int .i64 most) := hB.cell 1
  have c2 : w.cell? ⟨g, 2, none⟩ = some (.bool true) := hB.cell 2
  go_enter Try.func35, Try.ntmps35
  go_wp2_with fail
  refine (wnone_no g w c2).mono ?_
  rintro e w' ⟨rfl, rfl⟩
  go_wp2_with fail
  go_quiet (fail)
  obtain ⟨m1, rfl⟩ : ∃ m, m = nq := ⟨_, rfl⟩
  go_wp2_with fail
  clear c0 c1 c2
  go_loopw [1] (fun i wr => ∃ (j : Nat) (ys : List Int), j ≤ n ∧ i = .int .i64 ((j : Int) - 1) ∧ Wr wr (Grow F w wr) base g most (xs ++ ys) ∧ Turned F w wr ∧ ys ++ beN j x = beN n x) (fun i _ => (intOf i + 1).toNat)
  case atStart => exact ⟨n, [], Nat.le_refl _, rfl, by
    rw [List.append_nil]
    refine ⟨A, c, Blk.drewN hB _, hO, hlm, hm, hbg, .inl hFg, fun k hk => .inl (hFv k hk), fun k hk => ?_⟩
    · rcases hk with h | h
      · exact hFw k h
      · exfalso; simp at h; omega, (Turned.refl _ _).drewN _, rfl⟩
  case round =>
    obtain ⟨j, ys, hj, rfl, hW, hT, he⟩ := hrel
    replace he := Lib.hid he
    obtain ⟨A, c, hB, hO, hlm, hm, hbg, hFg, hFv, hFw⟩ := hW
    have c0 : wr.cell? ⟨g, 0, none⟩ = some (.slice A (xs ++ ys).length c) := hB.cell 0
    have f0 := hB.frozen 0
    generalize hzs : xs ++ ys = zs at *
    replace hzs := Lib.hid hzs
    by_cases hlt : 1 ≤ j
    · obtain ⟨J, rfl⟩ : ∃ J, j = J + 1 := ⟨j - 1, by omega⟩
      rw [show (((J + 1 : Nat) : Int) - 1) = (J : Int) from by omega]
      have hp1 : (8 * (J : Int)).toNat = 8 * J := by omega
      have hp2 := pow256 J
      have hp3 : IntKind.u8.wrap (x / 256 ^ J) = x / 256 ^ J % 256 := IntKind.wrap_u8 _
      have hw8 : IntKind.i64.wrap (8 * (J : Int)) = 8 * (J : Int) := by rw [IntKind.wrap_i64]; omega
      have hlz : (zs.length : Int) + (J + 1) ≤ most := by
        have h1 := congrArg List.length he.out
        have h2 := congrArg List.length hzs.out
        simp only [List.length_append, beN_length] at h1 h2
        omega
      go_wp2_with fail
      have hnB : ReadsB (wr.alloc (.cells #[.int .u8 (x / 256 ^ J % 256)] 5)) (wr.heap.size + 1) (some ⟨wr.heap.size, 0, none⟩) [x / 256 ^ J % 256] := by
        have := ReadsB.new wr [x / 256 ^ J % 256] #[.int .u8 (x / 256 ^ J % 256)] 5 (0, 0) rfl
        simpa using this
      replace hnB := Lib.hid hnB
      have hOa := Lib.hid (OwnB.alloc hO (.cells #[.int .u8 (x / 256 ^ J % 256)] 5))
      have hzl : (zs ++ [x / 256 ^ J % 256]).length = zs.length + 1 := by simp
      replace hzl := Lib.hid hzl
      have hgv := own_blk_ne hO hB (by decide)
      have hBa := Lib.hid (Blk.alloc hB (.cells #[.int .u8 (x / 256 ^ J % 256)] 5))
      have hbs : base ≤ wr.heap.size + 1 := by have := (hFw g hFg); omega
      go_region_law (first
        | (refine step_appB (wr.alloc (.cells #[.int .u8 (x / 256 ^ J % 256)] 5)).drew (by rfl) (.tmp 42) (.tmp 48) (by rfl) base (.slice A zs.length c) zs (by simp [Act.eval]) hOa.out (wr.heap.size + 1) (some ⟨wr.heap.size, 0, none⟩) 1 1 [x / 256 ^ J % 256] (by simp [Act.eval]) hnB.out rfl
            (zs ++ [x / 256 ^ J % 256]) (zs.length + 1) rfl hzl.out (by omega) (by simp; omega) ?_
           intro A2 c2 w2 hown2 hg2 hb2 hat2
           have hB2 : Blk w2 g 84 #[.slice A zs.length c, .int .i64 most, .bool true] := Blk.grown (w := (wr.alloc (.cells #[.int .u8 (x / 256 ^ J % 256)] 5)).drew) hBa.out hg2 hgv.symm
           have c02 : w2.cell? ⟨g, 0, none⟩ = some (.slice A zs.length c) := hB2.cell 0
           have f02 := hB2.frozen 0))
      all_goals
        go_wp2_with fail
        obtain ⟨q1, q2⟩ := wr_push hT hB hO hm hbg hFg hFv hFw (((Below.refl _ _).alloc (Nat.le_refl _) _).drew) hown2 hg2 hat2 hzl.out.symm (by rw [hzl.out]; omega)
        exact ⟨⟨J, ys ++ [x / 256 ^ J % 256], by omega, rfl, by rw [← List.append_assoc, hzs.out]; exact q1, q2, by rw [List.append_assoc]; exact he.out⟩, by simp [intOf]⟩
    · obtain rfl : j = 0 := by omega
      go_wp2_with fail
      go_ret
      have hys : ys = beN n x := by have := he.out; simpa [beN] using this
      refine ⟨rfl, ?_, hT⟩
      rw [← hys, hzs.out]
      exact ⟨A, c, hB, hO, hlm, hm, hbg, hFg, hFv, hFw⟩
set_option maxRecDepth 100000 in
set_option maxHeartbeats 1000000 in
/-- 'put' of a number with a sign that fits. -/
theorem putI_yes (F : Nat → Prop) (base g : Nat) (most : Int) (xs : List Int) (n j : Nat) (x : Int) (w : World) (hW : Wr w F base g most xs) (h1 : (xs.length : Int) + n ≤ most) (hn : 1 ≤ n) (hn8 : n ≤ 8) :
    Calls Try.prog 49 #[.pointer (some ⟨g, 0, none⟩), .int .i64 n, .int .i64 x, .bool true] w fun e w' => e = .returned (.int .i64 0) ∧
      Wr w' (Grow F w w') base g most (xs ++ beN n x) ∧ Turned F w w' := by
  obtain ⟨A, c, hB, hO, hlm, hm, hbg, hFg, hFv, hFw⟩ := hW
  have c0 : w.cell? ⟨g, 0, none⟩ = some (.slice A xs.length c) := hB.cell 0
  have c1 : w.cell? ⟨g, 1, none⟩ = some (.int .i64 most) := hB.cell 1
  have c2 : w.cell? ⟨g, 2, none⟩ = some (.bool true) := hB.cell 2
  go_enter Try.func49, Try.ntmps49
  go_wp2_with fail
  refine (wnone_no g w c2).mono ?_
  rintro e w' ⟨rfl, rfl⟩
  go_wp2_with fail
  go_quiet (fail)
  obtain ⟨m1, rfl⟩ : ∃ m, m = nq := ⟨_, rfl⟩
  go_wp2_with fail
  clear c0 c1 c2
  go_loopw [1] (fun i wr => ∃ (j : Nat) (ys : List Int), j ≤ n ∧ i = .int .i64 ((j : Int) - 1) ∧ Wr wr (Grow F w wr) base g most (xs ++ ys) ∧ Turned F w wr ∧ ys ++ beN j x = beN n x) (fun i _ => (intOf i + 1).toNat)
  case atStart => exact ⟨n, [], Nat.le_refl _, rfl, by
    rw [List.append_nil]
    refine ⟨A, c, Blk.drewN hB _, hO, hlm, hm, hbg, .inl hFg, fun k hk => .inl (hFv k hk), fun k hk => ?_⟩
    · rcases hk with h | h
      · exact hFw k h
      · exfalso; simp at h; omega, (Turned.refl _ _).drewN _, rfl⟩
  case round =>
    obtain ⟨j, ys, hj, rfl, hW, hT, he⟩ := hrel
    replace he := Lib.hid he
    obtain ⟨A, c, hB, hO, hlm, hm, hbg, hFg, hFv, hFw⟩ := hW
    have c0 : wr.cell? ⟨g, 0, none⟩ = some (.slice A (xs ++ ys).length c) := hB.cell 0
    have f0 := hB.frozen 0
    generalize hzs : xs ++ ys = zs at *
    replace hzs := Lib.hid hzs
    by_cases hlt : 1 ≤ j
    · obtain ⟨J, rfl⟩ : ∃ J, j = J + 1 := ⟨j - 1, by omega⟩
      rw [show (((J + 1 : Nat) : Int) - 1) = (J : Int) from by omega]
      have hp1 : (8 * (J : Int)).toNat = 8 * J := by omega
      have hp2 := pow256 J
      have hp3 : IntKind.u8.wrap (x / 256 ^ J) = x / 256 ^ J % 256 := IntKind.wrap_u8 _
      have hw8 : IntKind.i64.wrap (8 * (J : Int)) = 8 * (J : Int) := by rw [IntKind.wrap_i64]; omega
      have hlz : (zs.length : Int) + (J + 1) ≤ most := by
        have h1 := congrArg List.length he.out
        have h2 := congrArg List.length hzs.out
        simp only [List.length_append, beN_length] at h1 h2
        omega
      go_wp2_with fail
      have hnB : ReadsB (wr.alloc (.cells #[.int .u8 (x / 256 ^ J % 256)] 5)) (wr.heap.size + 1) (some ⟨wr.heap.size, 0, none⟩) [x / 256 ^ J % 256] := by
        have := ReadsB.new wr [x / 256 ^ J % 256] #[.int .u8 (x / 256 ^ J % 256)] 5 (0, 0) rfl
        simpa using this
      replace hnB := Lib.hid hnB
      have hOa := Lib.hid (OwnB.alloc hO (.cells #[.int .u8 (x / 256 ^ J % 256)] 5))
      have hzl : (zs ++ [x / 256 ^ J % 256]).length = zs.length + 1 := by simp
      replace hzl := Lib.hid hzl
      have hgv := own_blk_ne hO hB (by decide)
      have hBa := Lib.hid (Blk.alloc hB (.cells #[.int .u8 (x / 256 ^ J % 256)] 5))
      have hbs : base ≤ wr.heap.size + 1 := by have := (hFw g hFg); omega
      go_region_law (first
        | (refine step_appB (wr.alloc (.cells #[.int .u8 (x / 256 ^ J % 256)] 5)).drew (by rfl) (.tmp 42) (.tmp 48) (by rfl) base (.slice A zs.length c) zs (by simp [Act.eval]) hOa.out (wr.heap.size + 1) (some ⟨wr.heap.size, 0, none⟩) 1 1 [x / 256 ^ J % 256] (by simp [Act.eval]) hnB.out rfl
            (zs ++ [x / 256 ^ J % 256]) (zs.length + 1) rfl hzl.out (by omega) (by simp; omega) ?_
           intro A2 c2 w2 hown2 hg2 hb2 hat2
           have hB2 : Blk w2 g 84 #[.slice A zs.length c, .int .i64 most, .bool true] := Blk.grown (w := (wr.alloc (.cells #[.int .u8 (x / 256 ^ J % 256)] 5)).drew) hBa.out hg2 hgv.symm
           have c02 : w2.cell? ⟨g, 0, none⟩ = some (.slice A zs.length c) := hB2.cell 0
           have f02 := hB2.frozen 0))
      all_goals
        go_wp2_with fail
        obtain ⟨q1, q2⟩ := wr_push hT hB hO hm hbg hFg hFv hFw (((Below.refl _ _).alloc (Nat.le_refl _) _).drew) hown2 hg2 hat2 hzl.out.symm (by rw [hzl.out]; omega)
        exact ⟨⟨J, ys ++ [x / 256 ^ J % 256], by omega, rfl, by rw [← List.append_assoc, hzs.out]; exact q1, q2, by rw [List.append_assoc]; exact he.out⟩, by simp [intOf]⟩
    · obtain rfl : j = 0 := by omega
      go_wp2_with fail
      go_ret
      have hys : ys = beN n x := by have := he.out; simpa [beN] using this
      refine ⟨rfl, ?_, hT⟩
      rw [← hys, hzs.out]
      exact ⟨A, c, hB, hO, hlm, hm, hbg, hFg, hFv, hFw⟩

set_option maxRecDepth 100000 in
set_option maxHeartbeats 400000 in
/-- 'put' of what does not fit. -/
theorem putU_arg (g : Nat) (n x : Int) (fits : Bool) (w : World) (c2 : w.cell? ⟨g, 2, none⟩ = some (.bool true)) (h : fits = false) :
    Calls Try.prog 35 #[.pointer (some ⟨g, 0, none⟩), .int .i64 n, .int .u64 x, .bool fits] w fun e w' => e = .returned (.int .i64 1) ∧ w = w' := by
  subst h
  by_cases h1 : n < 1
  · go_enter Try.func35, Try.ntmps35
    go_wp2_with fail
    refine (wnone_no g w c2).mono ?_
    rintro e w' ⟨rfl, rfl⟩
    go_wp2_with fail
    go_ret
    exact ⟨rfl, rfl⟩
  · by_cases h2 : 8 < n
    · go_enter Try.func35, Try.ntmps35
      go_wp2_with fail
      refine (wnone_no g w c2).mono ?_
      rintro e w' ⟨rfl, rfl⟩
      go_wp2_with fail
      go_ret
      exact ⟨rfl, rfl⟩
    · go_enter Try.func35, Try.ntmps35
      go_wp2_with fail
      refine (wnone_no g w c2).mono ?_
      rintro e w' ⟨rfl, rfl⟩
      go_wp2_with fail
      go_ret
      exact ⟨rfl, rfl⟩

set_option maxRecDepth 100000 in
set_option maxHeartbeats 400000 in
/-- 'put' with a count that may not be. -/
theorem putU_count (g : Nat) (n x : Int) (fits : Bool) (w : World) (c2 : w.cell? ⟨g, 2, none⟩ = some (.bool true)) (h : n < 1 ∨ 8 < n) :
    Calls Try.prog 35 #[.pointer (some ⟨g, 0, none⟩), .int .i64 n, .int .u64 x, .bool fits] w fun e w' => e = .returned (.int .i64 1) ∧ w = w' := by
  rcases h with h | h
  · go_enter Try.func35, Try.ntmps35
    go_wp2_with fail
    refine (wnone_no g w c2).mono ?_
    rintro e w' ⟨rfl, rfl⟩
    go_wp2_with fail
    go_ret
    exact ⟨rfl, rfl⟩
  · have h1 : ¬ n < 1 := by omega
    go_enter Try.func35, Try.ntmps35
    go_wp2_with fail
    refine (wnone_no g w c2).mono ?_
    rintro e w' ⟨rfl, rfl⟩
    go_wp2_with fail
    go_ret
    exact ⟨rfl, rfl⟩

set_option maxRecDepth 100000 in
set_option maxHeartbeats 400000 in
/-- 'put' where there is no room. -/
theorem putU_long (F : Nat → Prop) (base g : Nat) (most : Int) (xs : List Int) (n x : Int) (w : World) (hW : Wr w F base g most xs) (h1 : 1 ≤ n) (h2 : n ≤ 8) (h3 : most < (xs.length : Int) + n) :
    Calls Try.prog 35 #[.pointer (some ⟨g, 0, none⟩), .int .i64 n, .int .u64 x, .bool true] w fun e w' => e = .returned (.int .i64 2) ∧ ∃ m, w' = w.drewN m := by
  obtain ⟨A, c, hB, hO, hlm, hm, hbg, hFg, hFv, hFw⟩ := hW
  have c0 : w.cell? ⟨g, 0, none⟩ = some (.slice A xs.length c) := hB.cell 0
  have c1 : w.cell? ⟨g, 1, none⟩ = some (.int .i64 most) := hB.cell 1
  have c2 : w.cell? ⟨g, 2, none⟩ = some (.bool true) := hB.cell 2
  clear hB hO hFv hFw
  go_enter Try.func35, Try.ntmps35
  go_wp2_with fail
  refine (wnone_no g w c2).mono ?_
  rintro e w' ⟨rfl, rfl⟩
  go_wp2_with fail
  go_quiet (fail)
  go_wp2_with fail
  go_ret
  exact ⟨rfl, _, rfl⟩

set_option maxRecDepth 100000 in
set_option maxHeartbeats 400000 in
/-- 'put' of what does not fit. -/
theorem putI_arg (g : Nat) (n x : Int) (fits : Bool) (w : World) (c2 : w.cell? ⟨g, 2, none⟩ = some (.bool true)) (h : fits = false) :
    Calls Try.prog 49 #[.pointer (some ⟨g, 0, none⟩), .int .i64 n, .int .i64 x, .bool fits] w fun e w' => e = .returned (.int .i64 1) ∧ w = w' := by
  subst h
  by_cases h1 : n < 1
  · go_enter Try.func49, Try.ntmps49
    go_wp2_with fail
    refine (wnone_no g w c2).mono ?_
    rintro e w' ⟨rfl, rfl⟩
    go_wp2_with fail
    go_ret
    exact ⟨rfl, rfl⟩
  · by_cases h2 : 8 < n
    · go_enter Try.func49, Try.ntmps49
      go_wp2_with fail
      refine (wnone_no g w c2).mono ?_
      rintro e w' ⟨rfl, rfl⟩
      go_wp2_with fail
      go_ret
      exact ⟨rfl, rfl⟩
    · go_enter Try.func49, Try.ntmps49
      go_wp2_with fail
      refine (wnone_no g w c2).mono ?_
      rintro e w' ⟨rfl, rfl⟩
      go_wp2_with fail
      go_ret
      exact ⟨rfl, rfl⟩

set_option maxRecDepth 100000 in
set_option maxHeartbeats 400000 in
/-- 'put' with a count that may not be. -/
theorem putI_count (g : Nat) (n x : Int) (fits : Bool) (w : World) (c2 : w.cell? ⟨g, 2, none⟩ = some (.bool true)) (h : n < 1 ∨ 8 < n) :
    Calls Try.prog 49 #[.pointer (some ⟨g, 0, none⟩), .int .i64 n, .int .i64 x, .bool fits] w fun e w' => e = .returned (.int .i64 1) ∧ w = w' := by
  rcases h with h | h
  · go_enter Try.func49, Try.ntmps49
    go_wp2_with fail
    refine (wnone_no g w c2).mono ?_
    rintro e w' ⟨rfl, rfl⟩
    go_wp2_with fail
    go_ret
    exact ⟨rfl, rfl⟩
  · have h1 : ¬ n < 1 := by omega
    go_enter Try.func49, Try.ntmps49
    go_wp2_with fail
    refine (wnone_no g w c2).mono ?_
    rintro e w' ⟨rfl, rfl⟩
    go_wp2_with fail
    go_ret
    exact ⟨rfl, rfl⟩

set_option maxRecDepth 100000 in
set_option maxHeartbeats 400000 in
/-- 'put' where there is no room. -/
theorem putI_long (F : Nat → Prop) (base g : Nat) (most : Int) (xs : List Int) (n x : Int) (w : World) (hW : Wr w F base g most xs) (h1 : 1 ≤ n) (h2 : n ≤ 8) (h3 : most < (xs.length : Int) + n) :
    Calls Try.prog 49 #[.pointer (some ⟨g, 0, none⟩), .int .i64 n, .int .i64 x, .bool true] w fun e w' => e = .returned (.int .i64 2) ∧ ∃ m, w' = w.drewN m := by
  obtain ⟨A, c, hB, hO, hlm, hm, hbg, hFg, hFv, hFw⟩ := hW
  have c0 : w.cell? ⟨g, 0, none⟩ = some (.slice A xs.length c) := hB.cell 0
  have c1 : w.cell? ⟨g, 1, none⟩ = some (.int .i64 most) := hB.cell 1
  have c2 : w.cell? ⟨g, 2, none⟩ = some (.bool true) := hB.cell 2
  clear hB hO hFv hFw
  go_enter Try.func49, Try.ntmps49
  go_wp2_with fail
  refine (wnone_no g w c2).mono ?_
  rintro e w' ⟨rfl, rfl⟩
  go_wp2_with fail
  go_quiet (fail)
  go_wp2_with fail
  go_ret
  exact ⟨rfl, _, rfl⟩
end Go.Proofs.Ytdilccihhelilaa
