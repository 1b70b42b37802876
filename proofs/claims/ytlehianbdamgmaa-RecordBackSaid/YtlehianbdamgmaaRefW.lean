/- The walks of the reference's writer. -/
import Derived.Test.YtlehianbdamgmaaWrite2
namespace Go.Proofs.Ytlehianbdamgmaa
open Go.RowKit
set_option linter.unusedVariables false

/-- The reference's writer. -/
def RWr (w : World) (F : Nat → Prop) (base g : Nat) (most : Int) (xs : List Int) : Prop :=
  ∃ A c, Blk w g 100 #[.slice A xs.length c, .int .i64 most] ∧ OwnB w base (.slice A xs.length c) xs ∧ (xs.length : Int) ≤ most ∧ most ≤ 1048576 ∧ base ≤ g ∧
    F g ∧ (∀ k, (Value.slice A xs.length c).ownBlock = some k → F k) ∧ (∀ k, F k → base ≤ k ∧ k < w.heap.size)

/-- What becomes of a writer when its row has grown and the new row is stored. -/
theorem rwr_push {F : Nat → Prop} {w wr wa w2 : World} {base g n' c c2 : Nat} {most : Int} {A A2 : Option Addr} {zs zs' : List Int}
    (hT : Turned F w wr) (hB : Blk wr g 100 #[.slice A zs.length c, .int .i64 most]) (hO : OwnB wr base (.slice A zs.length c) zs)
    (hm : most ≤ 1048576) (hbg : base ≤ g) (hFg : Grow F w wr g) (hFv : ∀ k, (Value.slice A zs.length c).ownBlock = some k → Grow F w wr k) (hFw : ∀ k, Grow F w wr k → base ≤ k ∧ k < wr.heap.size)
    (ha : Below wr.heap.size wr wa) (hown2 : OwnB w2 base (.slice A2 n' c2) zs') (hg2 : wa.grownBy w2 (Value.slice A zs.length c).ownBlock)
    (hat : (Value.slice A2 n' c2).ownBlock = (Value.slice A zs.length c).ownBlock ∨ (Value.slice A2 n' c2).ownBlock = some wa.heap.size)
    (hn : n' = zs'.length) (hl : (zs'.length : Int) ≤ most) :
    RWr (w2.setCell ⟨g, 0, none⟩ (.slice A2 n' c2)) (Grow F w (w2.setCell ⟨g, 0, none⟩ (.slice A2 n' c2))) base g most zs' ∧ Turned F w (w2.setCell ⟨g, 0, none⟩ (.slice A2 n' c2)) := by
  subst hn
  have hgv := own_blk_ne hO hB (by decide)
  have hB2 : Blk w2 g 100 #[.slice A zs.length c, .int .i64 most] := Blk.grown (hB.below ha hB.lt) hg2 hgv.symm
  have hT2 : Turned F w w2 := ((hT.next (Turned.of_below ha)).trans (Turned.of_grown (F := fun k => (Value.slice A zs.length c).ownBlock = some k) hg2 (fun k h => h)) (fun i hi hv => by
    rcases hFv i hv with h | h
    · exact h
    · omega))
  have hs2 := hT2.size
  have hsz : (w2.setCell ⟨g, 0, none⟩ (.slice A2 zs'.length c2)).heap.size = w2.heap.size := by simp [World.setCell]
  have hT3 : Turned F w (w2.setCell ⟨g, 0, none⟩ (.slice A2 zs'.length c2)) := hT2.setCell (hFg.elim .inl fun h => .inr h.1) _
  have hra : wr.heap.size ≤ wa.heap.size := ha.size
  have ha2 : wa.heap.size ≤ w2.heap.size := hg2.size
  have hsr := hT.size
  have hgr : ∀ k, Grow F w wr k → Grow F w (w2.setCell ⟨g, 0, none⟩ (.slice A2 zs'.length c2)) k := fun k h => by
    rcases h with h | h
    · exact .inl h
    · exact .inr ⟨h.1, by omega⟩
  refine ⟨⟨A2, c2, hB2.set_ 0 _, own_setCell hown2 hB2 (by decide) _, hl, hm, hbg, hgr g hFg, fun k hk => ?_, fun k hk => ?_⟩, hT3⟩
  · rcases hat with h | h
    · exact hgr k (hFv k (h ▸ hk))
    · have hk' : k = wa.heap.size := by rw [h] at hk; injection hk with hk; exact hk.symm
      have := hown2.lt k hk
      exact .inr ⟨by omega, by omega⟩
  · rcases hk with h | h
    · have := hFw k (.inl h); omega
    · have := hFw g hFg
      refine ⟨?_, by omega⟩
      rcases Nat.lt_or_ge k wr.heap.size with h1 | h1
      · exact (hFw k (.inr ⟨h.1, h1⟩)).1
      · omega


def RWPost (w : World) (F : Nat → Prop) (base g : Nat) (most : Int) (code : Int) (xs' : List Int) (e : Ending) (w' : World) : Prop :=
  e = .returned (.int .i64 code) ∧ RWr w' (Grow F w w') base g most xs' ∧ Turned F w w'
theorem RWr.drewN_ {w : World} {F : Nat → Prop} {base g : Nat} {most : Int} {xs : List Int} (h : RWr w F base g most xs) (m : Nat) :
    RWr (w.drewN m) (Grow F w (w.drewN m)) base g most xs ∧ Turned F w (w.drewN m) := by
  obtain ⟨A, c, hB, hO, hlm, hm, hbg, hFg, hFv, hFw⟩ := h
  refine ⟨⟨A, c, hB, hO, hlm, hm, hbg, .inl hFg, fun k hk => .inl (hFv k hk), fun k hk => ?_⟩, (Turned.refl _ _).drewN _⟩
  rcases hk with h | h
  · exact hFw k h
  · exfalso; simp at h; omega
theorem RWr.same {w : World} {F : Nat → Prop} {base g : Nat} {most : Int} {xs : List Int} (h : RWr w F base g most xs) :
    RWr w (Grow F w w) base g most xs ∧ Turned F w w := by
  obtain ⟨A, c, hB, hO, hlm, hm, hbg, hFg, hFv, hFw⟩ := h
  refine ⟨⟨A, c, hB, hO, hlm, hm, hbg, .inl hFg, fun k hk => .inl (hFv k hk), fun k hk => ?_⟩, Turned.refl _ _⟩
  rcases hk with h | h
  · exact hFw k h
  · exfalso; omega

set_option maxRecDepth 100000 in
set_option maxHeartbeats 1000000 in
theorem ruint_count (g : Nat) (n x : Int) (w : World) (h : n < 1 ∨ 8 < n) :
    Calls Try.prog 60 #[.pointer (some ⟨g, 0, none⟩), .int .i64 n, .int .u64 x] w fun e w' => e = .returned (.int .i64 1) ∧ w = w' := by
  rcases h with h | h
  · go_enter Try.func60, Try.ntmps60
    go_wp2_with fail
    go_ret
    exact ⟨rfl, rfl⟩
  · have h1 : ¬ n < 1 := by omega
    go_enter Try.func60, Try.ntmps60
    go_wp2_with fail
    go_ret
    exact ⟨rfl, rfl⟩

set_option maxRecDepth 100000 in
set_option maxHeartbeats 1000000 in
theorem ruint_arg (g : Nat) (N : Nat) (x : Int) (w : World) (h1 : 1 ≤ N) (h2 : N < 8) (h : (x / 256 ^ N == 0) = false) :
    Calls Try.prog 60 #[.pointer (some ⟨g, 0, none⟩), .int .i64 N, .int .u64 x] w fun e w' => e = .returned (.int .i64 1) ∧ w = w' := by
  have hp1 : (8 * (N : Int)).toNat = 8 * N := by omega
  have hp2 := pow256 N
  have h3 : 8 * (N : Int) ≤ 64 := by omega
  have h' : (x / 256 ^ N != 0) = true := by rw [bne, h]; rfl
  go_enter Try.func60, Try.ntmps60
  go_wp2_with fail
  go_ret
  exact ⟨rfl, rfl⟩
set_option maxRecDepth 100000 in
set_option maxHeartbeats 1000000 in
theorem ruint_long_small (F : Nat → Prop) (base g : Nat) (most : Int) (xs : List Int) (N : Nat) (x : Int) (w : World) (hW : RWr w F base g most xs) (h1 : 1 ≤ N) (h2 : N < 8) (h : (x / 256 ^ N == 0) = true) (h3 : most < (xs.length : Int) + N) :
    Calls Try.prog 60 #[.pointer (some ⟨g, 0, none⟩), .int .i64 N, .int .u64 x] w fun e w' => e = .returned (.int .i64 2) ∧ ∃ m, w' = w.drewN m := by
  obtain ⟨A, c, hB, hO, hlm, hm, hbg, hFg, hFv, hFw⟩ := hW
  have c0 : w.cell? ⟨g, 0, none⟩ = some (.slice A xs.length c) := hB.cell 0
  have c1 : w.cell? ⟨g, 1, none⟩ = some (.int .i64 most) := hB.cell 1
  have hp1 : (8 * (N : Int)).toNat = 8 * N := by omega
  have hp2 := pow256 N
  have h38 : 8 * (N : Int) ≤ 64 := by omega
  have h' : (x / 256 ^ N != 0) = false := by rw [bne, h]; rfl
  go_enter Try.func60, Try.ntmps60
  go_wp2_with fail
  clear hp1 hp2 h38 h'
  go_quiet (fail)
  go_wp2_with fail
  go_ret
  exact ⟨rfl, _, rfl⟩

set_option maxRecDepth 100000 in
set_option maxHeartbeats 1000000 in
theorem ruint_yes_small (F : Nat → Prop) (base g : Nat) (most : Int) (xs : List Int) (N : Nat) (x : Int) (w : World) (hW : RWr w F base g most xs) (h1 : 1 ≤ N) (h2 : N < 8) (h : (x / 256 ^ N == 0) = true) (h3 : (xs.length : Int) + N ≤ most) :
    Calls Try.prog 60 #[.pointer (some ⟨g, 0, none⟩), .int .i64 N, .int .u64 x] w fun e w' => e = .returned (.int .i64 0) ∧
      RWr w' (Grow F w w') base g most (xs ++ beN N x) ∧ Turned F w w' := by
  obtain ⟨A, c, hB, hO, hlm, hm, hbg, hFg, hFv, hFw⟩ := hW
  have c0 : w.cell? ⟨g, 0, none⟩ = some (.slice A xs.length c) := hB.cell 0
  have c1 : w.cell? ⟨g, 1, none⟩ = some (.int .i64 most) := hB.cell 1
  have hp1 : (8 * (N : Int)).toNat = 8 * N := by omega
  have hp2 := pow256 N
  have h38 : 8 * (N : Int) ≤ 64 := by omega
  have h' : (x / 256 ^ N != 0) = false := by rw [bne, h]; rfl
  go_enter Try.func60, Try.ntmps60
  go_wp2_with fail
  clear hp1 hp2 h38 h'
  go_quiet (fail)
  obtain ⟨m1, rfl⟩ : ∃ m, m = nq := ⟨_, rfl⟩
  go_wp2_with fail
  clear c0 c1
  go_loopw [7] (fun i wr => ∃ (j : Nat) (ys : List Int), j ≤ N ∧ i = .int .i64 ((j : Int) - 1) ∧ RWr wr (Grow F w wr) base g most (xs ++ ys) ∧ Turned F w wr ∧ ys ++ beN j x = beN N x) (fun i _ => (intOf i + 1).toNat)
  case atStart => exact ⟨N, [], Nat.le_refl _, rfl, by
    rw [List.append_nil]
    refine ⟨A, c, Blk.drewN hB _, hO, hlm, hm, hbg, .inl hFg, fun k hk => .inl (hFv k hk), fun k hk => ?_⟩
    · rcases hk with h | h
      · exact hFw k h
      · exfalso; simp at h; omega, (Turned.refl _ _).drewN _, rfl⟩
  case round =>
    obtain ⟨j, ys, hj, rfl, hW, hT, he⟩ := hrel
    replace he := Lib.hid he
    obtain ⟨A, c, hB, hO, hlm, hm, hbg, hFg, hFv, hFw⟩ := hW
    have c0 : wr.cell? ⟨g, 0, none⟩ = some (.slice A (xs ++ ys).length c) := hB.cell 0
    have f0 := hB.frozen 0
    generalize hzs : xs ++ ys = zs at *
    replace hzs := Lib.hid hzs
    by_cases hlt : 1 ≤ j
    · obtain ⟨J, rfl⟩ : ∃ J, j = J + 1 := ⟨j - 1, by omega⟩
      rw [show (((J + 1 : Nat) : Int) - 1) = (J : Int) from by omega]
      have hp1 : (8 * (J : Int)).toNat = 8 * J := by omega
      have hp2 := pow256 J
      have hp3 : IntKind.u8.wrap (x / 256 ^ J) = x / 256 ^ J % 256 := IntKind.wrap_u8 _
      have hw8 : IntKind.i64.wrap (8 * (J : Int)) = 8 * (J : Int) := by rw [IntKind.wrap_i64]; omega
      have hlz : (zs.length : Int) + (J + 1) ≤ most := by
        have h1 := congrArg List.length he.out
        have h2 := congrArg List.length hzs.out
        simp only [List.length_append, beN_length] at h1 h2
        omega
      go_wp2_with fail
      have hnB : ReadsB (wr.alloc (.cells #[.int .u8 (x / 256 ^ J % 256)] 5)) (wr.heap.size + 1) (some ⟨wr.heap.size, 0, none⟩) [x / 256 ^ J % 256] := by
        have := ReadsB.new wr [x / 256 ^ J % 256] #[.int .u8 (x / 256 ^ J % 256)] 5 (0, 0) rfl
        simpa using this
      replace hnB := Lib.hid hnB
      have hOa := Lib.hid (OwnB.alloc hO (.cells #[.int .u8 (x / 256 ^ J % 256)] 5))
      have hzl : (zs ++ [x / 256 ^ J % 256]).length = zs.length + 1 := by simp
      replace hzl := Lib.hid hzl
      have hgv := own_blk_ne hO hB (by decide)
      have hBa := Lib.hid (Blk.alloc hB (.cells #[.int .u8 (x / 256 ^ J % 256)] 5))
      have hbs : base ≤ wr.heap.size + 1 := by have := (hFw g hFg); omega
      go_region_law (first
        | (refine step_appB (wr.alloc (.cells #[.int .u8 (x / 256 ^ J % 256)] 5)).drew (by rfl) (.tmp 47) (.tmp 53) (by rfl) base (.slice A zs.length c) zs (by simp [Act.eval]) hOa.out (wr.heap.size + 1) (some ⟨wr.heap.size, 0, none⟩) 1 1 [x / 256 ^ J % 256] (by simp [Act.eval]) hnB.out rfl
            (zs ++ [x / 256 ^ J % 256]) (zs.length + 1) rfl hzl.out (by omega) (by simp; omega) ?_
           intro A2 c2 w2 hown2 hg2 hb2 hat2
           have hB2 : Blk w2 g 100 #[.slice A zs.length c, .int .i64 most] := Blk.grown (w := (wr.alloc (.cells #[.int .u8 (x / 256 ^ J % 256)] 5)).drew) hBa.out hg2 hgv.symm
           have c02 : w2.cell? ⟨g, 0, none⟩ = some (.slice A zs.length c) := hB2.cell 0
           have f02 := hB2.frozen 0))
      all_goals
        go_wp2_with fail
        obtain ⟨q1, q2⟩ := rwr_push hT hB hO hm hbg hFg hFv hFw (((Below.refl _ _).alloc (Nat.le_refl _) _).drew) hown2 hg2 hat2 hzl.out.symm (by rw [hzl.out]; omega)
        exact ⟨⟨J, ys ++ [x / 256 ^ J % 256], by omega, rfl, by rw [← List.append_assoc, hzs.out]; exact q1, q2, by rw [List.append_assoc]; exact he.out⟩, by simp [intOf]⟩
    · obtain rfl : j = 0 := by omega
      go_wp2_with fail
      go_ret
      have hys : ys = beN N x := by have := he.out; simpa [beN] using this
      refine ⟨rfl, ?_, hT⟩
      rw [← hys, hzs.out]
      exact ⟨A, c, hB, hO, hlm, hm, hbg, hFg, hFv, hFw⟩

set_option maxRecDepth 100000 in
set_option maxHeartbeats 1000000 in
theorem ruint_long_eight (F : Nat → Prop) (base g : Nat) (most : Int) (xs : List Int) (N : Nat) (x : Int) (w : World) (hW : RWr w F base g most xs) (h1 : 1 ≤ N) (h2 : 7 < N) (h8 : N ≤ 8) (h3 : most < (xs.length : Int) + N) :
    Calls Try.prog 60 #[.pointer (some ⟨g, 0, none⟩), .int .i64 N, .int .u64 x] w fun e w' => e = .returned (.int .i64 2) ∧ ∃ m, w' = w.drewN m := by
  obtain ⟨A, c, hB, hO, hlm, hm, hbg, hFg, hFv, hFw⟩ := hW
  have c0 : w.cell? ⟨g, 0, none⟩ = some (.slice A xs.length c) := hB.cell 0
  have c1 : w.cell? ⟨g, 1, none⟩ = some (.int .i64 most) := hB.cell 1
  go_enter Try.func60, Try.ntmps60
  go_wp2_with fail
  go_quiet (fail)
  go_wp2_with fail
  go_ret
  exact ⟨rfl, _, rfl⟩

set_option maxRecDepth 100000 in
set_option maxHeartbeats 1000000 in
theorem ruint_yes_eight (F : Nat → Prop) (base g : Nat) (most : Int) (xs : List Int) (N : Nat) (x : Int) (w : World) (hW : RWr w F base g most xs) (h1 : 1 ≤ N) (h2 : 7 < N) (h8 : N ≤ 8) (h3 : (xs.length : Int) + N ≤ most) :
    Calls Try.prog 60 #[.pointer (some ⟨g, 0, none⟩), .int .i64 N, .int .u64 x] w fun e w' => e = .returned (.int .i64 0) ∧
      RWr w' (Grow F w w') base g most (xs ++ beN N x) ∧ Turned F w w' := by
  obtain ⟨A, c, hB, hO, hlm, hm, hbg, hFg, hFv, hFw⟩ := hW
  have c0 : w.cell? ⟨g, 0, none⟩ = some (.slice A xs.length c) := hB.cell 0
  have c1 : w.cell? ⟨g, 1, none⟩ = some (.int .i64 most) := hB.cell 1
  go_enter Try.func60, Try.ntmps60
  go_wp2_with fail
  go_quiet (fail)
  obtain ⟨m1, rfl⟩ : ∃ m, m = nq := ⟨_, rfl⟩
  go_wp2_with fail
  clear c0 c1
  go_loopw [7] (fun i wr => ∃ (j : Nat) (ys : List Int), j ≤ N ∧ i = .int .i64 ((j : Int) - 1) ∧ RWr wr (Grow F w wr) base g most (xs ++ ys) ∧ Turned F w wr ∧ ys ++ beN j x = beN N x) (fun i _ => (intOf i + 1).toNat)
  case atStart => exact ⟨N, [], Nat.le_refl _, rfl, by
    rw [List.append_nil]
    refine ⟨A, c, Blk.drewN hB _, hO, hlm, hm, hbg, .inl hFg, fun k hk => .inl (hFv k hk), fun k hk => ?_⟩
    · rcases hk with h | h
      · exact hFw k h
      · exfalso; simp at h; omega, (Turned.refl _ _).drewN _, rfl⟩
  case round =>
    obtain ⟨j, ys, hj, rfl, hW, hT, he⟩ := hrel
    replace he := Lib.hid he
    obtain ⟨A, c, hB, hO, hlm, hm, hbg, hFg, hFv, hFw⟩ := hW
    have c0 : wr.cell? ⟨g, 0, none⟩ = some (.slice A (xs ++ ys).length c) := hB.cell 0
    have f0 := hB.frozen 0
    generalize hzs : xs ++ ys = zs at *
    replace hzs := Lib.hid hzs
    by_cases hlt : 1 ≤ j
    · obtain ⟨J, rfl⟩ : ∃ J, j = J + 1 := ⟨j - 1, by omega⟩
      rw [show (((J + 1 : Nat) : Int) - 1) = (J : Int) from by omega]
      have hp1 : (8 * (J : Int)).toNat = 8 * J := by omega
      have hp2 := pow256 J
      have hp3 : IntKind.u8.wrap (x / 256 ^ J) = x / 256 ^ J % 256 := IntKind.wrap_u8 _
      have hw8 : IntKind.i64.wrap (8 * (J : Int)) = 8 * (J : Int) := by rw [IntKind.wrap_i64]; omega
      have hlz : (zs.length : Int) + (J + 1) ≤ most := by
        have h1 := congrArg List.length he.out
        have h2 := congrArg List.length hzs.out
        simp only [List.length_append, beN_length] at h1 h2
        omega
      go_wp2_with fail
      have hnB : ReadsB (wr.alloc (.cells #[.int .u8 (x / 256 ^ J % 256)] 5)) (wr.heap.size + 1) (some ⟨wr.heap.size, 0, none⟩) [x / 256 ^ J % 256] := by
        have := ReadsB.new wr [x / 256 ^ J % 256] #[.int .u8 (x / 256 ^ J % 256)] 5 (0, 0) rfl
        simpa using this
      replace hnB := Lib.hid hnB
      have hOa := Lib.hid (OwnB.alloc hO (.cells #[.int .u8 (x / 256 ^ J % 256)] 5))
      have hzl : (zs ++ [x / 256 ^ J % 256]).length = zs.length + 1 := by simp
      replace hzl := Lib.hid hzl
      have hgv := own_blk_ne hO hB (by decide)
      have hBa := Lib.hid (Blk.alloc hB (.cells #[.int .u8 (x / 256 ^ J % 256)] 5))
      have hbs : base ≤ wr.heap.size + 1 := by have := (hFw g hFg); omega
      go_region_law (first
        | (refine step_appB (wr.alloc (.cells #[.int .u8 (x / 256 ^ J % 256)] 5)).drew (by rfl) (.tmp 47) (.tmp 53) (by rfl) base (.slice A zs.length c) zs (by simp [Act.eval]) hOa.out (wr.heap.size + 1) (some ⟨wr.heap.size, 0, none⟩) 1 1 [x / 256 ^ J % 256] (by simp [Act.eval]) hnB.out rfl
            (zs ++ [x / 256 ^ J % 256]) (zs.length + 1) rfl hzl.out (by omega) (by simp; omega) ?_
           intro A2 c2 w2 hown2 hg2 hb2 hat2
           have hB2 : Blk w2 g 100 #[.slice A zs.length c, .int .i64 most] := Blk.grown (w := (wr.alloc (.cells #[.int .u8 (x / 256 ^ J % 256)] 5)).drew) hBa.out hg2 hgv.symm
           have c02 : w2.cell? ⟨g, 0, none⟩ = some (.slice A zs.length c) := hB2.cell 0
           have f02 := hB2.frozen 0))
      all_goals
        go_wp2_with fail
        obtain ⟨q1, q2⟩ := rwr_push hT hB hO hm hbg hFg hFv hFw (((Below.refl _ _).alloc (Nat.le_refl _) _).drew) hown2 hg2 hat2 hzl.out.symm (by rw [hzl.out]; omega)
        exact ⟨⟨J, ys ++ [x / 256 ^ J % 256], by omega, rfl, by rw [← List.append_assoc, hzs.out]; exact q1, q2, by rw [List.append_assoc]; exact he.out⟩, by simp [intOf]⟩
    · obtain rfl : j = 0 := by omega
      go_wp2_with fail
      go_ret
      have hys : ys = beN N x := by have := he.out; simpa [beN] using this
      refine ⟨rfl, ?_, hT⟩
      rw [← hys, hzs.out]
      exact ⟨A, c, hB, hO, hlm, hm, hbg, hFg, hFv, hFw⟩

end Go.Proofs.Ytlehianbdamgmaa
