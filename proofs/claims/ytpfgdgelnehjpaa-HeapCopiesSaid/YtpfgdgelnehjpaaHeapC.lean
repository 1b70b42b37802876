/- A copy of a heap. -/
import Derived.Test.YtpfgdgelnehjpaaHeapY
import Derived.Test.YtpfgdgelnehjpaaNarrow
import Derived.Deep.RegionHeldLaw
import Derived.Deep.CutBlock
namespace Go.Proofs.Ytpfgdgelnehjpaa
open Go.RowKit
set_option linter.unusedVariables false
set_option linter.unusedSimpArgs false
attribute [-go_sem] Builtin.append_

theorem makeP (n : Nat) (hn : n ≤ 1024) : ∃ Z : Array Value, Z.size = n * 7 ∧ ∀ w : World, (Instr.makeSlice 78 (.int .i64 (n : Int)) (.int .i64 (n : Int))).run Try.prog w = .ok (.slice (some ⟨w.heap.size, 0, none⟩) n n) (w.alloc (.cells Z 106)) := by
  obtain ⟨i0, hi0, hz0, hz1, hz2⟩ := info_parts infoP
  refine ⟨madeCells (Value.cells (.agg #[.int .i64 0, .string .empty, .int .i64 0, .int .i64 0, .int .i64 0, .int .i64 0, .int .i64 0])) (n * i0.size), by rw [size_madeCells, hz1], fun w => ?_⟩
  have h := run_make (P := Try.prog) w 78 106 i0 _ Try.underlying78 hi0 hz0 .i64 .i64 n n (by omega) (Int.le_refl _) (by rw [hz2]; omega) (by omega)
  simpa using h
theorem makeV (n : Nat) (hn : n ≤ 1048576) : ∃ Z : Array Value, Z.size = n * 3 ∧ ∀ w : World, (Instr.makeSlice 59 (.int .i64 (n : Int)) (.int .i64 (n : Int))).run Try.prog w = .ok (.slice (some ⟨w.heap.size, 0, none⟩) n n) (w.alloc (.cells Z 49)) := by
  obtain ⟨i0, hi0, hz0, hz1, hz2⟩ := info_parts infoV
  refine ⟨madeCells (Value.cells (.agg #[.int .i64 0, .int .i64 0, .int .i64 0])) (n * i0.size), by rw [size_madeCells, hz1], fun w => ?_⟩
  have h := run_make (P := Try.prog) w 59 49 i0 _ Try.underlying59 hi0 hz0 .i64 .i64 n n (by omega) (Int.le_refl _) (by rw [hz2]; omega) (by omega)
  simpa using h
theorem step_copyF {P : Program} {ops : Array Oper} {o : Oper} {a : Act} {w : World} {K : Act → World → Prop} {Q : Exit → Act → World → Prop} {E : Prop} (hgd : o.guard = none) (d s : Operand) (dT sT : TypeId)
    (ho : o.op = .call { callee := .builtin .copy, args := #[d, s], argTypes := #[dT, sT] }) (elem : TypeId) (i : TypeInfo) (size base g n dCap sCap : Nat) (sA : Option Addr) (xs cs : List Value)
    (hd : a.eval d = .slice (some ⟨g, 0, none⟩) n dCap) (hs : a.eval s = .slice sA n sCap)
    (hu : P.underlying dT = some (.slice elem)) (hi : P.info? elem = some i) (hsz : i.size = size) (hO : w.ownsRow base elem size (.slice (some ⟨g, 0, none⟩) n dCap) n xs)
    (hR : Reads w w.heap.size size sA n cs) (h1 : ∀ v ∈ cs, v.oneCell' = true)
    (sl : Option Tmp) (hsl : o.dst = sl) (h : ∀ w', w'.ownsRow base elem size (.slice (some ⟨g, 0, none⟩) n dCap) n cs → w.grownBy w' (some g) → K (a.put sl (goInt n)) w') :
    if Region.wanted o (yielded ops a.tmps) = true then Oper.wp P o a w K Q else E := by
  subst hsl
  have hw : Region.wanted o (yielded ops a.tmps) = true := by simp [Region.wanted, hgd]
  rw [if_pos hw]
  obtain ⟨w', hrun, r1, r2⟩ := run_copy_full (P := P) w dT sT o.type elem i size base g n dCap sCap sA xs cs hu hi hsz hO hR.1 (fun ad e j v hj => by
      rcases Nat.eq_zero_or_pos n with h0 | h0
      · have := hR.1; rw [h0, Nat.zero_mul] at this; rw [List.eq_nil_of_length_eq_zero this] at hj; cases hj
      · obtain ⟨ad', e', _, hc⟩ := hR.2 h0
        rw [e'] at e
        injection e with e
        subst e
        exact hc j v hj)
    (fun e => by
      rcases Nat.eq_zero_or_pos n with h0 | h0
      · have := hR.1; rw [h0, Nat.zero_mul] at this; exact List.eq_nil_of_length_eq_zero this
      · obtain ⟨ad', e', _⟩ := hR.2 h0
        rw [e] at e'
        cases e') h1
  unfold Oper.wp
  simp [execOp, ho, resolve, invoke, builtin, hd, hs, hrun, Result.andThen]
  exact h w' r1 r2
/-- A heap that is being copied: its block, its rows as they were made. -/
structure CS (w W : World) (gc gp gv n m : Nat) (most : Int) (ZP ZV : Array Value) : Prop where
  blk : Blk W gc 80 #[.slice (some ⟨gp, 0, none⟩) n n, .slice (some ⟨gv, 0, none⟩) m m, .int .i64 most, .bool true]
  rp : Blk W gp 106 ZP
  rv : Blk W gv 49 ZV
  below : Below w.heap.size w W
  lt : w.heap.size ≤ gc ∧ w.heap.size ≤ gp ∧ w.heap.size ≤ gv
theorem CS.drew {w W : World} {gc gp gv n m : Nat} {most : Int} {ZP ZV : Array Value} (h : CS w W gc gp gv n m most ZP ZV) : CS w W.drew gc gp gv n m most ZP ZV := ⟨h.blk.drew, h.rp.drew, h.rv.drew, h.below.drew, h.lt⟩
/-- Both cells are stored, whatever came before. -/
theorem cs_set {w W : World} {gc gp gv n m : Nat} {most : Int} {ZP ZV : Array Value} {u0 u1 : Value} (hB : Blk W gc 80 #[u0, u1, .int .i64 most, .bool true]) (hP : Blk W gp 106 ZP) (hV : Blk W gv 49 ZV) (hb : Below w.heap.size w W) (hl : w.heap.size ≤ gc ∧ w.heap.size ≤ gp ∧ w.heap.size ≤ gv) (n1 : gp ≠ gc) (n2 : gv ≠ gc) :
    CS w ((W.setCell ⟨gc, 0, none⟩ (.slice (some ⟨gp, 0, none⟩) n n)).setCell ⟨gc, 1, none⟩ (.slice (some ⟨gv, 0, none⟩) m m)) gc gp gv n m most ZP ZV :=
  ⟨(hB.set_ 0 _).set_ 1 _, (hP.far n1 _).far n1 _, (hV.far n2 _).far n2 _, (hb.setCell hl.1 _).setCell hl.1 _, hl⟩
theorem cs_set1 {w W : World} {gc gp gv n m : Nat} {most : Int} {ZP ZV : Array Value} {u1 : Value} (hB : Blk W gc 80 #[.slice (some ⟨gp, 0, none⟩) n n, u1, .int .i64 most, .bool true]) (hP : Blk W gp 106 ZP) (hV : Blk W gv 49 ZV) (hb : Below w.heap.size w W) (hl : w.heap.size ≤ gc ∧ w.heap.size ≤ gp ∧ w.heap.size ≤ gv) (n1 : gp ≠ gc) (n2 : gv ≠ gc) :
    CS w (W.setCell ⟨gc, 1, none⟩ (.slice (some ⟨gv, 0, none⟩) m m)) gc gp gv n m most ZP ZV :=
  ⟨hB.set_ 1 _, hP.far n1 _, hV.far n2 _, hb.setCell hl.1 _, hl⟩
section
variable {w W0 : World} {gc n m : Nat} {most : Int} {ZP ZV : Array Value} {u0 u1 : Value}
theorem cs_a (hB : Blk W0 gc 80 #[u0, u1, .int .i64 most, .bool true]) (hb : Below w.heap.size w W0) (hs : W0.heap.size = gc + 1) (hl : w.heap.size = gc) :
    CS w ((((W0.alloc (.cells ZP 106)).alloc (.cells ZV 49)).setCell ⟨gc, 0, none⟩ (.slice (some ⟨W0.heap.size, 0, none⟩) n n)).setCell ⟨gc, 1, none⟩ (.slice (some ⟨W0.heap.size + 1, 0, none⟩) m m)) gc W0.heap.size (W0.heap.size + 1) n m most ZP ZV := by
  have h1 : Blk (W0.alloc (.cells ZP 106)) W0.heap.size 106 ZP := Blk.new _ _ _
  have h2 : Blk ((W0.alloc (.cells ZP 106)).alloc (.cells ZV 49)) (W0.alloc (.cells ZP 106)).heap.size 49 ZV := Blk.new _ _ _
  rw [World.size_alloc] at h2
  exact cs_set ((hB.alloc _).alloc _) (h1.alloc _) h2 ((hb.alloc (by omega) _).alloc (by rw [World.size_alloc]; omega) _) (by omega) (by omega) (by omega)
theorem cs_b (hB : Blk W0 gc 80 #[u0, u1, .int .i64 most, .bool true]) (hb : Below w.heap.size w W0) (hs : W0.heap.size = gc + 1) (hl : w.heap.size = gc) :
    CS w ((((W0.alloc (.cells ZP 106)).setCell ⟨gc, 0, none⟩ (.slice (some ⟨W0.heap.size, 0, none⟩) n n)).alloc (.cells ZV 49)).setCell ⟨gc, 1, none⟩ (.slice (some ⟨W0.heap.size + 1, 0, none⟩) m m)) gc W0.heap.size (W0.heap.size + 1) n m most ZP ZV := by
  have e : ((W0.alloc (.cells ZP 106)).setCell ⟨gc, 0, none⟩ (.slice (some ⟨W0.heap.size, 0, none⟩) n n)).heap.size = W0.heap.size + 1 := by simp [World.setCell]
  have h1 : Blk (W0.alloc (.cells ZP 106)) W0.heap.size 106 ZP := Blk.new _ _ _
  have hne : W0.heap.size ≠ gc := by omega
  have h1' : Blk ((W0.alloc (.cells ZP 106)).setCell ⟨gc, 0, none⟩ (.slice (some ⟨W0.heap.size, 0, none⟩) n n)) W0.heap.size 106 ZP := h1.far hne _
  have hB' : Blk ((W0.alloc (.cells ZP 106)).setCell ⟨gc, 0, none⟩ (.slice (some ⟨W0.heap.size, 0, none⟩) n n)) gc 80 #[.slice (some ⟨W0.heap.size, 0, none⟩) n n, u1, .int .i64 most, .bool true] := (hB.alloc _).set_ 0 _
  have hb' : Below w.heap.size w ((W0.alloc (.cells ZP 106)).setCell ⟨gc, 0, none⟩ (.slice (some ⟨W0.heap.size, 0, none⟩) n n)) := (hb.alloc (by omega) _).setCell (by dsimp only; omega) _
  generalize (W0.alloc (.cells ZP 106)).setCell ⟨gc, 0, none⟩ (.slice (some ⟨W0.heap.size, 0, none⟩) n n) = W1 at *
  have h2 : Blk (W1.alloc (.cells ZV 49)) W1.heap.size 49 ZV := Blk.new _ _ _
  rw [e] at h2
  exact cs_set1 (hB'.alloc _) (h1'.alloc _) h2 (hb'.alloc (by omega) _) (by omega) (by omega) (by omega)
theorem cs_c (hB : Blk W0 gc 80 #[u0, u1, .int .i64 most, .bool true]) (hb : Below w.heap.size w W0) (hs : W0.heap.size = gc + 1) (hl : w.heap.size = gc) :
    CS w ((((W0.alloc (.cells ZV 49)).alloc (.cells ZP 106)).setCell ⟨gc, 0, none⟩ (.slice (some ⟨W0.heap.size + 1, 0, none⟩) n n)).setCell ⟨gc, 1, none⟩ (.slice (some ⟨W0.heap.size, 0, none⟩) m m)) gc (W0.heap.size + 1) W0.heap.size n m most ZP ZV := by
  have h1 : Blk (W0.alloc (.cells ZV 49)) W0.heap.size 49 ZV := Blk.new _ _ _
  have h2 : Blk ((W0.alloc (.cells ZV 49)).alloc (.cells ZP 106)) (W0.alloc (.cells ZV 49)).heap.size 106 ZP := Blk.new _ _ _
  rw [World.size_alloc] at h2
  exact cs_set ((hB.alloc _).alloc _) h2 (h1.alloc _) ((hb.alloc (by omega) _).alloc (by rw [World.size_alloc]; omega) _) (by omega) (by omega) (by omega)
end
theorem own_of_blk {w : World} {base g n size : Nat} {e : TypeId} {Z : Array Value} (h : Blk w g e Z) (hb : base ≤ g) (hn : n ≤ maxLen) (hz : Z.size = n * size) : w.ownsRow base e size (.slice (some ⟨g, 0, none⟩) n n) n Z.toList :=
  ⟨by simpa using hz, .inr ⟨g, n, Z, rfl, hb, h, Nat.le_refl _, hn, hz, List.take_of_length_le (by rw [Array.length_toList, hz]; exact Nat.le_refl _)⟩⟩

set_option maxRecDepth 100000 in
set_option maxHeartbeats 20000000 in
theorem hcopy_any (g : Nat) (ps : List Pc) (vs : List Vl) (most : Int) (w : World) (F : Nat → Prop) (base : Nat) (h : HS w F base g ps vs most) (hps : ps.length ≤ 1024) (hvs : vs.length ≤ 1048576) :
    Calls Try.prog 36 #[.pointer (some ⟨g, 0, none⟩)] w fun e w' => ∃ gc, e = .returned (.pointer (some ⟨gc, 0, none⟩)) ∧ HS w' (fun k => w.heap.size ≤ k ∧ k < w'.heap.size) w.heap.size gc ps vs most ∧ Below w.heap.size w w' := by
  obtain ⟨ZP, hZP, gmP⟩ := makeP ps.length hps
  obtain ⟨ZV, hZV, gmV⟩ := makeV vs.length hvs
  have h0 := h
  obtain ⟨A, c, B, d, hB, hO, hV, hbg, hFg, hFv, hFu, hFw⟩ := h
  have c0 : w.cell? ⟨g, 0, none⟩ = some (.slice A ps.length c) := hB.cell 0
  have c1 : w.cell? ⟨g, 1, none⟩ = some (.slice B vs.length d) := hB.cell 1
  have c2 : w.cell? ⟨g, 2, none⟩ = some (.int .i64 most) := hB.cell 2
  have c3 : w.cell? ⟨g, 3, none⟩ = some (.bool true) := hB.cell 3
  replace gmP := Lib.hid gmP
  replace gmV := Lib.hid gmV
  go_enter Try.func36, Try.ntmps36
  go_wp2_with fail
  refine (hnone_any g w c3).mono ?_
  rintro _ _ ⟨rfl, rfl⟩
  go_wp2_with fail
  have hbC := b0 w (.cells #[.slice A ps.length c, .slice B vs.length d, .int .i64 most, .bool true] 80)
  have hBC := Blk.new w 80 #[.slice A ps.length c, .slice B vs.length d, .int .i64 most, .bool true]
  have hsC : (w.alloc (.cells #[.slice A ps.length c, .slice B vs.length d, .int .i64 most, .bool true] 80)).heap.size = w.heap.size + 1 := by simp
  obtain ⟨gc, hgc⟩ : ∃ gc, w.heap.size = gc := ⟨_, rfl⟩
  rw [hgc] at hBC hsC ⊢
  generalize w.alloc (.cells #[.slice A ps.length c, .slice B vs.length d, .int .i64 most, .bool true] 80) = W0 at *
  have d0 : W0.cell? ⟨g, 0, none⟩ = some (.slice A ps.length c) := old2 c0 hbC
  have d1 : W0.cell? ⟨g, 1, none⟩ = some (.slice B vs.length d) := old2 c1 hbC
  have e0 : W0.cell? ⟨gc, 0, none⟩ = some (.slice A ps.length c) := hBC.cell 0
  have e1 : W0.cell? ⟨gc, 1, none⟩ = some (.slice B vs.length d) := hBC.cell 1
  have z0 : W0.frozen? ⟨gc, 0, none⟩ = false := hBC.frozen 0
  have z1 : W0.frozen? ⟨gc, 1, none⟩ = false := hBC.frozen 1
  have n1 : gc ≠ g := by have := hB.lt; omega
  have n2 : g ≠ gc := Ne.symm n1
  replace hgc := Lib.hid hgc
  replace hsC := Lib.hid hsC
  clear c0 c1 c2 c3
  have rP := gmP.out
  have rV := gmV.out
  have hgl : gc < W0.heap.size := hBC.lt
  have al : ∀ (W : World) (o : Obj) (j : Nat), gc < W.heap.size → (W.alloc o).cell? ⟨gc, j, none⟩ = W.cell? ⟨gc, j, none⟩ := fun W o j h => World.cell?_alloc_lt _ _ _ h
  have fl : ∀ (W : World) (o : Obj) (j : Nat), gc < W.heap.size → (W.alloc o).frozen? ⟨gc, j, none⟩ = W.frozen? ⟨gc, j, none⟩ := fun W o j h => by
    have hh := Below.heap_alloc W o gc h
    simp only [World.frozen?, hh]
  have hal : ∀ (W : World) (o : Obj), gc < W.heap.size → gc < (W.alloc o).heap.size := fun W o h => by simp; omega
  have k1 : ∀ o, (W0.alloc o).cell? ⟨gc, 0, none⟩ = some (.slice A ps.length c) := fun o => (al _ _ _ hgl).trans e0
  have k2 : ∀ o o', ((W0.alloc o).alloc o').cell? ⟨gc, 0, none⟩ = some (.slice A ps.length c) := fun o o' => (al _ _ _ (hal _ _ hgl)).trans (k1 o)
  have k3 : ∀ o, (W0.alloc o).cell? ⟨gc, 1, none⟩ = some (.slice B vs.length d) := fun o => (al _ _ _ hgl).trans e1
  have k4 : ∀ o o', ((W0.alloc o).alloc o').cell? ⟨gc, 1, none⟩ = some (.slice B vs.length d) := fun o o' => (al _ _ _ (hal _ _ hgl)).trans (k3 o)
  have k5 : ∀ o o' u, (((W0.alloc o).alloc o').setCell ⟨gc, 0, none⟩ u).cell? ⟨gc, 1, none⟩ = some (.slice B vs.length d) := fun o o' u => (World.cell?_setCell_other _ _ _ _ (by simp)).trans (k4 o o')
  have k6 : ∀ o o' u, (((W0.alloc o).setCell ⟨gc, 0, none⟩ u).alloc o').cell? ⟨gc, 1, none⟩ = some (.slice B vs.length d) := fun o o' u => (al _ _ _ (by simp [World.setCell]; omega)).trans ((World.cell?_setCell_other _ _ _ _ (by simp)).trans (k3 o))
  have q1 : ∀ o, (W0.alloc o).frozen? ⟨gc, 0, none⟩ = false := fun o => (fl _ _ _ hgl).trans z0
  have q2 : ∀ o o', ((W0.alloc o).alloc o').frozen? ⟨gc, 0, none⟩ = false := fun o o' => (fl _ _ _ (hal _ _ hgl)).trans (q1 o)
  have q4 : ∀ o o', ((W0.alloc o).alloc o').frozen? ⟨gc, 1, none⟩ = false := fun o o' => (fl _ _ _ (hal _ _ hgl)).trans ((fl _ _ _ hgl).trans z1)
  have q5 : ∀ o o' u, (((W0.alloc o).alloc o').setCell ⟨gc, 0, none⟩ u).frozen? ⟨gc, 1, none⟩ = false := fun o o' u => (World.frozen?_setCell _ _ _ _).trans (q4 o o')
  have q6 : ∀ o o' u, (((W0.alloc o).setCell ⟨gc, 0, none⟩ u).alloc o').frozen? ⟨gc, 1, none⟩ = false := fun o o' u => (fl _ _ _ (by simp [World.setCell]; omega)).trans ((World.frozen?_setCell _ _ _ _).trans ((fl _ _ _ hgl).trans z1))
  clear al fl hal hgl
  go_upto_region 4 with fail
  go_cut [] from 9 (fun wx => ∃ gp gv, CS w wx gc gp gv ps.length vs.length most ZP ZV)
  case first =>
    go_region_held_law (fun w' => w'.cell? ⟨g, 0, none⟩ = some (.slice A ps.length c) ∧ w'.cell? ⟨g, 1, none⟩ = some (.slice B vs.length d)) (go_keep) (fail)
    all_goals
      have hws := hgc.out
      have hs0 := hsC.out
      have nW : gc ≠ W0.heap.size := by omega
      have nW1 : gc ≠ W0.heap.size + 1 := by omega
    · go_wp2_with fail
      go_meet
      case rel => exact ⟨_, _, (cs_a hBC hbC hs0 hws).drew⟩
    · go_wp2_with fail
      go_meet
      case rel => exact ⟨_, _, (cs_b hBC hbC hs0 hws).drew⟩
    · go_wp2_with fail
      go_meet
      case rel => exact ⟨_, _, (cs_c hBC hbC hs0 hws).drew⟩
  case rest =>
    clear k1 k2 k3 k4 k5 k6 q1 q2 q4 q5 q6 d0 d1 e0 e1 z0 z1 rP rV gmP gmV hBC hbC n1 n2 hsC
    obtain ⟨gp, gv, b1, b2, b3, b4, b5, b6, b7⟩ := hcut
    generalize wc = W1 at *
    obtain ⟨i0, hi0, _, hz1, _⟩ := info_parts infoP
    obtain ⟨i1, hi1, _, hz1', _⟩ := info_parts infoV
    have oP := own_of_blk (base := w.heap.size) (n := ps.length) (size := 7) b2 b6 (by unfold maxLen; omega) hZP
    have oV := own_of_blk (base := w.heap.size) (n := vs.length) (size := 3) b3 b7 (by unfold maxLen; omega) hZV
    have hgc2 : gc ≠ gp := b1.ne_ b2 (by decide)
    have hgc3 : gc ≠ gv := b1.ne_ b3 (by decide)
    have f0 : W1.cell? ⟨g, 0, none⟩ = some (.slice A ps.length c) := b4.cell (p := ⟨g, 0, none⟩) hB.lt |>.trans (hB.cell 0)
    have f1 : W1.cell? ⟨g, 1, none⟩ = some (.slice B vs.length d) := b4.cell (p := ⟨g, 1, none⟩) hB.lt |>.trans (hB.cell 1)
    have x0 : W1.cell? ⟨gc, 0, none⟩ = some (.slice (some ⟨gp, 0, none⟩) ps.length ps.length) := b1.cell 0
    have x1 : W1.cell? ⟨gc, 1, none⟩ = some (.slice (some ⟨gv, 0, none⟩) vs.length vs.length) := b1.cell 1
    have rP : Reads W1.drew W1.drew.heap.size 7 A ps.length (cellsP ps) := ((own_reads hO).below b4).more b4.size
    have oP' : W1.drew.ownsRow w.heap.size 106 7 (.slice (some ⟨gp, 0, none⟩) ps.length ps.length) ps.length ZP.toList := oP
    replace oP' := Lib.hid oP'
    replace rP := Lib.hid rP
    go_wp2_with fail
    go_region_held_law (fun w' => w'.cell? ⟨g, 0, none⟩ = some (.slice A ps.length c) ∧ w'.cell? ⟨gc, 0, none⟩ = some (.slice (some ⟨gp, 0, none⟩) ps.length ps.length)) (go_keep)
      ((refine step_copyF rfl (.tmp 24) (.tmp 28) 78 78 rfl 106 i0 7 w.heap.size gp ps.length ps.length c A ZP.toList (cellsP ps) rfl rfl Try.underlying78 hi0 hz1 oP'.out rP.out cellsP_one (some 29) rfl ?_
        intro w2 own2 gr2
        simp only [Act.put, List.setIfInBounds_toArray, List.set_cons_zero, List.set_cons_succ]
        have y0 : w2.cell? ⟨g, 0, none⟩ = some (.slice A ps.length c) := gr2.cell (a := ⟨g, 0, none⟩) f0 (fun e => by have := hB.lt; injection e with e; dsimp only at e; omega)
        have y1 : w2.cell? ⟨gc, 0, none⟩ = some (.slice (some ⟨gp, 0, none⟩) ps.length ps.length) := gr2.cell (a := ⟨gc, 0, none⟩) x0 (fun e => by injection e with e; exact hgc2 e)))
    have gr2' : W1.grownBy w2 (some gp) := ⟨gr2.os, gr2.tape, gr2.output, gr2.size, gr2.block⟩
    have hb2 : Below w.heap.size w w2 := b4.grown gr2' (by have := b4.size; omega) (fun k hk => by injection hk with hk; omega)
    have hBc2 : Blk w2 gc 80 _ := b1.grown gr2' (fun e => by injection e with e; exact hgc2 e)
    have hBv2 : Blk w2 gv 49 ZV := b3.grown gr2' (fun e => by injection e with e; exact (b2.ne_ b3 (by decide)) e.symm)
    have u0 : w2.cell? ⟨g, 1, none⟩ = some (.slice B vs.length d) := gr2'.cell (a := ⟨g, 1, none⟩) f1 (fun e => by have := hB.lt; injection e with e; dsimp only at e; omega)
    have u1 : w2.cell? ⟨gc, 1, none⟩ = some (.slice (some ⟨gv, 0, none⟩) vs.length vs.length) := gr2'.cell (a := ⟨gc, 1, none⟩) x1 (fun e => by injection e with e; exact hgc2 e)
    have oV2 : w2.drew.ownsRow w.heap.size 49 3 (.slice (some ⟨gv, 0, none⟩) vs.length vs.length) vs.length ZV.toList := own_of_blk (w := w2) hBv2 b7 (by unfold maxLen; omega) hZV
    have rV2 : Reads w2.drew w2.drew.heap.size 3 B vs.length (cellsV vs) := ((own_reads hV).below hb2).more hb2.size
    replace oV2 := Lib.hid oV2
    replace rV2 := Lib.hid rV2
    clear f0 f1 x0 x1 y0 y1 rP oP'
    go_wp2_with fail
    go_region_held_law (fun w' => w'.cell? ⟨g, 1, none⟩ = some (.slice B vs.length d) ∧ w'.cell? ⟨gc, 1, none⟩ = some (.slice (some ⟨gv, 0, none⟩) vs.length vs.length)) (go_keep)
      ((refine step_copyF rfl (.tmp 31) (.tmp 35) 59 59 rfl 49 i1 3 w.heap.size gv vs.length vs.length d B ZV.toList (cellsV vs) rfl rfl Try.underlying59 hi1 hz1' oV2.out rV2.out cellsV_one (some 36) rfl ?_
        intro w3 own3 gr3
        simp only [Act.put, List.setIfInBounds_toArray, List.set_cons_zero, List.set_cons_succ]
        have y0 : w3.cell? ⟨g, 1, none⟩ = some (.slice B vs.length d) := gr3.cell (a := ⟨g, 1, none⟩) u0 (fun e => by have := hB.lt; injection e with e; dsimp only at e; omega)
        have y1 : w3.cell? ⟨gc, 1, none⟩ = some (.slice (some ⟨gv, 0, none⟩) vs.length vs.length) := gr3.cell (a := ⟨gc, 1, none⟩) u1 (fun e => by injection e with e; exact hgc3 e)))
    have gr3' : w2.grownBy w3 (some gv) := ⟨gr3.os, gr3.tape, gr3.output, gr3.size, gr3.block⟩
    have hb3 : Below w.heap.size w w3 := hb2.grown gr3' (by have := hb2.size; omega) (fun k hk => by injection hk with hk; omega)
    have hBc3 : Blk w3 gc 80 _ := hBc2.grown gr3' (fun e => by injection e with e; exact hgc3 e)
    clear y0 y1 u0 u1 rV2 oV2
    go_wp2_with fail
    go_ret
    exact ⟨gc, rfl, ⟨some ⟨gp, 0, none⟩, ps.length, some ⟨gv, 0, none⟩, vs.length, hBc3, own2.kept gr3' (.inr (by simp [Value.ownBlock]; exact fun e => (b2.ne_ b3 (by decide)) e)), own3, b5, ⟨b5, hBc3.lt⟩, fun k hk => ⟨(own2.lt k hk).1, by have := (own2.lt k hk).2; have := gr3'.size; omega⟩, fun k hk => own3.lt k hk, fun k hk => hk⟩, hb3⟩
end Go.Proofs.Ytpfgdgelnehjpaa
