/- An end: Take. -/
import Derived.Test.YtdilccihhelilaaPairD
import Derived.Deep.CutBlock
namespace Go.Proofs.Ytdilccihhelilaa
open Go.RowKit
set_option linter.unusedVariables false
set_option linter.unusedSimpArgs false
attribute [-go_sem] Builtin.append_

theorem tk0 (w : World) : (Instr.index 69 (.agg #[.int .i64 3, .int .i64 2, .int .i64 30, .int .i64 4]) (.int .i64 0)).run Try.prog w = .ok (.int .i64 3) w := by kernel_rfl
theorem tk1 (w : World) : (Instr.index 69 (.agg #[.int .i64 3, .int .i64 2, .int .i64 30, .int .i64 4]) (.int .i64 1)).run Try.prog w = .ok (.int .i64 2) w := by kernel_rfl
theorem tk2 (w : World) : (Instr.index 69 (.agg #[.int .i64 3, .int .i64 2, .int .i64 30, .int .i64 4]) (.int .i64 2)).run Try.prog w = .ok (.int .i64 30) w := by kernel_rfl
theorem tk3 (w : World) : (Instr.index 69 (.agg #[.int .i64 3, .int .i64 2, .int .i64 30, .int .i64 4]) (.int .i64 3)).run Try.prog w = .ok (.int .i64 4) w := by kernel_rfl
set_option maxRecDepth 100000 in
set_option maxHeartbeats 20000000 in
theorem take_bad3 (F : Nat → Prop) (g m cnt : Nat) (own : Bool) (kv : List Value) (first got : Int) (ev : Int → Option Value) (A : Option Addr) (c : Nat) (xs : List Int) (w : World) (h : HE w F g m cnt own kv first got ev)
    (ho : Calls Try.prog 26 #[.pointer (some ⟨g, 0, none⟩), .slice A xs.length c] w (OpenP w xs (first + kv.length))) (hf : frC xs (first + kv.length) = 3) :
    Calls Try.prog 11 #[.pointer (some ⟨g, 0, none⟩), .slice A xs.length c] w fun e w' => e = .returned (.tuple #[.slice none 0 0, .slice none 0 0, .int .i64 3]) ∧ Below w.heap.size w w' := by
  obtain ⟨c0, _⟩ := h.cell3
  have i0 := tk0
  have i1 := tk1
  have i2 := tk2
  have i3 := tk3
  replace hf := Lib.hid hf
  replace ho := Lib.hid ho
  go_enter Try.func11, Try.ntmps11
  go_wp2_with fail
  refine (pnone_no g w c0).mono ?_
  rintro _ _ ⟨rfl, rfl⟩
  go_wp2_with fail
  refine ho.out.mono ?_
  rintro _ w1 (⟨hbad, _⟩ | ⟨_, q, rfl, hJ, hb1⟩)
  · rw [hf.out] at hbad; omega
  rw [hf.out] at hJ
  have gi := fun t => Lib.hid (errIs_join q 3 t w1 hJ)
  unfold joinV at *
  go_wp2_with fail
  refine wp_loop_rounds 1 ?_
  rw [rounds_succ]
  go_wp2_with (first | (go_at_call 27; refine (gi _).out.mono ?_; rintro _ _ ⟨rfl, rfl⟩))
  refine bodyPost_ret (v := .tuple #[.slice none 0 0, .slice none 0 0, .int .i64 3]) (by simp [results, Try.results11, go_sem]) rfl ⟨rfl, hb1⟩
set_option maxRecDepth 100000 in
set_option maxHeartbeats 20000000 in
theorem take_bad2 (F : Nat → Prop) (g m cnt : Nat) (own : Bool) (kv : List Value) (first got : Int) (ev : Int → Option Value) (A : Option Addr) (c : Nat) (xs : List Int) (w : World) (h : HE w F g m cnt own kv first got ev)
    (ho : Calls Try.prog 26 #[.pointer (some ⟨g, 0, none⟩), .slice A xs.length c] w (OpenP w xs (first + kv.length))) (hf : frC xs (first + kv.length) = 2) :
    Calls Try.prog 11 #[.pointer (some ⟨g, 0, none⟩), .slice A xs.length c] w fun e w' => e = .returned (.tuple #[.slice none 0 0, .slice none 0 0, .int .i64 2]) ∧ Below w.heap.size w w' := by
  obtain ⟨c0, _⟩ := h.cell3
  have i0 := tk0
  have i1 := tk1
  have i2 := tk2
  have i3 := tk3
  replace hf := Lib.hid hf
  replace ho := Lib.hid ho
  go_enter Try.func11, Try.ntmps11
  go_wp2_with fail
  refine (pnone_no g w c0).mono ?_
  rintro _ _ ⟨rfl, rfl⟩
  go_wp2_with fail
  refine ho.out.mono ?_
  rintro _ w1 (⟨hbad, _⟩ | ⟨_, q, rfl, hJ, hb1⟩)
  · rw [hf.out] at hbad; omega
  rw [hf.out] at hJ
  have gi := fun t => Lib.hid (errIs_join q 2 t w1 hJ)
  unfold joinV at *
  go_wp2_with fail
  refine wp_loop_rounds 2 ?_
  rw [rounds_succ]
  go_wp2_with (first | (go_at_call 27; refine (gi _).out.mono ?_; rintro _ _ ⟨rfl, rfl⟩))
  rw [rounds_succ]
  go_wp2_with (first | (go_at_call 27; refine (gi _).out.mono ?_; rintro _ _ ⟨rfl, rfl⟩))
  refine bodyPost_ret (v := .tuple #[.slice none 0 0, .slice none 0 0, .int .i64 2]) (by simp [results, Try.results11, go_sem]) rfl ⟨rfl, hb1⟩
set_option maxRecDepth 100000 in
set_option maxHeartbeats 20000000 in
theorem take_bad30 (F : Nat → Prop) (g m cnt : Nat) (own : Bool) (kv : List Value) (first got : Int) (ev : Int → Option Value) (A : Option Addr) (c : Nat) (xs : List Int) (w : World) (h : HE w F g m cnt own kv first got ev)
    (ho : Calls Try.prog 26 #[.pointer (some ⟨g, 0, none⟩), .slice A xs.length c] w (OpenP w xs (first + kv.length))) (hf : frC xs (first + kv.length) = 30) :
    Calls Try.prog 11 #[.pointer (some ⟨g, 0, none⟩), .slice A xs.length c] w fun e w' => e = .returned (.tuple #[.slice none 0 0, .slice none 0 0, .int .i64 30]) ∧ Below w.heap.size w w' := by
  obtain ⟨c0, _⟩ := h.cell3
  have i0 := tk0
  have i1 := tk1
  have i2 := tk2
  have i3 := tk3
  replace hf := Lib.hid hf
  replace ho := Lib.hid ho
  go_enter Try.func11, Try.ntmps11
  go_wp2_with fail
  refine (pnone_no g w c0).mono ?_
  rintro _ _ ⟨rfl, rfl⟩
  go_wp2_with fail
  refine ho.out.mono ?_
  rintro _ w1 (⟨hbad, _⟩ | ⟨_, q, rfl, hJ, hb1⟩)
  · rw [hf.out] at hbad; omega
  rw [hf.out] at hJ
  have gi := fun t => Lib.hid (errIs_join q 30 t w1 hJ)
  unfold joinV at *
  go_wp2_with fail
  refine wp_loop_rounds 3 ?_
  rw [rounds_succ]
  go_wp2_with (first | (go_at_call 27; refine (gi _).out.mono ?_; rintro _ _ ⟨rfl, rfl⟩))
  rw [rounds_succ]
  go_wp2_with (first | (go_at_call 27; refine (gi _).out.mono ?_; rintro _ _ ⟨rfl, rfl⟩))
  rw [rounds_succ]
  go_wp2_with (first | (go_at_call 27; refine (gi _).out.mono ?_; rintro _ _ ⟨rfl, rfl⟩))
  refine bodyPost_ret (v := .tuple #[.slice none 0 0, .slice none 0 0, .int .i64 30]) (by simp [results, Try.results11, go_sem]) rfl ⟨rfl, hb1⟩
set_option maxRecDepth 100000 in
set_option maxHeartbeats 20000000 in
theorem take_bad4 (F : Nat → Prop) (g m cnt : Nat) (own : Bool) (kv : List Value) (first got : Int) (ev : Int → Option Value) (A : Option Addr) (c : Nat) (xs : List Int) (w : World) (h : HE w F g m cnt own kv first got ev)
    (ho : Calls Try.prog 26 #[.pointer (some ⟨g, 0, none⟩), .slice A xs.length c] w (OpenP w xs (first + kv.length))) (hf : frC xs (first + kv.length) = 4) :
    Calls Try.prog 11 #[.pointer (some ⟨g, 0, none⟩), .slice A xs.length c] w fun e w' => e = .returned (.tuple #[.slice none 0 0, .slice none 0 0, .int .i64 4]) ∧ Below w.heap.size w w' := by
  obtain ⟨c0, _⟩ := h.cell3
  have i0 := tk0
  have i1 := tk1
  have i2 := tk2
  have i3 := tk3
  replace hf := Lib.hid hf
  replace ho := Lib.hid ho
  go_enter Try.func11, Try.ntmps11
  go_wp2_with fail
  refine (pnone_no g w c0).mono ?_
  rintro _ _ ⟨rfl, rfl⟩
  go_wp2_with fail
  refine ho.out.mono ?_
  rintro _ w1 (⟨hbad, _⟩ | ⟨_, q, rfl, hJ, hb1⟩)
  · rw [hf.out] at hbad; omega
  rw [hf.out] at hJ
  have gi := fun t => Lib.hid (errIs_join q 4 t w1 hJ)
  unfold joinV at *
  go_wp2_with fail
  refine wp_loop_rounds 4 ?_
  rw [rounds_succ]
  go_wp2_with (first | (go_at_call 27; refine (gi _).out.mono ?_; rintro _ _ ⟨rfl, rfl⟩))
  rw [rounds_succ]
  go_wp2_with (first | (go_at_call 27; refine (gi _).out.mono ?_; rintro _ _ ⟨rfl, rfl⟩))
  rw [rounds_succ]
  go_wp2_with (first | (go_at_call 27; refine (gi _).out.mono ?_; rintro _ _ ⟨rfl, rfl⟩))
  rw [rounds_succ]
  go_wp2_with (first | (go_at_call 27; refine (gi _).out.mono ?_; rintro _ _ ⟨rfl, rfl⟩))
  refine bodyPost_ret (v := .tuple #[.slice none 0 0, .slice none 0 0, .int .i64 4]) (by simp [results, Try.results11, go_sem]) rfl ⟨rfl, hb1⟩
theorem take_bad (F : Nat → Prop) (g m cnt : Nat) (own : Bool) (kv : List Value) (first got : Int) (ev : Int → Option Value) (A : Option Addr) (c : Nat) (xs : List Int) (w : World) (h : HE w F g m cnt own kv first got ev)
    (hr : ReadsB w w.heap.size A xs) (hb : Bytes xs) (hc : xs.length ≤ c) (hm : c ≤ maxLen) (hf0 : 0 ≤ first) (hf1 : first ≤ 4000000000) (hk : kv.length ≤ 4096) (hf : frC xs (first + kv.length) ≠ 0) :
    Calls Try.prog 11 #[.pointer (some ⟨g, 0, none⟩), .slice A xs.length c] w fun e w' => e = .returned (.tuple #[.slice none 0 0, .slice none 0 0, .int .i64 (frC xs (first + kv.length))]) ∧ Below w.heap.size w w' := by
  have ho := open_any F g m cnt own kv first got ev A c xs w h hr hb hc hm hf0 hf1 hk
  have hcs : frC xs (first + kv.length) = 3 ∨ frC xs (first + kv.length) = 2 ∨ frC xs (first + kv.length) = 30 ∨ frC xs (first + kv.length) = 4 := by
    unfold frC at hf ⊢
    have := opC_range xs
    split at hf
    · rename_i h1
      rw [if_pos h1]
      omega
    · rename_i h1
      rw [if_neg h1]
      split at hf
      · rename_i h2
        rw [if_pos h2]
        omega
      · omega
  rcases hcs with e | e | e | e
  · rw [e]; exact take_bad3 F g m cnt own kv first got ev A c xs w h ho e
  · rw [e]; exact take_bad2 F g m cnt own kv first got ev A c xs w h ho e
  · rw [e]; exact take_bad30 F g m cnt own kv first got ev A c xs w h ho e
  · rw [e]; exact take_bad4 F g m cnt own kv first got ev A c xs w h ho e

theorem step_delI {ops : Array Oper} {o : Oper} {a : Act} {K : Act → World → Prop} {Q : Exit → Act → World → Prop} {E0 : Prop} (w : World) (hg : o.guard = none) (m x : Operand) (T E : TypeId) (hop : o.op = Op.call { callee := Callee.builtin Builtin.delete, args := #[m, x], argTypes := #[T, 3] })
    (ht : Try.prog.underlying T = some (.map 3 E)) (b n : Nat) (f : Int → Option Value) (hm : a.eval m = .map (some b)) (h : MapI w b n f) (y : Int) (hy : fit64 y) (hx : a.eval x = .int .i64 y) (hd : o.dst = none)
    (hK : ∀ w', MapI w' b n (fun z => if z = y then none else f z) → w.grownBy w' (some b) → K a w') :
    if Region.wanted o (yielded ops a.tmps) = true then Oper.wp Try.prog o a w K Q else E0 := by
  have hw : Region.wanted o (yielded ops a.tmps) = true := by simp [Region.wanted, hg]
  rw [if_pos hw]
  obtain ⟨w', hrun, r1, r2⟩ := h.del_ ht hy o.type
  unfold Oper.wp
  simp [execOp, hop, resolve, invoke, builtin, hm, hx, hrun, Result.andThen]
  show K (a.put o.dst (.tuple #[])) w'
  rw [hd]
  exact hK w' r1 r2
/-- What Take has made of an end. -/
def kN (xs : List Int) (first : Int) : Nat := (frH xs - first + 1).toNat
def insB (xs : List Int) (got : Int) (ev : Int → Option Value) : Bool := !(ev (frM xs)).isSome && decide (got < frM xs) && decide (frM xs - got ≤ 65)
def ev1 (xs : List Int) (got : Int) (ev : Int → Option Value) (b : Value) : Int → Option Value := fun x => if insB xs got ev = true ∧ x = frM xs then some b else ev x
set_option maxRecDepth 100000 in
set_option maxHeartbeats 20000000 in
theorem take_ok (F : Nat → Prop) (g m cnt : Nat) (own : Bool) (kv : List Value) (first got : Int) (ev : Int → Option Value) (A : Option Addr) (c : Nat) (xs : List Int) (w : World) (h : HE w F g m cnt own kv first got ev)
    (hr : ReadsB w w.heap.size A xs) (hb : Bytes xs) (hc : xs.length ≤ c) (hm : c ≤ maxLen) (hf0 : 1 ≤ first) (hf1 : first ≤ 4000000000) (hk : kv.length ≤ 4096) (hf : frC xs (first + kv.length) = 0)
    (hg0 : 0 ≤ got) (hg1 : got ≤ 4000000000) (hcnt : cnt < 4294967296) (hev : ∀ x, (ev x).isSome = true → x ≤ got + 65) (hone : ∀ x v, ev x = some v → ∃ A n c, v = Value.slice A n c) :
    Calls Try.prog 11 #[.pointer (some ⟨g, 0, none⟩), .slice A xs.length c] w fun e w' => ∃ AO cO vs AB nB cB b evN, e = .returned (.tuple #[.slice AO vs.length cO, .slice AB nB cB, .int .i64 0]) ∧ Turned F w w' ∧
      HE w' F g m (cnt + 1) false (kv.drop (kN xs first)) (first + kN xs first) (got + vs.length) evN ∧ kN xs first ≤ kv.length ∧ w'.ownsRow w.heap.size 27 1 (.slice AO vs.length cO) vs.length vs ∧ OwnB w' 0 b (frB xs) ∧
      (frM xs = 0 → vs = [] ∧ nB = 0 ∧ evN = ev) ∧
      (frM xs ≠ 0 → nB = 16 ∧ OwnB w' 0 (.slice AB nB cB) (FR 0 (got + vs.length) []) ∧ (∀ i (hi : i < vs.length), ev1 xs got ev b (got + 1 + i) = some vs[i]) ∧ ev1 xs got ev b (got + 1 + vs.length) = none ∧
        (∀ x, evN x = if got < x ∧ x ≤ got + vs.length then none else ev1 xs got ev b x)) := by
  have ho := open_any F g m cnt own kv first got ev A c xs w h hr hb hc hm (by omega) hf1 hk
  obtain ⟨c0, c2, c3, c4⟩ := h.cell3
  have i0 := tk0
  have i1 := tk1
  have i2 := tk2
  have i3 := tk3
  have gi := fun t w => Lib.hid (errIs_nil t w)
  replace hf := Lib.hid hf
  replace ho := Lib.hid ho
  go_enter Try.func11, Try.ntmps11
  go_wp2_with fail
  refine (pnone_no g w c0).mono ?_
  rintro _ _ ⟨rfl, rfl⟩
  go_wp2_with fail
  refine ho.out.mono ?_
  rintro _ w1 (⟨_, hlen8, AB, cB, rfl, hOB, hb1⟩ | ⟨hbad, _⟩)
  rotate_left
  · exact absurd hf.out hbad
  have hlim : frH xs < first + (kv.length : Int) := by
    have h0 := hf.out
    unfold frC at h0
    split at h0
    · rename_i hh; omega
    · split at h0
      · omega
      · omega
  have hHb : 0 ≤ frH xs ∧ frH xs < 4294967296 := g4_bd ((opB_bytes hb).drop 4)
  have hMb : 0 ≤ frM xs ∧ frM xs < 4294967296 := g4_bd (opB_bytes hb)
  have hkN : (kN xs first : Int) = if 0 < frH xs - first + 1 then frH xs - first + 1 else 0 := by unfold kN; split <;> omega
  have hkl : kN xs first ≤ kv.length := by unfold kN; omega
  obtain ⟨H, hH⟩ : ∃ H, H = frH xs := ⟨_, rfl⟩
  obtain ⟨M, hM⟩ : ∃ M, M = frM xs := ⟨_, rfl⟩
  obtain ⟨N, hN⟩ : ∃ N, N = kN xs first := ⟨_, rfl⟩
  rw [← hH, ← hM]
  rw [← hH] at hlim hHb
  rw [← hM] at hMb
  rw [← hN, ← hH] at hkN
  rw [← hN] at hkl
  have h1 := h.below hb1
  obtain ⟨d0, d2, d3, d4⟩ := h1.cell3
  obtain ⟨AK, cK, d1, ⟨hcK, hmK⟩, hRK⟩ := h1.cell1
  replace hH := Lib.hid hH
  replace hM := Lib.hid hM
  replace hN := Lib.hid hN
  replace hf := Lib.hid hf
  clear hr c0 c2 c3 c4 hRK
  have hw1 : IntKind.i64.wrap (H - first) = H - first := by rw [IntKind.wrap_i64]; omega
  have hw2 : IntKind.i64.wrap (H - first + 1) = H - first + 1 := by rw [IntKind.wrap_i64]; omega
  replace hkN := Lib.hid hkN
  go_wp2_with fail
  refine wp_loop_rounds 5 ?_
  rw [rounds_succ]
  go_wp2_with (first | (go_at_call 27; refine (gi _ _).out.mono ?_; rintro _ wq ⟨rfl, hwe⟩; have hwe' := hwe.symm; subst hwe'))
  rw [rounds_succ]
  go_wp2_with (first | (go_at_call 27; refine (gi _ _).out.mono ?_; rintro _ wq ⟨rfl, hwe⟩; have hwe' := hwe.symm; subst hwe'))
  rw [rounds_succ]
  go_wp2_with (first | (go_at_call 27; refine (gi _ _).out.mono ?_; rintro _ wq ⟨rfl, hwe⟩; have hwe' := hwe.symm; subst hwe'))
  rw [rounds_succ]
  go_wp2_with (first | (go_at_call 27; refine (gi _ _).out.mono ?_; rintro _ wq ⟨rfl, hwe⟩; have hwe' := hwe.symm; subst hwe'))
  rw [rounds_succ]
  go_upto_if 47 with fail
  have z1 : w1.frozen? ⟨g, 1, none⟩ = false := by obtain ⟨_, _, hB, _⟩ := h1; exact hB.frozen 1
  have z2 : w1.frozen? ⟨g, 2, none⟩ = false := by obtain ⟨_, _, hB, _⟩ := h1; exact hB.frozen 2
  go_cut [] from 19 (fun wx => HE wx F g m cnt false (kv.drop N) (first + N) got ev ∧ Turned F w1 wx)
  case first =>
    by_cases hn : 0 < H - first + 1
    · have b1 : decide (0 < H - first + 1) = true := decide_eq_true hn
      have hNi : H - first + 1 = (N : Int) := by rw [hkN.out, if_pos hn]
      have hw3 : IntKind.i64.wrap (first + (N : Int)) = first + (N : Int) := by rw [IntKind.wrap_i64]; omega
      have hN1 : N ≤ kv.length := hkl
      have hN2 : (N : Int) ≤ (kv.length : Int) := by omega
      have hN3 : ((kv.length : Int) - (N : Int)).toNat = kv.length - N := by omega
      have hN4 : ((cK : Int) - (N : Int)).toNat = cK - N := by omega
      have hcutH := he_first (he_cut h1 d1 hkl) (first + (N : Int))
      have hTc : ∀ X Y, Turned F w1 ((w1.setCell ⟨g, 1, none⟩ X).setCell ⟨g, 2, none⟩ Y) := fun X Y => ((Turned.refl F w1).setCell (.inl (by obtain ⟨_, _, _, _, _, _, _, _, h, _⟩ := h1; exact h)) _).setCell (.inl (by obtain ⟨_, _, _, _, _, _, _, _, h, _⟩ := h1; exact h)) _
      replace hTc := Lib.hid hTc
      replace hcutH := Lib.hid hcutH
      by_cases hcN : cK = N
      · have hcN2 : ((cK : Int) == (N : Int)) = true := by simp [hcN]
        have hcc := hcutH.out
        rw [if_pos hcN, show cK - N = 0 by omega] at hcc
        replace hcc := Lib.hid hcc
        go_wp2_with fail
        go_meet
        case rel => exact ⟨hcc.out, hTc.out _ _⟩
      · have hcc := hcutH.out
        rw [if_neg hcN] at hcc
        replace hcc := Lib.hid hcc
        go_wp2_with fail
        go_meet
        case rel => exact ⟨hcc.out, hTc.out _ _⟩
    · have b1 : decide (0 < H - first + 1) = false := decide_eq_false hn
      have hN0 : N = 0 := by have := hkN.out; rw [if_neg hn] at this; omega
      replace hN0 := Lib.hid hN0
      go_wp2_with fail
      go_meet
      case rel =>
        rw [hN0.out]
        exact ⟨by simpa using h1.loose, Turned.refl _ _⟩
  case rest =>
    obtain ⟨hH2, hT2⟩ := hcut
    clear hw1 hw2 d0 d1 d2 d3 d4 z1 z2 i0 i1 i2 i3 gi hcK hmK h1 ho
    have hTw : Turned F w wc := (Turned.of_below hb1).trans hT2 (fun _ _ h => h)
    obtain ⟨d0, d2, d3, d4⟩ := hH2.cell3
    have hOB2 : OwnB wc 0 (.slice AB (frB xs).length cB) (frB xs) := (hOB.base_ (Nat.zero_le _)).keep hT2 (fun k hk => (h.below hb1).noB k hk)
    have hzv : ∀ w, (zeroValue 27).run Try.prog w = .ok (.slice none 0 0) w := fun w => by kernel_rfl
    replace hOB2 := Lib.hid hOB2
    replace hTw := Lib.hid hTw
    replace hzv := Lib.hid hzv
    by_cases hM0 : M = 0
    · have q1 : (M == 0) = true := by simp [hM0]
      replace hM0 := Lib.hid hM0
      go_wp2_with fail
      refine bodyPost_ret (v := .tuple #[.slice none 0 0, .slice none 0 0, .int .i64 0]) (by simp [results, Try.results11, go_sem]) rfl ?_
      refine ⟨none, 0, [], none, 0, 0, .slice AB (frB xs).length cB, ev, rfl, hTw.out, ?_, by rw [← hN.out]; exact hkl, World.ownsRow_nil _ _ _ _, hOB2.out, fun _ => ⟨rfl, rfl, rfl⟩, fun hne => absurd (hM.out.symm.trans hM0.out) hne⟩
      rw [← hN.out]
      simpa using hH2.more (Nat.le_succ cnt)
    · have q1 : (M == 0) = false := by simp [hM0]
      have hfit : fit64 M := by unfold fit64; omega
      have hlk : (Instr.lookup 45 (.map (some m)) (.int .i64 M) true).run Try.prog wc = .ok (.tuple #[(ev M).getD (.slice none 0 0), .bool (ev M).isSome]) wc := by
        obtain ⟨_, _, _, _, _, _, _, hMp, _⟩ := hH2
        exact hMp.look_ok Try.underlying45 (hzv.out wc) hfit
      obtain ⟨th, hth⟩ : ∃ t, t = (ev M).isSome := ⟨_, rfl⟩
      obtain ⟨vM, hvM⟩ : ∃ t, t = (ev M).getD (.slice none 0 0) := ⟨_, rfl⟩
      rw [← hth, ← hvM] at hlk
      replace hth := Lib.hid hth
      replace hvM := Lib.hid hvM
      have hw4 : IntKind.i64.wrap (M - got) = M - got := by rw [IntKind.wrap_i64]; omega
      go_upto_region 17 with fail
      go_cut [94] from 76 (fun t wx => t = .bool (!th && decide (got < M) && decide (M - got ≤ 65)) ∧ wx = wc)
      case first =>
        cases th
        · by_cases hgm : got < M
          · have p1 : decide (got < M) = true := decide_eq_true hgm
            by_cases hgl : M - got ≤ 65
            · have p2 : decide (M - got ≤ 65) = true := decide_eq_true hgl
              go_wp2_with fail
              go_meet
              case rel => exact ⟨by rw [p1, p2]; rfl, rfl⟩
            · have p2 : decide (M - got ≤ 65) = false := decide_eq_false hgl
              go_wp2_with fail
              go_meet
              case rel => exact ⟨by rw [p1, p2]; rfl, rfl⟩
          · have p1 : decide (got < M) = false := decide_eq_false hgm
            go_wp2_with fail
            go_meet
            case rel => exact ⟨by rw [p1]; rfl, rfl⟩
        · go_wp2_with fail
          go_meet
          case rel => exact ⟨rfl, rfl⟩
      case rest =>
        obtain ⟨rfl, rfl⟩ := hcut
        have hins : insB xs got ev = (!th && decide (got < M) && decide (M - got ≤ 65)) := by unfold insB; rw [← hM.out, hth.out]
        generalize hib : (!th && decide (got < M) && decide (M - got ≤ 65)) = ib at *
        replace hins := Lib.hid hins
        replace hib := Lib.hid hib
        go_upto_if 94 with fail
        go_cut [] from 95 (fun wx => HE wx F g m (cnt + 1) false (kv.drop N) (first + N) got (ev1 xs got ev (.slice AB (frB xs).length cB)) ∧ Turned F wc wx)
        case first =>
          have hGg : g ≠ m := he_ne hH2
          obtain ⟨_, _, _, _, _, _, _, hMp, hFg, hFm, _⟩ := id hH2
          cases ib
          · go_wp2_with fail
            go_meet
            case rel =>
              have e : ev1 xs got ev (.slice AB (frB xs).length cB) = ev := funext fun x => by unfold ev1; rw [hins.out]; simp
              rw [e]
              exact ⟨hH2.more (Nat.le_succ cnt), Turned.refl _ _⟩
          · go_wp2_with (first
              | (at_mapUpdate
                 refine wpList_setI _ rfl (.tmp 98) (.tmp 99) (.tmp 100) 45 27 rfl Try.underlying45 m cnt ev rfl hMp (by unfold maxLen; omega) M hfit (.slice AB (frB xs).length cB) rfl rfl ?_
                 intro w3 hM3 hg3))
            go_meet
            case rel =>
              have e : ev1 xs got ev (.slice AB (frB xs).length cB) = fun z => if z = M then some (.slice AB (frB xs).length cB) else ev z := funext fun x => by unfold ev1; rw [hins.out, ← hM.out]; simp
              rw [e]
              exact ⟨he_map hH2 hM3 hg3, Turned.of_grown hg3 (fun k e => by injection e with e; exact e ▸ hFm)⟩
        case rest =>
          obtain ⟨hH3, hT3⟩ := hcut
          obtain ⟨b, hbe⟩ : ∃ b, b = Value.slice AB (frB xs).length cB := ⟨_, rfl⟩
          rw [← hbe] at hH3 hOB2
          obtain ⟨E1, hE1⟩ : ∃ E, E = ev1 xs got ev b := ⟨_, rfl⟩
          rw [← hE1] at hH3
          have hE65 : ∀ x, (E1 x).isSome = true → x ≤ got + 65 := fun x hx => by
            rw [hE1] at hx
            unfold ev1 at hx
            split at hx
            · rename_i hc
              have h2 := hc.1
              unfold insB at h2
              simp only [Bool.and_eq_true, decide_eq_true_eq] at h2
              have := hc.2
              omega
            · exact hev x hx
          have hEone : ∀ x v, E1 x = some v → ∃ A n c, v = Value.slice A n c := fun x v hx => by
            rw [hE1] at hx
            unfold ev1 at hx
            split at hx
            · injection hx with hx
              exact ⟨_, _, _, by rw [← hx, hbe]⟩
            · exact hone x v hx
          have hTw3 : Turned F w wc := hTw.out.trans hT3 (fun _ _ h => h)
          have hOB3 : OwnB wc 0 b (frB xs) := hOB2.out.keep hT3 (fun k hk => hH2.noB k hk)
          have hFw : ∀ k, F k → k < w.heap.size := fun k hk => (h.lt k hk).1
          replace hE1 := Lib.hid hE1
          replace hbe := Lib.hid hbe
          replace hE65 := Lib.hid hE65
          replace hEone := Lib.hid hEone
          replace hFw := Lib.hid hFw
          clear hT3 hTw hOB2 hH2 hlk q1 hw4 hfit hT2 hOB
          obtain ⟨i0, hi0, hz0, hz1, hz2⟩ := info_parts infoR
          have hsz0 := hTw3.size
          go_wp2_with fail
          go_loopw [16] (fun o wr => ∃ (k : Nat) (A : Option Addr) (c : Nat) (vs : List Value) (ek : Int → Option Value), o = .slice A k c ∧ vs.length = k ∧ k ≤ 66 ∧ HE wr F g m (cnt + 1) false (kv.drop N) (first + N) (got + k) ek ∧ (∀ x, ek x = if got < x ∧ x ≤ got + k then none else E1 x) ∧ (∀ i (hi : i < vs.length), E1 (got + 1 + i) = some vs[i]) ∧
            wr.ownsRow w.heap.size 27 1 (.slice A k c) k vs ∧ OwnB wr 0 b (frB xs) ∧ Turned F w wr) (fun o _ => 70 - (match o with | .slice _ n _ => n | _ => 0))
          case atStart =>
            refine ⟨0, none, 0, [], E1, rfl, rfl, by omega, by simpa using hH3, fun x => ?_, fun i hi => absurd hi (by simp), World.ownsRow_nil _ _ _ _, hOB3, hTw3⟩
            rw [if_neg (by omega)]
          case round =>
            obtain ⟨k, A2, cO, vs, ek, rfl, hvl, hk66, hHk, hek, hvs, hO, hOBk, hTk⟩ := hrel
            obtain ⟨d0, d2, d3, d4⟩ := hHk.cell3
            have hfit : fit64 (got + k + 1) := by unfold fit64; omega
            have hw5 : IntKind.i64.wrap (got + (k : Int) + 1) = got + (k : Int) + 1 := by rw [IntKind.wrap_i64]; omega
            have hlk : (Instr.lookup 45 (.map (some m)) (.int .i64 (got + k + 1)) true).run Try.prog wr = .ok (.tuple #[(ek (got + k + 1)).getD (.slice none 0 0), .bool (ek (got + k + 1)).isSome]) wr := by
              obtain ⟨_, _, _, _, _, _, _, hMp, _⟩ := id hHk
              exact hMp.look_ok Try.underlying45 (hzv.out wr) hfit
            have hlkd : (Instr.lookup 45 (.map (some m)) (.int .i64 (got + k + 1)) true).run Try.prog wr.drew = .ok (.tuple #[(ek (got + k + 1)).getD (.slice none 0 0), .bool (ek (got + k + 1)).isSome]) wr.drew := by
              obtain ⟨_, _, _, _, _, _, _, hMp, _⟩ := id (hHk.below ((Below.refl _ _).drew))
              exact hMp.look_ok Try.underlying45 (hzv.out wr.drew) hfit
            have hex : ek (got + k + 1) = E1 (got + k + 1) := by rw [hek, if_neg (by omega)]
            rw [hex] at hlk hlkd
            replace hex := Lib.hid hex
            replace hek := Lib.hid hek
            replace hvs := Lib.hid hvs
            cases hE : E1 (got + k + 1) with
            | none =>
              rw [hE] at hlk hlkd
              simp only [Option.getD_none, Option.isSome_none] at hlk hlkd
              replace hE := Lib.hid hE
              go_wp2_with fail
              go_region
              subst hvl
              have gw := pwrap_any g 0 (got + (vs.length : Int)) none 0 [] wr.drew d3 (by omega) (by omega) (by omega) (by omega) (by simp) (ReadsB.nil_ _ _) Bytes.nil
              simp only [List.length_nil, Nat.zero_add] at gw
              replace gw := Lib.hid gw
              go_wp2_with fail
              refine gw.out.mono ?_
              rintro _ w8 ⟨A8, c8, rfl, hO8, hb8⟩
              have hb9 : Below wr.heap.size wr w8 := (Below.refl _ _).drew.trans hb8
              have hT8 : Turned F w w8 := hTk.trans (Turned.of_below (F := F) hb9) (fun _ _ h => h)
              have hH8 := hHk.below hb9
              have hO9 := own_below hO hb9
              have hB9 : OwnB w8 0 b (frB xs) := hOBk.below hb9
              replace hO8 := Lib.hid (hO8.base_ (Nat.zero_le _))
              clear gw hlk hlkd hb8
              go_wp2_with fail
              refine bodyPost_ret (v := .tuple #[.slice A2 vs.length cO, .slice A8 16 c8, .int .i64 0]) (by simp [results, Try.results11, go_sem]) rfl ?_
              refine ⟨A2, cO, vs, A8, 16, c8, b, ek, rfl, hT8, ?_, by rw [← hN.out]; exact hkl, hO9, hB9, fun h0 => absurd (hM.out.trans h0) hM0, fun _ => ⟨rfl, hO8.out, ?_, ?_, ?_⟩⟩
              · rw [← hN.out]; exact hH8
              · rw [← hE1.out]; exact hvs.out
              · rw [← hE1.out, show got + 1 + (vs.length : Int) = got + (vs.length : Int) + 1 by omega]; exact hE.out
              · rw [← hE1.out]; exact hek.out
            | some v =>
              obtain ⟨vA, vn, vc, rfl⟩ := hEone.out _ v hE
              rw [hE] at hlk hlkd
              simp only [Option.getD_some, Option.isSome_some] at hlk hlkd
              replace hE := Lib.hid hE
              have z3 : wr.frozen? ⟨g, 3, none⟩ = false := by obtain ⟨_, _, hB, _⟩ := hHk; exact hB.frozen 3
              go_wp2_with fail
              go_region
              go_wp2_with fail
              have hFg : F g := by obtain ⟨_, _, _, _, _, _, _, _, h, _⟩ := id hHk; exact h
              have hH1 := (he_got hHk (got + (k : Int) + 1)).below ((Below.refl _ _).drew)
              have hTA : Turned F wr (wr.setCell ⟨g, 3, none⟩ (.int .i64 (got + (k : Int) + 1))) := (Turned.refl F wr).setCell (.inl hFg) _
              have hTB : Turned F wr (wr.setCell ⟨g, 3, none⟩ (.int .i64 (got + (k : Int) + 1))).drew := ⟨hTA.os, hTA.tape, hTA.output, hTA.size, hTA.block⟩
              clear hTA hlk hlkd d0 d2 d3 d4 z3
              generalize (wr.setCell ⟨g, 3, none⟩ (.int .i64 (got + (k : Int) + 1))).drew = W2 at *
              have hH2d := hH1.below ((Below.refl _ _).drew)
              obtain ⟨e0, e2, e3, e4⟩ := hH1.cell3
              have hMp : MapI W2.drew m (cnt + 1) ek := by obtain ⟨_, _, _, _, _, _, _, hMp, _⟩ := id hH2d; exact hMp
              have hgm := he_ne hH1
              have hOB2 : OwnB W2.drew 0 b (frB xs) := hOBk.keep (⟨hTB.os, hTB.tape, hTB.output, hTB.size, hTB.block⟩ : Turned F wr W2.drew) (fun k hk => hHk.noB k hk)
              have hO2 : W2.drew.ownsRow w.heap.size 27 1 (.slice A2 k cO) k vs := own_turned (w' := W2) hO hTB (fun q hq hFq => by have := (hO.lt q hq).1; have := hFw.out q hFq; omega)
              have hTB' : Turned F w W2.drew := by
                have := hTk.trans hTB (fun _ _ h => h)
                exact ⟨this.os, this.tape, this.output, this.size, this.block⟩
              replace hOB2 := Lib.hid hOB2
              replace hO2 := Lib.hid hO2
              replace hMp := Lib.hid hMp
              replace hTB' := Lib.hid hTB'
              clear hTB hOBk hTk
              go_region_held_law (fun w' => w'.cell? ⟨g, 3, none⟩ = some (.int .i64 (got + (k : Int) + 1)) ∧ w'.cell? ⟨g, 4, none⟩ = some (.map (some m))) (go_keep)
                ((refine step_delI _ rfl (.tmp 129) (.tmp 133) 45 27 rfl Try.underlying45 m (cnt + 1) ek rfl hMp.out (got + (k : Int) + 1) hfit rfl rfl ?_
                  intro w5 hM5 hg5
                  have y3 : w5.cell? ⟨g, 3, none⟩ = some (.int .i64 (got + (k : Int) + 1)) := hg5.cell (a := ⟨g, 3, none⟩) e3 (fun e => by injection e with e; exact hgm e)
                  have y4 : w5.cell? ⟨g, 4, none⟩ = some (.map (some m)) := hg5.cell (a := ⟨g, 4, none⟩) e4 (fun e => by injection e with e; exact hgm e)))
              have hFm : F m := by obtain ⟨_, _, _, _, _, _, _, _, _, h, _⟩ := id hHk; exact h
              have hT5 : Turned F W2.drew w5 := Turned.of_grown hg5 (fun q e => by injection e with e; exact e ▸ hFm)
              have hH5 := he_map hH2d hM5 hg5
              have hO5 := own_turned hO2.out hT5 (fun q hq hFq => by have := (hO2.out.lt q hq).1; have := hFw.out q hFq; omega)
              have hOB5 := hOB2.out.keep hT5 (fun k hk => hH2d.noB k hk)
              have hTw5 : Turned F w w5 := hTB'.out.trans hT5 (fun _ _ h => h)
              have hO6 := World.ownsRow.alloc hO5 (.cells #[.slice vA vn vc] 27)
              have hR1 : Reads (w5.alloc (.cells #[.slice vA vn vc] 27)) (w5.heap.size + 1) 1 (some ⟨w5.heap.size, 0, none⟩) 1 [.slice vA vn vc] := by
                have := Reads.new w5 #[.slice vA vn vc] 27 (0, 0) 1 1 rfl
                simpa using this
              have hb6 := b0 w5 (.cells #[.slice vA vn vc] 27)
              have hH6 := hH5.below hb6
              have hOB6 : OwnB (w5.alloc (.cells #[.slice vA vn vc] 27)) 0 b (frB xs) := hOB5.below hb6
              have hT6 : Turned F w (w5.alloc (.cells #[.slice vA vn vc] 27)) := hTw5.alloc _
              have hv1 : (Value.slice vA vn vc).oneCell' = true := rfl
              have hk64 : k ≤ 64 := by have := hE65.out (got + k + 1) (by rw [hE.out]; rfl); omega
              have hbase := hT6.size
              clear y3 y4 e0 e2 e3 e4 hM5 hg5 hT5 hH5 hH1 hH2d hHk
              replace hH6 := Lib.hid hH6
              replace hOB6 := Lib.hid hOB6
              replace hT6 := Lib.hid hT6
              go_wp2_with (first
                | (at_builtin
                   refine wpList_app (P := Try.prog) _ rfl (.tmp 134) (.tmp 136) 26 rfl w.heap.size 27 i0 _ 1 24 Try.underlying26 hi0 hz0 hz1 hz2 rfl (by omega) (.slice A2 k cO) k vs rfl hO6 (w5.heap.size + 1) (some ⟨w5.heap.size, 0, none⟩) 1 1 [.slice vA vn vc] rfl hR1
                     (fun u hu => by rw [List.mem_singleton.1 hu]; exact hv1) (by unfold maxLen; omega) (by omega) hbase ?_
                   intro A7 c7 w7 hown7 hg7 hat7))
              have hT7g : Turned (fun q => (Value.slice A2 k cO).ownBlock = some q) (w5.alloc (.cells #[.slice vA vn vc] 27)) w7 := Turned.of_grown hg7 (fun q e => e)
              have hnF : ∀ q, (Value.slice A2 k cO).ownBlock = some q → ¬ F q := fun q hq hFq => by have := (hO6.lt q hq).1; have := hFw.out q hFq; omega
              have hH7 := hH6.out.turned hT7g (fun q hF hq => hnF q hq hF)
              have hOB7 : OwnB w7 0 b (frB xs) := own_other hOB6.out hO6 (by decide) hg7
              have hT7 : Turned F w w7 := hT6.out.trans hT7g (fun q hq hr => by have := (hO6.lt q hr).1; omega)
              refine ⟨⟨k + 1, A7, c7, vs ++ [.slice vA vn vc], _, rfl, by simp [hvl], by omega, (by rw [show got + ((k + 1 : Nat) : Int) = got + (k : Int) + 1 by push_cast; omega]; exact hH7), fun x => ?_, fun i hi => ?_, hown7, hOB7, hT7⟩, by simp; omega⟩
              · rw [hek.out]
                by_cases hx : x = got + (k : Int) + 1
                · rw [if_pos hx, if_pos (by push_cast; omega)]
                · rw [if_neg hx]
                  by_cases hx2 : got < x ∧ x ≤ got + (k : Int)
                  · rw [if_pos hx2, if_pos (by push_cast; omega)]
                  · rw [if_neg hx2, if_neg (by push_cast; omega)]
              · rw [List.length_append, List.length_singleton] at hi
                by_cases hik : i < vs.length
                · rw [List.getElem_append_left hik]; exact hvs.out i hik
                · have : i = vs.length := by omega
                  subst this
                  have e1 : (vs ++ [Value.slice vA vn vc])[vs.length] = Value.slice vA vn vc := by simp
                  rw [e1, show got + 1 + (vs.length : Int) = got + (k : Int) + 1 by omega]
                  exact hE.out
end Go.Proofs.Ytdilccihhelilaa
