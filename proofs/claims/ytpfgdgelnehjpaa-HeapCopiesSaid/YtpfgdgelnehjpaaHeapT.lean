/- What a heap tells. -/
import Derived.Test.YtpfgdgelnehjpaaHeapR
namespace Go.Proofs.Ytpfgdgelnehjpaa
open Go.RowKit
set_option linter.unusedVariables false
set_option linter.unusedSimpArgs false

/-- The object of a number. -/
def olD (ol : List (Ty × List Vl)) (r : Int) : Option (Ty × List Vl) := if 1 ≤ r ∧ r ≤ ol.length then ol[(r - 1).toNat]? else none
def tyZ : Ty := ⟨0, ⟨#[]⟩, 0, 0, 0⟩
def typeV (ol : List (Ty × List Vl)) (r : Int) : Ty := match olD ol r with | none => tyZ | some x => x.1
def typeC (ol : List (Ty × List Vl)) (r : Int) : Int := match olD ol r with | none => 6 | some _ => 0
def lenV (ol : List (Ty × List Vl)) (r : Int) : Nat := match olD ol r with | none => 0 | some x => x.2.length
def rgV (ol : List (Ty × List Vl)) (r i : Int) : Vl := match olD ol r with | none => ⟨0, 0, 0⟩ | some x => if i < 0 ∨ (x.2.length : Int) ≤ i then ⟨0, 0, 0⟩ else x.2.getD i.toNat ⟨0, 0, 0⟩
def rgC (ol : List (Ty × List Vl)) (r i : Int) : Int := match olD ol r with | none => 6 | some x => if i < 0 ∨ (x.2.length : Int) ≤ i then 1 else 0
theorem ol_cases (ol : List (Ty × List Vl)) (r : Int) : ((r < 1 ∨ (ol.length : Int) < r) ∧ olD ol r = none) ∨ ∃ (k : Nat) (x : Ty × List Vl), r = (k : Int) + 1 ∧ ol[k]? = some x ∧ olD ol r = some x := by
  by_cases h : 1 ≤ r ∧ r ≤ ol.length
  · refine .inr ⟨(r - 1).toNat, ol[(r - 1).toNat]'(by omega), by omega, List.getElem?_eq_getElem _, ?_⟩
    unfold olD
    rw [if_pos h, List.getElem?_eq_getElem (by omega)]
  · exact .inl ⟨by omega, if_neg h⟩
theorem olD_objs (ps : List Pc) (vs : List Vl) (r : Int) : (olD (objs ps vs) r).map (·.2) = objD ps vs r := by
  unfold olD objD objs
  rw [List.length_map]
  split
  · rw [List.getElem?_map, Option.map_map]; rfl
  · rfl
theorem rgV_objs (ps : List Pc) (vs : List Vl) (r i : Int) : rgV (objs ps vs) r i = getV ps vs r i := by
  unfold rgV getV
  rw [← olD_objs]
  cases olD (objs ps vs) r <;> rfl
theorem rgC_objs (ps : List Pc) (vs : List Vl) (r i : Int) : rgC (objs ps vs) r i = getC ps vs r i := by
  unfold rgC getC
  rw [← olD_objs]
  cases olD (objs ps vs) r <;> rfl
theorem objs_len_eq (ps : List Pc) (vs : List Vl) : (objs ps vs).length = ps.length := List.length_map _

set_option maxRecDepth 100000 in
set_option maxHeartbeats 8000000 in
theorem type_any (g : Nat) (r : Int) (ps : List Pc) (vs : List Vl) (most : Int) (w : World) (F : Nat → Prop) (base : Nat) (h : HS w F base g ps vs most) (hw : WP ps vs) (hps : ps.length ≤ 1024) :
    Calls Try.prog 34 #[.pointer (some ⟨g, 0, none⟩), .int .i64 r] w fun e w' => e = .returned (.tuple #[(typeV (objs ps vs) r).val, .int .i64 (typeC (objs ps vs) r)]) ∧ Below w.heap.size w w' := by
  have hW := b0 w (.cells #[.int .i64 0, .string ⟨#[]⟩, .int .i64 0, .int .i64 0, .int .i64 0] 30)
  have hS := h.below hW
  unfold typeV typeC
  rcases ol_cases (objs ps vs) r with ⟨hr, ho⟩ | ⟨k, x, rfl, hk, ho⟩
  · rw [objs_len_eq] at hr
    have hd := Lib.hid (data_out g r ps vs most _ F base hS hr)
    rw [ho]
    dsimp only
    unfold tyZ Ty.val
    go_enter Try.func34, Try.ntmps34
    go_wp2_with fail
    refine hd.out.mono ?_
    rintro _ w2 ⟨rfl, hb2⟩
    have hX := (Blk.new w 30 #[.int .i64 0, .string ⟨#[]⟩, .int .i64 0, .int .i64 0, .int .i64 0]).below hb2 (by simp)
    have c0 : w2.cell? ⟨w.heap.size, 0, none⟩ = some (.int .i64 0) := hX.cell 0
    have fc0 := hX.frozen 0
    have c1 : w2.cell? ⟨w.heap.size, 1, none⟩ = some (.string ⟨#[]⟩) := hX.cell 1
    have fc1 := hX.frozen 1
    have c2 : w2.cell? ⟨w.heap.size, 2, none⟩ = some (.int .i64 0) := hX.cell 2
    have fc2 := hX.frozen 2
    have c3 : w2.cell? ⟨w.heap.size, 3, none⟩ = some (.int .i64 0) := hX.cell 3
    have fc3 := hX.frozen 3
    have c4 : w2.cell? ⟨w.heap.size, 4, none⟩ = some (.int .i64 0) := hX.cell 4
    have fc4 := hX.frozen 4
    have hbf := bn hW hb2
    go_wp2_with fail
    have hX3 := ((((hX.set_ 0 (.int .i64 0)).set_ 1 (.string ⟨#[]⟩)).set_ 2 (.int .i64 0)).set_ 3 (.int .i64 0)).set_ 4 (.int .i64 0)
    have r0 : (((((w2.setCell ⟨w.heap.size, 0, none⟩ (.int .i64 0)).setCell ⟨w.heap.size, 1, none⟩ (.string ⟨#[]⟩)).setCell ⟨w.heap.size, 2, none⟩ (.int .i64 0)).setCell ⟨w.heap.size, 3, none⟩ (.int .i64 0)).setCell ⟨w.heap.size, 4, none⟩ (.int .i64 0)).cell? ⟨w.heap.size, 0, none⟩ = some (.int .i64 0) := hX3.cell 0
    have r1 : (((((w2.setCell ⟨w.heap.size, 0, none⟩ (.int .i64 0)).setCell ⟨w.heap.size, 1, none⟩ (.string ⟨#[]⟩)).setCell ⟨w.heap.size, 2, none⟩ (.int .i64 0)).setCell ⟨w.heap.size, 3, none⟩ (.int .i64 0)).setCell ⟨w.heap.size, 4, none⟩ (.int .i64 0)).cell? ⟨w.heap.size, 1, none⟩ = some (.string ⟨#[]⟩) := hX3.cell 1
    have r2 : (((((w2.setCell ⟨w.heap.size, 0, none⟩ (.int .i64 0)).setCell ⟨w.heap.size, 1, none⟩ (.string ⟨#[]⟩)).setCell ⟨w.heap.size, 2, none⟩ (.int .i64 0)).setCell ⟨w.heap.size, 3, none⟩ (.int .i64 0)).setCell ⟨w.heap.size, 4, none⟩ (.int .i64 0)).cell? ⟨w.heap.size, 2, none⟩ = some (.int .i64 0) := hX3.cell 2
    have r3 : (((((w2.setCell ⟨w.heap.size, 0, none⟩ (.int .i64 0)).setCell ⟨w.heap.size, 1, none⟩ (.string ⟨#[]⟩)).setCell ⟨w.heap.size, 2, none⟩ (.int .i64 0)).setCell ⟨w.heap.size, 3, none⟩ (.int .i64 0)).setCell ⟨w.heap.size, 4, none⟩ (.int .i64 0)).cell? ⟨w.heap.size, 3, none⟩ = some (.int .i64 0) := hX3.cell 3
    have r4 : (((((w2.setCell ⟨w.heap.size, 0, none⟩ (.int .i64 0)).setCell ⟨w.heap.size, 1, none⟩ (.string ⟨#[]⟩)).setCell ⟨w.heap.size, 2, none⟩ (.int .i64 0)).setCell ⟨w.heap.size, 3, none⟩ (.int .i64 0)).setCell ⟨w.heap.size, 4, none⟩ (.int .i64 0)).cell? ⟨w.heap.size, 4, none⟩ = some (.int .i64 0) := hX3.cell 4
    exact bodyPost_ret (v := .tuple #[.agg #[.int .i64 0, .string ⟨#[]⟩, .int .i64 0, .int .i64 0, .int .i64 0], .int .i64 6]) (by simp [results, Try.results34, go_sem, r0, r1, r2, r3, r4]) rfl ⟨rfl, ((((((((((hbf).setCell (p := ⟨w.heap.size, 0, none⟩) (Nat.le_refl _) _)).setCell (p := ⟨w.heap.size, 1, none⟩) (Nat.le_refl _) _)).setCell (p := ⟨w.heap.size, 2, none⟩) (Nat.le_refl _) _)).setCell (p := ⟨w.heap.size, 3, none⟩) (Nat.le_refl _) _)).setCell (p := ⟨w.heap.size, 4, none⟩) (Nat.le_refl _) _)⟩
  · obtain ⟨p, hp, rfl⟩ : ∃ p, ps[k]? = some p ∧ (p.t, dataV vs p) = x := by
      unfold objs at hk
      rw [List.getElem?_map] at hk
      cases hp : ps[k]? with
      | none => rw [hp] at hk; cases hk
      | some p => rw [hp] at hk; exact ⟨p, rfl, by simpa using hk⟩
    have hpw := hw p (List.mem_of_getElem? hp)
    have hkl : k < ps.length := (List.getElem?_eq_some_iff.1 hp).1
    obtain ⟨A, c, B, d, hB, hO, hV, hbg, hFg, hFv, hFu, hFw⟩ := id h
    have hcap := own_cap hV
    have hd := Lib.hid (data_any g k ps vs most p _ F base hS hp hpw B d ((hW.cell (p := ⟨g, 1, none⟩) (hFw g hFg).2).trans (hB.cell 1)) hcap.1 hps)
    rw [ho]
    dsimp only
    unfold Ty.val
    go_enter Try.func34, Try.ntmps34
    go_wp2_with fail
    refine hd.out.mono ?_
    rintro _ w2 ⟨rfl, hb2⟩
    have hX := (Blk.new w 30 #[.int .i64 0, .string ⟨#[]⟩, .int .i64 0, .int .i64 0, .int .i64 0]).below hb2 (by simp)
    have c0 : w2.cell? ⟨w.heap.size, 0, none⟩ = some (.int .i64 0) := hX.cell 0
    have fc0 := hX.frozen 0
    have c1 : w2.cell? ⟨w.heap.size, 1, none⟩ = some (.string ⟨#[]⟩) := hX.cell 1
    have fc1 := hX.frozen 1
    have c2 : w2.cell? ⟨w.heap.size, 2, none⟩ = some (.int .i64 0) := hX.cell 2
    have fc2 := hX.frozen 2
    have c3 : w2.cell? ⟨w.heap.size, 3, none⟩ = some (.int .i64 0) := hX.cell 3
    have fc3 := hX.frozen 3
    have c4 : w2.cell? ⟨w.heap.size, 4, none⟩ = some (.int .i64 0) := hX.cell 4
    have fc4 := hX.frozen 4
    have hbf := bn hW hb2
    have hO2 := own_below hO hbf
    obtain ⟨ad, rfl, _, a0, a1, a2, a3, a4, a5, a6⟩ := readsP_at (own_reads hO2) hp
    have g0 : w2.cell? ⟨g, 0, none⟩ = some (.slice (some ad) ps.length c) := (hB.below hbf hB.lt).cell 0
    have q1 : decide ((k : Int) < (ps.length : Int)) = true := decide_eq_true (by omega)
    clear hB hO hV hFv hFu hFw hO2 ho hk
    go_wp2_with fail
    have hX3 := ((((hX.set_ 0 (.int .i64 p.t.k)).set_ 1 (.string p.t.name)).set_ 2 (.int .i64 p.t.dims)).set_ 3 (.int .i64 p.t.elem)).set_ 4 (.int .i64 p.t.pos)
    have r0 : (((((w2.setCell ⟨w.heap.size, 0, none⟩ (.int .i64 p.t.k)).setCell ⟨w.heap.size, 1, none⟩ (.string p.t.name)).setCell ⟨w.heap.size, 2, none⟩ (.int .i64 p.t.dims)).setCell ⟨w.heap.size, 3, none⟩ (.int .i64 p.t.elem)).setCell ⟨w.heap.size, 4, none⟩ (.int .i64 p.t.pos)).cell? ⟨w.heap.size, 0, none⟩ = some (.int .i64 p.t.k) := hX3.cell 0
    have r1 : (((((w2.setCell ⟨w.heap.size, 0, none⟩ (.int .i64 p.t.k)).setCell ⟨w.heap.size, 1, none⟩ (.string p.t.name)).setCell ⟨w.heap.size, 2, none⟩ (.int .i64 p.t.dims)).setCell ⟨w.heap.size, 3, none⟩ (.int .i64 p.t.elem)).setCell ⟨w.heap.size, 4, none⟩ (.int .i64 p.t.pos)).cell? ⟨w.heap.size, 1, none⟩ = some (.string p.t.name) := hX3.cell 1
    have r2 : (((((w2.setCell ⟨w.heap.size, 0, none⟩ (.int .i64 p.t.k)).setCell ⟨w.heap.size, 1, none⟩ (.string p.t.name)).setCell ⟨w.heap.size, 2, none⟩ (.int .i64 p.t.dims)).setCell ⟨w.heap.size, 3, none⟩ (.int .i64 p.t.elem)).setCell ⟨w.heap.size, 4, none⟩ (.int .i64 p.t.pos)).cell? ⟨w.heap.size, 2, none⟩ = some (.int .i64 p.t.dims) := hX3.cell 2
    have r3 : (((((w2.setCell ⟨w.heap.size, 0, none⟩ (.int .i64 p.t.k)).setCell ⟨w.heap.size, 1, none⟩ (.string p.t.name)).setCell ⟨w.heap.size, 2, none⟩ (.int .i64 p.t.dims)).setCell ⟨w.heap.size, 3, none⟩ (.int .i64 p.t.elem)).setCell ⟨w.heap.size, 4, none⟩ (.int .i64 p.t.pos)).cell? ⟨w.heap.size, 3, none⟩ = some (.int .i64 p.t.elem) := hX3.cell 3
    have r4 : (((((w2.setCell ⟨w.heap.size, 0, none⟩ (.int .i64 p.t.k)).setCell ⟨w.heap.size, 1, none⟩ (.string p.t.name)).setCell ⟨w.heap.size, 2, none⟩ (.int .i64 p.t.dims)).setCell ⟨w.heap.size, 3, none⟩ (.int .i64 p.t.elem)).setCell ⟨w.heap.size, 4, none⟩ (.int .i64 p.t.pos)).cell? ⟨w.heap.size, 4, none⟩ = some (.int .i64 p.t.pos) := hX3.cell 4
    exact bodyPost_ret (v := .tuple #[.agg #[.int .i64 p.t.k, .string p.t.name, .int .i64 p.t.dims, .int .i64 p.t.elem, .int .i64 p.t.pos], .int .i64 0]) (by simp [results, Try.results34, go_sem, r0, r1, r2, r3, r4]) rfl ⟨rfl, ((((((((((hbf).setCell (p := ⟨w.heap.size, 0, none⟩) (Nat.le_refl _) _)).setCell (p := ⟨w.heap.size, 1, none⟩) (Nat.le_refl _) _)).setCell (p := ⟨w.heap.size, 2, none⟩) (Nat.le_refl _) _)).setCell (p := ⟨w.heap.size, 3, none⟩) (Nat.le_refl _) _)).setCell (p := ⟨w.heap.size, 4, none⟩) (Nat.le_refl _) _)⟩

set_option maxRecDepth 100000 in
set_option maxHeartbeats 8000000 in
theorem len_any (g : Nat) (r : Int) (ps : List Pc) (vs : List Vl) (most : Int) (w : World) (F : Nat → Prop) (base : Nat) (h : HS w F base g ps vs most) (hw : WP ps vs) (hps : ps.length ≤ 1024) :
    Calls Try.prog 35 #[.pointer (some ⟨g, 0, none⟩), .int .i64 r] w fun e w' => e = .returned (.int .i64 (lenV (objs ps vs) r)) ∧ Below w.heap.size w w' := by
  unfold lenV
  rcases ol_cases (objs ps vs) r with ⟨hr, ho⟩ | ⟨k, x, rfl, hk, ho⟩
  · rw [objs_len_eq] at hr
    have hd := Lib.hid (data_out g r ps vs most _ F base h hr)
    rw [ho]
    dsimp only
    go_enter Try.func35, Try.ntmps35
    go_wp2_with fail
    refine hd.out.mono ?_
    rintro _ w2 ⟨rfl, hb2⟩
    go_wp2_with fail
    go_ret
    exact ⟨rfl, hb2⟩
  · obtain ⟨p, hp, rfl⟩ : ∃ p, ps[k]? = some p ∧ (p.t, dataV vs p) = x := by
      unfold objs at hk
      rw [List.getElem?_map] at hk
      cases hp : ps[k]? with
      | none => rw [hp] at hk; cases hk
      | some p => rw [hp] at hk; exact ⟨p, rfl, by simpa using hk⟩
    have hpw := hw p (List.mem_of_getElem? hp)
    obtain ⟨A, c, B, d, hB, hO, hV, hbg, hFg, hFv, hFu, hFw⟩ := id h
    have hcap := own_cap hV
    have hd := data_any g k ps vs most p _ F base h hp hpw B d (hB.cell 1) hcap.1 hps
    rw [ho]
    dsimp only
    rw [dataV_len hpw]
    generalize p.hi - p.lo = N at *
    replace hd := Lib.hid hd
    clear ho hk
    go_enter Try.func35, Try.ntmps35
    go_wp2_with fail
    refine hd.out.mono ?_
    rintro _ w2 ⟨rfl, hb2⟩
    go_wp2_with fail
    go_ret
    exact ⟨rfl, hb2⟩

set_option maxRecDepth 100000 in
set_option maxHeartbeats 8000000 in
theorem ris_any (g : Nat) (r : Int) (ol : List (Ty × List Vl)) (most : Int) (w : World) (F : Nat → Prop) (base : Nat) (h : RH w F base g ol most) :
    Calls Try.prog 56 #[.pointer (some ⟨g, 0, none⟩), .int .i64 r] w fun e w' => e = .returned (.bool (olD ol r).isSome) ∧ w = w' := by
  obtain ⟨A, c, os, hB, hL, hm, hbg, hFg, hFv, hFu, hFw⟩ := id h
  have hln : os.length = ol.length := by rw [← hm, List.length_map]
  have c0 : w.cell? ⟨g, 0, none⟩ = some (.slice A ol.length c) := by rw [← hln]; exact hB.cell 0
  clear hB hL hm hFv hFu hFw hln
  rcases ol_cases ol r with ⟨hr, ho⟩ | ⟨k, x, rfl, hk, ho⟩
  · rw [ho]
    by_cases h1 : r < 1
    · have e1 : decide (1 ≤ r) = false := decide_eq_false (by omega)
      go_enter Try.func56, Try.ntmps56
      go_wp2_with fail
      go_ret
      exact ⟨rfl, rfl⟩
    · have e1 : decide (1 ≤ r) = true := decide_eq_true (by omega)
      have e2 : decide (r ≤ (ol.length : Int)) = false := decide_eq_false (by omega)
      go_enter Try.func56, Try.ntmps56
      go_wp2_with fail
      go_ret
      exact ⟨rfl, rfl⟩
  · rw [ho]
    have hkl : k < ol.length := (List.getElem?_eq_some_iff.1 hk).1
    have e1 : decide (1 ≤ (k : Int) + 1) = true := decide_eq_true (by omega)
    have e2 : decide ((k : Int) + 1 ≤ (ol.length : Int)) = true := decide_eq_true (by omega)
    clear ho hk
    go_enter Try.func56, Try.ntmps56
    go_wp2_with fail
    go_ret
    exact ⟨rfl, rfl⟩
theorem rh_at {w : World} {F : Nat → Prop} {base g : Nat} {ol : List (Ty × List Vl)} {most : Int} {k : Nat} {x : Ty × List Vl} (h : RH w F base g ol most) (hk : ol[k]? = some x) :
    ∃ (A : Addr) (c : Nat) (o : Ob), w.cell? ⟨g, 0, none⟩ = some (.slice (some A) ol.length c) ∧ ObAt w (A.add (k * 6)) o ∧ o.t = x.1 ∧ o.d = x.2 ∧ Reads w w.heap.size 3 o.A o.d.length (cellsV o.d) ∧ o.d.length ≤ o.c := by
  obtain ⟨A, c, os, hB, hL, hm, hbg, hFg, hFv, hFu, hFw⟩ := id h
  have hln : os.length = ol.length := by rw [← hm, List.length_map]
  have hk2 : (os.map Ob.it)[k]? = some x := by rw [hm]; exact hk
  rw [List.getElem?_map] at hk2
  cases ho : os[k]? with
  | none => rw [ho] at hk2; cases hk2
  | some o =>
    rw [ho] at hk2
    simp only [Option.map_some, Option.some.injEq] at hk2
    obtain ⟨ad, rfl, _, hat⟩ := readsO_at (own_reads hL.1) ho
    have hd := hL.2.1 o (List.mem_of_getElem? ho)
    exact ⟨ad, c, o, by rw [← hln]; exact hB.cell 0, hat, by rw [← hk2]; rfl, by rw [← hk2]; rfl, own_reads hd, (own_cap hd).1⟩

set_option maxRecDepth 100000 in
set_option maxHeartbeats 8000000 in
theorem rtype_any (g : Nat) (r : Int) (ol : List (Ty × List Vl)) (most : Int) (w : World) (F : Nat → Prop) (base : Nat) (h : RH w F base g ol most) (hol : ol.length ≤ 1024) :
    Calls Try.prog 52 #[.pointer (some ⟨g, 0, none⟩), .int .i64 r] w fun e w' => e = .returned (.tuple #[(typeV ol r).val, .int .i64 (typeC ol r)]) ∧ Below w.heap.size w w' := by
  have hW := b0 w (.cells #[.int .i64 0, .string ⟨#[]⟩, .int .i64 0, .int .i64 0, .int .i64 0] 30)
  have hS := h.below hW
  have his := ris_any g r ol most _ F base hS
  unfold typeV typeC
  have hX := Blk.new w 30 #[.int .i64 0, .string ⟨#[]⟩, .int .i64 0, .int .i64 0, .int .i64 0]
  rcases ol_cases ol r with ⟨hr, ho⟩ | ⟨k, x, rfl, hk, ho⟩
  · rw [ho] at his ⊢
    replace his := Lib.hid his
    dsimp only
    unfold tyZ Ty.val
    go_enter Try.func52, Try.ntmps52
    go_wp2_with fail
    refine his.out.mono ?_
    rintro _ _ ⟨rfl, rfl⟩
    generalize hW1 : w.alloc (.cells #[.int .i64 0, .string ⟨#[]⟩, .int .i64 0, .int .i64 0, .int .i64 0] 30) = w2 at *
    have c0 : w2.cell? ⟨w.heap.size, 0, none⟩ = some (.int .i64 0) := hX.cell 0
    have fc0 := hX.frozen 0
    have c1 : w2.cell? ⟨w.heap.size, 1, none⟩ = some (.string ⟨#[]⟩) := hX.cell 1
    have fc1 := hX.frozen 1
    have c2 : w2.cell? ⟨w.heap.size, 2, none⟩ = some (.int .i64 0) := hX.cell 2
    have fc2 := hX.frozen 2
    have c3 : w2.cell? ⟨w.heap.size, 3, none⟩ = some (.int .i64 0) := hX.cell 3
    have fc3 := hX.frozen 3
    have c4 : w2.cell? ⟨w.heap.size, 4, none⟩ = some (.int .i64 0) := hX.cell 4
    have fc4 := hX.frozen 4
    go_wp2_with fail
    have hX3 := ((((hX.set_ 0 (.int .i64 0)).set_ 1 (.string ⟨#[]⟩)).set_ 2 (.int .i64 0)).set_ 3 (.int .i64 0)).set_ 4 (.int .i64 0)
    have r0 : (((((w2.setCell ⟨w.heap.size, 0, none⟩ (.int .i64 0)).setCell ⟨w.heap.size, 1, none⟩ (.string ⟨#[]⟩)).setCell ⟨w.heap.size, 2, none⟩ (.int .i64 0)).setCell ⟨w.heap.size, 3, none⟩ (.int .i64 0)).setCell ⟨w.heap.size, 4, none⟩ (.int .i64 0)).cell? ⟨w.heap.size, 0, none⟩ = some (.int .i64 0) := hX3.cell 0
    have r1 : (((((w2.setCell ⟨w.heap.size, 0, none⟩ (.int .i64 0)).setCell ⟨w.heap.size, 1, none⟩ (.string ⟨#[]⟩)).setCell ⟨w.heap.size, 2, none⟩ (.int .i64 0)).setCell ⟨w.heap.size, 3, none⟩ (.int .i64 0)).setCell ⟨w.heap.size, 4, none⟩ (.int .i64 0)).cell? ⟨w.heap.size, 1, none⟩ = some (.string ⟨#[]⟩) := hX3.cell 1
    have r2 : (((((w2.setCell ⟨w.heap.size, 0, none⟩ (.int .i64 0)).setCell ⟨w.heap.size, 1, none⟩ (.string ⟨#[]⟩)).setCell ⟨w.heap.size, 2, none⟩ (.int .i64 0)).setCell ⟨w.heap.size, 3, none⟩ (.int .i64 0)).setCell ⟨w.heap.size, 4, none⟩ (.int .i64 0)).cell? ⟨w.heap.size, 2, none⟩ = some (.int .i64 0) := hX3.cell 2
    have r3 : (((((w2.setCell ⟨w.heap.size, 0, none⟩ (.int .i64 0)).setCell ⟨w.heap.size, 1, none⟩ (.string ⟨#[]⟩)).setCell ⟨w.heap.size, 2, none⟩ (.int .i64 0)).setCell ⟨w.heap.size, 3, none⟩ (.int .i64 0)).setCell ⟨w.heap.size, 4, none⟩ (.int .i64 0)).cell? ⟨w.heap.size, 3, none⟩ = some (.int .i64 0) := hX3.cell 3
    have r4 : (((((w2.setCell ⟨w.heap.size, 0, none⟩ (.int .i64 0)).setCell ⟨w.heap.size, 1, none⟩ (.string ⟨#[]⟩)).setCell ⟨w.heap.size, 2, none⟩ (.int .i64 0)).setCell ⟨w.heap.size, 3, none⟩ (.int .i64 0)).setCell ⟨w.heap.size, 4, none⟩ (.int .i64 0)).cell? ⟨w.heap.size, 4, none⟩ = some (.int .i64 0) := hX3.cell 4
    exact bodyPost_ret (v := .tuple #[.agg #[.int .i64 0, .string ⟨#[]⟩, .int .i64 0, .int .i64 0, .int .i64 0], .int .i64 6]) (by simp [results, Try.results52, go_sem, r0, r1, r2, r3, r4]) rfl ⟨rfl, ((((((((((hW).setCell (p := ⟨w.heap.size, 0, none⟩) (Nat.le_refl _) _)).setCell (p := ⟨w.heap.size, 1, none⟩) (Nat.le_refl _) _)).setCell (p := ⟨w.heap.size, 2, none⟩) (Nat.le_refl _) _)).setCell (p := ⟨w.heap.size, 3, none⟩) (Nat.le_refl _) _)).setCell (p := ⟨w.heap.size, 4, none⟩) (Nat.le_refl _) _)⟩
  · rw [ho] at his ⊢
    replace his := Lib.hid his
    obtain ⟨ad, c, o, g0, hat, het, hed, hrd, _⟩ := rh_at hS hk
    have hkl : k < ol.length := (List.getElem?_eq_some_iff.1 hk).1
    dsimp only
    rw [← het]
    unfold Ty.val
    clear ho hk het hed hrd
    obtain ⟨a0, a1, a2, a3, a4, a5⟩ := hat
    go_enter Try.func52, Try.ntmps52
    go_wp2_with fail
    refine his.out.mono ?_
    rintro _ _ ⟨rfl, rfl⟩
    generalize hW1 : w.alloc (.cells #[.int .i64 0, .string ⟨#[]⟩, .int .i64 0, .int .i64 0, .int .i64 0] 30) = w2 at *
    have c0 : w2.cell? ⟨w.heap.size, 0, none⟩ = some (.int .i64 0) := hX.cell 0
    have fc0 := hX.frozen 0
    have c1 : w2.cell? ⟨w.heap.size, 1, none⟩ = some (.string ⟨#[]⟩) := hX.cell 1
    have fc1 := hX.frozen 1
    have c2 : w2.cell? ⟨w.heap.size, 2, none⟩ = some (.int .i64 0) := hX.cell 2
    have fc2 := hX.frozen 2
    have c3 : w2.cell? ⟨w.heap.size, 3, none⟩ = some (.int .i64 0) := hX.cell 3
    have fc3 := hX.frozen 3
    have c4 : w2.cell? ⟨w.heap.size, 4, none⟩ = some (.int .i64 0) := hX.cell 4
    have fc4 := hX.frozen 4
    go_wp2_with fail
    have hX3 := ((((hX.set_ 0 (.int .i64 o.t.k)).set_ 1 (.string o.t.name)).set_ 2 (.int .i64 o.t.dims)).set_ 3 (.int .i64 o.t.elem)).set_ 4 (.int .i64 o.t.pos)
    have r0 : (((((w2.setCell ⟨w.heap.size, 0, none⟩ (.int .i64 o.t.k)).setCell ⟨w.heap.size, 1, none⟩ (.string o.t.name)).setCell ⟨w.heap.size, 2, none⟩ (.int .i64 o.t.dims)).setCell ⟨w.heap.size, 3, none⟩ (.int .i64 o.t.elem)).setCell ⟨w.heap.size, 4, none⟩ (.int .i64 o.t.pos)).cell? ⟨w.heap.size, 0, none⟩ = some (.int .i64 o.t.k) := hX3.cell 0
    have r1 : (((((w2.setCell ⟨w.heap.size, 0, none⟩ (.int .i64 o.t.k)).setCell ⟨w.heap.size, 1, none⟩ (.string o.t.name)).setCell ⟨w.heap.size, 2, none⟩ (.int .i64 o.t.dims)).setCell ⟨w.heap.size, 3, none⟩ (.int .i64 o.t.elem)).setCell ⟨w.heap.size, 4, none⟩ (.int .i64 o.t.pos)).cell? ⟨w.heap.size, 1, none⟩ = some (.string o.t.name) := hX3.cell 1
    have r2 : (((((w2.setCell ⟨w.heap.size, 0, none⟩ (.int .i64 o.t.k)).setCell ⟨w.heap.size, 1, none⟩ (.string o.t.name)).setCell ⟨w.heap.size, 2, none⟩ (.int .i64 o.t.dims)).setCell ⟨w.heap.size, 3, none⟩ (.int .i64 o.t.elem)).setCell ⟨w.heap.size, 4, none⟩ (.int .i64 o.t.pos)).cell? ⟨w.heap.size, 2, none⟩ = some (.int .i64 o.t.dims) := hX3.cell 2
    have r3 : (((((w2.setCell ⟨w.heap.size, 0, none⟩ (.int .i64 o.t.k)).setCell ⟨w.heap.size, 1, none⟩ (.string o.t.name)).setCell ⟨w.heap.size, 2, none⟩ (.int .i64 o.t.dims)).setCell ⟨w.heap.size, 3, none⟩ (.int .i64 o.t.elem)).setCell ⟨w.heap.size, 4, none⟩ (.int .i64 o.t.pos)).cell? ⟨w.heap.size, 3, none⟩ = some (.int .i64 o.t.elem) := hX3.cell 3
    have r4 : (((((w2.setCell ⟨w.heap.size, 0, none⟩ (.int .i64 o.t.k)).setCell ⟨w.heap.size, 1, none⟩ (.string o.t.name)).setCell ⟨w.heap.size, 2, none⟩ (.int .i64 o.t.dims)).setCell ⟨w.heap.size, 3, none⟩ (.int .i64 o.t.elem)).setCell ⟨w.heap.size, 4, none⟩ (.int .i64 o.t.pos)).cell? ⟨w.heap.size, 4, none⟩ = some (.int .i64 o.t.pos) := hX3.cell 4
    exact bodyPost_ret (v := .tuple #[.agg #[.int .i64 o.t.k, .string o.t.name, .int .i64 o.t.dims, .int .i64 o.t.elem, .int .i64 o.t.pos], .int .i64 0]) (by simp [results, Try.results52, go_sem, r0, r1, r2, r3, r4]) rfl ⟨rfl, ((((((((((hW).setCell (p := ⟨w.heap.size, 0, none⟩) (Nat.le_refl _) _)).setCell (p := ⟨w.heap.size, 1, none⟩) (Nat.le_refl _) _)).setCell (p := ⟨w.heap.size, 2, none⟩) (Nat.le_refl _) _)).setCell (p := ⟨w.heap.size, 3, none⟩) (Nat.le_refl _) _)).setCell (p := ⟨w.heap.size, 4, none⟩) (Nat.le_refl _) _)⟩

set_option maxRecDepth 100000 in
set_option maxHeartbeats 8000000 in
theorem rlen_any (g : Nat) (r : Int) (ol : List (Ty × List Vl)) (most : Int) (w : World) (F : Nat → Prop) (base : Nat) (h : RH w F base g ol most) (hol : ol.length ≤ 1024) :
    Calls Try.prog 53 #[.pointer (some ⟨g, 0, none⟩), .int .i64 r] w fun e w' => e = .returned (.int .i64 (lenV ol r)) ∧ w = w' := by
  have his := ris_any g r ol most _ F base h
  unfold lenV
  rcases ol_cases ol r with ⟨hr, ho⟩ | ⟨k, x, rfl, hk, ho⟩
  · rw [ho] at his ⊢
    replace his := Lib.hid his
    dsimp only
    go_enter Try.func53, Try.ntmps53
    go_wp2_with fail
    refine his.out.mono ?_
    rintro _ _ ⟨rfl, rfl⟩
    go_wp2_with fail
    go_ret
    exact ⟨rfl, rfl⟩
  · rw [ho] at his ⊢
    replace his := Lib.hid his
    obtain ⟨ad, c, o, g0, hat, het, hed, hrd, _⟩ := rh_at h hk
    have hkl : k < ol.length := (List.getElem?_eq_some_iff.1 hk).1
    dsimp only
    rw [← hed]
    clear ho hk het hed hrd
    obtain ⟨a0, a1, a2, a3, a4, a5⟩ := hat
    generalize o.d.length = N at *
    go_enter Try.func53, Try.ntmps53
    go_wp2_with fail
    refine his.out.mono ?_
    rintro _ _ ⟨rfl, rfl⟩
    go_wp2_with fail
    go_ret
    exact ⟨rfl, rfl⟩

set_option maxRecDepth 100000 in
set_option maxHeartbeats 8000000 in
theorem rget_any (g : Nat) (r i : Int) (ol : List (Ty × List Vl)) (most : Int) (w : World) (F : Nat → Prop) (base : Nat) (h : RH w F base g ol most) (hol : ol.length ≤ 1024) (hdl : ∀ x ∈ ol, x.2.length ≤ 1048576) :
    Calls Try.prog 51 #[.pointer (some ⟨g, 0, none⟩), .int .i64 r, .int .i64 i] w fun e w' => e = .returned (.tuple #[(rgV ol r i).val, .int .i64 (rgC ol r i)]) ∧ Below w.heap.size w w' := by
  have hW := b0 w (.cells #[.int .i64 0, .int .i64 0, .int .i64 0] 49)
  have hS := h.below hW
  have his := ris_any g r ol most _ F base hS
  unfold rgV rgC
  have hX := Blk.new w 49 #[.int .i64 0, .int .i64 0, .int .i64 0]
  rcases ol_cases ol r with ⟨hr, ho⟩ | ⟨k, x, rfl, hk, ho⟩
  · rw [ho] at his ⊢
    replace his := Lib.hid his
    dsimp only
    unfold Vl.val
    go_enter Try.func51, Try.ntmps51
    go_wp2_with fail
    refine his.out.mono ?_
    rintro _ _ ⟨rfl, rfl⟩
    generalize hW1 : w.alloc (.cells #[.int .i64 0, .int .i64 0, .int .i64 0] 49) = w2 at *
    have c0 : w2.cell? ⟨w.heap.size, 0, none⟩ = some (.int .i64 0) := hX.cell 0
    have fc0 := hX.frozen 0
    have c1 : w2.cell? ⟨w.heap.size, 1, none⟩ = some (.int .i64 0) := hX.cell 1
    have fc1 := hX.frozen 1
    have c2 : w2.cell? ⟨w.heap.size, 2, none⟩ = some (.int .i64 0) := hX.cell 2
    have fc2 := hX.frozen 2
    go_wp2_with fail
    have hX3 := ((hX.set_ 0 (.int .i64 0)).set_ 1 (.int .i64 0)).set_ 2 (.int .i64 0)
    have r0 : (((w2.setCell ⟨w.heap.size, 0, none⟩ (.int .i64 0)).setCell ⟨w.heap.size, 1, none⟩ (.int .i64 0)).setCell ⟨w.heap.size, 2, none⟩ (.int .i64 0)).cell? ⟨w.heap.size, 0, none⟩ = some (.int .i64 0) := hX3.cell 0
    have r1 : (((w2.setCell ⟨w.heap.size, 0, none⟩ (.int .i64 0)).setCell ⟨w.heap.size, 1, none⟩ (.int .i64 0)).setCell ⟨w.heap.size, 2, none⟩ (.int .i64 0)).cell? ⟨w.heap.size, 1, none⟩ = some (.int .i64 0) := hX3.cell 1
    have r2 : (((w2.setCell ⟨w.heap.size, 0, none⟩ (.int .i64 0)).setCell ⟨w.heap.size, 1, none⟩ (.int .i64 0)).setCell ⟨w.heap.size, 2, none⟩ (.int .i64 0)).cell? ⟨w.heap.size, 2, none⟩ = some (.int .i64 0) := hX3.cell 2
    exact bodyPost_ret (v := .tuple #[.agg #[.int .i64 0, .int .i64 0, .int .i64 0], .int .i64 6]) (by simp [results, Try.results51, go_sem, r0, r1, r2]) rfl ⟨rfl, ((((((hW).setCell (p := ⟨w.heap.size, 0, none⟩) (Nat.le_refl _) _)).setCell (p := ⟨w.heap.size, 1, none⟩) (Nat.le_refl _) _)).setCell (p := ⟨w.heap.size, 2, none⟩) (Nat.le_refl _) _)⟩
  · rw [ho] at his ⊢
    replace his := Lib.hid his
    obtain ⟨ad, c, o, g0, hat, het, hed, hrd, _⟩ := rh_at hS hk
    have hkl : k < ol.length := (List.getElem?_eq_some_iff.1 hk).1
    have hxl := hdl x (List.mem_of_getElem? hk)
    dsimp only
    rw [← hed] at hxl ⊢
    clear ho hk het hed
    obtain ⟨a0, a1, a2, a3, a4, a5⟩ := hat
    generalize o.d = dv at *
    generalize o.A = P at *
    generalize o.c = C at *
    clear a0 a1 a2 a3 a4
    by_cases hi : i < 0 ∨ (dv.length : Int) ≤ i
    · rw [if_pos hi, if_pos hi]
      have q1 : (i < 0) ∨ (¬ i < 0 ∧ (dv.length : Int) ≤ i) := by omega
      rcases q1 with q1 | ⟨q0, q1⟩
      · have e1 : decide (i < 0) = true := decide_eq_true q1
        clear hi
        go_enter Try.func51, Try.ntmps51
        go_wp2_with fail
        refine his.out.mono ?_
        rintro _ _ ⟨rfl, rfl⟩
        generalize hW1 : w.alloc (.cells #[.int .i64 0, .int .i64 0, .int .i64 0] 49) = w2 at *
        have c0 : w2.cell? ⟨w.heap.size, 0, none⟩ = some (.int .i64 0) := hX.cell 0
        have fc0 := hX.frozen 0
        have c1 : w2.cell? ⟨w.heap.size, 1, none⟩ = some (.int .i64 0) := hX.cell 1
        have fc1 := hX.frozen 1
        have c2 : w2.cell? ⟨w.heap.size, 2, none⟩ = some (.int .i64 0) := hX.cell 2
        have fc2 := hX.frozen 2
        go_wp2_with fail
        have hX3 := ((hX.set_ 0 (.int .i64 0)).set_ 1 (.int .i64 0)).set_ 2 (.int .i64 0)
        have r0 : (((w2.setCell ⟨w.heap.size, 0, none⟩ (.int .i64 0)).setCell ⟨w.heap.size, 1, none⟩ (.int .i64 0)).setCell ⟨w.heap.size, 2, none⟩ (.int .i64 0)).cell? ⟨w.heap.size, 0, none⟩ = some (.int .i64 0) := hX3.cell 0
        have r1 : (((w2.setCell ⟨w.heap.size, 0, none⟩ (.int .i64 0)).setCell ⟨w.heap.size, 1, none⟩ (.int .i64 0)).setCell ⟨w.heap.size, 2, none⟩ (.int .i64 0)).cell? ⟨w.heap.size, 1, none⟩ = some (.int .i64 0) := hX3.cell 1
        have r2 : (((w2.setCell ⟨w.heap.size, 0, none⟩ (.int .i64 0)).setCell ⟨w.heap.size, 1, none⟩ (.int .i64 0)).setCell ⟨w.heap.size, 2, none⟩ (.int .i64 0)).cell? ⟨w.heap.size, 2, none⟩ = some (.int .i64 0) := hX3.cell 2
        exact bodyPost_ret (v := .tuple #[.agg #[.int .i64 0, .int .i64 0, .int .i64 0], .int .i64 1]) (by simp [results, Try.results51, go_sem, r0, r1, r2]) rfl ⟨rfl, ((((((hW).setCell (p := ⟨w.heap.size, 0, none⟩) (Nat.le_refl _) _)).setCell (p := ⟨w.heap.size, 1, none⟩) (Nat.le_refl _) _)).setCell (p := ⟨w.heap.size, 2, none⟩) (Nat.le_refl _) _)⟩
      · have e1 : decide (i < 0) = false := decide_eq_false q0
        have e2 : decide ((dv.length : Int) ≤ i) = true := decide_eq_true q1
        clear hi
        go_enter Try.func51, Try.ntmps51
        go_wp2_with fail
        refine his.out.mono ?_
        rintro _ _ ⟨rfl, rfl⟩
        generalize hW1 : w.alloc (.cells #[.int .i64 0, .int .i64 0, .int .i64 0] 49) = w2 at *
        have c0 : w2.cell? ⟨w.heap.size, 0, none⟩ = some (.int .i64 0) := hX.cell 0
        have fc0 := hX.frozen 0
        have c1 : w2.cell? ⟨w.heap.size, 1, none⟩ = some (.int .i64 0) := hX.cell 1
        have fc1 := hX.frozen 1
        have c2 : w2.cell? ⟨w.heap.size, 2, none⟩ = some (.int .i64 0) := hX.cell 2
        have fc2 := hX.frozen 2
        go_wp2_with fail
        have hX3 := ((hX.set_ 0 (.int .i64 0)).set_ 1 (.int .i64 0)).set_ 2 (.int .i64 0)
        have r0 : (((w2.setCell ⟨w.heap.size, 0, none⟩ (.int .i64 0)).setCell ⟨w.heap.size, 1, none⟩ (.int .i64 0)).setCell ⟨w.heap.size, 2, none⟩ (.int .i64 0)).cell? ⟨w.heap.size, 0, none⟩ = some (.int .i64 0) := hX3.cell 0
        have r1 : (((w2.setCell ⟨w.heap.size, 0, none⟩ (.int .i64 0)).setCell ⟨w.heap.size, 1, none⟩ (.int .i64 0)).setCell ⟨w.heap.size, 2, none⟩ (.int .i64 0)).cell? ⟨w.heap.size, 1, none⟩ = some (.int .i64 0) := hX3.cell 1
        have r2 : (((w2.setCell ⟨w.heap.size, 0, none⟩ (.int .i64 0)).setCell ⟨w.heap.size, 1, none⟩ (.int .i64 0)).setCell ⟨w.heap.size, 2, none⟩ (.int .i64 0)).cell? ⟨w.heap.size, 2, none⟩ = some (.int .i64 0) := hX3.cell 2
        exact bodyPost_ret (v := .tuple #[.agg #[.int .i64 0, .int .i64 0, .int .i64 0], .int .i64 1]) (by simp [results, Try.results51, go_sem, r0, r1, r2]) rfl ⟨rfl, ((((((hW).setCell (p := ⟨w.heap.size, 0, none⟩) (Nat.le_refl _) _)).setCell (p := ⟨w.heap.size, 1, none⟩) (Nat.le_refl _) _)).setCell (p := ⟨w.heap.size, 2, none⟩) (Nat.le_refl _) _)⟩
    · rw [if_neg hi, if_neg hi]
      obtain ⟨j, rfl⟩ : ∃ j : Nat, i = j := ⟨i.toNat, by omega⟩
      have hj : j < dv.length := by omega
      have e1 : decide ((j : Int) < 0) = false := decide_eq_false (by omega)
      have e2 : decide ((dv.length : Int) ≤ (j : Int)) = false := decide_eq_false (by omega)
      have e3 : decide (dv.length ≤ j) = false := decide_eq_false (by omega)
      obtain ⟨v, hv⟩ : ∃ v, dv[j]? = some v := ⟨dv[j], List.getElem?_eq_getElem hj⟩
      have hgd : dv.getD ((j : Int)).toNat ⟨0, 0, 0⟩ = v := by simp [List.getD, hv]
      rw [hgd]
      obtain ⟨bd, rfl, _, v0, v1, v2⟩ := readsV_at hrd hv
      clear hi hgd
      unfold Vl.val
      go_enter Try.func51, Try.ntmps51
      go_wp2_with fail
      refine his.out.mono ?_
      rintro _ _ ⟨rfl, rfl⟩
      generalize hW1 : w.alloc (.cells #[.int .i64 0, .int .i64 0, .int .i64 0] 49) = w2 at *
      have c0 : w2.cell? ⟨w.heap.size, 0, none⟩ = some (.int .i64 0) := hX.cell 0
      have fc0 := hX.frozen 0
      have c1 : w2.cell? ⟨w.heap.size, 1, none⟩ = some (.int .i64 0) := hX.cell 1
      have fc1 := hX.frozen 1
      have c2 : w2.cell? ⟨w.heap.size, 2, none⟩ = some (.int .i64 0) := hX.cell 2
      have fc2 := hX.frozen 2
      go_wp2_with fail
      have hX3 := ((hX.set_ 0 (.int .i64 v.k)).set_ 1 (.int .i64 v.n)).set_ 2 (.int .i64 v.r)
      have r0 : (((w2.setCell ⟨w.heap.size, 0, none⟩ (.int .i64 v.k)).setCell ⟨w.heap.size, 1, none⟩ (.int .i64 v.n)).setCell ⟨w.heap.size, 2, none⟩ (.int .i64 v.r)).cell? ⟨w.heap.size, 0, none⟩ = some (.int .i64 v.k) := hX3.cell 0
      have r1 : (((w2.setCell ⟨w.heap.size, 0, none⟩ (.int .i64 v.k)).setCell ⟨w.heap.size, 1, none⟩ (.int .i64 v.n)).setCell ⟨w.heap.size, 2, none⟩ (.int .i64 v.r)).cell? ⟨w.heap.size, 1, none⟩ = some (.int .i64 v.n) := hX3.cell 1
      have r2 : (((w2.setCell ⟨w.heap.size, 0, none⟩ (.int .i64 v.k)).setCell ⟨w.heap.size, 1, none⟩ (.int .i64 v.n)).setCell ⟨w.heap.size, 2, none⟩ (.int .i64 v.r)).cell? ⟨w.heap.size, 2, none⟩ = some (.int .i64 v.r) := hX3.cell 2
      exact bodyPost_ret (v := .tuple #[.agg #[.int .i64 v.k, .int .i64 v.n, .int .i64 v.r], .int .i64 0]) (by simp [results, Try.results51, go_sem, r0, r1, r2]) rfl ⟨rfl, ((((((hW).setCell (p := ⟨w.heap.size, 0, none⟩) (Nat.le_refl _) _)).setCell (p := ⟨w.heap.size, 1, none⟩) (Nat.le_refl _) _)).setCell (p := ⟨w.heap.size, 2, none⟩) (Nat.le_refl _) _)⟩

/-- A store into the reference's heap. -/
theorem rh_set {w : World} {F : Nat → Prop} {base g : Nat} {ol : List (Ty × List Vl)} {most : Int} {k j : Nat} {x : Ty × List Vl} (h : RH w F base g ol most) (hk : ol[k]? = some x) (hj : j < x.2.length) :
    ∃ (A : Addr) (c gb oc : Nat), w.cell? ⟨g, 0, none⟩ = some (.slice (some A) ol.length c) ∧ w.cell? ⟨(A.add (k * 6)).block, (A.add (k * 6)).off + 5, none⟩ = some (.slice (some ⟨gb, 0, none⟩) x.2.length oc) ∧ F gb ∧ (∀ i, w.frozen? ⟨gb, i, none⟩ = false) ∧
      (∀ i, i < 3 → (w.cell? ⟨gb, j * 3 + i, none⟩).isSome = true) ∧
      ∀ u : Vl, RH (((w.setCell ⟨gb, j * 3, none⟩ (.int .i64 u.k)).setCell ⟨gb, j * 3 + 1, none⟩ (.int .i64 u.n)).setCell ⟨gb, j * 3 + 2, none⟩ (.int .i64 u.r)) F base g (ol.set k (x.1, x.2.set j u)) most := by
  obtain ⟨A, c, os, hB, hL, hm, hbg, hFg, hFv, hFu, hFw⟩ := id h
  have hln : os.length = ol.length := by rw [← hm, List.length_map]
  have hk2 : (os.map Ob.it)[k]? = some x := by rw [hm]; exact hk
  rw [List.getElem?_map] at hk2
  cases ho : os[k]? with
  | none => rw [ho] at hk2; cases hk2
  | some o =>
    rw [ho] at hk2
    simp only [Option.map_some, Option.some.injEq] at hk2
    have et : o.t = x.1 := by rw [← hk2]; rfl
    have ed : o.d = x.2 := by rw [← hk2]; rfl
    obtain ⟨ad, rfl, _, hat⟩ := readsO_at (own_reads hL.1) ho
    obtain ⟨gb, hA, hgb, hgl, hfz, hcs, hput⟩ := hL.put ho (by rw [ed]; exact hj)
    have hFb : F gb := hFu o (List.mem_of_getElem? ho) gb (by unfold Ob.sl; rw [hA]; rfl)
    have h5 := hat.c5
    rw [hA, ed] at h5
    have hnb : g ≠ gb := by
      rintro rfl
      have hd := hL.2.1 o (List.mem_of_getElem? ho)
      exact own_blk_ne hd hB (by decide) (by unfold Ob.sl; rw [hA]; rfl)
    refine ⟨ad, c, gb, o.c, by rw [← hln]; exact hB.cell 0, h5, hFb, hfz, hcs, fun u => ?_⟩
    have b3 := ((hB.far (p := ⟨gb, j * 3, none⟩) hnb (.int .i64 u.k)).far (p := ⟨gb, j * 3 + 1, none⟩) hnb (.int .i64 u.n)).far (p := ⟨gb, j * 3 + 2, none⟩) hnb (.int .i64 u.r)
    have hl : (os.set k ⟨o.t, o.d.set j u, o.A, o.c⟩).length = os.length := List.length_set
    refine ⟨some ad, c, os.set k ⟨o.t, o.d.set j u, o.A, o.c⟩, by rw [hl]; exact b3, by rw [hl]; exact hput u, ?_, hbg, hFg, by rw [hl]; exact hFv, fun a ha q hq => ?_, fun q hq => by simpa [World.setCell] using hFw q hq⟩
    · rw [List.map_set, hm]
      unfold Ob.it
      rw [et, ed]
    · rcases List.mem_or_eq_of_mem_set ha with ha | ha
      · exact hFu a ha q hq
      · subst ha
        have e : (Ob.sl ⟨o.t, o.d.set j u, o.A, o.c⟩).ownBlock = o.sl.ownBlock := by simp [Ob.sl, Value.ownBlock]
        rw [e] at hq
        exact hFu o (List.mem_of_getElem? ho) q hq
theorem RH.grown {w w' : World} {F : Nat → Prop} {base g : Nat} {ol ol' : List (Ty × List Vl)} {most : Int} (h : RH w F base g ol most) (h' : RH w' F base g ol' most) : RH w' (Grow F w w') base g ol' most := by
  have hg := h.lt g h.own
  refine h'.mono (fun _ hk => .inl hk) fun k hk => ?_
  rcases hk with hk | hk
  · exact h'.lt k hk
  · omega
def rsC (ol : List (Ty × List Vl)) (r i : Int) (v : Vl) : Int := if rgC ol r i = 0 then (if (rgV ol r i).k = v.k then 0 else 1) else rgC ol r i
def rsL (ol : List (Ty × List Vl)) (r i : Int) (v : Vl) : List (Ty × List Vl) := if rsC ol r i v = 0 then (match ol[(r - 1).toNat]? with | some x => ol.set (r - 1).toNat (x.1, x.2.set i.toNat v) | none => ol) else ol
theorem rsC_objs (ps : List Pc) (vs : List Vl) (r i : Int) (v : Vl) : rsC (objs ps vs) r i v = setC ps vs r i v := by
  unfold rsC setC
  rw [rgC_objs, rgV_objs]
set_option maxRecDepth 100000 in
set_option maxHeartbeats 8000000 in
theorem rset_any (g : Nat) (r i : Int) (v : Vl) (ol : List (Ty × List Vl)) (most : Int) (w : World) (F : Nat → Prop) (base : Nat) (h : RH w F base g ol most) (hol : ol.length ≤ 1024) (hdl : ∀ x ∈ ol, x.2.length ≤ 1048576) :
    Calls Try.prog 50 #[.pointer (some ⟨g, 0, none⟩), .int .i64 r, .int .i64 i, v.val] w fun e w' => e = .returned (.int .i64 (rsC ol r i v)) ∧ RH w' (Grow F w w') base g (rsL ol r i v) most ∧ Turned F w w' := by
  have hW := b0 w (.cells #[.int .i64 v.k, .int .i64 v.n, .int .i64 v.r] 49)
  have hS := h.below hW
  have hget := rget_any g r i ol most _ F base hS hol hdl
  by_cases hc : rgC ol r i = 0
  · obtain ⟨k, x, rfl, hk, ho⟩ : ∃ (k : Nat) (x : Ty × List Vl), r = (k : Int) + 1 ∧ ol[k]? = some x ∧ olD ol r = some x := by
      rcases ol_cases ol r with ⟨_, ho⟩ | h
      · unfold rgC at hc; rw [ho] at hc; cases hc
      · exact h
    have hxl := hdl x (List.mem_of_getElem? hk)
    have hkl : k < ol.length := (List.getElem?_eq_some_iff.1 hk).1
    have hi : ¬ (i < 0 ∨ (x.2.length : Int) ≤ i) := fun hi => by
      unfold rgC at hc
      rw [ho] at hc
      dsimp only at hc
      rw [if_pos hi] at hc
      cases hc
    obtain ⟨j, rfl⟩ : ∃ j : Nat, i = j := ⟨i.toNat, by omega⟩
    have hj : j < x.2.length := by omega
    obtain ⟨v0, hv0⟩ : ∃ v0, rgV ol ((k : Int) + 1) (j : Int) = v0 := ⟨_, rfl⟩
    rw [hc, hv0] at hget
    have e1 : decide ((j : Int) < 0) = false := decide_eq_false (by omega)
    by_cases hkk : v0.k = v.k
    · have hcode : rsC ol ((k : Int) + 1) (j : Int) v = 0 := by unfold rsC; rw [if_pos hc, hv0, if_pos hkk]
      have hset : rsL ol ((k : Int) + 1) (j : Int) v = ol.set k (x.1, x.2.set j v) := by
        unfold rsL
        rw [if_pos hcode, show ((k : Int) + 1 - 1).toNat = k by omega, hk]
        rfl
      rw [hcode, hset]
      obtain ⟨vk, vn, vr⟩ := v
      obtain ⟨ok, on, or_⟩ := v0
      dsimp only at hkk
      subst hkk
      unfold Vl.val at hget ⊢
      dsimp only at hget hW hS ⊢
      replace hget := Lib.hid hget
      clear hcode hset hv0 ho hi hc
      go_enter Try.func50, Try.ntmps50
      go_wp2_with fail
      refine hget.out.mono ?_
      rintro _ w2 ⟨rfl, hb2⟩
      have hW2 := bn hW hb2
      have hX2 := (Blk.new w 49 #[.int .i64 ok, .int .i64 vn, .int .i64 vr]).below hb2 (by simp)
      have hb3 := b0 w2 (.cells #[.int .i64 ok, .int .i64 on, .int .i64 or_] 49)
      have hX3 := hX2.below hb3 hX2.lt
      have hW3 := bn hW2 hb3
      have hY := Blk.new w2 49 #[.int .i64 ok, .int .i64 on, .int .i64 or_]
      generalize hW4 : w2.alloc (.cells #[.int .i64 ok, .int .i64 on, .int .i64 or_] 49) = W at *
      have x0 : W.cell? ⟨w.heap.size, 0, none⟩ = some (.int .i64 ok) := hX3.cell 0
      have y0 : W.cell? ⟨w2.heap.size, 0, none⟩ = some (.int .i64 ok) := hY.cell 0
      have z0 : W.cell? ⟨w.heap.size, 0, none⟩ = some (.int .i64 ok) := hX3.cell 0
      have z1 : W.cell? ⟨w.heap.size, 1, none⟩ = some (.int .i64 vn) := hX3.cell 1
      have z2 : W.cell? ⟨w.heap.size, 2, none⟩ = some (.int .i64 vr) := hX3.cell 2
      have hS4 := h.below hW3
      obtain ⟨A, c, gb, oc, g0, g5, hFb, hfz, hcs, hput⟩ := rh_set hS4 hk hj
      have had : (⟨gb, 0, none⟩ : Addr).add (j * 3) = ⟨gb, j * 3, none⟩ := addr0_add _ _
      obtain ⟨u0, m0⟩ := Option.isSome_iff_exists.1 (hcs 0 (by omega))
      obtain ⟨u1, m1⟩ := Option.isSome_iff_exists.1 (hcs 1 (by omega))
      obtain ⟨u2, m2⟩ := Option.isSome_iff_exists.1 (hcs 2 (by omega))
      have n0 := hfz (j * 3)
      have n1 := hfz (j * 3 + 1)
      have n2 := hfz (j * 3 + 2)
      rw [Nat.add_zero] at m0
      have hq := hput ⟨ok, vn, vr⟩
      have hT := (((Turned.of_below (F := F) hW3).setCell (p := ⟨gb, j * 3, none⟩) (.inl hFb) (.int .i64 ok)).setCell (p := ⟨gb, j * 3 + 1, none⟩) (.inl hFb) (.int .i64 vn)).setCell (p := ⟨gb, j * 3 + 2, none⟩) (.inl hFb) (.int .i64 vr)
      have hfin := Lib.hid (And.intro (h.grown (hq.below ((Below.refl _ _).drew))) (hT.drewN 1))
      have hjl : j < x.2.length := hj
      have p1 : decide ((k : Int) < (ol.length : Int)) = true := decide_eq_true (by omega)
      have p2 : decide ((j : Int) < (x.2.length : Int)) = true := decide_eq_true (by omega)
      clear hput hcs hfz hq hT hS4 hX2 hX3 hY hb3 hW3
      generalize x.2.length = N at *
      go_wp2_with fail
      go_region
      all_goals
        go_wp2_with fail
        exact bodyPost_ret (v := .int .i64 0) (by simp [results, Try.results50, go_sem]) rfl ⟨rfl, hfin.out⟩
    · have hcode : rsC ol ((k : Int) + 1) (j : Int) v = 1 := by unfold rsC; rw [if_pos hc, hv0, if_neg hkk]
      have hset : rsL ol ((k : Int) + 1) (j : Int) v = ol := by
        unfold rsL
        rw [if_neg (by rw [hcode]; decide)]
      rw [hcode, hset]
      have hkb : (v0.k != v.k) = true := by simpa using hkk
      obtain ⟨vk, vn, vr⟩ := v
      obtain ⟨ok, on, or_⟩ := v0
      dsimp only at hkk hkb
      unfold Vl.val at hget ⊢
      dsimp only at hget hW hS ⊢
      replace hget := Lib.hid hget
      clear hcode hset hv0 ho hi hc
      go_enter Try.func50, Try.ntmps50
      go_wp2_with fail
      refine hget.out.mono ?_
      rintro _ w2 ⟨rfl, hb2⟩
      have hW2 := bn hW hb2
      have hX2 := (Blk.new w 49 #[.int .i64 vk, .int .i64 vn, .int .i64 vr]).below hb2 (by simp)
      have hb3 := b0 w2 (.cells #[.int .i64 ok, .int .i64 on, .int .i64 or_] 49)
      have hX3 := hX2.below hb3 hX2.lt
      have hW3 := bn hW2 hb3
      have x0 : (w2.alloc (.cells #[.int .i64 ok, .int .i64 on, .int .i64 or_] 49)).cell? ⟨w.heap.size, 0, none⟩ = some (.int .i64 vk) := hX3.cell 0
      have y0 : (w2.alloc (.cells #[.int .i64 ok, .int .i64 on, .int .i64 or_] 49)).cell? ⟨w2.heap.size, 0, none⟩ = some (.int .i64 ok) := (Blk.new w2 49 #[.int .i64 ok, .int .i64 on, .int .i64 or_]).cell 0
      go_wp2_with fail
      exact bodyPost_ret (v := .int .i64 1) (by simp [results, Try.results50, go_sem]) rfl ⟨rfl, h.grow hW3⟩
  · have hcode : rsC ol r i v = rgC ol r i := by unfold rsC; rw [if_neg hc]
    have hset : rsL ol r i v = ol := by
      unfold rsL
      rw [hcode, if_neg hc]
    rw [hcode, hset]
    generalize rgC ol r i = code at *
    generalize rgV ol r i = v0 at *
    have e1 : (code != 0) = true := by simpa using hc
    obtain ⟨ok, on, or_⟩ := v0
    unfold Vl.val at hget ⊢
    dsimp only at hget
    replace hget := Lib.hid hget
    clear hcode hset
    go_enter Try.func50, Try.ntmps50
    go_wp2_with fail
    refine hget.out.mono ?_
    rintro _ w2 ⟨rfl, hb2⟩
    have hW3 := bn (bn hW hb2) (b0 w2 (.cells #[.int .i64 ok, .int .i64 on, .int .i64 or_] 49))
    go_wp2_with fail
    exact bodyPost_ret (v := .int .i64 code) (by simp [results, Try.results50, go_sem]) rfl ⟨rfl, h.grow hW3⟩
end Go.Proofs.Ytpfgdgelnehjpaa
