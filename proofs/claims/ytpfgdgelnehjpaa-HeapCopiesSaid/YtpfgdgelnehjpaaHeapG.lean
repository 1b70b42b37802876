/- A heap of objects with values: data, Get, Set, Type, Len. -/
import Derived.Test.YtpfgdgelnehjpaaHeapA
import Derived.Deep.RegionHeldLaw
namespace Go.Proofs.Ytpfgdgelnehjpaa
open Go.RowKit
set_option linter.unusedVariables false
set_option linter.unusedSimpArgs false

/-- At this place of memory stands this place. -/
structure PcAt (w : World) (ad : Addr) (p : Pc) : Prop where
  c0 : w.cell? ad = some (.int .i64 p.t.k)
  c1 : w.cell? ⟨ad.block, ad.off + 1, none⟩ = some (.string p.t.name)
  c2 : w.cell? ⟨ad.block, ad.off + 2, none⟩ = some (.int .i64 p.t.dims)
  c3 : w.cell? ⟨ad.block, ad.off + 3, none⟩ = some (.int .i64 p.t.elem)
  c4 : w.cell? ⟨ad.block, ad.off + 4, none⟩ = some (.int .i64 p.t.pos)
  c5 : w.cell? ⟨ad.block, ad.off + 5, none⟩ = some (.int .i64 p.lo)
  c6 : w.cell? ⟨ad.block, ad.off + 6, none⟩ = some (.int .i64 p.hi)
theorem readsP_at {w : World} {B : Nat} {A : Option Addr} {l : List Pc} {k : Nat} {e : Pc} (h : Reads w B 7 A l.length (cellsP l)) (hk : l[k]? = some e) :
    ∃ ad, A = some ad ∧ ad.block < B ∧ PcAt w (ad.add (k * 7)) e := by
  have hlt : k < l.length := (List.getElem?_eq_some_iff.1 hk).1
  obtain ⟨ad, hA, hb, hc⟩ := h.2 (by omega)
  have hg := fun j hj => flat_get Pc.cells (n := 7) (fun _ => rfl) l k e j hk hj
  refine ⟨ad, hA, hb, ⟨hc (k * 7) _ (hg 0 (by omega)), ?_, ?_, ?_, ?_, ?_, ?_⟩⟩
  · have := hc (k * 7 + 1) _ (hg 1 (by omega)); rwa [← add_of_add] at this
  · have := hc (k * 7 + 2) _ (hg 2 (by omega)); rwa [← add_of_add] at this
  · have := hc (k * 7 + 3) _ (hg 3 (by omega)); rwa [← add_of_add] at this
  · have := hc (k * 7 + 4) _ (hg 4 (by omega)); rwa [← add_of_add] at this
  · have := hc (k * 7 + 5) _ (hg 5 (by omega)); rwa [← add_of_add] at this
  · have := hc (k * 7 + 6) _ (hg 6 (by omega)); rwa [← add_of_add] at this
/-- At this place of memory stands this value. -/
structure VlAt (w : World) (ad : Addr) (v : Vl) : Prop where
  c0 : w.cell? ad = some (.int .i64 v.k)
  c1 : w.cell? ⟨ad.block, ad.off + 1, none⟩ = some (.int .i64 v.n)
  c2 : w.cell? ⟨ad.block, ad.off + 2, none⟩ = some (.int .i64 v.r)
theorem readsV_at {w : World} {B : Nat} {A : Option Addr} {l : List Vl} {k : Nat} {e : Vl} (h : Reads w B 3 A l.length (cellsV l)) (hk : l[k]? = some e) :
    ∃ ad, A = some ad ∧ ad.block < B ∧ VlAt w (ad.add (k * 3)) e := by
  have hlt : k < l.length := (List.getElem?_eq_some_iff.1 hk).1
  obtain ⟨ad, hA, hb, hc⟩ := h.2 (by omega)
  have hg := fun j hj => flat_get Vl.cells (n := 3) (fun _ => rfl) l k e j hk hj
  refine ⟨ad, hA, hb, ⟨hc (k * 3) _ (hg 0 (by omega)), ?_, ?_⟩⟩
  · have := hc (k * 3 + 1) _ (hg 1 (by omega)); rwa [← add_of_add] at this
  · have := hc (k * 3 + 2) _ (hg 2 (by omega)); rwa [← add_of_add] at this
/-- Places lie within the row of values. -/
def WP (ps : List Pc) (vs : List Vl) : Prop := ∀ p ∈ ps, p.lo ≤ p.hi ∧ p.hi ≤ vs.length
def dataV (vs : List Vl) (p : Pc) : List Vl := (vs.drop p.lo).take (p.hi - p.lo)
def dataA (B : Option Addr) (p : Pc) : Option Addr := if p.hi = p.lo then B else B.map (·.add (p.lo * 3))
theorem dataV_len {vs : List Vl} {p : Pc} (h : p.lo ≤ p.hi ∧ p.hi ≤ vs.length) : (dataV vs p).length = p.hi - p.lo := by
  unfold dataV
  rw [List.length_take, List.length_drop]
  omega
theorem data_reads {w : World} {B0 : Nat} {B : Option Addr} {vs : List Vl} {p : Pc} (h : p.lo ≤ p.hi ∧ p.hi ≤ vs.length) (hr : Reads w B0 3 B vs.length (cellsV vs)) :
    Reads w B0 3 (dataA B p) (dataV vs p).length (cellsV (dataV vs p)) := by
  by_cases e : p.hi = p.lo
  · have h0 : dataV vs p = [] := List.eq_nil_of_length_eq_zero (by rw [dataV_len h]; omega)
    rw [h0]
    exact ⟨rfl, fun hn => absurd hn (by simp)⟩
  · have h1 := Reads.cut (k := p.lo) (cap := p.lo + 1 + vs.length) hr (by omega) (by omega)
    rw [if_neg (by omega)] at h1
    have h2 := Reads.take (k := p.hi - p.lo) h1 (by omega)
    have e2 : cellsV (dataV vs p) = ((cellsV vs).drop (p.lo * 3)).take ((p.hi - p.lo) * 3) := by
      unfold cellsV dataV
      rw [flat_drop Vl.cells (fun _ => rfl), flat_take Vl.cells (fun _ => rfl)]
    unfold dataA
    rw [dataV_len h, e2, if_neg e]
    exact h2

set_option maxRecDepth 100000 in
set_option maxHeartbeats 8000000 in
theorem data_any (g k : Nat) (ps : List Pc) (vs : List Vl) (most : Int) (p : Pc) (w : World) (F : Nat → Prop) (base : Nat) (h : HS w F base g ps vs most) (hk : ps[k]? = some p) (hp : p.lo ≤ p.hi ∧ p.hi ≤ vs.length) (B : Option Addr) (d : Nat) (hc : w.cell? ⟨g, 1, none⟩ = some (.slice B vs.length d)) (hd : vs.length ≤ d) (hps : ps.length ≤ 1024) :
    Calls Try.prog 47 #[.pointer (some ⟨g, 0, none⟩), .int .i64 ((k : Int) + 1)] w fun e w' => e = .returned (.tuple #[.slice (dataA B p) (p.hi - p.lo) (p.hi - p.lo), .int .i64 0]) ∧ Below w.heap.size w w' := by
  have hmd := h.made
  have hkl : k < ps.length := (List.getElem?_eq_some_iff.1 hk).1
  obtain ⟨A, c, B', d', hB, hO, hV, hbg, hFg, hFv, hFu, hFw⟩ := h
  obtain ⟨ad, rfl, hadb, a0, a1, a2, a3, a4, a5, a6⟩ := readsP_at (own_reads hO) hk
  have c0 : w.cell? ⟨g, 0, none⟩ = some (.slice (some ad) ps.length c) := hB.cell 0
  have hW := b0 w (.cells #[.int .i64 p.t.k, .string p.t.name, .int .i64 p.t.dims, .int .i64 p.t.elem, .int .i64 p.t.pos, .int .i64 p.lo, .int .i64 p.hi] 106)
  have hX := Blk.new w 106 #[.int .i64 p.t.k, .string p.t.name, .int .i64 p.t.dims, .int .i64 p.t.elem, .int .i64 p.t.pos, .int .i64 p.lo, .int .i64 p.hi]
  have c1 : (w.alloc (.cells #[.int .i64 p.t.k, .string p.t.name, .int .i64 p.t.dims, .int .i64 p.t.elem, .int .i64 p.t.pos, .int .i64 p.lo, .int .i64 p.hi] 106)).cell? ⟨g, 1, none⟩ = some (.slice B vs.length d) := (hW.cell (p := ⟨g, 1, none⟩) (hFw g hFg).2).trans hc
  have x5 : (w.alloc (.cells #[.int .i64 p.t.k, .string p.t.name, .int .i64 p.t.dims, .int .i64 p.t.elem, .int .i64 p.t.pos, .int .i64 p.lo, .int .i64 p.hi] 106)).cell? ⟨w.heap.size, 5, none⟩ = some (.int .i64 p.lo) := hX.cell 5
  have x6 : (w.alloc (.cells #[.int .i64 p.t.k, .string p.t.name, .int .i64 p.t.dims, .int .i64 p.t.elem, .int .i64 p.t.pos, .int .i64 p.lo, .int .i64 p.hi] 106)).cell? ⟨w.heap.size, 6, none⟩ = some (.int .i64 p.hi) := hX.cell 6
  have hnone := Lib.hid (hnone_any g w hmd)
  have e1 : decide ((k : Int) + 1 < 1) = false := decide_eq_false (by omega)
  have e2 : decide ((ps.length : Int) < (k : Int) + 1) = false := decide_eq_false (by omega)
  obtain ⟨A', hA'⟩ : ∃ A', dataA B p = A' := ⟨_, rfl⟩
  rw [hA']
  unfold dataA at hA'
  clear hB hO hV hFv hFu hFw hX
  go_enter Try.func47, Try.ntmps47
  go_wp2_with fail
  refine hnone.out.mono ?_
  rintro _ _ ⟨rfl, rfl⟩
  go_wp2_with fail
  go_region_held_law (fun w' => w'.cell? ⟨g, 1, none⟩ = some (.slice B vs.length d) ∧ w'.cell? ⟨w.heap.size, 5, none⟩ = some (.int .i64 p.lo) ∧ w'.cell? ⟨w.heap.size, 6, none⟩ = some (.int .i64 p.hi)) (go_keep) (fail)
  go_wp2_with fail
  exact bodyPost_ret (v := .tuple #[.slice A' (p.hi - p.lo) (p.hi - p.lo), .int .i64 0]) (by simp [results, Try.results47, go_sem]) rfl ⟨rfl, hW.drew⟩
set_option maxRecDepth 100000 in
set_option maxHeartbeats 8000000 in
theorem data_out (g : Nat) (r : Int) (ps : List Pc) (vs : List Vl) (most : Int) (w : World) (F : Nat → Prop) (base : Nat) (h : HS w F base g ps vs most) (hr : r < 1 ∨ (ps.length : Int) < r) :
    Calls Try.prog 47 #[.pointer (some ⟨g, 0, none⟩), .int .i64 r] w fun e w' => e = .returned (.tuple #[.slice none 0 0, .int .i64 6]) ∧ Below w.heap.size w w' := by
  have hmd := h.made
  obtain ⟨A, c, B', d', hB, hO, hV, hbg, hFg, hFv, hFu, hFw⟩ := h
  have c0 : w.cell? ⟨g, 0, none⟩ = some (.slice A ps.length c) := hB.cell 0
  have hnone := Lib.hid (hnone_any g w hmd)
  by_cases h1 : r < 1
  · have e1 : decide (r < 1) = true := decide_eq_true h1
    go_enter Try.func47, Try.ntmps47
    go_wp2_with fail
    refine hnone.out.mono ?_
    rintro _ _ ⟨rfl, rfl⟩
    go_wp2_with fail
    exact bodyPost_ret (v := .tuple #[.slice none 0 0, .int .i64 6]) (by simp [results, Try.results47, go_sem]) rfl ⟨rfl, Below.refl _ _⟩
  · have e1 : decide (r < 1) = false := decide_eq_false h1
    have e2 : decide ((ps.length : Int) < r) = true := decide_eq_true (by omega)
    go_enter Try.func47, Try.ntmps47
    go_wp2_with fail
    refine hnone.out.mono ?_
    rintro _ _ ⟨rfl, rfl⟩
    go_wp2_with fail
    exact bodyPost_ret (v := .tuple #[.slice none 0 0, .int .i64 6]) (by simp [results, Try.results47, go_sem]) rfl ⟨rfl, Below.refl _ _⟩
/-- An object's values. -/
def objD (ps : List Pc) (vs : List Vl) (r : Int) : Option (List Vl) := if 1 ≤ r ∧ r ≤ ps.length then (ps[(r - 1).toNat]?).map (dataV vs) else none
def getV (ps : List Pc) (vs : List Vl) (r i : Int) : Vl := match objD ps vs r with | none => ⟨0, 0, 0⟩ | some d => if i < 0 ∨ (d.length : Int) ≤ i then ⟨0, 0, 0⟩ else d.getD i.toNat ⟨0, 0, 0⟩
def getC (ps : List Pc) (vs : List Vl) (r i : Int) : Int := match objD ps vs r with | none => 6 | some d => if i < 0 ∨ (d.length : Int) ≤ i then 1 else 0
theorem obj_cases (ps : List Pc) (vs : List Vl) (r : Int) : ((r < 1 ∨ (ps.length : Int) < r) ∧ objD ps vs r = none) ∨ ∃ (k : Nat) (p : Pc), r = (k : Int) + 1 ∧ ps[k]? = some p ∧ objD ps vs r = some (dataV vs p) := by
  by_cases h : 1 ≤ r ∧ r ≤ ps.length
  · refine .inr ⟨(r - 1).toNat, ps[(r - 1).toNat]'(by omega), by omega, List.getElem?_eq_getElem _, ?_⟩
    unfold objD
    rw [if_pos h, List.getElem?_eq_getElem (by omega)]
    rfl
  · exact .inl ⟨by omega, if_neg h⟩
set_option maxRecDepth 100000 in
set_option maxHeartbeats 8000000 in
theorem get_any (g : Nat) (r i : Int) (ps : List Pc) (vs : List Vl) (most : Int) (w : World) (F : Nat → Prop) (base : Nat) (h : HS w F base g ps vs most) (hw : WP ps vs) (hps : ps.length ≤ 1024) (hvs : vs.length ≤ 1048576) :
    Calls Try.prog 25 #[.pointer (some ⟨g, 0, none⟩), .int .i64 r, .int .i64 i] w fun e w' => e = .returned (.tuple #[(getV ps vs r i).val, .int .i64 (getC ps vs r i)]) ∧ Below w.heap.size w w' := by
  have hW := b0 w (.cells #[.int .i64 0, .int .i64 0, .int .i64 0] 49)
  have hS := h.below hW
  rcases obj_cases ps vs r with ⟨hr, ho⟩ | ⟨k, p, rfl, hk, ho⟩
  · have hd := Lib.hid (data_out g r ps vs most _ F base hS hr)
    unfold getV getC
    rw [ho]
    dsimp only
    go_enter Try.func25, Try.ntmps25
    go_wp2_with fail
    refine hd.out.mono ?_
    rintro _ w2 ⟨rfl, hb2⟩
    have hX := (Blk.new w 49 #[.int .i64 0, .int .i64 0, .int .i64 0]).below hb2 (by simp)
    have c0 : w2.cell? ⟨w.heap.size, 0, none⟩ = some (.int .i64 0) := hX.cell 0
    have fc0 := hX.frozen 0
    have c1 : w2.cell? ⟨w.heap.size, 1, none⟩ = some (.int .i64 0) := hX.cell 1
    have fc1 := hX.frozen 1
    have c2 : w2.cell? ⟨w.heap.size, 2, none⟩ = some (.int .i64 0) := hX.cell 2
    have fc2 := hX.frozen 2
    have hbf := bn hW hb2
    go_wp2_with fail
    have hX3 := ((hX.set_ 0 (.int .i64 0)).set_ 1 (.int .i64 0)).set_ 2 (.int .i64 0)
    have r0 : (((w2.setCell ⟨w.heap.size, 0, none⟩ (.int .i64 0)).setCell ⟨w.heap.size, 1, none⟩ (.int .i64 0)).setCell ⟨w.heap.size, 2, none⟩ (.int .i64 0)).cell? ⟨w.heap.size, 0, none⟩ = some (.int .i64 0) := hX3.cell 0
    have r1 : (((w2.setCell ⟨w.heap.size, 0, none⟩ (.int .i64 0)).setCell ⟨w.heap.size, 1, none⟩ (.int .i64 0)).setCell ⟨w.heap.size, 2, none⟩ (.int .i64 0)).cell? ⟨w.heap.size, 1, none⟩ = some (.int .i64 0) := hX3.cell 1
    have r2 : (((w2.setCell ⟨w.heap.size, 0, none⟩ (.int .i64 0)).setCell ⟨w.heap.size, 1, none⟩ (.int .i64 0)).setCell ⟨w.heap.size, 2, none⟩ (.int .i64 0)).cell? ⟨w.heap.size, 2, none⟩ = some (.int .i64 0) := hX3.cell 2
    exact bodyPost_ret (v := .tuple #[.agg #[.int .i64 0, .int .i64 0, .int .i64 0], .int .i64 6]) (by simp [results, Try.results25, go_sem, r0, r1, r2]) rfl ⟨rfl, (((hbf).setCell (p := ⟨w.heap.size, 0, none⟩) (Nat.le_refl _) _).setCell (p := ⟨w.heap.size, 1, none⟩) (Nat.le_refl _) _).setCell (p := ⟨w.heap.size, 2, none⟩) (Nat.le_refl _) _⟩
  · have hp := hw p (List.mem_of_getElem? hk)
    obtain ⟨A, c, B, d, hB, hO, hV, hbg, hFg, hFv, hFu, hFw⟩ := id h
    have hcap := own_cap hV
    have c1 : w.cell? ⟨g, 1, none⟩ = some (.slice B vs.length d) := hB.cell 1
    have hdr := data_reads hp (own_reads hV)
    have hd := data_any g k ps vs most p _ F base hS hk hp B d ((hW.cell (p := ⟨g, 1, none⟩) (hFw g hFg).2).trans c1) hcap.1 hps
    have hln := dataV_len hp
    unfold getV getC
    rw [ho]
    dsimp only
    rw [← hln] at hd
    generalize dataV vs p = dv at *
    generalize dataA B p = DA at *
    replace hd := Lib.hid hd
    have hdl : dv.length ≤ 1048576 := by omega
    clear ho hln hp hB hO hV hFv hFu c1
    by_cases hi : i < 0 ∨ (dv.length : Int) ≤ i
    · rw [if_pos hi, if_pos hi]
      have q1 : (i < 0) ∨ (¬ i < 0 ∧ (dv.length : Int) ≤ i) := by omega
      rcases q1 with q1 | ⟨q0, q1⟩
      · have e1 : decide (i < 0) = true := decide_eq_true q1
        clear hi
        go_enter Try.func25, Try.ntmps25
        go_wp2_with fail
        refine hd.out.mono ?_
        rintro _ w2 ⟨rfl, hb2⟩
        have hX := (Blk.new w 49 #[.int .i64 0, .int .i64 0, .int .i64 0]).below hb2 (by simp)
        have c0 : w2.cell? ⟨w.heap.size, 0, none⟩ = some (.int .i64 0) := hX.cell 0
        have fc0 := hX.frozen 0
        have c1 : w2.cell? ⟨w.heap.size, 1, none⟩ = some (.int .i64 0) := hX.cell 1
        have fc1 := hX.frozen 1
        have c2 : w2.cell? ⟨w.heap.size, 2, none⟩ = some (.int .i64 0) := hX.cell 2
        have fc2 := hX.frozen 2
        have hbf := bn hW hb2
        go_wp2_with fail
        have hX3 := ((hX.set_ 0 (.int .i64 0)).set_ 1 (.int .i64 0)).set_ 2 (.int .i64 0)
        have r0 : (((w2.setCell ⟨w.heap.size, 0, none⟩ (.int .i64 0)).setCell ⟨w.heap.size, 1, none⟩ (.int .i64 0)).setCell ⟨w.heap.size, 2, none⟩ (.int .i64 0)).cell? ⟨w.heap.size, 0, none⟩ = some (.int .i64 0) := hX3.cell 0
        have r1 : (((w2.setCell ⟨w.heap.size, 0, none⟩ (.int .i64 0)).setCell ⟨w.heap.size, 1, none⟩ (.int .i64 0)).setCell ⟨w.heap.size, 2, none⟩ (.int .i64 0)).cell? ⟨w.heap.size, 1, none⟩ = some (.int .i64 0) := hX3.cell 1
        have r2 : (((w2.setCell ⟨w.heap.size, 0, none⟩ (.int .i64 0)).setCell ⟨w.heap.size, 1, none⟩ (.int .i64 0)).setCell ⟨w.heap.size, 2, none⟩ (.int .i64 0)).cell? ⟨w.heap.size, 2, none⟩ = some (.int .i64 0) := hX3.cell 2
        exact bodyPost_ret (v := .tuple #[.agg #[.int .i64 0, .int .i64 0, .int .i64 0], .int .i64 1]) (by simp [results, Try.results25, go_sem, r0, r1, r2]) rfl ⟨rfl, (((hbf).setCell (p := ⟨w.heap.size, 0, none⟩) (Nat.le_refl _) _).setCell (p := ⟨w.heap.size, 1, none⟩) (Nat.le_refl _) _).setCell (p := ⟨w.heap.size, 2, none⟩) (Nat.le_refl _) _⟩
      · have e1 : decide (i < 0) = false := decide_eq_false q0
        have e2 : decide ((dv.length : Int) ≤ i) = true := decide_eq_true q1
        clear hi
        go_enter Try.func25, Try.ntmps25
        go_wp2_with fail
        refine hd.out.mono ?_
        rintro _ w2 ⟨rfl, hb2⟩
        have hX := (Blk.new w 49 #[.int .i64 0, .int .i64 0, .int .i64 0]).below hb2 (by simp)
        have c0 : w2.cell? ⟨w.heap.size, 0, none⟩ = some (.int .i64 0) := hX.cell 0
        have fc0 := hX.frozen 0
        have c1 : w2.cell? ⟨w.heap.size, 1, none⟩ = some (.int .i64 0) := hX.cell 1
        have fc1 := hX.frozen 1
        have c2 : w2.cell? ⟨w.heap.size, 2, none⟩ = some (.int .i64 0) := hX.cell 2
        have fc2 := hX.frozen 2
        have hbf := bn hW hb2
        go_wp2_with fail
        have hX3 := ((hX.set_ 0 (.int .i64 0)).set_ 1 (.int .i64 0)).set_ 2 (.int .i64 0)
        have r0 : (((w2.setCell ⟨w.heap.size, 0, none⟩ (.int .i64 0)).setCell ⟨w.heap.size, 1, none⟩ (.int .i64 0)).setCell ⟨w.heap.size, 2, none⟩ (.int .i64 0)).cell? ⟨w.heap.size, 0, none⟩ = some (.int .i64 0) := hX3.cell 0
        have r1 : (((w2.setCell ⟨w.heap.size, 0, none⟩ (.int .i64 0)).setCell ⟨w.heap.size, 1, none⟩ (.int .i64 0)).setCell ⟨w.heap.size, 2, none⟩ (.int .i64 0)).cell? ⟨w.heap.size, 1, none⟩ = some (.int .i64 0) := hX3.cell 1
        have r2 : (((w2.setCell ⟨w.heap.size, 0, none⟩ (.int .i64 0)).setCell ⟨w.heap.size, 1, none⟩ (.int .i64 0)).setCell ⟨w.heap.size, 2, none⟩ (.int .i64 0)).cell? ⟨w.heap.size, 2, none⟩ = some (.int .i64 0) := hX3.cell 2
        exact bodyPost_ret (v := .tuple #[.agg #[.int .i64 0, .int .i64 0, .int .i64 0], .int .i64 1]) (by simp [results, Try.results25, go_sem, r0, r1, r2]) rfl ⟨rfl, (((hbf).setCell (p := ⟨w.heap.size, 0, none⟩) (Nat.le_refl _) _).setCell (p := ⟨w.heap.size, 1, none⟩) (Nat.le_refl _) _).setCell (p := ⟨w.heap.size, 2, none⟩) (Nat.le_refl _) _⟩
    · rw [if_neg hi, if_neg hi]
      obtain ⟨j, rfl⟩ : ∃ j : Nat, i = j := ⟨i.toNat, by omega⟩
      have hj : j < dv.length := by omega
      have e1 : decide ((j : Int) < 0) = false := decide_eq_false (by omega)
      have e2 : decide ((dv.length : Int) ≤ (j : Int)) = false := decide_eq_false (by omega)
      have e3 : decide (dv.length ≤ j) = false := decide_eq_false (by omega)
      obtain ⟨v, hv⟩ : ∃ v, dv[j]? = some v := ⟨dv[j], List.getElem?_eq_getElem hj⟩
      have hgd : dv.getD ((j : Int)).toNat ⟨0, 0, 0⟩ = v := by simp [List.getD, hv]
      rw [hgd]
      obtain ⟨ad, rfl, hab, v0, v1, v2⟩ := readsV_at hdr hv
      clear hi hgd
      unfold Vl.val
      go_enter Try.func25, Try.ntmps25
      go_wp2_with fail
      refine hd.out.mono ?_
      rintro _ w2 ⟨rfl, hb2⟩
      have hX := (Blk.new w 49 #[.int .i64 0, .int .i64 0, .int .i64 0]).below hb2 (by simp)
      have c0 : w2.cell? ⟨w.heap.size, 0, none⟩ = some (.int .i64 0) := hX.cell 0
      have fc0 := hX.frozen 0
      have c1 : w2.cell? ⟨w.heap.size, 1, none⟩ = some (.int .i64 0) := hX.cell 1
      have fc1 := hX.frozen 1
      have c2 : w2.cell? ⟨w.heap.size, 2, none⟩ = some (.int .i64 0) := hX.cell 2
      have fc2 := hX.frozen 2
      have hbf := bn hW hb2
      replace v0 := old2 v0 hbf
      replace v1 := old2 v1 hbf
      replace v2 := old2 v2 hbf
      go_wp2_with fail
      have hX3 := ((hX.set_ 0 (.int .i64 v.k)).set_ 1 (.int .i64 v.n)).set_ 2 (.int .i64 v.r)
      have r0 : (((w2.setCell ⟨w.heap.size, 0, none⟩ (.int .i64 v.k)).setCell ⟨w.heap.size, 1, none⟩ (.int .i64 v.n)).setCell ⟨w.heap.size, 2, none⟩ (.int .i64 v.r)).cell? ⟨w.heap.size, 0, none⟩ = some (.int .i64 v.k) := hX3.cell 0
      have r1 : (((w2.setCell ⟨w.heap.size, 0, none⟩ (.int .i64 v.k)).setCell ⟨w.heap.size, 1, none⟩ (.int .i64 v.n)).setCell ⟨w.heap.size, 2, none⟩ (.int .i64 v.r)).cell? ⟨w.heap.size, 1, none⟩ = some (.int .i64 v.n) := hX3.cell 1
      have r2 : (((w2.setCell ⟨w.heap.size, 0, none⟩ (.int .i64 v.k)).setCell ⟨w.heap.size, 1, none⟩ (.int .i64 v.n)).setCell ⟨w.heap.size, 2, none⟩ (.int .i64 v.r)).cell? ⟨w.heap.size, 2, none⟩ = some (.int .i64 v.r) := hX3.cell 2
      exact bodyPost_ret (v := .tuple #[.agg #[.int .i64 v.k, .int .i64 v.n, .int .i64 v.r], .int .i64 0]) (by simp [results, Try.results25, go_sem, r0, r1, r2]) rfl ⟨rfl, (((hbf).setCell (p := ⟨w.heap.size, 0, none⟩) (Nat.le_refl _) _).setCell (p := ⟨w.heap.size, 1, none⟩) (Nat.le_refl _) _).setCell (p := ⟨w.heap.size, 2, none⟩) (Nat.le_refl _) _⟩
theorem addr0_add (gb n : Nat) : (⟨gb, 0, none⟩ : Addr).add n = ⟨gb, n, none⟩ := by
  unfold Addr.add
  split <;> simp_all
/-- A store of a value into a heap's row. -/
theorem hs_set {w : World} {F : Nat → Prop} {base g : Nat} {ps : List Pc} {vs : List Vl} {most : Int} {j : Nat} (h : HS w F base g ps vs most) (hj : j < vs.length) :
    ∃ gb d, w.cell? ⟨g, 1, none⟩ = some (.slice (some ⟨gb, 0, none⟩) vs.length d) ∧ F gb ∧ (∀ i, w.frozen? ⟨gb, i, none⟩ = false) ∧ (∀ i, i < 3 → (w.cell? ⟨gb, j * 3 + i, none⟩).isSome = true) ∧
      ∀ v : Vl, HS (((w.setCell ⟨gb, j * 3, none⟩ (.int .i64 v.k)).setCell ⟨gb, j * 3 + 1, none⟩ (.int .i64 v.n)).setCell ⟨gb, j * 3 + 2, none⟩ (.int .i64 v.r)) F base g ps (vs.set j v) most := by
  obtain ⟨A, c, B, d, hB, hO, hV, hbg, hFg, hFv, hFu, hFw⟩ := h
  rcases hV.2 with ⟨h0, h1⟩ | ⟨gb, cap, cur, hv, hb, hg, hn, hm, hc, ht⟩
  · omega
  · injection hv with e1 e2 e3
    subst e1
    have hK : Blk w gb 49 cur := hg
    have hne : g ≠ gb := Blk.ne_ hB hK (by decide)
    refine ⟨gb, d, hB.cell 1, hFu gb rfl, fun i => hK.frozen i, fun i hi => ?_, fun v => ?_⟩
    · have := World.ownsRow.cellAt hV (j * 3 + i) (by omega)
      rw [this, List.getElem?_eq_getElem (by rw [cellsV_length]; omega)]
      rfl
    · have s1 := (World.ownsRow.stored hV (j * 3) (.int .i64 v.k)).1
      have s2 := (World.ownsRow.stored s1 (j * 3 + 1) (.int .i64 v.n)).1
      have s3 := (World.ownsRow.stored s2 (j * 3 + 2) (.int .i64 v.r)).1
      rw [cellsV_set _ _ _ hj] at s3
      have k1 := hK.set_ (j * 3) (.int .i64 v.k)
      have k2 := k1.set_ (j * 3 + 1) (.int .i64 v.n)
      have o1 := own_cell (i := j * 3) hO hK (by decide) (.int .i64 v.k)
      have o2 := own_cell (i := j * 3 + 1) o1 k1 (by decide) (.int .i64 v.n)
      have o3 := own_cell (i := j * 3 + 2) o2 k2 (by decide) (.int .i64 v.r)
      have b3 := ((hB.far (p := ⟨gb, j * 3, none⟩) hne (.int .i64 v.k)).far (p := ⟨gb, j * 3 + 1, none⟩) hne (.int .i64 v.n)).far (p := ⟨gb, j * 3 + 2, none⟩) hne (.int .i64 v.r)
      have hl : (vs.set j v).length = vs.length := List.length_set
      refine ⟨A, c, some ⟨gb, 0, none⟩, d, ?_, o3, ?_, hbg, hFg, hFv, fun k hk => hFu k (by simpa [Value.ownBlock] using hk), fun k hk => by simpa [World.setCell] using hFw k hk⟩
      · rw [hl]; exact b3
      · rw [hl]; exact s3
theorem HS.grown {w w' : World} {F : Nat → Prop} {base g : Nat} {ps ps' : List Pc} {vs vs' : List Vl} {most : Int} (h : HS w F base g ps vs most) (h' : HS w' F base g ps' vs' most) : HS w' (Grow F w w') base g ps' vs' most := by
  have hg := h.lt g h.own
  refine h'.mono (fun _ hk => .inl hk) fun k hk => ?_
  rcases hk with hk | hk
  · exact h'.lt k hk
  · omega
/-- What Set comes to. -/
def setC (ps : List Pc) (vs : List Vl) (r i : Int) (v : Vl) : Int := if getC ps vs r i = 0 then (if (getV ps vs r i).k = v.k then 0 else 1) else getC ps vs r i
def setV (ps : List Pc) (vs : List Vl) (r i : Int) (v : Vl) : List Vl := if setC ps vs r i v = 0 then (match ps[(r - 1).toNat]? with | some p => vs.set (p.lo + i.toNat) v | none => vs) else vs
set_option maxRecDepth 100000 in
set_option maxHeartbeats 8000000 in
theorem set_any (g : Nat) (r i : Int) (v : Vl) (ps : List Pc) (vs : List Vl) (most : Int) (w : World) (F : Nat → Prop) (base : Nat) (h : HS w F base g ps vs most) (hw : WP ps vs) (hps : ps.length ≤ 1024) (hvs : vs.length ≤ 1048576) :
    Calls Try.prog 26 #[.pointer (some ⟨g, 0, none⟩), .int .i64 r, .int .i64 i, v.val] w fun e w' => e = .returned (.int .i64 (setC ps vs r i v)) ∧ HS w' (Grow F w w') base g ps (setV ps vs r i v) most ∧ Turned F w w' := by
  have hW := b0 w (.cells #[.int .i64 v.k, .int .i64 v.n, .int .i64 v.r] 49)
  have hS := h.below hW
  have hget := get_any g r i ps vs most _ F base hS hw hps hvs
  by_cases hc : getC ps vs r i = 0
  · obtain ⟨k, p, rfl, hk, ho⟩ : ∃ (k : Nat) (p : Pc), r = (k : Int) + 1 ∧ ps[k]? = some p ∧ objD ps vs r = some (dataV vs p) := by
      rcases obj_cases ps vs r with ⟨_, ho⟩ | h
      · unfold getC at hc; rw [ho] at hc; cases hc
      · exact h
    have hp := hw p (List.mem_of_getElem? hk)
    have hln := dataV_len hp
    have hi : ¬ (i < 0 ∨ ((dataV vs p).length : Int) ≤ i) := fun hi => by
      unfold getC at hc
      rw [ho] at hc
      dsimp only at hc
      rw [if_pos hi] at hc
      cases hc
    obtain ⟨j, rfl⟩ : ∃ j : Nat, i = j := ⟨i.toNat, by omega⟩
    have hj : j < p.hi - p.lo := by omega
    obtain ⟨v0, hv0⟩ : ∃ v0, getV ps vs ((k : Int) + 1) (j : Int) = v0 := ⟨_, rfl⟩
    have hjv : p.lo + j < vs.length := by omega
    rw [hc, hv0] at hget
    have e1 : decide ((j : Int) < 0) = false := decide_eq_false (by omega)
    by_cases hkk : v0.k = v.k
    · have hcode : setC ps vs ((k : Int) + 1) (j : Int) v = 0 := by unfold setC; rw [if_pos hc, hv0, if_pos hkk]
      have hset : setV ps vs ((k : Int) + 1) (j : Int) v = vs.set (p.lo + j) v := by
        unfold setV
        rw [if_pos hcode, show ((k : Int) + 1 - 1).toNat = k by omega, hk]
        rfl
      rw [hcode, hset]
      obtain ⟨N, hN⟩ : ∃ N, p.hi - p.lo = N := ⟨_, rfl⟩
      obtain ⟨vk, vn, vr⟩ := v
      obtain ⟨ok, on, or_⟩ := v0
      dsimp only at hkk
      subst hkk
      unfold Vl.val at hget ⊢
      dsimp only at hget hW hS ⊢
      replace hget := Lib.hid hget
      clear hcode hset hv0 ho hln hi hc
      go_enter Try.func26, Try.ntmps26
      go_wp2_with fail
      refine hget.out.mono ?_
      rintro _ w2 ⟨rfl, hb2⟩
      have hW2 := bn hW hb2
      have hX2 := (Blk.new w 49 #[.int .i64 ok, .int .i64 vn, .int .i64 vr]).below hb2 (by simp)
      have hb3 := b0 w2 (.cells #[.int .i64 ok, .int .i64 on, .int .i64 or_] 49)
      have hX3 := hX2.below hb3 hX2.lt
      have hW3 := bn hW2 hb3
      have x0 : (w2.alloc (.cells #[.int .i64 ok, .int .i64 on, .int .i64 or_] 49)).cell? ⟨w.heap.size, 0, none⟩ = some (.int .i64 ok) := hX3.cell 0
      have y0 : (w2.alloc (.cells #[.int .i64 ok, .int .i64 on, .int .i64 or_] 49)).cell? ⟨w2.heap.size, 0, none⟩ = some (.int .i64 ok) := (Blk.new w2 49 #[.int .i64 ok, .int .i64 on, .int .i64 or_]).cell 0
      have hS3 := h.below hW3
      obtain ⟨gb, d, hc1, _, _, _, _⟩ := hs_set hS3 hjv
      have hcap : vs.length ≤ d := by
        obtain ⟨A, c, B', d', hB, hO, hV, hbg, hFg, hFv, hFu, hFw⟩ := hS3
        have := hB.cell 1
        rw [hc1] at this
        injection this with this
        injection this with _ _ ed
        subst ed
        exact (own_cap hV).1
      have hd := data_any g k ps vs most p _ F base hS3 hk hp _ d hc1 hcap hps
      have hA : dataA (some ⟨gb, 0, none⟩) p = some ((⟨gb, 0, none⟩ : Addr).add (p.lo * 3)) := if_neg (by omega)
      rw [hA, hN] at hd
      replace hd := Lib.hid hd
      go_wp2_with fail
      refine hd.out.mono ?_
      rintro _ w4 ⟨rfl, hb4⟩
      have hX4 := hX3.below hb4 hX3.lt
      have hW4 := bn hW3 hb4
      have z0 : w4.cell? ⟨w.heap.size, 0, none⟩ = some (.int .i64 ok) := hX4.cell 0
      have z1 : w4.cell? ⟨w.heap.size, 1, none⟩ = some (.int .i64 vn) := hX4.cell 1
      have z2 : w4.cell? ⟨w.heap.size, 2, none⟩ = some (.int .i64 vr) := hX4.cell 2
      have hS4 := h.below hW4
      obtain ⟨gb2, d2, hc2, hFb, hfz, hcs, hput⟩ := hs_set hS4 hjv
      obtain rfl : gb2 = gb := by
        obtain ⟨A, c, B', d', hB, hO, hV, hbg, hFg, hFv, hFu, hFw⟩ := hS3
        have h1 := (hb4.cell (p := ⟨g, 1, none⟩) (hFw g hFg).2).trans hc1
        rw [hc2] at h1
        injection h1 with h1
        injection h1 with h1
        injection h1 with h1
        injection h1
      have had : ((⟨gb2, 0, none⟩ : Addr).add (p.lo * 3)).add (j * 3) = ⟨gb2, (p.lo + j) * 3, none⟩ := by rw [add_of_add, addr0_add, Nat.add_mul]
      have hlt : decide ((j : Int) < (N : Int)) = true := decide_eq_true (by omega)
      generalize hba : (⟨gb2, 0, none⟩ : Addr).add (p.lo * 3) = ba0 at *
      generalize hbj : ba0.add (j * 3) = bj at *
      subst had
      have m0 := hcs 0 (by omega)
      have m1 := hcs 1 (by omega)
      have m2 := hcs 2 (by omega)
      obtain ⟨u0, m0⟩ := Option.isSome_iff_exists.1 m0
      obtain ⟨u1, m1⟩ := Option.isSome_iff_exists.1 m1
      obtain ⟨u2, m2⟩ := Option.isSome_iff_exists.1 m2
      have n0 := hfz ((p.lo + j) * 3)
      have n1 := hfz ((p.lo + j) * 3 + 1)
      have n2 := hfz ((p.lo + j) * 3 + 2)
      rw [Nat.add_zero] at m0
      have hjN : j < N := by omega
      replace hput := Lib.hid hput
      replace hba := Lib.hid hba
      clear hcs hfz hc2 hc1
      go_wp2_with fail
      have hq := hput.out ⟨ok, vn, vr⟩
      exact bodyPost_ret (v := .int .i64 0) (by simp [results, Try.results26, go_sem]) rfl ⟨rfl, h.grown hq, (((Turned.of_below hW4).setCell (p := ⟨gb2, (p.lo + j) * 3, none⟩) (.inl hFb) _).setCell (p := ⟨gb2, (p.lo + j) * 3 + 1, none⟩) (.inl hFb) _).setCell (p := ⟨gb2, (p.lo + j) * 3 + 2, none⟩) (.inl hFb) _⟩
    · have hcode : setC ps vs ((k : Int) + 1) (j : Int) v = 1 := by unfold setC; rw [if_pos hc, hv0, if_neg hkk]
      have hset : setV ps vs ((k : Int) + 1) (j : Int) v = vs := by
        unfold setV
        rw [if_neg (by rw [hcode]; decide)]
      rw [hcode, hset]
      have hkb : (v0.k != v.k) = true := by simpa using hkk
      obtain ⟨vk, vn, vr⟩ := v
      obtain ⟨ok, on, or_⟩ := v0
      dsimp only at hkk hkb
      unfold Vl.val at hget ⊢
      dsimp only at hget hW hS ⊢
      replace hget := Lib.hid hget
      clear hcode hset hv0 ho hln hi hc
      go_enter Try.func26, Try.ntmps26
      go_wp2_with fail
      refine hget.out.mono ?_
      rintro _ w2 ⟨rfl, hb2⟩
      have hW2 := bn hW hb2
      have hX2 := (Blk.new w 49 #[.int .i64 vk, .int .i64 vn, .int .i64 vr]).below hb2 (by simp)
      have hb3 := b0 w2 (.cells #[.int .i64 ok, .int .i64 on, .int .i64 or_] 49)
      have hX3 := hX2.below hb3 hX2.lt
      have hW3 := bn hW2 hb3
      have x0 : (w2.alloc (.cells #[.int .i64 ok, .int .i64 on, .int .i64 or_] 49)).cell? ⟨w.heap.size, 0, none⟩ = some (.int .i64 vk) := hX3.cell 0
      have y0 : (w2.alloc (.cells #[.int .i64 ok, .int .i64 on, .int .i64 or_] 49)).cell? ⟨w2.heap.size, 0, none⟩ = some (.int .i64 ok) := (Blk.new w2 49 #[.int .i64 ok, .int .i64 on, .int .i64 or_]).cell 0
      go_wp2_with fail
      exact bodyPost_ret (v := .int .i64 1) (by simp [results, Try.results26, go_sem]) rfl ⟨rfl, h.grow hW3⟩
  · have hcode : setC ps vs r i v = getC ps vs r i := by unfold setC; rw [if_neg hc]
    have hset : setV ps vs r i v = vs := by
      unfold setV
      rw [hcode, if_neg hc]
    rw [hcode, hset]
    generalize getC ps vs r i = code at *
    generalize getV ps vs r i = v0 at *
    have e1 : (code != 0) = true := by simpa using hc
    obtain ⟨ok, on, or_⟩ := v0
    unfold Vl.val at hget ⊢
    dsimp only at hget
    replace hget := Lib.hid hget
    clear hcode hset
    go_enter Try.func26, Try.ntmps26
    go_wp2_with fail
    refine hget.out.mono ?_
    rintro _ w2 ⟨rfl, hb2⟩
    have hW3 := bn (bn hW hb2) (b0 w2 (.cells #[.int .i64 ok, .int .i64 on, .int .i64 or_] 49))
    go_wp2_with fail
    exact bodyPost_ret (v := .int .i64 code) (by simp [results, Try.results26, go_sem]) rfl ⟨rfl, h.grow hW3⟩
end Go.Proofs.Ytpfgdgelnehjpaa
