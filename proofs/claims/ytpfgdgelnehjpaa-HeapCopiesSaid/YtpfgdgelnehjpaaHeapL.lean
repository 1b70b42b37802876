/- Lists of objects: All, same. -/
import Derived.Test.YtpfgdgelnehjpaaHeapG
namespace Go.Proofs.Ytpfgdgelnehjpaa
open Go.RowKit
set_option linter.unusedVariables false
set_option linter.unusedSimpArgs false
attribute [-go_sem] Builtin.append_

/-- An object as it lies in memory: its type, its values, and where these lie. -/
structure Ob where
  t : Ty
  d : List Vl
  A : Option Addr
  c : Nat
def Ob.sl (o : Ob) : Value := .slice o.A o.d.length o.c
def Ob.cells (o : Ob) : List Value := [.int .i64 o.t.k, .string o.t.name, .int .i64 o.t.dims, .int .i64 o.t.elem, .int .i64 o.t.pos, .slice o.A o.d.length o.c]
/-- An object as it is told. -/
def Ob.it (o : Ob) : Ty × List Vl := (o.t, o.d)
def cellsO (l : List Ob) : List Value := l.flatMap Ob.cells
theorem cellsO_length (l : List Ob) : (cellsO l).length = l.length * 6 := flat_len Ob.cells (fun _ => rfl) l
theorem cellsO_append (l m : List Ob) : cellsO (l ++ m) = cellsO l ++ cellsO m := List.flatMap_append
theorem ob_one (o : Ob) : ∀ u ∈ o.cells, u.oneCell' = true := by
  intro u hu
  simp only [Ob.cells, List.mem_cons, List.not_mem_nil, or_false] at hu
  rcases hu with rfl | rfl | rfl | rfl | rfl | rfl <;> rfl
theorem infoO : (Try.prog.info? 61).map (fun i => (i.zero, i.size, i.bytes)) = some (some (.agg #[.int .i64 0, .string .empty, .int .i64 0, .int .i64 0, .int .i64 0, .slice none 0 0]), 6, 72) := by kernel_rfl
/-- At this place of memory stands this object. -/
structure ObAt (w : World) (ad : Addr) (o : Ob) : Prop where
  c0 : w.cell? ad = some (.int .i64 o.t.k)
  c1 : w.cell? ⟨ad.block, ad.off + 1, none⟩ = some (.string o.t.name)
  c2 : w.cell? ⟨ad.block, ad.off + 2, none⟩ = some (.int .i64 o.t.dims)
  c3 : w.cell? ⟨ad.block, ad.off + 3, none⟩ = some (.int .i64 o.t.elem)
  c4 : w.cell? ⟨ad.block, ad.off + 4, none⟩ = some (.int .i64 o.t.pos)
  c5 : w.cell? ⟨ad.block, ad.off + 5, none⟩ = some (.slice o.A o.d.length o.c)
theorem readsO_at {w : World} {B : Nat} {A : Option Addr} {l : List Ob} {k : Nat} {e : Ob} (h : Reads w B 6 A l.length (cellsO l)) (hk : l[k]? = some e) :
    ∃ ad, A = some ad ∧ ad.block < B ∧ ObAt w (ad.add (k * 6)) e := by
  have hlt : k < l.length := (List.getElem?_eq_some_iff.1 hk).1
  obtain ⟨ad, hA, hb, hc⟩ := h.2 (by omega)
  have hg := fun j hj => flat_get Ob.cells (n := 6) (fun _ => rfl) l k e j hk hj
  refine ⟨ad, hA, hb, ⟨hc (k * 6) _ (hg 0 (by omega)), ?_, ?_, ?_, ?_, ?_⟩⟩
  · have := hc (k * 6 + 1) _ (hg 1 (by omega)); rwa [← add_of_add] at this
  · have := hc (k * 6 + 2) _ (hg 2 (by omega)); rwa [← add_of_add] at this
  · have := hc (k * 6 + 3) _ (hg 3 (by omega)); rwa [← add_of_add] at this
  · have := hc (k * 6 + 4) _ (hg 4 (by omega)); rwa [← add_of_add] at this
  · have := hc (k * 6 + 5) _ (hg 5 (by omega)); rwa [← add_of_add] at this
/-- A list of objects that is read. -/
def RO (w : World) (B : Nat) (A : Option Addr) (os : List Ob) : Prop := Reads w B 6 A os.length (cellsO os) ∧ ∀ o ∈ os, Reads w B 3 o.A o.d.length (cellsV o.d)
theorem RO.below {w w' : World} {A : Option Addr} {os : List Ob} (h : RO w w.heap.size A os) (hb : Below w.heap.size w w') : RO w' w'.heap.size A os :=
  ⟨Reads.more (Reads.below h.1 hb) hb.size, fun o ho => Reads.more (Reads.below (h.2 o ho) hb) hb.size⟩
/-- A list of objects of the call's own: each object's values are its own. -/
def OL (w : World) (base : Nat) (v : Value) (os : List Ob) : Prop :=
  w.ownsRow base 61 6 v os.length (cellsO os) ∧ (∀ o ∈ os, w.ownsRow base 49 3 o.sl o.d.length (cellsV o.d)) ∧ os.Pairwise (fun a b => a.sl.ownBlock = none ∨ a.sl.ownBlock ≠ b.sl.ownBlock)
theorem OL.nil (w : World) (base : Nat) : OL w base (.slice none 0 0) [] := ⟨World.ownsRow_nil _ _ _ _, ⟨fun o h => absurd h (by simp), List.Pairwise.nil⟩⟩
theorem OL.below {w w' : World} {base : Nat} {v : Value} {os : List Ob} (h : OL w base v os) (hb : Below w.heap.size w w') : OL w' base v os :=
  ⟨own_below h.1 hb, fun o ho => own_below (h.2.1 o ho) hb, h.2.2⟩
theorem OL.turned {w w' : World} {F : Nat → Prop} {base : Nat} {v : Value} {os : List Ob} (h : OL w base v os) (hT : Turned F w w') (hF : ∀ k, base ≤ k → ¬ F k) : OL w' base v os :=
  ⟨own_turned h.1 hT fun g hg => hF g (h.1.lt g hg).1, fun o ho => own_turned (h.2.1 o ho) hT fun g hg => hF g ((h.2.1 o ho).lt g hg).1, h.2.2⟩
theorem OL.reads {w : World} {base n c : Nat} {A : Option Addr} {os : List Ob} (h : OL w base (.slice A n c) os) : RO w w.heap.size A os := by
  obtain ⟨A', c', hv, _, _, hr⟩ := own_form h.1
  injection hv with h1
  subst h1
  exact ⟨hr, fun o ho => own_reads (h.2.1 o ho)⟩

set_option maxRecDepth 100000 in
set_option maxHeartbeats 8000000 in
theorem all_any (g : Nat) (ps : List Pc) (vs : List Vl) (most : Int) (w : World) (F : Nat → Prop) (base : Nat) (h : HS w F base g ps vs most) (hw : WP ps vs) (hps : ps.length ≤ 1024) (hvs : vs.length ≤ 1048576) :
    Calls Try.prog 24 #[.pointer (some ⟨g, 0, none⟩)] w fun e w' => ∃ A c os, e = .returned (.slice A os.length c) ∧ OL w' w.heap.size (.slice A os.length c) os ∧ os.map Ob.it = ps.map (fun p => (p.t, dataV vs p)) ∧ Below w.heap.size w w' := by
  have hct := Lib.hid (hcount_any g ps vs most w F base h)
  go_enter Try.func24, Try.ntmps24
  go_wp2_with fail
  refine hct.out.mono ?_
  rintro _ _ ⟨rfl, rfl⟩
  go_wp2_with fail
  go_loopw [9, 3] (fun i l wr => ∃ (k : Nat) (os : List Ob) (A : Option Addr) (c : Nat), k ≤ ps.length ∧ i = .int .i64 k ∧ os.length = k ∧ l = .slice A k c ∧ OL wr w.heap.size (.slice A k c) os ∧ os.map Ob.it = (ps.take k).map (fun p => (p.t, dataV vs p)) ∧ Below w.heap.size w wr) (fun i _ _ => ps.length - (intOf i).toNat)
  case atStart => exact ⟨0, [], none, 0, by omega, rfl, rfl, rfl, OL.nil _ _, rfl, Below.refl _ _⟩
  case round =>
    obtain ⟨k, os, A, c, hk, rfl, hln, rfl, hL, hmap, hB⟩ := hrel
    by_cases hlt : k < ps.length
    · have e1 : decide ((k : Int) < (ps.length : Int)) = true := decide_eq_true (by omega)
      have e2 : decide (k < ps.length) = true := decide_eq_true hlt
      obtain ⟨p, hp⟩ : ∃ p, ps[k]? = some p := ⟨ps[k], List.getElem?_eq_getElem hlt⟩
      have hpw := hw p (List.mem_of_getElem? hp)
      have hln2 := dataV_len hpw
      have hmap2 : (os ++ [(⟨p.t, dataV vs p, none, 0⟩ : Ob)]).map Ob.it = (ps.take (k + 1)).map (fun p => (p.t, dataV vs p)) := by
        rw [List.map_append, hmap, List.take_add_one, hp, List.map_append]
        rfl
      have hS := h.below hB
      obtain ⟨Ah, ch, Bh, dh, hBk, hO, hV, hbg, hFg, hFv, hFu, hFw⟩ := id hS
      have hcap := own_cap hV
      have hd := data_any g k ps vs most p wr F base hS hp hpw Bh dh (hBk.cell 1) hcap.1 hps
      rw [← hln2] at hd
      obtain ⟨DA, hDA⟩ : ∃ DA, dataA Bh p = DA := ⟨_, rfl⟩
      have hdr := data_reads hpw (own_reads hV)
      rw [hDA] at hd hdr
      replace hd := Lib.hid hd
      have hdl : (dataV vs p).length ≤ 1048576 := by omega
      clear hln2 hDA hmap
      go_wp2_with fail
      refine hd.out.mono ?_
      rintro _ w3 ⟨rfl, hb3⟩
      have hB3 := bn hB hb3
      have hdr3 := Reads.more (Reads.below hdr hb3) hb3.size
      have hO3 := own_below hO hb3
      obtain ⟨ad, rfl, hadb, a0, a1, a2, a3, a4, a5, a6⟩ := readsP_at (own_reads hO3) hp
      have hBk3 := hBk.below hb3 hBk.lt
      have c0 : w3.cell? ⟨g, 0, none⟩ = some (.slice (some ad) ps.length ch) := hBk3.cell 0
      have hL3 := hL.below hb3
      clear hBk hO hV hdr hL hFv hFu hFw hd
      generalize hdv : dataV vs p = dv at *
      obtain ⟨i0, hi0, hz0, hz1, hz2⟩ := info_parts infoV
      obtain ⟨A5, c5, w5, hrun5, hown5, hg5, hat5⟩ := run_append_any (P := Try.prog) w3.drew w.heap.size 59 59 49 i0 _ 3 24 Try.underlying59 hi0 hz0 hz1 hz2 rfl (by omega) (.slice none 0 0) 0 [] (World.ownsRow_nil _ _ _ _)
        w3.heap.size DA dv.length dv.length (cellsV dv) hdr3 cellsV_one (by unfold maxLen; omega) (by omega) hB3.size
      simp only [Nat.zero_add, List.nil_append] at hrun5 hown5 hat5
      have hb5 : Below w3.heap.size w3 w5 := (Below.refl _ _).drew.trans ⟨hg5.os, hg5.tape, hg5.output, hg5.size, fun i hi => hg5.block i hi (by simp [Value.ownBlock])⟩
      have q0 := old2 a0 hb5
      have q1 := old2 a1 hb5
      have q2 := old2 a2 hb5
      have q3 := old2 a3 hb5
      have q4 := old2 a4 hb5
      have qc := old2 c0 hb5
      have hB5 := bn hB3 hb5
      have hL5 := hL3.below hb5
      have hL5a := hL5.below (b0 w5 (.cells #[.int .i64 p.t.k, .string p.t.name, .int .i64 p.t.dims, .int .i64 p.t.elem, .int .i64 p.t.pos, .slice A5 dv.length c5] 61))
      obtain ⟨j0, hj0, hy0, hy1, hy2⟩ := info_parts infoO
      have hR1 : Reads (w5.alloc (.cells #[.int .i64 p.t.k, .string p.t.name, .int .i64 p.t.dims, .int .i64 p.t.elem, .int .i64 p.t.pos, .slice A5 dv.length c5] 61)) (w5.heap.size + 1) 6 (some ⟨w5.heap.size, 0, none⟩) 1 (Ob.cells ⟨p.t, dv, A5, c5⟩) := by
        have := Reads.new w5 #[.int .i64 p.t.k, .string p.t.name, .int .i64 p.t.dims, .int .i64 p.t.elem, .int .i64 p.t.pos, .slice A5 dv.length c5] 61 (0, 0) 1 6 rfl
        simpa [Ob.cells] using this
      have hrow := hL5a.1
      rw [hln] at hrow
      obtain ⟨A6, c6, w6, hrun6, hown6, hg6, hat6⟩ := run_append_any (P := Try.prog) (w5.alloc (.cells #[.int .i64 p.t.k, .string p.t.name, .int .i64 p.t.dims, .int .i64 p.t.elem, .int .i64 p.t.pos, .slice A5 dv.length c5] 61)) w.heap.size 53 53 61 j0 _ 6 72 Try.underlying53 hj0 hy0 hy1 hy2 rfl (by omega) (.slice A k c) k (cellsO os) hrow
        (w5.heap.size + 1) (some ⟨w5.heap.size, 0, none⟩) 1 1 (Ob.cells ⟨p.t, dv, A5, c5⟩) hR1 (ob_one _) (by unfold maxLen; omega) (by omega) (ba hB5 _).size
      have hfin : OL w6 w.heap.size (.slice A6 (k + 1) c6) (os ++ [⟨p.t, dv, A5, c5⟩]) := by
        refine ⟨?_, ?_, ?_⟩
        · rw [List.length_append, hln, cellsO_append]
          simpa [cellsO] using hown6
        · intro o ho
          rcases List.mem_append.1 ho with ho | ho
          · exact own_other (hL5a.2.1 o ho) hrow (by decide) hg6
          · rw [List.mem_singleton.1 ho]
            exact own_other (World.ownsRow.alloc hown5 _) hrow (by decide) hg6
        · rw [List.pairwise_append]
          refine ⟨hL5.2.2, List.pairwise_singleton _ _, fun a ha b hb => ?_⟩
          rw [List.mem_singleton.1 hb]
          rcases hat5 with h1 | h1
          · cases hs : a.sl.ownBlock with
            | none => exact .inl rfl
            | some gg => exact .inr (by rw [show (Ob.sl ⟨p.t, dv, A5, c5⟩).ownBlock = none from h1]; simp)
          · refine .inr fun e => ?_
            rw [show (Ob.sl ⟨p.t, dv, A5, c5⟩).ownBlock = some w3.drew.heap.size from h1] at e
            have := ((hL3.2.1 a ha).lt _ e).2
            exact absurd this (Nat.lt_irrefl _)
      have hB6 : Below w.heap.size w w6 := (ba hB5 _).grown hg6 (ba hB5 _).size (fun g e => (hrow.lt g e).1)
      have hmap6 : (os ++ [(⟨p.t, dv, A5, c5⟩ : Ob)]).map Ob.it = (ps.take (k + 1)).map (fun p => (p.t, dataV vs p)) := by
        rw [← hmap2]
        simp [Ob.it]
      replace hfin := Lib.hid hfin
      replace hmap6 := Lib.hid hmap6
      have hln6 : (os ++ [(⟨p.t, dv, A5, c5⟩ : Ob)]).length = k + 1 := by rw [List.length_append, hln]; rfl
      replace hln6 := Lib.hid hln6
      clear hmap2 hdv hown6 hg6 hat6 hrow hR1 hL5a hL5 hown5 hat5 hL3 hln
      go_wp2_with fail
      go_region
      all_goals
        go_wp2_with fail
        exact ⟨⟨k + 1, _, A6, c6, by omega, by go_num, hln6.out, rfl, hfin.out, hmap6.out, hB6⟩, by simp [intOf]; omega⟩
    · obtain rfl : k = ps.length := by omega
      have e1 : decide ((ps.length : Int) < (ps.length : Int)) = false := decide_eq_false (by omega)
      have e2 : decide (ps.length < ps.length) = false := decide_eq_false (by omega)
      rw [List.take_length] at hmap
      replace hln := Lib.hid hln
      go_wp2_with fail
      exact bodyPost_ret (v := .slice A ps.length c) (by simp [results, Try.results24, go_sem]) rfl ⟨A, c, os, by rw [hln.out], by rw [hln.out]; exact hL, hmap, hB⟩

theorem reads_same {w w' : World} {B size n : Nat} {A : Option Addr} {xs : List Value} (h : Reads w B size A n xs) (hC : ∀ p, w'.cell? p = w.cell? p) : Reads w' B size A n xs := h.keep fun p _ => hC p
theorem map_at {os1 os2 : List Ob} {k : Nat} {o1 o2 : Ob} (h : os1.map Ob.it = os2.map Ob.it) (h1 : os1[k]? = some o1) (h2 : os2[k]? = some o2) : o2.t = o1.t ∧ o2.d = o1.d := by
  have e : (os1.map Ob.it)[k]? = (os2.map Ob.it)[k]? := by rw [h]
  rw [List.getElem?_map, List.getElem?_map, h1, h2] at e
  simp only [Option.map_some, Option.some.injEq, Ob.it, Prod.mk.injEq] at e
  exact ⟨e.1.symm, e.2.symm⟩
set_option maxRecDepth 100000 in
set_option maxHeartbeats 8000000 in
theorem same_any (A1 A2 : Option Addr) (c1 c2 n : Nat) (os1 os2 : List Ob) (w : World) (B1 B2 : Nat) (h1 : RO w B1 A1 os1) (h2 : RO w B2 A2 os2) (hm : os1.map Ob.it = os2.map Ob.it) (hn : os1.length = n) (hl : n ≤ 1048576) (hd : ∀ o ∈ os1, o.d.length ≤ 1048576) :
    Calls Try.prog 27 #[.slice A1 n c1, .slice A2 n c2] w fun e w' => e = .returned (.bool true) ∧ Below w.heap.size w w' := by
  have hn2 : os2.length = n := by have := congrArg List.length hm; rw [List.length_map, List.length_map] at this; omega
  go_enter Try.func27, Try.ntmps27
  go_wp2_with fail
  go_loopw [5] (fun i wr => ∃ k : Nat, k ≤ n ∧ i = .int .i64 k ∧ (∀ p, wr.cell? p = w.cell? p) ∧ Below w.heap.size w wr) (fun i _ => n - (intOf i).toNat)
  case atStart => exact ⟨0, by omega, rfl, fun _ => rfl, Below.refl _ _⟩
  case round =>
    obtain ⟨k, hk, rfl, hC, hBw⟩ := hrel
    replace hC := Lib.hid hC
    by_cases hlt : k < n
    · have e1 : decide ((k : Int) < (n : Int)) = true := decide_eq_true (by omega)
      have e2 : decide (k < n) = true := decide_eq_true hlt
      obtain ⟨o1, ho1⟩ : ∃ o, os1[k]? = some o := ⟨os1[k]'(by omega), List.getElem?_eq_getElem _⟩
      obtain ⟨o2, ho2⟩ : ∃ o, os2[k]? = some o := ⟨os2[k]'(by omega), List.getElem?_eq_getElem _⟩
      obtain ⟨ad1, q1, _, x0, x1, x2, x3, x4, x5⟩ := readsO_at h1.1 ho1
      obtain ⟨ad2, q2, _, y0, y1, y2, y3, y4, y5⟩ := readsO_at h2.1 ho2
      subst q1 q2
      obtain ⟨et, ed⟩ := map_at hm ho1 ho2
      have hr1 := h1.2 o1 (List.mem_of_getElem? ho1)
      have hr2 := h2.2 o2 (List.mem_of_getElem? ho2)
      have hdl := hd o1 (List.mem_of_getElem? ho1)
      rw [et] at y0 y1 y2 y3 y4
      rw [ed] at y5 hr2
      generalize o1.t = t at *
      generalize o1.d = dv at *
      obtain ⟨N, hN⟩ : ∃ N, N = dv.length := ⟨_, rfl⟩
      rw [← hN] at x5 y5 hr1 hr2 hdl
      replace hN := Lib.hid hN
      clear et ed h1 h2 hm
      replace x0 : wr.cell? (ad1.add (k * 6)) = some (.int .i64 t.k) := (hC.out _).trans x0
      replace y0 : wr.cell? (ad2.add (k * 6)) = some (.int .i64 t.k) := (hC.out _).trans y0
      replace x1 : wr.cell? ⟨(ad1.add (k * 6)).block, (ad1.add (k * 6)).off + 1, none⟩ = some (.string t.name) := (hC.out _).trans x1
      replace y1 : wr.cell? ⟨(ad2.add (k * 6)).block, (ad2.add (k * 6)).off + 1, none⟩ = some (.string t.name) := (hC.out _).trans y1
      replace x2 : wr.cell? ⟨(ad1.add (k * 6)).block, (ad1.add (k * 6)).off + 2, none⟩ = some (.int .i64 t.dims) := (hC.out _).trans x2
      replace y2 : wr.cell? ⟨(ad2.add (k * 6)).block, (ad2.add (k * 6)).off + 2, none⟩ = some (.int .i64 t.dims) := (hC.out _).trans y2
      replace x3 : wr.cell? ⟨(ad1.add (k * 6)).block, (ad1.add (k * 6)).off + 3, none⟩ = some (.int .i64 t.elem) := (hC.out _).trans x3
      replace y3 : wr.cell? ⟨(ad2.add (k * 6)).block, (ad2.add (k * 6)).off + 3, none⟩ = some (.int .i64 t.elem) := (hC.out _).trans y3
      replace x4 : wr.cell? ⟨(ad1.add (k * 6)).block, (ad1.add (k * 6)).off + 4, none⟩ = some (.int .i64 t.pos) := (hC.out _).trans x4
      replace y4 : wr.cell? ⟨(ad2.add (k * 6)).block, (ad2.add (k * 6)).off + 4, none⟩ = some (.int .i64 t.pos) := (hC.out _).trans y4
      replace x5 : wr.cell? ⟨(ad1.add (k * 6)).block, (ad1.add (k * 6)).off + 5, none⟩ = some (.slice o1.A N o1.c) := (hC.out _).trans x5
      replace y5 : wr.cell? ⟨(ad2.add (k * 6)).block, (ad2.add (k * 6)).off + 5, none⟩ = some (.slice o2.A N o2.c) := (hC.out _).trans y5
      replace hr1 : Reads wr B1 3 o1.A N (cellsV dv) := reads_same hr1 hC.out
      replace hr2 : Reads wr B2 3 o2.A N (cellsV dv) := reads_same hr2 hC.out
      go_wp2_with fail
      go_quiet (fail)
      generalize o1.A = P1 at *
      generalize o2.A = P2 at *
      generalize o1.c = C1 at *
      generalize o2.c = C2 at *
      replace hr1 : Reads wr B1 3 P1 dv.length (cellsV dv) := by rw [← hN.out]; exact hr1
      replace hr2 : Reads wr B2 3 P2 dv.length (cellsV dv) := by rw [← hN.out]; exact hr2
      go_wp2_with fail
      go_loopw [6] (fun i w2 => ∃ j : Nat, j ≤ N ∧ i = .int .i64 j ∧ (∀ p, w2.cell? p = wr.cell? p) ∧ Below w.heap.size w w2) (fun i _ => N - (intOf i).toNat)
      case atStart => exact ⟨0, by omega, rfl, fun _ => rfl, below_drewN hBw _⟩
      case round =>
        obtain ⟨j, hj, rfl, hC2, hB2⟩ := hrel
        replace hC2 := Lib.hid hC2
        have x5' : wr.cell? ⟨(ad1.add (k * 6)).block, (ad1.add (k * 6)).off + 5, none⟩ = some (.slice P1 N C1) := (hC2.out _).trans x5
        have y5' : wr.cell? ⟨(ad2.add (k * 6)).block, (ad2.add (k * 6)).off + 5, none⟩ = some (.slice P2 N C2) := (hC2.out _).trans y5
        by_cases hjl : j < N
        · have e3 : decide ((j : Int) < (N : Int)) = true := decide_eq_true (by omega)
          have e4 : decide (j < N) = true := decide_eq_true hjl
          obtain ⟨v, hv⟩ : ∃ v, dv[j]? = some v := ⟨dv[j]'(by rw [← hN.out]; exact hjl), List.getElem?_eq_getElem _⟩
          obtain ⟨b1, q1, _, u0, u1, u2⟩ := readsV_at hr1 hv
          obtain ⟨b2, q2, _, v0, v1, v2⟩ := readsV_at hr2 hv
          subst q1 q2
          replace u0 : wr.cell? (b1.add (j * 3)) = some (.int .i64 v.k) := (hC2.out _).trans u0
          replace u1 : wr.cell? ⟨(b1.add (j * 3)).block, (b1.add (j * 3)).off + 1, none⟩ = some (.int .i64 v.n) := (hC2.out _).trans u1
          replace u2 : wr.cell? ⟨(b1.add (j * 3)).block, (b1.add (j * 3)).off + 2, none⟩ = some (.int .i64 v.r) := (hC2.out _).trans u2
          replace v0 : wr.cell? (b2.add (j * 3)) = some (.int .i64 v.k) := (hC2.out _).trans v0
          replace v1 : wr.cell? ⟨(b2.add (j * 3)).block, (b2.add (j * 3)).off + 1, none⟩ = some (.int .i64 v.n) := (hC2.out _).trans v1
          replace v2 : wr.cell? ⟨(b2.add (j * 3)).block, (b2.add (j * 3)).off + 2, none⟩ = some (.int .i64 v.r) := (hC2.out _).trans v2
          clear x0 x1 x2 x3 x4 y0 y1 y2 y3 y4
          go_wp2_with fail
          go_quiet (fail)
          go_wp2_with fail
          exact ⟨⟨j + 1, by omega, by go_num, fun p => hC2.out p, below_drewN hB2 _⟩, by simp [intOf]; omega⟩
        · obtain rfl : j = N := by omega
          have e3 : decide ((j : Int) < (j : Int)) = false := decide_eq_false (by omega)
          have e4 : decide (j < j) = false := decide_eq_false (by omega)
          clear x0 x1 x2 x3 x4 y0 y1 y2 y3 y4
          go_wp2_with fail
          exact ⟨⟨k + 1, by omega, by go_num, fun p => (hC2.out p).trans (hC.out p), hB2⟩, by simp [intOf]; omega⟩
    · obtain rfl : k = n := by omega
      have e1 : decide ((k : Int) < (k : Int)) = false := decide_eq_false (by omega)
      have e2 : decide (k < k) = false := decide_eq_false (by omega)
      replace hn := Lib.hid hn
      replace hn2 := Lib.hid hn2
      go_wp2_with fail
      go_ret
      exact ⟨rfl, hBw⟩
end Go.Proofs.Ytpfgdgelnehjpaa
