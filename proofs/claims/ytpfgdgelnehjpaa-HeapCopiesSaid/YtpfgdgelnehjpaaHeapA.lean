/- A heap of objects with values: add, Make, Array. -/
import Derived.Test.YtpfgdgelnehjpaaHeapN
import Derived.Test.YtpfgdgelnehjpaaHeapZ
namespace Go.Proofs.Ytpfgdgelnehjpaa
open Go.RowKit
set_option linter.unusedVariables false
set_option linter.unusedSimpArgs false
attribute [-go_sem] Builtin.append_

/-- At this place of memory stands this type. -/
structure TyAt (w : World) (ad : Addr) (t : Ty) : Prop where
  c0 : w.cell? ad = some (.int .i64 t.k)
  c1 : w.cell? ⟨ad.block, ad.off + 1, none⟩ = some (.string t.name)
  c2 : w.cell? ⟨ad.block, ad.off + 2, none⟩ = some (.int .i64 t.dims)
  c3 : w.cell? ⟨ad.block, ad.off + 3, none⟩ = some (.int .i64 t.elem)
  c4 : w.cell? ⟨ad.block, ad.off + 4, none⟩ = some (.int .i64 t.pos)
def cellsT (l : List Ty) : List Value := l.flatMap Ty.cells
theorem cellsT_length (l : List Ty) : (cellsT l).length = l.length * 5 := flat_len Ty.cells (fun _ => rfl) l
def ReadsT (w : World) (B : Nat) (A : Option Addr) (l : List Ty) : Prop := Reads w B 5 A l.length (cellsT l)
theorem ReadsT.at_ {w : World} {B : Nat} {A : Option Addr} {l : List Ty} {k : Nat} {e : Ty} (h : ReadsT w B A l) (hk : l[k]? = some e) :
    ∃ ad, A = some ad ∧ ad.block < B ∧ TyAt w (ad.add (k * 5)) e := by
  have hlt : k < l.length := (List.getElem?_eq_some_iff.1 hk).1
  obtain ⟨ad, hA, hb, hc⟩ := h.2 (by omega)
  have hg := fun j hj => flat_get Ty.cells (n := 5) (fun _ => rfl) l k e j hk hj
  refine ⟨ad, hA, hb, ⟨hc (k * 5) _ (hg 0 (by omega)), ?_, ?_, ?_, ?_⟩⟩
  · have := hc (k * 5 + 1) _ (hg 1 (by omega)); rwa [← add_of_add] at this
  · have := hc (k * 5 + 2) _ (hg 2 (by omega)); rwa [← add_of_add] at this
  · have := hc (k * 5 + 3) _ (hg 3 (by omega)); rwa [← add_of_add] at this
  · have := hc (k * 5 + 4) _ (hg 4 (by omega)); rwa [← add_of_add] at this
theorem readsV_one (w : World) (v : Vl) : Reads (w.alloc (.cells #[.int .i64 v.k, .int .i64 v.n, .int .i64 v.r] 49)) (w.heap.size + 1) 3 (some ⟨w.heap.size, 0, none⟩) 1 v.cells := by
  have := Reads.new w #[.int .i64 v.k, .int .i64 v.n, .int .i64 v.r] 49 (0, 0) 1 3 rfl
  simpa [Vl.cells] using this

set_option maxRecDepth 100000 in
set_option maxHeartbeats 8000000 in
theorem clos_make (q : Nat) (A : Option Addr) (ts : List Ty) (c B i : Nat) (t : Ty) (w : World) (hq : w.cell? ⟨q, 0, none⟩ = some (.slice A ts.length c)) (hR : ReadsT w B A ts) (hi : ts[i]? = some t) :
    Calls Try.prog 40 #[.int .i64 i, .pointer (some ⟨q, 0, none⟩)] w fun e w' => e = .returned t.val ∧ Below w.heap.size w w' := by
  have hlt : i < ts.length := (List.getElem?_eq_some_iff.1 hi).1
  obtain ⟨ad, rfl, hb, a0, a1, a2, a3, a4⟩ := hR.at_ hi
  have hW := b0 w (.cells #[.int .i64 0, .string ⟨#[]⟩, .int .i64 0, .int .i64 0, .int .i64 0] 30)
  have q1 := old1 (o := .cells #[.int .i64 0, .string ⟨#[]⟩, .int .i64 0, .int .i64 0, .int .i64 0] 30) hq
  replace a0 := old1 (o := .cells #[.int .i64 0, .string ⟨#[]⟩, .int .i64 0, .int .i64 0, .int .i64 0] 30) a0
  replace a1 := old1 (o := .cells #[.int .i64 0, .string ⟨#[]⟩, .int .i64 0, .int .i64 0, .int .i64 0] 30) a1
  replace a2 := old1 (o := .cells #[.int .i64 0, .string ⟨#[]⟩, .int .i64 0, .int .i64 0, .int .i64 0] 30) a2
  replace a3 := old1 (o := .cells #[.int .i64 0, .string ⟨#[]⟩, .int .i64 0, .int .i64 0, .int .i64 0] 30) a3
  replace a4 := old1 (o := .cells #[.int .i64 0, .string ⟨#[]⟩, .int .i64 0, .int .i64 0, .int .i64 0] 30) a4
  go_enter Try.func40, Try.ntmps40
  go_wp2_with fail
  exact bodyPost_ret (v := .agg #[.int .i64 t.k, .string t.name, .int .i64 t.dims, .int .i64 t.elem, .int .i64 t.pos]) (by simp [results, Try.results40, go_sem]) rfl ⟨rfl, b0 _ _⟩
set_option maxRecDepth 100000 in
set_option maxHeartbeats 8000000 in
theorem clos_array (q : Nat) (t : Ty) (i : Int) (w : World) (hq : TyAt w ⟨q, 0, none⟩ t) :
    Calls Try.prog 41 #[.int .i64 i, .pointer (some ⟨q, 0, none⟩)] w fun e w' => e = .returned t.val ∧ Below w.heap.size w w' := by
  obtain ⟨a0, a1, a2, a3, a4⟩ := hq
  simp only [Nat.zero_add] at a1 a2 a3 a4
  replace a0 := old1 (o := .cells #[.int .i64 0, .string ⟨#[]⟩, .int .i64 0, .int .i64 0, .int .i64 0] 30) a0
  replace a1 := old1 (o := .cells #[.int .i64 0, .string ⟨#[]⟩, .int .i64 0, .int .i64 0, .int .i64 0] 30) a1
  replace a2 := old1 (o := .cells #[.int .i64 0, .string ⟨#[]⟩, .int .i64 0, .int .i64 0, .int .i64 0] 30) a2
  replace a3 := old1 (o := .cells #[.int .i64 0, .string ⟨#[]⟩, .int .i64 0, .int .i64 0, .int .i64 0] 30) a3
  replace a4 := old1 (o := .cells #[.int .i64 0, .string ⟨#[]⟩, .int .i64 0, .int .i64 0, .int .i64 0] 30) a4
  go_enter Try.func41, Try.ntmps41
  go_wp2_with fail
  exact bodyPost_ret (v := .agg #[.int .i64 t.k, .string t.name, .int .i64 t.dims, .int .i64 t.elem, .int .i64 t.pos]) (by simp [results, Try.results41, go_sem]) rfl ⟨rfl, b0 _ _⟩

def mkR (ps : List Pc) (most : Int) : Int := if (ps.length : Int) < most then (ps.length : Int) + 1 else 0
def mkE (ps : List Pc) (most : Int) : Int := if (ps.length : Int) < most then 0 else 140
def addP (ps : List Pc) (vs : List Vl) (most : Int) (t : Ty) (ts : List Ty) : List Pc := if (ps.length : Int) < most then ps ++ [⟨t, vs.length, vs.length + ts.length⟩] else ps
def addV (ps : List Pc) (vs : List Vl) (most : Int) (ts : List Ty) : List Vl := if (ps.length : Int) < most then vs ++ ts.map firstV else vs
/-- What comes of one object more. -/
def APost (w : World) (F : Nat → Prop) (base g : Nat) (ps : List Pc) (vs : List Vl) (most : Int) (t : Ty) (ts : List Ty) (e : Ending) (w' : World) : Prop :=
  e = .returned (.tuple #[.int .i64 (mkR ps most), .int .i64 (mkE ps most)]) ∧ HS w' (Grow F w w') base g (addP ps vs most t ts) (addV ps vs most ts) most ∧ Turned F w w'

set_option maxRecDepth 100000 in
set_option maxHeartbeats 8000000 in
theorem madd_any (g q : Nat) (ps : List Pc) (vs : List Vl) (most : Int) (t : Ty) (ts : List Ty) (w : World) (F : Nat → Prop) (base : Nat) (h : HS w F base g ps vs most) (h1 : most ≤ 1024) (hv : vs.length ≤ 1048576) (ht : ts.length ≤ 1024)
    (hfn : ∀ W', Turned F w W' → ∀ (i : Nat) ti, ts[i]? = some ti → Calls Try.prog 40 #[.int .i64 i, .pointer (some ⟨q, 0, none⟩)] W' fun e w'' => e = .returned ti.val ∧ Below W'.heap.size W' w'') :
    Calls Try.prog 39 #[.pointer (some ⟨g, 0, none⟩), t.val, .int .i64 ts.length, .func (.func 40) #[] #[.pointer (some ⟨q, 0, none⟩)]] w (APost w F base g ps vs most t ts) := by
  have hba : Below w.heap.size w (w.alloc (.cells #[.int .i64 t.k, .string t.name, .int .i64 t.dims, .int .i64 t.elem, .int .i64 t.pos] 30)) := (Below.refl _ _).alloc (Nat.le_refl _) _
  have hS := h.below hba
  have hx := Blk.new w 30 #[.int .i64 t.k, .string t.name, .int .i64 t.dims, .int .i64 t.elem, .int .i64 t.pos]
  have hgw := h.lt g h.own
  unfold Ty.val
  by_cases hfull : (ps.length : Int) < most
  · have b1 : decide (most ≤ (ps.length : Int)) = false := decide_eq_false (by omega)
    have hps : ps.length < 1024 := by omega
    unfold APost addP addV mkR mkE
    rw [if_pos hfull, if_pos hfull, if_pos hfull, if_pos hfull]
    go_enter Try.func39, Try.ntmps39
    go_wp2_with fail
    generalize hW : w.alloc (.cells #[.int .i64 t.k, .string t.name, .int .i64 t.dims, .int .i64 t.elem, .int .i64 t.pos] 30) = W at *
    have hlw : w.heap.size < W.heap.size := by rw [← hW]; simp
    have hlw' : w.heap.size ≠ g := by omega
    have hS' := hS
    obtain ⟨A, c, B, d, hB0, _⟩ := hS'
    have c0 : W.cell? ⟨g, 0, none⟩ = some (.slice A ps.length c) := hB0.cell 0
    have c1 : W.cell? ⟨g, 1, none⟩ = some (.slice B vs.length d) := hB0.cell 1
    have c2 : W.cell? ⟨g, 2, none⟩ = some (.int .i64 most) := hB0.cell 2
    go_quiet (fail)
    obtain ⟨m1, rfl⟩ : ∃ m, m = nq := ⟨_, rfl⟩
    have hS3 := hS.below (below_drewN (Below.refl _ _) m1)
    have hba3 := below_drewN hba m1
    have hx3 : Blk (W.drewN m1) w.heap.size 30 #[.int .i64 t.k, .string t.name, .int .i64 t.dims, .int .i64 t.elem, .int .i64 t.pos] := hx
    have hlw3 : w.heap.size < (W.drewN m1).heap.size := by simpa using hlw
    have c13 : (W.drewN m1).cell? ⟨g, 1, none⟩ = some (.slice B vs.length d) := c1
    clear c0 c1 c2 hB0 hx hS
    generalize W.drewN m1 = W3 at *
    have hF0 : ¬ F w.heap.size := fun hf => by have := (h.lt _ hf).2; omega
    go_wp2_with fail
    go_loopw [28] (fun i wr => ∃ k : Nat, k ≤ ts.length ∧ i = .int .i64 k ∧ HS wr (Grow F W3 wr) base g ps (vs ++ (ts.take k).map firstV) most ∧ Turned F W3 wr) (fun i _ => ts.length - (intOf i).toNat)
    case atStart => exact ⟨0, by omega, rfl, by simpa using (hS3.grow (Below.refl _ _)).1, Turned.refl _ _⟩
    case round =>
      clear c13
      obtain ⟨k, hk, rfl, hS, hT⟩ := hrel
      have hsr := hT.size
      by_cases hlt : k < ts.length
      · have e1 : decide ((k : Int) < (ts.length : Int)) = true := decide_eq_true (by omega)
        have e2 : decide (k < ts.length) = true := decide_eq_true hlt
        obtain ⟨ti, hti⟩ : ∃ ti, ts[k]? = some ti := ⟨ts[k], List.getElem?_eq_getElem hlt⟩
        have hnext : (vs ++ (ts.take k).map firstV) ++ [firstV ti] = vs ++ (ts.take (k + 1)).map firstV := by
          rw [List.take_add_one, hti]
          simp
        have hvl : (vs ++ (ts.take k).map firstV).length ≤ 1049600 := by rw [List.length_append, List.length_map, List.length_take]; omega
        have hTw : Turned F w wr.drew := ((Turned.of_below hba3).trans hT (fun _ _ h => h)).drewN 1
        have hcl := Lib.hid (hfn wr.drew hTw k ti hti)
        generalize vs ++ (ts.take k).map firstV = vk at *
        replace hnext := Lib.hid hnext
        have hSd := hS.below ((Below.refl _ _).drew)
        have hSs := hS
        obtain ⟨A, c, B, d, hB, hO, hV, hbg, hFg, hFv, hFu, hFw⟩ := hSs
        have cd1 : wr.drew.cell? ⟨g, 1, none⟩ = some (.slice B vk.length d) := hB.cell 1
        have hcap := own_cap hV
        replace hV := Lib.hid hV
        replace hO := Lib.hid hO
        replace hfn := Lib.hid hfn
        replace hB := Lib.hid hB
        obtain ⟨i0, hi0, hz0, hz1, hz2⟩ := info_parts infoV
        have hone : ∀ u ∈ (firstV ti).cells, u.oneCell' = true := by
          intro u hu
          simp only [Vl.cells, List.mem_cons, List.not_mem_nil, or_false] at hu
          rcases hu with rfl | rfl | rfl <;> rfl
        have hgw3 := hFw g hFg
        replace hone := Lib.hid hone
        replace hi0 := Lib.hid hi0
        replace hz0 := Lib.hid hz0
        replace hz1 := Lib.hid hz1
        replace hz2 := Lib.hid hz2
        unfold Ty.val at hcl
        go_wp2_with fail
        go_region_with (first
          | (go_at_call 40
             refine hcl.out.mono ?_
             rintro _ w3 ⟨rfl, hb3⟩
             have c13 : w3.cell? ⟨g, 1, none⟩ = some (.slice B vk.length d) := (hb3.cell (p := ⟨g, 1, none⟩) hgw3.2).trans cd1)
          | (go_at_call 42
             refine (first_any ti _).mono ?_
             rintro _ w4 ⟨rfl, hb4⟩
             have c14 : w4.cell? ⟨g, 1, none⟩ = some (.slice B vk.length d) := (hb4.cell (p := ⟨g, 1, none⟩) (Nat.lt_of_lt_of_le hgw3.2 hb3.size)).trans c13
             have hbd : Below wr.heap.size wr (w4.alloc (.cells #[.int .i64 (firstK ti.k), .int .i64 0, .int .i64 0] 49)) := ba (((Below.refl _ _).drew).trans (bn hb3 hb4)) _
             have hBa := hB.out.below hbd hB.out.lt
             have hVa := own_below hV.out hbd
             have hgv := own_blk_ne hVa hBa (by decide)
             have ca1 : (w4.alloc (.cells #[.int .i64 (firstK ti.k), .int .i64 0, .int .i64 0] 49)).cell? ⟨g, 1, none⟩ = some (.slice B vk.length d) := hBa.cell 1
             obtain ⟨B5, d5, w5, hrun5, hown5, hg5, hat5⟩ := run_append_any (P := Try.prog) (w4.alloc (.cells #[.int .i64 (firstK ti.k), .int .i64 0, .int .i64 0] 49)) base 59 59 49 i0 _ 3 24 Try.underlying59 hi0.out hz0.out hz1.out hz2.out rfl (by omega) (.slice B vk.length d) vk.length (cellsV vk) hVa
                (w4.heap.size + 1) (some ⟨w4.heap.size, 0, none⟩) 1 1 (firstV ti).cells (readsV_one w4 (firstV ti)) hone.out (by unfold maxLen; omega) (by omega) (by have := hbd.size; omega)
             have hB5 := Blk.grown hBa hg5 hgv.symm
             have c15 : w5.cell? ⟨g, 1, none⟩ = some (.slice B vk.length d) := hB5.cell 1
             have f15 := hB5.frozen 1
             replace hBa := Lib.hid hBa
             replace hVa := Lib.hid hVa
             replace hown5 := Lib.hid hown5
             unfold firstV Vl.val))
        all_goals
          have hP := hs_value (vs2 := vk ++ [firstV ti]) (n2 := vk.length + 1) (by simp) hB.out hO.out hV.out hbg hFg hFv hFu hFw hbd (by rw [cellsV_append]; simpa [cellsV] using hown5.out) hg5 hat5
          rw [hnext.out] at hP
          have hN := HS.next hT hP.1 hP.2
          go_wp2_with fail
          exact ⟨⟨k + 1, by omega, by go_num, hN.1, hN.2⟩, by simp [intOf]; omega⟩
      · obtain rfl : k = ts.length := by omega
        have e1 : decide ((ts.length : Int) < (ts.length : Int)) = false := decide_eq_false (by omega)
        have e2 : decide (ts.length < ts.length) = false := decide_eq_false (by omega)
        rw [List.take_length] at hS
        have hvl : (vs ++ ts.map firstV).length = vs.length + ts.length := by rw [List.length_append, List.length_map]
        have hxw : Blk wr w.heap.size 30 #[.int .i64 t.k, .string t.name, .int .i64 t.dims, .int .i64 t.elem, .int .i64 t.pos] := hx3.turned hT hF0
        obtain ⟨A, c, B, d, hB, hO, hV, hbg, hFg, hFv, hFu, hFw⟩ := id hS
        have hgw3 := hFw g hFg
        have c0 : wr.drew.cell? ⟨g, 0, none⟩ = some (.slice A ps.length c) := hB.cell 0
        have f0 : wr.drew.frozen? ⟨g, 0, none⟩ = false := hB.frozen 0
        have a0 : wr.drew.cell? ⟨w.heap.size, 0, none⟩ = some (.int .i64 t.k) := hxw.cell 0
        have a1 : wr.drew.cell? ⟨w.heap.size, 1, none⟩ = some (.string t.name) := hxw.cell 1
        have a2 : wr.drew.cell? ⟨w.heap.size, 2, none⟩ = some (.int .i64 t.dims) := hxw.cell 2
        have a3 : wr.drew.cell? ⟨w.heap.size, 3, none⟩ = some (.int .i64 t.elem) := hxw.cell 3
        have a4 : wr.drew.cell? ⟨w.heap.size, 4, none⟩ = some (.int .i64 t.pos) := hxw.cell 4
        have hbd : Below wr.heap.size wr (wr.alloc (.cells #[.int .i64 t.k, .string t.name, .int .i64 t.dims, .int .i64 t.elem, .int .i64 t.pos, .int .i64 vs.length, .int .i64 ((vs.length : Int) + (ts.length : Int))] 106)).drew := (b0 _ _).drew
        have hBa := hB.below hbd hB.lt
        have hOa := own_below hO hbd
        have hgv := own_blk_ne hOa hBa (by decide)
        have cb0 : (wr.alloc (.cells #[.int .i64 t.k, .string t.name, .int .i64 t.dims, .int .i64 t.elem, .int .i64 t.pos, .int .i64 vs.length, .int .i64 ((vs.length : Int) + (ts.length : Int))] 106)).drew.cell? ⟨g, 0, none⟩ = some (.slice A ps.length c) := hBa.cell 0
        have hxb := Blk.below hxw hbd hxw.lt
        have b0 : (wr.alloc (.cells #[.int .i64 t.k, .string t.name, .int .i64 t.dims, .int .i64 t.elem, .int .i64 t.pos, .int .i64 vs.length, .int .i64 ((vs.length : Int) + (ts.length : Int))] 106)).drew.cell? ⟨w.heap.size, 0, none⟩ = some (.int .i64 t.k) := hxb.cell 0
        have b1 : (wr.alloc (.cells #[.int .i64 t.k, .string t.name, .int .i64 t.dims, .int .i64 t.elem, .int .i64 t.pos, .int .i64 vs.length, .int .i64 ((vs.length : Int) + (ts.length : Int))] 106)).drew.cell? ⟨w.heap.size, 1, none⟩ = some (.string t.name) := hxb.cell 1
        have b2 : (wr.alloc (.cells #[.int .i64 t.k, .string t.name, .int .i64 t.dims, .int .i64 t.elem, .int .i64 t.pos, .int .i64 vs.length, .int .i64 ((vs.length : Int) + (ts.length : Int))] 106)).drew.cell? ⟨w.heap.size, 2, none⟩ = some (.int .i64 t.dims) := hxb.cell 2
        have b3 : (wr.alloc (.cells #[.int .i64 t.k, .string t.name, .int .i64 t.dims, .int .i64 t.elem, .int .i64 t.pos, .int .i64 vs.length, .int .i64 ((vs.length : Int) + (ts.length : Int))] 106)).drew.cell? ⟨w.heap.size, 3, none⟩ = some (.int .i64 t.elem) := hxb.cell 3
        have b4 : (wr.alloc (.cells #[.int .i64 t.k, .string t.name, .int .i64 t.dims, .int .i64 t.elem, .int .i64 t.pos, .int .i64 vs.length, .int .i64 ((vs.length : Int) + (ts.length : Int))] 106)).drew.cell? ⟨w.heap.size, 4, none⟩ = some (.int .i64 t.pos) := hxb.cell 4
        have hR1 : Reads (wr.alloc (.cells #[.int .i64 t.k, .string t.name, .int .i64 t.dims, .int .i64 t.elem, .int .i64 t.pos, .int .i64 vs.length, .int .i64 ((vs.length : Int) + (ts.length : Int))] 106)).drew (wr.heap.size + 1) 7 (some ⟨wr.heap.size, 0, none⟩) 1 (Pc.cells ⟨t, vs.length, vs.length + ts.length⟩) := by
          have := Reads.new wr #[.int .i64 t.k, .string t.name, .int .i64 t.dims, .int .i64 t.elem, .int .i64 t.pos, .int .i64 vs.length, .int .i64 ((vs.length : Int) + (ts.length : Int))] 106 (0, 0) 1 7 rfl
          have h := Reads.drew this
          simpa [Pc.cells] using h
        have hone : ∀ u ∈ Pc.cells ⟨t, vs.length, vs.length + ts.length⟩, u.oneCell' = true := by
          intro u hu
          simp only [Pc.cells, List.mem_cons, List.not_mem_nil, or_false] at hu
          rcases hu with rfl | rfl | rfl | rfl | rfl | rfl | rfl <;> rfl
        obtain ⟨i0, hi0, hz0, hz1, hz2⟩ := info_parts infoP
        obtain ⟨A5, c5, w5, hrun5, hown5, hg5, hat5⟩ := run_append_any (P := Try.prog) (wr.alloc (.cells #[.int .i64 t.k, .string t.name, .int .i64 t.dims, .int .i64 t.elem, .int .i64 t.pos, .int .i64 vs.length, .int .i64 ((vs.length : Int) + (ts.length : Int))] 106)).drew base 78 78 106 i0 _ 7 64 Try.underlying78 hi0 hz0 hz1 hz2 rfl (by omega) (.slice A ps.length c) ps.length (cellsP ps) hOa
          (wr.heap.size + 1) (some ⟨wr.heap.size, 0, none⟩) 1 1 (Pc.cells ⟨t, vs.length, vs.length + ts.length⟩) hR1 hone (by unfold maxLen; omega) (by omega) (by have := hbd.size; omega)
        have hB5 := Blk.grown hBa hg5 hgv.symm
        have c05 : w5.cell? ⟨g, 0, none⟩ = some (.slice A ps.length c) := hB5.cell 0
        have f05 := hB5.frozen 0
        have c06 : (w5.setCell ⟨g, 0, none⟩ (.slice A5 (ps.length + 1) c5)).cell? ⟨g, 0, none⟩ = some (.slice A5 (ps.length + 1) c5) := (hB5.set_ 0 _).cell 0
        have hP := hs_place (ps2 := ps ++ [⟨t, vs.length, vs.length + ts.length⟩]) (n2 := ps.length + 1) (by simp) hB hO hV hbg hFg hFv hFu hFw hbd (by rw [cellsP_append]; simpa [cellsP] using hown5) hg5 hat5
        have hN := HS.next hT hP.1 hP.2
        have hfin := h.after hba3 hN.1 hN.2
        replace hfin := Lib.hid hfin
        replace hvl := Lib.hid hvl
        clear hN hP hown5 hone hR1 hOa hBa hS hfn
        go_wp2_with fail
        go_region
        all_goals
          go_wp2_with fail
          exact bodyPost_ret (v := .tuple #[.int .i64 ((ps.length : Int) + 1), .int .i64 0]) (by simp [results, Try.results39, go_sem]) rfl ⟨rfl, hfin.out⟩
  · have b1 : decide (most ≤ (ps.length : Int)) = true := decide_eq_true (by omega)
    unfold APost addP addV mkR mkE
    rw [if_neg hfull, if_neg hfull, if_neg hfull, if_neg hfull]
    go_enter Try.func39, Try.ntmps39
    go_wp2_with fail
    generalize hW : w.alloc (.cells #[.int .i64 t.k, .string t.name, .int .i64 t.dims, .int .i64 t.elem, .int .i64 t.pos] 30) = W at *
    obtain ⟨A, c, B, d, hB0, _⟩ := id hS
    have c0 : W.cell? ⟨g, 0, none⟩ = some (.slice A ps.length c) := hB0.cell 0
    have c2 : W.cell? ⟨g, 2, none⟩ = some (.int .i64 most) := hB0.cell 2
    go_quiet (fail)
    go_wp2_with fail
    exact bodyPost_ret (v := .tuple #[.int .i64 0, .int .i64 140]) (by simp [results, Try.results39, go_sem]) rfl ⟨rfl, h.grow (below_drewN hba _)⟩


set_option maxRecDepth 100000 in
set_option maxHeartbeats 8000000 in
theorem aadd_any (g q : Nat) (ps : List Pc) (vs : List Vl) (most : Int) (t : Ty) (ts : List Ty) (w : World) (F : Nat → Prop) (base : Nat) (h : HS w F base g ps vs most) (h1 : most ≤ 1024) (hv : vs.length ≤ 1048576) (ht : ts.length ≤ 1024)
    (hfn : ∀ W', Turned F w W' → ∀ (i : Nat) ti, ts[i]? = some ti → Calls Try.prog 41 #[.int .i64 i, .pointer (some ⟨q, 0, none⟩)] W' fun e w'' => e = .returned ti.val ∧ Below W'.heap.size W' w'') :
    Calls Try.prog 39 #[.pointer (some ⟨g, 0, none⟩), t.val, .int .i64 ts.length, .func (.func 41) #[] #[.pointer (some ⟨q, 0, none⟩)]] w (APost w F base g ps vs most t ts) := by
  have hba : Below w.heap.size w (w.alloc (.cells #[.int .i64 t.k, .string t.name, .int .i64 t.dims, .int .i64 t.elem, .int .i64 t.pos] 30)) := (Below.refl _ _).alloc (Nat.le_refl _) _
  have hS := h.below hba
  have hx := Blk.new w 30 #[.int .i64 t.k, .string t.name, .int .i64 t.dims, .int .i64 t.elem, .int .i64 t.pos]
  have hgw := h.lt g h.own
  unfold Ty.val
  by_cases hfull : (ps.length : Int) < most
  · have b1 : decide (most ≤ (ps.length : Int)) = false := decide_eq_false (by omega)
    have hps : ps.length < 1024 := by omega
    unfold APost addP addV mkR mkE
    rw [if_pos hfull, if_pos hfull, if_pos hfull, if_pos hfull]
    go_enter Try.func39, Try.ntmps39
    go_wp2_with fail
    generalize hW : w.alloc (.cells #[.int .i64 t.k, .string t.name, .int .i64 t.dims, .int .i64 t.elem, .int .i64 t.pos] 30) = W at *
    have hlw : w.heap.size < W.heap.size := by rw [← hW]; simp
    have hlw' : w.heap.size ≠ g := by omega
    have hS' := hS
    obtain ⟨A, c, B, d, hB0, _⟩ := hS'
    have c0 : W.cell? ⟨g, 0, none⟩ = some (.slice A ps.length c) := hB0.cell 0
    have c1 : W.cell? ⟨g, 1, none⟩ = some (.slice B vs.length d) := hB0.cell 1
    have c2 : W.cell? ⟨g, 2, none⟩ = some (.int .i64 most) := hB0.cell 2
    go_quiet (fail)
    obtain ⟨m1, rfl⟩ : ∃ m, m = nq := ⟨_, rfl⟩
    have hS3 := hS.below (below_drewN (Below.refl _ _) m1)
    have hba3 := below_drewN hba m1
    have hx3 : Blk (W.drewN m1) w.heap.size 30 #[.int .i64 t.k, .string t.name, .int .i64 t.dims, .int .i64 t.elem, .int .i64 t.pos] := hx
    have hlw3 : w.heap.size < (W.drewN m1).heap.size := by simpa using hlw
    have c13 : (W.drewN m1).cell? ⟨g, 1, none⟩ = some (.slice B vs.length d) := c1
    clear c0 c1 c2 hB0 hx hS
    generalize W.drewN m1 = W3 at *
    have hF0 : ¬ F w.heap.size := fun hf => by have := (h.lt _ hf).2; omega
    go_wp2_with fail
    go_loopw [28] (fun i wr => ∃ k : Nat, k ≤ ts.length ∧ i = .int .i64 k ∧ HS wr (Grow F W3 wr) base g ps (vs ++ (ts.take k).map firstV) most ∧ Turned F W3 wr) (fun i _ => ts.length - (intOf i).toNat)
    case atStart => exact ⟨0, by omega, rfl, by simpa using (hS3.grow (Below.refl _ _)).1, Turned.refl _ _⟩
    case round =>
      clear c13
      obtain ⟨k, hk, rfl, hS, hT⟩ := hrel
      have hsr := hT.size
      by_cases hlt : k < ts.length
      · have e1 : decide ((k : Int) < (ts.length : Int)) = true := decide_eq_true (by omega)
        have e2 : decide (k < ts.length) = true := decide_eq_true hlt
        obtain ⟨ti, hti⟩ : ∃ ti, ts[k]? = some ti := ⟨ts[k], List.getElem?_eq_getElem hlt⟩
        have hnext : (vs ++ (ts.take k).map firstV) ++ [firstV ti] = vs ++ (ts.take (k + 1)).map firstV := by
          rw [List.take_add_one, hti]
          simp
        have hvl : (vs ++ (ts.take k).map firstV).length ≤ 1049600 := by rw [List.length_append, List.length_map, List.length_take]; omega
        have hTw : Turned F w wr.drew := ((Turned.of_below hba3).trans hT (fun _ _ h => h)).drewN 1
        have hcl := Lib.hid (hfn wr.drew hTw k ti hti)
        generalize vs ++ (ts.take k).map firstV = vk at *
        replace hnext := Lib.hid hnext
        have hSd := hS.below ((Below.refl _ _).drew)
        have hSs := hS
        obtain ⟨A, c, B, d, hB, hO, hV, hbg, hFg, hFv, hFu, hFw⟩ := hSs
        have cd1 : wr.drew.cell? ⟨g, 1, none⟩ = some (.slice B vk.length d) := hB.cell 1
        have hcap := own_cap hV
        replace hV := Lib.hid hV
        replace hO := Lib.hid hO
        replace hfn := Lib.hid hfn
        replace hB := Lib.hid hB
        obtain ⟨i0, hi0, hz0, hz1, hz2⟩ := info_parts infoV
        have hone : ∀ u ∈ (firstV ti).cells, u.oneCell' = true := by
          intro u hu
          simp only [Vl.cells, List.mem_cons, List.not_mem_nil, or_false] at hu
          rcases hu with rfl | rfl | rfl <;> rfl
        have hgw3 := hFw g hFg
        replace hone := Lib.hid hone
        replace hi0 := Lib.hid hi0
        replace hz0 := Lib.hid hz0
        replace hz1 := Lib.hid hz1
        replace hz2 := Lib.hid hz2
        unfold Ty.val at hcl
        go_wp2_with fail
        go_region_with (first
          | (go_at_call 41
             refine hcl.out.mono ?_
             rintro _ w3 ⟨rfl, hb3⟩
             have c13 : w3.cell? ⟨g, 1, none⟩ = some (.slice B vk.length d) := (hb3.cell (p := ⟨g, 1, none⟩) hgw3.2).trans cd1)
          | (go_at_call 42
             refine (first_any ti _).mono ?_
             rintro _ w4 ⟨rfl, hb4⟩
             have c14 : w4.cell? ⟨g, 1, none⟩ = some (.slice B vk.length d) := (hb4.cell (p := ⟨g, 1, none⟩) (Nat.lt_of_lt_of_le hgw3.2 hb3.size)).trans c13
             have hbd : Below wr.heap.size wr (w4.alloc (.cells #[.int .i64 (firstK ti.k), .int .i64 0, .int .i64 0] 49)) := ba (((Below.refl _ _).drew).trans (bn hb3 hb4)) _
             have hBa := hB.out.below hbd hB.out.lt
             have hVa := own_below hV.out hbd
             have hgv := own_blk_ne hVa hBa (by decide)
             have ca1 : (w4.alloc (.cells #[.int .i64 (firstK ti.k), .int .i64 0, .int .i64 0] 49)).cell? ⟨g, 1, none⟩ = some (.slice B vk.length d) := hBa.cell 1
             obtain ⟨B5, d5, w5, hrun5, hown5, hg5, hat5⟩ := run_append_any (P := Try.prog) (w4.alloc (.cells #[.int .i64 (firstK ti.k), .int .i64 0, .int .i64 0] 49)) base 59 59 49 i0 _ 3 24 Try.underlying59 hi0.out hz0.out hz1.out hz2.out rfl (by omega) (.slice B vk.length d) vk.length (cellsV vk) hVa
                (w4.heap.size + 1) (some ⟨w4.heap.size, 0, none⟩) 1 1 (firstV ti).cells (readsV_one w4 (firstV ti)) hone.out (by unfold maxLen; omega) (by omega) (by have := hbd.size; omega)
             have hB5 := Blk.grown hBa hg5 hgv.symm
             have c15 : w5.cell? ⟨g, 1, none⟩ = some (.slice B vk.length d) := hB5.cell 1
             have f15 := hB5.frozen 1
             replace hBa := Lib.hid hBa
             replace hVa := Lib.hid hVa
             replace hown5 := Lib.hid hown5
             unfold firstV Vl.val))
        all_goals
          have hP := hs_value (vs2 := vk ++ [firstV ti]) (n2 := vk.length + 1) (by simp) hB.out hO.out hV.out hbg hFg hFv hFu hFw hbd (by rw [cellsV_append]; simpa [cellsV] using hown5.out) hg5 hat5
          rw [hnext.out] at hP
          have hN := HS.next hT hP.1 hP.2
          go_wp2_with fail
          exact ⟨⟨k + 1, by omega, by go_num, hN.1, hN.2⟩, by simp [intOf]; omega⟩
      · obtain rfl : k = ts.length := by omega
        have e1 : decide ((ts.length : Int) < (ts.length : Int)) = false := decide_eq_false (by omega)
        have e2 : decide (ts.length < ts.length) = false := decide_eq_false (by omega)
        rw [List.take_length] at hS
        have hvl : (vs ++ ts.map firstV).length = vs.length + ts.length := by rw [List.length_append, List.length_map]
        have hxw : Blk wr w.heap.size 30 #[.int .i64 t.k, .string t.name, .int .i64 t.dims, .int .i64 t.elem, .int .i64 t.pos] := hx3.turned hT hF0
        obtain ⟨A, c, B, d, hB, hO, hV, hbg, hFg, hFv, hFu, hFw⟩ := id hS
        have hgw3 := hFw g hFg
        have c0 : wr.drew.cell? ⟨g, 0, none⟩ = some (.slice A ps.length c) := hB.cell 0
        have f0 : wr.drew.frozen? ⟨g, 0, none⟩ = false := hB.frozen 0
        have a0 : wr.drew.cell? ⟨w.heap.size, 0, none⟩ = some (.int .i64 t.k) := hxw.cell 0
        have a1 : wr.drew.cell? ⟨w.heap.size, 1, none⟩ = some (.string t.name) := hxw.cell 1
        have a2 : wr.drew.cell? ⟨w.heap.size, 2, none⟩ = some (.int .i64 t.dims) := hxw.cell 2
        have a3 : wr.drew.cell? ⟨w.heap.size, 3, none⟩ = some (.int .i64 t.elem) := hxw.cell 3
        have a4 : wr.drew.cell? ⟨w.heap.size, 4, none⟩ = some (.int .i64 t.pos) := hxw.cell 4
        have hbd : Below wr.heap.size wr (wr.alloc (.cells #[.int .i64 t.k, .string t.name, .int .i64 t.dims, .int .i64 t.elem, .int .i64 t.pos, .int .i64 vs.length, .int .i64 ((vs.length : Int) + (ts.length : Int))] 106)).drew := (b0 _ _).drew
        have hBa := hB.below hbd hB.lt
        have hOa := own_below hO hbd
        have hgv := own_blk_ne hOa hBa (by decide)
        have cb0 : (wr.alloc (.cells #[.int .i64 t.k, .string t.name, .int .i64 t.dims, .int .i64 t.elem, .int .i64 t.pos, .int .i64 vs.length, .int .i64 ((vs.length : Int) + (ts.length : Int))] 106)).drew.cell? ⟨g, 0, none⟩ = some (.slice A ps.length c) := hBa.cell 0
        have hxb := Blk.below hxw hbd hxw.lt
        have b0 : (wr.alloc (.cells #[.int .i64 t.k, .string t.name, .int .i64 t.dims, .int .i64 t.elem, .int .i64 t.pos, .int .i64 vs.length, .int .i64 ((vs.length : Int) + (ts.length : Int))] 106)).drew.cell? ⟨w.heap.size, 0, none⟩ = some (.int .i64 t.k) := hxb.cell 0
        have b1 : (wr.alloc (.cells #[.int .i64 t.k, .string t.name, .int .i64 t.dims, .int .i64 t.elem, .int .i64 t.pos, .int .i64 vs.length, .int .i64 ((vs.length : Int) + (ts.length : Int))] 106)).drew.cell? ⟨w.heap.size, 1, none⟩ = some (.string t.name) := hxb.cell 1
        have b2 : (wr.alloc (.cells #[.int .i64 t.k, .string t.name, .int .i64 t.dims, .int .i64 t.elem, .int .i64 t.pos, .int .i64 vs.length, .int .i64 ((vs.length : Int) + (ts.length : Int))] 106)).drew.cell? ⟨w.heap.size, 2, none⟩ = some (.int .i64 t.dims) := hxb.cell 2
        have b3 : (wr.alloc (.cells #[.int .i64 t.k, .string t.name, .int .i64 t.dims, .int .i64 t.elem, .int .i64 t.pos, .int .i64 vs.length, .int .i64 ((vs.length : Int) + (ts.length : Int))] 106)).drew.cell? ⟨w.heap.size, 3, none⟩ = some (.int .i64 t.elem) := hxb.cell 3
        have b4 : (wr.alloc (.cells #[.int .i64 t.k, .string t.name, .int .i64 t.dims, .int .i64 t.elem, .int .i64 t.pos, .int .i64 vs.length, .int .i64 ((vs.length : Int) + (ts.length : Int))] 106)).drew.cell? ⟨w.heap.size, 4, none⟩ = some (.int .i64 t.pos) := hxb.cell 4
        have hR1 : Reads (wr.alloc (.cells #[.int .i64 t.k, .string t.name, .int .i64 t.dims, .int .i64 t.elem, .int .i64 t.pos, .int .i64 vs.length, .int .i64 ((vs.length : Int) + (ts.length : Int))] 106)).drew (wr.heap.size + 1) 7 (some ⟨wr.heap.size, 0, none⟩) 1 (Pc.cells ⟨t, vs.length, vs.length + ts.length⟩) := by
          have := Reads.new wr #[.int .i64 t.k, .string t.name, .int .i64 t.dims, .int .i64 t.elem, .int .i64 t.pos, .int .i64 vs.length, .int .i64 ((vs.length : Int) + (ts.length : Int))] 106 (0, 0) 1 7 rfl
          have h := Reads.drew this
          simpa [Pc.cells] using h
        have hone : ∀ u ∈ Pc.cells ⟨t, vs.length, vs.length + ts.length⟩, u.oneCell' = true := by
          intro u hu
          simp only [Pc.cells, List.mem_cons, List.not_mem_nil, or_false] at hu
          rcases hu with rfl | rfl | rfl | rfl | rfl | rfl | rfl <;> rfl
        obtain ⟨i0, hi0, hz0, hz1, hz2⟩ := info_parts infoP
        obtain ⟨A5, c5, w5, hrun5, hown5, hg5, hat5⟩ := run_append_any (P := Try.prog) (wr.alloc (.cells #[.int .i64 t.k, .string t.name, .int .i64 t.dims, .int .i64 t.elem, .int .i64 t.pos, .int .i64 vs.length, .int .i64 ((vs.length : Int) + (ts.length : Int))] 106)).drew base 78 78 106 i0 _ 7 64 Try.underlying78 hi0 hz0 hz1 hz2 rfl (by omega) (.slice A ps.length c) ps.length (cellsP ps) hOa
          (wr.heap.size + 1) (some ⟨wr.heap.size, 0, none⟩) 1 1 (Pc.cells ⟨t, vs.length, vs.length + ts.length⟩) hR1 hone (by unfold maxLen; omega) (by omega) (by have := hbd.size; omega)
        have hB5 := Blk.grown hBa hg5 hgv.symm
        have c05 : w5.cell? ⟨g, 0, none⟩ = some (.slice A ps.length c) := hB5.cell 0
        have f05 := hB5.frozen 0
        have c06 : (w5.setCell ⟨g, 0, none⟩ (.slice A5 (ps.length + 1) c5)).cell? ⟨g, 0, none⟩ = some (.slice A5 (ps.length + 1) c5) := (hB5.set_ 0 _).cell 0
        have hP := hs_place (ps2 := ps ++ [⟨t, vs.length, vs.length + ts.length⟩]) (n2 := ps.length + 1) (by simp) hB hO hV hbg hFg hFv hFu hFw hbd (by rw [cellsP_append]; simpa [cellsP] using hown5) hg5 hat5
        have hN := HS.next hT hP.1 hP.2
        have hfin := h.after hba3 hN.1 hN.2
        replace hfin := Lib.hid hfin
        replace hvl := Lib.hid hvl
        clear hN hP hown5 hone hR1 hOa hBa hS hfn
        go_wp2_with fail
        go_region
        all_goals
          go_wp2_with fail
          exact bodyPost_ret (v := .tuple #[.int .i64 ((ps.length : Int) + 1), .int .i64 0]) (by simp [results, Try.results39, go_sem]) rfl ⟨rfl, hfin.out⟩
  · have b1 : decide (most ≤ (ps.length : Int)) = true := decide_eq_true (by omega)
    unfold APost addP addV mkR mkE
    rw [if_neg hfull, if_neg hfull, if_neg hfull, if_neg hfull]
    go_enter Try.func39, Try.ntmps39
    go_wp2_with fail
    generalize hW : w.alloc (.cells #[.int .i64 t.k, .string t.name, .int .i64 t.dims, .int .i64 t.elem, .int .i64 t.pos] 30) = W at *
    obtain ⟨A, c, B, d, hB0, _⟩ := id hS
    have c0 : W.cell? ⟨g, 0, none⟩ = some (.slice A ps.length c) := hB0.cell 0
    have c2 : W.cell? ⟨g, 2, none⟩ = some (.int .i64 most) := hB0.cell 2
    go_quiet (fail)
    go_wp2_with fail
    exact bodyPost_ret (v := .tuple #[.int .i64 0, .int .i64 140]) (by simp [results, Try.results39, go_sem]) rfl ⟨rfl, h.grow (below_drewN hba _)⟩

/-- What Make and Array come to. -/
def mkP (ps : List Pc) (vs : List Vl) (most : Int) (t : Ty) (ts : List Ty) : List Pc := if 1024 < ts.length then ps else addP ps vs most t ts
def mkV (ps : List Pc) (vs : List Vl) (most : Int) (ts : List Ty) : List Vl := if 1024 < ts.length then vs else addV ps vs most ts
def MPost (w : World) (F : Nat → Prop) (base g : Nat) (ps : List Pc) (vs : List Vl) (most : Int) (t : Ty) (ts : List Ty) (e : Ending) (w' : World) : Prop :=
  e = .returned (.tuple #[.int .i64 (if 1024 < ts.length then 0 else mkR ps most), .int .i64 (if 1024 < ts.length then 1 else mkE ps most)]) ∧ HS w' (Grow F w w') base g (mkP ps vs most t ts) (mkV ps vs most ts) most ∧ Turned F w w'
set_option maxRecDepth 100000 in
set_option maxHeartbeats 8000000 in
theorem hmake_any (g : Nat) (ps : List Pc) (vs : List Vl) (most : Int) (t : Ty) (ts : List Ty) (A2 : Option Addr) (c2 : Nat) (w : World) (F : Nat → Prop) (base : Nat) (h : HS w F base g ps vs most) (h1 : most ≤ 1024) (hv : vs.length ≤ 1048576) (hR : ReadsT w base A2 ts) (hm : ts.length ≤ maxLen) :
    Calls Try.prog 13 #[.pointer (some ⟨g, 0, none⟩), t.val, .slice A2 ts.length c2] w (MPost w F base g ps vs most t ts) := by
  unfold maxLen at hm
  have hmf : ∀ (fn : Fn) (first cap : Array Value) (w : World), (Instr.makeFunc fn first cap).run Try.prog w = .ok (.func fn first cap) w := fun _ _ _ _ => rfl
  have hb1 : Below w.heap.size w (w.alloc (.cells #[.int .i64 t.k, .string t.name, .int .i64 t.dims, .int .i64 t.elem, .int .i64 t.pos] 30)) := b0 _ _
  have hb2 : Below w.heap.size w ((w.alloc (.cells #[.int .i64 t.k, .string t.name, .int .i64 t.dims, .int .i64 t.elem, .int .i64 t.pos] 30)).alloc (.cells #[.slice A2 ts.length c2] 50)) := ba hb1 _
  have hg := h.lt g h.own
  have hS := h.below hb2
  have hq : Blk ((w.alloc (.cells #[.int .i64 t.k, .string t.name, .int .i64 t.dims, .int .i64 t.elem, .int .i64 t.pos] 30)).alloc (.cells #[.slice A2 ts.length c2] 50)) (w.heap.size + 1) 50 #[.slice A2 ts.length c2] := by
    have := Blk.new (w.alloc (.cells #[.int .i64 t.k, .string t.name, .int .i64 t.dims, .int .i64 t.elem, .int .i64 t.pos] 30)) 50 #[.slice A2 ts.length c2]
    simpa using this
  have hx : Blk ((w.alloc (.cells #[.int .i64 t.k, .string t.name, .int .i64 t.dims, .int .i64 t.elem, .int .i64 t.pos] 30)).alloc (.cells #[.slice A2 ts.length c2] 50)) w.heap.size 30 #[.int .i64 t.k, .string t.name, .int .i64 t.dims, .int .i64 t.elem, .int .i64 t.pos] := (Blk.new w 30 #[.int .i64 t.k, .string t.name, .int .i64 t.dims, .int .i64 t.elem, .int .i64 t.pos]).alloc _
  have hsz : ((w.alloc (.cells #[.int .i64 t.k, .string t.name, .int .i64 t.dims, .int .i64 t.elem, .int .i64 t.pos] 30)).alloc (.cells #[.slice A2 ts.length c2] 50)).heap.size = w.heap.size + 2 := by simp
  have q0 := hq.cell 0
  have hmd := hS.made
  have x0 := hx.cell 0
  have x1 := hx.cell 1
  have x2 := hx.cell 2
  have x3 := hx.cell 3
  have x4 := hx.cell 4
  have hR2 : ReadsT ((w.alloc (.cells #[.int .i64 t.k, .string t.name, .int .i64 t.dims, .int .i64 t.elem, .int .i64 t.pos] 30)).alloc (.cells #[.slice A2 ts.length c2] 50)) base A2 ts := Reads.below hR (hb2.mono (by omega))
  generalize hW2 : (w.alloc (.cells #[.int .i64 t.k, .string t.name, .int .i64 t.dims, .int .i64 t.elem, .int .i64 t.pos] 30)).alloc (.cells #[.slice A2 ts.length c2] 50) = W2 at *
  have hnone := Lib.hid (hnone_any g W2 hmd)
  replace x0 : W2.cell? ⟨w.heap.size, 0, none⟩ = some (.int .i64 t.k) := x0
  replace x1 : W2.cell? ⟨w.heap.size, 1, none⟩ = some (.string t.name) := x1
  replace x2 : W2.cell? ⟨w.heap.size, 2, none⟩ = some (.int .i64 t.dims) := x2
  replace x3 : W2.cell? ⟨w.heap.size, 3, none⟩ = some (.int .i64 t.elem) := x3
  replace x4 : W2.cell? ⟨w.heap.size, 4, none⟩ = some (.int .i64 t.pos) := x4
  replace q0 : W2.cell? ⟨w.heap.size + 1, 0, none⟩ = some (.slice A2 ts.length c2) := q0
  unfold MPost mkP mkV
  by_cases hbig : 1024 < ts.length
  · have e1 : decide (1024 < (ts.length : Int)) = true := decide_eq_true (by omega)
    have e2 : decide (1024 < ts.length) = true := decide_eq_true hbig
    rw [if_pos hbig, if_pos hbig, if_pos hbig, if_pos hbig]
    unfold Ty.val
    go_enter Try.func13, Try.ntmps13
    go_wp2_with fail
    refine hnone.out.mono ?_
    rintro _ _ ⟨rfl, rfl⟩
    go_wp2_with fail
    exact bodyPost_ret (v := .tuple #[.int .i64 0, .int .i64 1]) (by simp [results, Try.results13, go_sem]) rfl ⟨rfl, h.grow hb2⟩
  · have e1 : decide (1024 < (ts.length : Int)) = false := decide_eq_false (by omega)
    have e2 : decide (1024 < ts.length) = false := decide_eq_false hbig
    rw [if_neg hbig, if_neg hbig, if_neg hbig, if_neg hbig]
    have hadd := madd_any g (w.heap.size + 1) ps vs most t ts W2 F base hS h1 hv (by omega) fun W' hT i ti hi =>
      clos_make (w.heap.size + 1) A2 ts c2 base i ti W' ((hq.turned hT (fun hf => by have := (h.lt _ hf).2; omega)).cell 0) (Reads.below hR2 (hT.below (by omega) (fun k hk => (h.lt k hk).1))) hi
    unfold APost at hadd
    replace hadd := Lib.hid hadd
    unfold Ty.val at hadd ⊢
    generalize mkR ps most = rr at *
    generalize mkE ps most = ee at *
    go_enter Try.func13, Try.ntmps13
    go_wp2_with fail
    refine hnone.out.mono ?_
    rintro _ _ ⟨rfl, rfl⟩
    go_wp2_with fail
    refine hadd.out.mono ?_
    rintro _ w3 ⟨rfl, hS3, hT3⟩
    have hfin := Lib.hid (h.after hb2 hS3 hT3)
    go_wp2_with fail
    exact bodyPost_ret (v := .tuple #[.int .i64 rr, .int .i64 ee]) (by simp [results, Try.results13, go_sem]) rfl ⟨rfl, hfin.out⟩
def arR (ps : List Pc) (most : Int) (n : Int) : Int := if n < 0 then 0 else if 1024 < n then 0 else mkR ps most
def arE (ps : List Pc) (most : Int) (n : Int) : Int := if n < 0 then 1 else if 1024 < n then 140 else mkE ps most
def arP (ps : List Pc) (vs : List Vl) (most : Int) (t f : Ty) (n : Int) : List Pc := if n < 0 ∨ 1024 < n then ps else addP ps vs most t (List.replicate n.toNat f)
def arV (ps : List Pc) (vs : List Vl) (most : Int) (f : Ty) (n : Int) : List Vl := if n < 0 ∨ 1024 < n then vs else addV ps vs most (List.replicate n.toNat f)
set_option maxRecDepth 100000 in
set_option maxHeartbeats 8000000 in
theorem harray_any (g : Nat) (ps : List Pc) (vs : List Vl) (most : Int) (t f : Ty) (n : Int) (w : World) (F : Nat → Prop) (base : Nat) (h : HS w F base g ps vs most) (h1 : most ≤ 1024) (hv : vs.length ≤ 1048576) :
    Calls Try.prog 14 #[.pointer (some ⟨g, 0, none⟩), t.val, f.val, .int .i64 n] w fun e w' => e = .returned (.tuple #[.int .i64 (arR ps most n), .int .i64 (arE ps most n)]) ∧ HS w' (Grow F w w') base g (arP ps vs most t f n) (arV ps vs most f n) most ∧ Turned F w w' := by
  have hmf : ∀ (fn : Fn) (first cap : Array Value) (w : World), (Instr.makeFunc fn first cap).run Try.prog w = .ok (.func fn first cap) w := fun _ _ _ _ => rfl
  have hb1 : Below w.heap.size w (w.alloc (.cells #[.int .i64 t.k, .string t.name, .int .i64 t.dims, .int .i64 t.elem, .int .i64 t.pos] 30)) := b0 _ _
  have hb2 : Below w.heap.size w ((w.alloc (.cells #[.int .i64 t.k, .string t.name, .int .i64 t.dims, .int .i64 t.elem, .int .i64 t.pos] 30)).alloc (.cells #[.int .i64 f.k, .string f.name, .int .i64 f.dims, .int .i64 f.elem, .int .i64 f.pos] 30)) := ba hb1 _
  have hg := h.lt g h.own
  have hS := h.below hb2
  have hq : Blk ((w.alloc (.cells #[.int .i64 t.k, .string t.name, .int .i64 t.dims, .int .i64 t.elem, .int .i64 t.pos] 30)).alloc (.cells #[.int .i64 f.k, .string f.name, .int .i64 f.dims, .int .i64 f.elem, .int .i64 f.pos] 30)) (w.heap.size + 1) 30 #[.int .i64 f.k, .string f.name, .int .i64 f.dims, .int .i64 f.elem, .int .i64 f.pos] := by
    have := Blk.new (w.alloc (.cells #[.int .i64 t.k, .string t.name, .int .i64 t.dims, .int .i64 t.elem, .int .i64 t.pos] 30)) 30 #[.int .i64 f.k, .string f.name, .int .i64 f.dims, .int .i64 f.elem, .int .i64 f.pos]
    simpa using this
  have hx : Blk ((w.alloc (.cells #[.int .i64 t.k, .string t.name, .int .i64 t.dims, .int .i64 t.elem, .int .i64 t.pos] 30)).alloc (.cells #[.int .i64 f.k, .string f.name, .int .i64 f.dims, .int .i64 f.elem, .int .i64 f.pos] 30)) w.heap.size 30 #[.int .i64 t.k, .string t.name, .int .i64 t.dims, .int .i64 t.elem, .int .i64 t.pos] := (Blk.new w 30 #[.int .i64 t.k, .string t.name, .int .i64 t.dims, .int .i64 t.elem, .int .i64 t.pos]).alloc _
  have hsz : ((w.alloc (.cells #[.int .i64 t.k, .string t.name, .int .i64 t.dims, .int .i64 t.elem, .int .i64 t.pos] 30)).alloc (.cells #[.int .i64 f.k, .string f.name, .int .i64 f.dims, .int .i64 f.elem, .int .i64 f.pos] 30)).heap.size = w.heap.size + 2 := by simp
  have hmd := hS.made
  have x0 := hx.cell 0
  have x1 := hx.cell 1
  have x2 := hx.cell 2
  have x3 := hx.cell 3
  have x4 := hx.cell 4
  generalize hW2 : (w.alloc (.cells #[.int .i64 t.k, .string t.name, .int .i64 t.dims, .int .i64 t.elem, .int .i64 t.pos] 30)).alloc (.cells #[.int .i64 f.k, .string f.name, .int .i64 f.dims, .int .i64 f.elem, .int .i64 f.pos] 30) = W2 at *
  have hnone := Lib.hid (hnone_any g W2 hmd)
  replace x0 : W2.cell? ⟨w.heap.size, 0, none⟩ = some (.int .i64 t.k) := x0
  replace x1 : W2.cell? ⟨w.heap.size, 1, none⟩ = some (.string t.name) := x1
  replace x2 : W2.cell? ⟨w.heap.size, 2, none⟩ = some (.int .i64 t.dims) := x2
  replace x3 : W2.cell? ⟨w.heap.size, 3, none⟩ = some (.int .i64 t.elem) := x3
  replace x4 : W2.cell? ⟨w.heap.size, 4, none⟩ = some (.int .i64 t.pos) := x4
  unfold arP arV arR arE
  by_cases hneg : n < 0
  · have e1 : decide (n < 0) = true := decide_eq_true hneg
    rw [if_pos hneg, if_pos hneg, if_pos (.inl hneg), if_pos (.inl hneg)]
    unfold Ty.val
    go_enter Try.func14, Try.ntmps14
    go_wp2_with fail
    refine hnone.out.mono ?_
    rintro _ _ ⟨rfl, rfl⟩
    go_wp2_with fail
    exact bodyPost_ret (v := .tuple #[.int .i64 0, .int .i64 1]) (by simp [results, Try.results14, go_sem]) rfl ⟨rfl, h.grow hb2⟩
  · have e1 : decide (n < 0) = false := decide_eq_false hneg
    by_cases hbig : 1024 < n
    · have e2 : decide (1024 < n) = true := decide_eq_true hbig
      rw [if_neg hneg, if_neg hneg, if_pos hbig, if_pos hbig, if_pos (.inr hbig), if_pos (.inr hbig)]
      unfold Ty.val
      go_enter Try.func14, Try.ntmps14
      go_wp2_with fail
      refine hnone.out.mono ?_
      rintro _ _ ⟨rfl, rfl⟩
      go_wp2_with fail
      exact bodyPost_ret (v := .tuple #[.int .i64 0, .int .i64 140]) (by simp [results, Try.results14, go_sem]) rfl ⟨rfl, h.grow hb2⟩
    · have e2 : decide (1024 < n) = false := decide_eq_false hbig
      have hor : ¬ (n < 0 ∨ 1024 < n) := by omega
      rw [if_neg hneg, if_neg hneg, if_neg hbig, if_neg hbig, if_neg hor, if_neg hor]
      have hln : (List.replicate n.toNat f).length = n.toNat := List.length_replicate
      have hadd := aadd_any g (w.heap.size + 1) ps vs most t (List.replicate n.toNat f) W2 F base hS h1 hv (by rw [hln]; omega) fun W' hT i ti hi => by
        have hB' := hq.turned hT (fun hf => by have := (h.lt _ hf).2; omega)
        obtain rfl : ti = f := by
          have := List.mem_of_getElem? hi
          exact List.eq_of_mem_replicate this
        exact clos_array (w.heap.size + 1) ti i W' ⟨hB'.cell 0, by simpa using hB'.cell 1, by simpa using hB'.cell 2, by simpa using hB'.cell 3, by simpa using hB'.cell 4⟩
      rw [hln] at hadd
      have hnn : ((n.toNat : Nat) : Int) = n := by omega
      rw [hnn] at hadd
      unfold APost at hadd
      replace hadd := Lib.hid hadd
      unfold Ty.val at hadd ⊢
      generalize mkR ps most = rr at *
      generalize mkE ps most = ee at *
      clear hnn hln
      go_enter Try.func14, Try.ntmps14
      go_wp2_with fail
      refine hnone.out.mono ?_
      rintro _ _ ⟨rfl, rfl⟩
      go_wp2_with fail
      refine hadd.out.mono ?_
      rintro _ w3 ⟨rfl, hS3, hT3⟩
      have hfin := Lib.hid (h.after hb2 hS3 hT3)
      go_wp2_with fail
      exact bodyPost_ret (v := .tuple #[.int .i64 rr, .int .i64 ee]) (by simp [results, Try.results14, go_sem]) rfl ⟨rfl, hfin.out⟩
end Go.Proofs.Ytpfgdgelnehjpaa
