/- The reference's heap: its state, New, Make, Array. -/
import Derived.Test.YtpfgdgelnehjpaaHeapS
namespace Go.Proofs.Ytpfgdgelnehjpaa
open Go.RowKit
set_option linter.unusedVariables false
set_option linter.unusedSimpArgs false
attribute [-go_sem] Builtin.append_

/-- The reference's heap: its objects. Its blocks are F's, none below base. -/
def RH (w : World) (F : Nat → Prop) (base g : Nat) (ol : List (Ty × List Vl)) (most : Int) : Prop :=
  ∃ A c os, Blk w g 68 #[.slice A os.length c, .int .i64 most] ∧ OL w base (.slice A os.length c) os ∧ os.map Ob.it = ol ∧ base ≤ g ∧ F g ∧
    (∀ k, (Value.slice A os.length c).ownBlock = some k → F k) ∧ (∀ o ∈ os, ∀ k, o.sl.ownBlock = some k → F k) ∧ (∀ k, F k → base ≤ k ∧ k < w.heap.size)
section
variable {w w' : World} {F G : Nat → Prop} {base g : Nat} {ol ol' : List (Ty × List Vl)} {most : Int}
theorem RH.turned (h : RH w F base g ol most) (k : Turned G w w') (hd : ∀ i, F i → ¬ G i) : RH w' F base g ol most := by
  obtain ⟨A, c, os, hB, hL, hm, hbg, hFg, hFv, hFu, hFw⟩ := h
  exact ⟨A, c, os, hB.turned k (hd g hFg), ⟨own_turned hL.1 k (fun i hi => hd i (hFv i hi)), fun o ho => own_turned (hL.2.1 o ho) k (fun i hi => hd i (hFu o ho i hi)), hL.2.2⟩, hm, hbg, hFg, hFv, hFu, fun i hi => ⟨(hFw i hi).1, by have := (hFw i hi).2; have := k.size; omega⟩⟩
theorem RH.below (h : RH w F base g ol most) (k : Below w.heap.size w w') : RH w' F base g ol most :=
  h.turned (Turned.of_below (F := fun _ => False) k) fun _ _ h => h
theorem RH.lt (h : RH w F base g ol most) (k : Nat) (hk : F k) : base ≤ k ∧ k < w.heap.size := by
  obtain ⟨A, c, os, hB, hL, hm, hbg, hFg, hFv, hFu, hFw⟩ := h
  exact hFw k hk
theorem RH.own (h : RH w F base g ol most) : F g := by
  obtain ⟨A, c, os, hB, hL, hm, hbg, hFg, hFv, hFu, hFw⟩ := h
  exact hFg
theorem RH.mono (h : RH w F base g ol most) (hFG : ∀ k, F k → G k) (hG : ∀ k, G k → base ≤ k ∧ k < w.heap.size) : RH w G base g ol most := by
  obtain ⟨A, c, os, hB, hL, hm, hbg, hFg, hFv, hFu, hFw⟩ := h
  exact ⟨A, c, os, hB, hL, hm, hbg, hFG g hFg, fun k hk => hFG k (hFv k hk), fun o ho k hk => hFG k (hFu o ho k hk), hG⟩
theorem RH.grow (h : RH w F base g ol most) (k : Below w.heap.size w w') : RH w' (Grow F w w') base g ol most ∧ Turned F w w' := by
  refine ⟨(h.below k).mono (fun _ h => .inl h) fun i hi => ?_, Turned.of_below k⟩
  rcases hi with hi | hi
  · exact (h.below k).lt i hi
  · have := h.lt g h.own; omega
/-- Two steps. -/
theorem RH.next {w1 : World} (hT : Turned F w w1) (h : RH w' (Grow (Grow F w w1) w1 w') base g ol most) (k : Turned (Grow F w w1) w1 w') : RH w' (Grow F w w') base g ol most ∧ Turned F w w' := by
  have s0 := hT.size
  have s1 := k.size
  refine ⟨h.mono (fun i hi => ?_) fun i hi => ?_, hT.next k⟩
  · rcases hi with (hi | hi) | hi
    · exact .inl hi
    · exact .inr ⟨hi.1, by omega⟩
    · exact .inr ⟨by omega, hi.2⟩
  · rcases hi with hi | hi
    · exact h.lt i (.inl (.inl hi))
    · by_cases e : i < w1.heap.size
      · exact h.lt i (.inl (.inr ⟨hi.1, e⟩))
      · exact h.lt i (.inr ⟨by omega, hi.2⟩)
/-- Nothing of the heap's, then a step of its own. -/
theorem RH.after {w1 : World} (h0 : RH w F base g ol' most) (hb : Below w.heap.size w w1) (h : RH w' (Grow F w1 w') base g ol most) (k : Turned F w1 w') : RH w' (Grow F w w') base g ol most ∧ Turned F w w' := by
  have s0 := hb.size
  have s1 := k.size
  have hg0 := h0.lt g h0.own
  refine ⟨h.mono (fun i hi => ?_) fun i hi => ?_, (Turned.of_below (F := F) hb).trans k (fun i hi h => h)⟩
  · rcases hi with hi | hi
    · exact .inl hi
    · exact .inr ⟨by omega, hi.2⟩
  · rcases hi with hi | hi
    · exact h.lt i (.inl hi)
    · exact ⟨by omega, hi.2⟩
end
/-- What becomes of it when its row of objects has grown and is stored. -/
theorem rh_push {F : Nat → Prop} {w wa w2 : World} {base g c c2 n2 : Nat} {most : Int} {A A2 : Option Addr} {os : List Ob} {o : Ob} (hn2 : os.length + 1 = n2)
    (hB : Blk w g 68 #[.slice A os.length c, .int .i64 most]) (hL : OL w base (.slice A os.length c) os) (hbg : base ≤ g) (hFg : F g) (hFv : ∀ k, (Value.slice A os.length c).ownBlock = some k → F k) (hFu : ∀ o ∈ os, ∀ k, o.sl.ownBlock = some k → F k) (hFw : ∀ k, F k → base ≤ k ∧ k < w.heap.size)
    (ha : Below w.heap.size w wa) (hown2 : w2.ownsRow base 61 6 (.slice A2 n2 c2) n2 (cellsO os ++ o.cells)) (hg2 : wa.grownBy w2 (Value.slice A os.length c).ownBlock)
    (hat : (Value.slice A2 n2 c2).ownBlock = (Value.slice A os.length c).ownBlock ∨ (Value.slice A2 n2 c2).ownBlock = some wa.heap.size)
    (ho : wa.ownsRow w.heap.size 49 3 o.sl o.d.length (cellsV o.d)) :
    RH (w2.setCell ⟨g, 0, none⟩ (.slice A2 n2 c2)) (Grow F w (w2.setCell ⟨g, 0, none⟩ (.slice A2 n2 c2))) base g (os.map Ob.it ++ [o.it]) most ∧ Turned F w (w2.setCell ⟨g, 0, none⟩ (.slice A2 n2 c2)) := by
  subst hn2
  have hgv := own_blk_ne hL.1 hB (by decide)
  have hB2 : Blk w2 g 68 #[.slice A os.length c, .int .i64 most] := Blk.grown (hB.below ha hB.lt) hg2 hgv.symm
  have hLa := hL.below ha
  have hra : w.heap.size ≤ wa.heap.size := ha.size
  have hT2 : Turned F w w2 := (Turned.of_below ha).trans (Turned.of_grown (F := fun k => (Value.slice A os.length c).ownBlock = some k) hg2 (fun k h => h)) (fun i hi hv => hFv i hv)
  have hs2 := hT2.size
  have hsz : (w2.setCell ⟨g, 0, none⟩ (.slice A2 (os.length + 1) c2)).heap.size = w2.heap.size := by simp [World.setCell]
  have hT3 : Turned F w (w2.setCell ⟨g, 0, none⟩ (.slice A2 (os.length + 1) c2)) := hT2.setCell (.inl hFg) _
  have ha2 : wa.heap.size ≤ w2.heap.size := hg2.size
  have hgw := hFw g hFg
  have hl : (os ++ [o]).length = os.length + 1 := by rw [List.length_append]; rfl
  have ho2 := own_other ho hLa.1 (by decide) hg2
  refine ⟨⟨A2, c2, os ++ [o], by rw [hl]; exact hB2.set_ 0 _, ⟨?_, fun a ha' => ?_, ?_⟩, by rw [List.map_append]; rfl, hbg, .inl hFg, fun k hk => ?_, fun a ha' k hk => ?_, fun k hk => ?_⟩, hT3⟩
  · rw [hl, cellsO_append]
    refine own_cell ?_ hB2 (by decide) _
    simpa [cellsO] using hown2
  · rcases List.mem_append.1 ha' with ha' | ha'
    · exact own_cell (own_other (hLa.2.1 a ha') hLa.1 (by decide) hg2) hB2 (by decide) _
    · rw [List.mem_singleton.1 ha']
      exact own_cell (own_base ho2 (by omega)) hB2 (by decide) _
  · rw [List.pairwise_append]
    refine ⟨hL.2.2, List.pairwise_singleton _ _, fun a ha' b hb => ?_⟩
    rw [List.mem_singleton.1 hb]
    cases hs : a.sl.ownBlock with
    | none => exact .inl rfl
    | some ga =>
      refine .inr fun e => ?_
      have h1 := ((hL.2.1 a ha').lt ga hs).2
      have h2 := (ho.lt ga e.symm).1
      omega
  · rw [hl] at hk
    rcases hat with h | h
    · exact .inl (hFv k (h ▸ hk))
    · have hk' : k = wa.heap.size := by rw [h] at hk; injection hk with hk; exact hk.symm
      have := hown2.lt k hk
      exact .inr ⟨by omega, by omega⟩
  · rcases List.mem_append.1 ha' with ha' | ha'
    · exact .inl (hFu a ha' k hk)
    · rw [List.mem_singleton.1 ha'] at hk
      have := ho.lt k hk
      exact .inr ⟨by omega, by omega⟩
  · rcases hk with h | h
    · have := hFw k h; omega
    · exact ⟨by omega, by omega⟩

set_option maxRecDepth 100000 in
set_option maxHeartbeats 8000000 in
theorem rnew_any (most : Int) (w : World) (h0 : 0 ≤ most) (h1 : most ≤ 1024) :
    Calls Try.prog 28 #[.int .i64 most] w fun e w' => e = .returned (.tuple #[.pointer (some ⟨w.heap.size, 0, none⟩), .int .i64 0]) ∧ RH w' (Grow (fun _ => False) w w') w.heap.size w.heap.size [] most ∧ Below w.heap.size w w' := by
  have b1 : decide (most < 0) = false := decide_eq_false (by omega)
  have b2 : decide (1024 < most) = false := decide_eq_false (by omega)
  go_enter Try.func28, Try.ntmps28
  go_wp2_with fail
  refine bodyPost_ret (v := .tuple #[.pointer (some ⟨w.heap.size, 0, none⟩), .int .i64 0]) (by simp [results, Try.results28, go_sem]) rfl ⟨rfl, ⟨none, 0, [], Blk.new _ _ _, OL.nil _ _, rfl, Nat.le_refl _, .inr ⟨Nat.le_refl _, by simp⟩, fun k hk => (by cases hk), fun o ho => absurd ho (by simp), fun k hk => ?_⟩, (Below.refl _ _).alloc (Nat.le_refl _) _⟩
  rcases hk with h | h
  · exact h.elim
  · exact h
theorem first_rlit (t : Ty) (w : World) : Calls Try.prog 55 #[t.val] w fun e w' => e = .returned (.agg #[.int .i64 (firstK t.k), .int .i64 0, .int .i64 0]) ∧ Below w.heap.size w w' := rfirst_any t w
def rR (ol : List (Ty × List Vl)) (most : Int) : Int := if (ol.length : Int) < most then (ol.length : Int) + 1 else 0
def rE (ol : List (Ty × List Vl)) (most : Int) : Int := if (ol.length : Int) < most then 0 else 140
def rL (ol : List (Ty × List Vl)) (most : Int) (t : Ty) (ts : List Ty) : List (Ty × List Vl) := if (ol.length : Int) < most then ol ++ [(t, ts.map firstV)] else ol

set_option maxRecDepth 100000 in
set_option maxHeartbeats 8000000 in
theorem rmake_any (g : Nat) (ol : List (Ty × List Vl)) (most : Int) (t : Ty) (ts : List Ty) (A2 : Option Addr) (c2 : Nat) (w : World) (F : Nat → Prop) (base : Nat) (h : RH w F base g ol most) (h1 : most ≤ 1024) (hR : ReadsT w base A2 ts) (hm : ts.length ≤ maxLen) :
    Calls Try.prog 48 #[.pointer (some ⟨g, 0, none⟩), t.val, .slice A2 ts.length c2] w fun e w' => e = .returned (.tuple #[.int .i64 (if 1024 < ts.length then 0 else rR ol most), .int .i64 (if 1024 < ts.length then 1 else rE ol most)]) ∧ RH w' (Grow F w w') base g (if 1024 < ts.length then ol else rL ol most t ts) most ∧ Turned F w w' := by
  unfold maxLen at hm
  have hb1 : Below w.heap.size w (w.alloc (.cells #[.int .i64 t.k, .string t.name, .int .i64 t.dims, .int .i64 t.elem, .int .i64 t.pos] 30)) := b0 _ _
  have hg := h.lt g h.own
  have hS := h.below hb1
  have hx := Blk.new w 30 #[.int .i64 t.k, .string t.name, .int .i64 t.dims, .int .i64 t.elem, .int .i64 t.pos]
  have hR1 : ReadsT (w.alloc (.cells #[.int .i64 t.k, .string t.name, .int .i64 t.dims, .int .i64 t.elem, .int .i64 t.pos] 30)) base A2 ts := Reads.below hR (hb1.mono (by omega))
  have hsz : (w.alloc (.cells #[.int .i64 t.k, .string t.name, .int .i64 t.dims, .int .i64 t.elem, .int .i64 t.pos] 30)).heap.size = w.heap.size + 1 := by simp
  unfold Ty.val
  by_cases hbig : 1024 < ts.length
  · have e1 : decide (1024 < (ts.length : Int)) = true := decide_eq_true (by omega)
    have e2 : decide (1024 < ts.length) = true := decide_eq_true hbig
    rw [if_pos hbig, if_pos hbig, if_pos hbig]
    go_enter Try.func48, Try.ntmps48
    go_wp2_with fail
    exact bodyPost_ret (v := .tuple #[.int .i64 0, .int .i64 1]) (by simp [results, Try.results48, go_sem]) rfl ⟨rfl, h.grow hb1⟩
  · have e1 : decide (1024 < (ts.length : Int)) = false := decide_eq_false (by omega)
    have e2 : decide (1024 < ts.length) = false := decide_eq_false hbig
    rw [if_neg hbig, if_neg hbig, if_neg hbig]
    by_cases hfull : (ol.length : Int) < most
    · have b1 : decide (most ≤ (ol.length : Int)) = false := decide_eq_false (by omega)
      have hol : ol.length < 1024 := by omega
      unfold rR rE rL
      rw [if_pos hfull, if_pos hfull, if_pos hfull]
      go_enter Try.func48, Try.ntmps48
      go_wp2_with fail
      obtain ⟨A, c, os, hB, hL, hmp, hbg, hFg, hFv, hFu, hFw⟩ := id hS
      have hln : os.length = ol.length := by rw [← hmp, List.length_map]
      have c0 : (w.alloc (.cells #[.int .i64 t.k, .string t.name, .int .i64 t.dims, .int .i64 t.elem, .int .i64 t.pos] 30)).cell? ⟨g, 0, none⟩ = some (.slice A ol.length c) := by rw [← hln]; exact hB.cell 0
      have c1 : (w.alloc (.cells #[.int .i64 t.k, .string t.name, .int .i64 t.dims, .int .i64 t.elem, .int .i64 t.pos] 30)).cell? ⟨g, 1, none⟩ = some (.int .i64 most) := hB.cell 1
      generalize hW : w.alloc (.cells #[.int .i64 t.k, .string t.name, .int .i64 t.dims, .int .i64 t.elem, .int .i64 t.pos] 30) = W at *
      go_quiet (fail)
      obtain ⟨m1, hm1⟩ : ∃ m, m = nq := ⟨_, rfl⟩
      rw [← hm1]
      clear hm1
      have hS3 := hS.below (below_drewN (Below.refl _ _) m1)
      have hb3 := below_drewN hb1 m1
      have hx3 : Blk (W.drewN m1) w.heap.size 30 #[.int .i64 t.k, .string t.name, .int .i64 t.dims, .int .i64 t.elem, .int .i64 t.pos] := hx
      have hR3 : ReadsT (W.drewN m1) base A2 ts := Reads.drewN hR1 m1
      have hs3 : (W.drewN m1).heap.size = w.heap.size + 1 := hsz
      clear c0 c1 hB hL hmp hFv hFu hFw hS hb1 hx hR1 hsz hW
      generalize W.drewN m1 = W3 at *
      have x0 : W3.cell? ⟨w.heap.size, 0, none⟩ = some (.int .i64 t.k) := hx3.cell 0
      have x1 : W3.cell? ⟨w.heap.size, 1, none⟩ = some (.string t.name) := hx3.cell 1
      have x2 : W3.cell? ⟨w.heap.size, 2, none⟩ = some (.int .i64 t.dims) := hx3.cell 2
      have x3 : W3.cell? ⟨w.heap.size, 3, none⟩ = some (.int .i64 t.elem) := hx3.cell 3
      have x4 : W3.cell? ⟨w.heap.size, 4, none⟩ = some (.int .i64 t.pos) := hx3.cell 4
      go_wp2_with fail
      have hy := Blk.new W3 61 #[.int .i64 t.k, .string t.name, .int .i64 t.dims, .int .i64 t.elem, .int .i64 t.pos, .slice none 0 0]
      have hb4 := b0 W3 (.cells #[.int .i64 t.k, .string t.name, .int .i64 t.dims, .int .i64 t.elem, .int .i64 t.pos, .slice none 0 0] 61)
      have hs4 : (W3.alloc (.cells #[.int .i64 t.k, .string t.name, .int .i64 t.dims, .int .i64 t.elem, .int .i64 t.pos, .slice none 0 0] 61)).heap.size = w.heap.size + 2 := by simp [hs3]
      have hyn : W3.heap.size = w.heap.size + 1 := hs3
      generalize hW4 : W3.alloc (.cells #[.int .i64 t.k, .string t.name, .int .i64 t.dims, .int .i64 t.elem, .int .i64 t.pos, .slice none 0 0] 61) = W4 at *
      rw [hyn] at hy
      rw [hyn] at hb4
      clear x0 x1 x2 x3 x4
      go_loopw [9] (fun i wr => ∃ (k : Nat) (D : Option Addr) (d : Nat), k ≤ ts.length ∧ i = .int .i64 k ∧ Blk wr (w.heap.size + 1) 61 #[.int .i64 t.k, .string t.name, .int .i64 t.dims, .int .i64 t.elem, .int .i64 t.pos, .slice D k d] ∧ wr.ownsRow (w.heap.size + 2) 49 3 (.slice D k d) k (cellsV ((ts.take k).map firstV)) ∧ Below (w.heap.size + 1) W3 wr ∧ w.heap.size + 2 ≤ wr.heap.size) (fun i _ => ts.length - (intOf i).toNat)
      case atStart => exact ⟨0, none, 0, by omega, rfl, hy, World.ownsRow_nil _ _ _ _, hb4, by omega⟩
      case round =>
        obtain ⟨k, Dd, d, hk, rfl, hY, hO, hBr, hsr⟩ := hrel
        by_cases hlt : k < ts.length
        · have q1 : decide ((k : Int) < (ts.length : Int)) = true := decide_eq_true (by omega)
          have q2 : decide (k < ts.length) = true := decide_eq_true hlt
          obtain ⟨ti, hti⟩ : ∃ ti, ts[k]? = some ti := ⟨ts[k], List.getElem?_eq_getElem hlt⟩
          have hRk : ReadsT wr.drew base A2 ts := Reads.below hR3 (hBr.drew.mono (by omega))
          obtain ⟨ad, rfl, _, a0, a1, a2, a3, a4⟩ := ReadsT.at_ hRk hti
          have hnext : (ts.take k).map firstV ++ [firstV ti] = (ts.take (k + 1)).map firstV := by
            rw [List.take_add_one, hti]
            simp
          have y5 : wr.drew.cell? ⟨w.heap.size + 1, 5, none⟩ = some (.slice Dd k d) := hY.cell 5
          have hcap := own_cap hO
          obtain ⟨i0, hi0, hz0, hz1, hz2⟩ := info_parts infoV
          have hone : ∀ u ∈ (firstV ti).cells, u.oneCell' = true := by
            intro u hu
            simp only [Vl.cells, List.mem_cons, List.not_mem_nil, or_false] at hu
            rcases hu with rfl | rfl | rfl <;> rfl
          have hfi := Lib.hid (fun w => first_rlit ti w)
          generalize (ts.take k).map firstV = vk at *
          replace hnext := Lib.hid hnext
          replace hone := Lib.hid hone
          replace hi0 := Lib.hid hi0
          replace hz0 := Lib.hid hz0
          replace hz1 := Lib.hid hz1
          replace hz2 := Lib.hid hz2
          replace hO := Lib.hid hO
          replace hY := Lib.hid hY
          unfold Ty.val at hfi
          go_wp2_with fail
          go_region_with (first
            | (go_at_call 55
               refine (hfi.out _).mono ?_
               rintro _ w4 ⟨rfl, hb4⟩
               have y54 : w4.cell? ⟨w.heap.size + 1, 5, none⟩ = some (.slice Dd k d) := (hb4.cell (p := ⟨w.heap.size + 1, 5, none⟩) (by simp; omega)).trans y5
               have hbd : Below wr.heap.size wr (w4.alloc (.cells #[.int .i64 (firstK ti.k), .int .i64 0, .int .i64 0] 49)) := ba ((Below.refl _ _).drew.trans hb4) _
               have hYa := hY.out.below hbd hY.out.lt
               have hOa := own_below hO.out hbd
               have hgv := own_blk_ne hOa hYa (by decide)
               have ya5 : (w4.alloc (.cells #[.int .i64 (firstK ti.k), .int .i64 0, .int .i64 0] 49)).cell? ⟨w.heap.size + 1, 5, none⟩ = some (.slice Dd k d) := hYa.cell 5
               obtain ⟨D5, d5, w5, hrun5, hown5, hg5, hat5⟩ := run_append_any (P := Try.prog) (w4.alloc (.cells #[.int .i64 (firstK ti.k), .int .i64 0, .int .i64 0] 49)) (w.heap.size + 2) 59 59 49 i0 _ 3 24 Try.underlying59 hi0.out hz0.out hz1.out hz2.out rfl (by omega) (.slice Dd k d) k (cellsV vk) hOa
                  (w4.heap.size + 1) (some ⟨w4.heap.size, 0, none⟩) 1 1 (firstV ti).cells (readsV_one w4 (firstV ti)) hone.out (by unfold maxLen; omega) (by omega) (by have := hbd.size; omega)
               have hY5 := Blk.grown hYa hg5 hgv.symm
               have y55 : w5.cell? ⟨w.heap.size + 1, 5, none⟩ = some (.slice Dd k d) := hY5.cell 5
               have f55 := hY5.frozen 5
               have hb5 : Below (w.heap.size + 1) W3 w5 := (hBr.trans (hbd.mono (by omega))).grown hg5 (by have := hbd.size; omega) (fun q e => by have := (hOa.lt q e).1; omega)
               replace hYa := Lib.hid hYa
               replace hOa := Lib.hid hOa
               replace hown5 := Lib.hid hown5))
          all_goals
            have hfin : (w5.setCell ⟨w.heap.size + 1, 5, none⟩ (.slice D5 (k + 1) d5)).ownsRow (w.heap.size + 2) 49 3 (.slice D5 (k + 1) d5) (k + 1) (cellsV ((ts.take (k + 1)).map firstV)) := by
              refine own_cell ?_ hY5 (by decide) _
              rw [← hnext.out, cellsV_append]
              simpa [cellsV] using hown5.out
            have hsz5 : wr.heap.size ≤ w5.heap.size := Nat.le_trans hbd.size hg5.size
            go_wp2_with fail
            exact ⟨⟨k + 1, D5, d5, by omega, by go_num, hY5.set_ 5 _, hfin, hb5.setCell (p := ⟨w.heap.size + 1, 5, none⟩) (Nat.le_refl _) _, by simp [World.setCell]; omega⟩, by simp [intOf]; omega⟩
        · obtain rfl : k = ts.length := by omega
          have q1 : decide ((ts.length : Int) < (ts.length : Int)) = false := decide_eq_false (by omega)
          have q2 : decide (ts.length < ts.length) = false := decide_eq_false (by omega)
          rw [List.take_length] at hO
          obtain ⟨A, c, os, hB, hL, hmp, hbg, hFg, hFv, hFu, hFw⟩ := id h
          have hln : os.length = ol.length := by rw [← hmp, List.length_map]
          have hBw : Below w.heap.size w wr := hb3.trans (hBr.mono (by omega))
          have hNB : Below w.heap.size w (wr.alloc (.cells #[.int .i64 t.k, .string t.name, .int .i64 t.dims, .int .i64 t.elem, .int .i64 t.pos, .slice Dd ts.length d] 61)).drew := (ba hBw _).drew
          have hBk : Below wr.heap.size wr (wr.alloc (.cells #[.int .i64 t.k, .string t.name, .int .i64 t.dims, .int .i64 t.elem, .int .i64 t.pos, .slice Dd ts.length d] 61)).drew := (b0 _ _).drew
          have hBa := hB.below hNB hB.lt
          have hLa := hL.below hNB
          have hYa := hY.below hBk hY.lt
          have hOa := own_below hO hBk
          have hgv := own_blk_ne hLa.1 hBa (by decide)
          have c0 : wr.drew.cell? ⟨g, 0, none⟩ = some (.slice A os.length c) := (hB.below hBw hB.lt).cell 0
          have cb0 : (wr.alloc (.cells #[.int .i64 t.k, .string t.name, .int .i64 t.dims, .int .i64 t.elem, .int .i64 t.pos, .slice Dd ts.length d] 61)).drew.cell? ⟨g, 0, none⟩ = some (.slice A os.length c) := hBa.cell 0
          have y0 : wr.drew.cell? ⟨w.heap.size + 1, 0, none⟩ = some (.int .i64 t.k) := hY.cell 0
          have z0 : (wr.alloc (.cells #[.int .i64 t.k, .string t.name, .int .i64 t.dims, .int .i64 t.elem, .int .i64 t.pos, .slice Dd ts.length d] 61)).drew.cell? ⟨w.heap.size + 1, 0, none⟩ = some (.int .i64 t.k) := hYa.cell 0
          have y1 : wr.drew.cell? ⟨w.heap.size + 1, 1, none⟩ = some (.string t.name) := hY.cell 1
          have z1 : (wr.alloc (.cells #[.int .i64 t.k, .string t.name, .int .i64 t.dims, .int .i64 t.elem, .int .i64 t.pos, .slice Dd ts.length d] 61)).drew.cell? ⟨w.heap.size + 1, 1, none⟩ = some (.string t.name) := hYa.cell 1
          have y2 : wr.drew.cell? ⟨w.heap.size + 1, 2, none⟩ = some (.int .i64 t.dims) := hY.cell 2
          have z2 : (wr.alloc (.cells #[.int .i64 t.k, .string t.name, .int .i64 t.dims, .int .i64 t.elem, .int .i64 t.pos, .slice Dd ts.length d] 61)).drew.cell? ⟨w.heap.size + 1, 2, none⟩ = some (.int .i64 t.dims) := hYa.cell 2
          have y3 : wr.drew.cell? ⟨w.heap.size + 1, 3, none⟩ = some (.int .i64 t.elem) := hY.cell 3
          have z3 : (wr.alloc (.cells #[.int .i64 t.k, .string t.name, .int .i64 t.dims, .int .i64 t.elem, .int .i64 t.pos, .slice Dd ts.length d] 61)).drew.cell? ⟨w.heap.size + 1, 3, none⟩ = some (.int .i64 t.elem) := hYa.cell 3
          have y4 : wr.drew.cell? ⟨w.heap.size + 1, 4, none⟩ = some (.int .i64 t.pos) := hY.cell 4
          have z4 : (wr.alloc (.cells #[.int .i64 t.k, .string t.name, .int .i64 t.dims, .int .i64 t.elem, .int .i64 t.pos, .slice Dd ts.length d] 61)).drew.cell? ⟨w.heap.size + 1, 4, none⟩ = some (.int .i64 t.pos) := hYa.cell 4
          have y5 : wr.drew.cell? ⟨w.heap.size + 1, 5, none⟩ = some (.slice Dd ts.length d) := hY.cell 5
          have z5 : (wr.alloc (.cells #[.int .i64 t.k, .string t.name, .int .i64 t.dims, .int .i64 t.elem, .int .i64 t.pos, .slice Dd ts.length d] 61)).drew.cell? ⟨w.heap.size + 1, 5, none⟩ = some (.slice Dd ts.length d) := hYa.cell 5
          have hR1 : Reads (wr.alloc (.cells #[.int .i64 t.k, .string t.name, .int .i64 t.dims, .int .i64 t.elem, .int .i64 t.pos, .slice Dd ts.length d] 61)).drew (wr.heap.size + 1) 6 (some ⟨wr.heap.size, 0, none⟩) 1 (Ob.cells ⟨t, ts.map firstV, Dd, d⟩) := by
            have := Reads.new wr #[.int .i64 t.k, .string t.name, .int .i64 t.dims, .int .i64 t.elem, .int .i64 t.pos, .slice Dd ts.length d] 61 (0, 0) 1 6 rfl
            have h := Reads.drew this
            simpa [Ob.cells] using h
          obtain ⟨i0, hi0, hz0, hz1, hz2⟩ := info_parts infoO
          have hosl : os.length ≤ 1024 := by omega
          obtain ⟨A5, c5, w5, hrun5, hown5, hg5, hat5⟩ := run_append_any (P := Try.prog) (wr.alloc (.cells #[.int .i64 t.k, .string t.name, .int .i64 t.dims, .int .i64 t.elem, .int .i64 t.pos, .slice Dd ts.length d] 61)).drew base 53 53 61 i0 _ 6 72 Try.underlying53 hi0 hz0 hz1 hz2 rfl (by omega) (.slice A os.length c) os.length (cellsO os) hLa.1
            (wr.heap.size + 1) (some ⟨wr.heap.size, 0, none⟩) 1 1 (Ob.cells ⟨t, ts.map firstV, Dd, d⟩) hR1 (ob_one _) (by unfold maxLen; omega) (by omega) (by have := hNB.size; omega)
          have hB5 := Blk.grown hBa hg5 hgv.symm
          have c05 : w5.cell? ⟨g, 0, none⟩ = some (.slice A os.length c) := hB5.cell 0
          have f05 := hB5.frozen 0
          have c06 : (w5.setCell ⟨g, 0, none⟩ (.slice A5 (os.length + 1) c5)).cell? ⟨g, 0, none⟩ = some (.slice A5 (os.length + 1) c5) := (hB5.set_ 0 _).cell 0
          have hml : (ts.map firstV).length = ts.length := List.length_map _
          have hP := rh_push (o := ⟨t, ts.map firstV, Dd, d⟩) (n2 := os.length + 1) rfl hB hL hbg hFg hFv hFu hFw hNB hown5 hg5 hat5 (by
            unfold Ob.sl
            dsimp only
            rw [hml]
            exact own_base hOa (by omega))
          rw [hmp] at hP
          replace hP := Lib.hid hP
          replace hml := Lib.hid hml
          replace hln := Lib.hid hln
          clear hown5 hR1 hOa hBa hS3 hLa hL hB hYa hmp
          go_wp2_with fail
          go_region
          all_goals
            go_wp2_with fail
            exact bodyPost_ret (v := .tuple #[.int .i64 ((os.length : Int) + 1), .int .i64 0]) (by simp [results, Try.results48, go_sem]) rfl ⟨by rw [hln.out], hP.out⟩
    · have b1 : decide (most ≤ (ol.length : Int)) = true := decide_eq_true (by omega)
      unfold rR rE rL
      rw [if_neg hfull, if_neg hfull, if_neg hfull]
      go_enter Try.func48, Try.ntmps48
      go_wp2_with fail
      obtain ⟨A, c, os, hB, hL, hmp, hbg, hFg, hFv, hFu, hFw⟩ := id hS
      have hln : os.length = ol.length := by rw [← hmp, List.length_map]
      have c0 : (w.alloc (.cells #[.int .i64 t.k, .string t.name, .int .i64 t.dims, .int .i64 t.elem, .int .i64 t.pos] 30)).cell? ⟨g, 0, none⟩ = some (.slice A ol.length c) := by rw [← hln]; exact hB.cell 0
      have c1 : (w.alloc (.cells #[.int .i64 t.k, .string t.name, .int .i64 t.dims, .int .i64 t.elem, .int .i64 t.pos] 30)).cell? ⟨g, 1, none⟩ = some (.int .i64 most) := hB.cell 1
      generalize hW : w.alloc (.cells #[.int .i64 t.k, .string t.name, .int .i64 t.dims, .int .i64 t.elem, .int .i64 t.pos] 30) = W at *
      go_quiet (fail)
      go_wp2_with fail
      exact bodyPost_ret (v := .tuple #[.int .i64 0, .int .i64 140]) (by simp [results, Try.results48, go_sem]) rfl ⟨rfl, h.grow (below_drewN hb1 _)⟩

set_option maxRecDepth 100000 in
set_option maxHeartbeats 8000000 in
theorem rarray_any (g : Nat) (ol : List (Ty × List Vl)) (most : Int) (t f : Ty) (n : Int) (w : World) (F : Nat → Prop) (base : Nat) (h : RH w F base g ol most) (h1 : most ≤ 1024) :
    Calls Try.prog 49 #[.pointer (some ⟨g, 0, none⟩), t.val, f.val, .int .i64 n] w fun e w' => e = .returned (.tuple #[.int .i64 (if n < 0 then 0 else if 1024 < n then 0 else rR ol most), .int .i64 (if n < 0 then 1 else if 1024 < n then 140 else rE ol most)]) ∧ RH w' (Grow F w w') base g (if n < 0 ∨ 1024 < n then ol else rL ol most t (List.replicate n.toNat f)) most ∧ Turned F w w' := by
  have hb1 : Below w.heap.size w ((w.alloc (.cells #[.int .i64 t.k, .string t.name, .int .i64 t.dims, .int .i64 t.elem, .int .i64 t.pos] 30)).alloc (.cells #[.int .i64 f.k, .string f.name, .int .i64 f.dims, .int .i64 f.elem, .int .i64 f.pos] 30)) := ba (b0 _ _) _
  have hg := h.lt g h.own
  have hS := h.below hb1
  have hx : Blk ((w.alloc (.cells #[.int .i64 t.k, .string t.name, .int .i64 t.dims, .int .i64 t.elem, .int .i64 t.pos] 30)).alloc (.cells #[.int .i64 f.k, .string f.name, .int .i64 f.dims, .int .i64 f.elem, .int .i64 f.pos] 30)) w.heap.size 30 #[.int .i64 t.k, .string t.name, .int .i64 t.dims, .int .i64 t.elem, .int .i64 t.pos] := (Blk.new w 30 #[.int .i64 t.k, .string t.name, .int .i64 t.dims, .int .i64 t.elem, .int .i64 t.pos]).alloc _
  have hz : Blk ((w.alloc (.cells #[.int .i64 t.k, .string t.name, .int .i64 t.dims, .int .i64 t.elem, .int .i64 t.pos] 30)).alloc (.cells #[.int .i64 f.k, .string f.name, .int .i64 f.dims, .int .i64 f.elem, .int .i64 f.pos] 30)) (w.heap.size + 1) 30 #[.int .i64 f.k, .string f.name, .int .i64 f.dims, .int .i64 f.elem, .int .i64 f.pos] := by
    have := Blk.new (w.alloc (.cells #[.int .i64 t.k, .string t.name, .int .i64 t.dims, .int .i64 t.elem, .int .i64 t.pos] 30)) 30 #[.int .i64 f.k, .string f.name, .int .i64 f.dims, .int .i64 f.elem, .int .i64 f.pos]
    simpa using this
  have hsz : ((w.alloc (.cells #[.int .i64 t.k, .string t.name, .int .i64 t.dims, .int .i64 t.elem, .int .i64 t.pos] 30)).alloc (.cells #[.int .i64 f.k, .string f.name, .int .i64 f.dims, .int .i64 f.elem, .int .i64 f.pos] 30)).heap.size = w.heap.size + 2 := by simp
  unfold Ty.val
  by_cases hneg : n < 0
  · have e1 : decide (n < 0) = true := decide_eq_true hneg
    rw [if_pos hneg, if_pos hneg, if_pos (.inl hneg)]
    go_enter Try.func49, Try.ntmps49
    go_wp2_with fail
    exact bodyPost_ret (v := .tuple #[.int .i64 0, .int .i64 1]) (by simp [results, Try.results49, go_sem]) rfl ⟨rfl, h.grow hb1⟩
  · have e0 : decide (n < 0) = false := decide_eq_false hneg
    by_cases hbig : 1024 < n
    · have e1 : decide (1024 < n) = true := decide_eq_true hbig
      rw [if_neg hneg, if_neg hneg, if_pos hbig, if_pos hbig, if_pos (.inr hbig)]
      go_enter Try.func49, Try.ntmps49
      go_wp2_with fail
      obtain ⟨A, c, os, hB, hL, hmp, hbg, hFg, hFv, hFu, hFw⟩ := id hS
      have c0 : ((w.alloc (.cells #[.int .i64 t.k, .string t.name, .int .i64 t.dims, .int .i64 t.elem, .int .i64 t.pos] 30)).alloc (.cells #[.int .i64 f.k, .string f.name, .int .i64 f.dims, .int .i64 f.elem, .int .i64 f.pos] 30)).cell? ⟨g, 0, none⟩ = some (.slice A os.length c) := hB.cell 0
      have c1 : ((w.alloc (.cells #[.int .i64 t.k, .string t.name, .int .i64 t.dims, .int .i64 t.elem, .int .i64 t.pos] 30)).alloc (.cells #[.int .i64 f.k, .string f.name, .int .i64 f.dims, .int .i64 f.elem, .int .i64 f.pos] 30)).cell? ⟨g, 1, none⟩ = some (.int .i64 most) := hB.cell 1
      clear hz hx hB hL hmp hFv hFu hFw
      generalize hW : (w.alloc (.cells #[.int .i64 t.k, .string t.name, .int .i64 t.dims, .int .i64 t.elem, .int .i64 t.pos] 30)).alloc (.cells #[.int .i64 f.k, .string f.name, .int .i64 f.dims, .int .i64 f.elem, .int .i64 f.pos] 30) = W at *
      clear hW
      go_region
      go_wp2_with fail
      exact bodyPost_ret (v := .tuple #[.int .i64 0, .int .i64 140]) (by simp [results, Try.results49, go_sem]) rfl ⟨rfl, h.grow (below_drewN hb1 _)⟩
    · have e1 : decide (1024 < n) = false := decide_eq_false hbig
      rw [if_neg hneg, if_neg hneg, if_neg hbig, if_neg hbig, if_neg (by omega)]
      obtain ⟨ts, hts⟩ : ∃ ts, List.replicate n.toNat f = ts := ⟨_, rfl⟩
      have hall : ∀ (k : Nat) ti, ts[k]? = some ti → ti = f := fun k ti hk => by
        rw [← hts] at hk
        exact List.eq_of_mem_replicate (List.mem_of_getElem? hk)
      have hnl : n = (ts.length : Int) := by rw [← hts, List.length_replicate]; omega
      rw [hts]
      subst hnl
      have e2 : decide (1024 < ts.length) = false := decide_eq_false (by omega)
      clear hts
      by_cases hfull : (ol.length : Int) < most
      · have b1 : decide (most ≤ (ol.length : Int)) = false := decide_eq_false (by omega)
        have hol : ol.length < 1024 := by omega
        unfold rR rE rL
        rw [if_pos hfull, if_pos hfull, if_pos hfull]
        go_enter Try.func49, Try.ntmps49
        go_wp2_with fail
        obtain ⟨A, c, os, hB, hL, hmp, hbg, hFg, hFv, hFu, hFw⟩ := id hS
        have hln : os.length = ol.length := by rw [← hmp, List.length_map]
        have c0 : ((w.alloc (.cells #[.int .i64 t.k, .string t.name, .int .i64 t.dims, .int .i64 t.elem, .int .i64 t.pos] 30)).alloc (.cells #[.int .i64 f.k, .string f.name, .int .i64 f.dims, .int .i64 f.elem, .int .i64 f.pos] 30)).cell? ⟨g, 0, none⟩ = some (.slice A ol.length c) := by rw [← hln]; exact hB.cell 0
        have c1 : ((w.alloc (.cells #[.int .i64 t.k, .string t.name, .int .i64 t.dims, .int .i64 t.elem, .int .i64 t.pos] 30)).alloc (.cells #[.int .i64 f.k, .string f.name, .int .i64 f.dims, .int .i64 f.elem, .int .i64 f.pos] 30)).cell? ⟨g, 1, none⟩ = some (.int .i64 most) := hB.cell 1
        generalize hW : (w.alloc (.cells #[.int .i64 t.k, .string t.name, .int .i64 t.dims, .int .i64 t.elem, .int .i64 t.pos] 30)).alloc (.cells #[.int .i64 f.k, .string f.name, .int .i64 f.dims, .int .i64 f.elem, .int .i64 f.pos] 30) = W at *
        go_region
        have hS3 := hS.below ((Below.refl _ _).drew)
        have hb3 := hb1.drew
        have hx3 : Blk (W.drew) w.heap.size 30 #[.int .i64 t.k, .string t.name, .int .i64 t.dims, .int .i64 t.elem, .int .i64 t.pos] := hx
        have hz3 : Blk (W.drew) (w.heap.size + 1) 30 #[.int .i64 f.k, .string f.name, .int .i64 f.dims, .int .i64 f.elem, .int .i64 f.pos] := hz
        have hs3 : (W.drew).heap.size = w.heap.size + 2 := hsz
        clear c0 c1 hB hL hmp hFv hFu hFw hS hb1 hx hz hsz hW
        generalize W.drew = W3 at *
        have x0 : W3.cell? ⟨w.heap.size, 0, none⟩ = some (.int .i64 t.k) := hx3.cell 0
        have x1 : W3.cell? ⟨w.heap.size, 1, none⟩ = some (.string t.name) := hx3.cell 1
        have x2 : W3.cell? ⟨w.heap.size, 2, none⟩ = some (.int .i64 t.dims) := hx3.cell 2
        have x3 : W3.cell? ⟨w.heap.size, 3, none⟩ = some (.int .i64 t.elem) := hx3.cell 3
        have x4 : W3.cell? ⟨w.heap.size, 4, none⟩ = some (.int .i64 t.pos) := hx3.cell 4
        go_wp2_with fail
        have hy := Blk.new W3 61 #[.int .i64 t.k, .string t.name, .int .i64 t.dims, .int .i64 t.elem, .int .i64 t.pos, .slice none 0 0]
        have hb4 := b0 W3 (.cells #[.int .i64 t.k, .string t.name, .int .i64 t.dims, .int .i64 t.elem, .int .i64 t.pos, .slice none 0 0] 61)
        have hs4 : (W3.alloc (.cells #[.int .i64 t.k, .string t.name, .int .i64 t.dims, .int .i64 t.elem, .int .i64 t.pos, .slice none 0 0] 61)).heap.size = w.heap.size + 3 := by simp [hs3]
        have hyn : W3.heap.size = w.heap.size + 2 := hs3
        generalize hW4 : W3.alloc (.cells #[.int .i64 t.k, .string t.name, .int .i64 t.dims, .int .i64 t.elem, .int .i64 t.pos, .slice none 0 0] 61) = W4 at *
        rw [hyn] at hy
        rw [hyn] at hb4
        clear x0 x1 x2 x3 x4
        go_loopw [11] (fun i wr => ∃ (k : Nat) (D : Option Addr) (d : Nat), k ≤ ts.length ∧ i = .int .i64 k ∧ Blk wr (w.heap.size + 2) 61 #[.int .i64 t.k, .string t.name, .int .i64 t.dims, .int .i64 t.elem, .int .i64 t.pos, .slice D k d] ∧ wr.ownsRow (w.heap.size + 3) 49 3 (.slice D k d) k (cellsV ((ts.take k).map firstV)) ∧ Below (w.heap.size + 2) W3 wr ∧ w.heap.size + 3 ≤ wr.heap.size) (fun i _ => ts.length - (intOf i).toNat)
        case atStart => exact ⟨0, none, 0, by omega, rfl, hy, World.ownsRow_nil _ _ _ _, hb4, by omega⟩
        case round =>
          obtain ⟨k, Dd, d, hk, rfl, hY, hO, hBr, hsr⟩ := hrel
          by_cases hlt : k < ts.length
          · have q1 : decide ((k : Int) < (ts.length : Int)) = true := decide_eq_true (by omega)
            have q2 : decide (k < ts.length) = true := decide_eq_true hlt
            obtain ⟨ti, hti⟩ : ∃ ti, ts[k]? = some ti := ⟨ts[k], List.getElem?_eq_getElem hlt⟩
            obtain rfl : ti = f := hall k ti hti
            have hzr := hz3.below hBr (by omega)
            have a0 : wr.drew.cell? ⟨w.heap.size + 1, 0, none⟩ = some (.int .i64 ti.k) := hzr.cell 0
            have a1 : wr.drew.cell? ⟨w.heap.size + 1, 1, none⟩ = some (.string ti.name) := hzr.cell 1
            have a2 : wr.drew.cell? ⟨w.heap.size + 1, 2, none⟩ = some (.int .i64 ti.dims) := hzr.cell 2
            have a3 : wr.drew.cell? ⟨w.heap.size + 1, 3, none⟩ = some (.int .i64 ti.elem) := hzr.cell 3
            have a4 : wr.drew.cell? ⟨w.heap.size + 1, 4, none⟩ = some (.int .i64 ti.pos) := hzr.cell 4
            have hnext : (ts.take k).map firstV ++ [firstV ti] = (ts.take (k + 1)).map firstV := by
              rw [List.take_add_one, hti]
              simp
            have y5 : wr.drew.cell? ⟨w.heap.size + 2, 5, none⟩ = some (.slice Dd k d) := hY.cell 5
            have hcap := own_cap hO
            obtain ⟨i0, hi0, hz0, hz1, hz2⟩ := info_parts infoV
            have hone : ∀ u ∈ (firstV ti).cells, u.oneCell' = true := by
              intro u hu
              simp only [Vl.cells, List.mem_cons, List.not_mem_nil, or_false] at hu
              rcases hu with rfl | rfl | rfl <;> rfl
            have hfi := Lib.hid (fun w => first_rlit ti w)
            generalize (ts.take k).map firstV = vk at *
            replace hnext := Lib.hid hnext
            replace hone := Lib.hid hone
            replace hi0 := Lib.hid hi0
            replace hz0 := Lib.hid hz0
            replace hz1 := Lib.hid hz1
            replace hz2 := Lib.hid hz2
            replace hO := Lib.hid hO
            replace hY := Lib.hid hY
            unfold Ty.val at hfi
            go_wp2_with fail
            go_region_with (first
              | (go_at_call 55
                 refine (hfi.out _).mono ?_
                 rintro _ w4 ⟨rfl, hb4⟩
                 have y54 : w4.cell? ⟨w.heap.size + 2, 5, none⟩ = some (.slice Dd k d) := (hb4.cell (p := ⟨w.heap.size + 2, 5, none⟩) (by simp; omega)).trans y5
                 have hbd : Below wr.heap.size wr (w4.alloc (.cells #[.int .i64 (firstK ti.k), .int .i64 0, .int .i64 0] 49)) := ba ((Below.refl _ _).drew.trans hb4) _
                 have hYa := hY.out.below hbd hY.out.lt
                 have hOa := own_below hO.out hbd
                 have hgv := own_blk_ne hOa hYa (by decide)
                 have ya5 : (w4.alloc (.cells #[.int .i64 (firstK ti.k), .int .i64 0, .int .i64 0] 49)).cell? ⟨w.heap.size + 2, 5, none⟩ = some (.slice Dd k d) := hYa.cell 5
                 obtain ⟨D5, d5, w5, hrun5, hown5, hg5, hat5⟩ := run_append_any (P := Try.prog) (w4.alloc (.cells #[.int .i64 (firstK ti.k), .int .i64 0, .int .i64 0] 49)) (w.heap.size + 3) 59 59 49 i0 _ 3 24 Try.underlying59 hi0.out hz0.out hz1.out hz2.out rfl (by omega) (.slice Dd k d) k (cellsV vk) hOa
                    (w4.heap.size + 1) (some ⟨w4.heap.size, 0, none⟩) 1 1 (firstV ti).cells (readsV_one w4 (firstV ti)) hone.out (by unfold maxLen; omega) (by omega) (by have := hbd.size; omega)
                 have hY5 := Blk.grown hYa hg5 hgv.symm
                 have y55 : w5.cell? ⟨w.heap.size + 2, 5, none⟩ = some (.slice Dd k d) := hY5.cell 5
                 have f55 := hY5.frozen 5
                 have hb5 : Below (w.heap.size + 2) W3 w5 := (hBr.trans (hbd.mono (by omega))).grown hg5 (by have := hbd.size; omega) (fun q e => by have := (hOa.lt q e).1; omega)
                 replace hYa := Lib.hid hYa
                 replace hOa := Lib.hid hOa
                 replace hown5 := Lib.hid hown5))
            all_goals
              have hfin : (w5.setCell ⟨w.heap.size + 2, 5, none⟩ (.slice D5 (k + 1) d5)).ownsRow (w.heap.size + 3) 49 3 (.slice D5 (k + 1) d5) (k + 1) (cellsV ((ts.take (k + 1)).map firstV)) := by
                refine own_cell ?_ hY5 (by decide) _
                rw [← hnext.out, cellsV_append]
                simpa [cellsV] using hown5.out
              have hsz5 : wr.heap.size ≤ w5.heap.size := Nat.le_trans hbd.size hg5.size
              go_wp2_with fail
              exact ⟨⟨k + 1, D5, d5, by omega, by go_num, hY5.set_ 5 _, hfin, hb5.setCell (p := ⟨w.heap.size + 2, 5, none⟩) (Nat.le_refl _) _, by simp [World.setCell]; omega⟩, by simp [intOf]; omega⟩
          · obtain rfl : k = ts.length := by omega
            have q1 : decide ((ts.length : Int) < (ts.length : Int)) = false := decide_eq_false (by omega)
            have q2 : decide (ts.length < ts.length) = false := decide_eq_false (by omega)
            rw [List.take_length] at hO
            obtain ⟨A, c, os, hB, hL, hmp, hbg, hFg, hFv, hFu, hFw⟩ := id h
            have hln : os.length = ol.length := by rw [← hmp, List.length_map]
            have hBw : Below w.heap.size w wr := hb3.trans (hBr.mono (by omega))
            have hNB : Below w.heap.size w (wr.alloc (.cells #[.int .i64 t.k, .string t.name, .int .i64 t.dims, .int .i64 t.elem, .int .i64 t.pos, .slice Dd ts.length d] 61)).drew := (ba hBw _).drew
            have hBk : Below wr.heap.size wr (wr.alloc (.cells #[.int .i64 t.k, .string t.name, .int .i64 t.dims, .int .i64 t.elem, .int .i64 t.pos, .slice Dd ts.length d] 61)).drew := (b0 _ _).drew
            have hBa := hB.below hNB hB.lt
            have hLa := hL.below hNB
            have hYa := hY.below hBk hY.lt
            have hOa := own_below hO hBk
            have hgv := own_blk_ne hLa.1 hBa (by decide)
            have c0 : wr.drew.cell? ⟨g, 0, none⟩ = some (.slice A os.length c) := (hB.below hBw hB.lt).cell 0
            have cb0 : (wr.alloc (.cells #[.int .i64 t.k, .string t.name, .int .i64 t.dims, .int .i64 t.elem, .int .i64 t.pos, .slice Dd ts.length d] 61)).drew.cell? ⟨g, 0, none⟩ = some (.slice A os.length c) := hBa.cell 0
            have y0 : wr.drew.cell? ⟨w.heap.size + 2, 0, none⟩ = some (.int .i64 t.k) := hY.cell 0
            have z0 : (wr.alloc (.cells #[.int .i64 t.k, .string t.name, .int .i64 t.dims, .int .i64 t.elem, .int .i64 t.pos, .slice Dd ts.length d] 61)).drew.cell? ⟨w.heap.size + 2, 0, none⟩ = some (.int .i64 t.k) := hYa.cell 0
            have y1 : wr.drew.cell? ⟨w.heap.size + 2, 1, none⟩ = some (.string t.name) := hY.cell 1
            have z1 : (wr.alloc (.cells #[.int .i64 t.k, .string t.name, .int .i64 t.dims, .int .i64 t.elem, .int .i64 t.pos, .slice Dd ts.length d] 61)).drew.cell? ⟨w.heap.size + 2, 1, none⟩ = some (.string t.name) := hYa.cell 1
            have y2 : wr.drew.cell? ⟨w.heap.size + 2, 2, none⟩ = some (.int .i64 t.dims) := hY.cell 2
            have z2 : (wr.alloc (.cells #[.int .i64 t.k, .string t.name, .int .i64 t.dims, .int .i64 t.elem, .int .i64 t.pos, .slice Dd ts.length d] 61)).drew.cell? ⟨w.heap.size + 2, 2, none⟩ = some (.int .i64 t.dims) := hYa.cell 2
            have y3 : wr.drew.cell? ⟨w.heap.size + 2, 3, none⟩ = some (.int .i64 t.elem) := hY.cell 3
            have z3 : (wr.alloc (.cells #[.int .i64 t.k, .string t.name, .int .i64 t.dims, .int .i64 t.elem, .int .i64 t.pos, .slice Dd ts.length d] 61)).drew.cell? ⟨w.heap.size + 2, 3, none⟩ = some (.int .i64 t.elem) := hYa.cell 3
            have y4 : wr.drew.cell? ⟨w.heap.size + 2, 4, none⟩ = some (.int .i64 t.pos) := hY.cell 4
            have z4 : (wr.alloc (.cells #[.int .i64 t.k, .string t.name, .int .i64 t.dims, .int .i64 t.elem, .int .i64 t.pos, .slice Dd ts.length d] 61)).drew.cell? ⟨w.heap.size + 2, 4, none⟩ = some (.int .i64 t.pos) := hYa.cell 4
            have y5 : wr.drew.cell? ⟨w.heap.size + 2, 5, none⟩ = some (.slice Dd ts.length d) := hY.cell 5
            have z5 : (wr.alloc (.cells #[.int .i64 t.k, .string t.name, .int .i64 t.dims, .int .i64 t.elem, .int .i64 t.pos, .slice Dd ts.length d] 61)).drew.cell? ⟨w.heap.size + 2, 5, none⟩ = some (.slice Dd ts.length d) := hYa.cell 5
            have hR1 : Reads (wr.alloc (.cells #[.int .i64 t.k, .string t.name, .int .i64 t.dims, .int .i64 t.elem, .int .i64 t.pos, .slice Dd ts.length d] 61)).drew (wr.heap.size + 1) 6 (some ⟨wr.heap.size, 0, none⟩) 1 (Ob.cells ⟨t, ts.map firstV, Dd, d⟩) := by
              have := Reads.new wr #[.int .i64 t.k, .string t.name, .int .i64 t.dims, .int .i64 t.elem, .int .i64 t.pos, .slice Dd ts.length d] 61 (0, 0) 1 6 rfl
              have h := Reads.drew this
              simpa [Ob.cells] using h
            obtain ⟨i0, hi0, hz0, hz1, hz2⟩ := info_parts infoO
            have hosl : os.length ≤ 1024 := by omega
            obtain ⟨A5, c5, w5, hrun5, hown5, hg5, hat5⟩ := run_append_any (P := Try.prog) (wr.alloc (.cells #[.int .i64 t.k, .string t.name, .int .i64 t.dims, .int .i64 t.elem, .int .i64 t.pos, .slice Dd ts.length d] 61)).drew base 53 53 61 i0 _ 6 72 Try.underlying53 hi0 hz0 hz1 hz2 rfl (by omega) (.slice A os.length c) os.length (cellsO os) hLa.1
              (wr.heap.size + 1) (some ⟨wr.heap.size, 0, none⟩) 1 1 (Ob.cells ⟨t, ts.map firstV, Dd, d⟩) hR1 (ob_one _) (by unfold maxLen; omega) (by omega) (by have := hNB.size; omega)
            have hB5 := Blk.grown hBa hg5 hgv.symm
            have c05 : w5.cell? ⟨g, 0, none⟩ = some (.slice A os.length c) := hB5.cell 0
            have f05 := hB5.frozen 0
            have c06 : (w5.setCell ⟨g, 0, none⟩ (.slice A5 (os.length + 1) c5)).cell? ⟨g, 0, none⟩ = some (.slice A5 (os.length + 1) c5) := (hB5.set_ 0 _).cell 0
            have hml : (ts.map firstV).length = ts.length := List.length_map _
            have hP := rh_push (o := ⟨t, ts.map firstV, Dd, d⟩) (n2 := os.length + 1) rfl hB hL hbg hFg hFv hFu hFw hNB hown5 hg5 hat5 (by
              unfold Ob.sl
              dsimp only
              rw [hml]
              exact own_base hOa (by omega))
            rw [hmp] at hP
            replace hP := Lib.hid hP
            replace hml := Lib.hid hml
            replace hln := Lib.hid hln
            clear hown5 hR1 hOa hBa hS3 hLa hL hB hYa hmp
            go_wp2_with fail
            go_region
            all_goals
              go_wp2_with fail
              exact bodyPost_ret (v := .tuple #[.int .i64 ((os.length : Int) + 1), .int .i64 0]) (by simp [results, Try.results49, go_sem]) rfl ⟨by rw [hln.out], hP.out⟩
      · have b1 : decide (most ≤ (ol.length : Int)) = true := decide_eq_true (by omega)
        unfold rR rE rL
        rw [if_neg hfull, if_neg hfull, if_neg hfull]
        go_enter Try.func49, Try.ntmps49
        go_wp2_with fail
        obtain ⟨A, c, os, hB, hL, hmp, hbg, hFg, hFv, hFu, hFw⟩ := id hS
        have hln : os.length = ol.length := by rw [← hmp, List.length_map]
        have c0 : ((w.alloc (.cells #[.int .i64 t.k, .string t.name, .int .i64 t.dims, .int .i64 t.elem, .int .i64 t.pos] 30)).alloc (.cells #[.int .i64 f.k, .string f.name, .int .i64 f.dims, .int .i64 f.elem, .int .i64 f.pos] 30)).cell? ⟨g, 0, none⟩ = some (.slice A ol.length c) := by rw [← hln]; exact hB.cell 0
        have c1 : ((w.alloc (.cells #[.int .i64 t.k, .string t.name, .int .i64 t.dims, .int .i64 t.elem, .int .i64 t.pos] 30)).alloc (.cells #[.int .i64 f.k, .string f.name, .int .i64 f.dims, .int .i64 f.elem, .int .i64 f.pos] 30)).cell? ⟨g, 1, none⟩ = some (.int .i64 most) := hB.cell 1
        generalize hW : (w.alloc (.cells #[.int .i64 t.k, .string t.name, .int .i64 t.dims, .int .i64 t.elem, .int .i64 t.pos] 30)).alloc (.cells #[.int .i64 f.k, .string f.name, .int .i64 f.dims, .int .i64 f.elem, .int .i64 f.pos] 30) = W at *
        go_region
        go_wp2_with fail
        exact bodyPost_ret (v := .tuple #[.int .i64 0, .int .i64 140]) (by simp [results, Try.results49, go_sem]) rfl ⟨rfl, h.grow (below_drewN hb1 _)⟩
end Go.Proofs.Ytpfgdgelnehjpaa
