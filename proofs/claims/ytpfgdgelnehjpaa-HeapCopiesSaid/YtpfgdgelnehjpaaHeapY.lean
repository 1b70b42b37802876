/- Both heaps under one call. -/
import Derived.Test.YtpfgdgelnehjpaaHeapT
import Derived.Deep.RegionHeldLaw
import Derived.Laws.StructEq
namespace Go.Proofs.Ytpfgdgelnehjpaa
open Go.RowKit
set_option linter.unusedVariables false
set_option linter.unusedSimpArgs false

theorem dataV_more {vs fs : List Vl} {p : Pc} (h : p.lo ≤ p.hi ∧ p.hi ≤ vs.length) : dataV (vs ++ fs) p = dataV vs p := by
  unfold dataV
  rw [List.drop_append_of_le_length (by omega), List.take_append_of_le_length (by rw [List.length_drop]; omega)]
theorem objs_push {ps : List Pc} {vs : List Vl} (h : WS ps vs) (t : Ty) (fs : List Vl) (n : Nat) (hn : fs.length = n) : objs (ps ++ [⟨t, vs.length, vs.length + n⟩]) (vs ++ fs) = objs ps vs ++ [(t, fs)] := by
  unfold objs
  rw [List.map_append]
  congr 1
  · exact List.map_congr_left fun p hp => by rw [dataV_more (h.wp p hp)]
  · have : dataV (vs ++ fs) ⟨t, vs.length, vs.length + n⟩ = fs := by
      unfold dataV
      dsimp only
      rw [List.drop_left', Nat.add_sub_cancel_left, ← hn, List.take_length]
      rfl
    simp [this]
theorem objs_add {ps : List Pc} {vs : List Vl} (h : WS ps vs) (most : Int) (t : Ty) (ts : List Ty) : objs (addP ps vs most t ts) (addV ps vs most ts) = rL (objs ps vs) most t ts := by
  unfold addP addV rL
  rw [objs_len_eq]
  by_cases hf : (ps.length : Int) < most
  · rw [if_pos hf, if_pos hf, if_pos hf]; exact objs_push h t _ _ (List.length_map _)
  · rw [if_neg hf, if_neg hf, if_neg hf]
theorem objs_mk {ps : List Pc} {vs : List Vl} (h : WS ps vs) (most : Int) (t : Ty) (ts : List Ty) : (if 1024 < ts.length then objs ps vs else rL (objs ps vs) most t ts) = objs (mkP ps vs most t ts) (mkV ps vs most ts) := by
  unfold mkP mkV
  by_cases hf : 1024 < ts.length
  · rw [if_pos hf, if_pos hf, if_pos hf]
  · rw [if_neg hf, if_neg hf, if_neg hf]; exact (objs_add h most t ts).symm
theorem objs_ar {ps : List Pc} {vs : List Vl} (h : WS ps vs) (most : Int) (t f : Ty) (n : Int) : (if n < 0 ∨ 1024 < n then objs ps vs else rL (objs ps vs) most t (List.replicate n.toNat f)) = objs (arP ps vs most t f n) (arV ps vs most f n) := by
  unfold arP arV
  by_cases hf : n < 0 ∨ 1024 < n
  · rw [if_pos hf, if_pos hf, if_pos hf]
  · rw [if_neg hf, if_neg hf, if_neg hf]; exact (objs_add h most t _).symm
theorem rR_objs (ps : List Pc) (vs : List Vl) (most : Int) : rR (objs ps vs) most = mkR ps most := by unfold rR mkR; rw [objs_len_eq]
theorem rE_objs (ps : List Pc) (vs : List Vl) (most : Int) : rE (objs ps vs) most = mkE ps most := by unfold rE mkE; rw [objs_len_eq]
theorem rsL_objs {ps : List Pc} {vs : List Vl} (h : WS ps vs) (r i : Int) (v : Vl) : rsL (objs ps vs) r i v = objs ps (setV ps vs r i v) := by
  unfold rsL
  rw [rsC_objs]
  by_cases hc : setC ps vs r i v = 0
  · rw [if_pos hc]
    have h0 : getC ps vs r i = 0 := by
      unfold setC at hc
      split at hc
      · assumption
      · exact hc
    have hk : (getV ps vs r i).k = v.k := by
      unfold setC at hc
      rw [if_pos h0] at hc
      split at hc
      · assumption
      · cases hc
    rcases obj_cases ps vs r with ⟨_, ho⟩ | ⟨k, p, rfl, hpk, ho⟩
    · unfold getC at h0; rw [ho] at h0; cases h0
    · have hw := h.wp p (List.mem_of_getElem? hpk)
      have hl := dataV_len hw
      have hi : ¬ (i < 0 ∨ ((dataV vs p).length : Int) ≤ i) := fun hi => by
        unfold getC at h0
        rw [ho] at h0
        dsimp only at h0
        rw [if_pos hi] at h0
        cases h0
      have hs : setV ps vs ((k : Int) + 1) i v = vs.set (p.lo + i.toNat) v := by
        unfold setV
        rw [if_pos hc, show ((k : Int) + 1 - 1).toNat = k by omega, hpk]
      rw [hs, objs_set v h hpk (by omega), show ((k : Int) + 1 - 1).toNat = k by omega]
      have e : (objs ps vs)[k]? = some (p.t, dataV vs p) := by unfold objs; rw [List.getElem?_map, hpk]; rfl
      rw [e]
  · rw [if_neg hc]
    unfold setV
    rw [if_neg hc]
theorem _root_.Go.Proofs.Ytpfgdgelnehjpaa.WS.setV_ {ps : List Pc} {vs : List Vl} (h : WS ps vs) (r i : Int) (v : Vl) : WS ps (setV ps vs r i v) := by
  unfold setV
  split
  · split
    · exact h.set_ _ _
    · exact h
  · exact h
theorem objs_short {ps : List Pc} {vs : List Vl} (hv : vs.length ≤ 1048576) : ∀ x ∈ objs ps vs, x.2.length ≤ 1048576 := by
  intro x hx
  unfold objs at hx
  obtain ⟨p, _, rfl⟩ := List.mem_map.1 hx
  dsimp only
  unfold dataV
  rw [List.length_take, List.length_drop]
  omega

/-- Both heaps stand in w, as they have become since W1. -/
structure TwoH (B g gR : Nat) (W1 : World) (F1 G1 : Nat → Prop) (most : Int) (ps : List Pc) (vs : List Vl) (ol : List (Ty × List Vl)) (w : World) : Prop where
  ex : ∃ F G, HS w F B g ps vs most ∧ RH w G B gR ol most ∧ (∀ k, F k → ¬ G k) ∧ (∀ k, k < W1.heap.size → F k → F1 k) ∧ (∀ k, k < W1.heap.size → G k → G1 k)
  turned : Turned (fun k => F1 k ∨ G1 k) W1 w
section
variable {B g gR : Nat} {W1 : World} {F1 G1 : Nat → Prop} {most : Int} {ps ps' : List Pc} {vs vs' : List Vl} {ol ol' : List (Ty × List Vl)} {w w' : World}
theorem TwoH.start (h1 : HS W1 F1 B g ps vs most) (h2 : RH W1 G1 B gR ol most) (hd : ∀ k, F1 k → ¬ G1 k) : TwoH B g gR W1 F1 G1 most ps vs ol W1 :=
  ⟨⟨F1, G1, h1, h2, hd, fun _ _ h => h, fun _ _ h => h⟩, Turned.refl _ _⟩
theorem TwoH.below (h : TwoH B g gR W1 F1 G1 most ps vs ol w) (hb : Below w.heap.size w w') : TwoH B g gR W1 F1 G1 most ps vs ol w' := by
  obtain ⟨⟨F, G, h1, h2, h3, h4, h5⟩, hT⟩ := h
  exact ⟨⟨F, G, h1.below hb, h2.below hb, h3, h4, h5⟩, hT.trans (Turned.of_below (F := fun _ => False) hb) fun _ _ h => h.elim⟩
theorem TwoH.cell (h : TwoH B g gR W1 F1 G1 most ps vs ol w) {p : Addr} {v : Value} (hl : p.block < W1.heap.size) (hF : ¬ F1 p.block) (hG : ¬ G1 p.block) (hc : W1.cell? p = some v) : w.cell? p = some v :=
  (World.cell?_of_block (h.turned.block p.block hl (fun hh => hh.elim hF hG))).trans hc
theorem TwoH.hstep {f : FuncId} {args : Array Value} {v : Value} (h : TwoH B g gR W1 F1 G1 most ps vs ol w) (hc : ∀ F, HS w F B g ps vs most → Calls Try.prog f args w fun e w' => e = .returned v ∧ HS w' (Grow F w w') B g ps' vs' most ∧ Turned F w w') :
    Calls Try.prog f args w fun e w' => e = .returned v ∧ TwoH B g gR W1 F1 G1 most ps' vs' ol w' := by
  obtain ⟨⟨F, G, h1, h2, h3, h4, h5⟩, hT⟩ := h
  refine (hc F h1).mono fun e w' ⟨he, hS, hT'⟩ => ⟨he, ⟨Grow F w w', G, hS, h2.turned hT' (fun i hg hf => h3 i hf hg), ?_, ?_, h5⟩, ?_⟩
  · rintro k (hk | hk) hg
    · exact h3 k hk hg
    · have := h2.lt k hg; omega
  · rintro k hk (hf | hf)
    · exact h4 k hk hf
    · have := hT.size; omega
  · exact hT.trans hT' fun i hi hf => .inl (h4 i hi hf)
theorem TwoH.rstep {f : FuncId} {args : Array Value} {v : Value} (h : TwoH B g gR W1 F1 G1 most ps vs ol w) (hc : ∀ G, RH w G B gR ol most → Calls Try.prog f args w fun e w' => e = .returned v ∧ RH w' (Grow G w w') B gR ol' most ∧ Turned G w w') :
    Calls Try.prog f args w fun e w' => e = .returned v ∧ TwoH B g gR W1 F1 G1 most ps vs ol' w' := by
  obtain ⟨⟨F, G, h1, h2, h3, h4, h5⟩, hT⟩ := h
  refine (hc G h2).mono fun e w' ⟨he, hS, hT'⟩ => ⟨he, ⟨F, Grow G w w', h1.turned hT' (fun i hf hg => h3 i hf hg), hS, ?_, h4, ?_⟩, ?_⟩
  · rintro k hf (hk | hk)
    · exact h3 k hf hk
    · have := h1.lt k hf; omega
  · rintro k hk (hf | hf)
    · exact h5 k hk hf
    · have := hT.size; omega
  · exact hT.trans hT' fun i hi hf => .inr (h5 i hi hf)
theorem TwoH.rebase {W0 : World} (hb : Below W0.heap.size W0 W1) (h : TwoH B g gR W1 F1 G1 most ps vs ol w) : TwoH B g gR W0 F1 G1 most ps vs ol w := by
  obtain ⟨⟨F, G, h1, h2, h3, h4, h5⟩, hT⟩ := h
  exact ⟨⟨F, G, h1, h2, h3, fun k hk => h4 k (Nat.lt_of_lt_of_le hk hb.size), fun k hk => h5 k (Nat.lt_of_lt_of_le hk hb.size)⟩, (Turned.of_below hb).trans hT fun _ _ h => h⟩
theorem TwoH.hs (h : TwoH B g gR W1 F1 G1 most ps vs ol w) : ∃ F, HS w F B g ps vs most := by
  obtain ⟨⟨F, G, h1, h2, h3, h4, h5⟩, hT⟩ := h
  exact ⟨F, h1⟩
theorem TwoH.rh (h : TwoH B g gR W1 F1 G1 most ps vs ol w) : ∃ G, RH w G B gR ol most := by
  obtain ⟨⟨F, G, h1, h2, h3, h4, h5⟩, hT⟩ := h
  exact ⟨G, h2⟩
theorem TwoH.get (h : TwoH B g gR W1 F1 G1 most ps vs ol w) (r i : Int) (hw : WP ps vs) (hps : ps.length ≤ 1024) (hvs : vs.length ≤ 1048576) :
    Calls Try.prog 25 #[.pointer (some ⟨g, 0, none⟩), .int .i64 r, .int .i64 i] w fun e w' => e = .returned (.tuple #[(getV ps vs r i).val, .int .i64 (getC ps vs r i)]) ∧ Below w.heap.size w w' := by
  obtain ⟨F', h'⟩ := h.hs
  exact get_any g r i ps vs most w F' B h' hw hps hvs
theorem TwoH.rget (h : TwoH B g gR W1 F1 G1 most ps vs ol w) (r i : Int) (hol : ol.length ≤ 1024) (hdl : ∀ x ∈ ol, x.2.length ≤ 1048576) :
    Calls Try.prog 51 #[.pointer (some ⟨gR, 0, none⟩), .int .i64 r, .int .i64 i] w fun e w' => e = .returned (.tuple #[(rgV ol r i).val, .int .i64 (rgC ol r i)]) ∧ Below w.heap.size w w' := by
  obtain ⟨F', h'⟩ := h.rh
  exact rget_any gR r i ol most w F' B h' hol hdl
theorem TwoH.type_ (h : TwoH B g gR W1 F1 G1 most ps vs ol w) (r : Int) (hw : WP ps vs) (hps : ps.length ≤ 1024) :
    Calls Try.prog 34 #[.pointer (some ⟨g, 0, none⟩), .int .i64 r] w fun e w' => e = .returned (.tuple #[(typeV (objs ps vs) r).val, .int .i64 (typeC (objs ps vs) r)]) ∧ Below w.heap.size w w' := by
  obtain ⟨F', h'⟩ := h.hs
  exact type_any g r ps vs most w F' B h' hw hps
theorem TwoH.rtype (h : TwoH B g gR W1 F1 G1 most ps vs ol w) (r : Int) (hol : ol.length ≤ 1024) :
    Calls Try.prog 52 #[.pointer (some ⟨gR, 0, none⟩), .int .i64 r] w fun e w' => e = .returned (.tuple #[(typeV ol r).val, .int .i64 (typeC ol r)]) ∧ Below w.heap.size w w' := by
  obtain ⟨F', h'⟩ := h.rh
  exact rtype_any gR r ol most w F' B h' hol
theorem TwoH.len_ (h : TwoH B g gR W1 F1 G1 most ps vs ol w) (r : Int) (hw : WP ps vs) (hps : ps.length ≤ 1024) :
    Calls Try.prog 35 #[.pointer (some ⟨g, 0, none⟩), .int .i64 r] w fun e w' => e = .returned (.int .i64 (lenV (objs ps vs) r)) ∧ Below w.heap.size w w' := by
  obtain ⟨F', h'⟩ := h.hs
  exact len_any g r ps vs most w F' B h' hw hps
theorem TwoH.rlen (h : TwoH B g gR W1 F1 G1 most ps vs ol w) (r : Int) (hol : ol.length ≤ 1024) :
    Calls Try.prog 53 #[.pointer (some ⟨gR, 0, none⟩), .int .i64 r] w fun e w' => e = .returned (.int .i64 (lenV ol r)) ∧ w = w' := by
  obtain ⟨F', h'⟩ := h.rh
  exact rlen_any gR r ol most w F' B h' hol
end

set_option maxRecDepth 100000 in
set_option maxHeartbeats 20000000 in
theorem play_any (B g gR : Nat) (ps : List Pc) (vs : List Vl) (most : Int) (ow otk : Int) (otn : ByteArray) (otd ote otp ofk : Int) (ofn : ByteArray) (ofd ofe ofp on oi ovk ovn ovr : Int) (AL : Option Addr) (cL : Nat) (ol : List Ty) (w : World) (F G : Nat → Prop)
    (h1 : HS w F B g ps vs most) (h2 : RH w G B gR (objs ps vs) most) (hd : ∀ k, F k → ¬ G k) (hWS : WS ps vs) (hpl : (ps.length : Int) ≤ most) (hm : most ≤ 1024) (hRL : ReadsT w B AL ol) (hlm : ol.length ≤ maxLen) :
    Calls Try.prog 29 #[.pointer (some ⟨g, 0, none⟩), .pointer (some ⟨gR, 0, none⟩), .agg #[.int .i64 ow, .int .i64 otk, .string otn, .int .i64 otd, .int .i64 ote, .int .i64 otp, .int .i64 ofk, .string ofn, .int .i64 ofd, .int .i64 ofe, .int .i64 ofp, .int .i64 on, .int .i64 oi, .int .i64 ovk, .int .i64 ovn, .int .i64 ovr, .slice AL ol.length cL]] w fun e w' => e = .returned (.bool true) ∧ ∃ ps' vs', TwoH B g gR w F G most ps' vs' (objs ps' vs') w' ∧ WS ps' vs' ∧ (ps'.length : Int) ≤ most := by
  have hvl := hWS.vl
  have hps : ps.length ≤ 1024 := by omega
  have hv : vs.length ≤ 1048576 := by omega
  have hFB := fun k (hk : F k) => (h1.lt k hk).1
  have hGB := fun k (hk : G k) => (h2.lt k hk).1
  have hBw : B ≤ w.heap.size := by have := h1.lt g h1.own; omega
  have hnF : ¬ F w.heap.size := fun hf => by have := (h1.lt _ hf).2; omega
  have hnG : ¬ G w.heap.size := fun hf => by have := (h2.lt _ hf).2; omega
  have hol : (objs ps vs).length ≤ 1024 := by rw [objs_len_eq]; exact hps
  by_cases hw0 : ow = 0
  · subst hw0
    have hL := Blk.new w 52 #[.int .i64 0, .int .i64 otk, .string otn, .int .i64 otd, .int .i64 ote, .int .i64 otp, .int .i64 ofk, .string ofn, .int .i64 ofd, .int .i64 ofe, .int .i64 ofp, .int .i64 on, .int .i64 oi, .int .i64 ovk, .int .i64 ovn, .int .i64 ovr, .slice AL ol.length cL]
    have hba := b0 w (.cells #[.int .i64 0, .int .i64 otk, .string otn, .int .i64 otd, .int .i64 ote, .int .i64 otp, .int .i64 ofk, .string ofn, .int .i64 ofd, .int .i64 ofe, .int .i64 ofp, .int .i64 on, .int .i64 oi, .int .i64 ovk, .int .i64 ovn, .int .i64 ovr, .slice AL ol.length cL] 52)
    have hnL : w.heap.size < (w.alloc (.cells #[.int .i64 0, .int .i64 otk, .string otn, .int .i64 otd, .int .i64 ote, .int .i64 otp, .int .i64 ofk, .string ofn, .int .i64 ofd, .int .i64 ofe, .int .i64 ofp, .int .i64 on, .int .i64 oi, .int .i64 ovk, .int .i64 ovn, .int .i64 ovr, .slice AL ol.length cL] 52)).heap.size := by simp
    have hSa := h1.below hba
    have hRa := h2.below hba
    have hRL1 : ReadsT (w.alloc (.cells #[.int .i64 0, .int .i64 otk, .string otn, .int .i64 otd, .int .i64 ote, .int .i64 otp, .int .i64 ofk, .string ofn, .int .i64 ofd, .int .i64 ofe, .int .i64 ofp, .int .i64 on, .int .i64 oi, .int .i64 ovk, .int .i64 ovn, .int .i64 ovr, .slice AL ol.length cL] 52)) B AL ol := Reads.below hRL (hba.mono hBw)
    generalize hW1 : w.alloc (.cells #[.int .i64 0, .int .i64 otk, .string otn, .int .i64 otd, .int .i64 ote, .int .i64 otp, .int .i64 ofk, .string ofn, .int .i64 ofd, .int .i64 ofe, .int .i64 ofp, .int .i64 on, .int .i64 oi, .int .i64 ovk, .int .i64 ovn, .int .i64 ovr, .slice AL ol.length cL] 52) = W1 at *
    have hT0 : TwoH B g gR W1 F G most ps vs (objs ps vs) W1 := TwoH.start hSa hRa hd
    have z0 : W1.cell? ⟨w.heap.size, 0, none⟩ = some (.int .i64 0) := hT0.cell (p := ⟨w.heap.size, 0, none⟩) hnL hnF hnG (hL.cell 0)
    have z1 : W1.cell? ⟨w.heap.size, 1, none⟩ = some (.int .i64 otk) := hT0.cell (p := ⟨w.heap.size, 1, none⟩) hnL hnF hnG (hL.cell 1)
    have z2 : W1.cell? ⟨w.heap.size, 2, none⟩ = some (.string otn) := hT0.cell (p := ⟨w.heap.size, 2, none⟩) hnL hnF hnG (hL.cell 2)
    have z3 : W1.cell? ⟨w.heap.size, 3, none⟩ = some (.int .i64 otd) := hT0.cell (p := ⟨w.heap.size, 3, none⟩) hnL hnF hnG (hL.cell 3)
    have z4 : W1.cell? ⟨w.heap.size, 4, none⟩ = some (.int .i64 ote) := hT0.cell (p := ⟨w.heap.size, 4, none⟩) hnL hnF hnG (hL.cell 4)
    have z5 : W1.cell? ⟨w.heap.size, 5, none⟩ = some (.int .i64 otp) := hT0.cell (p := ⟨w.heap.size, 5, none⟩) hnL hnF hnG (hL.cell 5)
    have z16 : W1.cell? ⟨w.heap.size, 16, none⟩ = some (.slice AL ol.length cL) := hT0.cell (p := ⟨w.heap.size, 16, none⟩) hnL hnF hnG (hL.cell 16)
    have ga := hT0.hstep fun F' h' => hmake_any g ps vs most ⟨otk, otn, otd, ote, otp⟩ ol AL cL W1 F' B h' hm hv hRL1 hlm
    have gb := fun u (hu : TwoH B g gR W1 F G most (mkP ps vs most ⟨otk, otn, otd, ote, otp⟩ ol) (mkV ps vs most ol) (objs ps vs) u) => hu.rstep fun G' h' => rmake_any gR (objs ps vs) most ⟨otk, otn, otd, ote, otp⟩ ol AL cL u G' B h' hm (Reads.below hRL1 (hu.turned.below (Nat.le_trans hBw (Nat.le_of_lt hnL)) (fun k hk => hk.elim (fun h => hFB k h) (fun h => hGB k h)))) hlm
    rw [rR_objs, rE_objs] at gb
    unfold Ty.val at ga gb
    dsimp only at ga gb
    generalize (if 1024 < ol.length then (0 : Int) else mkR ps most) = rr at *
    generalize (if 1024 < ol.length then (1 : Int) else mkE ps most) = ee at *
    replace ga := Lib.hid ga
    replace gb := fun u hu => Lib.hid (gb u hu)
    clear h1 h2 hSa hRa
    go_enter Try.func29, Try.ntmps29
    go_wp2_with fail
    refine ga.out.mono ?_
    rintro _ w2 ⟨rfl, hT2⟩
    have y1 : w2.cell? ⟨w.heap.size, 1, none⟩ = some (.int .i64 otk) := hT2.cell (p := ⟨w.heap.size, 1, none⟩) hnL hnF hnG (hL.cell 1)
    have y2 : w2.cell? ⟨w.heap.size, 2, none⟩ = some (.string otn) := hT2.cell (p := ⟨w.heap.size, 2, none⟩) hnL hnF hnG (hL.cell 2)
    have y3 : w2.cell? ⟨w.heap.size, 3, none⟩ = some (.int .i64 otd) := hT2.cell (p := ⟨w.heap.size, 3, none⟩) hnL hnF hnG (hL.cell 3)
    have y4 : w2.cell? ⟨w.heap.size, 4, none⟩ = some (.int .i64 ote) := hT2.cell (p := ⟨w.heap.size, 4, none⟩) hnL hnF hnG (hL.cell 4)
    have y5 : w2.cell? ⟨w.heap.size, 5, none⟩ = some (.int .i64 otp) := hT2.cell (p := ⟨w.heap.size, 5, none⟩) hnL hnF hnG (hL.cell 5)
    have y16 : w2.cell? ⟨w.heap.size, 16, none⟩ = some (.slice AL ol.length cL) := hT2.cell (p := ⟨w.heap.size, 16, none⟩) hnL hnF hnG (hL.cell 16)
    go_wp2_with fail
    refine (gb _ hT2).out.mono ?_
    rintro _ w3 ⟨rfl, hT3⟩
    go_wp2_with fail
    go_ret
    exact ⟨by simp, _, _, hT3.rebase hba |> fun h => by rw [objs_mk hWS] at h; exact h, hWS.mk_ most _ _, mkP_len hpl _ _ _⟩
  · have q0 : (ow == 0) = false := by simpa using hw0
    by_cases hw1 : ow = 1
    · subst hw1
      clear hw0
      have hL := Blk.new w 52 #[.int .i64 1, .int .i64 otk, .string otn, .int .i64 otd, .int .i64 ote, .int .i64 otp, .int .i64 ofk, .string ofn, .int .i64 ofd, .int .i64 ofe, .int .i64 ofp, .int .i64 on, .int .i64 oi, .int .i64 ovk, .int .i64 ovn, .int .i64 ovr, .slice AL ol.length cL]
      have hba := b0 w (.cells #[.int .i64 1, .int .i64 otk, .string otn, .int .i64 otd, .int .i64 ote, .int .i64 otp, .int .i64 ofk, .string ofn, .int .i64 ofd, .int .i64 ofe, .int .i64 ofp, .int .i64 on, .int .i64 oi, .int .i64 ovk, .int .i64 ovn, .int .i64 ovr, .slice AL ol.length cL] 52)
      have hnL : w.heap.size < (w.alloc (.cells #[.int .i64 1, .int .i64 otk, .string otn, .int .i64 otd, .int .i64 ote, .int .i64 otp, .int .i64 ofk, .string ofn, .int .i64 ofd, .int .i64 ofe, .int .i64 ofp, .int .i64 on, .int .i64 oi, .int .i64 ovk, .int .i64 ovn, .int .i64 ovr, .slice AL ol.length cL] 52)).heap.size := by simp
      have hSa := h1.below hba
      have hRa := h2.below hba
      have hRL1 : ReadsT (w.alloc (.cells #[.int .i64 1, .int .i64 otk, .string otn, .int .i64 otd, .int .i64 ote, .int .i64 otp, .int .i64 ofk, .string ofn, .int .i64 ofd, .int .i64 ofe, .int .i64 ofp, .int .i64 on, .int .i64 oi, .int .i64 ovk, .int .i64 ovn, .int .i64 ovr, .slice AL ol.length cL] 52)) B AL ol := Reads.below hRL (hba.mono hBw)
      generalize hW1 : w.alloc (.cells #[.int .i64 1, .int .i64 otk, .string otn, .int .i64 otd, .int .i64 ote, .int .i64 otp, .int .i64 ofk, .string ofn, .int .i64 ofd, .int .i64 ofe, .int .i64 ofp, .int .i64 on, .int .i64 oi, .int .i64 ovk, .int .i64 ovn, .int .i64 ovr, .slice AL ol.length cL] 52) = W1 at *
      have hT0 : TwoH B g gR W1 F G most ps vs (objs ps vs) W1 := TwoH.start hSa hRa hd
      have z0 : W1.cell? ⟨w.heap.size, 0, none⟩ = some (.int .i64 1) := hT0.cell (p := ⟨w.heap.size, 0, none⟩) hnL hnF hnG (hL.cell 0)
      have z1 : W1.cell? ⟨w.heap.size, 1, none⟩ = some (.int .i64 otk) := hT0.cell (p := ⟨w.heap.size, 1, none⟩) hnL hnF hnG (hL.cell 1)
      have z2 : W1.cell? ⟨w.heap.size, 2, none⟩ = some (.string otn) := hT0.cell (p := ⟨w.heap.size, 2, none⟩) hnL hnF hnG (hL.cell 2)
      have z3 : W1.cell? ⟨w.heap.size, 3, none⟩ = some (.int .i64 otd) := hT0.cell (p := ⟨w.heap.size, 3, none⟩) hnL hnF hnG (hL.cell 3)
      have z4 : W1.cell? ⟨w.heap.size, 4, none⟩ = some (.int .i64 ote) := hT0.cell (p := ⟨w.heap.size, 4, none⟩) hnL hnF hnG (hL.cell 4)
      have z5 : W1.cell? ⟨w.heap.size, 5, none⟩ = some (.int .i64 otp) := hT0.cell (p := ⟨w.heap.size, 5, none⟩) hnL hnF hnG (hL.cell 5)
      have z6 : W1.cell? ⟨w.heap.size, 6, none⟩ = some (.int .i64 ofk) := hT0.cell (p := ⟨w.heap.size, 6, none⟩) hnL hnF hnG (hL.cell 6)
      have z7 : W1.cell? ⟨w.heap.size, 7, none⟩ = some (.string ofn) := hT0.cell (p := ⟨w.heap.size, 7, none⟩) hnL hnF hnG (hL.cell 7)
      have z8 : W1.cell? ⟨w.heap.size, 8, none⟩ = some (.int .i64 ofd) := hT0.cell (p := ⟨w.heap.size, 8, none⟩) hnL hnF hnG (hL.cell 8)
      have z9 : W1.cell? ⟨w.heap.size, 9, none⟩ = some (.int .i64 ofe) := hT0.cell (p := ⟨w.heap.size, 9, none⟩) hnL hnF hnG (hL.cell 9)
      have z10 : W1.cell? ⟨w.heap.size, 10, none⟩ = some (.int .i64 ofp) := hT0.cell (p := ⟨w.heap.size, 10, none⟩) hnL hnF hnG (hL.cell 10)
      have z11 : W1.cell? ⟨w.heap.size, 11, none⟩ = some (.int .i64 on) := hT0.cell (p := ⟨w.heap.size, 11, none⟩) hnL hnF hnG (hL.cell 11)
      have ga := hT0.hstep fun F' h' => harray_any g ps vs most ⟨otk, otn, otd, ote, otp⟩ ⟨ofk, ofn, ofd, ofe, ofp⟩ on W1 F' B h' hm hv
      have gb := fun u (hu : TwoH B g gR W1 F G most (arP ps vs most ⟨otk, otn, otd, ote, otp⟩ ⟨ofk, ofn, ofd, ofe, ofp⟩ on) (arV ps vs most ⟨ofk, ofn, ofd, ofe, ofp⟩ on) (objs ps vs) u) => hu.rstep fun G' h' => rarray_any gR (objs ps vs) most ⟨otk, otn, otd, ote, otp⟩ ⟨ofk, ofn, ofd, ofe, ofp⟩ on u G' B h' hm
      rw [rR_objs, rE_objs] at gb
      unfold arR arE at ga
      unfold Ty.val at ga gb
      dsimp only at ga gb
      generalize (if on < 0 then (0 : Int) else if 1024 < on then 0 else mkR ps most) = rr at *
      generalize (if on < 0 then (1 : Int) else if 1024 < on then 140 else mkE ps most) = ee at *
      replace ga := Lib.hid ga
      replace gb := fun u hu => Lib.hid (gb u hu)
      clear h1 h2 hSa hRa
      go_enter Try.func29, Try.ntmps29
      go_wp2_with fail
      refine ga.out.mono ?_
      rintro _ w2 ⟨rfl, hT2⟩
      have y1 : w2.cell? ⟨w.heap.size, 1, none⟩ = some (.int .i64 otk) := hT2.cell (p := ⟨w.heap.size, 1, none⟩) hnL hnF hnG (hL.cell 1)
      have y2 : w2.cell? ⟨w.heap.size, 2, none⟩ = some (.string otn) := hT2.cell (p := ⟨w.heap.size, 2, none⟩) hnL hnF hnG (hL.cell 2)
      have y3 : w2.cell? ⟨w.heap.size, 3, none⟩ = some (.int .i64 otd) := hT2.cell (p := ⟨w.heap.size, 3, none⟩) hnL hnF hnG (hL.cell 3)
      have y4 : w2.cell? ⟨w.heap.size, 4, none⟩ = some (.int .i64 ote) := hT2.cell (p := ⟨w.heap.size, 4, none⟩) hnL hnF hnG (hL.cell 4)
      have y5 : w2.cell? ⟨w.heap.size, 5, none⟩ = some (.int .i64 otp) := hT2.cell (p := ⟨w.heap.size, 5, none⟩) hnL hnF hnG (hL.cell 5)
      have y6 : w2.cell? ⟨w.heap.size, 6, none⟩ = some (.int .i64 ofk) := hT2.cell (p := ⟨w.heap.size, 6, none⟩) hnL hnF hnG (hL.cell 6)
      have y7 : w2.cell? ⟨w.heap.size, 7, none⟩ = some (.string ofn) := hT2.cell (p := ⟨w.heap.size, 7, none⟩) hnL hnF hnG (hL.cell 7)
      have y8 : w2.cell? ⟨w.heap.size, 8, none⟩ = some (.int .i64 ofd) := hT2.cell (p := ⟨w.heap.size, 8, none⟩) hnL hnF hnG (hL.cell 8)
      have y9 : w2.cell? ⟨w.heap.size, 9, none⟩ = some (.int .i64 ofe) := hT2.cell (p := ⟨w.heap.size, 9, none⟩) hnL hnF hnG (hL.cell 9)
      have y10 : w2.cell? ⟨w.heap.size, 10, none⟩ = some (.int .i64 ofp) := hT2.cell (p := ⟨w.heap.size, 10, none⟩) hnL hnF hnG (hL.cell 10)
      have y11 : w2.cell? ⟨w.heap.size, 11, none⟩ = some (.int .i64 on) := hT2.cell (p := ⟨w.heap.size, 11, none⟩) hnL hnF hnG (hL.cell 11)
      go_wp2_with fail
      refine (gb _ hT2).out.mono ?_
      rintro _ w3 ⟨rfl, hT3⟩
      go_wp2_with fail
      go_ret
      exact ⟨by simp, _, _, hT3.rebase hba |> fun h => by rw [objs_ar hWS] at h; exact h, hWS.ar most _ _ _, arP_len hpl _ _ _ _⟩
    · have q1 : (ow == 1) = false := by simpa using hw1
      by_cases hw2 : ow = 2
      · subst hw2
        clear hw0 hw1
        have hL := Blk.new w 52 #[.int .i64 2, .int .i64 otk, .string otn, .int .i64 otd, .int .i64 ote, .int .i64 otp, .int .i64 ofk, .string ofn, .int .i64 ofd, .int .i64 ofe, .int .i64 ofp, .int .i64 on, .int .i64 oi, .int .i64 ovk, .int .i64 ovn, .int .i64 ovr, .slice AL ol.length cL]
        have hba := b0 w (.cells #[.int .i64 2, .int .i64 otk, .string otn, .int .i64 otd, .int .i64 ote, .int .i64 otp, .int .i64 ofk, .string ofn, .int .i64 ofd, .int .i64 ofe, .int .i64 ofp, .int .i64 on, .int .i64 oi, .int .i64 ovk, .int .i64 ovn, .int .i64 ovr, .slice AL ol.length cL] 52)
        have hnL : w.heap.size < (w.alloc (.cells #[.int .i64 2, .int .i64 otk, .string otn, .int .i64 otd, .int .i64 ote, .int .i64 otp, .int .i64 ofk, .string ofn, .int .i64 ofd, .int .i64 ofe, .int .i64 ofp, .int .i64 on, .int .i64 oi, .int .i64 ovk, .int .i64 ovn, .int .i64 ovr, .slice AL ol.length cL] 52)).heap.size := by simp
        have hSa := h1.below hba
        have hRa := h2.below hba
        have hRL1 : ReadsT (w.alloc (.cells #[.int .i64 2, .int .i64 otk, .string otn, .int .i64 otd, .int .i64 ote, .int .i64 otp, .int .i64 ofk, .string ofn, .int .i64 ofd, .int .i64 ofe, .int .i64 ofp, .int .i64 on, .int .i64 oi, .int .i64 ovk, .int .i64 ovn, .int .i64 ovr, .slice AL ol.length cL] 52)) B AL ol := Reads.below hRL (hba.mono hBw)
        generalize hW1 : w.alloc (.cells #[.int .i64 2, .int .i64 otk, .string otn, .int .i64 otd, .int .i64 ote, .int .i64 otp, .int .i64 ofk, .string ofn, .int .i64 ofd, .int .i64 ofe, .int .i64 ofp, .int .i64 on, .int .i64 oi, .int .i64 ovk, .int .i64 ovn, .int .i64 ovr, .slice AL ol.length cL] 52) = W1 at *
        have hT0 : TwoH B g gR W1 F G most ps vs (objs ps vs) W1 := TwoH.start hSa hRa hd
        have z0 : W1.cell? ⟨w.heap.size, 0, none⟩ = some (.int .i64 2) := hT0.cell (p := ⟨w.heap.size, 0, none⟩) hnL hnF hnG (hL.cell 0)
        have z11 : W1.cell? ⟨w.heap.size, 11, none⟩ = some (.int .i64 on) := hT0.cell (p := ⟨w.heap.size, 11, none⟩) hnL hnF hnG (hL.cell 11)
        have z12 : W1.cell? ⟨w.heap.size, 12, none⟩ = some (.int .i64 oi) := hT0.cell (p := ⟨w.heap.size, 12, none⟩) hnL hnF hnG (hL.cell 12)
        have z13 : W1.cell? ⟨w.heap.size, 13, none⟩ = some (.int .i64 ovk) := hT0.cell (p := ⟨w.heap.size, 13, none⟩) hnL hnF hnG (hL.cell 13)
        have z14 : W1.cell? ⟨w.heap.size, 14, none⟩ = some (.int .i64 ovn) := hT0.cell (p := ⟨w.heap.size, 14, none⟩) hnL hnF hnG (hL.cell 14)
        have z15 : W1.cell? ⟨w.heap.size, 15, none⟩ = some (.int .i64 ovr) := hT0.cell (p := ⟨w.heap.size, 15, none⟩) hnL hnF hnG (hL.cell 15)
        have hTd := hT0.below ((Below.refl _ _).drew)
        have ga := hTd.hstep fun F' h' => set_any g on oi ⟨ovk, ovn, ovr⟩ ps vs most W1.drew F' B h' hWS.wp hps hv
        have gb := fun u (hu : TwoH B g gR W1 F G most ps (setV ps vs on oi ⟨ovk, ovn, ovr⟩) (objs ps vs) u) => hu.rstep fun G' h' => rset_any gR on oi ⟨ovk, ovn, ovr⟩ (objs ps vs) most u G' B h' hol (objs_short hv)
        rw [rsC_objs, rsL_objs hWS] at gb
        unfold Vl.val at ga gb
        dsimp only at ga gb
        generalize setC ps vs on oi ⟨ovk, ovn, ovr⟩ = rr at *
        replace ga := Lib.hid ga
        replace gb := fun u hu => Lib.hid (gb u hu)
        clear h1 h2 hSa hRa
        go_enter Try.func29, Try.ntmps29
        go_wp2_with fail
        go_region_held_law (fun w' => w'.cell? ⟨w.heap.size, 11, none⟩ = some (.int .i64 on) ∧ w'.cell? ⟨w.heap.size, 12, none⟩ = some (.int .i64 oi) ∧ w'.cell? ⟨w.heap.size, 13, none⟩ = some (.int .i64 ovk) ∧ w'.cell? ⟨w.heap.size, 14, none⟩ = some (.int .i64 ovn) ∧ w'.cell? ⟨w.heap.size, 15, none⟩ = some (.int .i64 ovr)) (go_keep)
          (first
          | (go_at_call 26
             refine ga.out.mono ?_
             rintro _ w2 ⟨rfl, hT2⟩
             have y11 : w2.cell? ⟨w.heap.size, 11, none⟩ = some (.int .i64 on) := hT2.cell (p := ⟨w.heap.size, 11, none⟩) hnL hnF hnG (hL.cell 11)
             have y12 : w2.cell? ⟨w.heap.size, 12, none⟩ = some (.int .i64 oi) := hT2.cell (p := ⟨w.heap.size, 12, none⟩) hnL hnF hnG (hL.cell 12)
             have y13 : w2.cell? ⟨w.heap.size, 13, none⟩ = some (.int .i64 ovk) := hT2.cell (p := ⟨w.heap.size, 13, none⟩) hnL hnF hnG (hL.cell 13)
             have y14 : w2.cell? ⟨w.heap.size, 14, none⟩ = some (.int .i64 ovn) := hT2.cell (p := ⟨w.heap.size, 14, none⟩) hnL hnF hnG (hL.cell 14)
             have y15 : w2.cell? ⟨w.heap.size, 15, none⟩ = some (.int .i64 ovr) := hT2.cell (p := ⟨w.heap.size, 15, none⟩) hnL hnF hnG (hL.cell 15))
          | (go_at_call 50
             refine (gb _ hT2).out.mono ?_
             rintro _ w3 ⟨rfl, hT3⟩
             have x11 : w3.cell? ⟨w.heap.size, 11, none⟩ = some (.int .i64 on) := hT3.cell (p := ⟨w.heap.size, 11, none⟩) hnL hnF hnG (hL.cell 11)
             have x12 : w3.cell? ⟨w.heap.size, 12, none⟩ = some (.int .i64 oi) := hT3.cell (p := ⟨w.heap.size, 12, none⟩) hnL hnF hnG (hL.cell 12)
             have x13 : w3.cell? ⟨w.heap.size, 13, none⟩ = some (.int .i64 ovk) := hT3.cell (p := ⟨w.heap.size, 13, none⟩) hnL hnF hnG (hL.cell 13)
             have x14 : w3.cell? ⟨w.heap.size, 14, none⟩ = some (.int .i64 ovn) := hT3.cell (p := ⟨w.heap.size, 14, none⟩) hnL hnF hnG (hL.cell 14)
             have x15 : w3.cell? ⟨w.heap.size, 15, none⟩ = some (.int .i64 ovr) := hT3.cell (p := ⟨w.heap.size, 15, none⟩) hnL hnF hnG (hL.cell 15)))
        all_goals
          go_wp2_with fail
          go_ret
          exact ⟨by simp, _, _, hT3.rebase hba, hWS.setV_ _ _ _, hpl⟩
      · have q2 : (ow == 2) = false := by simpa using hw2
        clear hw0 hw1 hw2
        have hL := Blk.new w 52 #[.int .i64 ow, .int .i64 otk, .string otn, .int .i64 otd, .int .i64 ote, .int .i64 otp, .int .i64 ofk, .string ofn, .int .i64 ofd, .int .i64 ofe, .int .i64 ofp, .int .i64 on, .int .i64 oi, .int .i64 ovk, .int .i64 ovn, .int .i64 ovr, .slice AL ol.length cL]
        have hba := b0 w (.cells #[.int .i64 ow, .int .i64 otk, .string otn, .int .i64 otd, .int .i64 ote, .int .i64 otp, .int .i64 ofk, .string ofn, .int .i64 ofd, .int .i64 ofe, .int .i64 ofp, .int .i64 on, .int .i64 oi, .int .i64 ovk, .int .i64 ovn, .int .i64 ovr, .slice AL ol.length cL] 52)
        have hnL : w.heap.size < (w.alloc (.cells #[.int .i64 ow, .int .i64 otk, .string otn, .int .i64 otd, .int .i64 ote, .int .i64 otp, .int .i64 ofk, .string ofn, .int .i64 ofd, .int .i64 ofe, .int .i64 ofp, .int .i64 on, .int .i64 oi, .int .i64 ovk, .int .i64 ovn, .int .i64 ovr, .slice AL ol.length cL] 52)).heap.size := by simp
        have hSa := h1.below hba
        have hRa := h2.below hba
        have hRL1 : ReadsT (w.alloc (.cells #[.int .i64 ow, .int .i64 otk, .string otn, .int .i64 otd, .int .i64 ote, .int .i64 otp, .int .i64 ofk, .string ofn, .int .i64 ofd, .int .i64 ofe, .int .i64 ofp, .int .i64 on, .int .i64 oi, .int .i64 ovk, .int .i64 ovn, .int .i64 ovr, .slice AL ol.length cL] 52)) B AL ol := Reads.below hRL (hba.mono hBw)
        generalize hW1 : w.alloc (.cells #[.int .i64 ow, .int .i64 otk, .string otn, .int .i64 otd, .int .i64 ote, .int .i64 otp, .int .i64 ofk, .string ofn, .int .i64 ofd, .int .i64 ofe, .int .i64 ofp, .int .i64 on, .int .i64 oi, .int .i64 ovk, .int .i64 ovn, .int .i64 ovr, .slice AL ol.length cL] 52) = W1 at *
        have hT0 : TwoH B g gR W1 F G most ps vs (objs ps vs) W1 := TwoH.start hSa hRa hd
        have z0 : W1.cell? ⟨w.heap.size, 0, none⟩ = some (.int .i64 ow) := hT0.cell (p := ⟨w.heap.size, 0, none⟩) hnL hnF hnG (hL.cell 0)
        have z11 : W1.cell? ⟨w.heap.size, 11, none⟩ = some (.int .i64 on) := hT0.cell (p := ⟨w.heap.size, 11, none⟩) hnL hnF hnG (hL.cell 11)
        have z12 : W1.cell? ⟨w.heap.size, 12, none⟩ = some (.int .i64 oi) := hT0.cell (p := ⟨w.heap.size, 12, none⟩) hnL hnF hnG (hL.cell 12)
        have hol1 := hol
        obtain ⟨⟨gk, gn, gr⟩, hgv⟩ : ∃ v, getV ps vs on oi = v := ⟨_, rfl⟩
        obtain ⟨gc, hgc⟩ : ∃ c, getC ps vs on oi = c := ⟨_, rfl⟩
        obtain ⟨⟨tk, tn, td, te, tp⟩, htv⟩ : ∃ v, typeV (objs ps vs) on = v := ⟨_, rfl⟩
        obtain ⟨tc, htc⟩ : ∃ c, typeC (objs ps vs) on = c := ⟨_, rfl⟩
        obtain ⟨ln, hln⟩ : ∃ c, lenV (objs ps vs) on = c := ⟨_, rfl⟩
        have ga := fun u (hu : TwoH B g gR W1 F G most ps vs (objs ps vs) u) => hu.get on oi hWS.wp hps hv
        have gb := fun u (hu : TwoH B g gR W1 F G most ps vs (objs ps vs) u) => hu.rget on oi hol (objs_short hv)
        have gt := fun u (hu : TwoH B g gR W1 F G most ps vs (objs ps vs) u) => hu.type_ on hWS.wp hps
        have gu := fun u (hu : TwoH B g gR W1 F G most ps vs (objs ps vs) u) => hu.rtype on hol
        have gl := fun u (hu : TwoH B g gR W1 F G most ps vs (objs ps vs) u) => hu.len_ on hWS.wp hps
        have gm := fun u (hu : TwoH B g gR W1 F G most ps vs (objs ps vs) u) => hu.rlen on hol
        rw [hgv, hgc] at ga
        rw [rgV_objs, rgC_objs, hgv, hgc] at gb
        rw [htv, htc] at gt gu
        rw [hln] at gl gm
        unfold Vl.val at ga gb
        unfold Ty.val at gt gu
        dsimp only at ga gb gt gu
        replace ga := fun u hu => Lib.hid (ga u hu)
        replace gb := fun u hu => Lib.hid (gb u hu)
        replace gt := fun u hu => Lib.hid (gt u hu)
        replace gu := fun u hu => Lib.hid (gu u hu)
        replace gl := fun u hu => Lib.hid (gl u hu)
        replace gm := fun u hu => Lib.hid (gm u hu)
        clear h1 h2 hSa hRa hgv hgc htv htc hln
        go_enter Try.func29, Try.ntmps29
        go_wp2_with fail
        refine (ga _ hT0).out.mono ?_
        rintro _ w2 ⟨rfl, hb2⟩
        have hc2 := ba hb2 (.cells #[.int .i64 gk, .int .i64 gn, .int .i64 gr] 49)
        have hT2 := hT0.below hc2
        have hX1 := Blk.new w2 49 #[.int .i64 gk, .int .i64 gn, .int .i64 gr]
        generalize hW2 : w2.alloc (.cells #[.int .i64 gk, .int .i64 gn, .int .i64 gr] 49) = v2 at *
        have y11 : v2.cell? ⟨w.heap.size, 11, none⟩ = some (.int .i64 on) := hT2.cell (p := ⟨w.heap.size, 11, none⟩) hnL hnF hnG (hL.cell 11)
        have y12 : v2.cell? ⟨w.heap.size, 12, none⟩ = some (.int .i64 oi) := hT2.cell (p := ⟨w.heap.size, 12, none⟩) hnL hnF hnG (hL.cell 12)
        go_wp2_with fail
        refine (gb _ hT2).out.mono ?_
        rintro _ w3 ⟨rfl, hb3⟩
        have hc3 := ba hb3 (.cells #[.int .i64 gk, .int .i64 gn, .int .i64 gr] 49)
        have hT3 := hT2.below hc3
        have hX1 := hX1.below hc3 hX1.lt
        have hX2 := Blk.new w3 49 #[.int .i64 gk, .int .i64 gn, .int .i64 gr]
        generalize hW3 : w3.alloc (.cells #[.int .i64 gk, .int .i64 gn, .int .i64 gr] 49) = v3 at *
        have x11 : v3.cell? ⟨w.heap.size, 11, none⟩ = some (.int .i64 on) := hT3.cell (p := ⟨w.heap.size, 11, none⟩) hnL hnF hnG (hL.cell 11)
        have x12 : v3.cell? ⟨w.heap.size, 12, none⟩ = some (.int .i64 oi) := hT3.cell (p := ⟨w.heap.size, 12, none⟩) hnL hnF hnG (hL.cell 12)
        go_wp2_with fail
        refine (gt _ hT3).out.mono ?_
        rintro _ w4 ⟨rfl, hb4⟩
        have hc4 := ba hb4 (.cells #[.int .i64 tk, .string tn, .int .i64 td, .int .i64 te, .int .i64 tp] 30)
        have hT4 := hT3.below hc4
        have hX1 := hX1.below hc4 hX1.lt
        have hX2 := hX2.below hc4 hX2.lt
        have hX3 := Blk.new w4 30 #[.int .i64 tk, .string tn, .int .i64 td, .int .i64 te, .int .i64 tp]
        generalize hW4 : w4.alloc (.cells #[.int .i64 tk, .string tn, .int .i64 td, .int .i64 te, .int .i64 tp] 30) = v4 at *
        have u11 : v4.cell? ⟨w.heap.size, 11, none⟩ = some (.int .i64 on) := hT4.cell (p := ⟨w.heap.size, 11, none⟩) hnL hnF hnG (hL.cell 11)
        go_wp2_with fail
        refine (gu _ hT4).out.mono ?_
        rintro _ w5 ⟨rfl, hb5⟩
        have hc5 := ba hb5 (.cells #[.int .i64 tk, .string tn, .int .i64 td, .int .i64 te, .int .i64 tp] 30)
        have hT5 := hT4.below hc5
        have hX1 := hX1.below hc5 hX1.lt
        have hX2 := hX2.below hc5 hX2.lt
        have hX3 := hX3.below hc5 hX3.lt
        have hX4 := Blk.new w5 30 #[.int .i64 tk, .string tn, .int .i64 td, .int .i64 te, .int .i64 tp]
        generalize hW5 : w5.alloc (.cells #[.int .i64 tk, .string tn, .int .i64 td, .int .i64 te, .int .i64 tp] 30) = v5 at *
        have r11 : v5.cell? ⟨w.heap.size, 11, none⟩ = some (.int .i64 on) := hT5.cell (p := ⟨w.heap.size, 11, none⟩) hnL hnF hnG (hL.cell 11)
        generalize hb1' : w2.heap.size = b1 at *
        generalize hb2' : w3.heap.size = b2 at *
        generalize hb3' : w4.heap.size = b3 at *
        generalize hb4' : w5.heap.size = b4 at *
        have m0 : v5.cell? ⟨b1, 0, none⟩ = some (.int .i64 gk) := hX1.cell 0
        have m1 : v5.cell? ⟨b1, 1, none⟩ = some (.int .i64 gn) := hX1.cell 1
        have m2 : v5.cell? ⟨b1, 2, none⟩ = some (.int .i64 gr) := hX1.cell 2
        have n0 : v5.cell? ⟨b2, 0, none⟩ = some (.int .i64 gk) := hX2.cell 0
        have n1 : v5.cell? ⟨b2, 1, none⟩ = some (.int .i64 gn) := hX2.cell 1
        have n2 : v5.cell? ⟨b2, 2, none⟩ = some (.int .i64 gr) := hX2.cell 2
        have p0 : v5.cell? ⟨b3, 0, none⟩ = some (.int .i64 tk) := hX3.cell 0
        have p1 : v5.cell? ⟨b3, 1, none⟩ = some (.string tn) := hX3.cell 1
        have p2 : v5.cell? ⟨b3, 2, none⟩ = some (.int .i64 td) := hX3.cell 2
        have p3 : v5.cell? ⟨b3, 3, none⟩ = some (.int .i64 te) := hX3.cell 3
        have p4 : v5.cell? ⟨b3, 4, none⟩ = some (.int .i64 tp) := hX3.cell 4
        have q0 : v5.cell? ⟨b4, 0, none⟩ = some (.int .i64 tk) := hX4.cell 0
        have q1 : v5.cell? ⟨b4, 1, none⟩ = some (.string tn) := hX4.cell 1
        have q2 : v5.cell? ⟨b4, 2, none⟩ = some (.int .i64 td) := hX4.cell 2
        have q3 : v5.cell? ⟨b4, 3, none⟩ = some (.int .i64 te) := hX4.cell 3
        have q4 : v5.cell? ⟨b4, 4, none⟩ = some (.int .i64 tp) := hX4.cell 4
        have hTd := hT5.below ((Below.refl _ _).drew)
        clear ga gb gt gu hW2 hW3 hW4 hb2 hb3 hb4 hb5 hc2 hc3 hc4 hc5 hT2 hT3 hT4
        go_wp2_with fail
        go_region_held_law (fun w' => w'.cell? ⟨w.heap.size, 11, none⟩ = some (.int .i64 on) ∧ w'.cell? ⟨b1, 0, none⟩ = some (.int .i64 gk) ∧ w'.cell? ⟨b1, 1, none⟩ = some (.int .i64 gn) ∧ w'.cell? ⟨b1, 2, none⟩ = some (.int .i64 gr) ∧ w'.cell? ⟨b2, 0, none⟩ = some (.int .i64 gk) ∧ w'.cell? ⟨b2, 1, none⟩ = some (.int .i64 gn) ∧ w'.cell? ⟨b2, 2, none⟩ = some (.int .i64 gr) ∧ w'.cell? ⟨b3, 0, none⟩ = some (.int .i64 tk) ∧ w'.cell? ⟨b3, 1, none⟩ = some (.string tn) ∧ w'.cell? ⟨b3, 2, none⟩ = some (.int .i64 td) ∧ w'.cell? ⟨b3, 3, none⟩ = some (.int .i64 te) ∧ w'.cell? ⟨b3, 4, none⟩ = some (.int .i64 tp) ∧ w'.cell? ⟨b4, 0, none⟩ = some (.int .i64 tk) ∧ w'.cell? ⟨b4, 1, none⟩ = some (.string tn) ∧ w'.cell? ⟨b4, 2, none⟩ = some (.int .i64 td) ∧ w'.cell? ⟨b4, 3, none⟩ = some (.int .i64 te) ∧ w'.cell? ⟨b4, 4, none⟩ = some (.int .i64 tp)) (go_keep)
          (first
          | (go_at_call 35
             refine (gl _ hTd).out.mono ?_
             rintro _ w6 ⟨rfl, hb6⟩
             have hb6' : Below v5.heap.size v5 w6 := (Below.refl _ _).drew.trans hb6
             have hT6 := hTd.below hb6
             have k11 : w6.cell? ⟨w.heap.size, 11, none⟩ = some (.int .i64 on) := hT6.cell (p := ⟨w.heap.size, 11, none⟩) hnL hnF hnG (hL.cell 11)
             have hX1' := hX1.below hb6' hX1.lt
             have hX2' := hX2.below hb6' hX2.lt
             have hX3' := hX3.below hb6' hX3.lt
             have hX4' := hX4.below hb6' hX4.lt
             have m60 : w6.cell? ⟨b1, 0, none⟩ = some (.int .i64 gk) := hX1'.cell 0
             have m61 : w6.cell? ⟨b1, 1, none⟩ = some (.int .i64 gn) := hX1'.cell 1
             have m62 : w6.cell? ⟨b1, 2, none⟩ = some (.int .i64 gr) := hX1'.cell 2
             have n60 : w6.cell? ⟨b2, 0, none⟩ = some (.int .i64 gk) := hX2'.cell 0
             have n61 : w6.cell? ⟨b2, 1, none⟩ = some (.int .i64 gn) := hX2'.cell 1
             have n62 : w6.cell? ⟨b2, 2, none⟩ = some (.int .i64 gr) := hX2'.cell 2
             have p60 : w6.cell? ⟨b3, 0, none⟩ = some (.int .i64 tk) := hX3'.cell 0
             have p61 : w6.cell? ⟨b3, 1, none⟩ = some (.string tn) := hX3'.cell 1
             have p62 : w6.cell? ⟨b3, 2, none⟩ = some (.int .i64 td) := hX3'.cell 2
             have p63 : w6.cell? ⟨b3, 3, none⟩ = some (.int .i64 te) := hX3'.cell 3
             have p64 : w6.cell? ⟨b3, 4, none⟩ = some (.int .i64 tp) := hX3'.cell 4
             have q60 : w6.cell? ⟨b4, 0, none⟩ = some (.int .i64 tk) := hX4'.cell 0
             have q61 : w6.cell? ⟨b4, 1, none⟩ = some (.string tn) := hX4'.cell 1
             have q62 : w6.cell? ⟨b4, 2, none⟩ = some (.int .i64 td) := hX4'.cell 2
             have q63 : w6.cell? ⟨b4, 3, none⟩ = some (.int .i64 te) := hX4'.cell 3
             have q64 : w6.cell? ⟨b4, 4, none⟩ = some (.int .i64 tp) := hX4'.cell 4)
          | (go_at_call 53
             refine (gm _ hT6).out.mono ?_
             rintro _ _ ⟨rfl, rfl⟩))
        all_goals
          go_wp2_with fail
          go_ret
          exact ⟨by simp, _, _, hT6.rebase hba, hWS, hpl⟩
end Go.Proofs.Ytpfgdgelnehjpaa
