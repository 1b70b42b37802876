/- HeapCopies: a copy has the same, and what is done to one is not seen in the other. -/
import Derived.Test.YtpfgdgelnehjpaaHeapC
import Derived.Test.YtpfgdgelnehjpaaHeapY
import Derived.Test.YtpfgdgelnehjpaaOpenH
import Derived.Test.YtpfgdgelnehjpaaNarrow
import Derived.Deep.RegionHeldLaw
import Derived.Deep.CutBlock
import Derived.Test.YtpfgdgelnehjpaaHead
import Derived.Test.YtpfgdgelnehjpaaOpenG
import Derived.Deep.RegionHeld3
import Derived.Lib.SmallJoins
import Derived.ProofKit
import Derived.OpenShut
import Derived.ShutString
import Derived.ChangeOld
import Derived.Laws.StructEq
namespace Go.Proofs.Ytpfgdgelnehjpaa.HeapCopiesP
open Go.ChangeShapes Go.WideShapes Go.ChangeAt Go.RowKit
open Go.ChangeMaps (open_string shut_string)
set_option linter.unusedVariables false

theorem own : ownKnob Try.prog.godebug = none := by kernel_rfl
theorem laidOut : laidOutB Try.prog = true := by kernel_rfl
theorem bnext {a b c : World} (h : Below a.heap.size a b) (k : Below b.heap.size b c) : Below a.heap.size a c := h.trans (k.mono h.size)
set_option linter.unusedSimpArgs false
theorem objs_short2 {os : List Ob} {ps : List Pc} {vs : List Vl} (h : os.map Ob.it = objs ps vs) (hv : vs.length ≤ 1048576) : ∀ o ∈ os, o.d.length ≤ 1048576 := by
  intro o ho
  have h1 : Ob.it o ∈ objs ps vs := by rw [← h]; exact List.mem_map_of_mem ho
  exact objs_short hv _ h1
theorem rh_list {w : World} {F : Nat → Prop} {base g : Nat} {ps : List Pc} {vs : List Vl} {most : Int} (h : RH w F base g (objs ps vs) most) :
    ∃ A c os, w.cell? ⟨g, 0, none⟩ = some (.slice A ps.length c) ∧ RO w w.heap.size A os ∧ os.map Ob.it = objs ps vs ∧ os.length = ps.length := by
  obtain ⟨A, c, os, hB, hL, hm, _⟩ := h
  have hl : os.length = ps.length := by rw [← objs_len_eq ps vs, ← hm, List.length_map]
  exact ⟨A, c, os, by rw [← hl]; exact hB.cell 0, hL.reads, hm, hl⟩
theorem _root_.Go.Proofs.Ytpfgdgelnehjpaa.HS.base {w : World} {F : Nat → Prop} {base base' g : Nat} {ps : List Pc} {vs : List Vl} {most : Int} (h : HS w F base g ps vs most) (hb : base' ≤ base) : HS w F base' g ps vs most := by
  obtain ⟨A, c, B, d, hB, hO, hV, hbg, hFg, hFv, hFu, hFw⟩ := h
  exact ⟨A, c, B, d, hB, own_base hO hb, own_base hV hb, by omega, hFg, hFv, hFu, fun k hk => ⟨Nat.le_trans hb (hFw k hk).1, (hFw k hk).2⟩⟩
theorem _root_.Go.Proofs.Ytpfgdgelnehjpaa.TwoH.next {B g gR : Nat} {W1 w w' : World} {F1 G1 F G : Nat → Prop} {most : Int} {ps' : List Pc} {vs' : List Vl} {ol' : List (Ty × List Vl)} (hT : Turned (fun k => F1 k ∨ G1 k) W1 w) (h4 : ∀ k, k < W1.heap.size → F k → F1 k) (h5 : ∀ k, k < W1.heap.size → G k → G1 k)
    (h : TwoH B g gR w F G most ps' vs' ol' w') : TwoH B g gR W1 F1 G1 most ps' vs' ol' w' := by
  obtain ⟨⟨F2, G2, a1, a2, a3, a4, a5⟩, hT2⟩ := h
  have := hT.size
  exact ⟨⟨F2, G2, a1, a2, a3, fun k hk hf => h4 k hk (a4 k (by omega) hf), fun k hk hg => h5 k hk (a5 k (by omega) hg)⟩, hT.trans hT2 fun k hk hh => hh.elim (fun h => .inl (h4 k hk h)) (fun h => .inr (h5 k hk h))⟩
theorem oblen {os : List Ob} {ps : List Pc} {vs : List Vl} (h : os.map Ob.it = objs ps vs) : os.length = ps.length := by rw [← objs_len_eq ps vs, ← h, List.length_map]
theorem both {a b : Bool} (ha : a = true) (hb : b = true) : (a && b) = true := by rw [ha, hb]; rfl

set_option maxRecDepth 100000 in
set_option maxHeartbeats 40000000 in
theorem walk (A0 : Option Addr) (n0 c0 : Nat) (os : List HOp) (A1 : Option Addr) (n1 c1 : Nat) (os1 : List HOp) (w : World) (h0 : os.length = n0 ∧ n0 ≤ c0 ∧ c0 ≤ maxLen ∧ ScriptH w w.heap.size A0 os) (h1 : os1.length = n1 ∧ n1 ≤ c1 ∧ c1 ≤ maxLen ∧ ScriptH w w.heap.size A1 os1) :
    Calls Try.prog 10 #[.slice A0 n0 c0, .slice A1 n1 c1] w fun e w' => e = .returned (.bool true) ∧ Below w.heap.size w w' := by
  obtain ⟨rfl, hlc, hm, hSc⟩ := h0
  obtain ⟨rfl, hlc1, hm1, hSc1⟩ := h1
  unfold maxLen at hm hm1
  have gaw := fun w => Lib.hid (awake14 w)
  have g1 := Lib.hid (hnew_any 200 w (by omega) (by omega))
  have g2 := fun w => Lib.hid (rnew_any 200 w (by omega) (by omega))
  replace hSc := Lib.hid hSc
  replace hSc1 := Lib.hid hSc1
  obtain ⟨n, hn⟩ : ∃ n : Nat, n = min os.length 60 := ⟨_, rfl⟩
  obtain ⟨m, hmn⟩ : ∃ n : Nat, n = min os1.length 60 := ⟨_, rfl⟩
  go_enter Try.func10, Try.ntmps10
  go_wp2_with fail
  refine g1.out.mono ?_
  rintro _ w1 ⟨rfl, hS1, hb1⟩
  go_wp2_with fail
  refine (g2 _).out.mono ?_
  rintro _ w2 ⟨rfl, hR2, hb2⟩
  obtain ⟨B, hBe⟩ : ∃ B, B = w.heap.size := ⟨_, rfl⟩
  obtain ⟨g, hge⟩ : ∃ g, g = w.heap.size := ⟨_, rfl⟩
  obtain ⟨gR, hRe⟩ : ∃ gR, gR = w1.heap.size := ⟨_, rfl⟩
  have hS2 : HS w2 (Grow (fun _ => False) w w1) B g [] [] 200 := by rw [hBe, hge]; exact hS1.below hb2
  have hR2' : RH w2 (Grow (fun _ => False) w1 w2) B gR (objs [] []) 200 := by
    rw [hBe, hRe]
    obtain ⟨A, c, os, hB, hL, hmp, hbg, hFg, hFv, hFu, hFw⟩ := hR2
    exact ⟨A, c, os, hB, ⟨own_base hL.1 hb1.size, fun o ho => own_base (hL.2.1 o ho) hb1.size, hL.2.2⟩, hmp, hb1.size, hFg, hFv, hFu, fun k hk => ⟨Nat.le_trans hb1.size (hFw k hk).1, (hFw k hk).2⟩⟩
  have hd2 : ∀ k, Grow (fun _ => False) w w1 k → ¬ Grow (fun _ => False) w1 w2 k := by
    rintro k (h | h) (h' | h')
    · exact h
    · exact h
    · exact h'
    · omega
  have hB2 := bn hb1 hb2
  have hBB : B ≤ w.heap.size := by omega
  rw [← hge, ← hRe]
  have hB2' : Below B w w2 := by rw [hBe]; exact hB2
  clear hS1 hR2 hb1 hb2 hB2
  have hBz : ∀ {W : World}, Below B w W → B ≤ W.heap.size := fun h => by have := h.size; omega
  replace hBe := Lib.hid hBe
  replace hge := Lib.hid hge
  replace hRe := Lib.hid hRe
  go_upto_block 0 with fail
  go_cut [9] from 23 (fun i wr => ∃ (k : Nat) (F G : Nat → Prop) (ps : List Pc) (vs : List Vl), i = .int .i64 k ∧ HS wr F B g ps vs 200 ∧ RH wr G B gR (objs ps vs) 200 ∧ (∀ q, F q → ¬ G q) ∧ WS ps vs ∧ (ps.length : Int) ≤ 200 ∧ Below B w wr)
  case first =>
   as_aux_lemma =>
    go_wp2_with fail
    go_loopw [9] (fun i wr => ∃ (k : Nat) (F G : Nat → Prop) (ps : List Pc) (vs : List Vl), k ≤ n ∧ i = .int .i64 k ∧ HS wr F B g ps vs 200 ∧ RH wr G B gR (objs ps vs) 200 ∧ (∀ q, F q → ¬ G q) ∧ WS ps vs ∧ (ps.length : Int) ≤ 200 ∧ Below B w wr) (fun i _ => n - (intOf i).toNat)
    case atStart => exact ⟨0, _, _, _, _, by omega, rfl, hS2, hR2', hd2, WS.nil, by simp, hB2'⟩
    case round =>
      obtain ⟨k, F, G, ps, vs, hk, rfl, hS, hR, hd, hWS, hpl, hB⟩ := hrel
      by_cases hlt : k < n
      · have hkl : k < os.length := by omega
        have b1 : decide ((k : Int) < (os.length : Int)) = true := decide_eq_true (by omega)
        have b2 : decide ((k : Int) < 60) = true := decide_eq_true (by omega)
        have b3 : decide (k < os.length) = true := decide_eq_true (by omega)
        have b4 : decide (k < 60) = true := decide_eq_true (by omega)
        obtain ⟨ad, rfl, hlo, hcs, AL, cL, hc16, hRL, hlcL, hmL⟩ := hSc.out k os[k] (List.getElem?_eq_getElem hkl)
        generalize os[k] = o at *
        obtain ⟨ow, ⟨otk, otn, otd, ote, otp⟩, ⟨ofk, ofn, ofd, ofe, ofp⟩, on, oi, ⟨ovk, ovn, ovr⟩, ol⟩ := o
        dsimp only at hcs hc16 hRL hlcL
        have hBd : Below w.heap.size w wr := by rw [← hBe.out]; exact hB
        have hpb : ∀ j, ((ad.add (k * 17)).add j).block < w.heap.size := fun j => by rw [block_of_add, block_of_add]; exact hlo
        have hC : ∀ j u, [.int .i64 ow, .int .i64 otk, .string otn, .int .i64 otd, .int .i64 ote, .int .i64 otp, .int .i64 ofk, .string ofn, .int .i64 ofd, .int .i64 ofe, .int .i64 ofp, .int .i64 on, .int .i64 oi, .int .i64 ovk, .int .i64 ovn, .int .i64 ovr][j]? = some u → wr.cell? ((ad.add (k * 17)).add j) = some u := fun j u hu => (hBd.cell (hpb j)).trans (hcs j u hu)
        have hC16 : wr.cell? ((ad.add (k * 17)).add 16) = some (.slice AL ol.length cL) := (hBd.cell (hpb 16)).trans hc16
        have hRb : ReadsT wr B AL ol := by rw [hBe.out]; exact Reads.below hRL hBd
        have c0 : wr.cell? (ad.add (k * 17)) = some (.int .i64 ow) := (by simpa [Addr.add] using hC 0 _ rfl)
        have c1 : wr.cell? (⟨(ad.add (k * 17)).block, (ad.add (k * 17)).off + 1, none⟩) = some (.int .i64 otk) := hC 1 _ rfl
        have c2 : wr.cell? (⟨(ad.add (k * 17)).block, (ad.add (k * 17)).off + 2, none⟩) = some (.string otn) := hC 2 _ rfl
        have c3 : wr.cell? (⟨(ad.add (k * 17)).block, (ad.add (k * 17)).off + 3, none⟩) = some (.int .i64 otd) := hC 3 _ rfl
        have c4 : wr.cell? (⟨(ad.add (k * 17)).block, (ad.add (k * 17)).off + 4, none⟩) = some (.int .i64 ote) := hC 4 _ rfl
        have c5 : wr.cell? (⟨(ad.add (k * 17)).block, (ad.add (k * 17)).off + 5, none⟩) = some (.int .i64 otp) := hC 5 _ rfl
        have c6 : wr.cell? (⟨(ad.add (k * 17)).block, (ad.add (k * 17)).off + 6, none⟩) = some (.int .i64 ofk) := hC 6 _ rfl
        have c7 : wr.cell? (⟨(ad.add (k * 17)).block, (ad.add (k * 17)).off + 7, none⟩) = some (.string ofn) := hC 7 _ rfl
        have c8 : wr.cell? (⟨(ad.add (k * 17)).block, (ad.add (k * 17)).off + 8, none⟩) = some (.int .i64 ofd) := hC 8 _ rfl
        have c9 : wr.cell? (⟨(ad.add (k * 17)).block, (ad.add (k * 17)).off + 9, none⟩) = some (.int .i64 ofe) := hC 9 _ rfl
        have c10 : wr.cell? (⟨(ad.add (k * 17)).block, (ad.add (k * 17)).off + 10, none⟩) = some (.int .i64 ofp) := hC 10 _ rfl
        have c11 : wr.cell? (⟨(ad.add (k * 17)).block, (ad.add (k * 17)).off + 11, none⟩) = some (.int .i64 on) := hC 11 _ rfl
        have c12 : wr.cell? (⟨(ad.add (k * 17)).block, (ad.add (k * 17)).off + 12, none⟩) = some (.int .i64 oi) := hC 12 _ rfl
        have c13 : wr.cell? (⟨(ad.add (k * 17)).block, (ad.add (k * 17)).off + 13, none⟩) = some (.int .i64 ovk) := hC 13 _ rfl
        have c14 : wr.cell? (⟨(ad.add (k * 17)).block, (ad.add (k * 17)).off + 14, none⟩) = some (.int .i64 ovn) := hC 14 _ rfl
        have c15 : wr.cell? (⟨(ad.add (k * 17)).block, (ad.add (k * 17)).off + 15, none⟩) = some (.int .i64 ovr) := hC 15 _ rfl
        have c16 : wr.cell? (⟨(ad.add (k * 17)).block, (ad.add (k * 17)).off + 16, none⟩) = some (.slice AL ol.length cL) := hC16
        have gp := Lib.hid (play_any B g gR ps vs 200 ow otk otn otd ote otp ofk ofn ofd ofe ofp on oi ovk ovn ovr AL cL ol wr F G hS hR hd hWS hpl (by omega) hRb (Nat.le_trans hlcL hmL))
        clear hC hC16 hcs hc16 hRL hRb
        go_wp2_with fail
        refine gp.out.mono ?_
        rintro _ w3 ⟨rfl, ps3, vs3, hT3, hWS3, hpl3⟩
        obtain ⟨⟨F9, G9, hS9, hR9, hd9, hF9, hG9⟩, hTT⟩ := hT3
        have hBn := hB.trans (hTT.below (hBz hB) (fun q hq => hq.elim (fun h => (hS.lt q h).1) (fun h => (hR.lt q h).1)))
        clear c0 c1 c2 c3 c4 c5 c6 c7 c8 c9 c10 c11 c12 c13 c14 c15 c16
        go_wp2_with fail
        exact ⟨⟨k + 1, F9, G9, ps3, vs3, by omega, by go_num, hS9, hR9, hd9, hWS3, hpl3, hBn⟩, by simp [intOf]; omega⟩
      · by_cases hx : k < os.length
        · have b1 : decide ((k : Int) < os.length) = true := decide_eq_true (by omega)
          have b2 : decide ((k : Int) < 60) = false := decide_eq_false (by omega)
          have b3 : decide (k < 60) = false := decide_eq_false (by omega)
          have b4 : decide (k < os.length) = true := decide_eq_true (by omega)
          go_wp2_with fail
          go_meet
          case rel => exact ⟨k, F, G, ps, vs, rfl, hS, hR, hd, hWS, hpl, hB⟩
        · have b1 : decide ((k : Int) < os.length) = false := decide_eq_false (by omega)
          have b3 : decide (k < os.length) = false := decide_eq_false (by omega)
          go_wp2_with fail
          go_meet
          case rel => exact ⟨k, F, G, ps, vs, rfl, hS, hR, hd, hWS, hpl, hB⟩
  case rest =>
    obtain ⟨k0, F, G, ps, vs, rfl, hS, hR, hd, hWS, hpl, hB⟩ := hcut
    clear hS2 hR2' hd2 hB2'
    have hvl := hWS.vl
    have hps : ps.length ≤ 1024 := by omega
    have hvs : vs.length ≤ 1048576 := by omega
    have gcp := Lib.hid (hcopy_any g ps vs 200 wc F B hS hps hvs)
    go_wp2_with fail
    refine gcp.out.mono ?_
    rintro _ w3 ⟨gc, rfl, hC3, hb3⟩
    have hS3 := hS.below hb3
    have hR3 := hR.below hb3
    have hB3 := hB.trans (hb3.mono (hBz hB))
    have hC3' := hC3.base (hBz hB)
    have hlt3 := fun q (hq : wc.heap.size ≤ q ∧ q < w3.heap.size) => hq.1
    have gA := Lib.hid (all_any gc ps vs 200 w3 _ B hC3' hWS.wp hps hvs)
    go_wp2_with fail
    refine gA.out.mono ?_
    rintro _ w4 ⟨A4, c4, os4, rfl, hL4, hm4, hb4⟩
    have gB := Lib.hid (all_any g ps vs 200 w4 F B (hS3.below hb4) hWS.wp hps hvs)
    go_wp2_with fail
    refine gB.out.mono ?_
    rintro _ w5 ⟨A5, c5, os5, rfl, hL5, hm5, hb5⟩
    have hl4 := oblen hm4
    have hl5 := oblen hm5
    have gS := Lib.hid (same_any A4 A5 c4 c5 ps.length os4 os5 w5 _ _ (hL4.below hb5).reads hL5.reads (hm4.trans hm5.symm) hl4 (by omega) (objs_short2 hm4 hvs))
    replace hl4 := Lib.hid hl4
    replace hl5 := Lib.hid hl5
    rw [hl4.out, hl5.out]
    go_wp2_with fail
    refine gS.out.mono ?_
    rintro _ w6 ⟨rfl, hb6⟩
    have hb46 := bn hb4 (bn hb5 hb6)
    have gO := Lib.hid (all_any g ps vs 200 w6 F B (hS3.below hb46) hWS.wp hps hvs)
    go_wp2_with fail
    refine gO.out.mono ?_
    rintro _ w7 ⟨A7, c7, os7, rfl, hL7, hm7, hb7⟩
    have hl7 := oblen hm7
    rw [hl7]
    replace hl7 := Lib.hid hl7
    have hb37 := bn hb46 hb7
    have hS7 := hS3.below hb37
    have hR7 := hR3.below hb37
    have hC7 := hC3'.below hb37
    have hB7 := hB3.trans (hb37.mono (hBz hB3))
    have hs3 := hb3.size
    have hs46 := hb46.size
    have hFlt : ∀ q, F q → q < wc.heap.size := fun q hq => (hS.lt q hq).2
    have hGlt : ∀ q, G q → q < wc.heap.size := fun q hq => (hR.lt q hq).2
    have hdc : ∀ q, (fun k => wc.heap.size ≤ k ∧ k < w3.heap.size) q → ¬ G q := fun q hq hg => by have := hGlt q hg; have := hq.1; omega
    generalize hFC : (fun k => wc.heap.size ≤ k ∧ k < w3.heap.size) = FC at *
    have hFC3 : ∀ q, FC q → q < w3.heap.size ∧ ¬ F q := fun q hq => by
      rw [← hFC] at hq
      exact ⟨hq.2, fun h => by have := hFlt q h; have := hq.1; omega⟩
    have hT7 := TwoH.start hC7 hR7 hdc
    clear gA gB gS gO gcp hS3 hR3 hC3 hC3' hB3 hb3 hL4 hL5 hm4 hm5 hFC hl4 hl5 hlt3
    go_upto_block 2 with fail
    go_cut [12] from 54 (fun i wr => ∃ (k : Nat) (ps2 : List Pc) (vs2 : List Vl), i = .int .i64 k ∧ TwoH B gc gR w7 FC G 200 ps2 vs2 (objs ps2 vs2) wr ∧ WS ps2 vs2 ∧ (ps2.length : Int) ≤ 200 ∧ Below B w wr)
    case first =>
     as_aux_lemma =>
      go_wp2_with fail
      go_loopw [12] (fun i wr => ∃ (k : Nat) (ps2 : List Pc) (vs2 : List Vl), k ≤ m ∧ i = .int .i64 k ∧ TwoH B gc gR w7 FC G 200 ps2 vs2 (objs ps2 vs2) wr ∧ WS ps2 vs2 ∧ (ps2.length : Int) ≤ 200 ∧ Below B w wr) (fun i _ => m - (intOf i).toNat)
      case atStart => exact ⟨0, _, _, by omega, rfl, hT7, hWS, hpl, hB7⟩
      case round =>
        obtain ⟨k, ps2, vs2, hk, rfl, hTw, hWS2, hpl2, hB⟩ := hrel
        by_cases hlt : k < m
        · obtain ⟨⟨F2, G2, hS2, hR2, hd2, hF2, hG2⟩, hTu⟩ := hTw
          have hkl : k < os1.length := by omega
          have b1 : decide ((k : Int) < (os1.length : Int)) = true := decide_eq_true (by omega)
          have b2 : decide ((k : Int) < 60) = true := decide_eq_true (by omega)
          have b3 : decide (k < os1.length) = true := decide_eq_true (by omega)
          have b4 : decide (k < 60) = true := decide_eq_true (by omega)
          obtain ⟨ad, rfl, hlo, hcs, AL, cL, hc16, hRL, hlcL, hmL⟩ := hSc1.out k os1[k] (List.getElem?_eq_getElem hkl)
          generalize os1[k] = o at *
          obtain ⟨ow, ⟨otk, otn, otd, ote, otp⟩, ⟨ofk, ofn, ofd, ofe, ofp⟩, on, oi, ⟨ovk, ovn, ovr⟩, ol⟩ := o
          dsimp only at hcs hc16 hRL hlcL
          have hBd : Below w.heap.size w wr := by rw [← hBe.out]; exact hB
          have hpb : ∀ j, ((ad.add (k * 17)).add j).block < w.heap.size := fun j => by rw [block_of_add, block_of_add]; exact hlo
          have hC : ∀ j u, [.int .i64 ow, .int .i64 otk, .string otn, .int .i64 otd, .int .i64 ote, .int .i64 otp, .int .i64 ofk, .string ofn, .int .i64 ofd, .int .i64 ofe, .int .i64 ofp, .int .i64 on, .int .i64 oi, .int .i64 ovk, .int .i64 ovn, .int .i64 ovr][j]? = some u → wr.cell? ((ad.add (k * 17)).add j) = some u := fun j u hu => (hBd.cell (hpb j)).trans (hcs j u hu)
          have hC16 : wr.cell? ((ad.add (k * 17)).add 16) = some (.slice AL ol.length cL) := (hBd.cell (hpb 16)).trans hc16
          have hRb : ReadsT wr B AL ol := by rw [hBe.out]; exact Reads.below hRL hBd
          have c0 : wr.cell? (ad.add (k * 17)) = some (.int .i64 ow) := (by simpa [Addr.add] using hC 0 _ rfl)
          have c1 : wr.cell? (⟨(ad.add (k * 17)).block, (ad.add (k * 17)).off + 1, none⟩) = some (.int .i64 otk) := hC 1 _ rfl
          have c2 : wr.cell? (⟨(ad.add (k * 17)).block, (ad.add (k * 17)).off + 2, none⟩) = some (.string otn) := hC 2 _ rfl
          have c3 : wr.cell? (⟨(ad.add (k * 17)).block, (ad.add (k * 17)).off + 3, none⟩) = some (.int .i64 otd) := hC 3 _ rfl
          have c4 : wr.cell? (⟨(ad.add (k * 17)).block, (ad.add (k * 17)).off + 4, none⟩) = some (.int .i64 ote) := hC 4 _ rfl
          have c5 : wr.cell? (⟨(ad.add (k * 17)).block, (ad.add (k * 17)).off + 5, none⟩) = some (.int .i64 otp) := hC 5 _ rfl
          have c6 : wr.cell? (⟨(ad.add (k * 17)).block, (ad.add (k * 17)).off + 6, none⟩) = some (.int .i64 ofk) := hC 6 _ rfl
          have c7 : wr.cell? (⟨(ad.add (k * 17)).block, (ad.add (k * 17)).off + 7, none⟩) = some (.string ofn) := hC 7 _ rfl
          have c8 : wr.cell? (⟨(ad.add (k * 17)).block, (ad.add (k * 17)).off + 8, none⟩) = some (.int .i64 ofd) := hC 8 _ rfl
          have c9 : wr.cell? (⟨(ad.add (k * 17)).block, (ad.add (k * 17)).off + 9, none⟩) = some (.int .i64 ofe) := hC 9 _ rfl
          have c10 : wr.cell? (⟨(ad.add (k * 17)).block, (ad.add (k * 17)).off + 10, none⟩) = some (.int .i64 ofp) := hC 10 _ rfl
          have c11 : wr.cell? (⟨(ad.add (k * 17)).block, (ad.add (k * 17)).off + 11, none⟩) = some (.int .i64 on) := hC 11 _ rfl
          have c12 : wr.cell? (⟨(ad.add (k * 17)).block, (ad.add (k * 17)).off + 12, none⟩) = some (.int .i64 oi) := hC 12 _ rfl
          have c13 : wr.cell? (⟨(ad.add (k * 17)).block, (ad.add (k * 17)).off + 13, none⟩) = some (.int .i64 ovk) := hC 13 _ rfl
          have c14 : wr.cell? (⟨(ad.add (k * 17)).block, (ad.add (k * 17)).off + 14, none⟩) = some (.int .i64 ovn) := hC 14 _ rfl
          have c15 : wr.cell? (⟨(ad.add (k * 17)).block, (ad.add (k * 17)).off + 15, none⟩) = some (.int .i64 ovr) := hC 15 _ rfl
          have c16 : wr.cell? (⟨(ad.add (k * 17)).block, (ad.add (k * 17)).off + 16, none⟩) = some (.slice AL ol.length cL) := hC16
          have gp := Lib.hid (play_any B gc gR ps2 vs2 200 ow otk otn otd ote otp ofk ofn ofd ofe ofp on oi ovk ovn ovr AL cL ol wr F2 G2 hS2 hR2 hd2 hWS2 hpl2 (by omega) hRb (Nat.le_trans hlcL hmL))
          clear hC hC16 hcs hc16 hRL hRb
          go_wp2_with fail
          refine gp.out.mono ?_
          rintro _ w3 ⟨rfl, ps3, vs3, hT3, hWS3, hpl3⟩
          have hTT := hT3.turned
          have hBn := hB.trans (hTT.below (hBz hB) (fun q hq => hq.elim (fun h => (hS2.lt q h).1) (fun h => (hR2.lt q h).1)))
          clear c0 c1 c2 c3 c4 c5 c6 c7 c8 c9 c10 c11 c12 c13 c14 c15 c16
          go_wp2_with fail
          exact ⟨⟨k + 1, ps3, vs3, by omega, by go_num, hT3.next hTu hF2 hG2, hWS3, hpl3, hBn⟩, by simp [intOf]; omega⟩
        · by_cases hx : k < os1.length
          · have b1 : decide ((k : Int) < os1.length) = true := decide_eq_true (by omega)
            have b2 : decide ((k : Int) < 60) = false := decide_eq_false (by omega)
            have b3 : decide (k < 60) = false := decide_eq_false (by omega)
            have b4 : decide (k < os1.length) = true := decide_eq_true (by omega)
            go_wp2_with fail
            go_meet
            case rel => exact ⟨k, ps2, vs2, rfl, hTw, hWS2, hpl2, hB⟩
          · have b1 : decide ((k : Int) < os1.length) = false := decide_eq_false (by omega)
            have b3 : decide (k < os1.length) = false := decide_eq_false (by omega)
            go_wp2_with fail
            go_meet
            case rel => exact ⟨k, ps2, vs2, rfl, hTw, hWS2, hpl2, hB⟩
    case rest =>
      obtain ⟨k2, ps2, vs2, rfl, hTw, hWS2, hpl2, hB⟩ := hcut
      have hS0 := hS7.turned hTw.turned (fun q hq hh => hh.elim (fun h => (hFC3 q h).2 hq) (fun h => hd q hq h))
      have hL0 := hL7.turned hTw.turned (fun q hq hh => hh.elim (fun h => by have := (hFC3 q h).1; omega) (fun h => by have := hGlt q h; omega))
      obtain ⟨F2, hS2⟩ := hTw.hs
      obtain ⟨G2, hR2⟩ := hTw.rh
      clear hS7 hR7 hC7 hB7 hL7 hb7 hb37 hR hS hT7 hTw
      have hvl2 := hWS2.vl
      have hps2 : ps2.length ≤ 1024 := by omega
      have hvs2 : vs2.length ≤ 1048576 := by omega
      obtain ⟨AR, cR, osR, r2, hro2, hmR, hlR⟩ := rh_list hR2
      go_wp2_with fail
      have gH := Lib.hid (all_any g ps vs 200 wc.drew F B (hS0.below ((Below.refl _ _).drew)) hWS.wp hps hvs)
      have hm7' := hm7
      refine held_start (S := fun w' => w'.cell? ⟨gR, 0, none⟩ = some (.slice AR ps2.length cR)) (n := 17) (l := #[false, false, false, false, false, false, false, false, false, false, false, false, false, false, false, false, false]) (by as_aux_lemma => kernel_rfl) rfl rfl ?_
      have hHeld : wc.drew.cell? ⟨gR, 0, none⟩ = some (.slice AR ps2.length cR) := r2
      refine held_take 0 (some 72) #[true, false, false, false, false, false, false, false, false, false, false, false, false, false, false, false, false] (v := ?_) rfl rfl rfl (by as_aux_lemma => kernel_rfl) (by as_aux_lemma => kernel_rfl) (by as_aux_lemma => kernel_rfl) (fun _ _ _ h => h) (Or.inl ⟨by rfl, ?_⟩) (by assumption) ?_
      rotate_left
      · intro w hSw
        go_simp
        try with_reducible rfl
      simp only [Act.put, List.setIfInBounds_toArray, List.set_cons_zero, List.set_cons_succ]
      refine held_take 2 (some 74) #[true, false, true, false, false, false, false, false, false, false, false, false, false, false, false, false, false] (v := ?_) rfl rfl rfl (by as_aux_lemma => kernel_rfl) (by as_aux_lemma => kernel_rfl) (by as_aux_lemma => kernel_rfl) (fun _ _ _ h => h) (Or.inl ⟨by rfl, ?_⟩) (by assumption) ?_
      rotate_left
      · intro w hSw
        go_simp
        try with_reducible rfl
      simp only [Act.put, List.setIfInBounds_toArray, List.set_cons_zero, List.set_cons_succ]
      refine held_only 1 #[true, true, true, false, false, false, false, false, false, false, false, false, false, false, false, false, false] rfl rfl (by as_aux_lemma => kernel_rfl) (fun K hK => ?_)
      go_simp
      refine gH.out.mono ?_
      rintro _ z1 ⟨A11, c11, os11, rfl, hL11, hm11, hz1⟩
      have hl11 := oblen hm11
      rw [hl11]
      have gs1 := Lib.hid (same_any A11 A7 c11 c7 ps.length os11 os7 z1 _ _ hL11.reads ((hL0.below ((Below.refl _ _).drew)).below hz1).reads (hm11.trans hm7.symm) hl11 (by omega) (objs_short2 hm11 hvs))
      replace hl11 := Lib.hid hl11
      have r3 : z1.cell? ⟨gR, 0, none⟩ = some (.slice AR ps2.length cR) := old2 hHeld hz1
      refine hK.out _ _ r3 (fun _ => ?_)
      clear hK K
      refine held_only 3 #[true, true, true, true, false, false, false, false, false, false, false, false, false, false, false, false, false] rfl rfl (by as_aux_lemma => kernel_rfl) (fun K hK => ?_)
      go_simp
      refine gs1.out.mono ?_
      rintro _ z2 ⟨rfl, hz2⟩
      have r4 : z2.cell? ⟨gR, 0, none⟩ = some (.slice AR ps2.length cR) := old2 r3 hz2
      refine hK.out _ _ r4 (fun _ => ?_)
      clear hK K
      have hz12 := bn hz1 hz2
      have gC := Lib.hid (all_any gc ps2 vs2 200 z2 F2 B ((hS2.below ((Below.refl _ _).drew)).below hz12) hWS2.wp hps2 hvs2)
      refine held_take 4 (some 76) #[true, true, true, true, true, false, false, false, false, false, false, false, false, false, false, false, false] (v := ?_) rfl rfl rfl (by as_aux_lemma => kernel_rfl) (by as_aux_lemma => kernel_rfl) (by as_aux_lemma => kernel_rfl) (fun _ _ _ h => h) (Or.inl ⟨by rfl, ?_⟩) (by assumption) ?_
      rotate_left
      · intro w hSw
        go_simp
        try with_reducible rfl
      simp only [Act.put, List.setIfInBounds_toArray, List.set_cons_zero, List.set_cons_succ]
      refine held_take 5 (some 77) #[true, true, true, true, true, true, false, false, false, false, false, false, false, false, false, false, false] (v := ?_) rfl rfl rfl (by as_aux_lemma => kernel_rfl) (by as_aux_lemma => kernel_rfl) (by as_aux_lemma => kernel_rfl) (fun _ _ _ h => h) (Or.inl ⟨by rfl, ?_⟩) (by assumption) ?_
      rotate_left
      · intro w hSw
        go_simp
        try with_reducible rfl
      simp only [Act.put, List.setIfInBounds_toArray, List.set_cons_zero, List.set_cons_succ]
      refine held_take 7 (some 79) #[true, true, true, true, true, true, false, true, false, false, false, false, false, false, false, false, false] (v := ?_) rfl rfl rfl (by as_aux_lemma => kernel_rfl) (by as_aux_lemma => kernel_rfl) (by as_aux_lemma => kernel_rfl) (fun _ _ _ h => h) (Or.inl ⟨by rfl, ?_⟩) (by assumption) ?_
      rotate_left
      · intro w hSw
        go_simp
        try with_reducible rfl
      simp only [Act.put, List.setIfInBounds_toArray, List.set_cons_zero, List.set_cons_succ]
      refine held_take 8 (some 80) #[true, true, true, true, true, true, false, true, true, false, false, false, false, false, false, false, false] (v := ?_) rfl rfl rfl (by as_aux_lemma => kernel_rfl) (by as_aux_lemma => kernel_rfl) (by as_aux_lemma => kernel_rfl) (fun _ _ _ h => h) (Or.inl ⟨by rfl, ?_⟩) (by assumption) ?_
      rotate_left
      · intro w hSw
        go_simp
        try with_reducible rfl
      simp only [Act.put, List.setIfInBounds_toArray, List.set_cons_zero, List.set_cons_succ]
      refine held_take 9 (some 81) #[true, true, true, true, true, true, false, true, true, true, false, false, false, false, false, false, false] (v := ?_) rfl rfl rfl (by as_aux_lemma => kernel_rfl) (by as_aux_lemma => kernel_rfl) (by as_aux_lemma => kernel_rfl) (fun _ _ _ h => h) (Or.inl ⟨by rfl, ?_⟩) (by assumption) ?_
      rotate_left
      · intro w hSw
        go_simp
        try with_reducible rfl
      simp only [Act.put, List.setIfInBounds_toArray, List.set_cons_zero, List.set_cons_succ]
      refine held_take 10 (some 82) #[true, true, true, true, true, true, false, true, true, true, true, false, false, false, false, false, false] (v := ?_) rfl rfl rfl (by as_aux_lemma => kernel_rfl) (by as_aux_lemma => kernel_rfl) (by as_aux_lemma => kernel_rfl) (fun _ _ _ h => h) (Or.inl ⟨by rfl, ?_⟩) (by assumption) ?_
      rotate_left
      · intro w hSw
        go_simp
        try with_reducible rfl
      simp only [Act.put, List.setIfInBounds_toArray, List.set_cons_zero, List.set_cons_succ]
      refine held_only 6 #[true, true, true, true, true, true, true, true, true, true, true, false, false, false, false, false, false] rfl rfl (by as_aux_lemma => kernel_rfl) (fun K hK => ?_)
      go_simp
      refine gC.out.mono ?_
      rintro _ z3 ⟨A13, c13, os13, rfl, hL13, hm13, hz3⟩
      have hl13 := oblen hm13
      rw [hl13]
      have hz13 := bn hz12 hz3
      have gs2 := Lib.hid (same_any A13 AR c13 cR ps2.length os13 osR z3 _ _ hL13.reads ((hro2.below ((Below.refl _ _).drew)).below hz13) (hm13.trans hmR.symm) hl13 (by omega) (objs_short2 hm13 hvs2))
      replace hl13 := Lib.hid hl13
      have r5 : z3.cell? ⟨gR, 0, none⟩ = some (.slice AR ps2.length cR) := old2 r4 hz3
      refine hK.out _ _ r5 (fun _ => ?_)
      clear hK K
      refine held_only 11 #[true, true, true, true, true, true, true, true, true, true, true, true, false, false, false, false, false] rfl rfl (by as_aux_lemma => kernel_rfl) (fun K hK => ?_)
      go_simp
      refine gs2.out.mono ?_
      rintro _ z4 ⟨rfl, hz4⟩
      have r6 : z4.cell? ⟨gR, 0, none⟩ = some (.slice AR ps2.length cR) := old2 r5 hz4
      refine hK.out _ _ r6 (fun _ => ?_)
      clear hK K
      refine held_take 12 (some 84) #[true, true, true, true, true, true, true, true, true, true, true, true, true, false, false, false, false] (v := ?_) rfl rfl rfl (by as_aux_lemma => kernel_rfl) (by as_aux_lemma => kernel_rfl) (by as_aux_lemma => kernel_rfl) (fun _ _ _ h => h) (Or.inl ⟨by rfl, ?_⟩) (by assumption) ?_
      rotate_left
      · intro w hSw
        go_simp
        try with_reducible rfl
      simp only [Act.put, List.setIfInBounds_toArray, List.set_cons_zero, List.set_cons_succ]
      refine held_take 13 (some 85) #[true, true, true, true, true, true, true, true, true, true, true, true, true, true, false, false, false] (v := ?_) rfl rfl rfl (by as_aux_lemma => kernel_rfl) (by as_aux_lemma => kernel_rfl) (by as_aux_lemma => kernel_rfl) (fun _ _ _ h => h) (Or.inl ⟨by rfl, ?_⟩) (by assumption) ?_
      rotate_left
      · intro w hSw
        go_simp
        try with_reducible rfl
      simp only [Act.put, List.setIfInBounds_toArray, List.set_cons_zero, List.set_cons_succ]
      refine held_only 14 #[true, true, true, true, true, true, true, true, true, true, true, true, true, true, true, false, false] rfl rfl (by as_aux_lemma => kernel_rfl) (fun K hK => ?_)
      go_simp
      refine (gaw _).out.mono ?_
      rintro _ z5 ⟨rfl, hz5⟩
      refine hK.out _ _ (old2 r6 hz5) (fun _ => ?_)
      have hHeld2 := old2 r6 hz5
      clear hK K
      refine held_take 15 (some 87) #[true, true, true, true, true, true, true, true, true, true, true, true, true, true, true, true, false] (v := ?_) rfl rfl rfl (by as_aux_lemma => kernel_rfl) (by as_aux_lemma => kernel_rfl) (by as_aux_lemma => kernel_rfl) (fun _ _ _ h => h) (Or.inl ⟨by rfl, ?_⟩) (by assumption) ?_
      rotate_left
      · intro w hSw
        go_simp
        try with_reducible rfl
      simp only [Act.put, List.setIfInBounds_toArray, List.set_cons_zero, List.set_cons_succ]
      refine held_take 16 (some 4) #[true, true, true, true, true, true, true, true, true, true, true, true, true, true, true, true, true] (v := ?_) rfl rfl rfl (by as_aux_lemma => kernel_rfl) (by as_aux_lemma => kernel_rfl) (by as_aux_lemma => kernel_rfl) (fun _ _ _ h => h) (Or.inl ⟨by rfl, ?_⟩) (by assumption) ?_
      rotate_left
      · intro w hSw
        go_simp
        try with_reducible rfl
      simp only [Act.put, List.setIfInBounds_toArray, List.set_cons_zero, List.set_cons_succ]
      refine wpAnyH_done (by as_aux_lemma => kernel_rfl) ?_ _
      go_wp2_with fail
      go_ret
      exact ⟨rfl, by rw [← hBe.out]; exact hB.drew.trans ((bn (bn hz13 hz4) hz5).mono (hBz hB.drew))⟩

set_option maxRecDepth 100000 in
theorem lifted (os : Os) (started : os.Started) (H : Type) (enc : TypeId × Value → H) :
    ReturnsInHanded {} Try.checked os 10 .any (Rows.heapCopiesSpec.pre6 enc Try.prog Try.f10 Rows.heapCopiesRow.domain false) (Rows.heapCopiesSpec.post enc Try.prog Try.f10 false true false false) := by
  refine returnsInHanded_of_change (C := Try.checked) own started (by kernel_rfl) Try.func10
    (ChangeSpec.witness6 (enc := enc) (C := Try.checked) false ⟨#[], #[.slice none 0 0, .slice none 0 0], []⟩ 8 (by kernel_rfl) (by kernel_rfl) (by kernel_rfl) (by kernel_rfl)) ?_
  intro W base args ds gs before hval0 hW hcnd _
  have hval : ∀ (j : Nat) t v, Try.f10.params[j]? = some t → args[j]? = some v → Value.okWide Try.prog W .any base t v := hval0
  have hW' := hW
  obtain ⟨p, q, hA0, hV, rfl, hfz, hnd⟩ := hW
  have hA : DataW.TrodAll enc Try.prog W 0 (fun _ => true) true Try.f10.params.toList args.toList ds p := hA0
  rw [Try.params10] at hA hval
  obtain ⟨v0, vs0, d0, ds0, p0, q0, hargs, rfl, rfl, h0, r0⟩ := trodAll_cons hA
  obtain ⟨v1, vs1, d1, ds1, p1, q1, rfl, rfl, rfl, h1, r1⟩ := trodAll_cons r0
  obtain ⟨rfl, rfl, rfl⟩ := trodAll_nil r1
  obtain rfl : args = #[v0, v1] := by cases args; simp_all
  obtain ⟨rfl, rfl⟩ := trodVars_none hV
  obtain ⟨a0, len0, cap0, rfl⟩ := okWide_slice Try.underlying47 (hval 0 47 v0 rfl rfl)
  have k0 := h0
  have lt0 : ∀ x ∈ p0, x.block < W.heap.size := by obtain ⟨m, hm⟩ := k0; exact DataW.trod_lt m _ _ _ hm
  obtain ⟨fuel0, hf0⟩ := h0
  have hg0 : DataW.trod enc Try.prog W 0 (fun _ => true) true fuel0 47 [.slice a0 len0 cap0] = some (d0, p0) := by simpa [Value.cells] using hf0
  obtain ⟨os0, w0⟩ := open_hops hg0
  obtain ⟨a1, len1, cap1, rfl⟩ := okWide_slice Try.underlying47 (hval 1 47 v1 rfl rfl)
  have k1 := h1
  have lt1 : ∀ x ∈ p1, x.block < W.heap.size := by obtain ⟨m, hm⟩ := k1; exact DataW.trod_lt m _ _ _ hm
  obtain ⟨fuel1, hf1⟩ := h1
  have hg1 : DataW.trod enc Try.prog W 0 (fun _ => true) true fuel1 47 [.slice a1 len1 cap1] = some (d1, p1) := by simpa [Value.cells] using hf1
  obtain ⟨os1, w1⟩ := open_hops hg1
  clear hA0 hval0
  refine (walk a0 len0 cap0 os0 a1 len1 cap1 os1 W w0 w1).mono fun e W' ⟨he, bel⟩ => ?_
  subst he
  exact ⟨_, rfl, _, _, _, [], _, [], hW', trodAll_mk1 (shut_bool Try.underlying4 _), (trodAll_cons_mk (Below.trod laidOut (by kernel_rfl) (of_decide_eq_true (by kernel_rfl)) k0 bel lt0) (trodAll_cons_mk (Below.trod laidOut (by kernel_rfl) (of_decide_eq_true (by kernel_rfl)) k1 bel lt1) trodAll_mk0)), rfl, bel.frame _, fun h => by cases h⟩

theorem closed : joinedFacts Try.prog 10 Try.f10 Rows.heapCopiesSpec Rows.heapCopiesRow = true := by
  have h1 := mayEnter_fact
  have h2 : (Rows.heapCopiesRow.lifted == Try.prog.liftsFinal) = true := by rw [lifts_fact]; rfl
  have h3 : (Try.prog.make == some Rows.heapCopiesRow.make) = true := by rw [make_fact]; rfl
  have hfin : ∀ b : Bool, b = true → b = true := fun _ h => h
  unfold joinedFacts
  rw [h1, h2, h3]
  clear h1 h2 h3
  refine hfin _ ?_
  kernel_rfl

theorem over : Rows.heapCopiesRow.holds Try.pinned (OpenSpec.ofChange Rows.heapCopiesSpec) :=
  OpenClaim.holds_of_wide 10 Try.f10 rfl rfl rfl rfl rfl rfl rfl ⟨rfl, rfl, rfl, rfl, rfl⟩ rfl rfl rfl rfl rfl (by kernel_rfl) Try.func10 closed
    (of_decide_eq_true (by kernel_rfl)) (by unfold Func.isWrapper; first | (rw [if_pos (by decide +kernel)]; kernel_rfl) | (rw [if_neg (by decide +kernel)]; exact ⟨rfl, rfl⟩))
    (fun os started H enc _ => lifted os started H enc)

/-- The statement. -/
theorem proved : Rows.HeapCopiesSaid := over
#print axioms proved

end Go.Proofs.Ytpfgdgelnehjpaa.HeapCopiesP
