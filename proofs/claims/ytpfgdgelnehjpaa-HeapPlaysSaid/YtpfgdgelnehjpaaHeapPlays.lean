/- HeapPlays: a heap under any script of calls answers as the reference. -/
import Derived.Test.YtpfgdgelnehjpaaHeapY
import Derived.Test.YtpfgdgelnehjpaaOpenH
import Derived.Deep.RegionHeldLaw
import Derived.Test.YtpfgdgelnehjpaaNarrow
import Derived.Test.YtpfgdgelnehjpaaHead
import Derived.Test.YtpfgdgelnehjpaaOpenG
import Derived.Deep.RegionHeld3
import Derived.Lib.SmallJoins
import Derived.ProofKit
import Derived.OpenShut
import Derived.ShutString
import Derived.ChangeOld
import Derived.Laws.StructEq
namespace Go.Proofs.Ytpfgdgelnehjpaa.HeapPlaysP
open Go.ChangeShapes Go.WideShapes Go.ChangeAt Go.RowKit
open Go.ChangeMaps (open_string shut_string)
set_option linter.unusedVariables false

theorem own : ownKnob Try.prog.godebug = none := by kernel_rfl
theorem laidOut : laidOutB Try.prog = true := by kernel_rfl
theorem bnext {a b c : World} (h : Below a.heap.size a b) (k : Below b.heap.size b c) : Below a.heap.size a c := h.trans (k.mono h.size)
set_option linter.unusedSimpArgs false

set_option maxRecDepth 100000 in
set_option maxHeartbeats 40000000 in
theorem hnew_out (most : Int) (w : World) (h : most < 0 ∨ 1024 < most) : Calls Try.prog 12 #[.int .i64 most] w fun e w' => e = .returned (.tuple #[.pointer none, .int .i64 1]) ∧ w = w' := by
  by_cases h0 : most < 0
  · have b1 : decide (most < 0) = true := decide_eq_true h0
    go_enter Try.func12, Try.ntmps12
    go_wp2_with fail
    exact bodyPost_ret (v := .tuple #[.pointer none, .int .i64 1]) (by simp [results, Try.results12, go_sem]) rfl ⟨rfl, rfl⟩
  · have b1 : decide (most < 0) = false := decide_eq_false h0
    have b2 : decide (1024 < most) = true := decide_eq_true (by omega)
    go_enter Try.func12, Try.ntmps12
    go_wp2_with fail
    exact bodyPost_ret (v := .tuple #[.pointer none, .int .i64 1]) (by simp [results, Try.results12, go_sem]) rfl ⟨rfl, rfl⟩

set_option maxRecDepth 100000 in
set_option maxHeartbeats 40000000 in
theorem rnew_out (most : Int) (w : World) (h : most < 0 ∨ 1024 < most) : Calls Try.prog 28 #[.int .i64 most] w fun e w' => e = .returned (.tuple #[.pointer none, .int .i64 1]) ∧ w = w' := by
  by_cases h0 : most < 0
  · have b1 : decide (most < 0) = true := decide_eq_true h0
    go_enter Try.func28, Try.ntmps28
    go_wp2_with fail
    exact bodyPost_ret (v := .tuple #[.pointer none, .int .i64 1]) (by simp [results, Try.results28, go_sem]) rfl ⟨rfl, rfl⟩
  · have b1 : decide (most < 0) = false := decide_eq_false h0
    have b2 : decide (1024 < most) = true := decide_eq_true (by omega)
    go_enter Try.func28, Try.ntmps28
    go_wp2_with fail
    exact bodyPost_ret (v := .tuple #[.pointer none, .int .i64 1]) (by simp [results, Try.results28, go_sem]) rfl ⟨rfl, rfl⟩
theorem objs_short2 {os : List Ob} {ps : List Pc} {vs : List Vl} (h : os.map Ob.it = objs ps vs) (hv : vs.length ≤ 1048576) : ∀ o ∈ os, o.d.length ≤ 1048576 := by
  intro o ho
  have h1 : Ob.it o ∈ objs ps vs := by rw [← h]; exact List.mem_map_of_mem ho
  exact objs_short hv _ h1
theorem rh_list {w : World} {F : Nat → Prop} {base g : Nat} {ps : List Pc} {vs : List Vl} {most : Int} (h : RH w F base g (objs ps vs) most) :
    ∃ A c os, w.cell? ⟨g, 0, none⟩ = some (.slice A ps.length c) ∧ RO w w.heap.size A os ∧ os.map Ob.it = objs ps vs ∧ os.length = ps.length := by
  obtain ⟨A, c, os, hB, hL, hm, _⟩ := h
  have hl : os.length = ps.length := by rw [← objs_len_eq ps vs, ← hm, List.length_map]
  exact ⟨A, c, os, by rw [← hl]; exact hB.cell 0, hL.reads, hm, hl⟩

set_option maxRecDepth 100000 in
set_option maxHeartbeats 40000000 in
theorem walk (most : Int) (A0 : Option Addr) (n0 c0 : Nat) (os : List HOp) (w : World) (wm : (Lit.int .i64 most).wf = true) (h0 : os.length = n0 ∧ n0 ≤ c0 ∧ c0 ≤ maxLen ∧ ScriptH w w.heap.size A0 os) :
    Calls Try.prog 6 #[.int .i64 most, .slice A0 n0 c0] w fun e w' => e = .returned (.bool true) ∧ Below w.heap.size w w' := by
  obtain ⟨rfl, hlc, hm, hSc⟩ := h0
  unfold maxLen at hm
  have gaw := fun w => Lib.hid (awake14 w)
  by_cases hin : 0 ≤ most ∧ most ≤ 1024
  · have g1 := Lib.hid (hnew_any most w hin.1 hin.2)
    have g2 := fun w => Lib.hid (rnew_any most w hin.1 hin.2)
    obtain ⟨hm0, hm1⟩ := hin
    go_enter Try.func6, Try.ntmps6
    go_wp2_with fail
    refine g1.out.mono ?_
    rintro _ w1 ⟨rfl, hS1, hb1⟩
    go_wp2_with fail
    refine (g2 _).out.mono ?_
    rintro _ w2 ⟨rfl, hR2, hb2⟩
    obtain ⟨B, hBe⟩ : ∃ B, B = w.heap.size := ⟨_, rfl⟩
    obtain ⟨g, hge⟩ : ∃ g, g = w.heap.size := ⟨_, rfl⟩
    obtain ⟨gR, hRe⟩ : ∃ gR, gR = w1.heap.size := ⟨_, rfl⟩
    have hS2 : HS w2 (Grow (fun _ => False) w w1) B g [] [] most := by rw [hBe, hge]; exact hS1.below hb2
    have hR2' : RH w2 (Grow (fun _ => False) w1 w2) B gR (objs [] []) most := by
      rw [hBe, hRe]
      obtain ⟨A, c, os, hB, hL, hmp, hbg, hFg, hFv, hFu, hFw⟩ := hR2
      exact ⟨A, c, os, hB, ⟨own_base hL.1 hb1.size, fun o ho => own_base (hL.2.1 o ho) hb1.size, hL.2.2⟩, hmp, hb1.size, hFg, hFv, hFu, fun k hk => ⟨Nat.le_trans hb1.size (hFw k hk).1, (hFw k hk).2⟩⟩
    have hd2 : ∀ k, Grow (fun _ => False) w w1 k → ¬ Grow (fun _ => False) w1 w2 k := by
      rintro k (h | h) (h' | h')
      · exact h
      · exact h
      · exact h'
      · omega
    have hB2 := bn hb1 hb2
    have hBB : B ≤ w.heap.size := by omega
    rw [← hge, ← hRe]
    have hB2' : Below B w w2 := by rw [hBe]; exact hB2
    clear hS1 hR2 hb1 hb2 hB2
    have hBz : ∀ {W : World}, Below B w W → B ≤ W.heap.size := fun h => by have := h.size; omega
    replace hBe := Lib.hid hBe
    replace hge := Lib.hid hge
    replace hRe := Lib.hid hRe
    go_wp2_with fail
    go_loopw [9] (fun i wr => ∃ (k : Nat) (F G : Nat → Prop) (ps : List Pc) (vs : List Vl), k ≤ os.length ∧ i = .int .i64 k ∧ HS wr F B g ps vs most ∧ RH wr G B gR (objs ps vs) most ∧ (∀ q, F q → ¬ G q) ∧ WS ps vs ∧ (ps.length : Int) ≤ most ∧ Below B w wr) (fun i _ => os.length - (intOf i).toNat)
    case atStart => exact ⟨0, _, _, _, _, by omega, rfl, hS2, hR2', hd2, WS.nil, by simpa using hm0, hB2'⟩
    case round =>
      obtain ⟨k, F, G, ps, vs, hk, rfl, hS, hR, hd, hWS, hpl, hB⟩ := hrel
      by_cases hlt : k < os.length
      · have b1 : decide ((k : Int) < (os.length : Int)) = true := decide_eq_true (by omega)
        have b3 : decide (k < os.length) = true := decide_eq_true hlt
        obtain ⟨ad, rfl, hlo, hcs, AL, cL, hc16, hRL, hlcL, hmL⟩ := hSc k os[k] (List.getElem?_eq_getElem hlt)
        generalize os[k] = o at *
        obtain ⟨ow, ⟨otk, otn, otd, ote, otp⟩, ⟨ofk, ofn, ofd, ofe, ofp⟩, on, oi, ⟨ovk, ovn, ovr⟩, ol⟩ := o
        dsimp only at hcs hc16 hRL hlcL
        have hBd : Below w.heap.size w wr.drew := by rw [← hBe.out]; exact hB.drew
        have hCw : ∀ W, Below B w W → ∀ j u, [.int .i64 ow, .int .i64 otk, .string otn, .int .i64 otd, .int .i64 ote, .int .i64 otp, .int .i64 ofk, .string ofn, .int .i64 ofd, .int .i64 ofe, .int .i64 ofp, .int .i64 on, .int .i64 oi, .int .i64 ovk, .int .i64 ovn, .int .i64 ovr][j]? = some u → W.cell? ((ad.add (k * 17)).add j) = some u := fun W hbw j u hu => by
          rw [hBe.out] at hbw
          exact (hbw.cell (by rw [block_of_add, block_of_add]; exact hlo)).trans (hcs j u hu)
        have hCw16 : ∀ W, Below B w W → W.cell? ((ad.add (k * 17)).add 16) = some (.slice AL ol.length cL) := fun W hbw => by
          rw [hBe.out] at hbw
          exact (hbw.cell (by rw [block_of_add, block_of_add]; exact hlo)).trans hc16
        have hpb : ∀ j, ((ad.add (k * 17)).add j).block < w.heap.size := fun j => by rw [block_of_add, block_of_add]; exact hlo
        have hC : ∀ j u, [.int .i64 ow, .int .i64 otk, .string otn, .int .i64 otd, .int .i64 ote, .int .i64 otp, .int .i64 ofk, .string ofn, .int .i64 ofd, .int .i64 ofe, .int .i64 ofp, .int .i64 on, .int .i64 oi, .int .i64 ovk, .int .i64 ovn, .int .i64 ovr][j]? = some u → wr.drew.cell? ((ad.add (k * 17)).add j) = some u := fun j u hu => (hBd.cell (hpb j)).trans (hcs j u hu)
        have hC16 : wr.drew.cell? ((ad.add (k * 17)).add 16) = some (.slice AL ol.length cL) := (hBd.cell (hpb 16)).trans hc16
        have hRb : ReadsT wr.drew B AL ol := by rw [hBe.out]; exact Reads.below hRL hBd
        have hSd := hS.below ((Below.refl _ _).drew)
        have hRd := hR.below ((Below.refl _ _).drew)
        have hBw : B ≤ wr.heap.size := hBz hB
        have hSx0 : ∀ W, Below B w W → (W.cell? (ad.add (k * 17)) = some (.int .i64 ow) ∧ W.cell? (⟨(ad.add (k * 17)).block, (ad.add (k * 17)).off + 1, none⟩) = some (.int .i64 otk) ∧ W.cell? (⟨(ad.add (k * 17)).block, (ad.add (k * 17)).off + 2, none⟩) = some (.string otn) ∧ W.cell? (⟨(ad.add (k * 17)).block, (ad.add (k * 17)).off + 3, none⟩) = some (.int .i64 otd) ∧ W.cell? (⟨(ad.add (k * 17)).block, (ad.add (k * 17)).off + 4, none⟩) = some (.int .i64 ote) ∧ W.cell? (⟨(ad.add (k * 17)).block, (ad.add (k * 17)).off + 5, none⟩) = some (.int .i64 otp) ∧ W.cell? (⟨(ad.add (k * 17)).block, (ad.add (k * 17)).off + 6, none⟩) = some (.int .i64 ofk) ∧ W.cell? (⟨(ad.add (k * 17)).block, (ad.add (k * 17)).off + 7, none⟩) = some (.string ofn) ∧ W.cell? (⟨(ad.add (k * 17)).block, (ad.add (k * 17)).off + 8, none⟩) = some (.int .i64 ofd) ∧ W.cell? (⟨(ad.add (k * 17)).block, (ad.add (k * 17)).off + 9, none⟩) = some (.int .i64 ofe) ∧ W.cell? (⟨(ad.add (k * 17)).block, (ad.add (k * 17)).off + 10, none⟩) = some (.int .i64 ofp) ∧ W.cell? (⟨(ad.add (k * 17)).block, (ad.add (k * 17)).off + 11, none⟩) = some (.int .i64 on) ∧ W.cell? (⟨(ad.add (k * 17)).block, (ad.add (k * 17)).off + 12, none⟩) = some (.int .i64 oi) ∧ W.cell? (⟨(ad.add (k * 17)).block, (ad.add (k * 17)).off + 13, none⟩) = some (.int .i64 ovk) ∧ W.cell? (⟨(ad.add (k * 17)).block, (ad.add (k * 17)).off + 14, none⟩) = some (.int .i64 ovn) ∧ W.cell? (⟨(ad.add (k * 17)).block, (ad.add (k * 17)).off + 15, none⟩) = some (.int .i64 ovr) ∧ W.cell? (⟨(ad.add (k * 17)).block, (ad.add (k * 17)).off + 16, none⟩) = some (.slice AL ol.length cL)) := fun W hbw => ⟨by simpa [Addr.add] using hCw W hbw 0 _ rfl, hCw W hbw 1 _ rfl, hCw W hbw 2 _ rfl, hCw W hbw 3 _ rfl, hCw W hbw 4 _ rfl, hCw W hbw 5 _ rfl, hCw W hbw 6 _ rfl, hCw W hbw 7 _ rfl, hCw W hbw 8 _ rfl, hCw W hbw 9 _ rfl, hCw W hbw 10 _ rfl, hCw W hbw 11 _ rfl, hCw W hbw 12 _ rfl, hCw W hbw 13 _ rfl, hCw W hbw 14 _ rfl, hCw W hbw 15 _ rfl, hCw16 W hbw⟩
        obtain ⟨S17, hS17⟩ : ∃ S : World → Prop, S = fun w' => (w'.cell? (ad.add (k * 17)) = some (.int .i64 ow) ∧ w'.cell? (⟨(ad.add (k * 17)).block, (ad.add (k * 17)).off + 1, none⟩) = some (.int .i64 otk) ∧ w'.cell? (⟨(ad.add (k * 17)).block, (ad.add (k * 17)).off + 2, none⟩) = some (.string otn) ∧ w'.cell? (⟨(ad.add (k * 17)).block, (ad.add (k * 17)).off + 3, none⟩) = some (.int .i64 otd) ∧ w'.cell? (⟨(ad.add (k * 17)).block, (ad.add (k * 17)).off + 4, none⟩) = some (.int .i64 ote) ∧ w'.cell? (⟨(ad.add (k * 17)).block, (ad.add (k * 17)).off + 5, none⟩) = some (.int .i64 otp) ∧ w'.cell? (⟨(ad.add (k * 17)).block, (ad.add (k * 17)).off + 6, none⟩) = some (.int .i64 ofk) ∧ w'.cell? (⟨(ad.add (k * 17)).block, (ad.add (k * 17)).off + 7, none⟩) = some (.string ofn) ∧ w'.cell? (⟨(ad.add (k * 17)).block, (ad.add (k * 17)).off + 8, none⟩) = some (.int .i64 ofd) ∧ w'.cell? (⟨(ad.add (k * 17)).block, (ad.add (k * 17)).off + 9, none⟩) = some (.int .i64 ofe) ∧ w'.cell? (⟨(ad.add (k * 17)).block, (ad.add (k * 17)).off + 10, none⟩) = some (.int .i64 ofp) ∧ w'.cell? (⟨(ad.add (k * 17)).block, (ad.add (k * 17)).off + 11, none⟩) = some (.int .i64 on) ∧ w'.cell? (⟨(ad.add (k * 17)).block, (ad.add (k * 17)).off + 12, none⟩) = some (.int .i64 oi) ∧ w'.cell? (⟨(ad.add (k * 17)).block, (ad.add (k * 17)).off + 13, none⟩) = some (.int .i64 ovk) ∧ w'.cell? (⟨(ad.add (k * 17)).block, (ad.add (k * 17)).off + 14, none⟩) = some (.int .i64 ovn) ∧ w'.cell? (⟨(ad.add (k * 17)).block, (ad.add (k * 17)).off + 15, none⟩) = some (.int .i64 ovr) ∧ w'.cell? (⟨(ad.add (k * 17)).block, (ad.add (k * 17)).off + 16, none⟩) = some (.slice AL ol.length cL)) := ⟨_, rfl⟩
        have hSx := Lib.hid (fun W (hbw : Below B w W) => (by rw [hS17]; exact hSx0 W hbw : S17 W))
        have hSd17 := Lib.hid (fun W (hbw : S17 W) => (by rw [hS17] at hbw; exact hbw : W.cell? (ad.add (k * 17)) = some (.int .i64 ow) ∧ W.cell? (⟨(ad.add (k * 17)).block, (ad.add (k * 17)).off + 1, none⟩) = some (.int .i64 otk) ∧ W.cell? (⟨(ad.add (k * 17)).block, (ad.add (k * 17)).off + 2, none⟩) = some (.string otn) ∧ W.cell? (⟨(ad.add (k * 17)).block, (ad.add (k * 17)).off + 3, none⟩) = some (.int .i64 otd) ∧ W.cell? (⟨(ad.add (k * 17)).block, (ad.add (k * 17)).off + 4, none⟩) = some (.int .i64 ote) ∧ W.cell? (⟨(ad.add (k * 17)).block, (ad.add (k * 17)).off + 5, none⟩) = some (.int .i64 otp) ∧ W.cell? (⟨(ad.add (k * 17)).block, (ad.add (k * 17)).off + 6, none⟩) = some (.int .i64 ofk) ∧ W.cell? (⟨(ad.add (k * 17)).block, (ad.add (k * 17)).off + 7, none⟩) = some (.string ofn) ∧ W.cell? (⟨(ad.add (k * 17)).block, (ad.add (k * 17)).off + 8, none⟩) = some (.int .i64 ofd) ∧ W.cell? (⟨(ad.add (k * 17)).block, (ad.add (k * 17)).off + 9, none⟩) = some (.int .i64 ofe) ∧ W.cell? (⟨(ad.add (k * 17)).block, (ad.add (k * 17)).off + 10, none⟩) = some (.int .i64 ofp) ∧ W.cell? (⟨(ad.add (k * 17)).block, (ad.add (k * 17)).off + 11, none⟩) = some (.int .i64 on) ∧ W.cell? (⟨(ad.add (k * 17)).block, (ad.add (k * 17)).off + 12, none⟩) = some (.int .i64 oi) ∧ W.cell? (⟨(ad.add (k * 17)).block, (ad.add (k * 17)).off + 13, none⟩) = some (.int .i64 ovk) ∧ W.cell? (⟨(ad.add (k * 17)).block, (ad.add (k * 17)).off + 14, none⟩) = some (.int .i64 ovn) ∧ W.cell? (⟨(ad.add (k * 17)).block, (ad.add (k * 17)).off + 15, none⟩) = some (.int .i64 ovr) ∧ W.cell? (⟨(ad.add (k * 17)).block, (ad.add (k * 17)).off + 16, none⟩) = some (.slice AL ol.length cL)))
        clear hS17 hSx0
        have gp := Lib.hid (play_any B g gR ps vs most ow otk otn otd ote otp ofk ofn ofd ofe ofp on oi ovk ovn ovr AL cL ol wr.drew F G hSd hRd hd hWS hpl hm1 hRb (Nat.le_trans hlcL hmL))
        clear hCw hCw16 hC hC16 hcs hc16 hRL hSc hS hR
        go_wp2_with fail
        refine held_start (S := S17) (n := 32) (l := #[false, false, false, false, false, false, false, false, false, false, false, false, false, false, false, false, false, false, false, false, false, false, false, false, false, false, false, false, false, false, false, false]) (by kernel_rfl) rfl rfl ?_
        have hHeld := hSx.out _ hB.drew
        refine held_take 0 (some 40) #[true, false, false, false, false, false, false, false, false, false, false, false, false, false, false, false, false, false, false, false, false, false, false, false, false, false, false, false, false, false, false, false] (v := ?_) rfl rfl rfl (by kernel_rfl) (by kernel_rfl) (by kernel_rfl) (fun _ _ _ h => h) (Or.inl ⟨by rfl, ?_⟩) (by assumption) ?_
        rotate_left
        · intro w hSw
          go_simp
          try with_reducible rfl
        simp only [Act.put, List.setIfInBounds_toArray, List.set_cons_zero, List.set_cons_succ]
        refine held_take 1 (some 41) #[true, true, false, false, false, false, false, false, false, false, false, false, false, false, false, false, false, false, false, false, false, false, false, false, false, false, false, false, false, false, false, false] (v := ?_) rfl rfl rfl (by kernel_rfl) (by kernel_rfl) (by kernel_rfl) (fun _ _ _ h => h) (Or.inl ⟨by rfl, ?_⟩) (by assumption) ?_
        rotate_left
        · intro w hSw
          go_simp
          try with_reducible rfl
        simp only [Act.put, List.setIfInBounds_toArray, List.set_cons_zero, List.set_cons_succ]
        refine held_take 2 (some 42) #[true, true, true, false, false, false, false, false, false, false, false, false, false, false, false, false, false, false, false, false, false, false, false, false, false, false, false, false, false, false, false, false] (v := ?_) rfl rfl rfl (by kernel_rfl) (by kernel_rfl) (by kernel_rfl) (fun _ _ _ h => h) (Or.inl ⟨by rfl, ?_⟩) (by assumption) ?_
        rotate_left
        · intro w hSw
          go_simp
          try with_reducible rfl
        simp only [Act.put, List.setIfInBounds_toArray, List.set_cons_zero, List.set_cons_succ]
        refine held_take 3 (some 43) #[true, true, true, true, false, false, false, false, false, false, false, false, false, false, false, false, false, false, false, false, false, false, false, false, false, false, false, false, false, false, false, false] (v := ?_) rfl rfl rfl (by kernel_rfl) (by kernel_rfl) (by kernel_rfl) (fun _ _ _ h => h) (Or.inl ⟨by rfl, ?_⟩) (by assumption) ?_
        rotate_left
        · intro w hSw
          go_simp
          try with_reducible rfl
        simp only [Act.put, List.setIfInBounds_toArray, List.set_cons_zero, List.set_cons_succ]
        refine held_take 4 (some 44) #[true, true, true, true, true, false, false, false, false, false, false, false, false, false, false, false, false, false, false, false, false, false, false, false, false, false, false, false, false, false, false, false] (v := ?_) rfl rfl rfl (by kernel_rfl) (by kernel_rfl) (by kernel_rfl) (fun _ _ _ h => h) (Or.inl ⟨by rfl, ?_⟩) (by assumption) ?_
        rotate_left
        · intro w hSw
          go_simp
          try with_reducible rfl
        simp only [Act.put, List.setIfInBounds_toArray, List.set_cons_zero, List.set_cons_succ]
        refine held_take 5 (some 45) #[true, true, true, true, true, true, false, false, false, false, false, false, false, false, false, false, false, false, false, false, false, false, false, false, false, false, false, false, false, false, false, false] (v := ?_) rfl rfl rfl (by kernel_rfl) (by kernel_rfl) (by kernel_rfl) (fun _ _ _ h => h) (Or.inl ⟨by rfl, ?_⟩) (by assumption) ?_
        rotate_left
        · intro w hSw
          obtain ⟨d0, d1, d2, d3, d4, d5, d6, d7, d8, d9, d10, d11, d12, d13, d14, d15, d16⟩ := hSd17.out _ hSw
          go_simp
          try with_reducible rfl
        simp only [Act.put, List.setIfInBounds_toArray, List.set_cons_zero, List.set_cons_succ]
        refine held_only 6 #[true, true, true, true, true, true, true, false, false, false, false, false, false, false, false, false, false, false, false, false, false, false, false, false, false, false, false, false, false, false, false, false] rfl rfl (by kernel_rfl) (fun K hK => ?_)
        go_simp
        refine gp.out.mono ?_
        rintro _ w3 ⟨rfl, ps3, vs3, hT3, hWS3, hpl3⟩
        obtain ⟨F3, hS3⟩ := hT3.hs
        obtain ⟨G3, hR3⟩ := hT3.rh
        have hvl3 := hWS3.vl
        have hps3 : ps3.length ≤ 1024 := by omega
        have hvs3 : vs3.length ≤ 1048576 := by omega
        obtain ⟨AR, cR, os3, r3, hro3, hm3, hl3⟩ := rh_list hR3
        have gcount := Lib.hid (hcount_any g ps3 vs3 most w3 F3 B hS3)
        have gall := Lib.hid (all_any g ps3 vs3 most w3 F3 B hS3 hWS3.wp hps3 hvs3)
        have hBn := hB.drew.trans (hT3.turned.below (by simp; omega) (fun q hq => hq.elim (fun h => (hSd.lt q h).1) (fun h => (hRd.lt q h).1)))
        have hW3 : S17 w3 ∧ w3.cell? ⟨gR, 0, none⟩ = some (.slice AR ps3.length cR) := ⟨hSx.out _ hBn, r3⟩
        refine hK.out _ _ hW3.1 (fun _ => wpAnyH_narrow (S' := fun w' => S17 w' ∧ w'.cell? ⟨gR, 0, none⟩ = some (.slice AR ps3.length cR)) (fun _ h => h.1) _ _ _ _ ?_)
        clear hK K hHeld
        refine held_take 7 (some 47) #[true, true, true, true, true, true, true, true, false, false, false, false, false, false, false, false, false, false, false, false, false, false, false, false, false, false, false, false, false, false, false, false] (v := ?_) rfl rfl rfl (by kernel_rfl) (by kernel_rfl) (by kernel_rfl) (fun _ _ _ h => h) (Or.inl ⟨by rfl, ?_⟩) (by assumption) ?_
        rotate_left
        · intro w hSw
          go_simp
          try with_reducible rfl
        simp only [Act.put, List.setIfInBounds_toArray, List.set_cons_zero, List.set_cons_succ]
        refine held_take 8 (some 48) #[true, true, true, true, true, true, true, true, true, false, false, false, false, false, false, false, false, false, false, false, false, false, false, false, false, false, false, false, false, false, false, false] (v := ?_) rfl rfl rfl (by kernel_rfl) (by kernel_rfl) (by kernel_rfl) (fun _ _ _ h => h) (Or.inl ⟨by rfl, ?_⟩) (by assumption) ?_
        rotate_left
        · intro w hSw
          go_simp
          try with_reducible rfl
        simp only [Act.put, List.setIfInBounds_toArray, List.set_cons_zero, List.set_cons_succ]
        refine held_take 9 (some 49) #[true, true, true, true, true, true, true, true, true, true, false, false, false, false, false, false, false, false, false, false, false, false, false, false, false, false, false, false, false, false, false, false] (v := ?_) rfl rfl rfl (by kernel_rfl) (by kernel_rfl) (by kernel_rfl) (fun _ _ _ h => h) (Or.inl ⟨by rfl, ?_⟩) (by assumption) ?_
        rotate_left
        · intro w hSw
          go_simp
          try with_reducible rfl
        simp only [Act.put, List.setIfInBounds_toArray, List.set_cons_zero, List.set_cons_succ]
        refine held_take 11 (some 51) #[true, true, true, true, true, true, true, true, true, true, false, true, false, false, false, false, false, false, false, false, false, false, false, false, false, false, false, false, false, false, false, false] (v := ?_) rfl rfl rfl (by kernel_rfl) (by kernel_rfl) (by kernel_rfl) (fun _ _ _ h => h) (Or.inl ⟨by rfl, ?_⟩) (by assumption) ?_
        rotate_left
        · intro w hSw
          go_simp
          try with_reducible rfl
        simp only [Act.put, List.setIfInBounds_toArray, List.set_cons_zero, List.set_cons_succ]
        refine held_take 12 (some 52) #[true, true, true, true, true, true, true, true, true, true, false, true, true, false, false, false, false, false, false, false, false, false, false, false, false, false, false, false, false, false, false, false] (v := ?_) rfl rfl rfl (by kernel_rfl) (by kernel_rfl) (by kernel_rfl) (fun _ _ _ h => h) (Or.inl ⟨by rfl, ?_⟩) (by assumption) ?_
        rotate_left
        · intro w hSw
          go_simp
          try with_reducible rfl
        simp only [Act.put, List.setIfInBounds_toArray, List.set_cons_zero, List.set_cons_succ]
        refine held_take 13 (some 53) #[true, true, true, true, true, true, true, true, true, true, false, true, true, true, false, false, false, false, false, false, false, false, false, false, false, false, false, false, false, false, false, false] (v := ?_) rfl rfl rfl (by kernel_rfl) (by kernel_rfl) (by kernel_rfl) (fun _ _ _ h => h) (Or.inl ⟨by rfl, ?_⟩) (by assumption) ?_
        rotate_left
        · intro w hSw
          go_simp
          try with_reducible rfl
        simp only [Act.put, List.setIfInBounds_toArray, List.set_cons_zero, List.set_cons_succ]
        refine held_take 14 (some 54) #[true, true, true, true, true, true, true, true, true, true, false, true, true, true, true, false, false, false, false, false, false, false, false, false, false, false, false, false, false, false, false, false] (v := ?_) rfl rfl rfl (by kernel_rfl) (by kernel_rfl) (by kernel_rfl) (fun _ _ _ h => h) (Or.inl ⟨by rfl, ?_⟩) (by assumption) ?_
        rotate_left
        · intro w hSw
          have d1 := hSw.2
          go_simp
          try with_reducible rfl
        simp only [Act.put, List.setIfInBounds_toArray, List.set_cons_zero, List.set_cons_succ]
        refine held_take 15 (some 55) #[true, true, true, true, true, true, true, true, true, true, false, true, true, true, true, true, false, false, false, false, false, false, false, false, false, false, false, false, false, false, false, false] (v := ?_) rfl rfl rfl (by kernel_rfl) (by kernel_rfl) (by kernel_rfl) (fun _ _ _ h => h) (Or.inl ⟨by rfl, ?_⟩) (by assumption) ?_
        rotate_left
        · intro w hSw
          go_simp
          try with_reducible rfl
        simp only [Act.put, List.setIfInBounds_toArray, List.set_cons_zero, List.set_cons_succ]
        refine held_only 10 #[true, true, true, true, true, true, true, true, true, true, true, true, true, true, true, true, false, false, false, false, false, false, false, false, false, false, false, false, false, false, false, false] rfl rfl (by kernel_rfl) (fun K hK => ?_)
        go_simp
        refine gcount.out.mono ?_
        rintro _ _ ⟨rfl, rfl⟩
        refine hK.out _ _ hW3 (fun _ => ?_)
        clear hK K
        refine held_take 16 (some 56) #[true, true, true, true, true, true, true, true, true, true, true, true, true, true, true, true, true, false, false, false, false, false, false, false, false, false, false, false, false, false, false, false] (v := ?_) rfl rfl rfl (by kernel_rfl) (by kernel_rfl) (by kernel_rfl) (fun _ _ _ h => h) (Or.inl ⟨by rfl, ?_⟩) (by assumption) ?_
        rotate_left
        · intro w hSw
          go_simp
          try with_reducible rfl
        simp only [Act.put, List.setIfInBounds_toArray, List.set_cons_zero, List.set_cons_succ]
        refine held_take 17 (some 57) #[true, true, true, true, true, true, true, true, true, true, true, true, true, true, true, true, true, true, false, false, false, false, false, false, false, false, false, false, false, false, false, false] (v := ?_) rfl rfl rfl (by kernel_rfl) (by kernel_rfl) (by kernel_rfl) (fun _ _ _ h => h) (Or.inl ⟨by rfl, ?_⟩) (by assumption) ?_
        rotate_left
        · intro w hSw
          go_simp
          try with_reducible rfl
        simp only [Act.put, List.setIfInBounds_toArray, List.set_cons_zero, List.set_cons_succ]
        refine held_take 18 (some 58) #[true, true, true, true, true, true, true, true, true, true, true, true, true, true, true, true, true, true, true, false, false, false, false, false, false, false, false, false, false, false, false, false] (v := ?_) rfl rfl rfl (by kernel_rfl) (by kernel_rfl) (by kernel_rfl) (fun _ _ _ h => h) (Or.inl ⟨by rfl, ?_⟩) (by assumption) ?_
        rotate_left
        · intro w hSw
          go_simp
          try with_reducible rfl
        simp only [Act.put, List.setIfInBounds_toArray, List.set_cons_zero, List.set_cons_succ]
        refine held_take 19 (some 59) #[true, true, true, true, true, true, true, true, true, true, true, true, true, true, true, true, true, true, true, true, false, false, false, false, false, false, false, false, false, false, false, false] (v := ?_) rfl rfl rfl (by kernel_rfl) (by kernel_rfl) (by kernel_rfl) (fun _ _ _ h => h) (Or.inl ⟨by rfl, ?_⟩) (by assumption) ?_
        rotate_left
        · intro w hSw
          go_simp
          try with_reducible rfl
        simp only [Act.put, List.setIfInBounds_toArray, List.set_cons_zero, List.set_cons_succ]
        by_cases h30 : k < 30
        · have b4 : decide ((k : Int) < 30) = true := decide_eq_true (by omega)
          have b5 : decide (k < 30) = true := decide_eq_true h30
          refine held_take 20 (some 60) #[true, true, true, true, true, true, true, true, true, true, true, true, true, true, true, true, true, true, true, true, true, false, false, false, false, false, false, false, false, false, false, false] (v := ?_) rfl rfl rfl (by kernel_rfl) (by kernel_rfl) (by kernel_rfl) (fun _ _ _ h => h) (Or.inl ⟨by rfl, ?_⟩) (by assumption) ?_
          rotate_left
          · intro w hSw
            go_simp
            try with_reducible rfl
          simp only [Act.put, List.setIfInBounds_toArray, List.set_cons_zero, List.set_cons_succ]
          refine held_take 21 (some 61) #[true, true, true, true, true, true, true, true, true, true, true, true, true, true, true, true, true, true, true, true, true, true, false, false, false, false, false, false, false, false, false, false] (v := ?_) rfl rfl rfl (by kernel_rfl) (by kernel_rfl) (by kernel_rfl) (fun _ _ _ h => h) (Or.inl ⟨by rfl, ?_⟩) (by assumption) ?_
          rotate_left
          · intro w hSw
            go_simp
            try with_reducible rfl
          simp only [Act.put, List.setIfInBounds_toArray, List.set_cons_zero, List.set_cons_succ]
          refine held_take 22 (some 62) #[true, true, true, true, true, true, true, true, true, true, true, true, true, true, true, true, true, true, true, true, true, true, true, false, false, false, false, false, false, false, false, false] (v := ?_) rfl rfl rfl (by kernel_rfl) (by kernel_rfl) (by kernel_rfl) (fun _ _ _ h => h) (Or.inl ⟨by rfl, ?_⟩) (by assumption) ?_
          rotate_left
          · intro w hSw
            go_simp
            try with_reducible rfl
          simp only [Act.put, List.setIfInBounds_toArray, List.set_cons_zero, List.set_cons_succ]
          refine held_take 24 (some 64) #[true, true, true, true, true, true, true, true, true, true, true, true, true, true, true, true, true, true, true, true, true, true, true, false, true, false, false, false, false, false, false, false] (v := ?_) rfl rfl rfl (by kernel_rfl) (by kernel_rfl) (by kernel_rfl) (fun _ _ _ h => h) (Or.inl ⟨by rfl, ?_⟩) (by assumption) ?_
          rotate_left
          · intro w hSw
            go_simp
            try with_reducible rfl
          simp only [Act.put, List.setIfInBounds_toArray, List.set_cons_zero, List.set_cons_succ]
          refine held_take 25 (some 65) #[true, true, true, true, true, true, true, true, true, true, true, true, true, true, true, true, true, true, true, true, true, true, true, false, true, true, false, false, false, false, false, false] (v := ?_) rfl rfl rfl (by kernel_rfl) (by kernel_rfl) (by kernel_rfl) (fun _ _ _ h => h) (Or.inl ⟨by rfl, ?_⟩) (by assumption) ?_
          rotate_left
          · intro w hSw
            go_simp
            try with_reducible rfl
          simp only [Act.put, List.setIfInBounds_toArray, List.set_cons_zero, List.set_cons_succ]
          refine held_take 26 (some 66) #[true, true, true, true, true, true, true, true, true, true, true, true, true, true, true, true, true, true, true, true, true, true, true, false, true, true, true, false, false, false, false, false] (v := ?_) rfl rfl rfl (by kernel_rfl) (by kernel_rfl) (by kernel_rfl) (fun _ _ _ h => h) (Or.inl ⟨by rfl, ?_⟩) (by assumption) ?_
          rotate_left
          · intro w hSw
            go_simp
            try with_reducible rfl
          simp only [Act.put, List.setIfInBounds_toArray, List.set_cons_zero, List.set_cons_succ]
          refine held_take 27 (some 67) #[true, true, true, true, true, true, true, true, true, true, true, true, true, true, true, true, true, true, true, true, true, true, true, false, true, true, true, true, false, false, false, false] (v := ?_) rfl rfl rfl (by kernel_rfl) (by kernel_rfl) (by kernel_rfl) (fun _ _ _ h => h) (Or.inl ⟨by rfl, ?_⟩) (by assumption) ?_
          rotate_left
          · intro w hSw
            have d1 := hSw.2
            go_simp
            try with_reducible rfl
          simp only [Act.put, List.setIfInBounds_toArray, List.set_cons_zero, List.set_cons_succ]
          refine held_only 23 #[true, true, true, true, true, true, true, true, true, true, true, true, true, true, true, true, true, true, true, true, true, true, true, true, true, true, true, true, false, false, false, false] rfl rfl (by kernel_rfl) (fun K hK => ?_)
          go_simp
          refine gall.out.mono ?_
          rintro _ w4 ⟨A4, c4, os4, rfl, hL4, hm4, hb4⟩
          have e4 := hm4.trans hm3.symm
          have hl4 : os4.length = ps3.length := by have := congrArg List.length e4; rw [List.length_map, List.length_map, hl3] at this; exact this
          have r4 : w4.cell? ⟨gR, 0, none⟩ = some (.slice AR ps3.length cR) := old2 r3 hb4
          have gsame := Lib.hid (same_any A4 AR c4 cR ps3.length os4 os3 w4 _ _ hL4.reads (hro3.below hb4) e4 hl4 (by omega) (objs_short2 hm4 hvs3))
          rw [hl4]
          have hBn4 := hBn.trans (hb4.mono (hBz hBn))
          have hW4 : S17 w4 ∧ w4.cell? ⟨gR, 0, none⟩ = some (.slice AR ps3.length cR) := ⟨hSx.out _ hBn4, r4⟩
          refine hK.out _ _ hW4 (fun _ => ?_)
          clear hK K
          refine held_only 28 #[true, true, true, true, true, true, true, true, true, true, true, true, true, true, true, true, true, true, true, true, true, true, true, true, true, true, true, true, true, false, false, false] rfl rfl (by kernel_rfl) (fun K hK => ?_)
          go_simp
          refine gsame.out.mono ?_
          rintro _ w5 ⟨rfl, hb5⟩
          have hBn5 := hBn4.trans (hb5.mono (hBz hBn4))
          have hW5 : S17 w5 ∧ w5.cell? ⟨gR, 0, none⟩ = some (.slice AR ps3.length cR) := ⟨hSx.out _ hBn5, old2 r4 hb5⟩
          refine hK.out _ _ hW5 (fun _ => ?_)
          clear hK K
          refine held_take 29 (some 69) #[true, true, true, true, true, true, true, true, true, true, true, true, true, true, true, true, true, true, true, true, true, true, true, true, true, true, true, true, true, true, false, false] (v := ?_) rfl rfl rfl (by kernel_rfl) (by kernel_rfl) (by kernel_rfl) (fun _ _ _ h => h) (Or.inl ⟨by rfl, ?_⟩) (by assumption) ?_
          rotate_left
          · intro w hSw
            go_simp
            try with_reducible rfl
          simp only [Act.put, List.setIfInBounds_toArray, List.set_cons_zero, List.set_cons_succ]
          refine held_take 30 (some 70) #[true, true, true, true, true, true, true, true, true, true, true, true, true, true, true, true, true, true, true, true, true, true, true, true, true, true, true, true, true, true, true, false] (v := ?_) rfl rfl rfl (by kernel_rfl) (by kernel_rfl) (by kernel_rfl) (fun _ _ _ h => h) (Or.inl ⟨by rfl, ?_⟩) (by assumption) ?_
          rotate_left
          · intro w hSw
            go_simp
            try with_reducible rfl
          simp only [Act.put, List.setIfInBounds_toArray, List.set_cons_zero, List.set_cons_succ]
          refine held_take 31 (some 71) #[true, true, true, true, true, true, true, true, true, true, true, true, true, true, true, true, true, true, true, true, true, true, true, true, true, true, true, true, true, true, true, true] (v := ?_) rfl rfl rfl (by kernel_rfl) (by kernel_rfl) (by kernel_rfl) (fun _ _ _ h => h) (Or.inl ⟨by rfl, ?_⟩) (by assumption) ?_
          rotate_left
          · intro w hSw
            go_simp
            try with_reducible rfl
          simp only [Act.put, List.setIfInBounds_toArray, List.set_cons_zero, List.set_cons_succ]
          refine wpAnyH_done (by kernel_rfl) ?_ _
          go_wp2_with fail
          obtain ⟨⟨F9, G9, hS9, hR9, hd9, _⟩, _⟩ := hT3.below (bn hb4 hb5)
          exact ⟨⟨k + 1, F9, G9, ps3, vs3, by omega, by go_num, hS9, hR9, hd9, hWS3, hpl3, hBn.trans ((bn hb4 hb5).mono (hBz hBn))⟩, by simp [intOf]; omega⟩
        · have b4 : decide ((k : Int) < 30) = false := decide_eq_false (by omega)
          have b5 : decide (k < 30) = false := decide_eq_false h30
          refine held_take 20 (some 60) #[true, true, true, true, true, true, true, true, true, true, true, true, true, true, true, true, true, true, true, true, true, false, false, false, false, false, false, false, false, false, false, false] (v := ?_) rfl rfl rfl (by kernel_rfl) (by kernel_rfl) (by kernel_rfl) (fun _ _ _ h => h) (Or.inl ⟨by rfl, ?_⟩) (by assumption) ?_
          rotate_left
          · intro w hSw
            go_simp
            try with_reducible rfl
          simp only [Act.put, List.setIfInBounds_toArray, List.set_cons_zero, List.set_cons_succ]
          refine held_take 21 (some 61) #[true, true, true, true, true, true, true, true, true, true, true, true, true, true, true, true, true, true, true, true, true, true, false, false, false, false, false, false, false, false, false, false] (v := ?_) rfl rfl rfl (by kernel_rfl) (by kernel_rfl) (by kernel_rfl) (fun _ _ _ h => h) (Or.inl ⟨by rfl, ?_⟩) (by assumption) ?_
          rotate_left
          · intro w hSw
            go_simp
            try with_reducible rfl
          simp only [Act.put, List.setIfInBounds_toArray, List.set_cons_zero, List.set_cons_succ]
          refine held_take 22 (some 62) #[true, true, true, true, true, true, true, true, true, true, true, true, true, true, true, true, true, true, true, true, true, true, true, false, false, false, false, false, false, false, false, false] (v := undef) rfl rfl rfl (by kernel_rfl) (by kernel_rfl) (by kernel_rfl) (fun _ _ _ h => h) (Or.inr ⟨by rfl, rfl⟩) (by assumption) ?_
          simp only [Act.put, List.setIfInBounds_toArray, List.set_cons_zero, List.set_cons_succ]
          refine held_take 23 (some 63) #[true, true, true, true, true, true, true, true, true, true, true, true, true, true, true, true, true, true, true, true, true, true, true, true, false, false, false, false, false, false, false, false] (v := undef) rfl rfl rfl (by kernel_rfl) (by kernel_rfl) (by kernel_rfl) (fun _ _ _ h => h) (Or.inr ⟨by rfl, rfl⟩) (by assumption) ?_
          simp only [Act.put, List.setIfInBounds_toArray, List.set_cons_zero, List.set_cons_succ]
          refine held_take 24 (some 64) #[true, true, true, true, true, true, true, true, true, true, true, true, true, true, true, true, true, true, true, true, true, true, true, true, true, false, false, false, false, false, false, false] (v := undef) rfl rfl rfl (by kernel_rfl) (by kernel_rfl) (by kernel_rfl) (fun _ _ _ h => h) (Or.inr ⟨by rfl, rfl⟩) (by assumption) ?_
          simp only [Act.put, List.setIfInBounds_toArray, List.set_cons_zero, List.set_cons_succ]
          refine held_take 25 (some 65) #[true, true, true, true, true, true, true, true, true, true, true, true, true, true, true, true, true, true, true, true, true, true, true, true, true, true, false, false, false, false, false, false] (v := undef) rfl rfl rfl (by kernel_rfl) (by kernel_rfl) (by kernel_rfl) (fun _ _ _ h => h) (Or.inr ⟨by rfl, rfl⟩) (by assumption) ?_
          simp only [Act.put, List.setIfInBounds_toArray, List.set_cons_zero, List.set_cons_succ]
          refine held_take 26 (some 66) #[true, true, true, true, true, true, true, true, true, true, true, true, true, true, true, true, true, true, true, true, true, true, true, true, true, true, true, false, false, false, false, false] (v := undef) rfl rfl rfl (by kernel_rfl) (by kernel_rfl) (by kernel_rfl) (fun _ _ _ h => h) (Or.inr ⟨by rfl, rfl⟩) (by assumption) ?_
          simp only [Act.put, List.setIfInBounds_toArray, List.set_cons_zero, List.set_cons_succ]
          refine held_take 27 (some 67) #[true, true, true, true, true, true, true, true, true, true, true, true, true, true, true, true, true, true, true, true, true, true, true, true, true, true, true, true, false, false, false, false] (v := undef) rfl rfl rfl (by kernel_rfl) (by kernel_rfl) (by kernel_rfl) (fun _ _ _ h => h) (Or.inr ⟨by rfl, rfl⟩) (by assumption) ?_
          simp only [Act.put, List.setIfInBounds_toArray, List.set_cons_zero, List.set_cons_succ]
          refine held_take 28 (some 68) #[true, true, true, true, true, true, true, true, true, true, true, true, true, true, true, true, true, true, true, true, true, true, true, true, true, true, true, true, true, false, false, false] (v := undef) rfl rfl rfl (by kernel_rfl) (by kernel_rfl) (by kernel_rfl) (fun _ _ _ h => h) (Or.inr ⟨by rfl, rfl⟩) (by assumption) ?_
          simp only [Act.put, List.setIfInBounds_toArray, List.set_cons_zero, List.set_cons_succ]
          refine held_take 29 (some 69) #[true, true, true, true, true, true, true, true, true, true, true, true, true, true, true, true, true, true, true, true, true, true, true, true, true, true, true, true, true, true, false, false] (v := undef) rfl rfl rfl (by kernel_rfl) (by kernel_rfl) (by kernel_rfl) (fun _ _ _ h => h) (Or.inr ⟨by rfl, rfl⟩) (by assumption) ?_
          simp only [Act.put, List.setIfInBounds_toArray, List.set_cons_zero, List.set_cons_succ]
          refine held_take 30 (some 70) #[true, true, true, true, true, true, true, true, true, true, true, true, true, true, true, true, true, true, true, true, true, true, true, true, true, true, true, true, true, true, true, false] (v := ?_) rfl rfl rfl (by kernel_rfl) (by kernel_rfl) (by kernel_rfl) (fun _ _ _ h => h) (Or.inl ⟨by rfl, ?_⟩) (by assumption) ?_
          rotate_left
          · intro w hSw
            go_simp
            try with_reducible rfl
          simp only [Act.put, List.setIfInBounds_toArray, List.set_cons_zero, List.set_cons_succ]
          refine held_take 31 (some 71) #[true, true, true, true, true, true, true, true, true, true, true, true, true, true, true, true, true, true, true, true, true, true, true, true, true, true, true, true, true, true, true, true] (v := ?_) rfl rfl rfl (by kernel_rfl) (by kernel_rfl) (by kernel_rfl) (fun _ _ _ h => h) (Or.inl ⟨by rfl, ?_⟩) (by assumption) ?_
          rotate_left
          · intro w hSw
            go_simp
            try with_reducible rfl
          simp only [Act.put, List.setIfInBounds_toArray, List.set_cons_zero, List.set_cons_succ]
          refine wpAnyH_done (by kernel_rfl) ?_ _
          go_wp2_with fail
          obtain ⟨⟨F9, G9, hS9, hR9, hd9, _⟩, _⟩ := hT3
          exact ⟨⟨k + 1, F9, G9, ps3, vs3, by omega, by go_num, hS9, hR9, hd9, hWS3, hpl3, hBn⟩, by simp [intOf]; omega⟩
      · obtain rfl : k = os.length := by omega
        have b1 : decide ((os.length : Int) < (os.length : Int)) = false := decide_eq_false (by omega)
        have b3 : decide (os.length < os.length) = false := decide_eq_false (by omega)
        go_wp2_with fail
        refine (gaw _).out.mono ?_
        rintro _ w3 ⟨rfl, hb3⟩
        go_wp2_with fail
        go_ret
        exact ⟨rfl, by rw [← hBe.out]; exact hB.trans (hb3.mono (hBz hB))⟩
  · have hout : most < 0 ∨ 1024 < most := by omega
    have g1 := Lib.hid (hnew_out most w hout)
    have g2 := Lib.hid (rnew_out most w hout)
    clear hin hout
    go_enter Try.func6, Try.ntmps6
    go_wp2_with fail
    refine g1.out.mono ?_
    rintro _ _ ⟨rfl, rfl⟩
    go_wp2_with fail
    refine g2.out.mono ?_
    rintro _ _ ⟨rfl, rfl⟩
    go_wp2_with fail
    refine wp_loop_once ?_
    go_wp2_with fail
    refine (gaw _).out.mono ?_
    rintro _ w3 ⟨rfl, hb3⟩
    go_wp2_with fail
    go_ret
    exact ⟨rfl, hb3⟩

set_option maxRecDepth 100000 in
theorem lifted (os : Os) (started : os.Started) (H : Type) (enc : TypeId × Value → H) :
    ReturnsInHanded {} Try.checked os 6 .any (Rows.heapPlaysSpec.pre6 enc Try.prog Try.f6 Rows.heapPlaysRow.domain false) (Rows.heapPlaysSpec.post enc Try.prog Try.f6 false true false false) := by
  refine returnsInHanded_of_change (C := Try.checked) own started (by kernel_rfl) Try.func6
    (ChangeSpec.witness6 (enc := enc) (C := Try.checked) false ⟨#[], #[.int .i64 0, .slice none 0 0], []⟩ 8 (by kernel_rfl) (by kernel_rfl) (by kernel_rfl) (by kernel_rfl)) ?_
  intro W base args ds gs before hval0 hW hcnd _
  have hval : ∀ (j : Nat) t v, Try.f6.params[j]? = some t → args[j]? = some v → Value.okWide Try.prog W .any base t v := hval0
  have hW' := hW
  obtain ⟨p, q, hA0, hV, rfl, hfz, hnd⟩ := hW
  have hA : DataW.TrodAll enc Try.prog W 0 (fun _ => true) true Try.f6.params.toList args.toList ds p := hA0
  rw [Try.params6] at hA hval
  obtain ⟨v0, vs0, d0, ds0, p0, q0, hargs, rfl, rfl, h0, r0⟩ := trodAll_cons hA
  obtain ⟨v1, vs1, d1, ds1, p1, q1, rfl, rfl, rfl, h1, r1⟩ := trodAll_cons r0
  obtain ⟨rfl, rfl, rfl⟩ := trodAll_nil r1
  obtain rfl : args = #[v0, v1] := by cases args; simp_all
  obtain ⟨rfl, rfl⟩ := trodVars_none hV
  obtain ⟨x0, rfl, rfl, rfl, wx0⟩ := open_int Try.underlying3 (hval 0 3 v0 rfl rfl) h0
  obtain ⟨a1, len1, cap1, rfl⟩ := okWide_slice Try.underlying47 (hval 1 47 v1 rfl rfl)
  have k1 := h1
  have lt1 : ∀ x ∈ p1, x.block < W.heap.size := by obtain ⟨m, hm⟩ := k1; exact DataW.trod_lt m _ _ _ hm
  obtain ⟨fuel1, hf1⟩ := h1
  have hg1 : DataW.trod enc Try.prog W 0 (fun _ => true) true fuel1 47 [.slice a1 len1 cap1] = some (d1, p1) := by simpa [Value.cells] using hf1
  obtain ⟨os1, w1⟩ := open_hops hg1
  clear hA0 hval0
  refine (walk x0 a1 len1 cap1 os1 W wx0 w1).mono fun e W' ⟨he, bel⟩ => ?_
  subst he
  exact ⟨_, rfl, _, _, _, [], _, [], hW', trodAll_mk1 (shut_bool Try.underlying4 _), (trodAll_cons_mk (shut_int Try.underlying3 wx0) (trodAll_cons_mk (Below.trod laidOut (by kernel_rfl) (of_decide_eq_true (by kernel_rfl)) k1 bel lt1) trodAll_mk0)), rfl, bel.frame _, fun h => by cases h⟩

theorem closed : joinedFacts Try.prog 6 Try.f6 Rows.heapPlaysSpec Rows.heapPlaysRow = true := by
  have h1 := mayEnter_fact
  have h2 : (Rows.heapPlaysRow.lifted == Try.prog.liftsFinal) = true := by rw [lifts_fact]; rfl
  have h3 : (Try.prog.make == some Rows.heapPlaysRow.make) = true := by rw [make_fact]; rfl
  have hfin : ∀ b : Bool, b = true → b = true := fun _ h => h
  unfold joinedFacts
  rw [h1, h2, h3]
  clear h1 h2 h3
  refine hfin _ ?_
  kernel_rfl

theorem over : Rows.heapPlaysRow.holds Try.pinned (OpenSpec.ofChange Rows.heapPlaysSpec) :=
  OpenClaim.holds_of_wide 6 Try.f6 rfl rfl rfl rfl rfl rfl rfl ⟨rfl, rfl, rfl, rfl, rfl⟩ rfl rfl rfl rfl rfl (by kernel_rfl) Try.func6 closed
    (of_decide_eq_true (by kernel_rfl)) (by unfold Func.isWrapper; first | (rw [if_pos (by decide +kernel)]; kernel_rfl) | (rw [if_neg (by decide +kernel)]; exact ⟨rfl, rfl⟩))
    (fun os started H enc _ => lifted os started H enc)

/-- The statement. -/
theorem proved : Rows.HeapPlaysSaid := over
#print axioms proved

end Go.Proofs.Ytpfgdgelnehjpaa.HeapPlaysP
