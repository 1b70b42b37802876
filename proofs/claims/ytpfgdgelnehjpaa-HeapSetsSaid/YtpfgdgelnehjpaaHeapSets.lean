/- HeapSets: a value that is set is told; nothing else has turned. -/
import Derived.Test.YtpfgdgelnehjpaaHeapS
import Derived.Test.YtpfgdgelnehjpaaOpenH
import Derived.Deep.RegionHeldLaw
import Derived.Test.YtpfgdgelnehjpaaHead
import Derived.Test.YtpfgdgelnehjpaaOpenG
import Derived.Deep.RegionHeld3
import Derived.Lib.SmallJoins
import Derived.ProofKit
import Derived.OpenShut
import Derived.ShutString
import Derived.ChangeOld
import Derived.Laws.StructEq
namespace Go.Proofs.Ytpfgdgelnehjpaa.HeapSetsP
open Go.ChangeShapes Go.WideShapes Go.ChangeAt Go.RowKit
open Go.ChangeMaps (open_string shut_string)
set_option linter.unusedVariables false

theorem own : ownKnob Try.prog.godebug = none := by kernel_rfl
theorem laidOut : laidOutB Try.prog = true := by kernel_rfl
theorem bnext {a b c : World} (h : Below a.heap.size a b) (k : Below b.heap.size b c) : Below a.heap.size a c := h.trans (k.mono h.size)

theorem set_facts {ps : List Pc} {vs : List Vl} {r i : Int} {v : Vl} (h : WS ps vs) (hc : getC ps vs r i = 0) (hk : (getV ps vs r i).k = v.k) :
    ∃ (k j : Nat) (p : Pc), r = (k : Int) + 1 ∧ i = (j : Int) ∧ ps[k]? = some p ∧ j < p.hi - p.lo ∧ setV ps vs r i v = vs.set (p.lo + j) v ∧ getV ps (setV ps vs r i v) r i = v ∧ getC ps (setV ps vs r i v) r i = 0 ∧
      objs ps (setV ps vs r i v) = (objs ps vs).set k (p.t, (dataV vs p).set j v) := by
  rcases obj_cases ps vs r with ⟨_, ho⟩ | ⟨k, p, rfl, hpk, ho⟩
  · unfold getC at hc; rw [ho] at hc; cases hc
  · have hw := h.wp p (List.mem_of_getElem? hpk)
    have hl := dataV_len hw
    have hi : ¬ (i < 0 ∨ ((dataV vs p).length : Int) ≤ i) := fun hi => by
      unfold getC at hc
      rw [ho] at hc
      dsimp only at hc
      rw [if_pos hi] at hc
      cases hc
    obtain ⟨j, rfl⟩ : ∃ j : Nat, i = j := ⟨i.toNat, by omega⟩
    have hj : j < p.hi - p.lo := by omega
    have hsc : setC ps vs ((k : Int) + 1) (j : Int) v = 0 := by unfold setC; rw [if_pos hc, if_pos hk]
    have hsv : setV ps vs ((k : Int) + 1) (j : Int) v = vs.set (p.lo + j) v := by
      unfold setV
      rw [if_pos hsc, show ((k : Int) + 1 - 1).toNat = k by omega, hpk]
      rfl
    have hd2 := dataV_set_in v hw hj
    have ho2 : objD ps (vs.set (p.lo + j) v) ((k : Int) + 1) = some ((dataV vs p).set j v) := by
      have hkl : k < ps.length := (List.getElem?_eq_some_iff.1 hpk).1
      unfold objD
      rw [if_pos (by omega), show ((k : Int) + 1 - 1).toNat = k by omega, hpk, Option.map_some, hd2]
    refine ⟨k, j, p, rfl, rfl, hpk, hj, hsv, ?_, ?_, ?_⟩
    · rw [hsv]
      unfold getV
      rw [ho2]
      dsimp only
      rw [if_neg (by rw [List.length_set]; exact hi), Int.toNat_natCast]
      have : ((dataV vs p).set j v)[j]? = some v := by rw [List.getElem?_set, if_pos rfl, if_pos (by rw [hl]; exact hj)]
      simp [List.getD, this]
    · rw [hsv]
      unfold getC
      rw [ho2]
      dsimp only
      rw [if_neg (by rw [List.length_set]; exact hi)]
    · rw [hsv]
      exact objs_set v h hpk hj
theorem objs_len {os : List Ob} {ps : List Pc} {vs : List Vl} (h : os.map Ob.it = objs ps vs) (hv : vs.length ≤ 1048576) : ∀ o ∈ os, o.d.length ≤ 1048576 := by
  intro o ho
  have h1 : Ob.it o ∈ objs ps vs := by rw [← h]; exact List.mem_map_of_mem ho
  unfold objs at h1
  obtain ⟨p, _, hp⟩ := List.mem_map.1 h1
  have h2 : dataV vs p = o.d := congrArg Prod.snd hp
  rw [← h2]
  unfold dataV
  rw [List.length_take, List.length_drop]
  omega
theorem _root_.Go.Proofs.Ytpfgdgelnehjpaa.WS.setV_ {ps : List Pc} {vs : List Vl} (h : WS ps vs) (r i : Int) (v : Vl) : WS ps (setV ps vs r i v) := by
  unfold setV
  split
  · split
    · exact h.set_ _ _
    · exact h
  · exact h

set_option maxRecDepth 100000 in
set_option maxHeartbeats 40000000 in
theorem walk (A0 : Option Addr) (n0 c0 : Nat) (os : List HOp) (r i vk vn vr : Int) (w : World) (h0 : os.length = n0 ∧ n0 ≤ c0 ∧ c0 ≤ maxLen ∧ ScriptH w w.heap.size A0 os) (wr0 : (Lit.int .i64 r).wf = true) (wi0 : (Lit.int .i64 i).wf = true) :
    Calls Try.prog 5 #[.slice A0 n0 c0, .int .i64 r, .int .i64 i, .agg #[.int .i64 vk, .int .i64 vn, .int .i64 vr]] w fun e w' => e = .returned (.bool true) ∧ Below w.heap.size w w' := by
  obtain ⟨rfl, hlc, hm, hSc⟩ := h0
  unfold maxLen at hm
  obtain ⟨n, hn⟩ : ∃ n : Nat, n = min os.length 60 := ⟨_, rfl⟩
  have hX := Blk.new w 49 #[.int .i64 vk, .int .i64 vn, .int .i64 vr]
  have hsz1 : (w.alloc (.cells #[.int .i64 vk, .int .i64 vn, .int .i64 vr] 49)).heap.size = w.heap.size + 1 := by simp
  have gnew := hnew_any 100 (w.alloc (.cells #[.int .i64 vk, .int .i64 vn, .int .i64 vr] 49)) (by omega) (by omega)
  rw [hsz1] at gnew
  have hbw1 := b0 w (.cells #[.int .i64 vk, .int .i64 vn, .int .i64 vr] 49)
  replace gnew := Lib.hid gnew
  go_enter Try.func5, Try.ntmps5
  go_wp2_with fail
  generalize hW1 : w.alloc (.cells #[.int .i64 vk, .int .i64 vn, .int .i64 vr] 49) = W1 at *
  refine gnew.out.mono ?_
  rintro _ w1 ⟨rfl, hS1, hb1⟩
  obtain ⟨g, hg⟩ : ∃ g, g = w.heap.size + 1 := ⟨_, rfl⟩
  rw [← hg]
  have hS1' : HS w1 (Grow (fun _ => False) W1 w1) (w.heap.size + 1) g [] [] 100 := by rw [hg]; exact hS1
  clear hS1 hW1
  replace hg := Lib.hid hg
  have hBz : ∀ {W : World}, Below (w.heap.size + 1) W1 W → w.heap.size + 1 ≤ W.heap.size := fun h => by have := h.size; omega
  go_wp2_with fail
  go_loopw [11] (fun i wr => ∃ (k : Nat) (F : Nat → Prop) (ps : List Pc) (vs : List Vl), k ≤ n ∧ i = .int .i64 k ∧ HS wr F (w.heap.size + 1) g ps vs 100 ∧ WS ps vs ∧ (ps.length : Int) ≤ 100 ∧ Below (w.heap.size + 1) W1 wr) (fun i _ => n - (intOf i).toNat)
  case atStart => exact ⟨0, _, _, _, by omega, rfl, hS1', WS.nil, by simp, hb1⟩
  case round =>
    obtain ⟨k, F, ps, vs, hk, rfl, hS, hWS, hpl, hB⟩ := hrel
    by_cases hlt : k < n
    · have b1 : decide ((k : Int) < (os.length : Int)) = true := decide_eq_true (by omega)
      have b2 : decide ((k : Int) < 60) = true := decide_eq_true (by omega)
      have b3 : decide (k < os.length) = true := decide_eq_true (by omega)
      have b4 : decide (k < 60) = true := decide_eq_true (by omega)
      have hkl : k < os.length := by omega
      obtain ⟨ad, rfl, hlo, hcs, AL, cL, hc16, hRL, hlcL, hmL⟩ := hSc k os[k] (List.getElem?_eq_getElem hkl)
      generalize os[k] = o at *
      obtain ⟨ow, ⟨otk, otn, otd, ote, otp⟩, ⟨ofk, ofn, ofd, ofe, ofp⟩, on, oi, ⟨ovk, ovn, ovr⟩, ol⟩ := o
      dsimp only at hcs hc16 hRL hlcL
      have hBw : Below w.heap.size w wr := (hbw1).trans (hB.mono (Nat.le_succ _))
      have hpb : ∀ j, ((ad.add (k * 17)).add j).block < w.heap.size := fun j => by rw [block_of_add, block_of_add]; exact hlo
      have hC : ∀ j u, [.int .i64 ow, .int .i64 otk, .string otn, .int .i64 otd, .int .i64 ote, .int .i64 otp, .int .i64 ofk, .string ofn, .int .i64 ofd, .int .i64 ofe, .int .i64 ofp, .int .i64 on, .int .i64 oi, .int .i64 ovk, .int .i64 ovn, .int .i64 ovr][j]? = some u → wr.cell? ((ad.add (k * 17)).add j) = some u := fun j u hu => (hBw.cell (hpb j)).trans (hcs j u hu)
      have hC16 : wr.cell? ((ad.add (k * 17)).add 16) = some (.slice AL ol.length cL) := (hBw.cell (hpb 16)).trans hc16
      have hRb : ReadsT wr.drew (w.heap.size + 1) AL ol := Reads.drew (Reads.more (Reads.below hRL hBw) (Nat.le_succ _))
      have hSd := hS.below ((Below.refl _ _).drew)
      have hvl := hWS.vl
      have e0 : wr.cell? (ad.add (k * 17)) = some (.int .i64 ow) := by simpa [Addr.add] using hC 0 _ rfl
      clear hcs hc16 hlo hRL
      by_cases hw0 : ow = 0
      · subst hw0
        have gm := hmake_any g ps vs 100 ⟨otk, otn, otd, ote, otp⟩ ol AL cL wr.drew F (w.heap.size + 1) hSd (by omega) (by omega) hRb (Nat.le_trans hlcL hmL)
        unfold MPost Ty.val at gm
        dsimp only at gm
        generalize (if 1024 < ol.length then (0 : Int) else mkR ps 100) = rr at *
        generalize (if 1024 < ol.length then (1 : Int) else mkE ps 100) = ee at *
        replace gm := Lib.hid gm
        have c1 : wr.drew.cell? (⟨(ad.add (k * 17)).block, (ad.add (k * 17)).off + 1, none⟩) = some (.int .i64 otk) := hC 1 _ rfl
        have c2 : wr.drew.cell? (⟨(ad.add (k * 17)).block, (ad.add (k * 17)).off + 2, none⟩) = some (.string otn) := hC 2 _ rfl
        have c3 : wr.drew.cell? (⟨(ad.add (k * 17)).block, (ad.add (k * 17)).off + 3, none⟩) = some (.int .i64 otd) := hC 3 _ rfl
        have c4 : wr.drew.cell? (⟨(ad.add (k * 17)).block, (ad.add (k * 17)).off + 4, none⟩) = some (.int .i64 ote) := hC 4 _ rfl
        have c5 : wr.drew.cell? (⟨(ad.add (k * 17)).block, (ad.add (k * 17)).off + 5, none⟩) = some (.int .i64 otp) := hC 5 _ rfl
        have c16 : wr.drew.cell? (⟨(ad.add (k * 17)).block, (ad.add (k * 17)).off + 16, none⟩) = some (.slice AL ol.length cL) := hC16
        clear hC hC16
        go_wp2_with fail
        go_region_with (first
          | (go_at_call 13
             refine gm.out.mono ?_
             rintro _ w3 ⟨rfl, hS3, hT3⟩))
        all_goals
          go_wp2_with fail
          exact ⟨⟨k + 1, _, _, _, by omega, by go_num, hS3, hWS.mk_ 100 _ _, mkP_len hpl _ _ _, (hB.drew).trans (hT3.below (hBz hB.drew) (fun q hq => (hS.lt q hq).1))⟩, by simp [intOf]; omega⟩
      · have q0 : (ow == 0) = false := by simpa using hw0
        have gm := harray_any g ps vs 100 ⟨otk, otn, otd, ote, otp⟩ ⟨ofk, ofn, ofd, ofe, ofp⟩ on wr.drew F (w.heap.size + 1) hSd (by omega) (by omega)
        unfold Ty.val at gm
        dsimp only at gm
        generalize arR ps 100 on = rr at *
        generalize arE ps 100 on = ee at *
        replace gm := Lib.hid gm
        have c1 : wr.drew.cell? (⟨(ad.add (k * 17)).block, (ad.add (k * 17)).off + 1, none⟩) = some (.int .i64 otk) := hC 1 _ rfl
        have c2 : wr.drew.cell? (⟨(ad.add (k * 17)).block, (ad.add (k * 17)).off + 2, none⟩) = some (.string otn) := hC 2 _ rfl
        have c3 : wr.drew.cell? (⟨(ad.add (k * 17)).block, (ad.add (k * 17)).off + 3, none⟩) = some (.int .i64 otd) := hC 3 _ rfl
        have c4 : wr.drew.cell? (⟨(ad.add (k * 17)).block, (ad.add (k * 17)).off + 4, none⟩) = some (.int .i64 ote) := hC 4 _ rfl
        have c5 : wr.drew.cell? (⟨(ad.add (k * 17)).block, (ad.add (k * 17)).off + 5, none⟩) = some (.int .i64 otp) := hC 5 _ rfl
        have c6 : wr.drew.cell? (⟨(ad.add (k * 17)).block, (ad.add (k * 17)).off + 6, none⟩) = some (.int .i64 ofk) := hC 6 _ rfl
        have c7 : wr.drew.cell? (⟨(ad.add (k * 17)).block, (ad.add (k * 17)).off + 7, none⟩) = some (.string ofn) := hC 7 _ rfl
        have c8 : wr.drew.cell? (⟨(ad.add (k * 17)).block, (ad.add (k * 17)).off + 8, none⟩) = some (.int .i64 ofd) := hC 8 _ rfl
        have c9 : wr.drew.cell? (⟨(ad.add (k * 17)).block, (ad.add (k * 17)).off + 9, none⟩) = some (.int .i64 ofe) := hC 9 _ rfl
        have c10 : wr.drew.cell? (⟨(ad.add (k * 17)).block, (ad.add (k * 17)).off + 10, none⟩) = some (.int .i64 ofp) := hC 10 _ rfl
        have c11 : wr.drew.cell? (⟨(ad.add (k * 17)).block, (ad.add (k * 17)).off + 11, none⟩) = some (.int .i64 on) := hC 11 _ rfl
        clear hC hC16
        go_wp2_with fail
        go_region_with (first
          | (go_at_call 14
             refine gm.out.mono ?_
             rintro _ w3 ⟨rfl, hS3, hT3⟩))
        all_goals
          go_wp2_with fail
          exact ⟨⟨k + 1, _, _, _, by omega, by go_num, hS3, hWS.ar 100 _ _ _, arP_len hpl _ _ _ _, (hB.drew).trans (hT3.below (hBz hB.drew) (fun q hq => (hS.lt q hq).1))⟩, by simp [intOf]; omega⟩
    · obtain rfl : k = n := by omega
      by_cases hx : k < os.length
      · have b1 : decide ((k : Int) < os.length) = true := decide_eq_true (by omega)
        have b2 : decide ((k : Int) < 60) = false := decide_eq_false (by omega)
        have b3 : decide (k < 60) = false := decide_eq_false (by omega)
        clear hlt hk hn hSc
        have hvl := hWS.vl
        have hps : ps.length ≤ 1024 := by omega
        have hvs : vs.length ≤ 1048576 := by omega
        have gall := Lib.hid (all_any g ps vs 100 wr F (w.heap.size + 1) hS hWS.wp hps hvs)
        go_wp2_with fail
        refine gall.out.mono ?_
        rintro _ w2 ⟨A1, c1, os1, rfl, hL2, hmap1, hb2⟩
        have hS2 := hS.below hb2
        have hB2 := hB.trans (hb2.mono (hBz hB))
        have gget := get_any g r i ps vs 100 w2 F (w.heap.size + 1) hS2 hWS.wp hps hvs
        obtain ⟨⟨uk, un, ur⟩, hu⟩ : ∃ u, getV ps vs r i = u := ⟨_, rfl⟩
        obtain ⟨code, hcode⟩ : ∃ c, getC ps vs r i = c := ⟨_, rfl⟩
        rw [hu, hcode] at gget
        unfold Vl.val at gget
        dsimp only at gget
        replace gget := Lib.hid gget
        replace hu := Lib.hid hu
        replace hcode := Lib.hid hcode
        replace hmap1 := Lib.hid hmap1
        have hlen1 : os1.length = ps.length := by have := congrArg List.length hmap1.out; rwa [List.length_map, List.length_map] at this
        replace hlen1 := Lib.hid hlen1
        go_wp2_with fail
        refine gget.out.mono ?_
        rintro _ w3 ⟨rfl, hb3⟩
        have hb4 := ba hb3 (.cells #[.int .i64 uk, .int .i64 un, .int .i64 ur] 49)
        have hU := Blk.new w3 49 #[.int .i64 uk, .int .i64 un, .int .i64 ur]
        have hS4 := hS2.below hb4
        have hL4 := hL2.below hb4
        have hB4 := hB2.trans (hb4.mono (hBz hB2))
        have hX4 := Blk.below hX hB4 (Nat.lt_succ_self _)
        have x0 : (w3.alloc (.cells #[.int .i64 uk, .int .i64 un, .int .i64 ur] 49)).cell? ⟨w.heap.size, 0, none⟩ = some (.int .i64 vk) := hX4.cell 0
        have x1 : (w3.alloc (.cells #[.int .i64 uk, .int .i64 un, .int .i64 ur] 49)).cell? ⟨w.heap.size, 1, none⟩ = some (.int .i64 vn) := hX4.cell 1
        have x2 : (w3.alloc (.cells #[.int .i64 uk, .int .i64 un, .int .i64 ur] 49)).cell? ⟨w.heap.size, 2, none⟩ = some (.int .i64 vr) := hX4.cell 2
        have hUl := hU.lt
        have hu3 : w3.heap.size = w3.heap.size := rfl
        generalize hW4 : w3.alloc (.cells #[.int .i64 uk, .int .i64 un, .int .i64 ur] 49) = w4 at *
        have gset := set_any g r i ⟨vk, vn, vr⟩ ps vs 100 w4 F (w.heap.size + 1) hS4 hWS.wp hps hvs
        unfold Vl.val at gset
        dsimp only at gset
        obtain ⟨sc, hsc⟩ : ∃ c, setC ps vs r i ⟨vk, vn, vr⟩ = c := ⟨_, rfl⟩
        obtain ⟨vs2, hvs2⟩ : ∃ c, setV ps vs r i ⟨vk, vn, vr⟩ = c := ⟨_, rfl⟩
        rw [hsc, hvs2] at gset
        replace gset := Lib.hid gset
        replace hsc := Lib.hid hsc
        replace hvs2 := Lib.hid hvs2
        go_wp2_with fail
        refine gset.out.mono ?_
        rintro _ w5 ⟨rfl, hS5, hT5⟩
        have hFw : ∀ q, F q → w.heap.size + 1 ≤ q ∧ q < wr.heap.size := fun q hq => hS.lt q hq
        have hL5 := hL4.turned hT5 (fun q hq hf => by have := (hFw q hf).2; omega)
        have hB5 := hB4.trans (hT5.below (hBz hB4) (fun q hq => (hFw q hq).1))
        have hX5 := Blk.below hX hB5 (Nat.lt_succ_self _)
        have hs2 := hb2.size
        have hs3 := hb3.size
        have hU5 : Blk w5 w3.heap.size 49 #[.int .i64 uk, .int .i64 un, .int .i64 ur] := hU.turned hT5 (fun hf => by have := (hFw _ hf).2; omega)
        have y0 : w5.cell? ⟨w3.heap.size, 0, none⟩ = some (.int .i64 uk) := hU5.cell 0
        have z0 : w5.cell? ⟨w.heap.size, 0, none⟩ = some (.int .i64 vk) := hX5.cell 0
        have hd1 := objs_len hmap1.out hvs
        have hl20 : os1.length ≤ 1048576 := by rw [hlen1.out]; omega
        have hWS2 : WS ps vs2 := by rw [← hvs2.out]; exact hWS.setV_ r i _
        have hvl2 := hWS2.vl
        have gall2 := Lib.hid (all_any g ps vs2 100 w5 (Grow F w4 w5) (w.heap.size + 1) hS5 hWS2.wp hps (by omega))
        clear gset gget gall hW4 x0 x1 x2
        by_cases hc : code = 0
        · subst hc
          by_cases hkk : uk = vk
          · have hsc0 : setC ps vs r i ⟨vk, vn, vr⟩ = 0 := by unfold setC; rw [if_pos hcode.out, hu.out]; exact if_pos hkk
            obtain rfl : sc = 0 := hsc.out.symm.trans hsc0
            subst hkk
            obtain ⟨k', j, p, rfl, rfl, hpk, hj, hv2, hgv, hgc, hob⟩ := set_facts hWS hcode.out (v := ⟨uk, vn, vr⟩) (by rw [hu.out])
            rw [hvs2.out] at hv2 hgv hgc hob
            have gget2 := get_any g ((k' : Int) + 1) (j : Int) ps vs2 100 w5 (Grow F w4 w5) (w.heap.size + 1) hS5 hWS2.wp hps (by omega)
            rw [hgv, hgc] at gget2
            unfold Vl.val at gget2
            dsimp only at gget2
            replace gget2 := Lib.hid gget2
            replace hob := Lib.hid hob
            clear hgv hgc hv2
            go_wp2_with fail
            refine gget2.out.mono ?_
            rintro _ w6 ⟨rfl, hb6⟩
            have hb7 := ba hb6 (.cells #[.int .i64 uk, .int .i64 vn, .int .i64 vr] 49)
            have hM := Blk.new w6 49 #[.int .i64 uk, .int .i64 vn, .int .i64 vr]
            have m0 := hM.cell 0
            have m1 := hM.cell 1
            have m2 := hM.cell 2
            have hB7 := hB5.trans (hb7.mono (hBz hB5))
            have hX7 := Blk.below hX hB7 (Nat.lt_succ_self _)
            have hL7 := hL5.below hb7
            have hS7 := hS5.below hb7
            generalize hW7 : w6.alloc (.cells #[.int .i64 uk, .int .i64 vn, .int .i64 vr] 49) = w7 at *
            replace m0 : w7.cell? ⟨w6.heap.size, 0, none⟩ = some (.int .i64 uk) := m0
            replace m1 : w7.cell? ⟨w6.heap.size, 1, none⟩ = some (.int .i64 vn) := m1
            replace m2 : w7.cell? ⟨w6.heap.size, 2, none⟩ = some (.int .i64 vr) := m2
            have t0 : w7.cell? ⟨w.heap.size, 0, none⟩ = some (.int .i64 uk) := hX7.cell 0
            have t1 : w7.cell? ⟨w.heap.size, 1, none⟩ = some (.int .i64 vn) := hX7.cell 1
            have t2 : w7.cell? ⟨w.heap.size, 2, none⟩ = some (.int .i64 vr) := hX7.cell 2
            have hkp : k' < ps.length := (List.getElem?_eq_some_iff.1 hpk).1
            obtain ⟨o, ho⟩ : ∃ o, os1[k']? = some o := ⟨os1[k']'(by rw [hlen1.out]; exact hkp), List.getElem?_eq_getElem _⟩
            obtain ⟨hot, hod⟩ : o.t = p.t ∧ o.d = dataV vs p := by
              have e : (os1.map Ob.it)[k']? = (objs ps vs)[k']? := congrArg (fun l => l[k']?) hmap1.out
              unfold objs at e
              rw [List.getElem?_map, List.getElem?_map, ho, hpk] at e
              simp only [Option.map_some, Option.some.injEq, Ob.it, Prod.mk.injEq] at e
              exact e
            have hdl := dataV_len (hWS.wp p (List.mem_of_getElem? hpk))
            have hjo : j < o.d.length := by rw [hod, hdl]; exact hj
            obtain ⟨ad1, rfl, _, a0, a1, a2, a3, a4, a5⟩ := readsO_at hL7.reads.1 ho
            obtain ⟨gb, hA, hgb, hgl, hfz, hcs, hput⟩ := hL7.put ho hjo
            have hgl4 : gb < w4.heap.size := by
              have := (hL4.2.1 o (List.mem_of_getElem? ho)).lt gb (by unfold Ob.sl; rw [hA]; rfl)
              exact this.2
            have hol := hd1 o (List.mem_of_getElem? ho)
            rw [hA] at a5
            generalize hoc : o.c = oc at *
            obtain ⟨N, hN⟩ : ∃ N, o.d.length = N := ⟨_, rfl⟩
            rw [hN] at a5 hjo hol
            have had : (⟨gb, 0, none⟩ : Addr).add (j * 3) = ⟨gb, j * 3, none⟩ := addr0_add _ _
            obtain ⟨u0, n0⟩ := Option.isSome_iff_exists.1 (hcs 0 (by omega))
            obtain ⟨u1, n1⟩ := Option.isSome_iff_exists.1 (hcs 1 (by omega))
            obtain ⟨u2, n2⟩ := Option.isSome_iff_exists.1 (hcs 2 (by omega))
            rw [Nat.add_zero] at n0
            have f0 := hfz (j * 3)
            have f1 := hfz (j * 3 + 1)
            have f2 := hfz (j * 3 + 2)
            have p1 : decide ((k' : Int) + 1 < 1) = false := decide_eq_false (by omega)
            have p2 : decide ((os1.length : Int) < (k' : Int) + 1) = false := decide_eq_false (by rw [hlen1.out]; omega)
            have p3 : decide ((j : Int) < 0) = false := decide_eq_false (by omega)
            have p4 : decide ((N : Int) ≤ (j : Int)) = false := decide_eq_false (by omega)
            have p5 : decide (N ≤ j) = false := decide_eq_false (by omega)
            have hk1 : k' < os1.length := by rw [hlen1.out]; exact hkp
            have hput' := hput ⟨uk, vn, vr⟩
            generalize hW8 : ((w7.setCell ⟨gb, j * 3, none⟩ (.int .i64 uk)).setCell ⟨gb, j * 3 + 1, none⟩ (.int .i64 vn)).setCell ⟨gb, j * 3 + 2, none⟩ (.int .i64 vr) = w8 at *
            have hT8 : Turned (fun q => q = gb) w7 w8 := by
              rw [← hW8]
              exact (((Turned.refl (fun q => q = gb) w7).setCell (p := ⟨gb, j * 3, none⟩) (.inl rfl) _).setCell (p := ⟨gb, j * 3 + 1, none⟩) (.inl rfl) _).setCell (p := ⟨gb, j * 3 + 2, none⟩) (.inl rfl) _
            have hS8 := hS7.turned hT8 (fun q hq e => by
              subst e
              rcases hq with hq | hq
              · have := (hFw _ hq).2; omega
              · omega)
            have hB8 := hB7.trans (hT8.below (hBz hB7) (fun q e => by subst e; have := hBz hB; omega))
            have gall3 := Lib.hid (all_any g ps vs2 100 w8.drew (Grow F w4 w5) (w.heap.size + 1) (hS8.below ((Below.refl _ _).drew)) hWS2.wp hps (by omega))
            have hmap8 : (os1.set k' ⟨o.t, o.d.set j ⟨uk, vn, vr⟩, o.A, oc⟩).map Ob.it = objs ps vs2 := by
              rw [List.map_set, hmap1.out, hob.out]
              show (objs ps vs).set k' (o.t, o.d.set j ⟨uk, vn, vr⟩) = _
              rw [hot, hod]
            replace hmap8 := Lib.hid hmap8
            have hl8 : (os1.set k' (⟨o.t, o.d.set j ⟨uk, vn, vr⟩, o.A, oc⟩ : Ob)).length = os1.length := List.length_set
            replace hl8 := Lib.hid hl8
            replace hW8 := Lib.hid hW8
            replace hput' := Lib.hid hput'
            clear hput hcs hfz hot hod hdl hA hoc gget2
            go_wp2_with fail
            go_region
            all_goals
              rw [hW8.out]
              go_wp2_with fail
              refine gall3.out.mono ?_
              rintro _ w9 ⟨A2, c2, os2, rfl, hL9, hmap2, hb9⟩
              have hd2 := objs_len hmap2 (by omega)
              have e3 := hmap2.trans hmap8.out.symm
              have e2 : os2.length = os1.length := by have := congrArg List.length e3; rw [List.length_map, List.length_map, hl8.out] at this; exact this
              have hrd8 := (hput'.out.below (((Below.refl _ _).drew).trans hb9)).reads
              have gsm := Lib.hid (same_any A2 (some ad1) c2 c1 os1.length os2 _ w9 _ _ hL9.reads hrd8 e3 e2 hl20 hd2)
              rw [e2]
              clear e2 e3
              go_wp2_with fail
              refine gsm.out.mono ?_
              rintro _ wA ⟨rfl, hbA⟩
              go_wp2_with fail
              go_ret
              exact ⟨rfl, hbw1.trans ((hB8.drew.trans ((bn hb9 hbA).mono (hBz hB8.drew))).mono (Nat.le_succ _))⟩
          · have hsc1 : setC ps vs r i ⟨vk, vn, vr⟩ = 1 := by unfold setC; rw [if_pos hcode.out, hu.out]; exact if_neg hkk
            obtain rfl : sc = 1 := hsc.out.symm.trans hsc1
            obtain rfl : vs2 = vs := by rw [← hvs2.out]; unfold setV; rw [hsc1]; exact if_neg (by decide)
            have q1 : (uk != vk) = true := by simpa using hkk
            have q2 : (uk == vk) = false := by simpa using hkk
            go_wp2_with fail
            refine gall2.out.mono ?_
            rintro _ w6 ⟨A2, c2, os2, rfl, hL6, hmap2, hb6⟩
            have hd2 := objs_len hmap2 hvs
            have gsm := Lib.hid (same_any A2 A1 c2 c1 os1.length os2 os1 w6 _ _ hL6.reads (hL5.below hb6).reads (hmap2.trans hmap1.out.symm) (by have := congrArg List.length (hmap2.trans hmap1.out.symm); rwa [List.length_map, List.length_map] at this) hl20 hd2)
            have e2 : os2.length = os1.length := by have := congrArg List.length (hmap2.trans hmap1.out.symm); rwa [List.length_map, List.length_map] at this
            rw [e2]
            clear e2
            go_wp2_with fail
            refine gsm.out.mono ?_
            rintro _ w7 ⟨rfl, hb7⟩
            go_wp2_with fail
            go_ret
            exact ⟨rfl, hbw1.trans ((hB5.trans ((bn hb6 hb7).mono (hBz hB5))).mono (Nat.le_succ _))⟩
        · have hsc1 : setC ps vs r i ⟨vk, vn, vr⟩ = code := by unfold setC; rw [hcode.out]; exact if_neg hc
          obtain rfl : sc = code := hsc.out.symm.trans hsc1
          obtain rfl : vs2 = vs := by rw [← hvs2.out]; unfold setV; rw [hsc1]; exact if_neg hc
          have q1 : (sc != 0) = true := by simpa using hc
          have q2 : (sc == 0) = false := by simpa using hc
          go_wp2_with fail
          refine gall2.out.mono ?_
          rintro _ w6 ⟨A2, c2, os2, rfl, hL6, hmap2, hb6⟩
          have hd2 := objs_len hmap2 hvs
          have e2 : os2.length = os1.length := by have := congrArg List.length (hmap2.trans hmap1.out.symm); rwa [List.length_map, List.length_map] at this
          have gsm := Lib.hid (same_any A2 A1 c2 c1 os1.length os2 os1 w6 _ _ hL6.reads (hL5.below hb6).reads (hmap2.trans hmap1.out.symm) e2 hl20 hd2)
          rw [e2]
          clear e2
          go_wp2_with fail
          refine gsm.out.mono ?_
          rintro _ w7 ⟨rfl, hb7⟩
          go_wp2_with fail
          refine (awake14 _).mono ?_
          rintro _ w8 ⟨rfl, hb8⟩
          go_wp2_with fail
          go_ret
          exact ⟨rfl, hbw1.trans ((hB5.trans ((bn hb6 (bn hb7 hb8)).mono (hBz hB5))).mono (Nat.le_succ _))⟩
      · have b1 : decide ((k : Int) < os.length) = false := decide_eq_false (by omega)
        have b3 : decide (k < os.length) = false := decide_eq_false hx
        clear hlt hk hn hSc
        have hvl := hWS.vl
        have hps : ps.length ≤ 1024 := by omega
        have hvs : vs.length ≤ 1048576 := by omega
        have gall := Lib.hid (all_any g ps vs 100 wr F (w.heap.size + 1) hS hWS.wp hps hvs)
        go_wp2_with fail
        refine gall.out.mono ?_
        rintro _ w2 ⟨A1, c1, os1, rfl, hL2, hmap1, hb2⟩
        have hS2 := hS.below hb2
        have hB2 := hB.trans (hb2.mono (hBz hB))
        have gget := get_any g r i ps vs 100 w2 F (w.heap.size + 1) hS2 hWS.wp hps hvs
        obtain ⟨⟨uk, un, ur⟩, hu⟩ : ∃ u, getV ps vs r i = u := ⟨_, rfl⟩
        obtain ⟨code, hcode⟩ : ∃ c, getC ps vs r i = c := ⟨_, rfl⟩
        rw [hu, hcode] at gget
        unfold Vl.val at gget
        dsimp only at gget
        replace gget := Lib.hid gget
        replace hu := Lib.hid hu
        replace hcode := Lib.hid hcode
        replace hmap1 := Lib.hid hmap1
        have hlen1 : os1.length = ps.length := by have := congrArg List.length hmap1.out; rwa [List.length_map, List.length_map] at this
        replace hlen1 := Lib.hid hlen1
        go_wp2_with fail
        refine gget.out.mono ?_
        rintro _ w3 ⟨rfl, hb3⟩
        have hb4 := ba hb3 (.cells #[.int .i64 uk, .int .i64 un, .int .i64 ur] 49)
        have hU := Blk.new w3 49 #[.int .i64 uk, .int .i64 un, .int .i64 ur]
        have hS4 := hS2.below hb4
        have hL4 := hL2.below hb4
        have hB4 := hB2.trans (hb4.mono (hBz hB2))
        have hX4 := Blk.below hX hB4 (Nat.lt_succ_self _)
        have x0 : (w3.alloc (.cells #[.int .i64 uk, .int .i64 un, .int .i64 ur] 49)).cell? ⟨w.heap.size, 0, none⟩ = some (.int .i64 vk) := hX4.cell 0
        have x1 : (w3.alloc (.cells #[.int .i64 uk, .int .i64 un, .int .i64 ur] 49)).cell? ⟨w.heap.size, 1, none⟩ = some (.int .i64 vn) := hX4.cell 1
        have x2 : (w3.alloc (.cells #[.int .i64 uk, .int .i64 un, .int .i64 ur] 49)).cell? ⟨w.heap.size, 2, none⟩ = some (.int .i64 vr) := hX4.cell 2
        have hUl := hU.lt
        have hu3 : w3.heap.size = w3.heap.size := rfl
        generalize hW4 : w3.alloc (.cells #[.int .i64 uk, .int .i64 un, .int .i64 ur] 49) = w4 at *
        have gset := set_any g r i ⟨vk, vn, vr⟩ ps vs 100 w4 F (w.heap.size + 1) hS4 hWS.wp hps hvs
        unfold Vl.val at gset
        dsimp only at gset
        obtain ⟨sc, hsc⟩ : ∃ c, setC ps vs r i ⟨vk, vn, vr⟩ = c := ⟨_, rfl⟩
        obtain ⟨vs2, hvs2⟩ : ∃ c, setV ps vs r i ⟨vk, vn, vr⟩ = c := ⟨_, rfl⟩
        rw [hsc, hvs2] at gset
        replace gset := Lib.hid gset
        replace hsc := Lib.hid hsc
        replace hvs2 := Lib.hid hvs2
        go_wp2_with fail
        refine gset.out.mono ?_
        rintro _ w5 ⟨rfl, hS5, hT5⟩
        have hFw : ∀ q, F q → w.heap.size + 1 ≤ q ∧ q < wr.heap.size := fun q hq => hS.lt q hq
        have hL5 := hL4.turned hT5 (fun q hq hf => by have := (hFw q hf).2; omega)
        have hB5 := hB4.trans (hT5.below (hBz hB4) (fun q hq => (hFw q hq).1))
        have hX5 := Blk.below hX hB5 (Nat.lt_succ_self _)
        have hs2 := hb2.size
        have hs3 := hb3.size
        have hU5 : Blk w5 w3.heap.size 49 #[.int .i64 uk, .int .i64 un, .int .i64 ur] := hU.turned hT5 (fun hf => by have := (hFw _ hf).2; omega)
        have y0 : w5.cell? ⟨w3.heap.size, 0, none⟩ = some (.int .i64 uk) := hU5.cell 0
        have z0 : w5.cell? ⟨w.heap.size, 0, none⟩ = some (.int .i64 vk) := hX5.cell 0
        have hd1 := objs_len hmap1.out hvs
        have hl20 : os1.length ≤ 1048576 := by rw [hlen1.out]; omega
        have hWS2 : WS ps vs2 := by rw [← hvs2.out]; exact hWS.setV_ r i _
        have hvl2 := hWS2.vl
        have gall2 := Lib.hid (all_any g ps vs2 100 w5 (Grow F w4 w5) (w.heap.size + 1) hS5 hWS2.wp hps (by omega))
        clear gset gget gall hW4 x0 x1 x2
        by_cases hc : code = 0
        · subst hc
          by_cases hkk : uk = vk
          · have hsc0 : setC ps vs r i ⟨vk, vn, vr⟩ = 0 := by unfold setC; rw [if_pos hcode.out, hu.out]; exact if_pos hkk
            obtain rfl : sc = 0 := hsc.out.symm.trans hsc0
            subst hkk
            obtain ⟨k', j, p, rfl, rfl, hpk, hj, hv2, hgv, hgc, hob⟩ := set_facts hWS hcode.out (v := ⟨uk, vn, vr⟩) (by rw [hu.out])
            rw [hvs2.out] at hv2 hgv hgc hob
            have gget2 := get_any g ((k' : Int) + 1) (j : Int) ps vs2 100 w5 (Grow F w4 w5) (w.heap.size + 1) hS5 hWS2.wp hps (by omega)
            rw [hgv, hgc] at gget2
            unfold Vl.val at gget2
            dsimp only at gget2
            replace gget2 := Lib.hid gget2
            replace hob := Lib.hid hob
            clear hgv hgc hv2
            go_wp2_with fail
            refine gget2.out.mono ?_
            rintro _ w6 ⟨rfl, hb6⟩
            have hb7 := ba hb6 (.cells #[.int .i64 uk, .int .i64 vn, .int .i64 vr] 49)
            have hM := Blk.new w6 49 #[.int .i64 uk, .int .i64 vn, .int .i64 vr]
            have m0 := hM.cell 0
            have m1 := hM.cell 1
            have m2 := hM.cell 2
            have hB7 := hB5.trans (hb7.mono (hBz hB5))
            have hX7 := Blk.below hX hB7 (Nat.lt_succ_self _)
            have hL7 := hL5.below hb7
            have hS7 := hS5.below hb7
            generalize hW7 : w6.alloc (.cells #[.int .i64 uk, .int .i64 vn, .int .i64 vr] 49) = w7 at *
            replace m0 : w7.cell? ⟨w6.heap.size, 0, none⟩ = some (.int .i64 uk) := m0
            replace m1 : w7.cell? ⟨w6.heap.size, 1, none⟩ = some (.int .i64 vn) := m1
            replace m2 : w7.cell? ⟨w6.heap.size, 2, none⟩ = some (.int .i64 vr) := m2
            have t0 : w7.cell? ⟨w.heap.size, 0, none⟩ = some (.int .i64 uk) := hX7.cell 0
            have t1 : w7.cell? ⟨w.heap.size, 1, none⟩ = some (.int .i64 vn) := hX7.cell 1
            have t2 : w7.cell? ⟨w.heap.size, 2, none⟩ = some (.int .i64 vr) := hX7.cell 2
            have hkp : k' < ps.length := (List.getElem?_eq_some_iff.1 hpk).1
            obtain ⟨o, ho⟩ : ∃ o, os1[k']? = some o := ⟨os1[k']'(by rw [hlen1.out]; exact hkp), List.getElem?_eq_getElem _⟩
            obtain ⟨hot, hod⟩ : o.t = p.t ∧ o.d = dataV vs p := by
              have e : (os1.map Ob.it)[k']? = (objs ps vs)[k']? := congrArg (fun l => l[k']?) hmap1.out
              unfold objs at e
              rw [List.getElem?_map, List.getElem?_map, ho, hpk] at e
              simp only [Option.map_some, Option.some.injEq, Ob.it, Prod.mk.injEq] at e
              exact e
            have hdl := dataV_len (hWS.wp p (List.mem_of_getElem? hpk))
            have hjo : j < o.d.length := by rw [hod, hdl]; exact hj
            obtain ⟨ad1, rfl, _, a0, a1, a2, a3, a4, a5⟩ := readsO_at hL7.reads.1 ho
            obtain ⟨gb, hA, hgb, hgl, hfz, hcs, hput⟩ := hL7.put ho hjo
            have hgl4 : gb < w4.heap.size := by
              have := (hL4.2.1 o (List.mem_of_getElem? ho)).lt gb (by unfold Ob.sl; rw [hA]; rfl)
              exact this.2
            have hol := hd1 o (List.mem_of_getElem? ho)
            rw [hA] at a5
            generalize hoc : o.c = oc at *
            obtain ⟨N, hN⟩ : ∃ N, o.d.length = N := ⟨_, rfl⟩
            rw [hN] at a5 hjo hol
            have had : (⟨gb, 0, none⟩ : Addr).add (j * 3) = ⟨gb, j * 3, none⟩ := addr0_add _ _
            obtain ⟨u0, n0⟩ := Option.isSome_iff_exists.1 (hcs 0 (by omega))
            obtain ⟨u1, n1⟩ := Option.isSome_iff_exists.1 (hcs 1 (by omega))
            obtain ⟨u2, n2⟩ := Option.isSome_iff_exists.1 (hcs 2 (by omega))
            rw [Nat.add_zero] at n0
            have f0 := hfz (j * 3)
            have f1 := hfz (j * 3 + 1)
            have f2 := hfz (j * 3 + 2)
            have p1 : decide ((k' : Int) + 1 < 1) = false := decide_eq_false (by omega)
            have p2 : decide ((os1.length : Int) < (k' : Int) + 1) = false := decide_eq_false (by rw [hlen1.out]; omega)
            have p3 : decide ((j : Int) < 0) = false := decide_eq_false (by omega)
            have p4 : decide ((N : Int) ≤ (j : Int)) = false := decide_eq_false (by omega)
            have p5 : decide (N ≤ j) = false := decide_eq_false (by omega)
            have hk1 : k' < os1.length := by rw [hlen1.out]; exact hkp
            have hput' := hput ⟨uk, vn, vr⟩
            generalize hW8 : ((w7.setCell ⟨gb, j * 3, none⟩ (.int .i64 uk)).setCell ⟨gb, j * 3 + 1, none⟩ (.int .i64 vn)).setCell ⟨gb, j * 3 + 2, none⟩ (.int .i64 vr) = w8 at *
            have hT8 : Turned (fun q => q = gb) w7 w8 := by
              rw [← hW8]
              exact (((Turned.refl (fun q => q = gb) w7).setCell (p := ⟨gb, j * 3, none⟩) (.inl rfl) _).setCell (p := ⟨gb, j * 3 + 1, none⟩) (.inl rfl) _).setCell (p := ⟨gb, j * 3 + 2, none⟩) (.inl rfl) _
            have hS8 := hS7.turned hT8 (fun q hq e => by
              subst e
              rcases hq with hq | hq
              · have := (hFw _ hq).2; omega
              · omega)
            have hB8 := hB7.trans (hT8.below (hBz hB7) (fun q e => by subst e; have := hBz hB; omega))
            have gall3 := Lib.hid (all_any g ps vs2 100 w8.drew (Grow F w4 w5) (w.heap.size + 1) (hS8.below ((Below.refl _ _).drew)) hWS2.wp hps (by omega))
            have hmap8 : (os1.set k' ⟨o.t, o.d.set j ⟨uk, vn, vr⟩, o.A, oc⟩).map Ob.it = objs ps vs2 := by
              rw [List.map_set, hmap1.out, hob.out]
              show (objs ps vs).set k' (o.t, o.d.set j ⟨uk, vn, vr⟩) = _
              rw [hot, hod]
            replace hmap8 := Lib.hid hmap8
            have hl8 : (os1.set k' (⟨o.t, o.d.set j ⟨uk, vn, vr⟩, o.A, oc⟩ : Ob)).length = os1.length := List.length_set
            replace hl8 := Lib.hid hl8
            replace hW8 := Lib.hid hW8
            replace hput' := Lib.hid hput'
            clear hput hcs hfz hot hod hdl hA hoc gget2
            go_wp2_with fail
            go_region
            all_goals
              rw [hW8.out]
              go_wp2_with fail
              refine gall3.out.mono ?_
              rintro _ w9 ⟨A2, c2, os2, rfl, hL9, hmap2, hb9⟩
              have hd2 := objs_len hmap2 (by omega)
              have e3 := hmap2.trans hmap8.out.symm
              have e2 : os2.length = os1.length := by have := congrArg List.length e3; rw [List.length_map, List.length_map, hl8.out] at this; exact this
              have hrd8 := (hput'.out.below (((Below.refl _ _).drew).trans hb9)).reads
              have gsm := Lib.hid (same_any A2 (some ad1) c2 c1 os1.length os2 _ w9 _ _ hL9.reads hrd8 e3 e2 hl20 hd2)
              rw [e2]
              clear e2 e3
              go_wp2_with fail
              refine gsm.out.mono ?_
              rintro _ wA ⟨rfl, hbA⟩
              go_wp2_with fail
              go_ret
              exact ⟨rfl, hbw1.trans ((hB8.drew.trans ((bn hb9 hbA).mono (hBz hB8.drew))).mono (Nat.le_succ _))⟩
          · have hsc1 : setC ps vs r i ⟨vk, vn, vr⟩ = 1 := by unfold setC; rw [if_pos hcode.out, hu.out]; exact if_neg hkk
            obtain rfl : sc = 1 := hsc.out.symm.trans hsc1
            obtain rfl : vs2 = vs := by rw [← hvs2.out]; unfold setV; rw [hsc1]; exact if_neg (by decide)
            have q1 : (uk != vk) = true := by simpa using hkk
            have q2 : (uk == vk) = false := by simpa using hkk
            go_wp2_with fail
            refine gall2.out.mono ?_
            rintro _ w6 ⟨A2, c2, os2, rfl, hL6, hmap2, hb6⟩
            have hd2 := objs_len hmap2 hvs
            have gsm := Lib.hid (same_any A2 A1 c2 c1 os1.length os2 os1 w6 _ _ hL6.reads (hL5.below hb6).reads (hmap2.trans hmap1.out.symm) (by have := congrArg List.length (hmap2.trans hmap1.out.symm); rwa [List.length_map, List.length_map] at this) hl20 hd2)
            have e2 : os2.length = os1.length := by have := congrArg List.length (hmap2.trans hmap1.out.symm); rwa [List.length_map, List.length_map] at this
            rw [e2]
            clear e2
            go_wp2_with fail
            refine gsm.out.mono ?_
            rintro _ w7 ⟨rfl, hb7⟩
            go_wp2_with fail
            go_ret
            exact ⟨rfl, hbw1.trans ((hB5.trans ((bn hb6 hb7).mono (hBz hB5))).mono (Nat.le_succ _))⟩
        · have hsc1 : setC ps vs r i ⟨vk, vn, vr⟩ = code := by unfold setC; rw [hcode.out]; exact if_neg hc
          obtain rfl : sc = code := hsc.out.symm.trans hsc1
          obtain rfl : vs2 = vs := by rw [← hvs2.out]; unfold setV; rw [hsc1]; exact if_neg hc
          have q1 : (sc != 0) = true := by simpa using hc
          have q2 : (sc == 0) = false := by simpa using hc
          go_wp2_with fail
          refine gall2.out.mono ?_
          rintro _ w6 ⟨A2, c2, os2, rfl, hL6, hmap2, hb6⟩
          have hd2 := objs_len hmap2 hvs
          have e2 : os2.length = os1.length := by have := congrArg List.length (hmap2.trans hmap1.out.symm); rwa [List.length_map, List.length_map] at this
          have gsm := Lib.hid (same_any A2 A1 c2 c1 os1.length os2 os1 w6 _ _ hL6.reads (hL5.below hb6).reads (hmap2.trans hmap1.out.symm) e2 hl20 hd2)
          rw [e2]
          clear e2
          go_wp2_with fail
          refine gsm.out.mono ?_
          rintro _ w7 ⟨rfl, hb7⟩
          go_wp2_with fail
          refine (awake14 _).mono ?_
          rintro _ w8 ⟨rfl, hb8⟩
          go_wp2_with fail
          go_ret
          exact ⟨rfl, hbw1.trans ((hB5.trans ((bn hb6 (bn hb7 hb8)).mono (hBz hB5))).mono (Nat.le_succ _))⟩

set_option maxRecDepth 100000 in
theorem lifted (os : Os) (started : os.Started) (H : Type) (enc : TypeId × Value → H) :
    ReturnsInHanded {} Try.checked os 5 .any (Rows.heapSetsSpec.pre6 enc Try.prog Try.f5 Rows.heapSetsRow.domain false) (Rows.heapSetsSpec.post enc Try.prog Try.f5 false true false false) := by
  refine returnsInHanded_of_change (C := Try.checked) own started (by kernel_rfl) Try.func5
    (ChangeSpec.witness6 (enc := enc) (C := Try.checked) false ⟨#[], #[.slice none 0 0, .int .i64 0, .int .i64 0, .agg #[.int .i64 0, .int .i64 0, .int .i64 0]], []⟩ 8 (by kernel_rfl) (by kernel_rfl) (by kernel_rfl) (by kernel_rfl)) ?_
  intro W base args ds gs before hval0 hW hcnd _
  have hval : ∀ (j : Nat) t v, Try.f5.params[j]? = some t → args[j]? = some v → Value.okWide Try.prog W .any base t v := hval0
  have hW' := hW
  obtain ⟨p, q, hA0, hV, rfl, hfz, hnd⟩ := hW
  have hA : DataW.TrodAll enc Try.prog W 0 (fun _ => true) true Try.f5.params.toList args.toList ds p := hA0
  rw [Try.params5] at hA hval
  obtain ⟨v0, vs0, d0, ds0, p0, q0, hargs, rfl, rfl, h0, r0⟩ := trodAll_cons hA
  obtain ⟨v1, vs1, d1, ds1, p1, q1, rfl, rfl, rfl, h1, r1⟩ := trodAll_cons r0
  obtain ⟨v2, vs2, d2, ds2, p2, q2, rfl, rfl, rfl, h2, r2⟩ := trodAll_cons r1
  obtain ⟨v3, vs3, d3, ds3, p3, q3, rfl, rfl, rfl, h3, r3⟩ := trodAll_cons r2
  obtain ⟨rfl, rfl, rfl⟩ := trodAll_nil r3
  obtain rfl : args = #[v0, v1, v2, v3] := by cases args; simp_all
  obtain ⟨rfl, rfl⟩ := trodVars_none hV
  obtain ⟨a0, len0, cap0, rfl⟩ := okWide_slice Try.underlying47 (hval 0 47 v0 rfl rfl)
  have k0 := h0
  have lt0 : ∀ x ∈ p0, x.block < W.heap.size := by obtain ⟨m, hm⟩ := k0; exact DataW.trod_lt m _ _ _ hm
  obtain ⟨fuel0, hf0⟩ := h0
  have hg0 : DataW.trod enc Try.prog W 0 (fun _ => true) true fuel0 47 [.slice a0 len0 cap0] = some (d0, p0) := by simpa [Value.cells] using hf0
  obtain ⟨os0, w0⟩ := open_hops hg0
  obtain ⟨x1, rfl, rfl, rfl, wx1⟩ := open_int Try.underlying3 (hval 1 3 v1 rfl rfl) h1
  obtain ⟨x2, rfl, rfl, rfl, wx2⟩ := open_int Try.underlying3 (hval 2 3 v2 rfl rfl) h2
  have k3 := h3
  have lt3 : ∀ x ∈ p3, x.block < W.heap.size := by obtain ⟨m, hm⟩ := k3; exact DataW.trod_lt m _ _ _ hm
  obtain ⟨x3, y3, z3, ht3⟩ : ∃ x y z : Int, v3 = .agg #[.int .i64 x, .int .i64 y, .int .i64 z] := by
    obtain ⟨c0, c1, c2, y0, y1, y2, n, hv, hd, hp, t0, t1, t2⟩ := Go.Joins.open_agg3 Try.underlying49 (by kernel_rfl) (by kernel_rfl) (hval 3 49 v3 rfl rfl) h3
    obtain ⟨n0, q0, _, s0⟩ := DataW.trod_int Try.underlying3 t0
    obtain ⟨n1, q1, _, s1⟩ := DataW.trod_int Try.underlying2 t1
    obtain ⟨n2, q2, _, s2⟩ := DataW.trod_int Try.underlying3 t2
    simp only [List.cons.injEq, and_true] at q0 q1 q2
    subst q0 q1 q2
    exact ⟨n0, n1, n2, hv⟩
  subst ht3
  clear hA0 hval0
  refine (walk a0 len0 cap0 os0 x1 x2 x3 y3 z3 W w0 wx1 wx2).mono fun e W' ⟨he, bel⟩ => ?_
  subst he
  exact ⟨_, rfl, _, _, _, [], _, [], hW', trodAll_mk1 (shut_bool Try.underlying4 _), (trodAll_cons_mk (Below.trod laidOut (by kernel_rfl) (of_decide_eq_true (by kernel_rfl)) k0 bel lt0) (trodAll_cons_mk (shut_int Try.underlying3 wx1) (trodAll_cons_mk (shut_int Try.underlying3 wx2) (trodAll_cons_mk (Below.trod laidOut (by kernel_rfl) (of_decide_eq_true (by kernel_rfl)) k3 bel lt3) trodAll_mk0)))), rfl, bel.frame _, fun h => by cases h⟩

theorem closed : joinedFacts Try.prog 5 Try.f5 Rows.heapSetsSpec Rows.heapSetsRow = true := by
  have h1 := mayEnter_fact
  have h2 : (Rows.heapSetsRow.lifted == Try.prog.liftsFinal) = true := by rw [lifts_fact]; rfl
  have h3 : (Try.prog.make == some Rows.heapSetsRow.make) = true := by rw [make_fact]; rfl
  have hfin : ∀ b : Bool, b = true → b = true := fun _ h => h
  unfold joinedFacts
  rw [h1, h2, h3]
  clear h1 h2 h3
  refine hfin _ ?_
  kernel_rfl

theorem over : Rows.heapSetsRow.holds Try.pinned (OpenSpec.ofChange Rows.heapSetsSpec) :=
  OpenClaim.holds_of_wide 5 Try.f5 rfl rfl rfl rfl rfl rfl rfl ⟨rfl, rfl, rfl, rfl, rfl⟩ rfl rfl rfl rfl rfl (by kernel_rfl) Try.func5 closed
    (of_decide_eq_true (by kernel_rfl)) (by unfold Func.isWrapper; first | (rw [if_pos (by decide +kernel)]; kernel_rfl) | (rw [if_neg (by decide +kernel)]; exact ⟨rfl, rfl⟩))
    (fun os started H enc _ => lifted os started H enc)

/-- The statement. -/
theorem proved : Rows.HeapSetsSaid := over
#print axioms proved

end Go.Proofs.Ytpfgdgelnehjpaa.HeapSetsP
