/- PairOrder: in order, each once. -/
import Derived.Test.YtdilccihhelilaaPairJ
import Derived.Deep.CutBlock
import Derived.Test.YtdilccihhelilaaHead
import Derived.Test.YtdilccihhelilaaOpenG
import Derived.Deep.RegionHeld3
import Derived.Lib.SmallJoins
import Derived.ProofKit
import Derived.OpenShut
import Derived.ShutString
import Derived.ChangeOld
import Derived.Laws.StructEq
namespace Go.Proofs.Ytdilccihhelilaa.PairOrderP
open Go.ChangeShapes Go.WideShapes Go.ChangeAt Go.RowKit
open Go.ChangeMaps (open_string shut_string)
set_option linter.unusedVariables false

theorem own : ownKnob Try.prog.godebug = none := by kernel_rfl
theorem laidOut : laidOutB Try.prog = true := by kernel_rfl
theorem bnext {a b c : World} (h : Below a.heap.size a b) (k : Below b.heap.size b c) : Below a.heap.size a c := h.trans (k.mono h.size)

set_option maxRecDepth 100000 in
set_option maxHeartbeats 40000000 in
theorem walk (a0 : Option Addr) (len0 cap0 : Nat) (ls : List (List Int)) (a1 : Option Addr) (len1 cap1 : Nat) (z1 : List Int) (a2 : Option Addr) (len2 cap2 : Nat) (z2 : List Int) (w : World) (h0 : ls.length = len0 ∧ len0 ≤ cap0 ∧ RowsB w w.heap.size a0 ls) (h1 : IsRow .i64 w a1 len1 cap1 z1) (h2 : IsRow .u8 w a2 len2 cap2 z2) :
    Calls Try.prog 5 #[.slice a0 len0 cap0, .slice a1 len1 cap1, .slice a2 len2 cap2] w fun e w' => e = .returned (.bool true) ∧ Below w.heap.size w w' := by
  obtain ⟨rfl, hcap0, hRows⟩ := h0
  have g1 := fun w => Lib.hid (pnew_any w)
  have gaw := fun w => Lib.hid (awake20 w)
  obtain ⟨n, hn⟩ : ∃ n : Nat, n = min ls.length 200 := ⟨_, rfl⟩
  replace hRows := Lib.hid hRows
  replace h1 := Lib.hid h1
  replace h2 := Lib.hid h2
  go_enter Try.func5, Try.ntmps5
  go_wp2_with fail
  refine (g1 _).out.mono ?_
  rintro _ w1 ⟨rfl, hH1, hb1⟩
  go_wp2_with fail
  refine (g1 _).out.mono ?_
  rintro _ w2 ⟨rfl, hH2, hb2⟩
  obtain ⟨B, hBe⟩ : ∃ B, B = w.heap.size := ⟨_, rfl⟩
  have hB2 : Below B w w2 := by rw [hBe]; exact bnext hb1 hb2
  have hP0 := ps_new (B := B) hH1 (fun q hq => by omega) hb2 hH2 (fun q hq => by omega) (by rw [hBe]; exact hb1.size)
  obtain ⟨ga, hga⟩ : ∃ g, g = w.heap.size + 1 := ⟨_, rfl⟩
  obtain ⟨ma, hma⟩ : ∃ m, m = w.heap.size := ⟨_, rfl⟩
  obtain ⟨gb, hgb⟩ : ∃ g, g = w1.heap.size + 1 := ⟨_, rfl⟩
  obtain ⟨mb, hmb⟩ : ∃ m, m = w1.heap.size := ⟨_, rfl⟩
  generalize (fun k => k = w.heap.size ∨ k = w.heap.size + 1) = F1 at *
  generalize (fun k => k = w1.heap.size ∨ k = w1.heap.size + 1) = Fb at *
  rw [← hga, ← hma, ← hgb, ← hmb] at hP0
  rw [← hga, ← hgb]
  have hBz : ∀ {W : World}, Below B w W → B ≤ W.heap.size := fun h => by have := h.size; omega
  clear hH1 hH2 hb1 hb2
  replace hBe := Lib.hid hBe
  replace hga := Lib.hid hga
  replace hma := Lib.hid hma
  replace hgb := Lib.hid hgb
  replace hmb := Lib.hid hmb
  obtain ⟨i0, hi0, hz0, hz1, hz2⟩ := info_parts infoR
  go_upto_block 0 with fail
  go_cut [9, 10, 11, 12] from 22 (fun net i f e wr => ∃ (k : Nat) (Fa : Nat → Prop) (kv : List Value) (AN : Option Addr) (cN : Nat) (vsN : List Value), i = .int .i64 k ∧ net = .slice AN k cN ∧ PS wr B (ls.take k) Fa ga ma 0 true kv 0 Fb gb mb 0 true 0 (fun _ => none) (.slice AN k cN) k vsN (.slice none 0 0) [] ∧ k ≤ n ∧ k = n ∧ Below B w wr)
  case first =>
    go_wp2_with fail
    go_loopw [9, 10, 11, 12] (fun net i f e wr => ∃ (k : Nat) (Fa : Nat → Prop) (kv : List Value) (AN : Option Addr) (cN : Nat) (vsN : List Value), i = .int .i64 k ∧ net = .slice AN k cN ∧ PS wr B (ls.take k) Fa ga ma 0 true kv 0 Fb gb mb 0 true 0 (fun _ => none) (.slice AN k cN) k vsN (.slice none 0 0) [] ∧ k ≤ n ∧ Below B w wr) (fun _ i _ _ _ => n - (intOf i).toNat)
    case atStart => exact ⟨0, F1, [], none, 0, [], rfl, rfl, hP0, Nat.zero_le _, hB2⟩
    case round =>
      obtain ⟨k, Fa, kv, AN, cN, vsN, rfl, rfl, hP, hkn, hB⟩ := hrel
      by_cases hlt : k < n
      · have hkl2 : k < ls.length := by omega
        have b1 : decide ((k : Int) < (ls.length : Int)) = true := decide_eq_true (by omega)
        have b2 : decide ((k : Int) < 200) = true := decide_eq_true (by omega)
        have b3 : decide (k < ls.length) = true := decide_eq_true (by omega)
        have b4 : decide (k < 200) = true := decide_eq_true (by omega)
        obtain ⟨ad, rfl, hadb, xA, xc, xcell, xr, xbt, xl, xm⟩ := hRows.out k ls[k] (List.getElem?_eq_getElem hkl2)
        have hBd : Below w.heap.size w wr := by rw [← hBe.out]; exact hB
        have htk : ls.take (k + 1) = ls.take k ++ [ls[k]] := (List.take_append_getElem hkl2).symm
        generalize ls[k] = x at *
        have s1 : wr.cell? (ad.add k) = some (.slice xA x.length xc) := (hBd.cell (by rw [block_of_add]; exact hadb)).trans xcell
        have xr' : ReadsB wr wr.heap.size xA x := (Reads.below xr hBd).more hBd.size
        have hkl : kv.length = k := by rw [hP.kl, List.length_take]; omega
        have hxF : ∀ ad, xA = some ad → 0 < x.length → ¬ Fa ad.block := fun ad e h => by
            obtain ⟨ad', e', hb', _⟩ := xr.2 h
            rw [e] at e'
            injection e' with e'
            subst e'
            intro hF
            have := hP.ba _ hF
            have := hBe.out
            omega
        by_cases hxl : 1048568 < x.length
        · have gs := Lib.hid (send_long Fa ga ma 0 true kv 1 0 _ xA x.length xc wr hP.a hxl)
          clear xr' xr xcell hxF htk
          go_wp2_with fail
          refine gs.out.mono ?_
          rintro _ _ ⟨rfl, rfl⟩
          go_wp2_with fail
          go_ret
          exact ⟨rfl, hBd⟩
        · have gs := send_any Fa ga ma 0 kv 1 0 _ xA xc x wr hP.a xr' hxF xbt (by omega) (by omega) hP.k.one (by omega) (by omega) (by omega) (by omega)
          rw [hkl, show (1 : Int) + (k : Int) = (k : Int) + 1 by omega] at gs
          replace gs := Lib.hid gs
          replace htk := Lib.hid htk
          clear xr' xr xcell hxF
          go_wp2_with fail
          refine gs.out.mono ?_
          rintro _ w3 ⟨A3, c3, u, F3, rfl, hfr, hu, hF3, hH3, hT3⟩
          have hB3 := hB.trans (hT3.below (hBz hB) hP.ba)
          have hP3 := hP.send hT3 hF3 hH3 hu ⟨by omega, xbt⟩ (by rw [List.length_take]; omega) (hBz hB)
          rw [← htk.out] at hP3
          obtain ⟨L, hL⟩ : ∃ L, L = x.length + 16 := ⟨_, rfl⟩
          rw [← hL] at hfr ⊢
          have hP4 := hP3.below (b0 w3 (.cells #[.slice A3 L c3] 27))
          have hB4 := hB3.trans ((b0 w3 (.cells #[.slice A3 L c3] 27)).mono (hBz hB3))
          have hfr4 : OwnB (w3.alloc (.cells #[.slice A3 L c3] 27)) 0 (.slice A3 L c3) (FR ((k : Int) + 1) 0 x) := (hfr.base_ (Nat.zero_le _)).alloc _
          have hR1 : Reads (w3.alloc (.cells #[.slice A3 L c3] 27)) (w3.heap.size + 1) 1 (some ⟨w3.heap.size, 0, none⟩) 1 [.slice A3 L c3] := by
            have := Reads.new w3 #[.slice A3 L c3] 27 (0, 0) 1 1 rfl
            simpa using this
          have hxk : (ls.take (k + 1))[k]? = some x := by
            rw [htk.out, List.getElem?_append_right (by rw [List.length_take]; omega), List.length_take, show k - min k ls.length = 0 by omega]
            rfl
          replace hxk := Lib.hid hxk
          replace hP4 := Lib.hid hP4
          replace hL := Lib.hid hL
          clear hP3 hP hfr hu hH3 hT3 htk gs
          go_wp2_with (first
            | (at_builtin
               refine wpList_app (P := Try.prog) _ rfl (.tmp 53) (.tmp 55) 26 rfl B 27 i0 _ 1 24 Try.underlying26 hi0 hz0 hz1 hz2 rfl (by omega) (.slice AN k cN) k vsN rfl hP4.out.n.own (w3.heap.size + 1) (some ⟨w3.heap.size, 0, none⟩) 1 1 [.slice A3 L c3] rfl hR1
                 (fun u hu => by rw [List.mem_singleton.1 hu]; rfl) (by unfold maxLen; omega) (by omega) (hBz hB4) ?_
               intro A5 c5 w5 hown5 hg5 hat5))
          have hB5 : Below B w w5 := hB4.grown hg5 (hBz hB4) (fun q e => (hP4.out.n.own.lt q e).1)
          have hP5 := hP4.out.appN hown5 hg5 hat5 (fun u hu => ⟨k, x, hxk.out, by rw [List.mem_singleton.1 hu]; exact hfr4⟩)
          exact ⟨⟨k + 1, F3, kv ++ [u], A5, c5, vsN ++ [.slice A3 L c3], by go_num, rfl, hP5, by omega, hB5⟩, by simp [intOf]; omega⟩
      · by_cases hxx : k < ls.length
        · have b1 : decide ((k : Int) < ls.length) = true := decide_eq_true (by omega)
          have b2 : decide ((k : Int) < 200) = false := decide_eq_false (by omega)
          have b3 : decide (k < 200) = false := decide_eq_false (by omega)
          have b4 : decide (k < ls.length) = true := decide_eq_true (by omega)
          go_wp2_with fail
          go_meet
          case rel => exact ⟨k, Fa, kv, AN, cN, vsN, rfl, rfl, hP, hkn, by omega, hB⟩
        · have b1 : decide ((k : Int) < ls.length) = false := decide_eq_false (by omega)
          have b3 : decide (k < ls.length) = false := decide_eq_false (by omega)
          go_wp2_with fail
          go_meet
          case rel => exact ⟨k, Fa, kv, AN, cN, vsN, rfl, rfl, hP, hkn, by omega, hB⟩
  case rest =>
    obtain ⟨k0, Fa, kv0, AN0, cN0, vsN0, rfl, rfl, hP0', -, hk0, hB0⟩ := hcut
    have hk0' := hk0.symm
    subst hk0'
    clear hP0 hB2
    replace hn := Lib.hid hn
    have hSn : (ls.take n).length = n := by rw [List.length_take]; have := hn.out; omega
    have hn200 : n ≤ 200 := by have := hn.out; omega
    have hnl : n ≤ ls.length := by have := hn.out; omega
    have hBd : ∀ {W : World}, Below B w W → Below w.heap.size w W := fun h => by rw [← hBe.out]; exact h
    replace hSn := Lib.hid hSn
    go_wp2_with fail
    go_loopw [9, 13, 14, 15, 16, 17, 18, 19, 20, 21] (fun net got i n1 l1 bk e1 x1 y1 e2 wr => ∃ (k ca cb f nN : Nat) (oa ob : Bool) (kv : List Value) (ev : Int → Option Value) (AN AG : Option Addr) (cN cG : Nat) (vsN vsG : List Value), i = .int .i64 k ∧ net = .slice AN nN cN ∧ got = .slice AG vsG.length cG ∧ PS wr B (ls.take n) Fa ga ma ca oa kv f Fb gb mb cb ob vsG.length ev (.slice AN nN cN) nN vsN (.slice AG vsG.length cG) vsG ∧ nN ≤ 1064 ∧ ca ≤ k ∧ cb ≤ k ∧ k ≤ 500 ∧ k ≤ len1 ∧ Below B w wr) (fun _ _ i _ _ _ _ _ _ _ _ => 500 - (intOf i).toNat)
    case atStart => exact ⟨0, 0, 0, 0, n, true, true, kv0, _, AN0, none, cN0, 0, vsN0, [], rfl, rfl, rfl, hP0', by omega, Nat.le_refl _, Nat.le_refl _, by omega, Nat.zero_le _, hB0⟩
    case round =>
      obtain ⟨k, ca, cb, f, nN, oa, ob, kv, ev, AN, AG, cN, cG, vsN, vsG, rfl, rfl, rfl, hP, hnN, hca, hcb, hk5, hkl, hB⟩ := hrel
      by_cases hlt : k < len1 ∧ k < 500 ∧ 0 < nN
      · obtain ⟨hl1, hl2, hl3⟩ := hlt
        have b1 : decide ((k : Int) < (len1 : Int)) = true := decide_eq_true (by omega)
        have b2 : decide ((k : Int) < 500) = true := decide_eq_true (by omega)
        have b3 : decide (k < len1) = true := decide_eq_true (by omega)
        have b4 : decide (k < 500) = true := decide_eq_true (by omega)
        have b5 : decide ((0 : Int) < (nN : Int)) = true := decide_eq_true (by omega)
        have b6 : decide (0 < nN) = true := decide_eq_true (by omega)
        obtain ⟨ad1, z, rfl, had1, hz, _⟩ := h1.out.at_ hl1
        have s1 : wr.cell? (ad1.add k) = some (.int .i64 z) := ((hBd hB).cell (by rw [block_of_add]; exact had1)).trans hz
        obtain ⟨tlo, thi⟩ := tmod_small (z := z) hl3
        have hq0 : ((nN : Int) == 0) = false := by simp; omega
        have hq1 : ¬ (nN : Int) = 0 := by omega
        have hq2 : ¬ nN = 0 := by omega
        have hw1 : IntKind.i64.wrap (z.tmod nN) = z.tmod nN := by rw [IntKind.wrap_i64]; omega
        go_upto_if 80 with fail
        go_cut [15] from 57 to 179 (fun nv wx => ∃ q : Nat, q < nN ∧ nv = .int .i64 q ∧ wx = wr)
        case first =>
          by_cases hneg : z.tmod nN < 0
          · have c1 : decide (z.tmod nN < 0) = true := decide_eq_true hneg
            have c2 : IntKind.i64.wrap (z.tmod nN + nN) = z.tmod nN + nN := by rw [IntKind.wrap_i64]; omega
            go_wp2_with fail
            go_meet
            case rel => exact ⟨(z.tmod nN + nN).toNat, by omega, by congr 1; omega, rfl⟩
          · have c1 : decide (z.tmod nN < 0) = false := decide_eq_false hneg
            go_wp2_with fail
            go_meet
            case rel => exact ⟨(z.tmod nN).toNat, by omega, by congr 1; omega, rfl⟩
        case rest =>
          obtain ⟨q, hq, rfl, rfl⟩ := hcut
          clear hz tlo thi hq0 hq1 hq2 hw1 b1 b2 b3 b4 b5 b6 s1
          obtain ⟨ad2, u, rfl, had2, hu, s2⟩ := Reads.at_ (own_reads hP.n.own) hq
          obtain ⟨j, x, hj, hO⟩ := hP.n.fr u (List.mem_of_getElem? hu)
          obtain ⟨A3, c3, rfl, _⟩ := own_form hO
          have hS := hP.s x (List.mem_of_getElem? hj)
          have gt := hP.take (p := 0) (by omega) hj hO
          generalize FR ((j : Int) + 1) 0 x = fr at *
          generalize fr.length = L at *
          replace gt := Lib.hid gt
          clear hO hu
          go_wp2_with fail
          refine gt.out.mono ?_
          rintro _ w3 ⟨AO, cO, us, AB, cB, evN, rfl, hT3, hP3, hR3, hOb3, hu3, hn3⟩
          have hB3 := hB.trans (hT3.below (hBz hB) hP.bb)
          have hvl := hP3.gs
          have hSn' := hSn.out
          have hus : us.length ≤ 200 := by omega
          have hgl : vsG.length ≤ 200 := by omega
          have hone : ∀ u ∈ us, u.oneCell' = true := fun u hu => by
            obtain ⟨i, hi, rfl⟩ := List.mem_iff_getElem.1 hu
            obtain ⟨_, _, h2⟩ := hu3 i hi
            exact ownB_one h2
          replace hSn' := Lib.hid hSn'
          replace hvl := Lib.hid hvl
          clear gt s2 hP
          go_wp2_with (first
            | (at_builtin
               refine wpList_app (P := Try.prog) _ rfl (.tmp 95) (.tmp 96) 26 rfl B 27 i0 _ 1 24 Try.underlying26 hi0 hz0 hz1 hz2 rfl (by omega) (.slice AG vsG.length cG) vsG.length vsG rfl hP3.g.own w3.heap.size AO us.length cO us rfl (own_reads hR3)
                 hone (by unfold maxLen; omega) (by omega) (hBz hB3) ?_
               intro A5 c5 w5 hown5 hg5 hat5
               have hB5 : Below B w w5 := hB3.grown hg5 (hBz hB3) (fun q e => (hP3.g.own.lt q e).1)
               have hP5 := hP3.appG hown5 hg5 hat5 hu3
               have hOb5 := hOb3.keep (Turned.of_grown (F := fun q => (Value.slice AG vsG.length cG).ownBlock = some q) hg5 (fun q h => h)) (fun q hq => row_noB hP3.g.own q hq)
               have hl5 : (vsG ++ us).length = vsG.length + us.length := List.length_append
               clear hown5 hat5 hg5 hu3 hone hOb3 hR3 hP3 hvl hus hgl hn3
               generalize vsG ++ us = vs5 at *
               generalize vsG.length + us.length = G5 at *
               subst hl5
               have hlG : vs5.length ≤ ls.length := by have := hP5.g.le; have := hSn'.out; omega
               have hv200 : vs5.length ≤ 200 := by have := hP5.g.le; have := hSn'.out; omega
               have b7 : decide ((ls.length : Int) < (vs5.length : Int)) = false := decide_eq_false (by omega)
               have b8 : decide (ls.length < vs5.length) = false := decide_eq_false (by omega)))
          have hR0 : RowsB w5 w.heap.size a0 ls := hRows.out.below (hBd hB5)
          have gr := Lib.hid (rows_in A5 a0 c5 cap0 vs5.length vs5 ls w5 _ _ (own_reads hP5.g.own) hR0 (hBd hB5).size hlG (gr_old hP5.g) (by omega))
          clear hR0
          refine gr.out.mono ?_
          rintro _ w6 ⟨rfl, hb6⟩
          have hP6 := hP5.below hb6
          have hOb6 := hOb5.below hb6
          have hB6 := hB5.trans (hb6.mono (hBz hB5))
          have gg := Lib.hid (got_any _ _ _ _ _ _ _ _ _ w6 hP6.b)
          clear gr hP5 hOb5 hB5 hb6 b7 b8 
          go_wp2_with fail
          refine gg.out.mono ?_
          rintro _ _ ⟨rfl, rfl⟩
          by_cases hl2' : k < len2
          · have b1 : decide ((k : Int) < (len2 : Int)) = true := decide_eq_true (by omega)
            have b3 : decide (k < len2) = true := decide_eq_true (by omega)
            obtain ⟨ad3, y, rfl, had3, hy, hyw⟩ := h2.out.at_ hl2'
            have s1 : w6.cell? (ad3.add k) = some (.int .u8 y) := ((hBd hB6).cell (by rw [block_of_add]; exact had3)).trans hy
            have hyb := bounds_u8 hyw
            by_cases hy2 : y % 2 = 1
            · have e2 : (y % 2 == 1) = true := by simp [hy2]
              have hL16 : (FR 0 (vs5.length : Int) []).length = 16 := by rw [FR_len]; rfl
              have gans := hP6.ans (G := vs5.length) (A := AB) (c := cB) (by omega) hP6.fg (Nat.le_refl _) (by rw [hL16]; exact hOb6)
              rw [hL16] at gans
              replace gans := Lib.hid gans
              replace hy2 := Lib.hid hy2
              clear hL16 hOb6
              go_wp2_with fail
              refine gans.out.mono ?_
              rintro _ w7 ⟨AO7, cO7, AB7, cB7, rfl, hT7, hP7⟩
              have hB7 := hB6.trans (hT7.below (hBz hB6) hP6.ba)
              have hkl7 := hP7.kl
              have hsn := hSn.out
              generalize kv.drop (vs5.length - f) = kv7 at *
              have gk := Lib.hid (kept_any _ _ _ _ _ _ _ _ _ w7 hP7.a)
              clear gans hP6 hT7 hB6
              go_wp2_with fail
              refine gk.out.mono ?_
              rintro _ _ ⟨rfl, rfl⟩
              go_upto_if 164 with fail
              have s7 : w7.cell? (ad3.add k) = some (.int .u8 y) := ((hBd hB7).cell (by rw [block_of_add]; exact had3)).trans hy
              have hv5 : vs5.length ≤ n := by have := hP7.gs; omega
              have hm : (((n - vs5.length : Nat) : Int) != (if (200 : Int) < (ls.length : Int) then 200 else (ls.length : Int)) - (vs5.length : Int)) = false := by
                have h1 := hn.out
                simp only [bne_eq_false_iff_eq]
                split <;> omega
              replace hkl7 := Lib.hid hkl7
              replace hsn := Lib.hid hsn
              have e2' : (y % 4 == 1) = true ∨ (y % 4 == 1) = false := by cases (y % 4 == 1) <;> simp
              have hend : Value.int .i64 ((k : Int) + 1) = .int .i64 ((k + 1 : Nat) : Int) := by go_num
              have hx7 : ∀ x ∈ (ls.take n).drop vs5.length, x.length ≤ 1048568 ∧ Bytes x := fun x hx => hP7.s x (List.mem_of_mem_drop hx)
              have gt := Lib.hid (tick_any Fa ga ma _ _ kv7 ((vs5.length : Int) + 1) 0 _ w7 _ hP7.a hP7.k hx7 (by omega) (by omega) (by omega) (by omega))
              replace hx7 := Lib.hid hx7
              rcases e2' with e4 | e4
              · by_cases hn10 : nN < 1000
                · have c1 : decide ((nN : Int) < 1000) = true := decide_eq_true (by omega)
                  have c2 : decide (nN < 1000) = true := decide_eq_true hn10
                  go_wp2_with fail
                  all_goals
                    refine gt.out.mono ?_
                    rintro _ w8 ⟨A8, c8, vs8, rfl, hR8, hV8, hb8⟩
                    have hP8 := hP7.below hb8
                    have hB8 := hB7.trans (hb8.mono (hBz hB7))
                    have hto := tks_own hV8
                    have hl8 : vs8.length ≤ 64 := by rw [hV8.len, tks_len, List.length_take]; omega
                    have hone8 := hV8.one
                    replace hto := Lib.hid hto
                    clear hV8 gt hP7 hB7 hb8
                    go_wp2_with (first
                      | (at_builtin
                         refine wpList_app (P := Try.prog) _ rfl (.tmp 176) (.tmp 178) 26 rfl B 27 i0 _ 1 24 Try.underlying26 hi0 hz0 hz1 hz2 rfl (by omega) (.slice (some ad2) nN cN) nN vsN rfl hP8.n.own w8.heap.size A8 vs8.length c8 vs8 rfl (own_reads hR8)
                           hone8 (by unfold maxLen; omega) (by omega) (hBz hB8) ?_
                         intro A9 c9 w9 hown9 hg9 hat9))
                    have hB9 : Below B w w9 := hB8.grown hg9 (hBz hB8) (fun q e => (hP8.n.own.lt q e).1)
                    have hP9 := hP8.appN hown9 hg9 hat9 (fun u hu => by
                      obtain ⟨i, hi, rfl⟩ := List.mem_iff_getElem.1 hu
                      obtain ⟨x, h1, h2⟩ := hto.out i _ (List.getElem?_eq_getElem hi)
                      exact ⟨_, x, h1, h2⟩)
                    exact ⟨⟨k + 1, ca + 1, cb + 1, vs5.length, nN + vs8.length, false, false, kv7, evN, A9, A5, c9, c5, vsN ++ vs8, vs5, by go_num, rfl, rfl, hP9, by omega, by omega, by omega, by omega, by omega, hB9⟩, by simp [intOf]; omega⟩
                · have c1 : decide ((nN : Int) < 1000) = false := decide_eq_false (by omega)
                  have c2 : decide (nN < 1000) = false := decide_eq_false hn10
                  clear gt
                  go_wp2_with fail
                  exact ⟨⟨k + 1, ca + 1, cb + 1, vs5.length, nN, false, false, kv7, evN, some ad2, A5, cN, c5, vsN, vs5, by go_num, rfl, rfl, hP7, hnN, by omega, by omega, by omega, by omega, hB7⟩, by simp [intOf]; omega⟩
              · clear gt
                go_wp2_with fail
                exact ⟨⟨k + 1, ca + 1, cb + 1, vs5.length, nN, false, false, kv7, evN, some ad2, A5, cN, c5, vsN, vs5, by go_num, rfl, rfl, hP7, hnN, by omega, by omega, by omega, by omega, hB7⟩, by simp [intOf]; omega⟩
            · have e2 : (y % 2 == 1) = false := by simp [hy2]
              go_wp2_with fail
              exact ⟨⟨k + 1, ca, cb + 1, f, nN, oa, false, kv, evN, some ad2, A5, cN, c5, vsN, vs5, by go_num, rfl, rfl, hP6, hnN, by omega, by omega, by omega, by omega, hB6⟩, by simp [intOf]; omega⟩
          · have b1 : decide ((k : Int) < (len2 : Int)) = false := decide_eq_false (by omega)
            have b3 : decide (k < len2) = false := decide_eq_false (by omega)
            go_wp2_with fail
            exact ⟨⟨k + 1, ca, cb + 1, f, nN, oa, false, kv, evN, some ad2, A5, cN, c5, vsN, vs5, by go_num, rfl, rfl, hP6, hnN, by omega, by omega, by omega, by omega, hB6⟩, by simp [intOf]; omega⟩
      · have hcases : k < len1 → k < 500 → nN = 0 := fun h1 h2 => by
          rcases Nat.eq_zero_or_pos nN with h | h
          · exact h
          · exact absurd ⟨h1, h2, h⟩ hlt
        clear hlt
        have hend : ∀ {W : World}, Below B w W → ∀ w4, Below W.heap.size W w4 → Below w.heap.size w w4 := fun h w4 h4 => hBd (h.trans (h4.mono (hBz h)))
        by_cases hk1 : k < len1
        · have b1 : decide ((k : Int) < (len1 : Int)) = true := decide_eq_true (by omega)
          have b3 : decide (k < len1) = true := decide_eq_true (by omega)
          by_cases hk2 : k < 500
          · have b2 : decide ((k : Int) < 500) = true := decide_eq_true (by omega)
            have b4 : decide (k < 500) = true := decide_eq_true (by omega)
            obtain rfl := hcases hk1 hk2
            go_wp2_with fail
            refine (gaw _).out.mono ?_
            rintro _ w4 ⟨rfl, hb4⟩
            go_wp2_with fail
            go_ret
            exact ⟨rfl, hend hB _ hb4⟩
          · have b2 : decide ((k : Int) < 500) = false := decide_eq_false (by omega)
            have b4 : decide (k < 500) = false := decide_eq_false (by omega)
            go_wp2_with fail
            refine (gaw _).out.mono ?_
            rintro _ w4 ⟨rfl, hb4⟩
            go_wp2_with fail
            go_ret
            exact ⟨rfl, hend hB _ hb4⟩
        · have b1 : decide ((k : Int) < (len1 : Int)) = false := decide_eq_false (by omega)
          have b3 : decide (k < len1) = false := decide_eq_false (by omega)
          go_wp2_with fail
          refine (gaw _).out.mono ?_
          rintro _ w4 ⟨rfl, hb4⟩
          go_wp2_with fail
          go_ret
          exact ⟨rfl, hend hB _ hb4⟩

set_option maxRecDepth 100000 in
theorem lifted (os : Os) (started : os.Started) (H : Type) (enc : TypeId × Value → H) :
    ReturnsInHanded {} Try.checked os 5 .any (Rows.pairOrderSpec.pre6 enc Try.prog Try.f5 Rows.pairOrderRow.domain false) (Rows.pairOrderSpec.post enc Try.prog Try.f5 false true false false) := by
  refine returnsInHanded_of_change (C := Try.checked) own started (by kernel_rfl) Try.func5
    (ChangeSpec.witness6 (enc := enc) (C := Try.checked) false ⟨#[], #[.slice none 0 0, .slice none 0 0, .slice none 0 0], []⟩ 8 (by kernel_rfl) (by kernel_rfl) (by kernel_rfl) (by kernel_rfl)) ?_
  intro W base args ds gs before hval0 hW hcnd _
  have hval : ∀ (j : Nat) t v, Try.f5.params[j]? = some t → args[j]? = some v → Value.okWide Try.prog W .any base t v := hval0
  have hW' := hW
  obtain ⟨p, q, hA0, hV, rfl, hfz, hnd⟩ := hW
  have hA : DataW.TrodAll enc Try.prog W 0 (fun _ => true) true Try.f5.params.toList args.toList ds p := hA0
  rw [Try.params5] at hA hval
  obtain ⟨v0, vs0, d0, ds0, p0, q0, hargs, rfl, rfl, h0, r0⟩ := trodAll_cons hA
  obtain ⟨v1, vs1, d1, ds1, p1, q1, rfl, rfl, rfl, h1, r1⟩ := trodAll_cons r0
  obtain ⟨v2, vs2, d2, ds2, p2, q2, rfl, rfl, rfl, h2, r2⟩ := trodAll_cons r1
  obtain ⟨rfl, rfl, rfl⟩ := trodAll_nil r2
  obtain rfl : args = #[v0, v1, v2] := by cases args; simp_all
  obtain ⟨rfl, rfl⟩ := trodVars_none hV
  obtain ⟨a0, len0, cap0, rfl⟩ := okWide_slice Try.underlying26 (hval 0 26 v0 rfl rfl)
  have k0 := h0
  have lt0 : ∀ x ∈ p0, x.block < W.heap.size := by obtain ⟨m, hm⟩ := k0; exact DataW.trod_lt m _ _ _ hm
  obtain ⟨fuel0, hf0⟩ := h0
  have hg0 : DataW.trod enc Try.prog W 0 (fun _ => true) true fuel0 26 [.slice a0 len0 cap0] = some (d0, p0) := by simpa [Value.cells] using hf0
  obtain ⟨os0, w0⟩ := open_rowsC hg0
  obtain ⟨a1, len1, cap1, rfl⟩ := okWide_slice Try.underlying23 (hval 1 23 v1 rfl rfl)
  have k1 := h1
  have lt1 : ∀ x ∈ p1, x.block < W.heap.size := by obtain ⟨m, hm⟩ := k1; exact DataW.trod_lt m _ _ _ hm
  obtain ⟨z1, w1⟩ : ∃ zs, IsRow .i64 W a1 len1 cap1 zs := by
    obtain ⟨fuel, hf⟩ := h1
    rcases open_ints Try.underlying23 Try.underlying3 (by kernel_rfl) hf with ⟨hcs, _⟩ | ⟨x, l, c, zs, hcs, _, hl, hm, hz, _, hcell, hwz⟩
    · simp [Value.cells] at hcs
      obtain ⟨rfl, rfl, rfl⟩ := hcs
      exact ⟨[], .inl ⟨rfl, rfl, rfl, rfl⟩⟩
    · simp [Value.cells] at hcs
      obtain ⟨rfl, rfl, rfl⟩ := hcs
      exact ⟨zs, .inr ⟨_, rfl, hl, hm, by simpa using hz, hcell, hwz⟩⟩
  obtain ⟨a2, len2, cap2, rfl⟩ := okWide_slice Try.underlying27 (hval 2 27 v2 rfl rfl)
  have k2 := h2
  have lt2 : ∀ x ∈ p2, x.block < W.heap.size := by obtain ⟨m, hm⟩ := k2; exact DataW.trod_lt m _ _ _ hm
  obtain ⟨z2, w2⟩ : ∃ zs, IsRow .u8 W a2 len2 cap2 zs := by
    obtain ⟨fuel, hf⟩ := h2
    rcases open_ints Try.underlying27 Try.underlying5 (by kernel_rfl) hf with ⟨hcs, _⟩ | ⟨x, l, c, zs, hcs, _, hl, hm, hz, _, hcell, hwz⟩
    · simp [Value.cells] at hcs
      obtain ⟨rfl, rfl, rfl⟩ := hcs
      exact ⟨[], .inl ⟨rfl, rfl, rfl, rfl⟩⟩
    · simp [Value.cells] at hcs
      obtain ⟨rfl, rfl, rfl⟩ := hcs
      exact ⟨zs, .inr ⟨_, rfl, hl, hm, by simpa using hz, hcell, hwz⟩⟩
  clear hA0 hval0
  refine (walk a0 len0 cap0 os0 a1 len1 cap1 z1 a2 len2 cap2 z2 W w0 w1 w2).mono fun e W' ⟨he, bel⟩ => ?_
  subst he
  exact ⟨_, rfl, _, _, _, [], _, [], hW', trodAll_mk1 (shut_bool Try.underlying4 _), (trodAll_cons_mk (Below.trod laidOut (by kernel_rfl) (of_decide_eq_true (by kernel_rfl)) k0 bel lt0) (trodAll_cons_mk (Below.trod laidOut (by kernel_rfl) (of_decide_eq_true (by kernel_rfl)) k1 bel lt1) (trodAll_cons_mk (Below.trod laidOut (by kernel_rfl) (of_decide_eq_true (by kernel_rfl)) k2 bel lt2) trodAll_mk0))), rfl, bel.frame _, fun h => by cases h⟩

theorem closed : joinedFacts Try.prog 5 Try.f5 Rows.pairOrderSpec Rows.pairOrderRow = true := by
  have h1 := mayEnter_fact
  have h2 : (Rows.pairOrderRow.lifted == Try.prog.liftsFinal) = true := by rw [lifts_fact]; rfl
  have h3 : (Try.prog.make == some Rows.pairOrderRow.make) = true := by rw [make_fact]; rfl
  have hfin : ∀ b : Bool, b = true → b = true := fun _ h => h
  unfold joinedFacts
  rw [h1, h2, h3]
  clear h1 h2 h3
  refine hfin _ ?_
  kernel_rfl

theorem over : Rows.pairOrderRow.holds Try.pinned (OpenSpec.ofChange Rows.pairOrderSpec) :=
  OpenClaim.holds_of_wide 5 Try.f5 rfl rfl rfl rfl rfl rfl rfl ⟨rfl, rfl, rfl, rfl, rfl⟩ rfl rfl rfl rfl rfl (by kernel_rfl) Try.func5 closed
    (of_decide_eq_true (by kernel_rfl)) (by unfold Func.isWrapper; first | (rw [if_pos (by decide +kernel)]; kernel_rfl) | (rw [if_neg (by decide +kernel)]; exact ⟨rfl, rfl⟩))
    (fun os started H enc _ => lifted os started H enc)

/-- The statement. -/
theorem proved : Rows.PairOrderSaid := over
#print axioms proved

end Go.Proofs.Ytdilccihhelilaa.PairOrderP
