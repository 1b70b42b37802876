/- PairAll: in the end all. -/
import Derived.Test.YtdilccihhelilaaPairK
import Derived.Deep.CutBlock
import Derived.Test.YtdilccihhelilaaHead
import Derived.Test.YtdilccihhelilaaOpenG
import Derived.Deep.RegionHeld3
import Derived.Lib.SmallJoins
import Derived.ProofKit
import Derived.OpenShut
import Derived.ShutString
import Derived.ChangeOld
import Derived.Laws.StructEq
namespace Go.Proofs.Ytdilccihhelilaa.PairAllP
open Go.ChangeShapes Go.WideShapes Go.ChangeAt Go.RowKit
open Go.ChangeMaps (open_string shut_string)
set_option linter.unusedVariables false

theorem own : ownKnob Try.prog.godebug = none := by kernel_rfl
theorem laidOut : laidOutB Try.prog = true := by kernel_rfl
theorem bnext {a b c : World} (h : Below a.heap.size a b) (k : Below b.heap.size b c) : Below a.heap.size a c := h.trans (k.mono h.size)

set_option maxRecDepth 100000 in
set_option maxHeartbeats 40000000 in
theorem walk (a0 : Option Addr) (len0 cap0 : Nat) (ls : List (List Int)) (a1 : Option Addr) (len1 cap1 : Nat) (z1 : List Int) (w : World) (h0 : ls.length = len0 ∧ len0 ≤ cap0 ∧ RowsB w w.heap.size a0 ls) (h1 : IsRow .u8 w a1 len1 cap1 z1) :
    Calls Try.prog 6 #[.slice a0 len0 cap0, .slice a1 len1 cap1] w fun e w' => e = .returned (.bool true) ∧ Below w.heap.size w w' := by
  obtain ⟨rfl, hcap0, hRows⟩ := h0
  have g1 := fun w => Lib.hid (pnew_any w)
  have gaw := fun w => Lib.hid (awake20 w)
  obtain ⟨n, hn⟩ : ∃ n : Nat, n = min ls.length 200 := ⟨_, rfl⟩
  have hmin : (if (200 : Int) < (ls.length : Int) then (200 : Int) else (ls.length : Int)) = (n : Int) := by split <;> omega
  replace hRows := Lib.hid hRows
  replace h1 := Lib.hid h1
  replace hn := Lib.hid hn
  go_enter Try.func6, Try.ntmps6
  go_wp2_with fail
  refine (g1 _).out.mono ?_
  rintro _ w1 ⟨rfl, hH1, hb1⟩
  go_wp2_with fail
  refine (g1 _).out.mono ?_
  rintro _ w2 ⟨rfl, hH2, hb2⟩
  obtain ⟨B, hBe⟩ : ∃ B, B = w.heap.size := ⟨_, rfl⟩
  have hB2 : Below B w w2 := by rw [hBe]; exact bnext hb1 hb2
  have hP0 := ps_new (B := B) hH1 (fun q hq => by omega) hb2 hH2 (fun q hq => by omega) (by rw [hBe]; exact hb1.size)
  obtain ⟨ga, hga⟩ : ∃ g, g = w.heap.size + 1 := ⟨_, rfl⟩
  obtain ⟨ma, hma⟩ : ∃ m, m = w.heap.size := ⟨_, rfl⟩
  obtain ⟨gb, hgb⟩ : ∃ g, g = w1.heap.size + 1 := ⟨_, rfl⟩
  obtain ⟨mb, hmb⟩ : ∃ m, m = w1.heap.size := ⟨_, rfl⟩
  generalize (fun k => k = w.heap.size ∨ k = w.heap.size + 1) = F1 at *
  generalize (fun k => k = w1.heap.size ∨ k = w1.heap.size + 1) = Fb at *
  rw [← hga, ← hma, ← hgb, ← hmb] at hP0
  rw [← hga, ← hgb]
  have hBz : ∀ {W : World}, Below B w W → B ≤ W.heap.size := fun h => by have := h.size; omega
  clear hH1 hH2 hb1 hb2
  replace hBe := Lib.hid hBe
  replace hga := Lib.hid hga
  replace hma := Lib.hid hma
  replace hgb := Lib.hid hgb
  replace hmb := Lib.hid hmb
  obtain ⟨i0, hi0, hz0, hz1, hz2⟩ := info_parts infoR
  go_upto_block 0 with fail
  go_cut [8, 9, 10] from 18 (fun i f e wr => ∃ (k : Nat) (Fa : Nat → Prop) (kv : List Value), i = .int .i64 k ∧ PS wr B (ls.take k) Fa ga ma 0 true kv 0 Fb gb mb 0 true 0 (fun _ => none) (.slice none 0 0) 0 [] (.slice none 0 0) [] ∧ k ≤ n ∧ k = n ∧ Below B w wr)
  case first =>
    go_wp2_with fail
    go_loopw [8, 9, 10] (fun i f e wr => ∃ (k : Nat) (Fa : Nat → Prop) (kv : List Value), i = .int .i64 k ∧ PS wr B (ls.take k) Fa ga ma 0 true kv 0 Fb gb mb 0 true 0 (fun _ => none) (.slice none 0 0) 0 [] (.slice none 0 0) [] ∧ k ≤ n ∧ Below B w wr) (fun i _ _ _ => n - (intOf i).toNat)
    case atStart => exact ⟨0, F1, [], rfl, hP0, Nat.zero_le _, hB2⟩
    case round =>
      obtain ⟨k, Fa, kv, rfl, hP, hkn, hB⟩ := hrel
      by_cases hlt : k < n
      · have hn' := hn.out
        have hkl2 : k < ls.length := by omega
        have b1 : decide ((k : Int) < (n : Int)) = true := decide_eq_true (by omega)
        have b2 : decide (k < n) = true := decide_eq_true (by omega)
        have b3 : decide ((k : Int) < (ls.length : Int)) = true := decide_eq_true (by omega)
        have b4 : decide (k < ls.length) = true := decide_eq_true (by omega)
        obtain ⟨ad, rfl, hadb, xA, xc, xcell, xr, xbt, xl, xm⟩ := hRows.out k ls[k] (List.getElem?_eq_getElem hkl2)
        have hBd : Below w.heap.size w wr := by rw [← hBe.out]; exact hB
        have htk : ls.take (k + 1) = ls.take k ++ [ls[k]] := (List.take_append_getElem hkl2).symm
        generalize ls[k] = x at *
        have s1 : wr.cell? (ad.add k) = some (.slice xA x.length xc) := (hBd.cell (by rw [block_of_add]; exact hadb)).trans xcell
        have xr' : ReadsB wr wr.heap.size xA x := (Reads.below xr hBd).more hBd.size
        have hkl : kv.length = k := by rw [hP.kl, List.length_take]; omega
        have hxF : ∀ ad, xA = some ad → 0 < x.length → ¬ Fa ad.block := fun ad e h => by
            obtain ⟨ad', e', hb', _⟩ := xr.2 h
            rw [e] at e'
            injection e' with e'
            subst e'
            intro hF
            have := hP.ba _ hF
            have := hBe.out
            omega
        by_cases hxl : 1048568 < x.length
        · have gs := Lib.hid (send_long Fa ga ma 0 true kv 1 0 _ xA x.length xc wr hP.a hxl)
          clear xr' xr xcell hxF htk hn'
          go_wp2_with fail
          refine gs.out.mono ?_
          rintro _ _ ⟨rfl, rfl⟩
          go_wp2_with fail
          go_ret
          exact ⟨rfl, hBd⟩
        · have gs := send_any Fa ga ma 0 kv 1 0 _ xA xc x wr hP.a xr' hxF xbt (by omega) (by omega) hP.k.one (by omega) (by omega) (by omega) (by omega)
          rw [hkl, show (1 : Int) + (k : Int) = (k : Int) + 1 by omega] at gs
          replace gs := Lib.hid gs
          replace htk := Lib.hid htk
          have hk200 : k < 200 := by omega
          clear xr' xr xcell hxF hn'
          go_wp2_with fail
          refine gs.out.mono ?_
          rintro _ w3 ⟨A3, c3, u, F3, rfl, hfr, hu, hF3, hH3, hT3⟩
          have hB3 := hB.trans (hT3.below (hBz hB) hP.ba)
          have hP3 := hP.send hT3 hF3 hH3 hu ⟨by omega, xbt⟩ (by rw [List.length_take]; omega) (hBz hB)
          rw [← htk.out] at hP3
          clear gs hP hfr hu hH3 hT3 htk
          go_wp2_with fail
          exact ⟨⟨k + 1, F3, kv ++ [u], by go_num, hP3, by omega, hB3⟩, by simp [intOf]; omega⟩
      · obtain rfl : k = n := by omega
        have b1 : decide ((k : Int) < (k : Int)) = false := decide_eq_false (by omega)
        have b2 : decide (k < k) = false := decide_eq_false (by omega)
        go_wp2_with fail
        go_meet
        case rel => exact ⟨k, Fa, kv, rfl, hP, hkn, rfl, hB⟩
  case rest =>
    obtain ⟨k0, Fa, kv0, rfl, hP0', -, hk0, hB0⟩ := hcut
    have hk0' := hk0.symm
    subst hk0'
    clear hP0 hB2
    have hSn : (ls.take n).length = n := by rw [List.length_take]; have := hn.out; omega
    have hn200 : n ≤ 200 := by have := hn.out; omega
    have hnl : n ≤ ls.length := by have := hn.out; omega
    have hncap : n ≤ cap0 := by omega
    have hBd : ∀ {W : World}, Below B w W → Below w.heap.size w W := fun h => by rw [← hBe.out]; exact h
    replace hSn := Lib.hid hSn
    go_wp2_with fail
    go_loopw [11, 12, 13, 14, 15, 16, 17] (fun got r l i x1 bk e1 wr => ∃ (k ca cb f nN : Nat) (oa ob : Bool) (kv : List Value) (ev : Int → Option Value) (vN : Value) (AG : Option Addr) (cG : Nat) (vsN vsG : List Value), r = .int .i64 k ∧ got = .slice AG vsG.length cG ∧ PS wr B (ls.take n) Fa ga ma ca oa kv f Fb gb mb cb ob vsG.length ev vN nN vsN (.slice AG vsG.length cG) vsG ∧ k ≤ 10 ∧ ca ≤ 64 * k ∧ cb ≤ 64 * k ∧ min n (64 * (k - 3)) ≤ f ∧ Below B w wr) (fun _ r _ _ _ _ _ _ => 10 - (intOf r).toNat)
    case atStart => exact ⟨0, 0, 0, 0, 0, true, true, kv0, _, _, none, 0, [], [], rfl, rfl, hP0', by omega, Nat.le_refl _, Nat.le_refl _, by omega, hB0⟩
    case round =>
      obtain ⟨r, ca0, cb0, f0, nN, oa0, ob0, kv1, ev0, vN0, AG0, cG0, vsN0, vsG0, rfl, rfl, hP, hr10, hca0, hcb0, hf0, hB⟩ := hrel
      have hgs0 := hP.gs
      have hfg0 := hP.fg
      have hsn := hSn.out
      by_cases hlt : r < 10
      · have b1 : decide ((r : Int) < 10) = true := decide_eq_true (by omega)
        have b2 : decide (r < 10) = true := decide_eq_true (by omega)
        have gt := Lib.hid (tick_any Fa ga ma _ _ kv1 ((f0 : Int) + 1) 0 _ wr _ hP.a hP.k (fun x hx => hP.s x (List.mem_of_mem_drop hx)) (by omega) (by omega) (by omega) (by omega))
        replace hsn := Lib.hid hsn
        go_wp2_with fail
        refine gt.out.mono ?_
        rintro _ w8 ⟨A8, c8, vs8, rfl, hR8, hV8, hb8⟩
        have hto : TK w8 (ls.take n) f0 vs8 := tks_own hV8
        have hl8 : vs8.length = min (n - f0) 64 := by rw [hV8.len, tks_len, List.length_take, List.length_drop, hsn.out]; omega
        have hB8 := hB.trans (hb8.mono (hBz hB))
        have hP8 := hP.newN hb8 (hBz hB) hR8 (fun u hu => by
          obtain ⟨i, hi, rfl⟩ := List.mem_iff_getElem.1 hu
          obtain ⟨x, h1, h2⟩ := hto i _ (List.getElem?_eq_getElem hi)
          exact ⟨_, x, h1, h2⟩)
        replace hl8 := Lib.hid hl8
        replace hto := Lib.hid hto
        clear hV8 gt hP hb8 hR8 b1 b2
        go_wp2_with fail
        go_loopw [11, 14, 15, 16, 17] (fun got i x1 bk e1 wr => ∃ (k ca cb f : Nat) (oa ob : Bool) (kv : List Value) (ev : Int → Option Value) (AG : Option Addr) (cG : Nat) (vsG : List Value), i = .int .i64 k ∧ got = .slice AG vsG.length cG ∧ PS wr B (ls.take n) Fa ga ma ca oa kv f Fb gb mb cb ob vsG.length ev (.slice A8 vs8.length c8) vs8.length vs8 (.slice AG vsG.length cG) vsG ∧ TK wr (ls.take n) f0 vs8 ∧ k ≤ vs8.length ∧ f0 ≤ f ∧ (3 ≤ r → f0 + k ≤ f) ∧ ca ≤ 64 * r + k ∧ cb ≤ 64 * r + k ∧ Below B w wr) (fun _ i _ _ _ _ => vs8.length - (intOf i).toNat)
        case atStart => exact ⟨0, ca0, cb0, f0, oa0, ob0, kv1, _, AG0, cG0, vsG0, rfl, rfl, hP8, hto.out, Nat.zero_le _, Nat.le_refl _, fun _ => Nat.le_refl _, hca0, hcb0, hB8⟩
        case round =>
          clear hP8 hB8 hto hB hgs0 hfg0
          obtain ⟨k, ca, cb, f, oa, ob, kv, ev, AG, cG, vsG, rfl, rfl, hP, hTK, hk8, hf, hfr, hca, hcb, hB⟩ := hrel
          by_cases hlt8 : k < vs8.length
          · have b1 : decide ((k : Int) < (vs8.length : Int)) = true := decide_eq_true (by omega)
            have b2 : decide (k < vs8.length) = true := decide_eq_true (by omega)
            have hkn : f0 + k < n := by have := hl8.out; omega
            have hk64 : k < 64 := by have := hl8.out; omega
            have hev : k < len1 → ∃ (ad : Addr) (y : Int), a1 = some ad ∧ wr.cell? (ad.add k) = some (.int .u8 y) := fun hl => by
              obtain ⟨ad3, y, e3, had3, hy, _⟩ := h1.out.at_ hl
              exact ⟨ad3, y, e3, ((hBd hB).cell (by rw [block_of_add]; exact had3)).trans hy⟩
            replace hev := Lib.hid hev
            go_upto_region 20 with fail
            go_cut [74] from 59 to 74 (fun cv wx => ∃ b : Bool, cv = .bool b ∧ (3 ≤ r → b = false) ∧ wx = wr)
            case first =>
              by_cases h3 : r < 3
              · have d1 : decide ((r : Int) < 3) = true := decide_eq_true (by omega)
                have d2 : decide (r < 3) = true := decide_eq_true h3
                by_cases hkl : k < len1
                · have d3 : decide ((k : Int) < (len1 : Int)) = true := decide_eq_true (by omega)
                  have d4 : decide (k < len1) = true := decide_eq_true hkl
                  obtain ⟨ad3, y, rfl, s1⟩ := hev.out hkl
                  go_wp2_with fail
                  all_goals
                    go_meet
                    case rel => exact ⟨_, rfl, fun h => absurd h (by omega), rfl⟩
                · have d3 : decide ((k : Int) < (len1 : Int)) = false := decide_eq_false (by omega)
                  have d4 : decide (k < len1) = false := decide_eq_false hkl
                  go_wp2_with fail
                  all_goals
                    go_meet
                    case rel => exact ⟨_, rfl, fun h => absurd h (by omega), rfl⟩
              · have d1 : decide ((r : Int) < 3) = false := decide_eq_false (by omega)
                have d2 : decide (r < 3) = false := decide_eq_false h3
                go_wp2_with fail
                all_goals
                  go_meet
                  case rel => exact ⟨_, rfl, fun _ => rfl, rfl⟩
            case rest =>
              obtain ⟨bs, rfl, hbs, rfl⟩ := hcut
              cases bs
              · clear hbs
                obtain ⟨ad2, u, rfl, had2, hu, s2⟩ := Reads.at_ (own_reads hP.n.own) hlt8
                obtain ⟨x, hj, hO⟩ := hTK k u hu
                obtain ⟨A3, c3, rfl, _⟩ := own_form hO
                have gt := hP.go (by omega) hj hO
                have hfg := hP.fg
                generalize FR (((f0 + k : Nat) : Int) + 1) 0 x = fr at *
                generalize fr.length = L at *
                replace gt := Lib.hid gt
                clear hO hu hj
                go_wp2_with fail
                refine gt.out.mono ?_
                rintro _ w3 ⟨AO, cO, us, AB, cB, evN, rfl, hT3, hP3, hR3, hOb3, hu3, hn3⟩
                have hTK3 := hTK.turn hT3 (fun q hq => hP.b.noB q hq)
                have hB3 := hB.trans (hT3.below (hBz hB) hP.bb)
                have hvl := hP3.gs
                have hus : us.length ≤ 200 := by have := hsn.out; omega
                have hgl : vsG.length ≤ 200 := by have := hsn.out; omega
                have hone : ∀ u ∈ us, u.oneCell' = true := fun u hu => by
                  obtain ⟨i, hi, rfl⟩ := List.mem_iff_getElem.1 hu
                  obtain ⟨_, _, h2⟩ := hu3 i hi
                  exact ownB_one h2
                replace hvl := Lib.hid hvl
                clear gt s2 hP hTK
                go_upto_region 25 with (first
                  | (at_builtin
                     refine wpList_app (P := Try.prog) _ rfl (.tmp 85) (.tmp 86) 26 rfl B 27 i0 _ 1 24 Try.underlying26 hi0 hz0 hz1 hz2 rfl (by omega) (.slice AG vsG.length cG) vsG.length vsG rfl hP3.g.own w3.heap.size AO us.length cO us rfl (own_reads hR3)
                       hone (by unfold maxLen; omega) (by omega) (hBz hB3) ?_
                     intro A5 c5 w5 hown5 hg5 hat5
                     have hB5 : Below B w w5 := hB3.grown hg5 (hBz hB3) (fun q e => (hP3.g.own.lt q e).1)
                     have hP5 := hP3.appG hown5 hg5 hat5 hu3
                     have hTg : Turned (fun q => (Value.slice AG vsG.length cG).ownBlock = some q) w3 w5 := Turned.of_grown hg5 (fun q h => h)
                     have hOb5 := hOb3.keep hTg (fun q hq => row_noB hP3.g.own q hq)
                     have hTK5 := hTK3.turn hTg (fun q hq => row_noB hP3.g.own q hq)
                     have hl5 : (vsG ++ us).length = vsG.length + us.length := List.length_append
                     have hr5 : 3 ≤ r → f0 + k + 1 ≤ vsG.length + us.length := fun h3 => by
                       have h4 := hfr h3
                       rcases Nat.lt_or_ge (f0 + k) vsG.length with h5 | h5
                       · omega
                       · have := hn3 (by omega); omega
                     clear hown5 hat5 hg5 hu3 hone hOb3 hR3 hP3 hvl hus hgl hn3 hTK3 hfr
                     generalize vsG ++ us = vs5 at *
                     generalize vsG.length + us.length = G5 at *
                     subst hl5))
                have hev5 : k < len1 → ∃ (ad : Addr) (y : Int), a1 = some ad ∧ w5.cell? (ad.add k) = some (.int .u8 y) := fun hl => by
                  obtain ⟨ad3, y, e3, had3, hy, _⟩ := h1.out.at_ hl
                  exact ⟨ad3, y, e3, ((hBd hB5).cell (by rw [block_of_add]; exact had3)).trans hy⟩
                replace hev5 := Lib.hid hev5
                clear hev
                go_cut [105] from 90 to 105 (fun cv wx => ∃ b : Bool, cv = .bool b ∧ (3 ≤ r → b = true) ∧ wx = w5)
                case first =>
                  by_cases h3 : 3 ≤ r
                  · have d1 : decide ((3 : Int) ≤ (r : Int)) = true := decide_eq_true (by omega)
                    have d2 : decide (3 ≤ r) = true := decide_eq_true h3
                    go_wp2_with fail
                    all_goals
                      go_meet
                      case rel => exact ⟨_, rfl, fun _ => rfl, rfl⟩
                  · have d1 : decide ((3 : Int) ≤ (r : Int)) = false := decide_eq_false (by omega)
                    have d2 : decide (3 ≤ r) = false := decide_eq_false h3
                    by_cases hkl : k < len1
                    · have d3 : decide ((len1 : Int) ≤ (k : Int)) = false := decide_eq_false (by omega)
                      have d4 : decide (len1 ≤ k) = false := decide_eq_false (by omega)
                      obtain ⟨ad3, y, rfl, s1⟩ := hev5.out hkl
                      go_wp2_with fail
                      all_goals
                        go_meet
                        case rel => exact ⟨_, rfl, fun h => absurd h (by omega), rfl⟩
                    · have d3 : decide ((len1 : Int) ≤ (k : Int)) = true := decide_eq_true (by omega)
                      have d4 : decide (len1 ≤ k) = true := decide_eq_true (by omega)
                      go_wp2_with fail
                      all_goals
                        go_meet
                        case rel => exact ⟨_, rfl, fun h => absurd h (by omega), rfl⟩
                case rest =>
                  obtain ⟨bs, rfl, hbs, rfl⟩ := hcut
                  cases bs
                  · go_wp2_with fail
                    exact ⟨⟨k + 1, ca, cb + 1, f, oa, false, kv, evN, A5, c5, vs5, by go_num, rfl, hP5, hTK5, by omega, hf, fun h => absurd (hbs h) (by simp), by omega, by omega, hB5⟩, by simp [intOf]; omega⟩
                  · clear hbs
                    have hL16 : (FR 0 (vs5.length : Int) []).length = 16 := by rw [FR_len]; rfl
                    have gans := hP5.ans (G := vs5.length) (A := AB) (c := cB) (by omega) hP5.fg (Nat.le_refl _) (by rw [hL16]; exact hOb5)
                    rw [hL16] at gans
                    replace gans := Lib.hid gans
                    clear hL16 hOb5
                    go_wp2_with fail
                    refine gans.out.mono ?_
                    rintro _ w7 ⟨AO7, cO7, AB7, cB7, rfl, hT7, hP7⟩
                    have hB7 := hB5.trans (hT7.below (hBz hB5) hP5.ba)
                    have hTK7 := hTK5.turn hT7 (fun q hq => hP5.a.noB q hq)
                    have hf5 := hP5.fg
                    clear gans hP5 hT7 hTK5 hB5
                    go_wp2_with fail
                    exact ⟨⟨k + 1, ca + 1, cb + 1, vs5.length, false, false, _, evN, A5, c5, vs5, by go_num, rfl, hP7, hTK7, by omega, by omega, fun h => (by have := hr5 h; omega), by omega, by omega, hB7⟩, by simp [intOf]; omega⟩
              · go_wp2_with fail
                exact ⟨⟨k + 1, ca, cb, f, oa, ob, kv, ev, AG, cG, vsG, by go_num, rfl, hP, hTK, by omega, hf, fun h => absurd (hbs h) (by simp), by omega, by omega, hB⟩, by simp [intOf]; omega⟩
          · obtain rfl : k = vs8.length := by omega
            have b1 : decide ((vs8.length : Int) < (vs8.length : Int)) = false := decide_eq_false (by omega)
            have b2 : decide (vs8.length < vs8.length) = false := decide_eq_false (by omega)
            go_wp2_with fail
            have hl8' := hl8.out
            have hm := hP.gs
            have hm2 := hP.fg
            have hsn' := hsn.out
            refine ⟨⟨r + 1, ca, cb, f, _, oa, ob, kv, ev, _, AG, cG, vs8, vsG, by go_num, rfl, hP, by omega, by omega, by omega, ?_, hB⟩, by simp [intOf]; omega⟩
            by_cases h3 : 3 ≤ r
            · have := hfr h3; omega
            · omega
      · obtain rfl : r = 10 := by omega
        have hvn : n = vsG0.length := by omega
        have hfn : f0 = vsG0.length := by omega
        have hk0 : kv1 = [] := List.eq_nil_of_length_eq_zero (by rw [hP.kl]; omega)
        replace hsn := Lib.hid hsn
        subst hvn
        subst hfn
        subst hk0
        have hR0 : RowsB wr w.heap.size a0 ls := hRows.out.below (hBd hB)
        have gr := Lib.hid (rows_in AG0 a0 cG0 cap0 vsG0.length vsG0 ls wr _ _ (own_reads hP.g.own) hR0 (hBd hB).size hnl (gr_old hP.g) (by omega))
        clear hR0
        go_wp2_with fail
        refine gr.out.mono ?_
        rintro _ w6 ⟨rfl, hb6⟩
        have hP6 := hP.below hb6
        have hB6 := hB.trans (hb6.mono (hBz hB))
        have gk := Lib.hid (kept_any _ _ _ _ _ _ _ _ _ w6 hP6.a)
        have gg := Lib.hid (got_any _ _ _ _ _ _ _ _ _ w6 hP6.b)
        have gt := Lib.hid (tick_any Fa ga ma _ _ [] ((vsG0.length : Int) + 1) 0 _ w6 _ hP6.a hP6.k (fun x hx => hP6.s x (List.mem_of_mem_drop hx)) (by omega) (by omega) (by omega) (by omega))
        have hdl := hP6.k.len
        clear gr hP hb6 hB
        go_wp2_with fail
        refine gk.out.mono ?_
        rintro _ _ ⟨rfl, rfl⟩
        go_wp2_with fail
        refine gg.out.mono ?_
        rintro _ _ ⟨rfl, rfl⟩
        replace hdl := Lib.hid hdl
        go_wp2_with fail
        refine gt.out.mono ?_
        rintro _ w8 ⟨A8, c8, vs8, rfl, hR8, hV8, hb8⟩
        have hv0 : vs8.length = 0 := by rw [hV8.len, tks_len, List.length_take, ← hdl.out]; simp
        have hv1 : vs8 = [] := List.eq_nil_of_length_eq_zero hv0
        subst hv1
        have hB8 := hB6.trans (hb8.mono (hBz hB6))
        clear hv0 hV8 hR8
        go_wp2_with fail
        refine (gaw _).out.mono ?_
        rintro _ w9 ⟨rfl, hb9⟩
        go_wp2_with fail
        go_ret
        exact ⟨by simp, hBd (hB8.trans (hb9.mono (hBz hB8)))⟩

set_option maxRecDepth 100000 in
theorem lifted (os : Os) (started : os.Started) (H : Type) (enc : TypeId × Value → H) :
    ReturnsInHanded {} Try.checked os 6 .any (Rows.pairAllSpec.pre6 enc Try.prog Try.f6 Rows.pairAllRow.domain false) (Rows.pairAllSpec.post enc Try.prog Try.f6 false true false false) := by
  refine returnsInHanded_of_change (C := Try.checked) own started (by kernel_rfl) Try.func6
    (ChangeSpec.witness6 (enc := enc) (C := Try.checked) false ⟨#[], #[.slice none 0 0, .slice none 0 0], []⟩ 8 (by kernel_rfl) (by kernel_rfl) (by kernel_rfl) (by kernel_rfl)) ?_
  intro W base args ds gs before hval0 hW hcnd _
  have hval : ∀ (j : Nat) t v, Try.f6.params[j]? = some t → args[j]? = some v → Value.okWide Try.prog W .any base t v := hval0
  have hW' := hW
  obtain ⟨p, q, hA0, hV, rfl, hfz, hnd⟩ := hW
  have hA : DataW.TrodAll enc Try.prog W 0 (fun _ => true) true Try.f6.params.toList args.toList ds p := hA0
  rw [Try.params6] at hA hval
  obtain ⟨v0, vs0, d0, ds0, p0, q0, hargs, rfl, rfl, h0, r0⟩ := trodAll_cons hA
  obtain ⟨v1, vs1, d1, ds1, p1, q1, rfl, rfl, rfl, h1, r1⟩ := trodAll_cons r0
  obtain ⟨rfl, rfl, rfl⟩ := trodAll_nil r1
  obtain rfl : args = #[v0, v1] := by cases args; simp_all
  obtain ⟨rfl, rfl⟩ := trodVars_none hV
  obtain ⟨a0, len0, cap0, rfl⟩ := okWide_slice Try.underlying26 (hval 0 26 v0 rfl rfl)
  have k0 := h0
  have lt0 : ∀ x ∈ p0, x.block < W.heap.size := by obtain ⟨m, hm⟩ := k0; exact DataW.trod_lt m _ _ _ hm
  obtain ⟨fuel0, hf0⟩ := h0
  have hg0 : DataW.trod enc Try.prog W 0 (fun _ => true) true fuel0 26 [.slice a0 len0 cap0] = some (d0, p0) := by simpa [Value.cells] using hf0
  obtain ⟨os0, w0⟩ := open_rowsC hg0
  obtain ⟨a1, len1, cap1, rfl⟩ := okWide_slice Try.underlying27 (hval 1 27 v1 rfl rfl)
  have k1 := h1
  have lt1 : ∀ x ∈ p1, x.block < W.heap.size := by obtain ⟨m, hm⟩ := k1; exact DataW.trod_lt m _ _ _ hm
  obtain ⟨z1, w1⟩ : ∃ zs, IsRow .u8 W a1 len1 cap1 zs := by
    obtain ⟨fuel, hf⟩ := h1
    rcases open_ints Try.underlying27 Try.underlying5 (by kernel_rfl) hf with ⟨hcs, _⟩ | ⟨x, l, c, zs, hcs, _, hl, hm, hz, _, hcell, hwz⟩
    · simp [Value.cells] at hcs
      obtain ⟨rfl, rfl, rfl⟩ := hcs
      exact ⟨[], .inl ⟨rfl, rfl, rfl, rfl⟩⟩
    · simp [Value.cells] at hcs
      obtain ⟨rfl, rfl, rfl⟩ := hcs
      exact ⟨zs, .inr ⟨_, rfl, hl, hm, by simpa using hz, hcell, hwz⟩⟩
  clear hA0 hval0
  refine (walk a0 len0 cap0 os0 a1 len1 cap1 z1 W w0 w1).mono fun e W' ⟨he, bel⟩ => ?_
  subst he
  exact ⟨_, rfl, _, _, _, [], _, [], hW', trodAll_mk1 (shut_bool Try.underlying4 _), (trodAll_cons_mk (Below.trod laidOut (by kernel_rfl) (of_decide_eq_true (by kernel_rfl)) k0 bel lt0) (trodAll_cons_mk (Below.trod laidOut (by kernel_rfl) (of_decide_eq_true (by kernel_rfl)) k1 bel lt1) trodAll_mk0)), rfl, bel.frame _, fun h => by cases h⟩

theorem closed : joinedFacts Try.prog 6 Try.f6 Rows.pairAllSpec Rows.pairAllRow = true := by
  have h1 := mayEnter_fact
  have h2 : (Rows.pairAllRow.lifted == Try.prog.liftsFinal) = true := by rw [lifts_fact]; rfl
  have h3 : (Try.prog.make == some Rows.pairAllRow.make) = true := by rw [make_fact]; rfl
  have hfin : ∀ b : Bool, b = true → b = true := fun _ h => h
  unfold joinedFacts
  rw [h1, h2, h3]
  clear h1 h2 h3
  refine hfin _ ?_
  kernel_rfl

theorem over : Rows.pairAllRow.holds Try.pinned (OpenSpec.ofChange Rows.pairAllSpec) :=
  OpenClaim.holds_of_wide 6 Try.f6 rfl rfl rfl rfl rfl rfl rfl ⟨rfl, rfl, rfl, rfl, rfl⟩ rfl rfl rfl rfl rfl (by kernel_rfl) Try.func6 closed
    (of_decide_eq_true (by kernel_rfl)) (by unfold Func.isWrapper; first | (rw [if_pos (by decide +kernel)]; kernel_rfl) | (rw [if_neg (by decide +kernel)]; exact ⟨rfl, rfl⟩))
    (fun os started H enc _ => lifted os started H enc)

/-- The statement. -/
theorem proved : Rows.PairAllSaid := over
#print axioms proved

end Go.Proofs.Ytdilccihhelilaa.PairAllP
