/- WholeNotes: notes as they were. -/
import Derived.Test.YtdilccihhelilaaWholeB
import Derived.Deep.CutBlock
import Derived.Test.YtdilccihhelilaaHead
import Derived.Test.YtdilccihhelilaaOpenG
import Derived.Deep.RegionHeld3
import Derived.Lib.SmallJoins
import Derived.ProofKit
import Derived.OpenShut
import Derived.ShutString
import Derived.ChangeOld
import Derived.Laws.StructEq
namespace Go.Proofs.Ytdilccihhelilaa.WholeNotesP
open Go.ChangeShapes Go.WideShapes Go.ChangeAt Go.RowKit
open Go.ChangeMaps (open_string shut_string)
set_option linter.unusedVariables false

theorem own : ownKnob Try.prog.godebug = none := by kernel_rfl
theorem laidOut : laidOutB Try.prog = true := by kernel_rfl
theorem bnext {a b c : World} (h : Below a.heap.size a b) (k : Below b.heap.size b c) : Below a.heap.size a c := h.trans (k.mono h.size)

set_option maxRecDepth 100000 in
set_option maxHeartbeats 40000000 in
theorem walk (a0 : Option Addr) (len0 cap0 : Nat) (ls : List NV) (a1 : Option Addr) (len1 cap1 : Nat) (z1 : List Int) (w : World) (h0 : ls.length = len0 ∧ RowsN w w.heap.size a0 ls) (h1 : IsRow .i64 w a1 len1 cap1 z1) :
    Calls Try.prog 3 #[.slice a0 len0 cap0, .slice a1 len1 cap1] w fun e w' => e = .returned (.bool true) ∧ Below w.heap.size w w' := by
  obtain ⟨rfl, hRows⟩ := h0
  have g1 := fun w => Lib.hid (pnew_any w)
  replace hRows := Lib.hid hRows
  replace h1 := Lib.hid h1
  go_enter Try.func3, Try.ntmps3
  go_wp2_with fail
  refine (g1 _).out.mono ?_
  rintro _ w1 ⟨rfl, hH1, hb1⟩
  go_wp2_with fail
  refine (g1 _).out.mono ?_
  rintro _ w2 ⟨rfl, hH2, hb2⟩
  obtain ⟨B, hBe⟩ : ∃ B, B = w.heap.size := ⟨_, rfl⟩
  have hB2 : Below B w w2 := by rw [hBe]; exact bnext hb1 hb2
  have hP0 := ps_new (B := B) hH1 (fun q hq => by omega) hb2 hH2 (fun q hq => by omega) (by rw [hBe]; exact hb1.size)
  have hS0 : SR w2 B (fun k => k = w.heap.size ∨ k = w.heap.size + 1) (fun k => k = w1.heap.size ∨ k = w1.heap.size + 1) (.slice none 0 0) [] := ⟨World.ownsRow_nil _ _ _ _, fun q _ e => by simp [Value.ownBlock] at e, fun q _ e => by simp [Value.ownBlock] at e⟩
  obtain ⟨ga, hga⟩ : ∃ g, g = w.heap.size + 1 := ⟨_, rfl⟩
  obtain ⟨ma, hma⟩ : ∃ m, m = w.heap.size := ⟨_, rfl⟩
  obtain ⟨gb, hgb⟩ : ∃ g, g = w1.heap.size + 1 := ⟨_, rfl⟩
  obtain ⟨mb, hmb⟩ : ∃ m, m = w1.heap.size := ⟨_, rfl⟩
  generalize (fun k => k = w.heap.size ∨ k = w.heap.size + 1) = F1 at *
  generalize (fun k => k = w1.heap.size ∨ k = w1.heap.size + 1) = Fb at *
  rw [← hga, ← hma, ← hgb, ← hmb] at hP0
  rw [← hga, ← hgb]
  have hBz : ∀ {W : World}, Below B w W → B ≤ W.heap.size := fun h => by have := h.size; omega
  clear hH1 hH2 hb1 hb2
  replace hBe := Lib.hid hBe
  replace hga := Lib.hid hga
  replace hma := Lib.hid hma
  replace hgb := Lib.hid hgb
  replace hmb := Lib.hid hmb
  have hBd : ∀ {W : World}, Below B w W → Below w.heap.size w W := fun h => by rw [← hBe.out]; exact h
  obtain ⟨i0, hi0, hz0, hz1, hz2⟩ := info_parts infoR
  obtain ⟨iN, hiN, hzN0, hzN1, hzN2⟩ := info_parts infoN
  go_upto_block 0 with fail
  go_cut [7, 8, 9, 10, 11, 12, 13] from 24 (fun net sn i x e f g wr => ∃ (k : Nat) (Fa : Nat → Prop) (kv : List Value) (l : List NV) (AN AS : Option Addr) (cN cS : Nat) (vsN : List Value), i = .int .i64 k ∧ net = .slice AN l.length cN ∧ sn = .slice AS l.length cS ∧ PS wr B (l.map NV.bs) Fa ga ma 0 true kv 0 Fb gb mb 0 true 0 (fun _ => none) (.slice AN l.length cN) l.length vsN (.slice none 0 0) [] ∧ SR wr B Fa Fb (.slice AS l.length cS) l ∧ (∀ v ∈ l, v.In w w.heap.size ∧ v.err = 0) ∧ l.length ≤ k ∧ k ≤ 60 ∧ Below B w wr)
  case first =>
    go_wp2_with fail
    go_loopw [7, 8, 9, 10, 11, 12, 13] (fun net sn i x e f g wr => ∃ (k : Nat) (Fa : Nat → Prop) (kv : List Value) (l : List NV) (AN AS : Option Addr) (cN cS : Nat) (vsN : List Value), i = .int .i64 k ∧ net = .slice AN l.length cN ∧ sn = .slice AS l.length cS ∧ PS wr B (l.map NV.bs) Fa ga ma 0 true kv 0 Fb gb mb 0 true 0 (fun _ => none) (.slice AN l.length cN) l.length vsN (.slice none 0 0) [] ∧ SR wr B Fa Fb (.slice AS l.length cS) l ∧ (∀ v ∈ l, v.In w w.heap.size ∧ v.err = 0) ∧ l.length ≤ k ∧ k ≤ 60 ∧ Below B w wr) (fun _ _ i _ _ _ _ _ => 60 - (intOf i).toNat)
    case atStart => exact ⟨0, F1, [], [], none, none, 0, 0, [], rfl, rfl, rfl, hP0, hS0, fun v hv => absurd hv (by simp), Nat.le_refl _, by omega, hB2⟩
    case round =>
      clear hP0 hS0 hB2
      obtain ⟨k, Fa, kv, l, AN, AS, cN, cS, vsN, rfl, rfl, rfl, hP, hS, hl, hlk, hk60, hB⟩ := hrel
      by_cases hlt : k < ls.length ∧ k < 60
      · obtain ⟨hk1, hk2⟩ := hlt
        have b1 : decide ((k : Int) < (ls.length : Int)) = true := decide_eq_true (by omega)
        have b2 : decide ((k : Int) < 60) = true := decide_eq_true (by omega)
        have b3 : decide (k < ls.length) = true := decide_eq_true (by omega)
        have b4 : decide (k < 60) = true := decide_eq_true (by omega)
        obtain ⟨v, hv⟩ : ∃ v, ls[k]? = some v := ⟨_, List.getElem?_eq_getElem hk1⟩
        obtain ⟨ad, rfl, hadb, hat, hin⟩ := hRows.out.at_ hv
        have hatr := hat.keep (hBd hB) hadb
        have hin' : v.In wr wr.heap.size := (hin.below (hBd hB)).more (hBd hB).size
        have gn := note_of v wr hin'
        replace hv := Lib.hid hv
        replace hat := Lib.hid hat
        replace hl := Lib.hid hl
        obtain ⟨d0, d1, d2, d3⟩ := hatr
        by_cases hv0 : v.err = 0
        · rw [if_pos hv0, hv0] at gn
          replace gn := Lib.hid gn
          go_wp2_with fail
          refine gn.out.mono ?_
          rintro _ w3 ⟨A3, c3, rfl, hO3, hb3⟩
          have hP3 := hP.below hb3
          have hS3 := hS.below hb3
          have hB3 := hB.trans (hb3.mono (hBz hB))
          have hkl : kv.length = l.length := by rw [hP.kl, List.length_map]; rfl
          have hvl := bs_len hv0
          have hxF : ∀ ad, A3 = some ad → 0 < v.bs.length → ¬ Fa ad.block := fun ad e _ hF => by
            have := own_blk_of hO3 e
            have := (hP.a.lt _ hF).1
            omega
          have gs := send_any Fa ga ma 0 kv 1 0 _ A3 c3 v.bs w3 hP3.a hO3.reads hxF (bs_bytes v) (by omega) (by omega) hP3.k.one (by omega) (by omega) (by omega) (by omega)
          rw [hkl, show (1 : Int) + (l.length : Int) = (l.length : Int) + 1 by omega] at gs
          replace gs := Lib.hid gs
          replace hkl := Lib.hid hkl
          replace hvl := Lib.hid hvl
          have hbs : v.bs = v.bs := rfl
          clear gn hP hS hB hb3 hxF d0 d1 d2 d3 hbs hO3
          go_wp2_with fail
          refine gs.out.mono ?_
          rintro _ w4 ⟨A4, c4, u, F4, rfl, hfr, hu, hF4, hH4, hT4⟩
          have hB4 := hB3.trans (hT4.below (hBz hB3) hP3.ba)
          have hP4 := hP3.send hT4 hF4 hH4 hu ⟨by have := hvl.out; omega, bs_bytes v⟩ (by rw [List.length_map]; omega) (hBz hB3)
          have hS4 := hS3.send hT4 hF4
          rw [show l.map NV.bs ++ [v.bs] = (l ++ [v]).map NV.bs by simp] at hP4
          have hat4 := hat.out.keep (hBd hB4) hadb
          obtain ⟨L, hL⟩ : ∃ L, L = v.bs.length + 16 := ⟨_, rfl⟩
          rw [← hL] at hfr ⊢
          obtain ⟨W5, hW5⟩ : ∃ W5, W5 = w4.alloc (.cells #[.int .i64 v.what, .int .i64 v.view, .int .i64 v.n, .slice v.A v.es.length v.c] 33) := ⟨_, rfl⟩
          have hb5 : Below w4.heap.size w4 W5 := by rw [hW5]; exact b0 w4 _
          have hs5 : W5.heap.size = w4.heap.size + 1 := by rw [hW5]; simp
          have hP5 := hP4.below hb5
          have hS5 := hS4.below hb5
          have hfr5 := hfr.below hb5
          have hB5 := hB4.trans (hb5.mono (hBz hB4))
          have hR5 : Reads W5 (w4.heap.size + 1) 4 (some ⟨w4.heap.size, 0, none⟩) 1 v.cells := by
            have := Reads.new w4 #[.int .i64 v.what, .int .i64 v.view, .int .i64 v.n, .slice v.A v.es.length v.c] 33 (0, 0) 1 4 rfl
            rw [hW5]
            simpa [NV.cells] using this
          have h1c : ∀ u ∈ v.cells, u.oneCell' = true := fun u hu => cellsN_one [v] u (by simpa [cellsN] using hu)
          obtain ⟨d0, d1, d2, d3⟩ := hat4
          replace hL := Lib.hid hL
          replace hs5 := Lib.hid hs5
          replace hR5 := Lib.hid hR5
          replace hfr5 := Lib.hid hfr5
          replace hP5 := Lib.hid hP5
          replace hS5 := Lib.hid hS5
          replace hu := Lib.hid hu
          clear gs hP3 hS3 hB3 hP4 hS4 hT4 hH4 hfr
          have hW5' := hW5
          replace hW5 := Lib.hid hW5
          go_wp2_with (first
            | (at_builtin
               rw [← hW5']
               refine wpList_app (P := Try.prog) _ rfl (.tmp 60) (.tmp 65) 22 rfl B 33 iN _ 4 48 Try.underlying22 hiN hzN0 hzN1 hzN2 rfl (by omega) (.slice AS l.length cS) l.length (cellsN l) rfl hS5.out.own (w4.heap.size + 1) (some ⟨w4.heap.size, 0, none⟩) 1 1 v.cells rfl hR5.out
                 h1c (by unfold maxLen; omega) (by omega) (hBz hB5) ?_
               intro A6 c6 w6 hown6 hg6 hat6
               have hB6 : Below B w w6 := hB5.grown hg6 (hBz hB5) (fun q e => (hS5.out.own.lt q e).1)
               obtain ⟨hS6, hP6⟩ := hS5.out.app hP5.out hown6 hg6 hat6
               have hfr6 := hfr5.out.keep (Turned.of_grown (F := fun q => (Value.slice AS l.length cS).ownBlock = some q) hg6 (fun q h => h)) (fun q hq => rowN_noB hS5.out.own q hq)
               have hb7 := b0 w6 (.cells #[.slice A4 L c4] 27)
               have hP7 := hP6.below hb7
               have hS7 := hS6.below hb7
               have hfr7 := (hfr6.base_ (Nat.zero_le _)).below hb7
               have hB7 := hB6.trans (hb7.mono (hBz hB6))
               have hR7 : Reads (w6.alloc (.cells #[.slice A4 L c4] 27)) (w6.heap.size + 1) 1 (some ⟨w6.heap.size, 0, none⟩) 1 [.slice A4 L c4] := by
                 have := Reads.new w6 #[.slice A4 L c4] 27 (0, 0) 1 1 rfl
                 simpa using this
               clear hown6 hg6 hat6 hb7 hB6 hS6 hP6 hfr6 hP5 hS5 hfr5 hR5 hB5)
            | (at_builtin
               refine wpList_app (P := Try.prog) _ rfl (.tmp 67) (.tmp 69) 26 rfl B 27 i0 _ 1 24 Try.underlying26 hi0 hz0 hz1 hz2 rfl (by omega) (.slice AN l.length cN) l.length vsN rfl hP7.n.own (w6.heap.size + 1) (some ⟨w6.heap.size, 0, none⟩) 1 1 [.slice A4 L c4] rfl hR7
                 (fun u hu => by rw [List.mem_singleton.1 hu]; rfl) (by unfold maxLen; omega) (by omega) (hBz hB7) ?_
               intro A8 c8 w8 hown8 hg8 hat8))
          have hB8 : Below B w w8 := hB7.grown hg8 (hBz hB7) (fun q e => (hP7.n.own.lt q e).1)
          have hxk : ((l ++ [v]).map NV.bs)[l.length]? = some v.bs := by
            rw [List.map_append, List.getElem?_append_right (by simp)]
            simp
          have hP8 := hP7.appN hown8 hg8 hat8 (fun u hu => ⟨l.length, v.bs, hxk, by rw [List.mem_singleton.1 hu]; exact hfr7⟩)
          have hS8 := hS7.net hP7.n.own hg8
          have hll : (l ++ [v]).length = l.length + 1 := by simp
          refine ⟨⟨k + 1, F4, kv ++ [u], l ++ [v], A8, A6, c8, c6, vsN ++ [.slice A4 L c4], by go_num, by rw [hll], by rw [hll], by rw [hll]; exact hP8, by rw [hll]; exact hS8, fun v' hv' => ?_, by rw [hll]; omega, by omega, hB8⟩, by simp [intOf]; omega⟩
          rcases List.mem_append.1 hv' with h | h
          · exact hl.out v' h
          · rw [List.mem_singleton.1 h]; exact ⟨hin, hv0⟩
        · rw [if_neg hv0] at gn
          have e1 : (v.err != 0) = true := by simp [hv0]
          replace gn := Lib.hid gn
          go_wp2_with fail
          refine gn.out.mono ?_
          rintro _ w3 ⟨A3, c3, rfl, hO3, hb3⟩
          have hP3 := hP.below hb3
          have hS3 := hS.below hb3
          have hB3 := hB.trans (hb3.mono (hBz hB))
          clear gn hP hS hB hO3 hb3 d0 d1 d2 d3
          go_wp2_with fail
          exact ⟨⟨k + 1, Fa, kv, l, AN, AS, cN, cS, vsN, by go_num, rfl, rfl, hP3, hS3, hl.out, by omega, by omega, hB3⟩, by simp [intOf]; omega⟩
      · by_cases hxx : k < ls.length
        · have b1 : decide ((k : Int) < ls.length) = true := decide_eq_true (by omega)
          have b2 : decide ((k : Int) < 60) = false := decide_eq_false (by omega)
          have b3 : decide (k < 60) = false := decide_eq_false (by omega)
          have b4 : decide (k < ls.length) = true := decide_eq_true (by omega)
          go_wp2_with fail
          go_meet
          case rel => exact ⟨k, Fa, kv, l, AN, AS, cN, cS, vsN, rfl, rfl, rfl, hP, hS, hl, hlk, hk60, hB⟩
        · have b1 : decide ((k : Int) < ls.length) = false := decide_eq_false (by omega)
          have b3 : decide (k < ls.length) = false := decide_eq_false (by omega)
          go_wp2_with fail
          go_meet
          case rel => exact ⟨k, Fa, kv, l, AN, AS, cN, cS, vsN, rfl, rfl, rfl, hP, hS, hl, hlk, hk60, hB⟩
  case rest =>
    obtain ⟨k0, Fa, kv, l, AN, AS, cN, cS, vsN, rfl, rfl, rfl, hP0', hS0', hl, hlk0, hk60, hB0⟩ := hcut
    clear hP0 hS0 hB2
    have hkl : kv.length = l.length := by rw [hP0'.kl, List.length_map]; rfl
    have hl60 : l.length ≤ 60 := by omega
    replace hkl := Lib.hid hkl
    replace hl := Lib.hid hl
    go_wp2_with fail
    go_loopw [14, 15, 16, 17, 18, 19, 20, 21, 22, 23] (fun got i n1 l1 bk e1 k1 x1 f1 j1 wr => ∃ (k cb g : Nat) (ob : Bool) (ev : Int → Option Value), i = .int .i64 k ∧ got = .int .i64 g ∧ PS wr B (l.map NV.bs) Fa ga ma 0 true kv 0 Fb gb mb cb ob g ev (.slice AN l.length cN) l.length vsN (.slice none 0 0) [] ∧ SR wr B Fa Fb (.slice AS l.length cS) l ∧ cb ≤ k ∧ k ≤ 300 ∧ k ≤ len1 ∧ Below B w wr) (fun _ i _ _ _ _ _ _ _ _ _ => 300 - (intOf i).toNat)
    case atStart => exact ⟨0, 0, 0, true, _, rfl, rfl, hP0', hS0', Nat.le_refl _, by omega, Nat.zero_le _, hB0⟩
    case round =>
      clear hP0' hS0' hB0
      obtain ⟨k, cb, g, ob, ev, rfl, rfl, hP, hS, hcb, hk3, hkl1, hB⟩ := hrel
      by_cases hlt : k < len1 ∧ k < 300 ∧ 0 < l.length
      · obtain ⟨hl1, hl2, hl3⟩ := hlt
        have b1 : decide ((k : Int) < (len1 : Int)) = true := decide_eq_true (by omega)
        have b2 : decide ((k : Int) < 300) = true := decide_eq_true (by omega)
        have b3 : decide (k < len1) = true := decide_eq_true (by omega)
        have b4 : decide (k < 300) = true := decide_eq_true (by omega)
        have b5 : decide ((0 : Int) < (l.length : Int)) = true := decide_eq_true (by omega)
        have b6 : decide (0 < l.length) = true := decide_eq_true (by omega)
        obtain ⟨ad1, z, rfl, had1, hz, _⟩ := h1.out.at_ hl1
        have s1 : wr.cell? (ad1.add k) = some (.int .i64 z) := ((hBd hB).cell (by rw [block_of_add]; exact had1)).trans hz
        obtain ⟨tlo, thi⟩ := tmod_small (z := z) hl3
        have hq0 : ((l.length : Int) == 0) = false := by rw [beq_eq_false_iff_ne]; omega
        have hq1 : ¬ (l.length : Int) = 0 := by omega
        have hq2 : ¬ l.length = 0 := by omega
        have hw1 : IntKind.i64.wrap (z.tmod l.length) = z.tmod l.length := by rw [IntKind.wrap_i64]; omega
        go_upto_if 94 with fail
        go_cut [16] from 71 to 197 (fun nv wx => ∃ q : Nat, q < l.length ∧ nv = .int .i64 q ∧ wx = wr)
        case first =>
          by_cases hneg : z.tmod l.length < 0
          · have c1 : decide (z.tmod l.length < 0) = true := decide_eq_true hneg
            have c2 : IntKind.i64.wrap (z.tmod l.length + l.length) = z.tmod l.length + l.length := by rw [IntKind.wrap_i64]; omega
            go_wp2_with fail
            go_meet
            case rel => exact ⟨(z.tmod l.length + l.length).toNat, by omega, by congr 1; omega, rfl⟩
          · have c1 : decide (z.tmod l.length < 0) = false := decide_eq_false hneg
            go_wp2_with fail
            go_meet
            case rel => exact ⟨(z.tmod l.length).toNat, by omega, by congr 1; omega, rfl⟩
        case rest =>
          obtain ⟨q, hq, rfl, rfl⟩ := hcut
          clear hz tlo thi hq0 hq1 hq2 hw1 b1 b2 b3 b4 b5 b6 s1
          obtain ⟨ad2, u, rfl, had2, hu, s2⟩ := Reads.at_ (own_reads hP.n.own) hq
          obtain ⟨j, x, hj, hO⟩ := hP.n.fr u (List.mem_of_getElem? hu)
          obtain ⟨A3, c3, rfl, _⟩ := own_form hO
          have gt := hP.take (p := 0) (by omega) hj hO
          generalize FR ((j : Int) + 1) 0 x = fr at *
          generalize fr.length = L at *
          replace gt := Lib.hid gt
          clear hO hu hj
          go_wp2_with fail
          refine gt.out.mono ?_
          rintro _ w3 ⟨AO, cO, us, AB, cB, evN, rfl, hT3, hP3, hR3, hOb3, hu3, hn3⟩
          have hB3 := hB.trans (hT3.below (hBz hB) hP.bb)
          have hS3 := hS.turn hT3 (fun q hq => hS.db q hq)
          have hvl := hP3.gs
          rw [List.length_map] at hvl
          clear gt s2 hP hS hOb3 hn3
          replace hvl := Lib.hid hvl
          go_wp2_with fail
          go_loopw [14, 20, 21, 22, 23] (fun got kk x1 f1 j1 wr => ∃ (m p : Nat), kk = .int .i64 m ∧ got = .int .i64 p ∧ p = g + m ∧ m ≤ us.length ∧ Below w3.heap.size w3 wr) (fun _ kk _ _ _ _ => us.length - (intOf kk).toNat)
          case atStart => exact ⟨0, g, rfl, rfl, rfl, Nat.zero_le _, Below.refl _ _⟩
          case round =>
            obtain ⟨m, p, rfl, rfl, hp, hm, hb⟩ := hrel
            have hvl' := hvl.out
            by_cases hlm : m < us.length
            · have b1 : decide ((m : Int) < (us.length : Int)) = true := decide_eq_true (by omega)
              have b2 : decide (m < us.length) = true := decide_eq_true (by omega)
              have hpl : p < l.length := by omega
              have b3 : decide ((l.length : Int) ≤ (p : Int)) = false := decide_eq_false (by omega)
              have b4 : decide (l.length ≤ p) = false := decide_eq_false (by omega)
              have b5 : decide ((p : Int) < (l.length : Int)) = true := decide_eq_true (by omega)
              have b6 : decide (p < l.length) = true := decide_eq_true (by omega)
              obtain ⟨ad4, u, rfl, had4, hu, s4⟩ := Reads.at_ (own_reads hR3) hlm
              obtain ⟨x, hx, hO⟩ := hu3 m hlm
              rw [List.getElem?_eq_getElem hlm] at hu
              injection hu with hu
              rw [hu] at hO
              rw [← hp, List.getElem?_map] at hx
              obtain ⟨v, hv⟩ : ∃ v, l[p]? = some v := ⟨_, List.getElem?_eq_getElem hpl⟩
              rw [hv] at hx
              injection hx with hx
              subst hx
              obtain ⟨hvin, hv0⟩ := hl.out v (List.mem_of_getElem? hv)
              obtain ⟨A4, c4, rfl, hc4, hm4, _⟩ := own_form hO
              obtain ⟨ad5, rfl, had5, hat5⟩ := hS3.at_ hv
              have hOr := hO.below hb
              have gr := Lib.hid (read_back v A4 c4 wr hvin.i hv0 (bs_bytes v) hOr.reads hc4 hm4)
              have s5 := old2 s4 hb
              generalize v.bs.length = L at *
              have hes : v.es.length ≤ 4096 := (nErr_zero hv0).2.2.2.1
              have hus : us.length ≤ 60 := by omega
              replace hvl' := Lib.hid hvl'
              replace hp := Lib.hid hp
              replace hv := Lib.hid hv
              replace hv0 := Lib.hid hv0
              clear s4 hO hOr hu hc4 hm4
              go_wp2_with fail
              refine gr.out.mono ?_
              rintro _ w4 ⟨hb4, A5, c5, rfl, hr5, hlc5, hm5⟩
              obtain ⟨W5, hW5⟩ : ∃ W5, W5 = w4.alloc (.cells #[.int .i64 v.what, .int .i64 v.view, .int .i64 v.n, .slice A5 v.es.length c5] 33) := ⟨_, rfl⟩
              have hb45 : Below w4.heap.size w4 W5 := by rw [hW5]; exact b0 w4 _
              have hY : Blk W5 w4.heap.size 33 #[.int .i64 v.what, .int .i64 v.view, .int .i64 v.n, .slice A5 v.es.length c5] := by rw [hW5]; exact Blk.new w4 _ _
              have hb5 : Below w3.heap.size w3 W5 := bn (bn hb hb4) hb45
              obtain ⟨d0, d1, d2, d3⟩ := hat5.keep hb5 had5
              have y0 : W5.cell? ⟨w4.heap.size, 0, none⟩ = some (.int .i64 v.what) := hY.cell 0
              have y1 : W5.cell? ⟨w4.heap.size, 1, none⟩ = some (.int .i64 v.view) := hY.cell 1
              have y2 : W5.cell? ⟨w4.heap.size, 2, none⟩ = some (.int .i64 v.n) := hY.cell 2
              have y3 : W5.cell? ⟨w4.heap.size, 3, none⟩ = some (.slice A5 v.es.length c5) := hY.cell 3
              have r1 : ReadsE W5 W5.heap.size A5 v.es := Reads.more (ReadsE.below hr5 hb45) hb45.size
              have hBW : Below w.heap.size w W5 := (hBd hB3).trans (hb5.mono (hBd hB3).size)
              have r2 : ReadsE W5 w.heap.size v.A v.es := ReadsE.below hvin.r hBW
              clear hr5 hat5 hb4 hb45 hY gr s5
              replace r1 := Lib.hid r1
              replace r2 := Lib.hid r2
              replace hvin := Lib.hid hvin
              go_upto_region 31 with fail
              rw [← hW5]
              clear hW5
              go_cut [174] from 125 to 174 (fun cv wx => cv = .bool false ∧ ∃ d, wx = W5.drewN d)
              case first =>
                as_aux_lemma =>
                  go_quiet (fail)
                  go_wp2_with fail
                  go_meet
                  case rel => exact ⟨rfl, _, rfl⟩
              case rest =>
              obtain ⟨rfl, d8, rfl⟩ := hcut
              go_wp2_with fail
              go_loopw [23] (fun j1 wx => ∃ jn d : Nat, jn ≤ v.es.length ∧ j1 = .int .i64 jn ∧ wx = W5.drewN d) (fun j1 _ => v.es.length - (intOf j1).toNat)
              case atStart => exact ⟨0, _, by omega, rfl, rfl⟩
              case round =>
               as_aux_lemma =>
                obtain ⟨jn, d, hj, rfl, rfl⟩ := hrel
                by_cases hlj : jn < v.es.length
                · obtain ⟨x, hx⟩ := ent_at hlj
                  obtain ⟨ad6, rfl, _, e1⟩ := r1.out.at_ hx
                  obtain ⟨ad7, e7, _, e2⟩ := r2.out.at_ hx
                  rw [e7] at d3
                  replace hx := Lib.hid hx
                  obtain ⟨a0, a1, a2, a3⟩ := e1
                  obtain ⟨b0, b1, b2, b3⟩ := e2
                  go_wp2_with fail
                  go_quiet (fail)
                  go_wp2_with fail
                  exact ⟨⟨jn + 1, _, by omega, by go_num, rfl⟩, by simp [intOf]; omega⟩
                · obtain rfl : jn = v.es.length := by omega
                  clear d0 d1 d2 d3
                  go_wp2_with fail
                  have hpp : p + 1 = g + (m + 1) := by rw [hp.out]; omega
                  exact ⟨⟨m + 1, p + 1, by go_num, by go_num, hpp, by omega, below_drewN hb5 d⟩, by simp [intOf]; omega⟩
            · obtain rfl : m = us.length := by omega
              have b1 : decide ((us.length : Int) < (us.length : Int)) = false := decide_eq_false (by omega)
              have b2 : decide (us.length < us.length) = false := decide_eq_false (by omega)
              have hP4 := hP3.below hb
              have hS4 := hS3.below hb
              rw [← hp] at hP4
              clear hP3 hS3
              go_wp2_with fail
              exact ⟨⟨k + 1, cb + 1, p, false, evN, by go_num, rfl, hP4, hS4, by omega, by omega, by omega, hB3.trans (hb.mono (hBz hB3))⟩, by simp [intOf]; omega⟩
      · have hcases : k < len1 → k < 300 → l.length = 0 := fun h1 h2 => by
          rcases Nat.eq_zero_or_pos l.length with h | h
          · exact h
          · exact absurd ⟨h1, h2, h⟩ hlt
        clear hlt
        by_cases hk1 : k < len1
        · have b1 : decide ((k : Int) < (len1 : Int)) = true := decide_eq_true (by omega)
          have b3 : decide (k < len1) = true := decide_eq_true (by omega)
          by_cases hk2 : k < 300
          · have b2 : decide ((k : Int) < 300) = true := decide_eq_true (by omega)
            have b4 : decide (k < 300) = true := decide_eq_true (by omega)
            have hl0 := List.eq_nil_of_length_eq_zero (hcases hk1 hk2)
            subst hl0
            have gg := Lib.hid (got_any _ _ _ _ _ _ _ _ _ wr hP.b)
            have gk := kept_any _ _ _ _ _ _ _ _ _ wr hP.a
            rw [hkl.out] at gk
            replace gk := Lib.hid gk
            go_wp2_with fail
            refine gg.out.mono ?_
            rintro _ _ ⟨rfl, rfl⟩
            go_wp2_with fail
            refine gk.out.mono ?_
            rintro _ _ ⟨rfl, rfl⟩
            go_wp2_with fail
            go_ret
            exact ⟨by simp, hBd hB⟩
          · have b2 : decide ((k : Int) < 300) = false := decide_eq_false (by omega)
            have b4 : decide (k < 300) = false := decide_eq_false (by omega)
            have gg := Lib.hid (got_any _ _ _ _ _ _ _ _ _ wr hP.b)
            have gk := kept_any _ _ _ _ _ _ _ _ _ wr hP.a
            rw [hkl.out] at gk
            replace gk := Lib.hid gk
            go_wp2_with fail
            refine gg.out.mono ?_
            rintro _ _ ⟨rfl, rfl⟩
            go_wp2_with fail
            refine gk.out.mono ?_
            rintro _ _ ⟨rfl, rfl⟩
            go_wp2_with fail
            go_ret
            exact ⟨by simp, hBd hB⟩
        · have b1 : decide ((k : Int) < (len1 : Int)) = false := decide_eq_false (by omega)
          have b3 : decide (k < len1) = false := decide_eq_false (by omega)
          have gg := Lib.hid (got_any _ _ _ _ _ _ _ _ _ wr hP.b)
          have gk := kept_any _ _ _ _ _ _ _ _ _ wr hP.a
          rw [hkl.out] at gk
          replace gk := Lib.hid gk
          go_wp2_with fail
          refine gg.out.mono ?_
          rintro _ _ ⟨rfl, rfl⟩
          go_wp2_with fail
          refine gk.out.mono ?_
          rintro _ _ ⟨rfl, rfl⟩
          go_wp2_with fail
          go_ret
          exact ⟨by simp, hBd hB⟩

set_option maxRecDepth 100000 in
theorem lifted (os : Os) (started : os.Started) (H : Type) (enc : TypeId × Value → H) :
    ReturnsInHanded {} Try.checked os 3 .any (Rows.wholeNotesSpec.pre6 enc Try.prog Try.f3 Rows.wholeNotesRow.domain false) (Rows.wholeNotesSpec.post enc Try.prog Try.f3 false true false false) := by
  refine returnsInHanded_of_change (C := Try.checked) own started (by kernel_rfl) Try.func3
    (ChangeSpec.witness6 (enc := enc) (C := Try.checked) false ⟨#[], #[.slice none 0 0, .slice none 0 0], []⟩ 8 (by kernel_rfl) (by kernel_rfl) (by kernel_rfl) (by kernel_rfl)) ?_
  intro W base args ds gs before hval0 hW hcnd _
  have hval : ∀ (j : Nat) t v, Try.f3.params[j]? = some t → args[j]? = some v → Value.okWide Try.prog W .any base t v := hval0
  have hW' := hW
  obtain ⟨p, q, hA0, hV, rfl, hfz, hnd⟩ := hW
  have hA : DataW.TrodAll enc Try.prog W 0 (fun _ => true) true Try.f3.params.toList args.toList ds p := hA0
  rw [Try.params3] at hA hval
  obtain ⟨v0, vs0, d0, ds0, p0, q0, hargs, rfl, rfl, h0, r0⟩ := trodAll_cons hA
  obtain ⟨v1, vs1, d1, ds1, p1, q1, rfl, rfl, rfl, h1, r1⟩ := trodAll_cons r0
  obtain ⟨rfl, rfl, rfl⟩ := trodAll_nil r1
  obtain rfl : args = #[v0, v1] := by cases args; simp_all
  obtain ⟨rfl, rfl⟩ := trodVars_none hV
  obtain ⟨a0, len0, cap0, rfl⟩ := okWide_slice Try.underlying22 (hval 0 22 v0 rfl rfl)
  have k0 := h0
  have lt0 : ∀ x ∈ p0, x.block < W.heap.size := by obtain ⟨m, hm⟩ := k0; exact DataW.trod_lt m _ _ _ hm
  obtain ⟨fuel0, hf0⟩ := h0
  have hg0 : DataW.trod enc Try.prog W 0 (fun _ => true) true fuel0 22 [.slice a0 len0 cap0] = some (d0, p0) := by simpa [Value.cells] using hf0
  obtain ⟨os0, w0⟩ := open_notes hg0
  obtain ⟨a1, len1, cap1, rfl⟩ := okWide_slice Try.underlying23 (hval 1 23 v1 rfl rfl)
  have k1 := h1
  have lt1 : ∀ x ∈ p1, x.block < W.heap.size := by obtain ⟨m, hm⟩ := k1; exact DataW.trod_lt m _ _ _ hm
  obtain ⟨z1, w1⟩ : ∃ zs, IsRow .i64 W a1 len1 cap1 zs := by
    obtain ⟨fuel, hf⟩ := h1
    rcases open_ints Try.underlying23 Try.underlying3 (by kernel_rfl) hf with ⟨hcs, _⟩ | ⟨x, l, c, zs, hcs, _, hl, hm, hz, _, hcell, hwz⟩
    · simp [Value.cells] at hcs
      obtain ⟨rfl, rfl, rfl⟩ := hcs
      exact ⟨[], .inl ⟨rfl, rfl, rfl, rfl⟩⟩
    · simp [Value.cells] at hcs
      obtain ⟨rfl, rfl, rfl⟩ := hcs
      exact ⟨zs, .inr ⟨_, rfl, hl, hm, by simpa using hz, hcell, hwz⟩⟩
  clear hA0 hval0
  refine (walk a0 len0 cap0 os0 a1 len1 cap1 z1 W w0 w1).mono fun e W' ⟨he, bel⟩ => ?_
  subst he
  exact ⟨_, rfl, _, _, _, [], _, [], hW', trodAll_mk1 (shut_bool Try.underlying4 _), (trodAll_cons_mk (Below.trod laidOut (by kernel_rfl) (of_decide_eq_true (by kernel_rfl)) k0 bel lt0) (trodAll_cons_mk (Below.trod laidOut (by kernel_rfl) (of_decide_eq_true (by kernel_rfl)) k1 bel lt1) trodAll_mk0)), rfl, bel.frame _, fun h => by cases h⟩

theorem closed : joinedFacts Try.prog 3 Try.f3 Rows.wholeNotesSpec Rows.wholeNotesRow = true := by
  have h1 := mayEnter_fact
  have h2 : (Rows.wholeNotesRow.lifted == Try.prog.liftsFinal) = true := by rw [lifts_fact]; rfl
  have h3 : (Try.prog.make == some Rows.wholeNotesRow.make) = true := by rw [make_fact]; rfl
  have hfin : ∀ b : Bool, b = true → b = true := fun _ h => h
  unfold joinedFacts
  rw [h1, h2, h3]
  clear h1 h2 h3
  refine hfin _ ?_
  kernel_rfl

theorem over : Rows.wholeNotesRow.holds Try.pinned (OpenSpec.ofChange Rows.wholeNotesSpec) :=
  OpenClaim.holds_of_wide 3 Try.f3 rfl rfl rfl rfl rfl rfl rfl ⟨rfl, rfl, rfl, rfl, rfl⟩ rfl rfl rfl rfl rfl (by kernel_rfl) Try.func3 closed
    (of_decide_eq_true (by kernel_rfl)) (by unfold Func.isWrapper; first | (rw [if_pos (by decide +kernel)]; kernel_rfl) | (rw [if_neg (by decide +kernel)]; exact ⟨rfl, rfl⟩))
    (fun os started H enc _ => lifted os started H enc)

/-- The statement. -/
theorem proved : Rows.WholeNotesSaid := over
#print axioms proved

end Go.Proofs.Ytdilccihhelilaa.WholeNotesP
