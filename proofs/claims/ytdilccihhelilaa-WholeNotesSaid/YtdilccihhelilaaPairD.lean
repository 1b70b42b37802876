/- An end: what a frame says. -/
import Derived.Test.YtdilccihhelilaaPairC
import Derived.Test.YtdilccihhelilaaOpn
import Derived.Test.YtdilccihhelilaaErrJ
import Derived.Test.YtdilccihhelilaaRead
import Derived.Deep.CutBlock
namespace Go.Proofs.Ytdilccihhelilaa
open Go.RowKit
set_option linter.unusedVariables false
set_option linter.unusedSimpArgs false

set_option maxRecDepth 100000 in
set_option maxHeartbeats 2000000 in
theorem join_any (q : Nat) (c : Int) (w : World) (hq : w.cell? ⟨q, 0, none⟩ = some (.iface 28 (.int .i64 c))) :
    Calls Try.prog 41 #[.slice (some ⟨q, 0, none⟩) 1 1] w fun e w' => ∃ g, e = .returned (joinV g) ∧ JoinAt w' g c ∧ w.heap.size ≤ g ∧ Below w.heap.size w w' := by
  have hmk := join_make
  have hq2 : ∀ o o', ((w.alloc o).alloc o').cell? ⟨q, 0, none⟩ = some (.iface 28 (.int .i64 c)) := fun o o' => old1 (old1 hq)
  go_enter Try.func41, Try.ntmps41
  go_wp2
  refine wp_loop_rounds 2 ?_
  rw [rounds_succ]
  go_wp2
  rw [rounds_succ]
  go_wp2
  refine wp_loop_rounds 2 ?_
  rw [rounds_succ]
  go_wp2
  rw [rounds_succ]
  go_wp2
  go_ret
  have b2 := ((Blk.new w 55 #[.iface 28 (.int .i64 c)]).alloc (.cells #[.slice (some ⟨w.heap.size, 0, none⟩) 1 1] 113)).alloc (.cells #[.iface 28 (.int .i64 c)] 55)
  have b3 := (Blk.new (w.alloc (.cells #[.iface 28 (.int .i64 c)] 55)) 113 #[.slice (some ⟨w.heap.size, 0, none⟩) 1 1]).alloc (.cells #[.iface 28 (.int .i64 c)] 55)
  simp only [World.size_alloc] at b3
  have hbb : Below w.heap.size w (((w.alloc (.cells #[.iface 28 (.int .i64 c)] 55)).alloc (.cells #[.slice (some ⟨w.heap.size, 0, none⟩) 1 1] 113)).alloc (.cells #[.iface 28 (.int .i64 c)] 55)) := (((Below.refl w.heap.size w).alloc (Nat.le_refl _) _).alloc (by simp) _).alloc (by simp; omega) _
  exact ⟨w.heap.size + 1, rfl, ⟨⟨w.heap.size, 0, none⟩, 1, b3.cell 0, b2.cell 0, b2.lt, b3.lt⟩, by omega, hbb⟩
/-- A number is read, or there is too little. -/
theorem ruint4 (g k : Nat) (xs : List Int) (w : World) (hb : Bytes xs) (hB : Rd w g xs k) :
    Calls Try.prog 29 #[.pointer (some ⟨g, 0, none⟩), .int .i64 4] w fun e w' => ∃ v c k2, e = .returned (.tuple #[.int .u64 v, .int .i64 c]) ∧ Rd w' g xs k2 ∧ w.grownBy w' (some g) ∧
      ((k + 4 ≤ xs.length ∧ v = gfold 0 ((xs.drop k).take 4) ∧ c = 0 ∧ k2 = k + 4) ∨ (xs.length < k + 4 ∧ v = 0 ∧ c = 3 ∧ k2 = k)) := by
  by_cases h : k + 4 ≤ xs.length
  · exact (ruint_yes g k 4 xs w hb hB (by omega) (by omega) (by omega)).mono fun e w' ⟨he, h1, h2⟩ => ⟨_, _, _, he, h1, h2, .inl ⟨h, rfl, rfl, rfl⟩⟩
  · refine (ruint_short g k 4 xs w hB (by omega) (by omega) (by omega)).mono fun e w' ⟨he, m, hm⟩ => ⟨_, _, _, he, ?_, ?_, .inr ⟨by omega, rfl, rfl, rfl⟩⟩
    · subst hm; exact hB.drewN m
    · subst hm; exact only_drewN (only_refl _ _) m

def frM (xs : List Int) : Int := gfold 0 ((opB xs).take 4)
def frH (xs : List Int) : Int := gfold 0 (((opB xs).drop 4).take 4)
def frB (xs : List Int) : List Int := (opB xs).drop 8
/-- What a frame's opening comes to, where the numbers below lim were sent. -/
def frC (xs : List Int) (lim : Int) : Int := if opC xs ≠ 0 then opC xs else if opK xs ≠ xs.length ∨ (opB xs).length < 8 ∨ (frM xs = 0 ∧ 8 < (opB xs).length) ∨ lim ≤ frH xs then 4 else 0
def OpenP (w : World) (xs : List Int) (lim : Int) (e : Ending) (w' : World) : Prop :=
  (frC xs lim = 0 ∧ 8 ≤ (opB xs).length ∧ ∃ A c, e = .returned (.tuple #[.int .i64 (frM xs), .int .i64 (frH xs), .slice A (frB xs).length c, .nilIface]) ∧ OwnB w' w.heap.size (.slice A (frB xs).length c) (frB xs) ∧ Below w.heap.size w w') ∨
  (frC xs lim ≠ 0 ∧ ∃ q, e = .returned (.tuple #[.int .i64 0, .int .i64 0, .slice none 0 0, joinV q]) ∧ JoinAt w' q (frC xs lim) ∧ Below w.heap.size w w')
theorem opB_bytes {xs : List Int} (h : Bytes xs) : Bytes (opB xs) := by
  unfold opB
  split
  · exact (h.drop 4).take _
  · exact Bytes.nil
theorem opB_len (xs : List Int) : (opB xs).length ≤ 1048576 := by
  unfold opB
  split
  · rename_i h
    have : hdN xs ≤ 1048576 := by
      unfold opC at h
      split at h
      · omega
      · split at h
        · omega
        · omega
    rw [List.length_take]
    omega
  · simp
theorem g4_bd {xs : List Int} (h : Bytes xs) : 0 ≤ gfold 0 (xs.take 4) ∧ gfold 0 (xs.take 4) < 4294967296 := by
  refine ⟨gfold_nn _ 0 (h.take 4) (Int.le_refl _), ?_⟩
  have h1 := (gfold_bd (xs.take 4) 0 1 (h.take 4) (by omega) (by omega)).2
  have h2 := pow_mono256 (a := (xs.take 4).length) (b := 4) (by rw [List.length_take]; omega)
  have : (256 : Int) ^ 4 = 4294967296 := by decide
  omega
theorem opC_range (xs : List Int) : opC xs = 3 ∨ opC xs = 2 ∨ opC xs = 30 ∨ opC xs = 0 := by
  unfold opC
  split
  · exact .inl rfl
  · split
    · exact .inr (.inl rfl)
    · split
      · exact .inl rfl
      · split
        · exact .inr (.inr (.inl rfl))
        · exact .inr (.inr (.inr rfl))

set_option maxRecDepth 100000 in
set_option maxHeartbeats 4000000 in
theorem open_any (F : Nat → Prop) (g m cnt : Nat) (own : Bool) (kv : List Value) (first got : Int) (ev : Int → Option Value) (A : Option Addr) (c : Nat) (xs : List Int) (w : World) (h : HE w F g m cnt own kv first got ev)
    (hr : ReadsB w w.heap.size A xs) (hb : Bytes xs) (hc : xs.length ≤ c) (hm : c ≤ maxLen) (hf0 : 0 ≤ first) (hf1 : first ≤ 4000000000) (hk : kv.length ≤ 4096) :
    Calls Try.prog 26 #[.pointer (some ⟨g, 0, none⟩), .slice A xs.length c] w (OpenP w xs (first + kv.length)) := by
  have gop := Lib.hid (opn_any A c xs w hr hb hc hm)
  obtain ⟨c0, c2, c3, c4⟩ := h.cell3
  obtain ⟨AK, cK, c1, ⟨hcK, hmK⟩, hR⟩ := h.cell1
  obtain ⟨K, hK⟩ : ∃ K, K = opK xs := ⟨_, rfl⟩
  obtain ⟨C, hC⟩ : ∃ C, C = opC xs := ⟨_, rfl⟩
  obtain ⟨bs, hbs⟩ : ∃ bs, bs = opB xs := ⟨_, rfl⟩
  rw [← hK, ← hC, ← hbs] at gop
  have hbB : Bytes bs := by rw [hbs]; exact opB_bytes hb
  have hbl : bs.length ≤ 1048576 := by rw [hbs]; exact opB_len xs
  unfold FPost at gop
  clear hR hr
  replace hK := Lib.hid hK
  replace hC := Lib.hid hC
  replace hbs := Lib.hid hbs
  by_cases hC0 : C = 0
  · subst hC0
    go_enter Try.func26, Try.ntmps26
    go_wp2_with fail
    refine gop.out.mono ?_
    rintro _ w1 ⟨A1, c11, rfl, hO1, hb1⟩
    have gn := Lib.hid (newReader_any A1 c11 bs.length bs w1 w1.heap.size hO1.reads rfl (by omega))
    go_wp2_with fail
    refine gn.out.mono ?_
    rintro _ w2 ⟨gr, rfl, hgr, hRd2, hb2⟩
    have hs1 := hb1.size
    have gu1 := Lib.hid (ruint4 gr 0 bs w2 hbB hRd2)
    go_wp2_with fail
    refine gu1.out.mono ?_
    rintro _ w3 ⟨v1, e1, k1, rfl, hRd3, hg3, hv1⟩
    have gu2 := Lib.hid (ruint4 gr k1 bs w3 hbB hRd3)
    go_wp2_with fail
    refine gu2.out.mono ?_
    rintro _ w4 ⟨v2, e2, k2, rfl, hRd4, hg4, hv2⟩
    have gl := Lib.hid (left_any gr k2 bs w4 hRd4)
    go_wp2_with fail
    refine gl.out.mono ?_
    rintro _ w5 ⟨rfl, md, rfl⟩
    have hk2 : k2 ≤ bs.length := by obtain ⟨_, _, _, _, h⟩ := hRd4; exact h
    have gb := Lib.hid (rbytes_yes gr k2 ((bs.length : Int) - k2) bs (w4.drewN md) hbB (hRd4.drewN md) (by omega) (by omega) (by omega))
    go_wp2_with fail
    refine gb.out.mono ?_
    rintro _ w6 ⟨A6, c6, rfl, hO6, hRd6, hg6⟩
    have hs2 := hb2.size
    have hs3 := hg3.size
    have hs4 := hg4.size
    have hbw2 : Below w.heap.size w w2 := hb1.trans (hb2.mono hs1)
    have hbw3 : Below w.heap.size w w3 := hbw2.grown hg3 (by omega) (fun k hk => by injection hk with hk; omega)
    have hbw4 : Below w.heap.size w w4 := hbw3.grown hg4 (by omega) (fun k hk => by injection hk with hk; omega)
    have hbw5 : Below w.heap.size w (w4.drewN md) := below_drewN hbw4 md
    have hbw5s : w.heap.size ≤ (w4.drewN md).heap.size := hbw5.size
    have hbw6 : Below w.heap.size w w6 := hbw5.grown hg6 (by have := hbw5.size; omega) (fun k hk => by injection hk with hk; omega)
    have y1 : w6.cell? ⟨g, 1, none⟩ = some (.slice AK kv.length cK) := old2 c1 hbw6
    have y2 : w6.cell? ⟨g, 2, none⟩ = some (.int .i64 first) := old2 c2 hbw6
    have hv2b : 0 ≤ v2 ∧ v2 < 4294967296 := by
      rcases hv2 with ⟨_, h, _⟩ | ⟨_, h, _⟩
      · rw [h]; exact g4_bd (hbB.drop k1)
      · rw [h]; omega
    have hv1b : 0 ≤ v1 ∧ v1 < 4294967296 := by
      rcases hv1 with ⟨_, h, _⟩ | ⟨_, h, _⟩
      · rw [h]; exact g4_bd (hbB.drop 0)
      · rw [h]; omega
    have he2 : e2 = 0 ∨ e2 = 3 := by
      rcases hv2 with ⟨_, _, h, _⟩ | ⟨_, _, h, _⟩
      · exact .inl h
      · exact .inr h
    have hw1 : IntKind.i64.wrap v1 = v1 := by rw [IntKind.wrap_i64]; omega
    have hw2 : IntKind.i64.wrap v2 = v2 := by rw [IntKind.wrap_i64]; omega
    have hw3 : IntKind.i64.wrap (first + (kv.length : Int)) = first + (kv.length : Int) := by rw [IntKind.wrap_i64]; omega
    obtain ⟨L, hL⟩ : ∃ L, L = ((bs.length : Int) - (k2 : Int)).toNat := ⟨_, rfl⟩
    rw [← hL] at hO6 ⊢
    replace hv1 := Lib.hid hv1
    replace hv2 := Lib.hid hv2
    replace hL := Lib.hid hL
    replace hO6 := Lib.hid hO6
    clear gu1 gu2 gl gb gn gop hRd2 hRd3 hRd4 hRd6 hO1 c0 c1 c2 c3 c4 hb1 hb2 hg3 hg4 hg6 hbw2 hbw3 hbw4 hbw5 h
    go_upto_region 8 with fail
    go_cut [78] from 47 (fun t wx => t = .bool (decide (K ≠ (xs.length : Int) ∨ e2 ≠ 0 ∨ (v1 = 0 ∧ 0 < L) ∨ first + (kv.length : Int) ≤ v2)) ∧ Below w6.heap.size w6 wx)
    case first =>
      by_cases hA : K = (xs.length : Int)
      · have hA1 : (K == (xs.length : Int)) = true := by simp [hA]
        have hA2 : (K != (xs.length : Int)) = false := by simp [hA]
        replace hA := Lib.hid hA
        by_cases hE : e2 = 0
        · have hE1 : (e2 == 0) = true := by simp [hE]
          have hE2 : (e2 != 0) = false := by simp [hE]
          replace hE := Lib.hid hE
          by_cases hV : v1 = 0
          · have hV1 : (v1 == 0) = true := by simp [hV]
            have hV2 : (v1 != 0) = false := by simp [hV]
            replace hV := Lib.hid hV
            by_cases hL0 : 0 < L
            · have hL1 : decide (0 < L) = true := decide_eq_true hL0
              have hL2 : decide ((0 : Int) < (L : Int)) = true := decide_eq_true (by omega)
              go_region
              go_wp2_with fail
              go_meet
              case rel => exact ⟨congrArg Value.bool (decide_eq_true (p := K ≠ (xs.length : Int) ∨ e2 ≠ 0 ∨ (v1 = 0 ∧ 0 < L) ∨ first + (kv.length : Int) ≤ v2) (.inr (.inr (.inl ⟨hV.out, hL0⟩)))).symm, (Below.refl _ _).drew⟩
            · have hL1 : decide (0 < L) = false := decide_eq_false hL0
              have hL2 : decide ((0 : Int) < (L : Int)) = false := decide_eq_false (by omega)
              by_cases hH : first + (kv.length : Int) ≤ v2
              · have hH1 : decide (first + (kv.length : Int) ≤ v2) = true := decide_eq_true hH
                go_region
                go_wp2_with fail
                go_meet
                case rel => exact ⟨congrArg Value.bool (decide_eq_true (p := K ≠ (xs.length : Int) ∨ e2 ≠ 0 ∨ (v1 = 0 ∧ 0 < L) ∨ first + (kv.length : Int) ≤ v2) (.inr (.inr (.inr hH)))).symm, (Below.refl _ _).drew⟩
              · have hH1 : decide (first + (kv.length : Int) ≤ v2) = false := decide_eq_false hH
                go_region
                go_wp2_with fail
                go_meet
                case rel => exact ⟨congrArg Value.bool (decide_eq_false (p := K ≠ (xs.length : Int) ∨ e2 ≠ 0 ∨ (v1 = 0 ∧ 0 < L) ∨ first + (kv.length : Int) ≤ v2) (by have := hA.out; have := hE.out; omega)).symm, (Below.refl _ _).drew⟩
          · have hV1 : (v1 == 0) = false := by simp [hV]
            have hV2 : (v1 != 0) = true := by simp [hV]
            by_cases hH : first + (kv.length : Int) ≤ v2
            · have hH1 : decide (first + (kv.length : Int) ≤ v2) = true := decide_eq_true hH
              go_region
              go_wp2_with fail
              go_meet
              case rel => exact ⟨congrArg Value.bool (decide_eq_true (p := K ≠ (xs.length : Int) ∨ e2 ≠ 0 ∨ (v1 = 0 ∧ 0 < L) ∨ first + (kv.length : Int) ≤ v2) (.inr (.inr (.inr hH)))).symm, (Below.refl _ _).drew⟩
            · have hH1 : decide (first + (kv.length : Int) ≤ v2) = false := decide_eq_false hH
              go_region
              go_wp2_with fail
              go_meet
              case rel => exact ⟨congrArg Value.bool (decide_eq_false (p := K ≠ (xs.length : Int) ∨ e2 ≠ 0 ∨ (v1 = 0 ∧ 0 < L) ∨ first + (kv.length : Int) ≤ v2) (by have := hA.out; have := hE.out; omega)).symm, (Below.refl _ _).drew⟩
        · have hE1 : (e2 == 0) = false := by simp [hE]
          have hE2 : (e2 != 0) = true := by simp [hE]
          go_region
          go_wp2_with fail
          go_meet
          case rel => exact ⟨congrArg Value.bool (decide_eq_true (p := K ≠ (xs.length : Int) ∨ e2 ≠ 0 ∨ (v1 = 0 ∧ 0 < L) ∨ first + (kv.length : Int) ≤ v2) (.inr (.inl hE))).symm, (Below.refl _ _).drew⟩
      · have hA1 : (K == (xs.length : Int)) = false := by simp [hA]
        have hA2 : (K != (xs.length : Int)) = true := by simp [hA]
        go_region
        go_wp2_with fail
        go_meet
        case rel => exact ⟨congrArg Value.bool (decide_eq_true (p := K ≠ (xs.length : Int) ∨ e2 ≠ 0 ∨ (v1 = 0 ∧ 0 < L) ∨ first + (kv.length : Int) ≤ v2) (.inl hA)).symm, (Below.refl _ _).drew⟩
    case rest =>
      obtain ⟨rfl, hbc⟩ := hcut
      have hsem : (e2 = 0 → 8 ≤ bs.length ∧ v1 = frM xs ∧ v2 = frH xs ∧ k2 = 8 ∧ L = bs.length - 8) ∧ (e2 ≠ 0 → bs.length < 8) := by
        have hL' := hL.out
        have hbs' := hbs.out
        constructor
        · intro h0
          rcases hv2.out with ⟨q1, q2, q3, q4⟩ | ⟨q1, q2, q3, q4⟩
          · rcases hv1.out with ⟨r1, r2, r3, r4⟩ | ⟨r1, r2, r3, r4⟩
            · subst r4
              refine ⟨by omega, ?_, ?_, by omega, by omega⟩
              · rw [r2, List.drop_zero, hbs']; rfl
              · rw [q2, hbs']; rfl
            · omega
          · omega
        · intro h0
          rcases hv2.out with ⟨q1, q2, q3, q4⟩ | ⟨q1, q2, q3, q4⟩
          · omega
          · rcases hv1.out with ⟨r1, r2, r3, r4⟩ | ⟨r1, r2, r3, r4⟩ <;> omega
      have hfc : frC xs (first + (kv.length : Int)) = if K ≠ (xs.length : Int) ∨ e2 ≠ 0 ∨ (v1 = 0 ∧ 0 < L) ∨ first + (kv.length : Int) ≤ v2 then 4 else 0 := by
        unfold frC
        rw [← hC.out, if_neg (by omega), ← hK.out, ← hbs.out]
        by_cases h0 : e2 = 0
        · obtain ⟨s1, s2, s3, s4, s5⟩ := hsem.1 h0
          rw [← s2, ← s3]
          congr 1
          apply propext
          constructor
          · rintro (h | h | ⟨h, h'⟩ | h)
            · exact .inl h
            · omega
            · exact .inr (.inr (.inl ⟨h, by omega⟩))
            · exact .inr (.inr (.inr h))
          · rintro (h | h | ⟨h, h'⟩ | h)
            · exact .inl h
            · omega
            · exact .inr (.inr (.inl ⟨h, by omega⟩))
            · exact .inr (.inr (.inr h))
        · rw [if_pos (.inr (.inl (hsem.2 h0))), if_pos (.inr (.inl h0))]
      have hbwc : Below w.heap.size w wc := hbw6.trans (hbc.mono hbw6.size)
      replace hfc := Lib.hid hfc
      replace hsem := Lib.hid hsem
      by_cases hBAD : K ≠ (xs.length : Int) ∨ e2 ≠ 0 ∨ (v1 = 0 ∧ 0 < L) ∨ first + (kv.length : Int) ≤ v2
      · have hd1 : decide (K ≠ (xs.length : Int) ∨ e2 ≠ 0 ∨ (v1 = 0 ∧ 0 < L) ∨ first + (kv.length : Int) ≤ v2) = true := decide_eq_true hBAD
        have hf4 : frC xs (first + (kv.length : Int)) = 4 := by rw [hfc.out, if_pos hBAD]
        rw [hd1]
        replace hf4 := Lib.hid hf4
        clear hd1 hBAD
        have gj := Lib.hid (join_any wc.heap.size 4 (wc.alloc (.cells #[.iface 28 (.int .i64 4)] 55)) ((Blk.new wc 55 #[.iface 28 (.int .i64 4)]).cell 0))
        go_wp2_with fail
        refine gj.out.mono ?_
        rintro _ w8 ⟨q, rfl, hJ, hq, hb8⟩
        have hb9 : Below w.heap.size w w8 := (ba hbwc _).trans (hb8.mono (ba hbwc _).size)
        go_wp2_with fail
        refine bodyPost_ret (v := .tuple #[.int .i64 0, .int .i64 0, .slice none 0 0, joinV q]) (by simp [results, Try.results26, go_sem]) rfl (.inr ⟨by rw [hf4.out]; omega, q, rfl, by rw [hf4.out]; exact hJ, hb9⟩)
      · have hd1 : decide (K ≠ (xs.length : Int) ∨ e2 ≠ 0 ∨ (v1 = 0 ∧ 0 < L) ∨ first + (kv.length : Int) ≤ v2) = false := decide_eq_false hBAD
        have hf4 : frC xs (first + (kv.length : Int)) = 0 := by rw [hfc.out, if_neg hBAD]
        rw [hd1]
        have he0 : e2 = 0 := by omega
        obtain ⟨s1, s2, s3, s4, s5⟩ := hsem.out.1 he0
        have hO7 : OwnB wc w.heap.size (.slice A6 L c6) (frB xs) := by
          have h7 := ((hO6.out.base_ hbw5s).below hbc)
          have e : (bs.drop k2).take L = frB xs := by
            rw [s4, s5]
            unfold frB
            rw [← hbs.out]
            exact List.take_of_length_le (by rw [List.length_drop]; omega)
          rw [e] at h7
          exact h7
        have hLb : L = (frB xs).length := by unfold frB; rw [← hbs.out, List.length_drop]; exact s5
        replace hf4 := Lib.hid hf4
        replace hO7 := Lib.hid hO7
        replace s2 := Lib.hid s2
        replace s3 := Lib.hid s3
        replace hLb := Lib.hid hLb
        replace s1 := Lib.hid s1
        clear hd1 hBAD he0 s4 s5
        go_wp2_with fail
        refine bodyPost_ret (v := .tuple #[.int .i64 v1, .int .i64 v2, .slice A6 L c6, .nilIface]) (by simp [results, Try.results26, go_sem]) rfl (.inl ⟨hf4.out, by rw [← hbs.out]; exact s1.out, A6, c6, by rw [s2.out, s3.out, hLb.out], by rw [← hLb.out]; exact hO7.out, hbwc⟩)
  · have hCn : (C == 0) = false := by simp [hC0]
    have hCm : (C != 0) = true := by simp [hC0]
    have hfc : frC xs (first + (kv.length : Int)) = C := by
      unfold frC
      rw [← hC.out, if_pos hC0]
    replace hfc := Lib.hid hfc
    replace hC0 := Lib.hid hC0
    go_enter Try.func26, Try.ntmps26
    go_wp2_with fail
    refine gop.out.mono ?_
    rintro _ w1 ⟨A1, c11, rfl, hO1, hb1⟩
    have gj := Lib.hid (join_any w1.heap.size C (w1.alloc (.cells #[.iface 28 (.int .i64 C)] 55)) ((Blk.new w1 55 #[.iface 28 (.int .i64 C)]).cell 0))
    go_wp2_with fail
    refine gj.out.mono ?_
    rintro _ w8 ⟨q, rfl, hJ, hq, hb8⟩
    have hb9 : Below w.heap.size w w8 := (ba hb1 _).trans (hb8.mono (ba hb1 _).size)
    go_wp2_with fail
    refine bodyPost_ret (v := .tuple #[.int .i64 0, .int .i64 0, .slice none 0 0, joinV q]) (by simp [results, Try.results26, go_sem]) rfl (.inr ⟨by rw [hfc.out]; exact hC0.out, q, rfl, by rw [hfc.out]; exact hJ, hb9⟩)
end Go.Proofs.Ytdilccihhelilaa
