/- PairForged: bytes that are refused change nothing of an end. -/
import Derived.Test.YtdilccihhelilaaPairF
import Derived.Test.YtdilccihhelilaaOpenRP
import Derived.Deep.CutBlock
import Derived.Test.YtdilccihhelilaaHead
import Derived.Test.YtdilccihhelilaaOpenG
import Derived.Deep.RegionHeld3
import Derived.Lib.SmallJoins
import Derived.ProofKit
import Derived.OpenShut
import Derived.ShutString
import Derived.ChangeOld
import Derived.Laws.StructEq
namespace Go.Proofs.Ytdilccihhelilaa.PairForgedP
open Go.ChangeShapes Go.WideShapes Go.ChangeAt Go.RowKit
open Go.ChangeMaps (open_string shut_string)
set_option linter.unusedVariables false

theorem own : ownKnob Try.prog.godebug = none := by kernel_rfl
theorem laidOut : laidOutB Try.prog = true := by kernel_rfl
theorem bnext {a b c : World} (h : Below a.heap.size a b) (k : Below b.heap.size b c) : Below a.heap.size a c := h.trans (k.mono h.size)

set_option maxRecDepth 100000 in
set_option maxHeartbeats 40000000 in
theorem walk (a0 : Option Addr) (len0 cap0 : Nat) (ls : List (List Int)) (a1 : Option Addr) (len1 cap1 : Nat) (z1 : List Int) (w : World) (h0 : ls.length = len0 ∧ RowsB w w.heap.size a0 ls) (h1 : IsRow .u8 w a1 len1 cap1 z1) :
    Calls Try.prog 7 #[.slice a0 len0 cap0, .slice a1 len1 cap1] w fun e w' => e = .returned (.bool true) ∧ Below w.heap.size w w' := by
  obtain ⟨rfl, hRows⟩ := h0
  obtain ⟨xb, rfl, hbb, hrb, hlb, hmb⟩ := h1.reads
  have g1 := Lib.hid (pnew_any w)
  have gaw := fun w => Lib.hid (awake20 w)
  obtain ⟨n, hn⟩ : ∃ n : Nat, n = min ls.length 100 := ⟨_, rfl⟩
  replace hRows := Lib.hid hRows
  go_enter Try.func7, Try.ntmps7
  go_wp2_with fail
  refine g1.out.mono ?_
  rintro _ w1 ⟨rfl, hH1, hb1⟩
  obtain ⟨B, hBe⟩ : ∃ B, B = w.heap.size := ⟨_, rfl⟩
  obtain ⟨g, hge⟩ : ∃ g, g = w.heap.size + 1 := ⟨_, rfl⟩
  obtain ⟨m, hme⟩ : ∃ m, m = w.heap.size := ⟨_, rfl⟩
  have hF1 : ∀ q, (fun k => k = w.heap.size ∨ k = w.heap.size + 1) q → B ≤ q := fun q hq => by
    dsimp only at hq
    omega
  have hH1' : HE w1 (fun k => k = w.heap.size ∨ k = w.heap.size + 1) g m 0 true [] 1 0 (fun _ => none) := by rw [hge, hme]; exact hH1
  have hB1 : Below B w w1 := by rw [hBe]; exact hb1
  rw [← hge]
  have hBz : ∀ {W : World}, Below B w W → B ≤ W.heap.size := fun h => by have := h.size; omega
  clear hH1 hb1
  replace hBe := Lib.hid hBe
  replace hge := Lib.hid hge
  replace hme := Lib.hid hme
  generalize (fun k => k = w.heap.size ∨ k = w.heap.size + 1) = F1 at *
  have hF1' : ∀ q, F1 q → B ≤ q := hF1
  go_upto_block 0 with fail
  go_cut [6] from 15 (fun i wr => ∃ (k : Nat) (F : Nat → Prop) (kv : List Value) (xss : List (List Int)), i = .int .i64 k ∧ HE wr F g m 0 true kv 1 0 (fun _ => none) ∧ OBs wr kv xss ∧ (∀ x ∈ xss, x.length ≤ 1048568 ∧ Bytes x) ∧ kv.length ≤ 100 ∧ (∀ q, F q → B ≤ q) ∧ Below B w wr)
  case first =>
    go_wp2_with fail
    go_loopw [6] (fun i wr => ∃ (k : Nat) (F : Nat → Prop) (kv : List Value) (xss : List (List Int)), k ≤ n ∧ i = .int .i64 k ∧ HE wr F g m 0 true kv 1 0 (fun _ => none) ∧ OBs wr kv xss ∧ (∀ x ∈ xss, x.length ≤ 1048568 ∧ Bytes x) ∧ kv.length ≤ 100 ∧ kv.length ≤ k ∧ (∀ q, F q → B ≤ q) ∧ Below B w wr) (fun i _ => n - (intOf i).toNat)
    case atStart => exact ⟨0, F1, [], [], Nat.zero_le _, rfl, hH1', trivial, fun x hx => absurd hx (by simp), by simp, by simp, hF1', hB1⟩
    case round =>
      obtain ⟨k, F, kv, xss, hk, rfl, hH, hO, hx, hkl, hkk, hFB, hB⟩ := hrel
      by_cases hlt : k < n
      · have hkl2 : k < ls.length := by omega
        have b1 : decide ((k : Int) < (ls.length : Int)) = true := decide_eq_true (by omega)
        have b2 : decide ((k : Int) < 100) = true := decide_eq_true (by omega)
        have b3 : decide (k < ls.length) = true := decide_eq_true (by omega)
        have b4 : decide (k < 100) = true := decide_eq_true (by omega)
        obtain ⟨ad, rfl, hadb, xA, xc, xcell, xr, xbt, xl, xm⟩ := hRows.out k ls[k] (List.getElem?_eq_getElem hkl2)
        have hBd : Below w.heap.size w wr := by rw [← hBe.out]; exact hB
        generalize ls[k] = x at *
        have s1 : wr.cell? (ad.add k) = some (.slice xA x.length xc) := (hBd.cell (by rw [block_of_add]; exact hadb)).trans xcell
        have xr' : ReadsB wr wr.heap.size xA x := (Reads.below xr hBd).more hBd.size
        have hxF : ∀ ad, xA = some ad → 0 < x.length → ¬ F ad.block := fun ad e h => by
            obtain ⟨ad', e', hb', _⟩ := xr.2 h
            rw [e] at e'
            injection e' with e'
            subst e'
            intro hF
            have := hFB _ hF
            have := hBe.out
            omega
        by_cases hxl : 1048568 < x.length
        · have gs := Lib.hid (send_long F g m 0 true kv 1 0 _ xA x.length xc wr hH hxl)
          clear xr' xr xcell hxF
          go_wp2_with fail
          refine gs.out.mono ?_
          rintro _ _ ⟨rfl, rfl⟩
          go_wp2_with fail
          exact ⟨⟨k + 1, F, kv, xss, by omega, by go_num, hH, hO, hx, hkl, by omega, hFB, hB⟩, by simp [intOf]; omega⟩
        · have gs := Lib.hid (send_any F g m 0 kv 1 0 _ xA xc x wr hH xr' hxF xbt (by omega) (by omega) hO.one (by omega) (by omega) (by omega) (by omega))
          have hFn := fun q hq => hH.noB q hq
          clear xr' xr xcell hxF
          go_wp2_with fail
          refine gs.out.mono ?_
          rintro _ w3 ⟨A3, c3, u, F3, rfl, _, hu, hF3, hH3, hT3⟩
          have hO3 : OBs w3 kv xss := hO.keep fun v x h => h.keep hT3 hFn
          have hB3 := hB.trans (hT3.below (hBz hB) hFB)
          go_wp2_with fail
          exact ⟨⟨k + 1, F3, kv ++ [u], xss ++ [x], by omega, by go_num, hH3, hO3.append ⟨hu, trivial⟩, fun y hy => (by
            rcases List.mem_append.1 hy with hy | hy
            · exact hx y hy
            · rw [List.mem_singleton.1 hy]; exact ⟨by omega, xbt⟩), by simp; omega, by simp; omega, fun q hq => (by
            by_cases hql : q < wr.heap.size
            · exact hFB q (hF3 q hql hq)
            · have := hBz hB; omega), hB3⟩, by simp [intOf]; omega⟩
      · by_cases hxx : k < ls.length
        · have b1 : decide ((k : Int) < ls.length) = true := decide_eq_true (by omega)
          have b2 : decide ((k : Int) < 100) = false := decide_eq_false (by omega)
          have b3 : decide (k < 100) = false := decide_eq_false (by omega)
          have b4 : decide (k < ls.length) = true := decide_eq_true (by omega)
          go_wp2_with fail
          go_meet
          case rel => exact ⟨k, F, kv, xss, rfl, hH, hO, hx, hkl, hFB, hB⟩
        · have b1 : decide ((k : Int) < ls.length) = false := decide_eq_false (by omega)
          have b3 : decide (k < ls.length) = false := decide_eq_false (by omega)
          go_wp2_with fail
          go_meet
          case rel => exact ⟨k, F, kv, xss, rfl, hH, hO, hx, hkl, hFB, hB⟩
  case rest =>
    obtain ⟨k, F, kv, xss, rfl, hH, hO, hx, hkl, hFB, hB⟩ := hcut
    clear hH1' hB1 hF1 hF1'
    have gt := Lib.hid (tick_any F g m 0 true kv 1 0 _ wc xss hH hO hx (by omega) (by omega) (by omega) (by omega))
    go_wp2_with fail
    refine gt.out.mono ?_
    rintro _ w2 ⟨A2, c2, vs2, rfl, hR2, hV2, hb2⟩
    have hH2 := hH.below hb2
    have gk := Lib.hid (kept_any _ _ _ _ _ _ _ _ _ w2 hH2)
    go_wp2_with fail
    refine gk.out.mono ?_
    rintro _ _ ⟨rfl, rfl⟩
    have hB2 := hB.trans (hb2.mono (hBz hB))
    have hBd : Below w.heap.size w w2 := by rw [← hBe.out]; exact hB2
    have hrb2 : ReadsB w2 w2.heap.size a1 xb := (Reads.below hrb hBd).more hBd.size
    by_cases hf : frC xb (1 + (kv.length : Int)) = 0
    · have gtk := Lib.hid (take_ok F g m 0 true kv 1 0 _ a1 cap1 xb w2 hH2 hrb2 hbb hlb hmb (by omega) (by omega) (by omega) hf (by omega) (by omega) (by omega) (fun x hx => by cases hx) (fun x v hx => by cases hx))
      replace hf := Lib.hid hf
      clear hrb2
      go_wp2_with fail
      refine gtk.out.mono ?_
      rintro _ w3 ⟨AO, cO, vsO, AB, nB, cB, bb, evN, rfl, hT3, _⟩
      have hB3 := hB2.trans (hT3.below (hBz hB2) hFB)
      go_wp2_with fail
      refine (gaw _).out.mono ?_
      rintro _ w4 ⟨rfl, hb4⟩
      go_wp2_with fail
      go_ret
      exact ⟨rfl, by rw [← hBe.out]; exact hB3.trans (hb4.mono (hBz hB3))⟩
    · have gtk := take_bad F g m 0 true kv 1 0 _ a1 cap1 xb w2 hH2 hrb2 hbb hlb hmb (by omega) (by omega) (by omega) hf
      generalize frC xb (1 + (kv.length : Int)) = C at *
      have hC1 : (C == 0) = false := by simp [hf]
      have hC2 : (C != 0) = true := by simp [hf]
      replace gtk := Lib.hid gtk
      replace hf := Lib.hid hf
      clear hrb2
      go_wp2_with fail
      refine gtk.out.mono ?_
      rintro _ w3 ⟨rfl, hb3⟩
      have hH3 := hH2.below hb3
      have gk3 := Lib.hid (kept_any _ _ _ _ _ _ _ _ _ w3 hH3)
      have gg3 := Lib.hid (got_any _ _ _ _ _ _ _ _ _ w3 hH3)
      have hb23 := bn hb2 hb3
      have gt3 := Lib.hid (tick_any F g m 0 true kv 1 0 _ w3 xss hH3 (hO.keep fun v x h => h.below hb23) hx (by omega) (by omega) (by omega) (by omega))
      go_wp2_with fail
      refine gk3.out.mono ?_
      rintro _ _ ⟨rfl, rfl⟩
      go_wp2_with fail
      refine gg3.out.mono ?_
      rintro _ _ ⟨rfl, rfl⟩
      go_wp2_with fail
      refine gt3.out.mono ?_
      rintro _ w4 ⟨A4, c4, vs4, rfl, hR4, hV4, hb4⟩
      have hl4 := hV4.len
      have hl2 := hV2.len
      have hb34 := bn hb3 hb4
      have hlen : vs4.length = vs2.length := by omega
      rw [hlen] at hR4 ⊢
      have gr := Lib.hid (rows_any A4 A2 c4 c2 vs2.length vs4 vs2 _ w4 w4.heap.size w2.heap.size (own_reads hR4) ((own_reads hR2).below hb34) hV4 (hV2.keep fun v x h => h.below hb34) hl2.symm (by rw [hl2, tks_len, List.length_take]; omega))
      clear hl2 hl4 hlen gt3 gg3 gk3 hR4 hV4 hR2 hV2
      go_wp2_with fail
      refine gr.out.mono ?_
      rintro _ w5 ⟨rfl, hb5⟩
      go_wp2_with fail
      go_ret
      have hB4 := hB2.trans (hb34.mono (hBz hB2))
      exact ⟨by simp, by rw [← hBe.out]; exact hB4.trans (hb5.mono (hBz hB4))⟩

set_option maxRecDepth 100000 in
theorem lifted (os : Os) (started : os.Started) (H : Type) (enc : TypeId × Value → H) :
    ReturnsInHanded {} Try.checked os 7 .any (Rows.pairForgedSpec.pre6 enc Try.prog Try.f7 Rows.pairForgedRow.domain false) (Rows.pairForgedSpec.post enc Try.prog Try.f7 false true false false) := by
  refine returnsInHanded_of_change (C := Try.checked) own started (by kernel_rfl) Try.func7
    (ChangeSpec.witness6 (enc := enc) (C := Try.checked) false ⟨#[], #[.slice none 0 0, .slice none 0 0], []⟩ 8 (by kernel_rfl) (by kernel_rfl) (by kernel_rfl) (by kernel_rfl)) ?_
  intro W base args ds gs before hval0 hW hcnd _
  have hval : ∀ (j : Nat) t v, Try.f7.params[j]? = some t → args[j]? = some v → Value.okWide Try.prog W .any base t v := hval0
  have hW' := hW
  obtain ⟨p, q, hA0, hV, rfl, hfz, hnd⟩ := hW
  have hA : DataW.TrodAll enc Try.prog W 0 (fun _ => true) true Try.f7.params.toList args.toList ds p := hA0
  rw [Try.params7] at hA hval
  obtain ⟨v0, vs0, d0, ds0, p0, q0, hargs, rfl, rfl, h0, r0⟩ := trodAll_cons hA
  obtain ⟨v1, vs1, d1, ds1, p1, q1, rfl, rfl, rfl, h1, r1⟩ := trodAll_cons r0
  obtain ⟨rfl, rfl, rfl⟩ := trodAll_nil r1
  obtain rfl : args = #[v0, v1] := by cases args; simp_all
  obtain ⟨rfl, rfl⟩ := trodVars_none hV
  obtain ⟨a0, len0, cap0, rfl⟩ := okWide_slice Try.underlying26 (hval 0 26 v0 rfl rfl)
  have k0 := h0
  have lt0 : ∀ x ∈ p0, x.block < W.heap.size := by obtain ⟨m, hm⟩ := k0; exact DataW.trod_lt m _ _ _ hm
  obtain ⟨fuel0, hf0⟩ := h0
  have hg0 : DataW.trod enc Try.prog W 0 (fun _ => true) true fuel0 26 [.slice a0 len0 cap0] = some (d0, p0) := by simpa [Value.cells] using hf0
  obtain ⟨os0, w0⟩ := open_rows hg0
  obtain ⟨a1, len1, cap1, rfl⟩ := okWide_slice Try.underlying27 (hval 1 27 v1 rfl rfl)
  have k1 := h1
  have lt1 : ∀ x ∈ p1, x.block < W.heap.size := by obtain ⟨m, hm⟩ := k1; exact DataW.trod_lt m _ _ _ hm
  obtain ⟨z1, w1⟩ : ∃ zs, IsRow .u8 W a1 len1 cap1 zs := by
    obtain ⟨fuel, hf⟩ := h1
    rcases open_ints Try.underlying27 Try.underlying5 (by kernel_rfl) hf with ⟨hcs, _⟩ | ⟨x, l, c, zs, hcs, _, hl, hm, hz, _, hcell, hwz⟩
    · simp [Value.cells] at hcs
      obtain ⟨rfl, rfl, rfl⟩ := hcs
      exact ⟨[], .inl ⟨rfl, rfl, rfl, rfl⟩⟩
    · simp [Value.cells] at hcs
      obtain ⟨rfl, rfl, rfl⟩ := hcs
      exact ⟨zs, .inr ⟨_, rfl, hl, hm, by simpa using hz, hcell, hwz⟩⟩
  clear hA0 hval0
  refine (walk a0 len0 cap0 os0 a1 len1 cap1 z1 W w0 w1).mono fun e W' ⟨he, bel⟩ => ?_
  subst he
  exact ⟨_, rfl, _, _, _, [], _, [], hW', trodAll_mk1 (shut_bool Try.underlying4 _), (trodAll_cons_mk (Below.trod laidOut (by kernel_rfl) (of_decide_eq_true (by kernel_rfl)) k0 bel lt0) (trodAll_cons_mk (Below.trod laidOut (by kernel_rfl) (of_decide_eq_true (by kernel_rfl)) k1 bel lt1) trodAll_mk0)), rfl, bel.frame _, fun h => by cases h⟩

theorem closed : joinedFacts Try.prog 7 Try.f7 Rows.pairForgedSpec Rows.pairForgedRow = true := by
  have h1 := mayEnter_fact
  have h2 : (Rows.pairForgedRow.lifted == Try.prog.liftsFinal) = true := by rw [lifts_fact]; rfl
  have h3 : (Try.prog.make == some Rows.pairForgedRow.make) = true := by rw [make_fact]; rfl
  have hfin : ∀ b : Bool, b = true → b = true := fun _ h => h
  unfold joinedFacts
  rw [h1, h2, h3]
  clear h1 h2 h3
  refine hfin _ ?_
  kernel_rfl

theorem over : Rows.pairForgedRow.holds Try.pinned (OpenSpec.ofChange Rows.pairForgedSpec) :=
  OpenClaim.holds_of_wide 7 Try.f7 rfl rfl rfl rfl rfl rfl rfl ⟨rfl, rfl, rfl, rfl, rfl⟩ rfl rfl rfl rfl rfl (by kernel_rfl) Try.func7 closed
    (of_decide_eq_true (by kernel_rfl)) (by unfold Func.isWrapper; first | (rw [if_pos (by decide +kernel)]; kernel_rfl) | (rw [if_neg (by decide +kernel)]; exact ⟨rfl, rfl⟩))
    (fun os started H enc _ => lifted os started H enc)

/-- The statement. -/
theorem proved : Rows.PairForgedSaid := over
#print axioms proved

end Go.Proofs.Ytdilccihhelilaa.PairForgedP
