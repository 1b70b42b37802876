/- SumBack: what is wrapped opens, whatever stands behind; cut short it does not. -/
import Derived.Test.YtahmhkabipcfiaaFlip
import Derived.Test.YtahmhkabipcfiaaWide
import Derived.Test.YtahmhkabipcfiaaHead
import Derived.Test.YtahmhkabipcfiaaOpenG
import Derived.Deep.RegionHeld3
import Derived.Lib.SmallJoins
import Derived.ProofKit
import Derived.OpenShut
import Derived.ShutString
import Derived.ChangeOld
import Derived.Laws.StructEq
namespace Go.Proofs.Ytahmhkabipcfiaa.SumBackP
open Go.ChangeShapes Go.WideShapes Go.ChangeAt Go.RowKit
open Go.ChangeMaps (open_string shut_string)
set_option linter.unusedVariables false

theorem own : ownKnob Try.prog.godebug = none := by kernel_rfl
theorem laidOut : laidOutB Try.prog = true := by kernel_rfl
theorem bnext {a b c : World} (h : Below a.heap.size a b) (k : Below b.heap.size b c) : Below a.heap.size a c := h.trans (k.mono h.size)

set_option maxRecDepth 100000 in
set_option maxHeartbeats 4000000 in
theorem walk_s (a0 : Option Addr) (cap0 : Nat) (xs : List Int) (a1 : Option Addr) (cap1 : Nat) (ys : List Int) (k : Int) (w : World) (hr : ReadsB w w.heap.size a0 xs) (hb : Bytes xs) (hc : xs.length ≤ cap0) (hcm : cap0 ≤ maxLen) (hy : ReadsB w w.heap.size a1 ys) (hyb : Bytes ys) (hyc : ys.length ≤ cap1) (hys : cap1 ≤ 140737488351232) (hk : (Lit.int .u8 k).wf = true) (hn : xs.length ≤ 10000) :
    Calls Try.prog 6 #[.slice a0 xs.length cap0, .slice a1 ys.length cap1, .int .u8 k] w fun e w' => e = .returned (.bool true) ∧ Below w.heap.size w w' := by
  have b1 : decide (10000 < (xs.length : Int)) = false := decide_eq_false (by omega)

  have hw := Lib.hid (wrap_any a0 cap0 xs w hb hr (by omega))
  obtain ⟨o1, o2, o3⟩ := opens_frame (xs := xs) (ys := ys) (by omega)
  have hcut := fun m (h : m < xs.length + 8) => opens_cut (xs := xs) (m := m) (by omega) h
  have hfb := frame_bytes hb
  have hfl := frame_length xs
  have hku := bounds_u8 hk
  have hrx := fun w' (h : Below w.heap.size w w') => run_text (w := w') xs.length cap0 ((Reads.below hr h)) rfl
  unfold Framed at hw
  generalize frame xs = fr at *
  obtain ⟨L, hL⟩ : ∃ L, L = xs.length + 8 := ⟨_, rfl⟩
  rw [← hL] at hfl hw hcut
  have hLi : ((xs.length : Int) + 8) = L := by omega
  rw [hLi] at o2
  have hLb : 8 ≤ L ∧ L ≤ 10008 := by omega
  have hL0 : ((L : Int) == 0) = false := by rw [beq_eq_false_iff_ne]; omega
  have hm0 : 0 ≤ k % (L : Int) := Int.emod_nonneg _ (by omega)
  have hm1 : k % (L : Int) < L := Int.emod_lt_of_pos _ (by omega)
  have hzl : (fr ++ ys).length = L + ys.length := by rw [List.length_append, hfl]
  have hx0 := opn_any
  have hgo := fun A c w' (hr' : ReadsB w' w'.heap.size A (fr ++ ys)) (h1 : (fr ++ ys).length ≤ c) (h2 : c ≤ maxLen) => Lib.hid (opn_any A c (fr ++ ys) w' hr' (hfb.append hyb) h1 h2)
  rw [o1, o2, o3, hzl] at hgo
  have q3 : ((L : Int) != (xs.length : Int) + 8) = false := by rw [show ((xs.length : Int) + 8 : Int) = (L : Int) by omega]; simp
  have hL' := Lib.hid hL
  have hLi' := Lib.hid hLi
  clear o1 o2 o3 hx0 hL hLi
  go_enter Try.func6, Try.ntmps6
  go_wp2_with fail
  refine hw.out.mono ?_
  rintro _ w1 ⟨A1, c1, rfl, hO1, hb1⟩
  have hc1 := hO1.cap
  clear hw
  go_wp2_with (first
    | (at_builtin
       refine wpList_appB _ rfl (.tmp 36) (.tmp 37) rfl w1.heap.size (.slice (some ⟨w1.heap.size, 0, none⟩) 0 0) [] rfl (OwnB.lit rfl (Nat.le_refl _) (by unfold maxLen; simp)) w1.heap.size A1 L c1 fr rfl (hO1.reads.alloc (Nat.le_refl _) _) hfl.symm
         fr L rfl hfl (by omega) (by simp) ?_
       intro A2 c2 w2 hown2 _ hb2 _
       have hb2 : Below w1.heap.size w1 w2 := ((Below.refl _ _).alloc (Nat.le_refl _) _).trans hb2
       have hB2 := bnext hb1 hb2
       have hy2 := Reads.below hy hB2)
    | (at_builtin
       refine wpList_appBW _ rfl (.tmp 38) (.tmp 39) rfl w1.heap.size (.slice A2 L c2) fr rfl hown2 w.heap.size a1 ys.length cap1 ys rfl hy2 rfl
         (fr ++ ys) (L + ys.length) rfl hzl (by omega) (by omega) hb2.size ?_
       intro A3 c3 w3 hown3 hb3))
  have hc3 := hown3.cap
  rw [hzl] at hc3
  have hb13 := hb2.trans hb3
  have hO3 := OwnB.below hO1 hb13
  refine (hgo A3 c3 w3 hown3.reads hc3.1 hc3.2).out.mono ?_
  rintro _ w4 ⟨A4, c4, rfl, hO4, hb4⟩
  have hO5 := OwnB.below hO3 hb4
  have hB4 := bnext (bnext hb1 hb13) hb4
  have t1 := run_text (w := w4) xs.length c4 hO4.reads rfl
  have t2 := hrx w4 hB4
  obtain ⟨m, hm⟩ : ∃ m : Nat, (k % (L : Int)).toNat = m := ⟨_, rfl⟩
  have hmL : m < L := by omega
  have hmi : k % (L : Int) = (m : Int) := by omega
  have hmc : m ≤ c1 := by omega
  have hlm : (fr.take m).length = m := by rw [List.length_take]; omega
  have hrt : ReadsB w4 w4.heap.size A1 (fr.take m) := by
    have h := Reads.take hO5.reads (k := m) (by omega)
    unfold ReadsB
    rw [hlm]
    simpa [cellsOf, List.map_take] using h
  have hgc := opn_any A1 c1 (fr.take m) w4 hrt (hfb.take m) (by omega) (by have := hc1.2; exact this)
  have hkB : opK (fr.take m) = 0 ∧ opB (fr.take m) = [] := by
    have e := hcut m hmL
    exact ⟨by unfold opK; rw [e, if_neg (by omega)], by unfold opB; rw [e, if_neg (by omega)]⟩
  rw [hcut m hmL, hkB.1, hkB.2, hlm] at hgc
  replace hgc := Lib.hid hgc
  clear hgo hown3 hrx hcut hm0 hm1 hrt hkB hown2 hO3 hO1 hO5
  go_wp2_with fail
  refine hgc.out.mono ?_
  rintro _ w5 ⟨A5, c5, rfl, _, hb5⟩
  go_wp2_with fail
  go_ret
  exact ⟨rfl, bnext hB4 hb5⟩

set_option maxRecDepth 100000 in
set_option maxHeartbeats 4000000 in
theorem walk_l (a0 : Option Addr) (cap0 : Nat) (xs : List Int) (a1 : Option Addr) (cap1 : Nat) (ys : List Int) (k : Int) (w : World) (hr : ReadsB w w.heap.size a0 xs) (hb : Bytes xs) (hc : xs.length ≤ cap0) (hcm : cap0 ≤ maxLen) (hy : ReadsB w w.heap.size a1 ys) (hyb : Bytes ys) (hyc : ys.length ≤ cap1) (hys : cap1 ≤ 140737488351232) (hk : (Lit.int .u8 k).wf = true) (hn : xs.length ≤ 10000) (len0 : Nat) (hxl : xs.length = 10000) (hlen : 10000 < len0) (hlc : len0 ≤ cap0) :
    Calls Try.prog 6 #[.slice a0 len0 cap0, .slice a1 ys.length cap1, .int .u8 k] w fun e w' => e = .returned (.bool true) ∧ Below w.heap.size w w' := by
  have b1 : decide (10000 < (len0 : Int)) = true := decide_eq_true (by omega)
  have hc2 : 10000 ≤ cap0 := by omega

  have hw := Lib.hid (wrap_any a0 cap0 xs w hb hr (by omega))
  obtain ⟨o1, o2, o3⟩ := opens_frame (xs := xs) (ys := ys) (by omega)
  have hcut := fun m (h : m < xs.length + 8) => opens_cut (xs := xs) (m := m) (by omega) h
  have hfb := frame_bytes hb
  have hfl := frame_length xs
  have hku := bounds_u8 hk
  have hrx := fun w' (h : Below w.heap.size w w') => run_text (w := w') xs.length cap0 ((Reads.below hr h)) rfl
  unfold Framed at hw
  generalize frame xs = fr at *
  obtain ⟨L, hL⟩ : ∃ L, L = xs.length + 8 := ⟨_, rfl⟩
  rw [← hL] at hfl hw hcut
  have hLi : ((xs.length : Int) + 8) = L := by omega
  rw [hLi] at o2
  rw [hxl] at hw hrx
  have hLb : 8 ≤ L ∧ L ≤ 10008 := by omega
  have hL0 : ((L : Int) == 0) = false := by rw [beq_eq_false_iff_ne]; omega
  have hm0 : 0 ≤ k % (L : Int) := Int.emod_nonneg _ (by omega)
  have hm1 : k % (L : Int) < L := Int.emod_lt_of_pos _ (by omega)
  have hzl : (fr ++ ys).length = L + ys.length := by rw [List.length_append, hfl]
  have hx0 := opn_any
  have hgo := fun A c w' (hr' : ReadsB w' w'.heap.size A (fr ++ ys)) (h1 : (fr ++ ys).length ≤ c) (h2 : c ≤ maxLen) => Lib.hid (opn_any A c (fr ++ ys) w' hr' (hfb.append hyb) h1 h2)
  rw [o1, o2, o3, hzl] at hgo
  have q3 : ((L : Int) != 10008) = false := by rw [show (10008 : Int) = (L : Int) by omega]; simp
  have hL' := Lib.hid hL
  have hLi' := Lib.hid hLi
  clear o1 o2 o3 hx0 hL hLi
  go_enter Try.func6, Try.ntmps6
  go_wp2_with fail
  refine hw.out.mono ?_
  rintro _ w1 ⟨A1, c1, rfl, hO1, hb1⟩
  have hc1 := hO1.cap
  clear hw
  go_wp2_with (first
    | (at_builtin
       refine wpList_appB _ rfl (.tmp 36) (.tmp 37) rfl w1.heap.size (.slice (some ⟨w1.heap.size, 0, none⟩) 0 0) [] rfl (OwnB.lit rfl (Nat.le_refl _) (by unfold maxLen; simp)) w1.heap.size A1 L c1 fr rfl (hO1.reads.alloc (Nat.le_refl _) _) hfl.symm
         fr L rfl hfl (by omega) (by simp) ?_
       intro A2 c2 w2 hown2 _ hb2 _
       have hb2 : Below w1.heap.size w1 w2 := ((Below.refl _ _).alloc (Nat.le_refl _) _).trans hb2
       have hB2 := bnext hb1 hb2
       have hy2 := Reads.below hy hB2)
    | (at_builtin
       refine wpList_appBW _ rfl (.tmp 38) (.tmp 39) rfl w1.heap.size (.slice A2 L c2) fr rfl hown2 w.heap.size a1 ys.length cap1 ys rfl hy2 rfl
         (fr ++ ys) (L + ys.length) rfl hzl (by omega) (by omega) hb2.size ?_
       intro A3 c3 w3 hown3 hb3))
  have hc3 := hown3.cap
  rw [hzl] at hc3
  have hb13 := hb2.trans hb3
  have hO3 := OwnB.below hO1 hb13
  refine (hgo A3 c3 w3 hown3.reads hc3.1 hc3.2).out.mono ?_
  rintro _ w4 ⟨A4, c4, rfl, hO4, hb4⟩
  have hO5 := OwnB.below hO3 hb4
  have hB4 := bnext (bnext hb1 hb13) hb4
  have t1 := run_text (w := w4) 10000 c4 hO4.reads hxl.symm
  have t2 := hrx w4 hB4
  obtain ⟨m, hm⟩ : ∃ m : Nat, (k % (L : Int)).toNat = m := ⟨_, rfl⟩
  have hmL : m < L := by omega
  have hmi : k % (L : Int) = (m : Int) := by omega
  have hmc : m ≤ c1 := by omega
  have hlm : (fr.take m).length = m := by rw [List.length_take]; omega
  have hrt : ReadsB w4 w4.heap.size A1 (fr.take m) := by
    have h := Reads.take hO5.reads (k := m) (by omega)
    unfold ReadsB
    rw [hlm]
    simpa [cellsOf, List.map_take] using h
  have hgc := opn_any A1 c1 (fr.take m) w4 hrt (hfb.take m) (by omega) (by have := hc1.2; exact this)
  have hkB : opK (fr.take m) = 0 ∧ opB (fr.take m) = [] := by
    have e := hcut m hmL
    exact ⟨by unfold opK; rw [e, if_neg (by omega)], by unfold opB; rw [e, if_neg (by omega)]⟩
  rw [hcut m hmL, hkB.1, hkB.2, hlm] at hgc
  replace hgc := Lib.hid hgc
  clear hgo hown3 hrx hcut hm0 hm1 hrt hkB hown2 hO3 hO1 hO5
  go_wp2_with fail
  refine hgc.out.mono ?_
  rintro _ w5 ⟨A5, c5, rfl, _, hb5⟩
  go_wp2_with fail
  go_ret
  exact ⟨rfl, bnext hB4 hb5⟩

theorem walk (a0 : Option Addr) (len0 cap0 : Nat) (z0 : List Int) (a1 : Option Addr) (len1 cap1 : Nat) (z1 : List Int) (k : Int) (w : World) (h0 : IsRow .u8 w a0 len0 cap0 z0) (hcap0 : cap0 * 1 ≤ 140737488351232) (h1 : IsRow .u8 w a1 len1 cap1 z1) (hcap1 : cap1 * 1 ≤ 140737488351232) (hk : (Lit.int .u8 k).wf = true) :
    Calls Try.prog 6 #[.slice a0 len0 cap0, .slice a1 len1 cap1, .int .u8 k] w fun e w' => e = .returned (.bool true) ∧ Below w.heap.size w w' := by
  obtain ⟨xs, rfl, hb, hr, hl, hm⟩ := h0.reads
  obtain ⟨ys, rfl, hyb, hy, hyc, _⟩ := h1.reads
  by_cases hn : xs.length ≤ 10000
  · exact walk_s a0 cap0 xs a1 cap1 ys k w hr hb hl hm hy hyb hyc (by omega) hk hn
  · have hxl : (xs.take 10000).length = 10000 := by rw [List.length_take]; omega
    have hrt : ReadsB w w.heap.size a0 (xs.take 10000) := by
      have h := Reads.take hr (k := 10000) (by omega)
      unfold ReadsB
      rw [hxl]
      simpa [cellsOf, List.map_take] using h
    exact walk_l a0 cap0 (xs.take 10000) a1 cap1 ys k w hrt (hb.take _) (by omega) hm hy hyb hyc (by omega) hk (by omega) xs.length hxl (by omega) hl

set_option maxRecDepth 100000 in
theorem lifted (os : Os) (started : os.Started) (H : Type) (enc : TypeId × Value → H) :
    ReturnsInHanded {} Try.checked os 6 .any (Rows.sumBackSpec.pre6 enc Try.prog Try.f6 Rows.sumBackRow.domain false) (Rows.sumBackSpec.post enc Try.prog Try.f6 false true false false) := by
  refine returnsInHanded_of_change_sized (C := Try.checked) own started (by kernel_rfl) Try.func6
    (ChangeSpec.witness6 (enc := enc) (C := Try.checked) false ⟨#[], #[.slice none 0 0, .slice none 0 0, .int .u8 0], []⟩ 8 (by kernel_rfl) (by kernel_rfl) (by kernel_rfl) (by kernel_rfl)) ?_
  intro W base args ds gs before hval0 hW hcnd hsz0 _
  have hsz : (DataW.weightsEach Try.prog (Try.f6.params.toList ++ Rows.sumBackSpec.plain.varTypes Try.prog) (ds ++ gs)).all (· ≤ reachBytes) = true := hsz0
  clear hsz0
  have hval : ∀ (j : Nat) t v, Try.f6.params[j]? = some t → args[j]? = some v → Value.okWide Try.prog W .any base t v := hval0
  have hW' := hW
  obtain ⟨p, q, hA0, hV, rfl, hfz, hnd⟩ := hW
  have hA : DataW.TrodAll enc Try.prog W 0 (fun _ => true) true Try.f6.params.toList args.toList ds p := hA0
  rw [Try.params6] at hA hval hsz
  obtain ⟨v0, vs0, d0, ds0, p0, q0, hargs, rfl, rfl, h0, r0⟩ := trodAll_cons hA
  obtain ⟨v1, vs1, d1, ds1, p1, q1, rfl, rfl, rfl, h1, r1⟩ := trodAll_cons r0
  obtain ⟨v2, vs2, d2, ds2, p2, q2, rfl, rfl, rfl, h2, r2⟩ := trodAll_cons r1
  obtain ⟨rfl, rfl, rfl⟩ := trodAll_nil r2
  obtain rfl : args = #[v0, v1, v2] := by cases args; simp_all
  obtain ⟨rfl, rfl⟩ := trodVars_none hV
  obtain ⟨a0, len0, cap0, rfl⟩ := okWide_slice Try.underlying31 (hval 0 31 v0 rfl rfl)
  have k0 := h0
  have lt0 : ∀ x ∈ p0, x.block < W.heap.size := by obtain ⟨m, hm⟩ := k0; exact DataW.trod_lt m _ _ _ hm
  obtain ⟨z0, w0, hcap0⟩ : ∃ zs, IsRow .u8 W a0 len0 cap0 zs ∧ cap0 * 1 ≤ 140737488351232 := by
    obtain ⟨fuel, hf⟩ := h0
    rcases open_ints Try.underlying31 Try.underlying5 (by kernel_rfl) hf with ⟨hcs, _⟩ | ⟨x, l, c, zs, hcs, _, hl, hm, hz, hx, hcell, hwz⟩
    · simp [Value.cells] at hcs
      obtain ⟨rfl, rfl, rfl⟩ := hcs
      exact ⟨[], .inl ⟨rfl, rfl, rfl, rfl⟩, by omega⟩
    · simp [Value.cells] at hcs
      obtain ⟨rfl, rfl, rfl⟩ := hcs
      simp only [Prod.mk.injEq] at hx
      obtain ⟨hx1, _⟩ := hx
      subst hx1
      have hcap := sized_slice hsz (j := 0) (t := 31) (e := 5) rfl rfl Try.underlying31
      rw [show Try.prog.bytesOf 5 = 1 from by kernel_rfl] at hcap
      simp only [lits, List.length_map, List.length_take, List.length_drop, reachBytes] at hcap
      have hz2 : zs.length = cap0 := by simpa using hz
      replace hcap : cap0 * 1 ≤ 140737488351232 := by omega
      exact ⟨zs, .inr ⟨_, rfl, hl, hm, by simpa using hz, hcell, hwz⟩, hcap⟩
  obtain ⟨a1, len1, cap1, rfl⟩ := okWide_slice Try.underlying31 (hval 1 31 v1 rfl rfl)
  have k1 := h1
  have lt1 : ∀ x ∈ p1, x.block < W.heap.size := by obtain ⟨m, hm⟩ := k1; exact DataW.trod_lt m _ _ _ hm
  obtain ⟨z1, w1, hcap1⟩ : ∃ zs, IsRow .u8 W a1 len1 cap1 zs ∧ cap1 * 1 ≤ 140737488351232 := by
    obtain ⟨fuel, hf⟩ := h1
    rcases open_ints Try.underlying31 Try.underlying5 (by kernel_rfl) hf with ⟨hcs, _⟩ | ⟨x, l, c, zs, hcs, _, hl, hm, hz, hx, hcell, hwz⟩
    · simp [Value.cells] at hcs
      obtain ⟨rfl, rfl, rfl⟩ := hcs
      exact ⟨[], .inl ⟨rfl, rfl, rfl, rfl⟩, by omega⟩
    · simp [Value.cells] at hcs
      obtain ⟨rfl, rfl, rfl⟩ := hcs
      simp only [Prod.mk.injEq] at hx
      obtain ⟨hx1, _⟩ := hx
      subst hx1
      have hcap := sized_slice hsz (j := 1) (t := 31) (e := 5) rfl rfl Try.underlying31
      rw [show Try.prog.bytesOf 5 = 1 from by kernel_rfl] at hcap
      simp only [lits, List.length_map, List.length_take, List.length_drop, reachBytes] at hcap
      have hz2 : zs.length = cap1 := by simpa using hz
      replace hcap : cap1 * 1 ≤ 140737488351232 := by omega
      exact ⟨zs, .inr ⟨_, rfl, hl, hm, by simpa using hz, hcell, hwz⟩, hcap⟩
  obtain ⟨x2, rfl, rfl, rfl, wx2⟩ := open_int Try.underlying5 (hval 2 5 v2 rfl rfl) h2
  clear hA0 hval0
  refine (walk a0 len0 cap0 z0 a1 len1 cap1 z1 x2 W w0 hcap0 w1 hcap1 wx2).mono fun e W' ⟨he, bel⟩ => ?_
  subst he
  exact ⟨_, rfl, _, _, _, [], _, [], hW', trodAll_mk1 (shut_bool Try.underlying4 _), (trodAll_cons_mk (Below.trod laidOut (by kernel_rfl) (of_decide_eq_true (by kernel_rfl)) k0 bel lt0) (trodAll_cons_mk (Below.trod laidOut (by kernel_rfl) (of_decide_eq_true (by kernel_rfl)) k1 bel lt1) (trodAll_cons_mk (shut_int Try.underlying5 wx2) trodAll_mk0))), rfl, bel.frame _, fun h => by cases h⟩

theorem closed : joinedFacts Try.prog 6 Try.f6 Rows.sumBackSpec Rows.sumBackRow = true := by
  have h1 := mayEnter_fact
  have h2 : (Rows.sumBackRow.lifted == Try.prog.liftsFinal) = true := by rw [lifts_fact]; rfl
  have h3 : (Try.prog.make == some Rows.sumBackRow.make) = true := by rw [make_fact]; rfl
  have hfin : ∀ b : Bool, b = true → b = true := fun _ h => h
  unfold joinedFacts
  rw [h1, h2, h3]
  clear h1 h2 h3
  refine hfin _ ?_
  kernel_rfl

theorem over : Rows.sumBackRow.holds Try.pinned (OpenSpec.ofChange Rows.sumBackSpec) :=
  OpenClaim.holds_of_wide 6 Try.f6 rfl rfl rfl rfl rfl rfl rfl ⟨rfl, rfl, rfl, rfl, rfl⟩ rfl rfl rfl rfl rfl (by kernel_rfl) Try.func6 closed
    (of_decide_eq_true (by kernel_rfl)) (by unfold Func.isWrapper; first | (rw [if_pos (by decide +kernel)]; kernel_rfl) | (rw [if_neg (by decide +kernel)]; exact ⟨rfl, rfl⟩))
    (fun os started H enc _ => lifted os started H enc)

/-- The statement. -/
theorem proved : Rows.SumBackSaid := over
#print axioms proved

end Go.Proofs.Ytahmhkabipcfiaa.SumBackP
