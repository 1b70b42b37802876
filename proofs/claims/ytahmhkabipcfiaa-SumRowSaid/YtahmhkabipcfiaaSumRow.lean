/- SumRow: frames one behind the other are opened one by one. -/
import Derived.Test.YtahmhkabipcfiaaOpenR
import Derived.Test.YtahmhkabipcfiaaHead
import Derived.Test.YtahmhkabipcfiaaOpenG
import Derived.Deep.RegionHeld3
import Derived.Lib.SmallJoins
import Derived.ProofKit
import Derived.OpenShut
import Derived.ShutString
import Derived.ChangeOld
import Derived.Laws.StructEq
namespace Go.Proofs.Ytahmhkabipcfiaa.SumRowP
open Go.ChangeShapes Go.WideShapes Go.ChangeAt Go.RowKit
open Go.ChangeMaps (open_string shut_string)
set_option linter.unusedVariables false

theorem own : ownKnob Try.prog.godebug = none := by kernel_rfl
theorem laidOut : laidOutB Try.prog = true := by kernel_rfl
theorem bnext {a b c : World} (h : Below a.heap.size a b) (k : Below b.heap.size b c) : Below a.heap.size a c := h.trans (k.mono h.size)

set_option maxRecDepth 100000 in
set_option maxHeartbeats 4000000 in
theorem walk (a0 : Option Addr) (len0 cap0 : Nat) (ls : List (List Int)) (w : World) (h : ls.length = len0 ∧ RowsB w w.heap.size a0 ls) :
    Calls Try.prog 8 #[.slice a0 len0 cap0] w fun e w' => e = .returned (.bool true) ∧ Below w.heap.size w w' := by
  obtain ⟨rfl, hl⟩ := h
  obtain ⟨n, hn⟩ : ∃ n : Nat, n = min ls.length 50 := ⟨_, rfl⟩
  have hmin : (if (50 : Int) < ls.length then (50 : Int) else ls.length) = (n : Int) := by split <;> omega
  have hnl : n ≤ ls.length := by omega
  have hn50 : n ≤ 50 := by omega
  have gaw := fun w => Lib.hid (awake_any w)
  clear hn
  go_enter Try.func8, Try.ntmps8
  go_wp2_with fail
  go_loopw [5, 3] (fun i s wr => ∃ k : Nat, k ≤ n ∧ i = .int .i64 k ∧ ∃ A c, s = .slice A (frames (ls.take k)).length c ∧ OwnB wr w.heap.size s (frames (ls.take k)) ∧ Below w.heap.size w wr ∧ ∀ x ∈ ls.take k, x.length ≤ 1000 ∧ Bytes x) (fun i _ _ => n - (intOf i).toNat)
  case atStart => exact ⟨0, by omega, rfl, none, 0, rfl, OwnB.nil _ _, Below.refl _ _, fun x hx => by simp at hx⟩
  case round =>
    obtain ⟨k, hk, rfl, A, c, rfl, hO, hB, hsh⟩ := hrel
    by_cases hlt : k < n
    · obtain ⟨xs, hxs⟩ : ∃ xs, ls[k]? = some xs := ⟨_, List.getElem?_eq_getElem (by omega)⟩
      obtain ⟨ad, rfl, had, Ak, ck, hcell, hrk, hbk, hck, hmk⟩ := hl k xs hxs
      have hcw : wr.cell? (ad.add k) = some (.slice Ak xs.length ck) := (hB.cell (by rw [block_of_add]; exact had)).trans hcell
      have hlk : k < ls.length := by omega
      have hfl := frames_length fun x hx => (hsh x hx).1
      have htl : (ls.take k).length = k := by rw [List.length_take]; omega
      rw [htl] at hfl
      have hft := frames_take hxs
      have htake : ls.take (k + 1) = ls.take k ++ [xs] := by
        obtain ⟨h1, h2⟩ := List.getElem?_eq_some_iff.1 hxs
        rw [List.take_succ_eq_append_getElem h1, h2]
      by_cases hlong : 1000 < xs.length
      · have b1 : decide (1000 < (xs.length : Int)) = true := decide_eq_true (by omega)
        go_wp2_with fail
        refine (gaw _).out.mono ?_
        rintro _ w2 ⟨rfl, hb2⟩
        go_wp2_with fail
        go_ret
        exact ⟨rfl, bnext hB hb2⟩
      · have b1 : decide (1000 < (xs.length : Int)) = false := decide_eq_false (by omega)
        have hw := Lib.hid (wrap_any Ak ck xs wr hbk ((Reads.below hrk hB).more hB.size) (by omega))
        have hfx := frame_length xs
        have hz : (frames (ls.take (k + 1))).length = (frames (ls.take k)).length + (xs.length + 8) := by rw [hft, List.length_append, hfx]
        unfold Framed at hw
        replace hft := Lib.hid hft
        replace htake := Lib.hid htake
        generalize frame xs = fr at *
        go_wp2_with fail
        refine hw.out.mono ?_
        rintro _ w2 ⟨A2, c2, rfl, hO2, hb2⟩
        have hB2 := bnext hB hb2
        have hOw := OwnB.below hO hb2
        go_wp2_with (first
          | (at_builtin
             refine wpList_appB _ rfl (.tmp 35) (.tmp 36) rfl w.heap.size (.slice A (frames (ls.take k)).length c) (frames (ls.take k)) rfl hOw w2.heap.size A2 (xs.length + 8) c2 fr rfl hO2.reads hfx.symm
               (frames (ls.take (k + 1))) (frames (ls.take (k + 1))).length hft.out.symm rfl (by omega) hB2.size ?_
             intro A3 c3 w3 hown3 _ hb3 _))
        refine ⟨⟨k + 1, by omega, by go_num, A3, c3, by rw [hz], by rw [hz] at hown3; exact hown3, hB2.trans hb3, fun x hx => ?_⟩, by simp [intOf]; omega⟩
        rw [htake.out] at hx
        rcases List.mem_append.1 hx with h | h
        · exact hsh x h
        · rw [List.mem_singleton] at h; subst h; exact ⟨by omega, hbk⟩
    · obtain rfl : k = n := by omega
      have b0 : decide ((k : Int) < k) = false := decide_eq_false (by omega)
      have hfl0 := frames_length fun x hx => (hsh x hx).1
      have htl0 : (ls.take k).length = k := by rw [List.length_take]; omega
      rw [htl0] at hfl0
      have hcap0 := hO.cap
      have hrd0 := hO.reads
      go_wp2_with fail
      go_loopw [8, 3] (fun i s v => ∃ j : Nat, j ≤ k ∧ i = .int .i64 j ∧ ∃ A c, s = .slice A (frames ((ls.take k).drop j)).length c ∧ (frames ((ls.take k).drop j)).length ≤ c ∧ c ≤ maxLen ∧ ReadsB v v.heap.size A (frames ((ls.take k).drop j)) ∧ Below w.heap.size w v) (fun i _ _ => k - (intOf i).toNat)
      case atStart => exact ⟨0, by omega, rfl, A, c, rfl, hcap0.1, hcap0.2, hrd0, hB⟩
      case round =>
        clear hO hB hcap0 hrd0
        obtain ⟨j, hj, rfl, A, c, rfl, hAc, hcm, hR, hB⟩ := hrel
        by_cases hlt : j < k
        · obtain ⟨xs, hxs⟩ : ∃ xs, ls[j]? = some xs := ⟨_, List.getElem?_eq_getElem (by omega)⟩
          have hxt : (ls.take k)[j]? = some xs := by rw [List.getElem?_take_of_lt hlt]; exact hxs
          have hxin := hsh xs (List.mem_of_getElem? hxt)
          obtain ⟨ad, rfl, had, Aj, cj, hcell, hrj, hbj, hcj, hmj⟩ := hl j xs hxs
          have hlj : j < ls.length := by omega
          have hfd := frames_drop hxt
          have hby : Bytes (frames ((ls.take k).drop (j + 1))) := frames_bytes fun x hx => (hsh x (List.mem_of_mem_drop hx)).2
          have hfx := frame_length xs
          have hfb := frame_bytes hbj
          obtain ⟨o1, o2, o3⟩ := opens_frame (xs := xs) (ys := frames ((ls.take k).drop (j + 1))) (by omega)
          have hzl : (frames ((ls.take k).drop j)).length = (xs.length + 8) + (frames ((ls.take k).drop (j + 1))).length := by rw [hfd, List.length_append, hfx]
          have hgo := opn_any A c _ _ hR (by rw [hfd]; exact hfb.append hby) hAc hcm
          rw [hfd] at hgo
          rw [o1, o2, o3, ← hfd] at hgo
          replace hgo := Lib.hid hgo
          obtain ⟨K, hK⟩ : ∃ K : Nat, K = xs.length + 8 := ⟨_, rfl⟩
          rw [← hK] at hzl hfx
          have hKi : ((xs.length : Int) + 8) = K := by omega
          rw [hKi] at hgo
          have hK' := Lib.hid hK
          have hK8 : 8 ≤ K := by omega
          have hd1 : decide ((K : Int) < 8) = false := decide_eq_false (by omega)
          have hd2 : decide (((frames ((ls.take k).drop j)).length : Int) < K) = false := decide_eq_false (by omega)
          replace hfd := Lib.hid hfd
          obtain ⟨T, hT⟩ : ∃ T, frames ((ls.take k).drop (j + 1)) = T := ⟨_, rfl⟩
          rw [hT] at hzl hby hfd
          have hT' := Lib.hid hT
          generalize frames ((ls.take k).drop j) = Z at *
          have hKZ : K ≤ Z.length := by omega
          replace hzl := Lib.hid hzl
          clear hK hKi o1 o2 o3 hT
          go_wp2_with fail
          refine hgo.out.mono ?_
          rintro _ w2 ⟨A2, c2, rfl, hO2, hb2⟩
          have hB2 := bnext hB hb2
          have hcw : w2.cell? (ad.add j) = some (.slice Aj xs.length cj) := (hB2.cell (by rw [block_of_add]; exact had)).trans hcell
          have t1 := fun m => run_text (w := w2.drewN m) xs.length c2 (Reads.drewN hO2.reads m) rfl
          have t2 := fun m => run_text (w := w2.drewN m) xs.length cj (Reads.drewN (Reads.below hrj hB2) m) rfl
          go_wp2_with fail
          go_quiet (fail)
          obtain ⟨m1, rfl⟩ : ∃ m, m = nq := ⟨_, rfl⟩
          go_wp2_with fail
          have hTl : Z.length - K = T.length := by have := hzl.out; omega
          have hRc := Reads.cut (Reads.more (Reads.below hR hb2) hb2.size) (k := K) (cap := c) hKZ hAc
          have hRT : ReadsB (w2.drewN m1) (w2.drewN m1).heap.size (if c = K then A else Option.map (fun x => x.add K) A) T := by
            have h := Reads.drewN hRc m1
            rw [hTl] at h
            unfold ReadsB
            have e : (cellsOf .u8 Z).drop (K * 1) = cellsOf .u8 T := by
              rw [hfd.out, Nat.mul_one]
              unfold cellsOf
              rw [List.map_append, List.drop_left' (by rw [List.length_map]; exact hfx)]
            rw [e] at h
            simp only [Nat.mul_one] at h
            exact h
          exact ⟨⟨j + 1, by omega, by go_num, (if c = K then A else Option.map (fun x => x.add K) A), c - K, by rw [hTl, hT'.out], by rw [hT'.out]; omega, by omega, by rw [hT'.out]; exact hRT, hB2.trans (Go.Joins.below_draws _ _ _)⟩, by simp [intOf]; omega⟩
        · obtain rfl : j = k := by omega
          have b0 : decide ((j : Int) < j) = false := decide_eq_false (by omega)
          have hnil : frames ((ls.take j).drop j) = [] := by rw [List.drop_of_length_le (by omega)]; rfl
          rw [hnil]
          go_wp2_with fail
          refine (gaw _).out.mono ?_
          rintro _ w2 ⟨rfl, hb2⟩
          go_wp2_with fail
          go_ret
          exact ⟨rfl, bnext hB hb2⟩

set_option maxRecDepth 100000 in
theorem lifted (os : Os) (started : os.Started) (H : Type) (enc : TypeId × Value → H) :
    ReturnsInHanded {} Try.checked os 8 .any (Rows.sumRowSpec.pre6 enc Try.prog Try.f8 Rows.sumRowRow.domain false) (Rows.sumRowSpec.post enc Try.prog Try.f8 false true false false) := by
  refine returnsInHanded_of_change (C := Try.checked) own started (by kernel_rfl) Try.func8
    (ChangeSpec.witness6 (enc := enc) (C := Try.checked) false ⟨#[], #[.slice none 0 0], []⟩ 8 (by kernel_rfl) (by kernel_rfl) (by kernel_rfl) (by kernel_rfl)) ?_
  intro W base args ds gs before hval0 hW hcnd _
  have hval : ∀ (j : Nat) t v, Try.f8.params[j]? = some t → args[j]? = some v → Value.okWide Try.prog W .any base t v := hval0
  have hW' := hW
  obtain ⟨p, q, hA0, hV, rfl, hfz, hnd⟩ := hW
  have hA : DataW.TrodAll enc Try.prog W 0 (fun _ => true) true Try.f8.params.toList args.toList ds p := hA0
  rw [Try.params8] at hA hval
  obtain ⟨v0, vs0, d0, ds0, p0, q0, hargs, rfl, rfl, h0, r0⟩ := trodAll_cons hA
  obtain ⟨rfl, rfl, rfl⟩ := trodAll_nil r0
  obtain rfl : args = #[v0] := by cases args; simp_all
  obtain ⟨rfl, rfl⟩ := trodVars_none hV
  obtain ⟨a0, len0, cap0, rfl⟩ := okWide_slice Try.underlying64 (hval 0 64 v0 rfl rfl)
  have k0 := h0
  have lt0 : ∀ x ∈ p0, x.block < W.heap.size := by obtain ⟨m, hm⟩ := k0; exact DataW.trod_lt m _ _ _ hm
  obtain ⟨fuel0, hf0⟩ := h0
  have hg0 : DataW.trod enc Try.prog W 0 (fun _ => true) true fuel0 64 [.slice a0 len0 cap0] = some (d0, p0) := by simpa [Value.cells] using hf0
  obtain ⟨os0, w0⟩ := open_rows hg0
  clear hA0 hval0
  refine (walk a0 len0 cap0 os0 W w0).mono fun e W' ⟨he, bel⟩ => ?_
  subst he
  exact ⟨_, rfl, _, _, _, [], _, [], hW', trodAll_mk1 (shut_bool Try.underlying4 _), (trodAll_cons_mk (Below.trod laidOut (by kernel_rfl) (of_decide_eq_true (by kernel_rfl)) k0 bel lt0) trodAll_mk0), rfl, bel.frame _, fun h => by cases h⟩

theorem closed : joinedFacts Try.prog 8 Try.f8 Rows.sumRowSpec Rows.sumRowRow = true := by
  have h1 := mayEnter_fact
  have h2 : (Rows.sumRowRow.lifted == Try.prog.liftsFinal) = true := by rw [lifts_fact]; rfl
  have h3 : (Try.prog.make == some Rows.sumRowRow.make) = true := by rw [make_fact]; rfl
  have hfin : ∀ b : Bool, b = true → b = true := fun _ h => h
  unfold joinedFacts
  rw [h1, h2, h3]
  clear h1 h2 h3
  refine hfin _ ?_
  kernel_rfl

theorem over : Rows.sumRowRow.holds Try.pinned (OpenSpec.ofChange Rows.sumRowSpec) :=
  OpenClaim.holds_of_wide 8 Try.f8 rfl rfl rfl rfl rfl rfl rfl ⟨rfl, rfl, rfl, rfl, rfl⟩ rfl rfl rfl rfl rfl (by kernel_rfl) Try.func8 closed
    (of_decide_eq_true (by kernel_rfl)) (by unfold Func.isWrapper; first | (rw [if_pos (by decide +kernel)]; kernel_rfl) | (rw [if_neg (by decide +kernel)]; exact ⟨rfl, rfl⟩))
    (fun os started H enc _ => lifted os started H enc)

/-- The statement. -/
theorem proved : Rows.SumRowSaid := over
#print axioms proved

end Go.Proofs.Ytahmhkabipcfiaa.SumRowP
