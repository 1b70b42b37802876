/- SumTurned: a frame with one bit turned, behind its first four bytes, does not open. -/
import Derived.Test.YtahmhkabipcfiaaFlip
import Derived.Test.YtahmhkabipcfiaaHead
import Derived.Test.YtahmhkabipcfiaaOpenG
import Derived.Deep.RegionHeld3
import Derived.Lib.SmallJoins
import Derived.ProofKit
import Derived.OpenShut
import Derived.ShutString
import Derived.ChangeOld
import Derived.Laws.StructEq
namespace Go.Proofs.Ytahmhkabipcfiaa.SumTurnedP
open Go.ChangeShapes Go.WideShapes Go.ChangeAt Go.RowKit
open Go.ChangeMaps (open_string shut_string)
set_option linter.unusedVariables false

theorem own : ownKnob Try.prog.godebug = none := by kernel_rfl
theorem laidOut : laidOutB Try.prog = true := by kernel_rfl
theorem bnext {a b c : World} (h : Below a.heap.size a b) (k : Below b.heap.size b c) : Below a.heap.size a c := h.trans (k.mono h.size)
theorem xor_flip {y m : Int} (hy : 0 ≤ y ∧ y < 256) (h0 : 0 ≤ m) (h1 : m < 8) : (0 ≤ bits BinOp.xor IntKind.u8 y (2 ^ m.toNat % 256) ∧ bits BinOp.xor IntKind.u8 y (2 ^ m.toNat % 256) < 256) ∧ bits BinOp.xor IntKind.u8 y (2 ^ m.toNat % 256) ≠ y := by
  obtain ⟨c, hc⟩ : ∃ c : Nat, (2 : Int) ^ m.toNat % 256 = c ∧ 0 < c ∧ c < 256 := by
    have : m = 0 ∨ m = 1 ∨ m = 2 ∨ m = 3 ∨ m = 4 ∨ m = 5 ∨ m = 6 ∨ m = 7 := by omega
    rcases this with rfl | rfl | rfl | rfl | rfl | rfl | rfl | rfl
    · exact ⟨1, rfl, by omega, by omega⟩
    · exact ⟨2, rfl, by omega, by omega⟩
    · exact ⟨4, rfl, by omega, by omega⟩
    · exact ⟨8, rfl, by omega, by omega⟩
    · exact ⟨16, rfl, by omega, by omega⟩
    · exact ⟨32, rfl, by omega, by omega⟩
    · exact ⟨64, rfl, by omega, by omega⟩
    · exact ⟨128, rfl, by omega, by omega⟩
  obtain ⟨hc, hc0, hc1⟩ := hc
  rw [hc, u8_xor y c hy.1 hy.2 (by omega) (by omega), Int.toNat_natCast]
  have hlt : y.toNat ^^^ c < 2 ^ 8 := Nat.xor_lt_two_pow (by omega) (by omega)
  refine ⟨by omega, fun h => ?_⟩
  have h2 : y.toNat ^^^ c = y.toNat := by omega
  have h3 := congrArg (y.toNat ^^^ ·) h2
  simp only [← Nat.xor_assoc, Nat.xor_self, Nat.zero_xor] at h3
  omega

set_option maxRecDepth 100000 in
set_option maxHeartbeats 4000000 in
theorem walk_s (a0 : Option Addr) (cap0 : Nat) (xs : List Int) (k : Int) (w : World) (hr : ReadsB w w.heap.size a0 xs) (hb : Bytes xs) (hc : xs.length ≤ cap0) (hk : (Lit.int .u16 k).wf = true) (hn : xs.length ≤ 2000) :
    Calls Try.prog 7 #[.slice a0 xs.length cap0, .int .u16 k] w fun e w' => e = .returned (.bool true) ∧ Below w.heap.size w w' := by
  have b1 : decide (2000 < (xs.length : Int)) = false := decide_eq_false (by omega)

  have hw := Lib.hid (wrap_any a0 cap0 xs w hb hr (by omega))
  have hop := fun p v h1 h2 h3 h4 => opens_flip (xs := xs) (p := p) (v := v) (by omega) hb h1 h2 h3 h4
  have hfb := frame_bytes hb
  have hfl := frame_length xs
  have hku := bounds_u16 hk
  unfold Framed at hw
  generalize frame xs = fr at *
  obtain ⟨L, hL⟩ : ∃ L, L = xs.length + 8 := ⟨_, rfl⟩
  rw [← hL] at hfl hw hop
  have q0 : wrap64 ((L : Int) - 4) = L - 4 := IntWalk.wrap64_in _ (by omega)
  have q1 : wrap64 (8 * ((L : Int) - 4)) = 8 * (L - 4) := IntWalk.wrap64_in _ (by omega)
  have hM0 : ¬ (8 * ((L : Int) - 4)) = 0 := by omega
  have hM1 : (8 * ((L : Int) - 4) == 0) = false := by simpa using hM0
  have b2 : decide ((L : Int) < 8) = false := decide_eq_false (by omega)
  have hj0 : 0 ≤ k % (8 * ((L : Int) - 4)) := Int.emod_nonneg _ hM0
  have hj1 : k % (8 * ((L : Int) - 4)) < 8 * ((L : Int) - 4) := Int.emod_lt_of_pos _ (by omega)
  have hL' := Lib.hid hL
  have hLb : 8 ≤ L ∧ L ≤ 2008 := by omega
  clear hL hn hc
  go_enter Try.func7, Try.ntmps7
  go_wp2_with fail
  refine hw.out.mono ?_
  rintro _ w1 ⟨A1, c1, rfl, hO1, hb1⟩
  have hbs := hb1.size
  obtain ⟨g, cap, hform, hg0, hg1⟩ := hO1.form (by omega)
  rw [hfl] at hform
  injection hform with hf1 hf2 hf3
  subst hf1 hf3
  go_wp2_with fail
  generalize k % (8 * ((L : Int) - 4)) = j at *
  clear q0 q1
  obtain ⟨d, hd⟩ : ∃ d, j.tdiv 8 = d := ⟨_, rfl⟩
  obtain ⟨m, hm⟩ : ∃ m, j.tmod 8 = m := ⟨_, rfl⟩
  have hd' : d = j / 8 := by rw [← hd]; exact Int.tdiv_eq_ediv_of_nonneg hj0
  have hm' : m = j % 8 := by rw [← hm]; exact Int.tmod_eq_emod_of_nonneg hj0
  have hd0 : 0 ≤ d := by omega
  have hd1 : d < (L : Int) - 4 := by omega
  have hm0 : 0 ≤ m := by omega
  have hm1 : m < 8 := by omega
  clear hd' hm'
  obtain ⟨p, hp⟩ : ∃ p : Nat, (4 + d).toNat = p := ⟨_, rfl⟩
  have hp4 : 4 ≤ p := by omega
  have hpL : p < L := by omega
  have r1 : wrap64 d = d := IntWalk.wrap64_in _ (by omega)
  have r2 : wrap64 (4 + d) = 4 + d := IntWalk.wrap64_in _ (by omega)
  have r5 : wrap64 m = m := IntWalk.wrap64_in _ (by omega)
  have r3 : 0 ≤ 4 + d := by omega
  have r4 : 4 + d < L := by omega
  have hcp : w1.cell? ⟨g, p, none⟩ = some (.int .u8 (fr.getD p 0)) := by
    obtain ⟨ad, h1, _, h3⟩ := hO1.reads.at_ (k := p) (by omega)
    injection h1 with h1
    subst h1
    have e : ((⟨g, 0, none⟩ : Addr).add p) = ⟨g, p, none⟩ := by unfold Addr.add; rw [if_neg (by omega)]; simp
    rw [e] at h3
    exact h3
  have hfz : w1.frozen? ⟨g, p, none⟩ = false := World.ownsRow.frozenAt (cap := c1) (by rw [← hfl] at hO1; exact hO1) p
  have hy := hfb.at_ p
  generalize hyv : fr.getD p 0 = y at *
  go_region
  have hv := xor_flip hy hm0 hm1
  generalize bits BinOp.xor IntKind.u8 y (2 ^ m.toNat % 256) = v at *
  obtain ⟨o1, o2, o3⟩ := hop p v hp4 hpL hv.1 (by rw [hyv]; exact hv.2)
  have hrs : ReadsB (w1.setCell ⟨g, p, none⟩ (.int .u8 v)).drew (w1.setCell ⟨g, p, none⟩ (.int .u8 v)).drew.heap.size (some ⟨g, 0, none⟩) (fr.set p v) := by
    have h := (World.ownsRow.stored (cap := c1) (by rw [← hfl] at hO1; exact hO1) p (.int .u8 v)).1
    have h2 := own_reads h
    unfold ReadsB
    rw [List.length_set]
    have e : cellsOf .u8 (fr.set p v) = (cellsOf .u8 fr).set p (.int .u8 v) := by simp [cellsOf, List.map_set]
    rw [e]
    exact h2
  have hBs : Below w.heap.size w (w1.setCell ⟨g, p, none⟩ (.int .u8 v)).drew := (hb1.setCell (p := ⟨g, p, none⟩) hg0 _).drew
  have hsl : (fr.set p v).length = L := by rw [List.length_set]; exact hfl
  have hcc := hO1.cap
  have hox := opn_any (some ⟨g, 0, none⟩) c1 (fr.set p v) _ hrs (fun x hx => by
    rcases List.mem_or_eq_of_mem_set hx with h | h
    · exact hfb x h
    · rw [h]; exact hv.1) (by rw [hsl]; omega) hcc.2
  rw [o1, o2, o3, hsl, show ((xs.length : Int) + 8) = (L : Int) by have := hL'.out; omega] at hox
  replace hox := Lib.hid hox
  generalize (w1.setCell ⟨g, p, none⟩ (.int .u8 v)).drew = W at *
  go_wp2_with fail
  refine hox.out.mono ?_
  rintro _ w5 ⟨A5, c5, rfl, _, hb5⟩
  go_wp2_with fail
  go_ret
  exact ⟨rfl, bnext hBs hb5⟩

set_option maxRecDepth 100000 in
set_option maxHeartbeats 4000000 in
theorem walk_l (a0 : Option Addr) (cap0 len0 : Nat) (xs : List Int) (k : Int) (w : World) (hr : ReadsB w w.heap.size a0 xs) (hb : Bytes xs) (hc : xs.length ≤ cap0) (hk : (Lit.int .u16 k).wf = true) (hn : xs.length ≤ 2000) (hxl : xs.length = 2000) (hlen : 2000 < len0) (hlc : len0 ≤ cap0) :
    Calls Try.prog 7 #[.slice a0 len0 cap0, .int .u16 k] w fun e w' => e = .returned (.bool true) ∧ Below w.heap.size w w' := by
  have b1 : decide (2000 < (len0 : Int)) = true := decide_eq_true (by omega)
  have hc2 : 2000 ≤ cap0 := by omega

  have hw := Lib.hid (wrap_any a0 cap0 xs w hb hr (by omega))
  have hop := fun p v h1 h2 h3 h4 => opens_flip (xs := xs) (p := p) (v := v) (by omega) hb h1 h2 h3 h4
  have hfb := frame_bytes hb
  have hfl := frame_length xs
  have hku := bounds_u16 hk
  unfold Framed at hw
  generalize frame xs = fr at *
  obtain ⟨L, hL⟩ : ∃ L, L = xs.length + 8 := ⟨_, rfl⟩
  rw [← hL] at hfl hw hop
  rw [hxl] at hw
  have q0 : wrap64 ((L : Int) - 4) = L - 4 := IntWalk.wrap64_in _ (by omega)
  have q1 : wrap64 (8 * ((L : Int) - 4)) = 8 * (L - 4) := IntWalk.wrap64_in _ (by omega)
  have hM0 : ¬ (8 * ((L : Int) - 4)) = 0 := by omega
  have hM1 : (8 * ((L : Int) - 4) == 0) = false := by simpa using hM0
  have b2 : decide ((L : Int) < 8) = false := decide_eq_false (by omega)
  have hj0 : 0 ≤ k % (8 * ((L : Int) - 4)) := Int.emod_nonneg _ hM0
  have hj1 : k % (8 * ((L : Int) - 4)) < 8 * ((L : Int) - 4) := Int.emod_lt_of_pos _ (by omega)
  have hL' := Lib.hid hL
  have hLb : 8 ≤ L ∧ L ≤ 2008 := by omega
  clear hL hn hc
  go_enter Try.func7, Try.ntmps7
  go_wp2_with fail
  refine hw.out.mono ?_
  rintro _ w1 ⟨A1, c1, rfl, hO1, hb1⟩
  have hbs := hb1.size
  obtain ⟨g, cap, hform, hg0, hg1⟩ := hO1.form (by omega)
  rw [hfl] at hform
  injection hform with hf1 hf2 hf3
  subst hf1 hf3
  go_wp2_with fail
  generalize k % (8 * ((L : Int) - 4)) = j at *
  clear q0 q1
  obtain ⟨d, hd⟩ : ∃ d, j.tdiv 8 = d := ⟨_, rfl⟩
  obtain ⟨m, hm⟩ : ∃ m, j.tmod 8 = m := ⟨_, rfl⟩
  have hd' : d = j / 8 := by rw [← hd]; exact Int.tdiv_eq_ediv_of_nonneg hj0
  have hm' : m = j % 8 := by rw [← hm]; exact Int.tmod_eq_emod_of_nonneg hj0
  have hd0 : 0 ≤ d := by omega
  have hd1 : d < (L : Int) - 4 := by omega
  have hm0 : 0 ≤ m := by omega
  have hm1 : m < 8 := by omega
  clear hd' hm'
  obtain ⟨p, hp⟩ : ∃ p : Nat, (4 + d).toNat = p := ⟨_, rfl⟩
  have hp4 : 4 ≤ p := by omega
  have hpL : p < L := by omega
  have r1 : wrap64 d = d := IntWalk.wrap64_in _ (by omega)
  have r2 : wrap64 (4 + d) = 4 + d := IntWalk.wrap64_in _ (by omega)
  have r5 : wrap64 m = m := IntWalk.wrap64_in _ (by omega)
  have r3 : 0 ≤ 4 + d := by omega
  have r4 : 4 + d < L := by omega
  have hcp : w1.cell? ⟨g, p, none⟩ = some (.int .u8 (fr.getD p 0)) := by
    obtain ⟨ad, h1, _, h3⟩ := hO1.reads.at_ (k := p) (by omega)
    injection h1 with h1
    subst h1
    have e : ((⟨g, 0, none⟩ : Addr).add p) = ⟨g, p, none⟩ := by unfold Addr.add; rw [if_neg (by omega)]; simp
    rw [e] at h3
    exact h3
  have hfz : w1.frozen? ⟨g, p, none⟩ = false := World.ownsRow.frozenAt (cap := c1) (by rw [← hfl] at hO1; exact hO1) p
  have hy := hfb.at_ p
  generalize hyv : fr.getD p 0 = y at *
  go_region
  have hv := xor_flip hy hm0 hm1
  generalize bits BinOp.xor IntKind.u8 y (2 ^ m.toNat % 256) = v at *
  obtain ⟨o1, o2, o3⟩ := hop p v hp4 hpL hv.1 (by rw [hyv]; exact hv.2)
  have hrs : ReadsB (w1.setCell ⟨g, p, none⟩ (.int .u8 v)).drew (w1.setCell ⟨g, p, none⟩ (.int .u8 v)).drew.heap.size (some ⟨g, 0, none⟩) (fr.set p v) := by
    have h := (World.ownsRow.stored (cap := c1) (by rw [← hfl] at hO1; exact hO1) p (.int .u8 v)).1
    have h2 := own_reads h
    unfold ReadsB
    rw [List.length_set]
    have e : cellsOf .u8 (fr.set p v) = (cellsOf .u8 fr).set p (.int .u8 v) := by simp [cellsOf, List.map_set]
    rw [e]
    exact h2
  have hBs : Below w.heap.size w (w1.setCell ⟨g, p, none⟩ (.int .u8 v)).drew := (hb1.setCell (p := ⟨g, p, none⟩) hg0 _).drew
  have hsl : (fr.set p v).length = L := by rw [List.length_set]; exact hfl
  have hcc := hO1.cap
  have hox := opn_any (some ⟨g, 0, none⟩) c1 (fr.set p v) _ hrs (fun x hx => by
    rcases List.mem_or_eq_of_mem_set hx with h | h
    · exact hfb x h
    · rw [h]; exact hv.1) (by rw [hsl]; omega) hcc.2
  rw [o1, o2, o3, hsl, show ((xs.length : Int) + 8) = (L : Int) by have := hL'.out; omega] at hox
  replace hox := Lib.hid hox
  generalize (w1.setCell ⟨g, p, none⟩ (.int .u8 v)).drew = W at *
  go_wp2_with fail
  refine hox.out.mono ?_
  rintro _ w5 ⟨A5, c5, rfl, _, hb5⟩
  go_wp2_with fail
  go_ret
  exact ⟨rfl, bnext hBs hb5⟩

theorem walk (a0 : Option Addr) (len0 cap0 : Nat) (z0 : List Int) (k : Int) (w : World) (h : IsRow .u8 w a0 len0 cap0 z0) (hk : (Lit.int .u16 k).wf = true) :
    Calls Try.prog 7 #[.slice a0 len0 cap0, .int .u16 k] w fun e w' => e = .returned (.bool true) ∧ Below w.heap.size w w' := by
  obtain ⟨xs, rfl, hb, hr, hl, hm⟩ := h.reads
  by_cases hn : xs.length ≤ 2000
  · exact walk_s a0 cap0 xs k w hr hb hl hk hn
  · have hxl : (xs.take 2000).length = 2000 := by rw [List.length_take]; omega
    have hrt : ReadsB w w.heap.size a0 (xs.take 2000) := by
      have h := Reads.take hr (k := 2000) (by omega)
      unfold ReadsB
      rw [hxl]
      simpa [cellsOf, List.map_take] using h
    exact walk_l a0 cap0 xs.length (xs.take 2000) k w hrt (hb.take _) (by omega) hk (by omega) hxl (by omega) hl

set_option maxRecDepth 100000 in
theorem lifted (os : Os) (started : os.Started) (H : Type) (enc : TypeId × Value → H) :
    ReturnsInHanded {} Try.checked os 7 .any (Rows.sumTurnedSpec.pre6 enc Try.prog Try.f7 Rows.sumTurnedRow.domain false) (Rows.sumTurnedSpec.post enc Try.prog Try.f7 false true false false) := by
  refine returnsInHanded_of_change (C := Try.checked) own started (by kernel_rfl) Try.func7
    (ChangeSpec.witness6 (enc := enc) (C := Try.checked) false ⟨#[], #[.slice none 0 0, .int .u16 0], []⟩ 8 (by kernel_rfl) (by kernel_rfl) (by kernel_rfl) (by kernel_rfl)) ?_
  intro W base args ds gs before hval0 hW hcnd _
  have hval : ∀ (j : Nat) t v, Try.f7.params[j]? = some t → args[j]? = some v → Value.okWide Try.prog W .any base t v := hval0
  have hW' := hW
  obtain ⟨p, q, hA0, hV, rfl, hfz, hnd⟩ := hW
  have hA : DataW.TrodAll enc Try.prog W 0 (fun _ => true) true Try.f7.params.toList args.toList ds p := hA0
  rw [Try.params7] at hA hval
  obtain ⟨v0, vs0, d0, ds0, p0, q0, hargs, rfl, rfl, h0, r0⟩ := trodAll_cons hA
  obtain ⟨v1, vs1, d1, ds1, p1, q1, rfl, rfl, rfl, h1, r1⟩ := trodAll_cons r0
  obtain ⟨rfl, rfl, rfl⟩ := trodAll_nil r1
  obtain rfl : args = #[v0, v1] := by cases args; simp_all
  obtain ⟨rfl, rfl⟩ := trodVars_none hV
  obtain ⟨a0, len0, cap0, rfl⟩ := okWide_slice Try.underlying31 (hval 0 31 v0 rfl rfl)
  have k0 := h0
  have lt0 : ∀ x ∈ p0, x.block < W.heap.size := by obtain ⟨m, hm⟩ := k0; exact DataW.trod_lt m _ _ _ hm
  obtain ⟨z0, w0⟩ : ∃ zs, IsRow .u8 W a0 len0 cap0 zs := by
    obtain ⟨fuel, hf⟩ := h0
    rcases open_ints Try.underlying31 Try.underlying5 (by kernel_rfl) hf with ⟨hcs, _⟩ | ⟨x, l, c, zs, hcs, _, hl, hm, hz, _, hcell, hwz⟩
    · simp [Value.cells] at hcs
      obtain ⟨rfl, rfl, rfl⟩ := hcs
      exact ⟨[], .inl ⟨rfl, rfl, rfl, rfl⟩⟩
    · simp [Value.cells] at hcs
      obtain ⟨rfl, rfl, rfl⟩ := hcs
      exact ⟨zs, .inr ⟨_, rfl, hl, hm, by simpa using hz, hcell, hwz⟩⟩
  obtain ⟨x1, rfl, rfl, rfl, wx1⟩ := open_int Try.underlying62 (hval 1 62 v1 rfl rfl) h1
  clear hA0 hval0
  refine (walk a0 len0 cap0 z0 x1 W w0 wx1).mono fun e W' ⟨he, bel⟩ => ?_
  subst he
  exact ⟨_, rfl, _, _, _, [], _, [], hW', trodAll_mk1 (shut_bool Try.underlying4 _), (trodAll_cons_mk (Below.trod laidOut (by kernel_rfl) (of_decide_eq_true (by kernel_rfl)) k0 bel lt0) (trodAll_cons_mk (shut_int Try.underlying62 wx1) trodAll_mk0)), rfl, bel.frame _, fun h => by cases h⟩

theorem closed : joinedFacts Try.prog 7 Try.f7 Rows.sumTurnedSpec Rows.sumTurnedRow = true := by
  have h1 := mayEnter_fact
  have h2 : (Rows.sumTurnedRow.lifted == Try.prog.liftsFinal) = true := by rw [lifts_fact]; rfl
  have h3 : (Try.prog.make == some Rows.sumTurnedRow.make) = true := by rw [make_fact]; rfl
  have hfin : ∀ b : Bool, b = true → b = true := fun _ h => h
  unfold joinedFacts
  rw [h1, h2, h3]
  clear h1 h2 h3
  refine hfin _ ?_
  kernel_rfl

theorem over : Rows.sumTurnedRow.holds Try.pinned (OpenSpec.ofChange Rows.sumTurnedSpec) :=
  OpenClaim.holds_of_wide 7 Try.f7 rfl rfl rfl rfl rfl rfl rfl ⟨rfl, rfl, rfl, rfl, rfl⟩ rfl rfl rfl rfl rfl (by kernel_rfl) Try.func7 closed
    (of_decide_eq_true (by kernel_rfl)) (by unfold Func.isWrapper; first | (rw [if_pos (by decide +kernel)]; kernel_rfl) | (rw [if_neg (by decide +kernel)]; exact ⟨rfl, rfl⟩))
    (fun os started H enc _ => lifted os started H enc)

/-- The statement. -/
theorem proved : Rows.SumTurnedSaid := over
#print axioms proved

end Go.Proofs.Ytahmhkabipcfiaa.SumTurnedP
