/- HeapFull: there are at most as many objects as may be; none goes away; they are numbered as they come. -/
import Derived.Test.YtpfgdgelnehjpaaHeapM
import Derived.Test.YtpfgdgelnehjpaaHead
import Derived.Test.YtpfgdgelnehjpaaOpenG
import Derived.Deep.RegionHeld3
import Derived.Lib.SmallJoins
import Derived.ProofKit
import Derived.OpenShut
import Derived.ShutString
import Derived.ChangeOld
import Derived.Laws.StructEq
namespace Go.Proofs.Ytpfgdgelnehjpaa.HeapFullP
open Go.ChangeShapes Go.WideShapes Go.ChangeAt Go.RowKit
open Go.ChangeMaps (open_string shut_string)
set_option linter.unusedVariables false

theorem own : ownKnob Try.prog.godebug = none := by kernel_rfl
theorem laidOut : laidOutB Try.prog = true := by kernel_rfl
theorem bnext {a b c : World} (h : Below a.heap.size a b) (k : Below b.heap.size b c) : Below a.heap.size a c := h.trans (k.mono h.size)

theorem wi {x : Int} (h0 : 0 ≤ x) (h1 : x < 9223372036854775808) : IntKind.i64.wrap x = x := by
  simp [IntKind.wrap, IntKind.bits, IntKind.signed]
  omega
set_option maxRecDepth 100000 in
set_option maxHeartbeats 2000000 in
theorem walk (most n : Int) (w : World) (h0 : (Lit.int .u8 most).wf = true) (h1 : (Lit.int .u16 n).wf = true) :
    Calls Try.prog 3 #[.int .u8 most, .int .u16 n] w fun e w' => e = .returned (.bool true) ∧ Below w.heap.size w w' := by
  obtain ⟨a0, a1⟩ := bounds_u8 h0
  obtain ⟨a2, a3⟩ := bounds_u16 h1
  clear h0 h1
  obtain ⟨m, rfl⟩ := Int.eq_ofNat_of_zero_le a0
  obtain ⟨q, rfl⟩ := Int.eq_ofNat_of_zero_le a2
  have hm : m < 256 := by omega
  have hk : (q : Int).tmod 600 = ((q % 600 : Nat) : Int) := by rw [Int.tmod_eq_emod_of_nonneg (by omega)]; omega
  have hq : q % 600 < 600 := Nat.mod_lt _ (by omega)
  generalize q % 600 = N at *
  have hwk : IntKind.u16.wrap (N : Int) = N := by simp [IntKind.wrap, IntKind.bits, IntKind.signed]; omega
  have hwn : IntKind.i64.wrap (N : Int) = N := wi (by omega) (by omega)
  have hwm : IntKind.i64.wrap (m : Int) = m := wi (by omega) (by omega)
  have gn := fun w => Lib.hid (hnew_any (m : Int) w (by omega) (by omega))
  have gaw := fun w => Lib.hid (awake14 w)
  have ga := fun n w2 F base h => Lib.hid (harray_long w.heap.size n m w2 F base h ⟨5, ByteArray.empty, 0, 0, 0⟩ ⟨0, ByteArray.empty, 0, 0, 0⟩)
  clear a0 a1 a2 a3
  go_enter Try.func3, Try.ntmps3
  go_wp2_with fail
  refine (gn _).out.mono ?_
  rintro _ w1 ⟨rfl, hS1, hb1⟩
  go_wp2_with fail
  go_loopw [7] (fun i wr => ∃ (k c : Nat) (F : Nat → Prop), k ≤ N ∧ i = .int .i64 ((k : Int) + 1) ∧ c = min k m ∧ Hp wr F w.heap.size w.heap.size c m ∧ Below w.heap.size w wr) (fun i _ => N + 1 - (intOf i).toNat)
  case atStart => exact ⟨0, 0, _, by omega, rfl, by omega, hS1, hb1⟩
  case round =>
    obtain ⟨k, c, F, hkN, rfl, hc, hS, hB⟩ := hrel
    have hwi : IntKind.i64.wrap ((k : Int) + 1 + 1) = (k : Int) + 1 + 1 := wi (by omega) (by omega)
    by_cases hlt : k < N
    · have b1 : decide ((k : Int) + 1 ≤ (N : Int)) = true := decide_eq_true (by omega)
      have gm := fun w2 F base h => Lib.hid (hmake_any w.heap.size c (m : Int) ⟨4, ⟨#[65]⟩, 0, 0, 0⟩ w2 F base h (by omega))
      unfold HPost at gm
      by_cases hkm : k < m
      · have b2 : decide ((k : Int) + 1 ≤ (m : Int)) = true := decide_eq_true (by omega)
        have b3 : decide ((m : Int) < (k : Int) + 1) = false := decide_eq_false (by omega)
        obtain rfl : c = k := by omega
        have hcm : (c : Int) < (m : Int) := by omega
        simp only [if_pos hcm] at gm
        clear hc
        go_wp2_with fail
        refine (gm _ _ _ hS).out.mono ?_
        rintro _ w2 ⟨rfl, hS2, hT2⟩
        have hB2 := hB.trans (hT2.below hB.size fun j hj => (hS.lt j hj).1)
        go_wp2_with fail
        refine (ga _ _ _ _ hS2).out.mono ?_
        rintro _ w3 ⟨rfl, hb3⟩
        have hS3 := hS2.below hb3
        have hB3 := hB2.trans (hb3.mono hB2.size)
        go_wp2_with fail
        refine (hcount_any _ _ _ _ _ _ hS3).mono ?_
        rintro _ _ ⟨rfl, rfl⟩
        go_wp2_with fail
        exact ⟨⟨c + 1, c + 1, _, by omega, by go_num, by omega, hS3, hB3⟩, by simp [intOf]; omega⟩
      · have b2 : decide ((k : Int) + 1 ≤ (m : Int)) = false := decide_eq_false (by omega)
        have b3 : decide ((m : Int) < (k : Int) + 1) = true := decide_eq_true (by omega)
        obtain rfl : c = m := by omega
        have hcm : ¬ (c : Int) < (c : Int) := by omega
        simp only [if_neg hcm] at gm
        clear hc
        go_wp2_with fail
        refine (gm _ _ _ hS).out.mono ?_
        rintro _ w2 ⟨rfl, hS2, hT2⟩
        have hB2 := hB.trans (hT2.below hB.size fun j hj => (hS.lt j hj).1)
        go_wp2_with fail
        refine (ga _ _ _ _ hS2).out.mono ?_
        rintro _ w3 ⟨rfl, hb3⟩
        have hS3 := hS2.below hb3
        have hB3 := hB2.trans (hb3.mono hB2.size)
        go_wp2_with fail
        refine (hcount_any _ _ _ _ _ _ hS3).mono ?_
        rintro _ _ ⟨rfl, rfl⟩
        go_wp2_with fail
        exact ⟨⟨k + 1, c, _, by omega, by go_num, by omega, hS3, hB3⟩, by simp [intOf]; omega⟩
    · have b1 : decide ((k : Int) + 1 ≤ (N : Int)) = false := decide_eq_false (by omega)
      have b4 : ¬ (k + 1 ≤ N) := by omega
      clear hlt
      go_wp2_with fail
      all_goals
        refine (gaw _).out.mono ?_
        rintro _ w3 ⟨rfl, hb3⟩
        go_wp2_with fail
        go_ret
        exact ⟨rfl, hB.trans (hb3.mono hB.size)⟩

set_option maxRecDepth 100000 in
theorem lifted (os : Os) (started : os.Started) (H : Type) (enc : TypeId × Value → H) :
    ReturnsInHanded {} Try.checked os 3 .any (Rows.heapFullSpec.pre6 enc Try.prog Try.f3 Rows.heapFullRow.domain false) (Rows.heapFullSpec.post enc Try.prog Try.f3 false true false false) := by
  refine returnsInHanded_of_change (C := Try.checked) own started (by kernel_rfl) Try.func3
    (ChangeSpec.witness6 (enc := enc) (C := Try.checked) false ⟨#[], #[.int .u8 0, .int .u16 0], []⟩ 8 (by kernel_rfl) (by kernel_rfl) (by kernel_rfl) (by kernel_rfl)) ?_
  intro W base args ds gs before hval0 hW hcnd _
  have hval : ∀ (j : Nat) t v, Try.f3.params[j]? = some t → args[j]? = some v → Value.okWide Try.prog W .any base t v := hval0
  have hW' := hW
  obtain ⟨p, q, hA0, hV, rfl, hfz, hnd⟩ := hW
  have hA : DataW.TrodAll enc Try.prog W 0 (fun _ => true) true Try.f3.params.toList args.toList ds p := hA0
  rw [Try.params3] at hA hval
  obtain ⟨v0, vs0, d0, ds0, p0, q0, hargs, rfl, rfl, h0, r0⟩ := trodAll_cons hA
  obtain ⟨v1, vs1, d1, ds1, p1, q1, rfl, rfl, rfl, h1, r1⟩ := trodAll_cons r0
  obtain ⟨rfl, rfl, rfl⟩ := trodAll_nil r1
  obtain rfl : args = #[v0, v1] := by cases args; simp_all
  obtain ⟨rfl, rfl⟩ := trodVars_none hV
  obtain ⟨x0, rfl, rfl, rfl, wx0⟩ := open_int Try.underlying5 (hval 0 5 v0 rfl rfl) h0
  obtain ⟨x1, rfl, rfl, rfl, wx1⟩ := open_int Try.underlying22 (hval 1 22 v1 rfl rfl) h1
  clear hA0 hval0
  refine (walk x0 x1 W wx0 wx1).mono fun e W' ⟨he, bel⟩ => ?_
  subst he
  exact ⟨_, rfl, _, _, _, [], _, [], hW', trodAll_mk1 (shut_bool Try.underlying4 _), (trodAll_cons_mk (shut_int Try.underlying5 wx0) (trodAll_cons_mk (shut_int Try.underlying22 wx1) trodAll_mk0)), rfl, bel.frame _, fun h => by cases h⟩

theorem closed : joinedFacts Try.prog 3 Try.f3 Rows.heapFullSpec Rows.heapFullRow = true := by
  have h1 := mayEnter_fact
  have h2 : (Rows.heapFullRow.lifted == Try.prog.liftsFinal) = true := by rw [lifts_fact]; rfl
  have h3 : (Try.prog.make == some Rows.heapFullRow.make) = true := by rw [make_fact]; rfl
  have hfin : ∀ b : Bool, b = true → b = true := fun _ h => h
  unfold joinedFacts
  rw [h1, h2, h3]
  clear h1 h2 h3
  refine hfin _ ?_
  kernel_rfl

theorem over : Rows.heapFullRow.holds Try.pinned (OpenSpec.ofChange Rows.heapFullSpec) :=
  OpenClaim.holds_of_wide 3 Try.f3 rfl rfl rfl rfl rfl rfl rfl ⟨rfl, rfl, rfl, rfl, rfl⟩ rfl rfl rfl rfl rfl (by kernel_rfl) Try.func3 closed
    (of_decide_eq_true (by kernel_rfl)) (by unfold Func.isWrapper; first | (rw [if_pos (by decide +kernel)]; kernel_rfl) | (rw [if_neg (by decide +kernel)]; exact ⟨rfl, rfl⟩))
    (fun os started H enc _ => lifted os started H enc)

/-- The statement. -/
theorem proved : Rows.HeapFullSaid := over
#print axioms proved

end Go.Proofs.Ytpfgdgelnehjpaa.HeapFullP
