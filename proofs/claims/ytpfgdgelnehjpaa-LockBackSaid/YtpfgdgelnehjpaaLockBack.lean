/- LockBack: a thread that comes back owns a monitor as often as before. -/
import Derived.Test.YtpfgdgelnehjpaaLockP
import Derived.Test.YtpfgdgelnehjpaaLockA
import Derived.Test.YtpfgdgelnehjpaaLockV
import Derived.Test.YtpfgdgelnehjpaaLockB
import Derived.Test.YtpfgdgelnehjpaaHead
import Derived.Test.YtpfgdgelnehjpaaOpenG
import Derived.Deep.RegionHeld3
import Derived.Lib.SmallJoins
import Derived.ProofKit
import Derived.OpenShut
import Derived.ShutString
import Derived.ChangeOld
import Derived.Laws.StructEq
namespace Go.Proofs.Ytpfgdgelnehjpaa.LockBackP
open Go.ChangeShapes Go.WideShapes Go.ChangeAt Go.RowKit
open Go.ChangeMaps (open_string shut_string)
set_option linter.unusedVariables false

theorem own : ownKnob Try.prog.godebug = none := by kernel_rfl
theorem laidOut : laidOutB Try.prog = true := by kernel_rfl
theorem bnext {a b c : World} (h : Below a.heap.size a b) (k : Below b.heap.size b c) : Below a.heap.size a c := h.trans (k.mono h.size)

theorem ReadsZ.turned {w w' : World} {A : Option Addr} {xs : List Int} {p b n : Nat} {s : Int → Mon} (h : ReadsZ w w.heap.size A xs) (hL : LS w p b n s) (hg : w.grownBy w' (some b)) : ReadsZ w' w'.heap.size A xs := by
  obtain ⟨⟨f, hM, _⟩, _, _⟩ := hL
  exact Reads.turned_map h (by omega) hM hg
theorem enterS_own (s : Int → Mon) (r t : Int) (hf : freeM (s r) t = true) : enterS s r t r = ⟨t, (s r).cnt + 1, (s r).row⟩ := by
  unfold enterS
  rw [if_pos hf, updM_at]
theorem waitS_own (s : Int → Mon) (r t : Int) (hf : ownE (s r) t = 0) : waitS s r t r = ⟨(s r).own, 0, (s r).row ++ [⟨t, (s r).cnt, false⟩]⟩ := by
  unfold waitS
  rw [if_pos hf]
  unfold setS
  rw [updM_at]
  unfold normM
  rw [if_neg (fun h => by have := h.2; simp at this)]
theorem tellS_own (s : Int → Mon) (r t : Int) (all : Bool) (hf : ownE (s r) t = 0) (hc : (s r).cnt ≠ 0) : tellS s r t all r = ⟨(s r).own, (s r).cnt, markT (s r).row (tellP all (s r).row)⟩ := by
  unfold tellS
  rw [if_pos hf]
  unfold setS
  rw [updM_at]
  unfold normM
  rw [if_neg (fun h => hc h.1)]
theorem exitS_own (s : Int → Mon) (r t : Int) (hf : ownE (s r) t = 0) (hr : (s r).row ≠ []) : exitS s r t r = ⟨(s r).own, (s r).cnt - 1, (s r).row⟩ := by
  unfold exitS
  rw [if_pos hf]
  unfold setS
  rw [updM_at]
  unfold normM
  rw [if_neg (fun h => hr h.2)]
theorem backS_not (s : Int → Mon) (r t : Int) (hf : backI (s r) t = none) : backS s r t = s := by
  unfold backS
  rw [hf]
set_option maxRecDepth 100000 in
set_option maxHeartbeats 40000000 in
theorem walk (r x1 : Int) (w : World) (wr : (Lit.int .i64 r).wf = true) (wx : (Lit.int .u8 x1).wf = true) :
    Calls Try.prog 8 #[.int .i64 r, .int .u8 x1] w fun e w' => e = .returned (.bool true) ∧ Below w.heap.size w w' := by
  have fr : fit64 r := ⟨(bounds_i64 wr).1, by have := (bounds_i64 wr).2; omega⟩
  have hx : 0 ≤ x1 ∧ x1 < 256 := ⟨by have := (bounds_u8 wx).1; omega, by have := (bounds_u8 wx).2; omega⟩
  obtain ⟨q, hq⟩ : ∃ q : Nat, x1.tmod 40 = (q : Int) := ⟨(x1.tmod 40).toNat, by have := Int.tmod_nonneg 40 hx.1; omega⟩
  have hq40 : q < 40 := by have := Int.tmod_lt_of_pos x1 (show (0 : Int) < 40 by decide); omega
  obtain ⟨N, hN⟩ : ∃ N : Nat, N = q + 1 := ⟨_, rfl⟩
  have hNi : 1 + (q : Int) = (N : Int) := by omega
  have hNp : 0 < N := by omega
  have hN40 : N ≤ 40 := by omega
  clear hN
  go_enter Try.func8, Try.ntmps8
  go_wp2_with fail
  refine (new_any _).mono ?_
  rintro _ w1 ⟨rfl, hL1, hb1⟩
  go_wp2_with fail
  go_loopw [7] (fun i wr => ∃ k : Nat, k ≤ N ∧ i = .int .i64 k ∧ ∃ S, LS wr (w.heap.size + 1) w.heap.size k S ∧ (S r).cnt = k ∧ (S r).row = [] ∧ (k = 0 ∨ (S r).own = 1) ∧ Below w.heap.size w wr) (fun i _ => N - (intOf i).toNat)
  case atStart => exact ⟨0, by omega, rfl, _, hL1, rfl, rfl, .inl rfl, hb1⟩
  case round =>
    obtain ⟨k, hk, rfl, S, hL, hcnt, hrow, hown, hB⟩ := hrel
    by_cases hlt : k < N
    · have b1 : decide ((k : Int) < (N : Int)) = true := decide_eq_true (by omega)
      have b2 : decide (k < N) = true := decide_eq_true hlt
      have hf : freeM (S r) 1 = true := by
        unfold freeM
        rcases hown with rfl | h
        · rw [hcnt]; rfl
        · rw [h]; simp
      have hS := enterS_own S r 1 hf
      have ge := enter_any (w.heap.size + 1) w.heap.size _ S r 1 fr wr hL (by omega)
      rw [hf] at ge
      rw [hcnt, hrow] at hS
      replace ge := Lib.hid ge
      replace hS := Lib.hid hS
      clear hf hcnt hrow hown
      go_wp2_with fail
      refine ge.out.mono ?_
      rintro _ w2 ⟨rfl, hL2, hg2⟩
      have hB2 := hB.grown hg2 hB.size (fun j e => by injection e with e; omega)
      go_wp2_with fail
      exact ⟨⟨k + 1, by omega, by go_num, _, hL2, by rw [hS.out]; rfl, by rw [hS.out], .inr (by rw [hS.out]), hB2⟩, by simp [intOf]; omega⟩
    · obtain rfl : k = N := by omega
      have b1 : decide ((k : Int) < (k : Int)) = false := decide_eq_false (by omega)
      have b2 : decide (k < k) = false := decide_eq_false (by omega)
      have hkp : 0 < k := by omega
      have hown1 : (S r).own = 1 := hown.resolve_left (by omega)
      have hSr : S r = ⟨1, k, []⟩ := (show ∀ m : Mon, m.own = 1 → m.cnt = k → m.row = [] → m = ⟨1, k, []⟩ by rintro ⟨a, b, c⟩ h1 h2 h3; dsimp only at h1 h2 h3; rw [h1, h2, h3]) _ hown1 hcnt hrow
      have hk40 : k ≤ 40 := by omega
      have hk0 : ¬ (k : Int) = 0 := by omega
      clear hcnt hrow hown hown1 hlt hNi hq40 hk hx wx
      -- Wait
      have e1 : ownE (S r) 1 = 0 := by rw [hSr]; simp [ownE]; omega
      have s1 := waitS_own S r 1 e1
      rw [hSr] at s1
      simp only [List.nil_append] at s1
      have g1 := wait_any (w.heap.size + 1) w.heap.size _ S r 1 fr wr hL (by omega)
      rw [e1] at g1
      replace g1 := Lib.hid g1
      generalize waitS S r 1 = S1 at *
      -- Free
      have f2 : freeM (S1 r) 2 = true := by rw [s1]; rfl
      have g2 := fun u hu => Lib.hid (free_any (w.heap.size + 1) w.heap.size (k + 1) S1 r 2 fr u hu)
      rw [f2] at g2
      -- Back
      have i3 : backI (S1 r) 1 = none := by rw [s1]; rfl
      have s3 := backS_not S1 r 1 i3
      have g3 := fun u hu => Lib.hid (back_any (w.heap.size + 1) w.heap.size (k + 1) S1 r 1 fr u hu (by omega))
      rw [i3, s3] at g3
      -- Enter
      have f4 : freeM (S1 r) 2 = true := f2
      have s4 := enterS_own S1 r 2 f4
      rw [s1] at s4
      have g4 := fun u hu => Lib.hid (enter_any (w.heap.size + 1) w.heap.size (k + 2) S1 r 2 fr u hu (by omega))
      rw [f4] at g4
      generalize enterS S1 r 2 = S2 at *
      replace s4 : S2 r = ⟨2, 1, [⟨1, k, false⟩]⟩ := s4
      -- Tell
      have e5 : ownE (S2 r) 2 = 0 := by rw [s4]; rfl
      have o5 : tellO (S2 r) 2 false = [1] := by rw [s4]; rfl
      have s5 := tellS_own S2 r 2 false e5 (by rw [s4]; show (1 : Int) ≠ 0; decide)
      rw [s4] at s5
      have g5 := fun u hu => Lib.hid (tell_any (w.heap.size + 1) w.heap.size (k + 3) S2 r 2 false fr u hu (by omega))
      rw [e5, o5] at g5
      generalize tellS S2 r 2 false = S3 at *
      replace s5 : S3 r = ⟨2, 1, [⟨1, k, true⟩]⟩ := s5
      -- Back
      have i6 : backI (S3 r) 1 = none := by rw [s5]; rfl
      have s6 := backS_not S3 r 1 i6
      have g6 := fun u hu => Lib.hid (back_any (w.heap.size + 1) w.heap.size (k + 4) S3 r 1 fr u hu (by omega))
      rw [i6, s6] at g6
      -- Exit
      have e7 : ownE (S3 r) 2 = 0 := by rw [s5]; rfl
      have s7 := exitS_own S3 r 2 e7 (by rw [s5]; simp)
      rw [s5] at s7
      have g7 := fun u hu => Lib.hid (exit_any (w.heap.size + 1) w.heap.size (k + 5) S3 r 2 fr u hu (by omega))
      rw [e7] at g7
      generalize exitS S3 r 2 = S4 at *
      replace s7 : S4 r = ⟨2, 0, [⟨1, k, true⟩]⟩ := s7
      -- Back
      have i8 : backI (S4 r) 1 = some 0 := by rw [s7]; rfl
      have s8 : backS S4 r 1 r = ⟨1, k, []⟩ := by
        unfold backS
        rw [i8]
        show setS S4 r (backM (S4 r) 1 0) r = _
        unfold setS
        rw [updM_at, s7]
        unfold normM
        rw [if_neg (fun h => hk0 h.1)]
        rfl
      have g8 := fun u hu => Lib.hid (back_any (w.heap.size + 1) w.heap.size (k + 6) S4 r 1 fr u hu (by omega))
      rw [i8] at g8
      generalize backS S4 r 1 = S5 at *
      -- Owner
      have o9 : ownI (S5 r) = 1 := by rw [s8]; exact if_neg hk0
      have c9 : (S5 r).cnt = k := by rw [s8]
      have g9 := fun u hu => Lib.hid (owner_any (w.heap.size + 1) w.heap.size (k + 7) S5 r fr u hu)
      rw [o9, c9] at g9
      -- Back
      have iA : backI (S5 r) 1 = none := by
        rw [s8]
        unfold backI
        rw [if_pos (.inr (by show (0 : Int) < k; omega))]
      have sA := backS_not S5 r 1 iA
      have gA := fun u hu => Lib.hid (back_any (w.heap.size + 1) w.heap.size (k + 7) S5 r 1 fr u hu (by omega))
      rw [iA, sA] at gA
      simp only [Option.isSome_none, Option.isSome_some, List.length_cons, List.length_nil, Nat.zero_add] at g3 g5 g6 g8 gA
      clear e1 s1 f2 i3 s3 f4 s4 e5 o5 s5 i6 s6 e7 s7 i8 s8 o9 c9 iA sA hSr
      go_wp2_with fail
      refine g1.out.mono ?_
      rintro _ w2 ⟨rfl, hL2, hg2⟩
      have hB2 := hB.grown hg2 hB.size (fun j e => by injection e with e; omega)
      go_wp2_with fail
      refine (g2 _ hL2).out.mono ?_
      rintro _ w3 ⟨rfl, m3, rfl⟩
      have hL3 := hL2.drewN m3
      have hB3 := below_drewN hB2 m3
      generalize w2.drewN m3 = w3 at *
      go_wp2_with fail
      refine (g3 _ hL3).out.mono ?_
      rintro _ w4 ⟨rfl, hL4, hg4⟩
      have hB4 := hB3.grown hg4 hB3.size (fun j e => by injection e with e; omega)
      go_wp2_with fail
      refine (g4 _ hL4).out.mono ?_
      rintro _ w5 ⟨rfl, hL5, hg5⟩
      have hB5 := hB4.grown hg5 hB4.size (fun j e => by injection e with e; omega)
      go_wp2_with fail
      refine (g5 _ hL5).out.mono ?_
      rintro _ w6 ⟨A6, c6, rfl, hr6, hlc6, hmc6, hL6, hg6⟩
      have hB6 := hB5.grown hg6 hB5.size (fun j e => by injection e with e; omega)
      go_wp2_with fail
      refine (g6 _ hL6).out.mono ?_
      rintro _ w7 ⟨rfl, hL7, hg7⟩
      have hB7 := hB6.grown hg7 hB6.size (fun j e => by injection e with e; omega)
      have hr7 := ReadsZ.turned (xs := [1]) hr6 hL6 hg7
      obtain ⟨ad, rfl, had, hcell⟩ := hr7.at_ (k := 0) (by simp)
      have hcell2 : w7.cell? ad = some (.int .i64 1) := hcell
      clear hr6 hr7 hcell
      go_wp2_with fail
      refine (g7 _ hL7).out.mono ?_
      rintro _ w8 ⟨rfl, hL8, hg8⟩
      have hB8 := hB7.grown hg8 hB7.size (fun j e => by injection e with e; omega)
      go_wp2_with fail
      refine (g8 _ hL8).out.mono ?_
      rintro _ w9 ⟨rfl, hL9, hg9⟩
      have hB9 := hB8.grown hg9 hB8.size (fun j e => by injection e with e; omega)
      go_wp2_with fail
      refine (g9 _ hL9).out.mono ?_
      rintro _ w10 ⟨rfl, m10, rfl⟩
      have hL10 := hL9.drewN m10
      have hB10 := below_drewN hB9 m10
      generalize w9.drewN m10 = w10 at *
      go_wp2_with fail
      refine (gA _ hL10).out.mono ?_
      rintro _ w11 ⟨rfl, hL11, hg11⟩
      have hB11 := hB10.grown hg11 hB10.size (fun j e => by injection e with e; omega)
      go_wp2_with fail
      go_ret
      exact ⟨rfl, hB11⟩

set_option maxRecDepth 100000 in
theorem lifted (os : Os) (started : os.Started) (H : Type) (enc : TypeId × Value → H) :
    ReturnsInHanded {} Try.checked os 8 .any (Rows.lockBackSpec.pre6 enc Try.prog Try.f8 Rows.lockBackRow.domain false) (Rows.lockBackSpec.post enc Try.prog Try.f8 false true false false) := by
  refine returnsInHanded_of_change (C := Try.checked) own started (by kernel_rfl) Try.func8
    (ChangeSpec.witness6 (enc := enc) (C := Try.checked) false ⟨#[], #[.int .i64 0, .int .u8 0], []⟩ 8 (by kernel_rfl) (by kernel_rfl) (by kernel_rfl) (by kernel_rfl)) ?_
  intro W base args ds gs before hval0 hW hcnd _
  have hval : ∀ (j : Nat) t v, Try.f8.params[j]? = some t → args[j]? = some v → Value.okWide Try.prog W .any base t v := hval0
  have hW' := hW
  obtain ⟨p, q, hA0, hV, rfl, hfz, hnd⟩ := hW
  have hA : DataW.TrodAll enc Try.prog W 0 (fun _ => true) true Try.f8.params.toList args.toList ds p := hA0
  rw [Try.params8] at hA hval
  obtain ⟨v0, vs0, d0, ds0, p0, q0, hargs, rfl, rfl, h0, r0⟩ := trodAll_cons hA
  obtain ⟨v1, vs1, d1, ds1, p1, q1, rfl, rfl, rfl, h1, r1⟩ := trodAll_cons r0
  obtain ⟨rfl, rfl, rfl⟩ := trodAll_nil r1
  obtain rfl : args = #[v0, v1] := by cases args; simp_all
  obtain ⟨rfl, rfl⟩ := trodVars_none hV
  obtain ⟨x0, rfl, rfl, rfl, wx0⟩ := open_int Try.underlying3 (hval 0 3 v0 rfl rfl) h0
  obtain ⟨x1, rfl, rfl, rfl, wx1⟩ := open_int Try.underlying5 (hval 1 5 v1 rfl rfl) h1
  clear hA0 hval0
  refine (walk x0 x1 W wx0 wx1).mono fun e W' ⟨he, bel⟩ => ?_
  subst he
  exact ⟨_, rfl, _, _, _, [], _, [], hW', trodAll_mk1 (shut_bool Try.underlying4 _), (trodAll_cons_mk (shut_int Try.underlying3 wx0) (trodAll_cons_mk (shut_int Try.underlying5 wx1) trodAll_mk0)), rfl, bel.frame _, fun h => by cases h⟩

theorem closed : joinedFacts Try.prog 8 Try.f8 Rows.lockBackSpec Rows.lockBackRow = true := by
  have h1 := mayEnter_fact
  have h2 : (Rows.lockBackRow.lifted == Try.prog.liftsFinal) = true := by rw [lifts_fact]; rfl
  have h3 : (Try.prog.make == some Rows.lockBackRow.make) = true := by rw [make_fact]; rfl
  have hfin : ∀ b : Bool, b = true → b = true := fun _ h => h
  unfold joinedFacts
  rw [h1, h2, h3]
  clear h1 h2 h3
  refine hfin _ ?_
  kernel_rfl

theorem over : Rows.lockBackRow.holds Try.pinned (OpenSpec.ofChange Rows.lockBackSpec) :=
  OpenClaim.holds_of_wide 8 Try.f8 rfl rfl rfl rfl rfl rfl rfl ⟨rfl, rfl, rfl, rfl, rfl⟩ rfl rfl rfl rfl rfl (by kernel_rfl) Try.func8 closed
    (of_decide_eq_true (by kernel_rfl)) (by unfold Func.isWrapper; first | (rw [if_pos (by decide +kernel)]; kernel_rfl) | (rw [if_neg (by decide +kernel)]; exact ⟨rfl, rfl⟩))
    (fun os started H enc _ => lifted os started H enc)

/-- The statement. -/
theorem proved : Rows.LockBackSaid := over
#print axioms proved

end Go.Proofs.Ytpfgdgelnehjpaa.LockBackP
