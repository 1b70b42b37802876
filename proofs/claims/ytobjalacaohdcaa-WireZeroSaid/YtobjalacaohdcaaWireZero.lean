/- WireZero: for every count and every bytes: readers and writers that nobody made answer nothing. -/
import Derived.Test.YtobjalacaohdcaaWMake
import Derived.Test.YtobjalacaohdcaaRead
import Derived.Test.YtobjalacaohdcaaHead
import Derived.ProofKit
import Derived.OpenShut
import Derived.ShutString
import Derived.ChangeOld
namespace Go.Proofs.Ytobjalacaohdcaa.WireZeroP
open Go.ChangeShapes Go.WideShapes Go.ChangeAt Go.RowKit
open Go.ChangeMaps (open_string shut_string)
set_option linter.unusedVariables false

theorem own : ownKnob Try.prog.godebug = none := by kernel_rfl
theorem laidOut : laidOutB Try.prog = true := by kernel_rfl

set_option maxHeartbeats 400000 in
theorem rnone_zero (g : Nat) (w : World) (h : w.cell? ⟨g, 2, none⟩ = some (.bool false)) :
    Calls Try.prog 102 #[.pointer (some ⟨g, 0, none⟩)] w fun e w' => e = .returned (.bool true) ∧ w = w' := by
  go_enter Try.func102, Try.ntmps102
  go_wp2_with fail
  go_ret
  exact ⟨rfl, rfl⟩
set_option maxHeartbeats 400000 in
theorem wnone_zero (g : Nat) (w : World) (h : w.cell? ⟨g, 2, none⟩ = some (.bool false)) :
    Calls Try.prog 98 #[.pointer (some ⟨g, 0, none⟩)] w fun e w' => e = .returned (.bool true) ∧ w = w' := by
  go_enter Try.func98, Try.ntmps98
  go_wp2_with fail
  go_ret
  exact ⟨rfl, rfl⟩
set_option maxHeartbeats 400000 in
theorem wnone_nil (w : World) :
    Calls Try.prog 98 #[.pointer none] w fun e w' => e = .returned (.bool true) ∧ w = w' := by
  go_enter Try.func98, Try.ntmps98
  go_wp2_with fail
  go_ret
  exact ⟨rfl, rfl⟩

def RNone (w : World) (p : Value) : Prop := Calls Try.prog 102 #[p] w fun e w' => e = .returned (.bool true) ∧ w = w'
def WNone (w : World) (p : Value) : Prop := Calls Try.prog 98 #[p] w fun e w' => e = .returned (.bool true) ∧ w = w'

set_option maxHeartbeats 400000 in
theorem next_none (a : Option Addr) (n l m : Int) (w : World) (h : RNone w (.pointer a)) :
    Calls Try.prog 99 #[.pointer a, .int .i64 n, .int .i64 l, .int .i64 m] w fun e w' => e = .returned (.tuple #[.slice none 0 0, .int .i64 7]) ∧ w = w' := by
  go_enter Try.func99, Try.ntmps99
  go_wp2_with fail
  refine Calls.mono h ?_
  rintro e w' ⟨rfl, rfl⟩
  go_wp2_with fail
  go_ret2
  exact ⟨rfl, rfl⟩
set_option maxHeartbeats 400000 in
theorem ruint_none (a : Option Addr) (n : Int) (w : World) (h : RNone w (.pointer a)) :
    Calls Try.prog 44 #[.pointer a, .int .i64 n] w fun e w' => e = .returned (.tuple #[.int .u64 0, .int .i64 7]) ∧ w = w' := by
  go_enter Try.func44, Try.ntmps44
  go_wp2_with fail
  refine (next_none a n 1 8 w h).mono ?_
  rintro e w' ⟨rfl, rfl⟩
  go_wp2_with fail
  refine (gatherU_any none 0 [] _ 0 Bytes.nil (ReadsB.nil_ _ _) (by simp)).mono ?_
  rintro e w2 ⟨rfl, rfl⟩
  go_wp2_with fail
  go_ret2
  exact ⟨rfl, rfl⟩
set_option maxHeartbeats 400000 in
theorem rint_none (a : Option Addr) (n : Int) (w : World) (h : RNone w (.pointer a)) :
    Calls Try.prog 45 #[.pointer a, .int .i64 n] w fun e w' => e = .returned (.tuple #[.int .i64 0, .int .i64 7]) ∧ w = w' := by
  go_enter Try.func45, Try.ntmps45
  go_wp2_with fail
  refine (next_none a n 1 8 w h).mono ?_
  rintro e w' ⟨rfl, rfl⟩
  go_wp2_with fail
  go_ret2
  exact ⟨rfl, rfl⟩
set_option maxHeartbeats 400000 in
theorem rbytes_none (a : Option Addr) (n : Int) (w : World) (h : RNone w (.pointer a)) :
    Calls Try.prog 46 #[.pointer a, .int .i64 n] w fun e w' => e = .returned (.tuple #[.slice none 0 0, .int .i64 7]) ∧ w = w' := by
  go_enter Try.func46, Try.ntmps46
  go_wp2_with fail
  refine (next_none a n 0 4611686018427387904 w h).mono ?_
  rintro e w' ⟨rfl, rfl⟩
  go_wp2_with fail
  go_ret2
  exact ⟨rfl, rfl⟩
set_option maxHeartbeats 400000 in
theorem at_none (a : Option Addr) (w : World) (h : RNone w (.pointer a)) :
    Calls Try.prog 48 #[.pointer a] w fun e w' => e = .returned (.int .i64 0) ∧ w = w' := by
  go_enter Try.func48, Try.ntmps48
  go_wp2_with fail
  refine Calls.mono h ?_
  rintro e w' ⟨rfl, rfl⟩
  go_wp2_with fail
  go_ret
  exact ⟨rfl, rfl⟩
set_option maxHeartbeats 400000 in
theorem left_none (a : Option Addr) (w : World) (h : RNone w (.pointer a)) :
    Calls Try.prog 47 #[.pointer a] w fun e w' => e = .returned (.int .i64 0) ∧ w = w' := by
  go_enter Try.func47, Try.ntmps47
  go_wp2_with fail
  refine Calls.mono h ?_
  rintro e w' ⟨rfl, rfl⟩
  go_wp2_with fail
  go_ret
  exact ⟨rfl, rfl⟩
set_option maxHeartbeats 400000 in
theorem putU_none (a : Option Addr) (n x : Int) (b : Bool) (w : World) (h : WNone w (.pointer a)) :
    Calls Try.prog 96 #[.pointer a, .int .i64 n, .int .u64 x, .bool b] w fun e w' => e = .returned (.int .i64 7) ∧ w = w' := by
  go_enter Try.func96, Try.ntmps96
  go_wp2_with fail
  refine Calls.mono h ?_
  rintro e w' ⟨rfl, rfl⟩
  go_wp2_with fail
  go_ret
  exact ⟨rfl, rfl⟩
set_option maxHeartbeats 400000 in
theorem putI_none (a : Option Addr) (n x : Int) (b : Bool) (w : World) (h : WNone w (.pointer a)) :
    Calls Try.prog 97 #[.pointer a, .int .i64 n, .int .i64 x, .bool b] w fun e w' => e = .returned (.int .i64 7) ∧ w = w' := by
  go_enter Try.func97, Try.ntmps97
  go_wp2_with fail
  refine Calls.mono h ?_
  rintro e w' ⟨rfl, rfl⟩
  go_wp2_with fail
  go_ret
  exact ⟨rfl, rfl⟩
set_option maxRecDepth 100000 in
set_option maxHeartbeats 1000000 in
theorem wuint_none (a : Option Addr) (n x : Int) (w : World) (h : WNone w (.pointer a)) :
    Calls Try.prog 33 #[.pointer a, .int .i64 n, .int .u64 x] w fun e w' => e = .returned (.int .i64 7) ∧ w = w' := by
  have hp := fun b => Lib.hid (putU_none a n x b w h)
  by_cases h1 : n < 1
  · go_enter Try.func33, Try.ntmps33
    go_wp2_with fail
    refine (hp _).out.mono ?_
    rintro e w' ⟨rfl, rfl⟩
    go_wp2_with fail
    go_ret
    exact ⟨rfl, rfl⟩
  · by_cases h2 : 7 < n
    · go_enter Try.func33, Try.ntmps33
      go_wp2_with fail
      refine (hp _).out.mono ?_
      rintro e w' ⟨rfl, rfl⟩
      go_wp2_with fail
      go_ret
      exact ⟨rfl, rfl⟩
    · have h3 : 8 * n ≤ 64 := by omega
      have h4 : 0 ≤ 8 * n := by omega
      go_enter Try.func33, Try.ntmps33
      go_wp2_with fail
      all_goals
        refine (hp _).out.mono ?_
        rintro e w' ⟨rfl, rfl⟩
        go_wp2_with fail
        go_ret
        exact ⟨rfl, rfl⟩
set_option maxRecDepth 100000 in
set_option maxHeartbeats 1000000 in
theorem wint_none (a : Option Addr) (n x : Int) (w : World) (h : WNone w (.pointer a)) :
    Calls Try.prog 34 #[.pointer a, .int .i64 n, .int .i64 x] w fun e w' => e = .returned (.int .i64 7) ∧ w = w' := by
  have hp := fun b => Lib.hid (putI_none a n x b w h)
  by_cases h1 : n < 1
  · go_enter Try.func34, Try.ntmps34
    go_wp2_with fail
    refine (hp _).out.mono ?_
    rintro e w' ⟨rfl, rfl⟩
    go_wp2_with fail
    go_ret
    exact ⟨rfl, rfl⟩
  · by_cases h2 : 7 < n
    · go_enter Try.func34, Try.ntmps34
      go_wp2_with fail
      refine (hp _).out.mono ?_
      rintro e w' ⟨rfl, rfl⟩
      go_wp2_with fail
      go_ret
      exact ⟨rfl, rfl⟩
    · have h3 : 8 * n - 1 ≤ 64 := by omega
      have h4 : 0 ≤ 8 * n - 1 := by omega
      go_enter Try.func34, Try.ntmps34
      go_wp2_with fail
      all_goals
        refine (hp _).out.mono ?_
        rintro e w' ⟨rfl, rfl⟩
        go_wp2_with fail
        go_ret
        exact ⟨rfl, rfl⟩
set_option maxHeartbeats 400000 in
theorem wbytes_none (a : Option Addr) (v : Value) (w : World) (h : WNone w (.pointer a)) :
    Calls Try.prog 38 #[.pointer a, v] w fun e w' => e = .returned (.int .i64 7) ∧ w = w' := by
  go_enter Try.func38, Try.ntmps38
  go_wp2_with fail
  refine Calls.mono h ?_
  rintro e w' ⟨rfl, rfl⟩
  go_wp2_with fail
  go_ret
  exact ⟨rfl, rfl⟩
set_option maxHeartbeats 400000 in
theorem out_none (a : Option Addr) (w : World) (h : WNone w (.pointer a)) :
    Calls Try.prog 41 #[.pointer a] w fun e w' => e = .returned (.slice none 0 0) ∧ w = w' := by
  go_enter Try.func41, Try.ntmps41
  go_wp2_with fail
  refine Calls.mono h ?_
  rintro e w' ⟨rfl, rfl⟩
  go_wp2_with fail
  go_ret
  exact ⟨rfl, rfl⟩
set_option maxHeartbeats 400000 in
theorem len_none (a : Option Addr) (w : World) (h : WNone w (.pointer a)) :
    Calls Try.prog 40 #[.pointer a] w fun e w' => e = .returned (.int .i64 0) ∧ w = w' := by
  go_enter Try.func40, Try.ntmps40
  go_wp2_with fail
  refine Calls.mono h ?_
  rintro e w' ⟨rfl, rfl⟩
  go_wp2_with fail
  go_ret
  exact ⟨rfl, rfl⟩

set_option maxRecDepth 100000 in
set_option maxHeartbeats 1000000 in
theorem walk (n : Int) (v1 : Value) (w : World) (w0 : (Lit.int .i64 n).wf = true) :
    Calls Try.prog 6 #[.int .i64 n, v1] w fun e w' => e = .returned (.bool true) ∧ Below w.heap.size w w' := by
  go_enter Try.func6, Try.ntmps6
  go_wp2_with (first
    | (go_at_call 44; refine (ruint_none none n _ (rnone_nil _)).mono ?_; rintro e w' ⟨rfl, rfl⟩)
    | (go_at_call 45; refine (rint_none (some ⟨w.heap.size, 0, none⟩) n _ (rnone_zero _ _ (by simp))).mono ?_; rintro e w' ⟨rfl, rfl⟩)
    | (go_at_call 46; refine (rbytes_none none n _ (rnone_nil _)).mono ?_; rintro e w' ⟨rfl, rfl⟩)
    | (go_at_call 48; refine (at_none none _ (rnone_nil _)).mono ?_; rintro e w' ⟨rfl, rfl⟩)
    | (go_at_call 47; refine (left_none (some ⟨w.heap.size, 0, none⟩) _ (rnone_zero _ _ (by simp))).mono ?_; rintro e w' ⟨rfl, rfl⟩)
    | (go_at_call 33; refine (wuint_none none n 1 _ (wnone_nil _)).mono ?_; rintro e w' ⟨rfl, rfl⟩)
    | (go_at_call 34; refine (wint_none (some ⟨w.heap.size + 1, 0, none⟩) n 1 _ (wnone_zero _ _ (by simp))).mono ?_; rintro e w' ⟨rfl, rfl⟩)
    | (go_at_call 38; refine (wbytes_none none v1 _ (wnone_nil _)).mono ?_; rintro e w' ⟨rfl, rfl⟩)
    | (go_at_call 41; refine (out_none (some ⟨w.heap.size + 1, 0, none⟩) _ (wnone_zero _ _ (by simp))).mono ?_; rintro e w' ⟨rfl, rfl⟩)
    | (go_at_call 40; refine (len_none none _ (wnone_nil _)).mono ?_; rintro e w' ⟨rfl, rfl⟩))
  go_ret
  exact ⟨rfl, ((Below.refl _ _).alloc (Nat.le_refl _) _).alloc (by simp) _⟩

set_option maxRecDepth 100000 in
theorem lifted (os : Os) (started : os.Started) (H : Type) (enc : TypeId × Value → H) :
    ReturnsInHanded {} Try.checked os 6 .any (Rows.wireZeroSpec.pre6 enc Try.prog Try.f6 Rows.wireZeroRow.domain false) (Rows.wireZeroSpec.post enc Try.prog Try.f6 false true false false) := by
  refine returnsInHanded_of_change (C := Try.checked) own started (by kernel_rfl) Try.func6
    (ChangeSpec.witness6 (enc := enc) (C := Try.checked) false ⟨#[], #[.int .i64 0, .slice none 0 0], []⟩ 8 (by kernel_rfl) (by kernel_rfl) (by kernel_rfl) (by kernel_rfl)) ?_
  intro W base args ds gs before hval0 hW hcnd _
  have hval : ∀ (j : Nat) t v, Try.f6.params[j]? = some t → args[j]? = some v → Value.okWide Try.prog W .any base t v := hval0
  have hW' := hW
  obtain ⟨p, q, hA0, hV, rfl, hfz, hnd⟩ := hW
  have hA : DataW.TrodAll enc Try.prog W 0 (fun _ => true) true Try.f6.params.toList args.toList ds p := hA0
  rw [Try.params6] at hA hval
  obtain ⟨v0, vs0, d0, ds0, p0, q0, hargs, rfl, rfl, h0, r0⟩ := trodAll_cons hA
  obtain ⟨v1, vs1, d1, ds1, p1, q1, rfl, rfl, rfl, h1, r1⟩ := trodAll_cons r0
  obtain ⟨rfl, rfl, rfl⟩ := trodAll_nil r1
  obtain rfl : args = #[v0, v1] := by cases args; simp_all
  obtain ⟨rfl, rfl⟩ := trodVars_none hV
  obtain ⟨x0, rfl, rfl, rfl, wx0⟩ := open_int Try.underlying3 (hval 0 3 v0 rfl rfl) h0
  have k1 := h1
  have lt1 : ∀ x ∈ p1, x.block < W.heap.size := by obtain ⟨m, hm⟩ := k1; exact DataW.trod_lt m _ _ _ hm
  clear hA0 hval0
  refine (walk x0 v1 W wx0).mono fun e W' ⟨he, bel⟩ => ?_
  subst he
  exact ⟨_, rfl, _, _, _, [], _, [], hW', trodAll_mk1 (shut_bool Try.underlying4 _), (trodAll_cons_mk (shut_int Try.underlying3 wx0) (trodAll_cons_mk (Below.trod laidOut (by kernel_rfl) (of_decide_eq_true (by kernel_rfl)) k1 bel lt1) trodAll_mk0)), rfl, bel.frame _, fun h => by cases h⟩

theorem closed : joinedFacts Try.prog 6 Try.f6 Rows.wireZeroSpec Rows.wireZeroRow = true := by
  have h1 := mayEnter_fact
  have h2 : (Rows.wireZeroRow.lifted == Try.prog.liftsFinal) = true := by rw [lifts_fact]; rfl
  have h3 : (Try.prog.make == some Rows.wireZeroRow.make) = true := by rw [make_fact]; rfl
  have hfin : ∀ b : Bool, b = true → b = true := fun _ h => h
  unfold joinedFacts
  rw [h1, h2, h3]
  clear h1 h2 h3
  refine hfin _ ?_
  kernel_rfl

theorem over : Rows.wireZeroRow.holds Try.pinned (OpenSpec.ofChange Rows.wireZeroSpec) :=
  OpenClaim.holds_of_wide 6 Try.f6 rfl rfl rfl rfl rfl rfl rfl ⟨rfl, rfl, rfl, rfl, rfl⟩ rfl rfl rfl rfl rfl (by kernel_rfl) Try.func6 closed
    (of_decide_eq_true (by kernel_rfl)) (by unfold Func.isWrapper; first | (rw [if_pos (by decide +kernel)]; kernel_rfl) | (rw [if_neg (by decide +kernel)]; exact ⟨rfl, rfl⟩))
    (fun os started H enc _ => lifted os started H enc)

/-- The statement. -/
theorem proved : Rows.WireZeroSaid := over
#print axioms proved
end Go.Proofs.Ytobjalacaohdcaa.WireZeroP
