/- WireFits: for every count, every number without a sign and every number with one: a number is taken in so many bytes just if it fits. -/
import Derived.Test.YtobjalacaohdcaaWMake
import Derived.Test.YtobjalacaohdcaaHead
import Derived.ProofKit
import Derived.OpenShut
import Derived.ShutString
import Derived.ChangeOld
namespace Go.Proofs.Ytobjalacaohdcaa.WireFitsP
open Go.ChangeShapes Go.WideShapes Go.ChangeAt Go.RowKit
open Go.ChangeMaps (open_string shut_string)
set_option linter.unusedVariables false

theorem own : ownKnob Try.prog.godebug = none := by kernel_rfl
theorem laidOut : laidOutB Try.prog = true := by kernel_rfl

theorem code_room {K len most : Int} {b : Bool} (h1 : 1 ≤ K) (h2 : K ≤ 8) (h3 : len + K ≤ most) : putCode K b len most = if b = true then 0 else 1 := by
  unfold putCode
  cases b with
  | true => rw [if_neg (by simp; omega), if_neg (by omega)]; rfl
  | false => rw [if_pos (by simp)]; rfl
theorem new_len {K x most : Int} {b : Bool} {xs : List Int} (h1 : 1 ≤ K) : ((putNew K x b most xs).length : Int) ≤ xs.length + K := by
  unfold putNew
  split
  · rw [List.length_append, beN_length]; omega
  · omega

set_option maxRecDepth 100000 in
set_option maxHeartbeats 2000000 in
theorem walk_small (n x y : Int) (K : Nat) (w : World) (hn0 : 0 ≤ n) (hn1 : n ≤ 255) (hK : 1 + n % 8 = K) (hK8 : K < 8) (hx0 : 0 ≤ x) (hx1 : x < 18446744073709551616)
    (hy0 : -9223372036854775808 ≤ y) (hy1 : y < 9223372036854775808) :
    Calls Try.prog 3 #[.int .u8 n, .int .u64 x, .int .i64 y] w fun e w' => e = .returned (.bool true) ∧ Below w.heap.size w w' := by
  have hK1 : 1 ≤ K := by omega
  have hi := fitsI_iff K y (by omega) (by omega)
  have hs := pow_small K (by omega)
  have hh := half_pow K (by omega)
  have hp : (0 : Int) < 2 ^ (8 * K - 1) := Int.pow_pos (by decide)
  have hq := pow256 K
  have hfu : fitsU K x = decide (x < 256 ^ K) := by
    by_cases h : x < 256 ^ K
    · rw [fitsU_of K x hx0 h, decide_eq_true h]
    · rw [decide_eq_false h]
      unfold fitsU
      have a : decide ((K : Int) < 1) = false := by simp; omega
      have b : decide (7 < (K : Int)) = false := by simp; omega
      rw [a, b, Int.toNat_natCast, Bool.false_or, Bool.false_or, beq_eq_false_iff_ne]
      intro hz
      have h1 := Int.mul_ediv_add_emod x (256 ^ K)
      have h2 := Int.emod_lt_of_pos x (show (0 : Int) < 256 ^ K by omega)
      rw [hz] at h1
      simp at h1
      omega
  have hfi : fitsI K y = decide (-(2 ^ (8 * K - 1)) ≤ y ∧ y < 2 ^ (8 * K - 1)) := by
    rw [Bool.eq_iff_iff, hi, decide_eq_true_iff]
  clear hi
  rw [← hq] at hh hfu
  generalize hP : (2 : Int) ^ (8 * K - 1) = P at *
  generalize hQ : (2 : Int) ^ (8 * K) = Q at *
  have hh' : Q = P + P := by omega
  replace hh := Lib.hid hh
  replace hh' := Lib.hid hh'
  have hQ1 : Q ≤ 72057594037927936 := by have := hh'.out; omega
  have hQ0 : 0 < Q := by have := hh'.out; omega
  have hp1 : (8 * (K : Int)).toNat = 8 * K := by omega
  have h3 : 8 * (K : Int) ≤ 64 := by omega
  replace hfu := Lib.hid hfu
  replace hfi := Lib.hid hfi
  clear hq
  have hu := fun w F g xs (hW : Wr w F g g 100 xs) (hl : (xs.length : Int) + K ≤ 100) => by
    have := wuint_any F g g 100 xs K x w hW
    rw [code_room (by omega) (by omega) hl, hfu.out] at this
    exact this
  have hv := fun w F g xs (hW : Wr w F g g 100 xs) (hl : (xs.length : Int) + K ≤ 100) => by
    have := wint_any F g g 100 xs K y w hW
    rw [code_room (by omega) (by omega) hl, hfi.out] at this
    exact this
  replace hu := Lib.hid hu
  replace hv := Lib.hid hv
  have hK88 : ((K : Int) == 8) = false := by rw [beq_eq_false_iff_ne]; omega
  have key : ∀ (a b : Bool), (decide (x < Q)) = a → (decide (-P ≤ y ∧ y < P)) = b → Calls Try.prog 3 #[.int .u8 n, .int .u64 x, .int .i64 y] w fun e w' => e = .returned (.bool true) ∧ Below w.heap.size w w' := by
    intro a b ha hb
    have hu2 : ∀ w F g xs, Wr w F g g 100 xs → (xs.length : Int) + K ≤ 100 → Calls Try.prog 33 #[.pointer (some ⟨g, 0, none⟩), .int .i64 K, .int .u64 x] w
        (WPost w F g g 100 (if a = true then 0 else 1) (putNew K x a 100 xs)) := fun w F g xs h1 h2 => by have := hu.out w F g xs h1 h2; rw [ha] at this; exact this
    have hv2 : ∀ w F g xs, Wr w F g g 100 xs → (xs.length : Int) + K ≤ 100 → Calls Try.prog 34 #[.pointer (some ⟨g, 0, none⟩), .int .i64 K, .int .i64 y] w
        (WPost w F g g 100 (if b = true then 0 else 1) (putNew K y b 100 xs)) := fun w F g xs h1 h2 => by have := hv.out w F g xs h1 h2; rw [hb] at this; exact this
    replace hu2 := Lib.hid hu2
    replace hv2 := Lib.hid hv2
    have hcase : (a = true ∧ decide (x < Q) = true ∨ a = false ∧ decide (x < Q) = false) ∧ (b = true ∧ decide (-P ≤ y) = true ∧ decide (y < P) = true ∨ b = false ∧ (decide (-P ≤ y) = false ∨ decide (-P ≤ y) = true ∧ decide (y < P) = false)) := by
      constructor
      · cases a
        · exact .inr ⟨rfl, ha⟩
        · exact .inl ⟨rfl, ha⟩
      · cases b
        · have h := of_decide_eq_false hb
          refine .inr ⟨rfl, ?_⟩
          by_cases h1 : -P ≤ y
          · exact .inr ⟨decide_eq_true h1, decide_eq_false fun h2 => h ⟨h1, h2⟩⟩
          · exact .inl (decide_eq_false h1)
        · have h := of_decide_eq_true hb
          exact .inl ⟨rfl, decide_eq_true h.1, decide_eq_true h.2⟩
    clear ha hb
    obtain ⟨(⟨rfl, ha⟩ | ⟨rfl, ha⟩), (⟨rfl, hb, hb2⟩ | ⟨rfl, (hb | ⟨hb, hb2⟩)⟩)⟩ := hcase
    all_goals
      go_enter Try.func3, Try.ntmps3
      go_wp2_with fail
      refine (newW_ok 100 w (by decide) (by decide)).mono ?_
      rintro e w1 ⟨rfl, hW1, hb1⟩
      go_wp2_with fail
      refine (hu2.out _ _ _ _ hW1 (by simp; omega)).mono ?_
      rintro e w2 ⟨rfl, hW2, hT2⟩
      have hl2 : ∀ b, ((putNew K x b 100 []).length : Int) ≤ K := fun b => by have := new_len (K := K) (x := x) (most := 100) (b := b) (xs := []) (by omega); simpa using this
      go_wp2_with fail
      refine (hv2.out _ _ _ _ hW2 (by have := hl2 true; have := hl2 false; omega)).mono ?_
      rintro e w3 ⟨rfl, hW3, hT3⟩
      have hbb : Below w.heap.size w w3 := hb1.trans (((hT2.next hT3)).below hb1.size (fun k hk => hk.1))
      clear hW1 hW2 hW3 hT2 hT3 hb1
      go_wp2_with fail
      go_ret
      exact ⟨rfl, hbb⟩
  exact key _ _ rfl rfl

set_option maxRecDepth 100000 in
set_option maxHeartbeats 2000000 in
theorem walk_eight (n x y : Int) (w : World) (hn0 : 0 ≤ n) (hn1 : n ≤ 255) (hK : n % 8 = 7) (hx0 : 0 ≤ x) (hx1 : x < 18446744073709551616)
    (hy0 : -9223372036854775808 ≤ y) (hy1 : y < 9223372036854775808) :
    Calls Try.prog 3 #[.int .u8 n, .int .u64 x, .int .i64 y] w fun e w' => e = .returned (.bool true) ∧ Below w.heap.size w w' := by
  have hu : ∀ w F g xs, Wr w F g g 100 xs → (xs.length : Int) + 8 ≤ 100 → Calls Try.prog 33 #[.pointer (some ⟨g, 0, none⟩), .int .i64 8, .int .u64 x] w
        (WPost w F g g 100 0 (putNew 8 x (fitsU 8 x) 100 xs)) := fun w F g xs hW hl => by
    have := wuint_any F g g 100 xs 8 x w hW
    rw [code_room (by omega) (by omega) hl, show fitsU 8 x = true from by simp [fitsU]] at this
    rw [show fitsU 8 x = true from by simp [fitsU]]
    exact this
  have hv : ∀ w F g xs, Wr w F g g 100 xs → (xs.length : Int) + 8 ≤ 100 → Calls Try.prog 34 #[.pointer (some ⟨g, 0, none⟩), .int .i64 8, .int .i64 y] w
        (WPost w F g g 100 0 (putNew 8 y (fitsI 8 y) 100 xs)) := fun w F g xs hW hl => by
    have := wint_any F g g 100 xs 8 y w hW
    rw [code_room (by omega) (by omega) hl, show fitsI 8 y = true from by simp [fitsI]] at this
    rw [show fitsI 8 y = true from by simp [fitsI]]
    exact this
  replace hu := Lib.hid hu
  replace hv := Lib.hid hv
  go_enter Try.func3, Try.ntmps3
  go_wp2_with fail
  refine (newW_ok 100 w (by decide) (by decide)).mono ?_
  rintro e w1 ⟨rfl, hW1, hb1⟩
  go_wp2_with fail
  refine (hu.out _ _ _ _ hW1 (by simp)).mono ?_
  rintro e w2 ⟨rfl, hW2, hT2⟩
  have hl2 : ((putNew 8 x (fitsU 8 x) 100 []).length : Int) ≤ 8 := by have := new_len (K := 8) (x := x) (most := 100) (b := fitsU 8 x) (xs := []) (by omega); simpa using this
  go_wp2_with fail
  refine (hv.out _ _ _ _ hW2 (by omega)).mono ?_
  rintro e w3 ⟨rfl, hW3, hT3⟩
  have hbb : Below w.heap.size w w3 := hb1.trans (((hT2.next hT3)).below hb1.size (fun k hk => hk.1))
  clear hW1 hW2 hW3 hT2 hT3 hb1
  go_wp2_with fail
  go_ret
  exact ⟨rfl, hbb⟩

theorem walk (n x y : Int) (w : World) (w0 : (Lit.int .u8 n).wf = true) (w1 : (Lit.int .u64 x).wf = true) (w2 : (Lit.int .i64 y).wf = true) :
    Calls Try.prog 3 #[.int .u8 n, .int .u64 x, .int .i64 y] w fun e w' => e = .returned (.bool true) ∧ Below w.heap.size w w' := by
  have h0 := bounds_u8 w0
  have h1 := bounds_u64 w1
  have h2 := bounds_i64 w2
  by_cases h : n % 8 = 7
  · exact walk_eight n x y w h0.1 h0.2 h h1.1 (by omega) h2.1 (by omega)
  · obtain ⟨K, hK⟩ := Int.eq_ofNat_of_zero_le (show 0 ≤ 1 + n % 8 by omega)
    exact walk_small n x y K w h0.1 h0.2 hK (by omega) h1.1 (by omega) h2.1 (by omega)

set_option maxRecDepth 100000 in
theorem lifted (os : Os) (started : os.Started) (H : Type) (enc : TypeId × Value → H) :
    ReturnsInHanded {} Try.checked os 3 .any (Rows.wireFitsSpec.pre6 enc Try.prog Try.f3 Rows.wireFitsRow.domain false) (Rows.wireFitsSpec.post enc Try.prog Try.f3 false true false false) := by
  refine returnsInHanded_of_change (C := Try.checked) own started (by kernel_rfl) Try.func3
    (ChangeSpec.witness6 (enc := enc) (C := Try.checked) false ⟨#[], #[.int .u8 0, .int .u64 0, .int .i64 0], []⟩ 8 (by kernel_rfl) (by kernel_rfl) (by kernel_rfl) (by kernel_rfl)) ?_
  intro W base args ds gs before hval0 hW hcnd _
  have hval : ∀ (j : Nat) t v, Try.f3.params[j]? = some t → args[j]? = some v → Value.okWide Try.prog W .any base t v := hval0
  have hW' := hW
  obtain ⟨p, q, hA0, hV, rfl, hfz, hnd⟩ := hW
  have hA : DataW.TrodAll enc Try.prog W 0 (fun _ => true) true Try.f3.params.toList args.toList ds p := hA0
  rw [Try.params3] at hA hval
  obtain ⟨v0, vs0, d0, ds0, p0, q0, hargs, rfl, rfl, h0, r0⟩ := trodAll_cons hA
  obtain ⟨v1, vs1, d1, ds1, p1, q1, rfl, rfl, rfl, h1, r1⟩ := trodAll_cons r0
  obtain ⟨v2, vs2, d2, ds2, p2, q2, rfl, rfl, rfl, h2, r2⟩ := trodAll_cons r1
  obtain ⟨rfl, rfl, rfl⟩ := trodAll_nil r2
  obtain rfl : args = #[v0, v1, v2] := by cases args; simp_all
  obtain ⟨rfl, rfl⟩ := trodVars_none hV
  obtain ⟨x0, rfl, rfl, rfl, wx0⟩ := open_int Try.underlying5 (hval 0 5 v0 rfl rfl) h0
  obtain ⟨x1, rfl, rfl, rfl, wx1⟩ := open_int Try.underlying22 (hval 1 22 v1 rfl rfl) h1
  obtain ⟨x2, rfl, rfl, rfl, wx2⟩ := open_int Try.underlying2 (hval 2 2 v2 rfl rfl) h2
  clear hA0 hval0
  refine (walk x0 x1 x2 W wx0 wx1 wx2).mono fun e W' ⟨he, bel⟩ => ?_
  subst he
  exact ⟨_, rfl, _, _, _, [], _, [], hW', trodAll_mk1 (shut_bool Try.underlying4 _), (trodAll_cons_mk (shut_int Try.underlying5 wx0) (trodAll_cons_mk (shut_int Try.underlying22 wx1) (trodAll_cons_mk (shut_int Try.underlying2 wx2) trodAll_mk0))), rfl, bel.frame _, fun h => by cases h⟩

theorem closed : joinedFacts Try.prog 3 Try.f3 Rows.wireFitsSpec Rows.wireFitsRow = true := by
  have h1 := mayEnter_fact
  have h2 : (Rows.wireFitsRow.lifted == Try.prog.liftsFinal) = true := by rw [lifts_fact]; rfl
  have h3 : (Try.prog.make == some Rows.wireFitsRow.make) = true := by rw [make_fact]; rfl
  have hfin : ∀ b : Bool, b = true → b = true := fun _ h => h
  unfold joinedFacts
  rw [h1, h2, h3]
  clear h1 h2 h3
  refine hfin _ ?_
  kernel_rfl

theorem over : Rows.wireFitsRow.holds Try.pinned (OpenSpec.ofChange Rows.wireFitsSpec) :=
  OpenClaim.holds_of_wide 3 Try.f3 rfl rfl rfl rfl rfl rfl rfl ⟨rfl, rfl, rfl, rfl, rfl⟩ rfl rfl rfl rfl rfl (by kernel_rfl) Try.func3 closed
    (of_decide_eq_true (by kernel_rfl)) (by unfold Func.isWrapper; first | (rw [if_pos (by decide +kernel)]; kernel_rfl) | (rw [if_neg (by decide +kernel)]; exact ⟨rfl, rfl⟩))
    (fun os started H enc _ => lifted os started H enc)

/-- The statement. -/
theorem proved : Rows.WireFitsSaid := over
#print axioms proved
end Go.Proofs.Ytobjalacaohdcaa.WireFitsP
