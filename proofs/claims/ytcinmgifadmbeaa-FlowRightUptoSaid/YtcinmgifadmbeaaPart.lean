/- How A and B stand in bytes. -/
import Derived.Test.YtcinmgifadmbeaaPlain
import Derived.Test.YtcinmgifadmbeaaOpsAwake
import Derived.Test.YtcinmgifadmbeaaWMake
import Derived.Test.YtcinmgifadmbeaaRead
import Derived.Lib.Hide
namespace Go.Proofs.Ytcinmgifadmbeaa
open Go.RowKit
set_option linter.unusedVariables false

/-- How many bytes A has, has it a sign; and B. -/
def pn0 (s : Int) : Int := if s = 105 ∨ s = 117 ∨ s = 98 then 1 else if s = 99 ∨ s = 115 ∨ s = 116 then 2 else 0
def ps0 (s : Int) : Bool := decide (s = 98 ∨ s = 115 ∨ s = 116)
def pn1 (s : Int) : Int := if s = 105 then 1 else 0
def ps1 (s : Int) : Bool := decide (s = 105)
def partsV (s : Int) : Value := .agg #[.int .i64 (pn0 s), .bool (ps0 s), .int .i64 (pn1 s), .bool (ps1 s)]

set_option maxRecDepth 100000 in
set_option maxHeartbeats 2000000 in
theorem parts_any (s : Int) (w : World) :
    Calls Try.prog 39 #[.int .u8 s] w fun e w' => e = .returned (partsV s) ∧ Below w.heap.size w w' := by
  by_cases h105 : s = 105
  · subst h105
    go_enter Try.func39, Try.ntmps39
    go_wp2_with fail
    refine bodyPost_ret (v := .agg #[.int .i64 1, .bool false, .int .i64 1, .bool true]) (by simp [results, Try.results39, go_sem]) rfl ⟨?_, ?_⟩
    · simp [partsV, pn0, ps0, pn1, ps1]
    · exact ((Below.refl _ _).alloc (Nat.le_refl _) _).alloc (by simp) _
  by_cases h117 : s = 117
  · subst h117
    go_enter Try.func39, Try.ntmps39
    go_wp2_with fail
    refine bodyPost_ret (v := .agg #[.int .i64 1, .bool false, .int .i64 0, .bool false]) (by simp [results, Try.results39, go_sem]) rfl ⟨?_, ?_⟩
    · simp [partsV, pn0, ps0, pn1, ps1]
    · exact ((Below.refl _ _).alloc (Nat.le_refl _) _).alloc (by simp) _
  by_cases h98 : s = 98
  · subst h98
    go_enter Try.func39, Try.ntmps39
    go_wp2_with fail
    refine bodyPost_ret (v := .agg #[.int .i64 1, .bool true, .int .i64 0, .bool false]) (by simp [results, Try.results39, go_sem]) rfl ⟨?_, ?_⟩
    · simp [partsV, pn0, ps0, pn1, ps1]
    · exact ((Below.refl _ _).alloc (Nat.le_refl _) _).alloc (by simp) _
  by_cases h99 : s = 99
  · subst h99
    go_enter Try.func39, Try.ntmps39
    go_wp2_with fail
    refine bodyPost_ret (v := .agg #[.int .i64 2, .bool false, .int .i64 0, .bool false]) (by simp [results, Try.results39, go_sem]) rfl ⟨?_, ?_⟩
    · simp [partsV, pn0, ps0, pn1, ps1]
    · exact ((Below.refl _ _).alloc (Nat.le_refl _) _).alloc (by simp) _
  by_cases h115 : s = 115
  · subst h115
    go_enter Try.func39, Try.ntmps39
    go_wp2_with fail
    refine bodyPost_ret (v := .agg #[.int .i64 2, .bool true, .int .i64 0, .bool false]) (by simp [results, Try.results39, go_sem]) rfl ⟨?_, ?_⟩
    · simp [partsV, pn0, ps0, pn1, ps1]
    · exact ((Below.refl _ _).alloc (Nat.le_refl _) _).alloc (by simp) _
  by_cases h116 : s = 116
  · subst h116
    go_enter Try.func39, Try.ntmps39
    go_wp2_with fail
    refine bodyPost_ret (v := .agg #[.int .i64 2, .bool true, .int .i64 0, .bool false]) (by simp [results, Try.results39, go_sem]) rfl ⟨?_, ?_⟩
    · simp [partsV, pn0, ps0, pn1, ps1]
    · exact ((Below.refl _ _).alloc (Nat.le_refl _) _).alloc (by simp) _
  have e105 : (s == 105) = false := by simpa using h105
  have e117 : (s == 117) = false := by simpa using h117
  have e98 : (s == 98) = false := by simpa using h98
  have e99 : (s == 99) = false := by simpa using h99
  have e115 : (s == 115) = false := by simpa using h115
  have e116 : (s == 116) = false := by simpa using h116
  go_enter Try.func39, Try.ntmps39
  go_wp2_with fail
  refine bodyPost_ret (v := .agg #[.int .i64 0, .bool false, .int .i64 0, .bool false]) (by simp [results, Try.results39, go_sem]) rfl ⟨?_, ?_⟩
  · simp [partsV, pn0, ps0, pn1, ps1, h105, h117, h98, h99, h115, h116]
  · exact ((Below.refl _ _).alloc (Nat.le_refl _) _).alloc (by simp) _

theorem Wr.from_ {w W w' : World} {F : Nat → Prop} {base g : Nat} {most : Int} {xs xs' : List Int} (h0 : Wr w F base g most xs) (hb : Below w.heap.size w W) (h : Wr w' (Grow F W w') base g most xs') (hT : Turned F W w') :
    Wr w' (Grow F w w') base g most xs' ∧ Turned F w w' := by
  obtain ⟨A0, c0, _, _, _, _, hbg0, hFg0, _, hFw0⟩ := h0
  have hg0 := hFw0 g hFg0
  obtain ⟨A, c, hB, hO, hlm, hm, hbg, hFg, hFv, hFw⟩ := h
  have s1 := hb.size
  have up : ∀ i, Grow F W w' i → Grow F w w' i := fun i hi => by
    rcases hi with hi | hi
    · exact .inl hi
    · exact .inr ⟨by omega, hi.2⟩
  refine ⟨⟨A, c, hB, hO, hlm, hm, hbg, up _ hFg, fun k hk => up _ (hFv k hk), fun k hk => ?_⟩, (Turned.of_below (F := F) hb).trans hT (fun i hi h => h)⟩
  rcases hk with h | h
  · exact hFw k (.inl h)
  · exact ⟨by omega, h.2⟩
theorem Wr.grow {w w' : World} {F : Nat → Prop} {base g : Nat} {most : Int} {xs : List Int} (h : Wr w F base g most xs) (k : Below w.heap.size w w') : Wr w' (Grow F w w') base g most xs ∧ Turned F w w' := by
  refine ⟨?_, Turned.of_below k⟩
  have hg0 := h
  obtain ⟨_, _, _, _, _, _, _, hFg0, _, hFw0⟩ := hg0
  have hg1 := hFw0 g hFg0
  obtain ⟨A, c, hB, hO, hlm, hm, hbg, hFg, hFv, hFw⟩ := h.below k
  refine ⟨A, c, hB, hO, hlm, hm, hbg, .inl hFg, fun k hk => .inl (hFv k hk), fun k hk => ?_⟩
  rcases hk with h | h
  · exact hFw k h
  · exact ⟨by omega, h.2⟩

/-- What a part's writing comes to. -/
def PWr (w : World) (F : Nat → Prop) (base g : Nat) (most : Int) (b : Bool) (xs' : List Int) (e : Ending) (w' : World) : Prop :=
  e = .returned (.bool b) ∧ Wr w' (Grow F w w') base g most xs' ∧ Turned F w w'

set_option maxRecDepth 100000 in
set_option maxHeartbeats 2000000 in
theorem write_none (F : Nat → Prop) (base g : Nat) (most : Int) (xs : List Int) (sg : Bool) (x : Int) (w : World) (hW : Wr w F base g most xs) :
    Calls Try.prog 40 #[.agg #[.int .i64 0, .bool sg], .pointer (some ⟨g, 0, none⟩), .int .i64 x] w (PWr w F base g most (x == 0) xs) := by
  go_enter Try.func40, Try.ntmps40
  go_wp2_with fail
  go_ret
  exact ⟨rfl, hW.grow ((Below.refl _ _).alloc (Nat.le_refl _) _)⟩

set_option maxRecDepth 100000 in
set_option maxHeartbeats 2000000 in
theorem write_sign (F : Nat → Prop) (base g : Nat) (most : Int) (xs : List Int) (n x : Int) (hn : n ≠ 0) (w : World) (hW : Wr w F base g most xs) :
    Calls Try.prog 40 #[.agg #[.int .i64 n, .bool true], .pointer (some ⟨g, 0, none⟩), .int .i64 x] w (PWr w F base g most (putCode n (fitsI n x) xs.length most == 0) (putNew n x (fitsI n x) most xs)) := by
  have e0 : (n == 0) = false := by simpa using hn
  have hb : Below w.heap.size w (w.alloc (.cells #[.int .i64 n, .bool true] 80)) := (Below.refl _ _).alloc (Nat.le_refl _) _
  have gw := Lib.hid (wint_any F base g most xs n x _ (hW.below hb))
  go_enter Try.func40, Try.ntmps40
  go_wp2_with fail
  refine gw.out.mono ?_
  rintro _ w1 ⟨rfl, hW1, hT1⟩
  generalize putCode n (fitsI n x) (↑xs.length) most = code at *
  go_wp2_with fail
  go_ret
  exact ⟨rfl, Wr.from_ hW hb hW1 hT1⟩

set_option maxRecDepth 100000 in
set_option maxHeartbeats 2000000 in
theorem write_plain (F : Nat → Prop) (base g : Nat) (most : Int) (xs : List Int) (n x : Int) (hn : n ≠ 0) (h0 : 0 ≤ x) (h1 : x < 9223372036854775808) (w : World) (hW : Wr w F base g most xs) :
    Calls Try.prog 40 #[.agg #[.int .i64 n, .bool false], .pointer (some ⟨g, 0, none⟩), .int .i64 x] w (PWr w F base g most (putCode n (fitsU n x) xs.length most == 0) (putNew n x (fitsU n x) most xs)) := by
  have e0 : (n == 0) = false := by simpa using hn
  have e1 : decide (0 ≤ x) = true := decide_eq_true h0
  have e2 : IntKind.u64.wrap x = x := by simp [IntKind.wrap, IntKind.bits, IntKind.signed]; omega
  have hb : Below w.heap.size w (w.alloc (.cells #[.int .i64 n, .bool false] 80)) := (Below.refl _ _).alloc (Nat.le_refl _) _
  have gw := Lib.hid (wuint_any F base g most xs n x _ (hW.below hb))
  go_enter Try.func40, Try.ntmps40
  go_wp2_with fail
  refine gw.out.mono ?_
  rintro _ w1 ⟨rfl, hW1, hT1⟩
  generalize putCode n (fitsU n x) (↑xs.length) most = code at *
  go_wp2_with fail
  go_ret
  exact ⟨rfl, Wr.from_ hW hb hW1 hT1⟩

set_option maxRecDepth 100000 in
set_option maxHeartbeats 2000000 in
theorem write_neg (F : Nat → Prop) (base g : Nat) (most : Int) (xs : List Int) (n x : Int) (hn : n ≠ 0) (h0 : x < 0) (w : World) (hW : Wr w F base g most xs) :
    Calls Try.prog 40 #[.agg #[.int .i64 n, .bool false], .pointer (some ⟨g, 0, none⟩), .int .i64 x] w (PWr w F base g most false xs) := by
  have e0 : (n == 0) = false := by simpa using hn
  have e1 : decide (0 ≤ x) = false := decide_eq_false (by omega)
  have e2 : ¬ 0 ≤ x := by omega
  go_enter Try.func40, Try.ntmps40
  go_wp2_with fail
  go_ret
  exact ⟨rfl, hW.grow ((Below.refl _ _).alloc (Nat.le_refl _) _)⟩
end Go.Proofs.Ytcinmgifadmbeaa
