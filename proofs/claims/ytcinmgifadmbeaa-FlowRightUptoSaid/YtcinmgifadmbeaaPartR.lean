/- A part's reading. -/
import Derived.Test.YtcinmgifadmbeaaPart
namespace Go.Proofs.Ytcinmgifadmbeaa
open Go.RowKit
set_option linter.unusedVariables false

/-- The number that a part's bytes make. -/
def rdP (n : Int) (sg : Bool) (ys : List Int) : Int := if n = 0 then 0 else if sg then sval ys else gfold 0 ys
/-- What a part's reading comes to. -/
def RPost (w : World) (g : Nat) (xs : List Int) (k n : Nat) (v : Int) (e : Ending) (w' : World) : Prop :=
  e = .returned (.int .i64 v) ∧ Rd w' g xs (k + n) ∧ Turned (fun i => i = g) w w'

set_option maxRecDepth 100000 in
set_option maxHeartbeats 2000000 in
theorem read_any (g k : Nat) (n : Nat) (sg : Bool) (xs : List Int) (w : World) (hb : Bytes xs) (hR : Rd w g xs k) (hn : n ≤ 2) (hk : k + n ≤ xs.length) :
    Calls Try.prog 44 #[.agg #[.int .i64 n, .bool sg], .pointer (some ⟨g, 0, none⟩)] w (RPost w g xs k n (rdP n sg ((xs.drop k).take n))) := by
  have hba : Below w.heap.size w (w.alloc (.cells #[.int .i64 n, .bool sg] 80)) := (Below.refl _ _).alloc (Nat.le_refl _) _
  have hRa := hR.keep hba
  have hTa : Turned (fun i => i = g) w (w.alloc (.cells #[.int .i64 n, .bool sg] 80)) := Turned.of_below hba
  by_cases h0 : n = 0
  · subst h0
    go_enter Try.func44, Try.ntmps44
    go_wp2_with fail
    go_ret
    exact ⟨rfl, hRa, hTa⟩
  · have e0 : ((n : Int) == 0) = false := by simpa using h0
    have hd : rdP n sg ((xs.drop k).take n) = if sg then sval ((xs.drop k).take n) else gfold 0 ((xs.drop k).take n) := by unfold rdP; rw [if_neg (by omega)]
    cases sg with
    | true =>
      rw [hd, if_pos rfl]
      have gr := rint_yes g k (n : Int) xs _ hb hRa (by omega) (by omega) (by omega)
      unfold RInt at gr
      rw [Int.toNat_natCast] at gr
      replace gr := Lib.hid gr
      clear hd
      generalize sval ((xs.drop k).take n) = v at *
      go_enter Try.func44, Try.ntmps44
      go_wp2_with fail
      refine gr.out.mono ?_
      rintro _ w1 ⟨rfl, hR1, hg1⟩
      go_wp2_with fail
      go_ret
      exact ⟨rfl, hR1, hTa.trans (Turned.of_grown (F := fun i => i = g) hg1 (fun k h => by injection h with h; exact h.symm)) (fun i _ h => h)⟩
    | false =>
      rw [hd, if_neg (by decide)]
      have gr := ruint_yes g k (n : Int) xs _ hb hRa (by omega) (by omega) (by omega)
      unfold RUint at gr
      rw [Int.toNat_natCast] at gr
      have hby : Bytes ((xs.drop k).take n) := fun x hx => hb x (List.mem_of_mem_drop (List.mem_of_mem_take hx))
      have hl : ((xs.drop k).take n).length ≤ 2 := by rw [List.length_take]; omega
      have h1 := gfold_nn ((xs.drop k).take n) 0 hby (by omega)
      have h2 := (gfold_bd ((xs.drop k).take n) 0 1 hby (by omega) (by omega)).2
      have h3 := pow_mono256 hl
      replace gr := Lib.hid gr
      clear hd
      generalize gfold 0 ((xs.drop k).take n) = v at *
      have hw : IntKind.i64.wrap v = v := by simp [IntKind.wrap, IntKind.bits, IntKind.signed]; omega
      go_enter Try.func44, Try.ntmps44
      go_wp2_with fail
      refine gr.out.mono ?_
      rintro _ w1 ⟨rfl, hR1, hg1⟩
      go_wp2_with fail
      go_ret
      exact ⟨rfl, hR1, hTa.trans (Turned.of_grown (F := fun i => i = g) hg1 (fun k h => by injection h with h; exact h.symm)) (fun i _ h => h)⟩
end Go.Proofs.Ytcinmgifadmbeaa
