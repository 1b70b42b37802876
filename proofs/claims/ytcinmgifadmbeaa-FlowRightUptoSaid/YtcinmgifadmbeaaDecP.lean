/- What an instruction at a place hangs on: its own bytes alone. -/
import Derived.Test.YtcinmgifadmbeaaRDec
namespace Go.Proofs.Ytcinmgifadmbeaa
open Go.RowKit
set_option linter.unusedVariables false

noncomputable def opAt (xs : List Int) (k : Nat) : Int := xs.getD k 0
noncomputable def szAt (xs : List Int) (k : Nat) : Nat := (1 + xt (sh (opAt xs k))).toNat
noncomputable def rawA (xs : List Int) (k : Nat) : Int := rdP (pn0 (sh (opAt xs k))) (ps0 (sh (opAt xs k))) ((xs.drop (k + 1)).take (pn0 (sh (opAt xs k))).toNat)
noncomputable def rawB (xs : List Int) (k : Nat) : Int := rdP (pn1 (sh (opAt xs k))) (ps1 (sh (opAt xs k))) ((xs.drop (k + 1 + (pn0 (sh (opAt xs k))).toNat)).take (pn1 (sh (opAt xs k))).toNat)

/-- An instruction stands there. -/
structure Stands (xs : List Int) (k : Nat) : Prop where
  code : isC (opAt xs k) = true
  room : k + szAt xs k ≤ xs.length
theorem xt_bd (s : Int) : 0 ≤ xt s ∧ xt s ≤ 2 := by
  unfold xt
  split
  · omega
  · split <;> omega
theorem szAt_bd (xs : List Int) (k : Nat) : 1 ≤ szAt xs k ∧ szAt xs k ≤ 3 := by
  have := xt_bd (sh (opAt xs k))
  unfold szAt
  omega
theorem szAt_int (xs : List Int) (k : Nat) : (szAt xs k : Int) = 1 + xt (sh (opAt xs k)) := by
  have := xt_bd (sh (opAt xs k))
  unfold szAt
  omega
theorem dec_stands {xs : List Int} {k : Nat} : decC xs k = 0 ↔ Stands xs k := by
  have hb := xt_bd (sh (opAt xs k))
  have hz := szAt_int xs k
  unfold decC
  constructor
  · intro h
    by_cases h1 : (k : Int) < 0 ∨ (xs.length : Int) < k
    · rw [if_pos h1] at h; omega
    · rw [if_neg h1] at h
      by_cases h2 : (k : Int) = xs.length
      · rw [if_pos h2] at h; omega
      · rw [if_neg h2, Int.toNat_natCast] at h
        cases hc : isC (xs.getD k 0) with
        | false => rw [hc, if_pos rfl] at h; omega
        | true =>
          rw [hc, if_neg (by decide)] at h
          have hx := pn_xt hc
          refine ⟨hc, ?_⟩
          by_cases h3 : (xs.length : Int) - k < 1 + pn0 (shAt xs k) + pn1 (shAt xs k)
          · rw [if_pos h3] at h; omega
          · have e : shAt xs k = sh (opAt xs k) := rfl
            have e2 : sh (xs.getD k 0) = sh (opAt xs k) := rfl
            rw [e] at h3
            rw [e2] at hx
            omega
  · rintro ⟨hc, hr⟩
    have hx := pn_xt hc
    rw [if_neg (by omega), if_neg (by omega), Int.toNat_natCast]
    have hc' : isC (xs.getD k 0) = true := hc
    rw [hc', if_neg (by decide), if_neg]
    have e : shAt xs k = sh (opAt xs k) := rfl
    rw [e]
    omega
theorem dec_is {xs : List Int} {k : Nat} (h : Stands xs k) : decI xs k = ⟨k, opAt xs k, leads (sh (opAt xs k)) k (rawA xs k), rawB xs k, szAt xs k⟩ := by
  have hx := (pn_xt h.code).1
  have e : decI xs k = _ := if_pos (dec_stands.2 h)
  rw [Int.toNat_natCast] at e
  rw [e, szAt_int, ← hx]
  rfl
theorem dec_zero {xs : List Int} {k : Nat} (h : ¬ Stands xs k) : decI xs k = zeroI := if_neg (fun e => h (dec_stands.1 e))

/-- The same bytes are the same instruction, at whatever place. -/
theorem stands_move {xs zs : List Int} {j k : Nat} (h : Stands xs k) (hz : j + szAt xs k ≤ zs.length) (he : (zs.drop j).take (szAt xs k) = (xs.drop k).take (szAt xs k)) :
    Stands zs j ∧ opAt zs j = opAt xs k ∧ rawA zs j = rawA xs k ∧ rawB zs j = rawB xs k ∧ szAt zs j = szAt xs k := by
  have hb := szAt_bd xs k
  have hg : ∀ i, i < szAt xs k → zs[j + i]? = xs[k + i]? := by
    intro i hi
    have h1 : ((zs.drop j).take (szAt xs k))[i]? = ((xs.drop k).take (szAt xs k))[i]? := by rw [he]
    rw [List.getElem?_take_of_lt hi, List.getElem?_take_of_lt hi, List.getElem?_drop, List.getElem?_drop] at h1
    exact h1
  have ho : opAt zs j = opAt xs k := by
    have := hg 0 (by omega)
    simp only [Nat.add_zero] at this
    unfold opAt
    simp only [List.getD, this]
  have hs : szAt zs j = szAt xs k := by unfold szAt; rw [ho]
  have hd : ∀ a n, a + n ≤ szAt xs k → (zs.drop (j + a)).take n = (xs.drop (k + a)).take n := by
    intro a n han
    apply List.ext_getElem?
    intro i
    rcases Nat.lt_or_ge i n with hi | hi
    · rw [List.getElem?_take_of_lt hi, List.getElem?_take_of_lt hi, List.getElem?_drop, List.getElem?_drop, Nat.add_assoc, Nat.add_assoc]
      exact hg (a + i) (by omega)
    · rw [List.getElem?_eq_none (by rw [List.length_take]; omega), List.getElem?_eq_none (by rw [List.length_take]; omega)]
  have hx := pn_xt h.code
  have hp := pn_facts (sh (opAt xs k))
  have hz2 := szAt_int xs k
  refine ⟨⟨by rw [ho]; exact h.code, by rw [hs]; exact hz⟩, ho, ?_, ?_, hs⟩
  · unfold rawA
    rw [ho, hd 1 _ (by omega)]
  · unfold rawB
    rw [ho, Nat.add_assoc, hd (1 + (pn0 (sh (opAt xs k))).toNat) _ (by omega), Nat.add_assoc]

theorem decC_short {xs : List Int} {k : Nat} (h : Stands xs k) {n : Nat} (h1 : k ≤ n) (h2 : n < k + szAt xs k) : decC (xs.take n) k = 3 := by
  have hr := h.room
  have hl : (xs.take n).length = n := by rw [List.length_take]; omega
  unfold decC
  rw [hl, if_neg (by omega)]
  by_cases e : (k : Int) = n
  · rw [if_pos e]
  · rw [if_neg e, Int.toNat_natCast]
    have hg : (xs.take n).getD k 0 = opAt xs k := by
      unfold opAt
      simp only [List.getD, List.getElem?_take_of_lt (show k < n by omega)]
    rw [hg, h.code, if_neg (by decide)]
    have hsh : shAt (xs.take n) k = sh (opAt xs k) := by unfold shAt; rw [hg]
    have hx := pn_xt h.code
    have hz := szAt_int xs k
    rw [hsh, if_pos (by omega)]
theorem dec_stands0 {xs : List Int} : decC xs 0 = 0 ↔ Stands xs 0 := dec_stands (k := 0)
theorem dec_is0 {xs : List Int} (h : Stands xs 0) : decI xs 0 = ⟨0, opAt xs 0, leads (sh (opAt xs 0)) 0 (rawA xs 0), rawB xs 0, szAt xs 0⟩ := dec_is h
theorem dec_zero0 {xs : List Int} (h : ¬ Stands xs 0) : decI xs 0 = zeroI := dec_zero h
theorem decC_short0 {xs : List Int} (h : Stands xs 0) {n : Nat} (h2 : n < szAt xs 0) : decC (xs.take n) 0 = 3 := decC_short h (Nat.zero_le _) (by omega)
end Go.Proofs.Ytcinmgifadmbeaa
