/- There and back: an instruction's bytes are read as itself; bytes that are one are its bytes. -/
import Derived.Test.YtcinmgifadmbeaaDecP
namespace Go.Proofs.Ytcinmgifadmbeaa
open Go.RowKit
set_option linter.unusedVariables false
set_option linter.unusedSimpArgs false

theorem beN_0 (x : Int) : beN 0 x = [] := rfl
/-- A part's bytes are read as its number. -/
theorem rd_be {n : Int} {sg : Bool} {x : Int} (h0 : n = 0 ∨ n = 1 ∨ n = 2) (h : pOk n sg x = true) : rdP n sg (beN n.toNat x) = x := by
  rcases h0 with rfl | rfl | rfl
  · have : (x == 0) = true := h
    rw [beq_iff_eq] at this
    subst this
    rfl
  · rw [show (1 : Int).toNat = 1 from rfl, beN_1]
    cases sg with
    | true =>
      have h' : fitsI 1 x = true := h
      rw [fitsI_1] at h'
      simp at h'
      show sbyte (x % 256) = x
      unfold sbyte
      omega
    | false =>
      have h' : (decide (0 ≤ x) && fitsU 1 x) = true := h
      rw [fitsU_1] at h'
      simp at h'
      rw [rd1]
      omega
  · rw [show (2 : Int).toNat = 2 from rfl, beN_2]
    cases sg with
    | true =>
      have h' : fitsI 2 x = true := h
      rw [fitsI_2] at h'
      simp at h'
      show sbyte (x / 256 % 256) * 256 + x % 256 = x
      unfold sbyte
      omega
    | false =>
      have h' : (decide (0 ≤ x) && fitsU 2 x) = true := h
      rw [fitsU_2] at h'
      simp at h'
      rw [rd2]
      omega
/-- What a part's bytes are read as fits, and its bytes are these. -/
theorem be_rd {n : Int} {sg : Bool} {ys : List Int} (h0 : n = 0 ∨ n = 1 ∨ n = 2) (hl : ys.length = n.toNat) (hb : Bytes ys) : pOk n sg (rdP n sg ys) = true ∧ beN n.toNat (rdP n sg ys) = ys := by
  rcases h0 with rfl | rfl | rfl
  · have : ys = [] := List.eq_nil_of_length_eq_zero hl
    subst this
    exact ⟨rfl, rfl⟩
  · match ys, hl with
    | [c], _ =>
      have hc := hb c (by simp)
      rw [show (1 : Int).toNat = 1 from rfl, beN_1]
      cases sg with
      | true =>
        have e : rdP 1 true [c] = sbyte c := rfl
        rw [e]
        refine ⟨?_, ?_⟩
        · show fitsI 1 (sbyte c) = true
          rw [fitsI_1]
          simp
          unfold sbyte
          omega
        · unfold sbyte
          congr 1
          omega
      | false =>
        rw [rd1]
        refine ⟨?_, ?_⟩
        · show (decide (0 ≤ c) && fitsU 1 c) = true
          rw [fitsU_1]
          simp
          omega
        · congr 1
          omega
  · match ys, hl with
    | [c, d], _ =>
      have hc := hb c (by simp)
      have hd := hb d (by simp)
      rw [show (2 : Int).toNat = 2 from rfl, beN_2]
      cases sg with
      | true =>
        have e : rdP 2 true [c, d] = sbyte c * 256 + d := rfl
        rw [e]
        refine ⟨?_, ?_⟩
        · show fitsI 2 (sbyte c * 256 + d) = true
          rw [fitsI_2]
          simp
          unfold sbyte
          omega
        · unfold sbyte
          congr 1
          · omega
          · congr 1
            omega
      | false =>
        rw [rd2]
        refine ⟨?_, ?_⟩
        · show (decide (0 ≤ c * 256 + d) && fitsU 2 (c * 256 + d)) = true
          rw [fitsU_2]
          simp
          omega
        · congr 1
          · omega
          · congr 1
            omega
theorem pn_012 (s : Int) : (pn0 s = 0 ∨ pn0 s = 1 ∨ pn0 s = 2) ∧ (pn1 s = 0 ∨ pn1 s = 1 ∨ pn1 s = 2) := by
  have := pn_facts s
  omega
/-- The place at which an instruction's bytes are read. -/
noncomputable def atOf (i : Ins) : Int := if sh i.op = 116 then i.at_ else 0
theorem enc_ok {i : Ins} (h : encC i = 0) : isC i.op = true ∧ ¬ encFar i ∧ pOk (pn0 (sh i.op)) (ps0 (sh i.op)) (encA i) = true ∧ pOk (pn1 (sh i.op)) (ps1 (sh i.op)) i.b = true := by
  unfold encC at h
  cases hc : isC i.op with
  | false => rw [hc, if_pos rfl] at h; omega
  | true =>
    rw [hc, if_neg (by decide)] at h
    by_cases h1 : encFar i
    · rw [if_pos h1] at h; omega
    · rw [if_neg h1] at h
      cases h2 : pOk (pn0 (sh i.op)) (ps0 (sh i.op)) (encA i) with
      | false => rw [h2, Bool.false_and] at h; exact absurd h (by decide)
      | true =>
        rw [h2] at h
        cases h3 : pOk (pn1 (sh i.op)) (ps1 (sh i.op)) i.b with
        | false => rw [h3] at h; exact absurd h (by decide)
        | true => exact ⟨rfl, h1, rfl, rfl⟩
theorem at_ok {i : Ins} (h : encC i = 0) : 0 ≤ atOf i ∧ atOf i ≤ 4096 := by
  obtain ⟨_, h1, _⟩ := enc_ok h
  unfold atOf
  split
  · rename_i hs
    have : ¬ (i.at_ < 0 ∨ i.a < 0 ∨ 4096 < i.at_ ∨ 4096 < i.a) := fun k => h1 ⟨hs, k⟩
    omega
  · omega
theorem getD_append_right {xs ys : List Int} {k : Nat} : (xs ++ ys).getD (xs.length + k) 0 = ys.getD k 0 := by
  simp [List.getD, List.getElem?_append_right (Nat.le_add_right _ _)]
theorem back_there {i : Ins} (hi : i.In) (h : encC i = 0) (zs : List Int) (hz : (zs.length : Int) = atOf i) :
    decC (zs ++ encB i) (atOf i) = 0 ∧ decI (zs ++ encB i) (atOf i) = ⟨atOf i, i.op, i.a, i.b, (encB i).length⟩ := by
  obtain ⟨hc, hf, ha, hb⟩ := enc_ok h
  have hop := isC_range hc
  have hp := pn_facts (sh i.op)
  have hx := pn_xt hc
  obtain ⟨h01, h02⟩ := pn_012 (sh i.op)
  have eB : encB i = beN 1 i.op ++ beN (pn0 (sh i.op)).toNat (encA i) ++ beN (pn1 (sh i.op)).toNat i.b := if_pos h
  have hl : (encB i).length = 1 + (pn0 (sh i.op)).toNat + (pn1 (sh i.op)).toNat := by rw [eB]; simp [beN_length]; omega
  have h1 : beN 1 i.op = [i.op] := by rw [beN_1]; congr 1; omega
  rw [← hz]
  have ho : opAt (zs ++ encB i) zs.length = i.op := by
    unfold opAt
    have := getD_append_right (xs := zs) (ys := encB i) (k := 0)
    rw [Nat.add_zero] at this
    rw [this, eB, h1]
    rfl
  have hst : Stands (zs ++ encB i) zs.length := ⟨by rw [ho]; exact hc, by
    have hz2 := szAt_int (zs ++ encB i) zs.length
    rw [ho] at hz2
    rw [List.length_append, hl]
    omega⟩
  have hd1 : (zs ++ encB i).drop (zs.length + 1) = beN (pn0 (sh i.op)).toNat (encA i) ++ beN (pn1 (sh i.op)).toNat i.b := by
    rw [List.drop_append, eB, h1]
    simp
  have hra : rawA (zs ++ encB i) zs.length = encA i := by
    unfold rawA
    rw [ho, hd1, List.take_append_of_le_length (by rw [beN_length]; exact Nat.le_refl _), List.take_of_length_le (by rw [beN_length]; exact Nat.le_refl _)]
    exact rd_be h01 ha
  have hrb : rawB (zs ++ encB i) zs.length = i.b := by
    unfold rawB
    rw [ho, ← List.drop_drop, hd1, List.drop_append, List.drop_of_length_le (by rw [beN_length]; exact Nat.le_refl _), beN_length, Nat.sub_self, List.drop_zero, List.nil_append, List.take_of_length_le (by rw [beN_length]; exact Nat.le_refl _)]
    exact rd_be h02 hb
  refine ⟨dec_stands.2 hst, ?_⟩
  have hz2 := szAt_int (zs ++ encB i) zs.length
  rw [ho] at hz2
  rw [dec_is hst, ho, hra, hrb, show ((szAt (zs ++ encB i) zs.length : Nat) : Int) = ((encB i).length : Nat) by omega, hz]
  have hlead : leads (sh i.op) (atOf i) (encA i) = i.a := by
    unfold leads encA atOf
    by_cases hT : sh i.op = 116
    · rw [if_pos hT, if_pos hT, if_pos hT]
      have := hi.a
      unfold in64 at this
      rw [show i.a - i.at_ + i.at_ = i.a by omega]
      exact IntWalk.wrap64_in _ (by omega)
    · rw [if_neg hT, if_neg hT]
  rw [hlead]

theorem rd_bd {n : Int} {sg : Bool} {ys : List Int} (h0 : n = 0 ∨ n = 1 ∨ n = 2) (hl : ys.length = n.toNat) (hb : Bytes ys) : -32768 ≤ rdP n sg ys ∧ rdP n sg ys < 65536 := by
  rcases h0 with rfl | rfl | rfl
  · exact ⟨by show (-32768 : Int) ≤ 0; omega, by show (0 : Int) < 65536; omega⟩
  · match ys, hl with
    | [c], _ =>
      have hc := hb c (by simp)
      cases sg with
      | true => show -32768 ≤ sbyte c ∧ sbyte c < 65536; unfold sbyte; omega
      | false => rw [rd1]; omega
  · match ys, hl with
    | [c, d], _ =>
      have hc := hb c (by simp)
      have hd := hb d (by simp)
      cases sg with
      | true => show -32768 ≤ sbyte c * 256 + d ∧ sbyte c * 256 + d < 65536; unfold sbyte; omega
      | false => rw [rd2]; omega
theorem parts_len {xs : List Int} {k : Nat} (h : Stands xs k) : ((xs.drop (k + 1)).take (pn0 (sh (opAt xs k))).toNat).length = (pn0 (sh (opAt xs k))).toNat ∧
    ((xs.drop (k + 1 + (pn0 (sh (opAt xs k))).toNat)).take (pn1 (sh (opAt xs k))).toNat).length = (pn1 (sh (opAt xs k))).toNat := by
  have hr := h.room
  have hz := szAt_int xs k
  have hx := pn_xt h.code
  have hp := pn_facts (sh (opAt xs k))
  rw [List.length_take, List.length_drop, List.length_take, List.length_drop]
  omega
theorem raw_bd {xs : List Int} {k : Nat} (hb : Bytes xs) (h : Stands xs k) : (-32768 ≤ rawA xs k ∧ rawA xs k < 65536) ∧ -32768 ≤ rawB xs k ∧ rawB xs k < 65536 :=
  ⟨rd_bd (pn_012 _).1 (parts_len h).1 ((hb.drop _).take _), rd_bd (pn_012 _).2 (parts_len h).2 ((hb.drop _).take _)⟩
theorem back_back {xs : List Int} (hb : Bytes xs) (h : Stands xs 0) (ha : 0 ≤ (decI xs 0).a) (hm : (decI xs 0).a ≤ 4096) :
    encC (decI xs 0) = 0 ∧ encB (decI xs 0) = xs.take (szAt xs 0) ∧ (decI xs 0).In ∧ (decI xs 0).size = szAt xs 0 := by
  obtain ⟨⟨hA1, hA2⟩, hB1, hB2⟩ := raw_bd hb h
  have hr := h.room
  have hz := szAt_int xs 0
  have hzb := szAt_bd xs 0
  have hx := pn_xt h.code
  have hp := pn_facts (sh (opAt xs 0))
  have hop := isC_range h.code
  obtain ⟨p1, p2⟩ := parts_len h
  have q1 := be_rd (sg := ps0 (sh (opAt xs 0))) (pn_012 (sh (opAt xs 0))).1 p1 ((hb.drop _).take _)
  have q2 := be_rd (sg := ps1 (sh (opAt xs 0))) (pn_012 (sh (opAt xs 0))).2 p2 ((hb.drop _).take _)
  have hle : leads (sh (opAt xs 0)) 0 (rawA xs 0) = rawA xs 0 := by
    unfold leads
    split
    · rw [Int.add_zero]; exact IntWalk.wrap64_in _ (by omega)
    · rfl
  have hI := dec_is0 h
  rw [hle] at hI
  rw [hI] at ha hm ⊢
  have ha' : 0 ≤ rawA xs 0 := ha
  have hm' : rawA xs 0 ≤ 4096 := hm
  have hfar : ¬ encFar ⟨0, opAt xs 0, rawA xs 0, rawB xs 0, szAt xs 0⟩ := by
    rintro ⟨_, hh⟩
    simp only at hh
    omega
  have hEA : encA ⟨0, opAt xs 0, rawA xs 0, rawB xs 0, szAt xs 0⟩ = rawA xs 0 := by
    unfold encA
    simp only
    split <;> omega
  have hC : encC ⟨0, opAt xs 0, rawA xs 0, rawB xs 0, szAt xs 0⟩ = 0 := by
    unfold encC
    simp only
    rw [h.code, if_neg (by decide), if_neg hfar, hEA]
    have e1 : pOk (pn0 (sh (opAt xs 0))) (ps0 (sh (opAt xs 0))) (rawA xs 0) = true := q1.1
    have e2 : pOk (pn1 (sh (opAt xs 0))) (ps1 (sh (opAt xs 0))) (rawB xs 0) = true := q2.1
    rw [e1, e2]
    rfl
  refine ⟨hC, ?_, ⟨?_, ?_, ?_, ?_, ?_⟩, rfl⟩
  · have e : encB ⟨0, opAt xs 0, rawA xs 0, rawB xs 0, szAt xs 0⟩ = _ := if_pos hC
    rw [e, hEA]
    simp only
    have e1 : beN (pn0 (sh (opAt xs 0))).toNat (rawA xs 0) = _ := q1.2
    have e2 : beN (pn1 (sh (opAt xs 0))).toNat (rawB xs 0) = _ := q2.2
    have e0 : beN 1 (opAt xs 0) = xs.take 1 := by
      rw [beN_1]
      have := take1 (m := 0) (bs := xs) (by omega)
      rw [List.drop_zero] at this
      rw [this]
      congr 1
      show opAt xs 0 % 256 = opAt xs 0
      omega
    have hs : szAt xs 0 = 1 + (pn0 (sh (opAt xs 0))).toNat + (pn1 (sh (opAt xs 0))).toNat := by omega
    rw [e0, e1, e2, hs, List.take_add, List.take_add, Nat.zero_add]
  all_goals (unfold in64; simp only; omega)
end Go.Proofs.Ytcinmgifadmbeaa
