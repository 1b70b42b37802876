/- What the reference's Shape and Name answer. -/
import Derived.Test.YtcinmgifadmbeaaTabW
namespace Go.Proofs.Ytcinmgifadmbeaa
open Go.RowKit
set_option linter.unusedVariables false

/-- None of the first codes is the one looked for. -/
def Not (k : Int) (j : Nat) : Prop := (codeRows.take j).find? (·.1 == k) = none
theorem Not.zero (k : Int) : Not k 0 := rfl
theorem Not.next {k : Int} {j : Nat} {r : Int × ByteArray × Int} (h : Not k j) (hr : codeRows[j]? = some r) (hne : ¬ r.1 = k) : Not k (j + 1) := by
  unfold Not at *
  rw [List.take_add_one, hr, List.find?_append, h]
  simp [hne]
theorem Not.found {k : Int} {j : Nat} {r : Int × ByteArray × Int} (h : Not k j) (hr : codeRows[j]? = some r) (he : r.1 = k) : rowOf k = some r := by
  unfold Not rowOf at *
  have hj := (List.getElem?_eq_some_iff.1 hr).1
  have hd : codeRows.drop j = r :: codeRows.drop (j + 1) := by
    rw [List.drop_eq_getElem_cons hj, (List.getElem?_eq_some_iff.1 hr).2]
  rw [← List.take_append_drop j codeRows, List.find?_append, h, hd]
  simp [he]
theorem Not.all {k : Int} (h : Not k 120) : rowOf k = none := by
  unfold Not rowOf at *
  rwa [List.take_of_length_le (by rw [codeRows_length]; omega)] at h

theorem row_at {j : Nat} (h : j < 120) : ∃ r, codeRows[j]? = some r := by
  cases hr : codeRows[j]? with
  | none => rw [List.getElem?_eq_none_iff, codeRows_length] at hr; omega
  | some r => exact ⟨r, rfl⟩

set_option maxRecDepth 100000 in
theorem rshape_any (k : Int) (w : World) :
    Calls Try.prog 16 #[.int .i64 k] w fun e w' => e = .returned (.tuple #[.int .u8 (sh k), .bool (isC k)]) ∧ Below w.heap.size w w' := by
  have hz : ∀ (j : Nat) (r : Int × ByteArray × Int), codeRows[j]? = some r → codeCells[j * 3]? = some (.int .i64 r.1) ∧ codeCells[j * 3 + 2]? = some (.int .u8 r.2.2) := by
    intro j r hr
    obtain ⟨h1, h2, h3⟩ := codeCells_at hr
    rw [Nat.mul_comm j 3]
    exact ⟨h1, h3⟩
  replace hz := Lib.hid hz
  go_enter Try.func16, Try.ntmps16
  go_wp2_with (refine (codes_any _).mono ?_; rintro e w' ⟨rfl, rfl⟩)
  go_loop [5] (fun i => ∃ j : Nat, j ≤ 120 ∧ i = .int .i64 j ∧ Not k j) (fun i => 120 - (intOf i).toNat)
  case atStart => exact ⟨0, by omega, rfl, Not.zero k⟩
  case round =>
    obtain ⟨j, hj, rfl, hn⟩ := hrel
    replace hn := Lib.hid hn
    by_cases hlt : j < 120
    · obtain ⟨r, hr⟩ := row_at hlt
      obtain ⟨hc1, hc3⟩ := hz.out j r hr
      replace hr := Lib.hid hr
      by_cases he : r.1 = k
      · have b1 : (r.1 == k) = true := by rw [beq_iff_eq]; exact he
        go_wp2_with fail
        have e1 := Not.found hn.out hr.out he
        exact bodyPost_ret (v := .tuple #[.int .u8 r.2.2, .bool true]) (by simp [results, Try.results16, go_sem]) rfl ⟨by unfold sh isC; rw [e1]; rfl, (Below.refl _ _).alloc (Nat.le_refl _) _⟩
      · have b1 : (r.1 == k) = false := by rw [beq_eq_false_iff_ne]; exact he
        go_wp2_with fail
        exact ⟨⟨j + 1, by omega, by go_num, Not.next hn.out hr.out he⟩, by simp [intOf]; omega⟩
    · obtain rfl : j = 120 := by omega
      go_wp2_with fail
      have e1 := Not.all hn.out
      exact bodyPost_ret (v := .tuple #[.int .u8 0, .bool false]) (by simp [results, Try.results16, go_sem]) rfl ⟨by unfold sh isC; rw [e1]; rfl, (Below.refl _ _).alloc (Nat.le_refl _) _⟩

set_option maxRecDepth 100000 in
theorem rname_any (k : Int) (w : World) :
    Calls Try.prog 18 #[.int .i64 k] w fun e w' => e = .returned (.string (nm k)) ∧ Below w.heap.size w w' := by
  have hz : ∀ (j : Nat) (r : Int × ByteArray × Int), codeRows[j]? = some r → codeCells[j * 3]? = some (.int .i64 r.1) ∧ codeCells[j * 3 + 1]? = some (.string r.2.1) := by
    intro j r hr
    obtain ⟨h1, h2, h3⟩ := codeCells_at hr
    rw [Nat.mul_comm j 3]
    exact ⟨h1, h2⟩
  replace hz := Lib.hid hz
  go_enter Try.func18, Try.ntmps18
  go_wp2_with (refine (codes_any _).mono ?_; rintro e w' ⟨rfl, rfl⟩)
  go_loop [4] (fun i => ∃ j : Nat, j ≤ 120 ∧ i = .int .i64 j ∧ Not k j) (fun i => 120 - (intOf i).toNat)
  case atStart => exact ⟨0, by omega, rfl, Not.zero k⟩
  case round =>
    obtain ⟨j, hj, rfl, hn⟩ := hrel
    replace hn := Lib.hid hn
    by_cases hlt : j < 120
    · obtain ⟨r, hr⟩ := row_at hlt
      obtain ⟨hc1, hc3⟩ := hz.out j r hr
      replace hr := Lib.hid hr
      by_cases he : r.1 = k
      · have b1 : (r.1 == k) = true := by rw [beq_iff_eq]; exact he
        go_wp2_with fail
        have e1 := Not.found hn.out hr.out he
        exact bodyPost_ret (v := .string r.2.1) (by simp [results, Try.results18, go_sem]) rfl ⟨by unfold nm; rw [e1], (Below.refl _ _).alloc (Nat.le_refl _) _⟩
      · have b1 : (r.1 == k) = false := by rw [beq_eq_false_iff_ne]; exact he
        go_wp2_with fail
        exact ⟨⟨j + 1, by omega, by go_num, Not.next hn.out hr.out he⟩, by simp [intOf]; omega⟩
    · obtain rfl : j = 120 := by omega
      go_wp2_with fail
      have e1 := Not.all hn.out
      exact bodyPost_ret (v := .string .empty) (by simp [results, Try.results18, go_sem]; rfl) rfl ⟨by unfold nm; rw [e1], (Below.refl _ _).alloc (Nat.le_refl _) _⟩
