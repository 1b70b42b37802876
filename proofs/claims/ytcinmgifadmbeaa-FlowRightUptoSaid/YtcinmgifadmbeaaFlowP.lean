/- The plain laws of a code's instructions: one behind the other. -/
import Derived.Test.YtcinmgifadmbeaaFlowM
namespace Go.Proofs.Ytcinmgifadmbeaa
open Go.RowKit
set_option linter.unusedVariables false
set_option linter.unusedSimpArgs false

/-- One behind the other, from a place to an end. -/
def rowI : Int → List Ins → Int → Prop
  | k, [], e => k = e
  | k, i :: l, e => i.at_ = k ∧ (1 ≤ i.size ∧ i.size ≤ 3) ∧ rowI (k + i.size) l e
def sumI : List Ins → Int
  | [] => 0
  | i :: l => i.size + sumI l
theorem sumI_next : ∀ {l : List Ins} {n : Nat} {x : Ins}, l[n]? = some x → sumI (l.take (n + 1)) = sumI (l.take n) + x.size := by
  intro l
  induction l with
  | nil => intro n x h; simp at h
  | cons i l ih =>
    intro n x h
    cases n with
    | zero => simp at h; subst h; simp [sumI]
    | succ n =>
      have := ih (by simpa using h)
      simp only [List.take_succ_cons, sumI, this]
      omega
theorem walk_row {bs : List Int} : ∀ (n k : Nat), bs.length - k ≤ n → k ≤ bs.length → (∀ x ∈ walkAt bs k, x.2 = 0) → rowI k ((walkAt bs k).map (·.1)) bs.length := by
  intro n
  induction n with
  | zero =>
    intro k h hk _
    rw [walkAt_end (by omega)]
    simp only [List.map_nil, rowI]
    omega
  | succ n ih =>
    intro k h hk hg
    by_cases hlt : k < bs.length
    · by_cases h0 : decC bs k = 0
      · have hs := dec_stands.1 h0
        have hbd := szAt_bd bs k
        have hroom := hs.room
        rw [walkAt_go hlt h0] at hg ⊢
        have := ih (k + szAt bs k) (by omega) hroom (fun x hx => hg x (List.mem_cons_of_mem _ hx))
        rw [List.map_cons]
        refine ⟨?_, ?_, ?_⟩
        · rw [dec_is hs]
        · rw [dec_is hs]
          dsimp only
          omega
        · rw [show (k : Int) + (decI bs k).size = ((k + szAt bs k : Nat) : Int) from by rw [dec_is hs]; simp]
          exact this
      · rw [walkAt_no hlt h0] at hg
        exact absurd (hg _ (List.mem_singleton.2 rfl)) h0
    · rw [walkAt_end hlt]
      simp only [List.map_nil, rowI]
      omega
theorem list_all {bs : List Int} (h : listE bs = 0) : ∀ x ∈ walkAt bs 0, x.2 = 0 := by
  intro x hx
  by_cases h0 : x.2 = 0
  · exact h0
  · obtain ⟨p, q, e⟩ := List.append_of_mem hx
    have := (list_bad (bs := bs) (p := p) (x := x) ⟨q, by rw [e]; simp⟩ h0).1
    omega
theorem list_is {bs : List Int} (h : listE bs = 0) : listL bs = (walkAt bs 0).map (·.1) := (list_good (list_all h)).2
theorem list_row {bs : List Int} (h : listE bs = 0) : rowI 0 (listL bs) bs.length := by
  rw [list_is h]
  exact walk_row _ 0 (Nat.le_refl _) (Nat.zero_le _) (list_all h)
theorem list_none {bs : List Int} (h : ¬ listE bs = 0) : listL bs = [] := by
  unfold listL
  rw [if_neg h]
theorem rowI_at : ∀ {l : List Ins} {k e : Int} {n : Nat} {x : Ins}, rowI k l e → l[n]? = some x → x.at_ = k + sumI (l.take n) ∧ (1 ≤ x.size ∧ x.size ≤ 3) ∧ x.at_ + x.size ≤ e := by
  intro l
  induction l with
  | nil => intro k e n x _ h; simp at h
  | cons i l ih =>
    intro k e n x h hx
    obtain ⟨h1, h2, h3⟩ := h
    cases n with
    | zero =>
      simp at hx
      subst hx
      refine ⟨by simp [sumI, h1], h2, ?_⟩
      clear ih
      have : ∀ (l : List Ins) (k : Int), rowI k l e → k ≤ e := by
        intro l
        induction l with
        | nil => intro k h; exact Int.le_of_eq h
        | cons j l ih => intro k h; have := ih _ h.2.2; have := h.2.1; omega
      have := this _ _ h3
      omega
    | succ n =>
      obtain ⟨g1, g2, g3⟩ := ih h3 (by simpa using hx)
      refine ⟨?_, g2, g3⟩
      rw [g1, List.take_succ_cons, sumI]
      omega
theorem rowI_end : ∀ {l : List Ins} {k e : Int}, rowI k l e → k + sumI l = e := by
  intro l
  induction l with
  | nil => intro k e h; have : k = e := h; simp [sumI, this]
  | cons i l ih => intro k e h; have := ih h.2.2; simp only [sumI]; omega
theorem sumI_pos : ∀ {l : List Ins} {k e : Int} (n : Nat), rowI k l e → 0 ≤ sumI (l.take n) ∧ k + sumI (l.take n) ≤ e := by
  intro l
  induction l with
  | nil => intro k e n h; have : k = e := h; simp [sumI]; omega
  | cons i l ih =>
    intro k e n h
    obtain ⟨h1, h2, h3⟩ := h
    cases n with
    | zero =>
      have := ih 0 h3
      simp [sumI] at this ⊢
      omega
    | succ n =>
      have := ih n h3
      simp only [List.take_succ_cons, sumI]
      omega
theorem rowI_ge {l : List Ins} {k e : Int} (h : rowI k l e) : ∀ i ∈ l, k ≤ i.at_ ∧ i.at_ < e := by
  intro i hi
  obtain ⟨n, hn, e1⟩ := List.mem_iff_getElem.1 hi
  obtain ⟨g1, g2, g3⟩ := rowI_at (n := n) h (by rw [List.getElem?_eq_getElem hn, e1])
  have := (sumI_pos n h).1
  omega
theorem rowI_idx : ∀ {l : List Ins} {k e : Int} {n : Nat} {x : Ins}, rowI k l e → l[n]? = some x → idxI l x.at_ = some n := by
  intro l
  induction l with
  | nil => intro k e n x _ h; simp at h
  | cons i l ih =>
    intro k e n x h hx
    cases n with
    | zero =>
      simp at hx
      subst hx
      simp [idxI, List.findIdx?_cons]
    | succ n =>
      have hx' : l[n]? = some x := by simpa using hx
      have h1 := ih h.2.2 hx'
      have h2 := (rowI_ge h.2.2 x (List.mem_of_getElem? hx')).1
      have h3 : ¬ i.at_ = x.at_ := by have := h.1; have := h.2.1; omega
      unfold idxI at h1 ⊢
      rw [List.findIdx?_cons, h1]
      simp [h3]
theorem atN_row {l : List Ins} {k e : Int} {n : Nat} {x : Ins} (h : rowI k l e) (hx : l[n]? = some x) : atN l x.at_ = n := by
  unfold atN
  rw [rowI_idx h hx]
theorem atN_or (l : List Ins) (x : Int) : (idxI l x = none ∧ atN l x = -1) ∨ ∃ (n : Nat) (y : Ins), l[n]? = some y ∧ y.at_ = x ∧ atN l x = n ∧ idxI l x = some n := by
  cases h : idxI l x with
  | none => exact .inl ⟨rfl, by unfold atN; rw [h]⟩
  | some n =>
    have h' := h
    unfold idxI at h'
    rw [List.findIdx?_eq_some_iff_getElem] at h'
    obtain ⟨hn, h1, _⟩ := h'
    exact .inr ⟨n, l[n], List.getElem?_eq_getElem hn, by simpa using h1, by unfold atN; rw [h], rfl⟩
theorem rowI_fit {l : List Ins} {e : Int} (h : rowI 0 l e) (he : e ≤ 4398046511104) : AtsIn l := fun i hi => by
  have := rowI_ge h i hi
  unfold fit64
  omega
theorem rowI_len : ∀ {l : List Ins} {k e : Int}, rowI k l e → k + l.length ≤ e := by
  intro l
  induction l with
  | nil => intro k e h; have : k = e := h; simp; omega
  | cons i l ih => intro k e h; have := ih h.2.2; have := h.2.1; simp only [List.length_cons]; omega
end Go.Proofs.Ytcinmgifadmbeaa
