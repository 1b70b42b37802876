/- Monitors: those that wait in the order in which they came; an own row of numbers beside the monitors. -/
import Derived.Test.YtpfgdgelnehjpaaLockU
namespace Go.Proofs.Ytpfgdgelnehjpaa
open Go.RowKit
set_option linter.unusedVariables false
set_option linter.unusedSimpArgs false

/-- Those that came, each once, none told. -/
def kpW (l : List Int) : List Kp := l.map (fun t => ⟨t, 1, false⟩)
def kpT (l : List Int) : List Kp := l.map (fun t => ⟨t, 1, true⟩)
theorem kpW_cons (x : Int) (l : List Int) : kpW (x :: l) = ⟨x, 1, false⟩ :: kpW l := rfl
theorem kpT_cons (x : Int) (l : List Int) : kpT (x :: l) = ⟨x, 1, true⟩ :: kpT l := rfl
theorem kpW_append (l m : List Int) : kpW (l ++ m) = kpW l ++ kpW m := List.map_append
theorem kpW_len (l : List Int) : (kpW l).length = l.length := List.length_map _
theorem wsF_cons (i : Nat) (k : Kp) (l : List Kp) : wsF i (k :: l) = if k.told = true then wsF (i + 1) l else (i, k.t) :: wsF (i + 1) l := rfl
theorem wsF_kp (l : List Int) : ∀ i, (wsF i (kpW l)).map (·.2) = l := by
  induction l with
  | nil => intro i; rfl
  | cons x l ih => intro i; rw [kpW_cons, wsF_cons]; simp [ih]
theorem wsF_kpT (l : List Int) : ∀ i, wsF i (kpT l) = [] := by
  induction l with
  | nil => intro i; rfl
  | cons x l ih => intro i; rw [kpT_cons, wsF_cons]; simp [ih]
theorem setT_at (pre l : List Kp) (x : Int) : setT (pre ++ ⟨x, 1, false⟩ :: l) pre.length = pre ++ ⟨x, 1, true⟩ :: l := by
  unfold setT
  rw [List.getElem?_append_right (Nat.le_refl _), Nat.sub_self]
  simp
theorem markT_all (l : List Int) : ∀ pre : List Kp, markT (pre ++ kpW l) (wsF pre.length (kpW l)) = pre ++ kpT l := by
  induction l with
  | nil => intro pre; rfl
  | cons x l ih =>
    intro pre
    rw [kpW_cons, wsF_cons]
    simp only [Bool.false_eq_true, if_false]
    have h1 : markT (pre ++ ⟨x, 1, false⟩ :: kpW l) ((pre.length, x) :: wsF (pre.length + 1) (kpW l)) = markT (setT (pre ++ ⟨x, 1, false⟩ :: kpW l) pre.length) (wsF (pre.length + 1) (kpW l)) := rfl
    rw [h1, setT_at]
    have h2 := ih (pre ++ [⟨x, 1, true⟩])
    rw [List.length_append, List.append_assoc, List.append_assoc] at h2
    exact h2
/-- How many are told. -/
def toldN (all : Bool) (l : List Int) : Nat := if all = true then l.length else min 1 l.length
theorem tell_who (l : List Int) (all : Bool) : (tellP all (kpW l)).map (·.2) = l.take (toldN all l) := by
  unfold tellP toldN
  cases all with
  | true => simp only [if_true]; rw [wsF_kp, List.take_length]
  | false =>
    simp only [Bool.false_eq_true, if_false]
    rw [List.map_take, wsF_kp]
    cases l with
    | nil => rfl
    | cons x l => simp
theorem tell_left (l : List Int) (all : Bool) : wsT (markT (kpW l) (tellP all (kpW l))) = l.drop (toldN all l) := by
  unfold tellP toldN
  cases all with
  | true =>
    simp only [if_true]
    have h := markT_all l []
    rw [List.nil_append, List.length_nil, List.nil_append] at h
    rw [h, List.drop_length]
    unfold wsT
    rw [wsF_kpT]
    rfl
  | false =>
    simp only [Bool.false_eq_true, if_false]
    cases l with
    | nil => rfl
    | cons x l =>
      have h1 : markT (kpW (x :: l)) ((wsF 0 (kpW (x :: l))).take 1) = ⟨x, 1, true⟩ :: kpW l := by
        rw [kpW_cons, wsF_cons]
        simp [markT, setT]
      rw [h1]
      unfold wsT
      rw [wsF_cons]
      simp only [if_true]
      rw [wsF_kp]
      simp
theorem toldN_le (l : List Int) (all : Bool) : toldN all l ≤ l.length := by
  unfold toldN
  split <;> omega
theorem updM_at (s : Int → Mon) (r : Int) (m : Mon) : updM s r m r = m := if_pos rfl
theorem waitS_at (s : Int → Mon) (r t : Int) (hc : (s r).cnt = 0) : (waitS (enterS s r t) r t) r = ⟨t, 0, (s r).row ++ [⟨t, 1, false⟩]⟩ := by
  have hf : freeM (s r) t = true := by unfold freeM; rw [hc]; rfl
  have h1 : enterS s r t = updM s r ⟨t, 1, (s r).row⟩ := by unfold enterS; rw [if_pos hf, hc]; rfl
  rw [h1]
  unfold waitS
  have h2 : ownE (updM s r ⟨t, 1, (s r).row⟩ r) t = 0 := by rw [updM_at]; simp [ownE]
  rw [if_pos h2, updM_at]
  unfold setS
  rw [updM_at]
  unfold normM
  rw [if_neg (fun h => by have := h.2; simp at this)]
theorem ownE_enter (s : Int → Mon) (r t : Int) (hc : (s r).cnt = 0) : ownE (enterS s r t r) t = 0 := by
  have hf : freeM (s r) t = true := by unfold freeM; rw [hc]; rfl
  unfold enterS
  rw [if_pos hf, updM_at]
  simp [ownE, hc]
theorem enterS_at (s : Int → Mon) (r t : Int) (hc : (s r).cnt = 0) : enterS s r t r = ⟨t, 1, (s r).row⟩ := by
  have hf : freeM (s r) t = true := by unfold freeM; rw [hc]; rfl
  unfold enterS
  rw [if_pos hf, updM_at, hc]
  rfl
theorem tellS_at (s : Int → Mon) (r t : Int) (all : Bool) (l : List Kp) (hm : s r = ⟨t, 1, l⟩) : tellS s r t all r = ⟨t, 1, markT l (tellP all l)⟩ := by
  have h2 : ownE (s r) t = 0 := by rw [hm]; simp [ownE]
  unfold tellS
  rw [if_pos h2, hm]
  unfold setS
  rw [updM_at]
  unfold normM
  rw [if_neg (fun h => by have := h.1; simp at this)]
theorem tellO_at (m : Mon) (t : Int) (all : Bool) (l : List Kp) (hm : m = ⟨t, 1, l⟩) : tellO m t all = (tellP all l).map (·.2) := by
  have h2 : ownE m t = 0 := by rw [hm]; simp [ownE]
  unfold tellO
  rw [if_pos h2, hm]

/-- An append onto an own row of numbers leaves the monitors as they are. -/
theorem LS.beside {w w' : World} {p b n base : Nat} {s : Int → Mon} {v : Value} {xs : List Int} (h : LS w p b n s) (ho : OwnZ w base v xs) (hg : w.grownBy w' v.ownBlock) : LS w' p b n s := by
  rcases ho.2 with ⟨rfl, _⟩ | ⟨g, cap, cur, rfl, _, hh, _⟩
  · exact h.below ⟨hg.os, hg.tape, hg.output, hg.size, fun i hi => hg.block i hi (by simp [Value.ownBlock])⟩
  · obtain ⟨⟨f, hM, hH⟩, hB, hbd⟩ := h
    have hg' : w.grownBy w' (some g) := hg
    obtain ⟨es, clock, hm⟩ := hM.isMap
    have hbg : b ≠ g := by
      rintro rfl
      rw [hm] at hh
      cases hh
    have hpg : p ≠ g := by
      rintro rfl
      have hB' : w.heap[p]? = some (.cells #[.map (some b)] 89) := hB
      rw [hB'] at hh
      injection hh with hh
      injection hh with _ ht
      exact absurd ht (by decide)
    refine ⟨⟨f, hM.kept hg' (by simpa using hbg), fun r => ?_⟩, hB.grown hg' (by simpa using hpg), hbd⟩
    obtain ⟨A, c, e, hr, h1, h2, h3⟩ := hH r
    refine ⟨A, c, e, ⟨hr.1, fun hn => ?_⟩, h1, h2, h3.grown hg' hh (fun cs fz e => by injection e with _ ht; exact absurd ht (by decide))⟩
    obtain ⟨ad, eA, hb, hc⟩ := hr.2 hn
    obtain ⟨cs, fz, hk⟩ := h3 ad eA
    have hne : ad.block ≠ g := by
      intro e
      rw [e, hh] at hk
      injection hk with hk
      injection hk with _ ht
      exact absurd ht (by decide)
    exact ⟨ad, eA, Nat.lt_of_lt_of_le hb hg.size, fun j u hu => (World.cell?_of_block (hg'.block _ (by rw [block_of_add]; exact hb) (by rw [block_of_add]; simpa using hne))).trans (hc j u hu)⟩
theorem OwnZ.beside {w w' : World} {base b : Nat} {v : Value} {xs : List Int} (h : OwnZ w base v xs) (hg : w.grownBy w' (some b)) (hb : b < base) : OwnZ w' base v xs :=
  World.ownsRow.kept h hg (.inr fun e => by have := (h.lt b e).1; omega)
end Go.Proofs.Ytpfgdgelnehjpaa
