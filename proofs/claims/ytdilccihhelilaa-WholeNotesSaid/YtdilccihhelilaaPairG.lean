/- What an end's own frame says. -/
import Derived.Test.YtdilccihhelilaaPairE
import Derived.Test.YtdilccihhelilaaFlip
namespace Go.Proofs.Ytdilccihhelilaa
open Go.RowKit
set_option linter.unusedVariables false
set_option linter.unusedSimpArgs false

theorem pow256_posN (n : Nat) : (0 : Int) < 256 ^ n := Int.pow_pos (by omega)
theorem emod_mulN {x p q : Int} (hp : 0 < p) : x % (p * q) = p * (x / p % q) + x % p := by
  have h1 := Int.mul_ediv_add_emod x (p * q)
  have h2 := Int.mul_ediv_add_emod x p
  have h3 := Int.mul_ediv_add_emod (x / p) q
  have hd : x / p / q = x / (p * q) := by rw [Int.ediv_ediv, if_neg (by omega), Int.sub_zero]
  rw [← hd, Int.mul_assoc] at h1
  generalize x / p / q = B at *
  generalize x / p % q = t at *
  generalize x / p = A at *
  subst h3
  rw [Int.mul_add] at h2
  omega
theorem gfold_beNN (n : Nat) : ∀ (a x : Int), gfold a (beN n x) = a * 256 ^ n + x % 256 ^ n := by
  induction n with
  | zero => intro a x; simp [beN, gfold_nil, Int.emod_one]
  | succ n ih =>
    intro a x
    rw [beN, gfold_cons, ih, Int.pow_succ]
    have hp := pow256_posN n
    have h1 : x % (256 ^ n * 256) = 256 ^ n * (x / 256 ^ n % 256) + x % 256 ^ n := emod_mulN hp
    rw [h1, Int.add_mul, Int.mul_assoc, Int.mul_comm 256 (256 ^ n), Int.add_assoc, Int.mul_comm (x / 256 ^ n % 256) _]
theorem back_uN {n : Nat} {x : Int} (h0 : 0 ≤ x) (hx : x < 256 ^ n) : gfold 0 (beN n x) = x := by
  rw [gfold_beNN, Int.zero_mul, Int.zero_add]
  exact Int.emod_eq_of_lt h0 hx

/-- A frame of an end's own opens to what was put in. -/
theorem fr_says {n g : Int} {xs : List Int} (hn0 : 0 ≤ n) (hn1 : n < 4294967296) (hg0 : 0 ≤ g) (hg1 : g < 4294967296) (hl : xs.length ≤ 1048568) :
    opC (FR n g xs) = 0 ∧ opK (FR n g xs) = (FR n g xs).length ∧ (opB (FR n g xs)).length = xs.length + 8 ∧ frM (FR n g xs) = n ∧ frH (FR n g xs) = g ∧ frB (FR n g xs) = xs := by
  have hlen : (beN 4 n ++ beN 4 g ++ xs).length = xs.length + 8 := by rw [List.length_append, List.length_append, beN_length, beN_length]; omega
  have ho := opens_frame (xs := beN 4 n ++ beN 4 g ++ xs) (ys := []) (by omega)
  rw [List.append_nil] at ho
  obtain ⟨h1, h2, h3⟩ := ho
  have hB : opB (FR n g xs) = beN 4 n ++ (beN 4 g ++ xs) := by rw [← List.append_assoc]; exact h3
  have hd : (beN 4 n ++ (beN 4 g ++ xs)).drop 4 = beN 4 g ++ xs := by
    have := List.drop_left (l₁ := beN 4 n) (l₂ := beN 4 g ++ xs)
    rwa [beN_length] at this
  refine ⟨h1, ?_, ?_, ?_, ?_, ?_⟩
  · rw [show opK (FR n g xs) = _ from h2, FR_len, hlen]
    push_cast
    omega
  · rw [hB, ← List.append_assoc, hlen]
  · unfold frM
    rw [hB]
    have := List.take_left (l₁ := beN 4 n) (l₂ := beN 4 g ++ xs)
    rw [beN_length] at this
    rw [this]
    exact back_uN hn0 (by simpa using hn1)
  · unfold frH
    rw [hB, hd]
    have := List.take_left (l₁ := beN 4 g) (l₂ := xs)
    rw [beN_length] at this
    rw [this]
    exact back_uN hg0 (by simpa using hg1)
  · unfold frB
    rw [hB, show (8 : Nat) = 4 + 4 from rfl, ← List.drop_drop, hd]
    have := List.drop_left (l₁ := beN 4 g) (l₂ := xs)
    rwa [beN_length] at this
/-- Such a frame is taken where its answer's number was sent. -/
theorem fr_taken {n g lim : Int} {xs : List Int} (hn0 : 0 ≤ n) (hn1 : n < 4294967296) (hg0 : 0 ≤ g) (hg1 : g < 4294967296) (hl : xs.length ≤ 1048568) (hlim : g < lim) (hz : n = 0 → xs = []) : frC (FR n g xs) lim = 0 := by
  obtain ⟨h1, h2, h3, h4, h5, h6⟩ := fr_says hn0 hn1 hg0 hg1 hl
  unfold frC
  rw [if_neg (by omega), if_neg]
  rw [h2, h3, h4, h5]
  rintro (h | h | ⟨h, h'⟩ | h)
  · exact h rfl
  · omega
  · rw [hz h] at h'; simp at h'
  · omega
/-- What an end that is only sent to holds early: numbers beyond got, not far, each with what was sent under it. -/
def Inb (sent : List (List Int)) (w : World) (got : Nat) (ev : Int → Option Value) : Prop :=
  ∀ y v, ev y = some v → ∃ i : Nat, y = (i : Int) + 1 ∧ (got : Int) < y ∧ y ≤ got + 65 ∧ ∃ xs, sent[i]? = some xs ∧ OwnB w 0 v xs
/-- One frame of the sender's comes: what is handed on is what was sent next, in order; what is held stays so. -/
theorem inb_step {sent : List (List Int)} {w : World} {got j : Nat} {x : List Int} {b : Value} {vs : List Value} {ev E1 evN : Int → Option Value} {ins : Bool} (h : Inb sent w got ev) (hj : sent[j]? = some x) (hb : OwnB w 0 b x)
    (hE : ∀ y, E1 y = if ins = true ∧ y = (j : Int) + 1 then some b else ev y) (hins : ins = true → (got : Int) < (j : Int) + 1 ∧ (j : Int) + 1 - got ≤ 65) (hvs : ∀ i (hi : i < vs.length), E1 ((got : Int) + 1 + i) = some vs[i]) (hend : E1 ((got : Int) + 1 + vs.length) = none)
    (hN : ∀ y, evN y = if (got : Int) < y ∧ y ≤ got + vs.length then none else E1 y) :
    (∀ i (hi : i < vs.length), ∃ xs, sent[got + i]? = some xs ∧ OwnB w 0 vs[i] xs) ∧ Inb sent w (got + vs.length) evN ∧ evN (((got + vs.length : Nat) : Int) + 1) = none := by
  have hE1 : Inb sent w got E1 := fun y v hy => by
    rw [hE] at hy
    split at hy
    · rename_i hc
      injection hy with hy
      subst hy
      have := hins hc.1
      exact ⟨j, hc.2, by omega, by omega, x, hj, hb⟩
    · exact h y v hy
  refine ⟨fun i hi => ?_, fun y v hy => ?_, ?_⟩
  · obtain ⟨k, hk, _, _, xs, h1, h2⟩ := hE1 _ _ (hvs i hi)
    have : k = got + i := by omega
    subst this
    exact ⟨xs, h1, h2⟩
  · rw [hN] at hy
    split at hy
    · cases hy
    · rename_i hc
      obtain ⟨k, hk, h1, h2, h3⟩ := hE1 _ _ hy
      exact ⟨k, hk, by push_cast; omega, by push_cast; omega, h3⟩
  · rw [hN, if_neg (by push_cast; omega)]
    rw [← hend]
    congr 1
    push_cast
    omega
/-- An end that is only sent to takes a frame of the sender's. -/
theorem take_fr (F : Nat → Prop) (g m cnt : Nat) (own : Bool) (got j : Nat) (ev : Int → Option Value) (sent : List (List Int)) (x : List Int) (A : Option Addr) (c : Nat) (w : World) (h : HE w F g m cnt own [] 1 got ev) (hI : Inb sent w got ev)
    (hj : sent[j]? = some x) (hx : x.length ≤ 1048568) (hb : Bytes x) (hjl : j < 100000) (hgl : got < 100000) (hcnt : cnt < 4294967296)
    (hr : ReadsB w w.heap.size A (FR ((j : Int) + 1) 0 x)) (hc : (FR ((j : Int) + 1) 0 x).length ≤ c) (hm : c ≤ maxLen) :
    Calls Try.prog 11 #[.pointer (some ⟨g, 0, none⟩), .slice A (FR ((j : Int) + 1) 0 x).length c] w fun e w' => ∃ AO cO vs AB cB evN, e = .returned (.tuple #[.slice AO vs.length cO, .slice AB 16 cB, .int .i64 0]) ∧ Turned F w w' ∧
      HE w' F g m (cnt + 1) false [] 1 ((got : Int) + vs.length) evN ∧ w'.ownsRow w.heap.size 27 1 (.slice AO vs.length cO) vs.length vs ∧ OwnB w' 0 (.slice AB 16 cB) (FR 0 ((got : Int) + vs.length) []) ∧
      (∀ i (hi : i < vs.length), ∃ xs, sent[got + i]? = some xs ∧ OwnB w' 0 vs[i] xs) ∧ Inb sent w' (got + vs.length) evN ∧ evN (((got + vs.length : Nat) : Int) + 1) = none := by
  obtain ⟨s1, s2, s3, s4, s5, s6⟩ := fr_says (n := (j : Int) + 1) (g := 0) (xs := x) (by omega) (by omega) (by omega) (by omega) hx
  have hf : frC (FR ((j : Int) + 1) 0 x) (1 + (([] : List Value).length : Int)) = 0 := fr_taken (by omega) (by omega) (by omega) (by omega) hx (by simp) (fun h => by omega)
  have hk0 : kN (FR ((j : Int) + 1) 0 x) 1 = 0 := by unfold kN; rw [s5]; rfl
  refine (take_ok F g m cnt own [] 1 got ev A c _ w h hr (FR_bytes hb) hc hm (by omega) (by omega) (by simp) hf (by omega) (by omega) hcnt (fun y hy => ?_) (fun y v hy => ?_)).mono ?_
  · cases he : ev y with
    | none => rw [he] at hy; cases hy
    | some v => obtain ⟨_, _, _, h2, _⟩ := hI y v he; exact h2
  · obtain ⟨_, _, _, _, xs, _, h2⟩ := hI y v hy
    obtain ⟨A', c', e, _⟩ := own_form h2
    exact ⟨_, _, _, e⟩
  · rintro e w' ⟨AO, cO, vs, AB, nB, cB, b, evN, he, hT, hH, _, hO, hOb, _, hne⟩
    obtain ⟨rfl, hF, hvs, hend, hN⟩ := hne (by rw [s4]; omega)
    rw [s6] at hOb
    rw [hk0] at hH
    have hI' : Inb sent w' got ev := fun y v hy => by
      obtain ⟨i, h1, h2, h3, xs, h4, h5⟩ := hI y v hy
      exact ⟨i, h1, h2, h3, xs, h4, h5.keep hT (fun k hk => h.noB k hk)⟩
    obtain ⟨r1, r2, r3⟩ := inb_step (ins := insB (FR ((j : Int) + 1) 0 x) got ev) hI' hj hOb (fun y => by unfold ev1; rw [s4]) (fun hi => by
      unfold insB at hi
      simp only [Bool.and_eq_true, decide_eq_true_eq, s4] at hi
      omega) hvs hend hN
    exact ⟨AO, cO, vs, AB, cB, evN, he, hT, by simpa using hH, hO, hF, r1, r2, r3⟩
end Go.Proofs.Ytdilccihhelilaa
