/- An entry's and a note's bytes are read as itself; bytes that are one are its bytes. Plain laws. -/
import Derived.Test.YtdilccihhelilaaReadRH
import Derived.Test.YtdilccihhelilaaPairG
namespace Go.Proofs.Ytdilccihhelilaa
open Go.RowKit
set_option linter.unusedVariables false

theorem byte_add (x k : Int) (j d : Nat) : (x + k * 256 ^ (j + 1 + d)) / 256 ^ j % 256 = x / 256 ^ j % 256 := by
  have hp : (0 : Int) < 256 ^ j := Int.pow_pos (by decide)
  have e : k * (256 : Int) ^ (j + 1 + d) = (k * 256 ^ d * 256) * 256 ^ j := by
    rw [Int.pow_add, Int.pow_add, Int.pow_one]
    simp only [Int.mul_assoc, Int.mul_comm, Int.mul_left_comm]
  rw [e, Int.add_mul_ediv_right _ _ (by omega)]
  omega
theorem beN_add_aux (x k : Int) (N : Nat) : ∀ n, n ≤ N → beN n (x + k * 256 ^ N) = beN n x := by
  intro n
  induction n with
  | zero => intro _; rfl
  | succ n ih =>
    intro hn
    simp only [beN]
    rw [ih (by omega)]
    obtain ⟨d, rfl⟩ := Nat.exists_eq_add_of_le hn
    rw [byte_add]
theorem beN_add (x k : Int) (N : Nat) : beN N (x + k * 256 ^ N) = beN N x := beN_add_aux x k N N (Nat.le_refl _)
theorem back_i8 {x : Int} (h : in64 x) : sval (beN 8 x) = x := by
  rw [← sval_wrap (beN_bytes 8 x) (beN_length 8 x), gfold_beNN, Int.zero_mul, Int.zero_add, show (256 : Int) ^ 8 = 18446744073709551616 from by decide]
  unfold in64 at h
  unfold wrap64
  omega
theorem beN_gfold : ∀ (ys : List Int), Bytes ys → beN ys.length (gfold 0 ys) = ys
  | [], _ => rfl
  | c :: cs, hb => by
    have hc := hb c (by simp)
    have hbc : Bytes cs := fun x hx => hb x (List.mem_cons_of_mem _ hx)
    have ih := beN_gfold cs hbc
    have h1 := gfold_bd cs 0 1 hbc (by omega) (by omega)
    have h2 := gfold_nn cs 0 hbc (by omega)
    have hp := pow256_posN cs.length
    rw [gfold_cons, Int.zero_mul, Int.zero_add, gfold_lin cs c, List.length_cons, beN]
    have e1 : (c * 256 ^ cs.length + gfold 0 cs) / 256 ^ cs.length = c := by
      rw [Int.add_comm, Int.add_mul_ediv_right _ _ (by omega), Int.ediv_eq_zero_of_lt h2 (by omega)]
      omega
    rw [e1, Int.add_comm (c * _), beN_add, ih, show c % 256 = c from by omega]
theorem beN_sval {ys : List Int} (hb : Bytes ys) (hl : ys.length = 8) : beN 8 (sval ys) = ys := by
  have h := beN_gfold ys hb
  rw [hl] at h
  have e : sval ys = gfold 0 ys + ((sval ys - gfold 0 ys) / 256 ^ 8) * 256 ^ 8 := by
    rw [← sval_wrap hb hl, show (256 : Int) ^ 8 = 18446744073709551616 from by decide]
    generalize gfold 0 ys = G
    unfold wrap64
    omega
  rw [e, beN_add, h]

theorem take_left_ {xs ys : List Int} {n : Nat} (h : xs.length = n) : (xs ++ ys).take n = xs := by subst h; exact List.take_left
theorem drop_left_ {xs ys : List Int} {n : Nat} (h : xs.length = n) : (xs ++ ys).drop n = ys := by subst h; exact List.drop_left
theorem getE_encE {e : Ent} (hi : e.In) (ho : e.ok) (zs : List Int) : getE (encE e ++ zs) = e := by
  obtain ⟨o1, o2, o3⟩ := ho
  have ha : 0 ≤ e.a ∧ e.a < 256 := by omega
  have hw : 0 ≤ e.what ∧ e.what < 256 := by omega
  have x4 : encE e ++ zs = beN 4 e.view ++ (beN 1 e.what ++ (beN 1 e.a ++ (beN 8 e.n ++ zs))) := by simp [encE]
  have d4 : (encE e ++ zs).drop 4 = beN 1 e.what ++ (beN 1 e.a ++ (beN 8 e.n ++ zs)) := by rw [x4, drop_left_ (beN_length _ _)]
  have d5 : (encE e ++ zs).drop 5 = beN 1 e.a ++ (beN 8 e.n ++ zs) := by rw [show 5 = 4 + 1 from rfl, ← List.drop_drop, d4, drop_left_ (beN_length _ _)]
  have d6 : (encE e ++ zs).drop 6 = beN 8 e.n ++ zs := by rw [show 6 = 5 + 1 from rfl, ← List.drop_drop, d5, drop_left_ (beN_length _ _)]
  unfold getE
  rw [d4, d5, d6, x4, take_left_ (beN_length _ _), take_left_ (beN_length _ _), take_left_ (beN_length _ _), take_left_ (beN_length _ _)]
  exact Ent.ext_ (back_uN o1 (by show e.view < 4294967296; omega)) (back_uN hw.1 (by show e.what < 256; omega)) (back_uN ha.1 (by show e.a < 256; omega)) (back_i8 hi.n)
theorem encE_getE {xs : List Int} (hb : Bytes xs) (hl : 14 ≤ xs.length) : encE (getE xs) = xs.take 14 := by
  unfold encE getE
  have l4 : (xs.take 4).length = 4 := by rw [List.length_take]; omega
  have l1 : ((xs.drop 4).take 1).length = 1 := by rw [List.length_take, List.length_drop]; omega
  have l1' : ((xs.drop 5).take 1).length = 1 := by rw [List.length_take, List.length_drop]; omega
  have l8 : ((xs.drop 6).take 8).length = 8 := by rw [List.length_take, List.length_drop]; omega
  have e4 := beN_gfold _ (hb.take 4)
  have e1 := beN_gfold _ ((hb.drop 4).take 1)
  have e1' := beN_gfold _ ((hb.drop 5).take 1)
  rw [l4] at e4
  rw [l1] at e1
  rw [l1'] at e1'
  rw [e4, e1, e1', beN_sval ((hb.drop 6).take 8) l8]
  have a1 : xs.take 5 = xs.take 4 ++ (xs.drop 4).take 1 := by rw [show 5 = 4 + 1 from rfl, List.take_add]
  have a2 : xs.take 6 = xs.take 5 ++ (xs.drop 5).take 1 := by rw [show 6 = 5 + 1 from rfl, List.take_add]
  have a3 : xs.take 14 = xs.take 6 ++ (xs.drop 6).take 8 := by rw [show 14 = 6 + 8 from rfl, List.take_add]
  rw [a3, a2, a1]
  simp

/-- The head of a note's bytes. -/
def headN (what view n : Int) (m : Nat) : List Int := ((beN 1 what ++ beN 4 view) ++ beN 4 n) ++ beN 4 m
theorem headN_length (what view n : Int) (m : Nat) : (headN what view n m).length = 13 := by simp [headN, beN_length]
theorem flat_drop : ∀ (es : List Ent) (i : Nat), (es.flatMap encE).drop (14 * i) = (es.drop i).flatMap encE
  | [], i => by simp
  | e :: es, 0 => rfl
  | e :: es, i + 1 => by
    rw [List.flatMap_cons, show 14 * (i + 1) = 14 + 14 * i from by omega, ← List.drop_drop, drop_left_ (encE_length e), flat_drop es i]
    rfl
theorem ents_noteB {what view n : Int} {es : List Ent} (hi : InL es) (ho : allOk es = true) : ents (noteB what view n es) es.length = es := by
  apply List.ext_getElem
  · exact ents_length _ _
  · intro i h1 h2
    have hx : es[i]? = some es[i] := List.getElem?_eq_getElem h2
    have hg : (ents (noteB what view n es) es.length)[i] = getE ((noteB what view n es).drop (13 + 14 * i)) := by simp [ents]
    rw [hg]
    have hd : (noteB what view n es).drop (13 + 14 * i) = encE es[i] ++ (es.drop (i + 1)).flatMap encE := by
      rw [← List.drop_drop]
      show ((headN what view n es.length ++ es.flatMap encE).drop 13).drop (14 * i) = _
      rw [drop_left_ (headN_length _ _ _ _), flat_drop, List.drop_eq_getElem_cons h2, List.flatMap_cons]
    rw [hd]
    exact getE_encE (hi.at_ hx) (allOk_at ho hx) _
theorem heads_noteB {what view n : Int} {es : List Ent} (h : nErr what view n es = 0) :
    gfold 0 (((noteB what view n es).drop 0).take 1) = what ∧ gfold 0 (((noteB what view n es).drop (0 + 1)).take 4) = view ∧ gfold 0 (((noteB what view n es).drop (0 + 1 + 4)).take 4) = n ∧ manyN (noteB what view n es) = es.length := by
  obtain ⟨h0, h1, h2, h3, _⟩ := nErr_zero h
  have x0 : noteB what view n es = beN 1 what ++ (beN 4 view ++ (beN 4 n ++ (beN 4 es.length ++ es.flatMap encE))) := by simp [noteB]
  have d1 : (noteB what view n es).drop 1 = beN 4 view ++ (beN 4 n ++ (beN 4 es.length ++ es.flatMap encE)) := by rw [x0, drop_left_ (beN_length _ _)]
  have d5 : (noteB what view n es).drop 5 = beN 4 n ++ (beN 4 es.length ++ es.flatMap encE) := by rw [show 5 = 1 + 4 from rfl, ← List.drop_drop, d1, drop_left_ (beN_length _ _)]
  have d9 : (noteB what view n es).drop 9 = beN 4 es.length ++ es.flatMap encE := by rw [show 9 = 5 + 4 from rfl, ← List.drop_drop, d5, drop_left_ (beN_length _ _)]
  refine ⟨?_, ?_, ?_, ?_⟩
  · rw [List.drop_zero, x0, take_left_ (beN_length _ _)]
    exact back_uN h0.1 (by show what < 256; omega)
  · rw [show 0 + 1 = 1 from rfl, d1, take_left_ (beN_length _ _)]
    exact back_uN h1.1 (by show view < 4294967296; omega)
  · rw [show 0 + 1 + 4 = 5 from rfl, d5, take_left_ (beN_length _ _)]
    exact back_uN h2.1 (by show n < 4294967296; omega)
  · unfold manyN
    rw [d9, take_left_ (beN_length _ _)]
    exact back_uN (by omega) (by show (es.length : Int) < 4294967296; omega)
theorem flat_ents {xs : List Int} (hb : Bytes xs) : ∀ k : Nat, 13 + 14 * k ≤ xs.length → (ents xs k).flatMap encE = (xs.drop 13).take (14 * k)
  | 0, _ => by simp [ents]
  | k + 1, h => by
    rw [ents_next, List.flatMap_append, flat_ents hb k (by omega), List.flatMap_singleton, encE_getE (hb.drop _) (by rw [List.length_drop]; omega), show 14 * (k + 1) = 14 * k + 14 from by omega, List.take_add, List.drop_drop]
theorem noteB_ents {xs : List Int} (hb : Bytes xs) {N : Nat} (hN : manyN xs = N) (hl : xs.length = 13 + 14 * N) :
    noteB (gfold 0 ((xs.drop 0).take 1)) (gfold 0 ((xs.drop (0 + 1)).take 4)) (gfold 0 ((xs.drop (0 + 1 + 4)).take 4)) (ents xs N) = xs := by
  have l0 : ((xs.drop 0).take 1).length = 1 := by rw [List.length_take, List.length_drop]; omega
  have l1 : ((xs.drop (0 + 1)).take 4).length = 4 := by rw [List.length_take, List.length_drop]; omega
  have l2 : ((xs.drop (0 + 1 + 4)).take 4).length = 4 := by rw [List.length_take, List.length_drop]; omega
  have l3 : ((xs.drop 9).take 4).length = 4 := by rw [List.length_take, List.length_drop]; omega
  have e0 := beN_gfold _ ((hb.drop 0).take 1)
  have e1 := beN_gfold _ ((hb.drop (0 + 1)).take 4)
  have e2 := beN_gfold _ ((hb.drop (0 + 1 + 4)).take 4)
  have e3 := beN_gfold _ ((hb.drop 9).take 4)
  rw [l0] at e0
  rw [l1] at e1
  rw [l2] at e2
  rw [l3] at e3
  unfold noteB
  have hN' : gfold 0 ((xs.drop 9).take 4) = (N : Int) := hN
  rw [ents_length, ← hN', e0, e1, e2, e3, flat_ents hb N (by omega)]
  have a1 : xs.take 5 = xs.take 1 ++ (xs.drop 1).take 4 := by rw [show 5 = 1 + 4 from rfl, List.take_add]
  have a2 : xs.take 9 = xs.take 5 ++ (xs.drop 5).take 4 := by rw [show 9 = 5 + 4 from rfl, List.take_add]
  have a3 : xs.take 13 = xs.take 9 ++ (xs.drop 9).take 4 := by rw [show 13 = 9 + 4 from rfl, List.take_add]
  have a4 : (xs.drop 13).take (14 * N) = xs.drop 13 := List.take_of_length_le (by rw [List.length_drop]; omega)
  rw [a4, List.drop_zero, show 0 + 1 = 1 from rfl, show 1 + 4 = 5 from rfl, ← a1, ← a2, ← a3, List.take_append_drop]
end Go.Proofs.Ytdilccihhelilaa
