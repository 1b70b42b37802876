/- The note of bytes: the reference's Read. -/
import Derived.Test.YtdilccihhelilaaNotePH
import Derived.Test.YtdilccihhelilaaStoreMH
import Derived.Deep.RegionLaw
namespace Go.Proofs.Ytdilccihhelilaa
open Go.RowKit
set_option linter.unusedVariables false
set_option linter.unusedSimpArgs false

/-- How many entries bytes say that they bear. -/
def manyN (xs : List Int) : Int := gfold 0 ((xs.drop 9).take 4)
/-- The first k entries of bytes. -/
def ents (xs : List Int) (k : Nat) : List Ent := (List.range k).map fun i => getE (xs.drop (13 + 14 * i))
theorem ents_length (xs : List Int) (k : Nat) : (ents xs k).length = k := by simp [ents]
theorem ents_next (xs : List Int) (k : Nat) : ents xs (k + 1) = ents xs k ++ [getE (xs.drop (13 + 14 * k))] := by simp [ents, List.range_succ]
theorem sub_readsR {w : World} {B k n c : Nat} {ad : Addr} {bs : List Int} (hr : ReadsB w B (some ad) bs) (hk : k + n ≤ bs.length) (hc : bs.length ≤ c) :
    ReadsB w B (if c = k then some ad else some (ad.add k)) ((bs.drop k).take n) := by
  have h1 := (Reads.cut hr (k := k) (cap := c) (by omega) hc).take (k := n) (by omega)
  have hl : ((bs.drop k).take n).length = n := by rw [List.length_take, List.length_drop]; omega
  unfold ReadsB
  rw [hl]
  have hx : cellsOf .u8 ((bs.drop k).take n) = List.take (n * 1) (List.drop (k * 1) (cellsOf .u8 bs)) := by simp [cellsOf, List.map_take, List.map_drop]
  rw [hx]
  simpa only [Nat.mul_one, Option.map_some] using h1
theorem getE_take (ys : List Int) : getE (ys.take 14) = getE ys := by
  unfold getE
  rw [List.take_take, List.drop_take, List.take_take, List.drop_take, List.take_take, List.drop_take, List.take_take]
  rfl
theorem ents_in (xs : List Int) (hb : Bytes xs) (k : Nat) (h : 13 + 14 * k ≤ xs.length) : InL (ents xs k) := by
  intro e he
  unfold ents at he
  rw [List.mem_map] at he
  obtain ⟨i, hi, rfl⟩ := he
  rw [List.mem_range] at hi
  exact getE_in (hb.drop _) (by rw [List.length_drop]; omega)
def RdPost (w : World) (what view n : Int) (es : List Ent) (code : Int) (e : Ending) (w' : World) : Prop :=
  Below w.heap.size w w' ∧ ∃ A c, e = .returned (.tuple #[.agg #[.int .i64 what, .int .i64 view, .int .i64 n, .slice A es.length c], .int .i64 code]) ∧ ReadsE w' w'.heap.size A es ∧ es.length ≤ c ∧ c ≤ maxLen
def RdEnd (w : World) (what view n : Int) (es : List Ent) (good : Prop) (e : Ending) (w' : World) : Prop := (good → RdPost w what view n es 0 e w') ∧ (¬ good → RdPost w 0 0 0 [] 4 e w')
/-- What bytes are, as a note. -/
def rdN (xs : List Int) : Nat := (manyN xs).toNat
def rd0 (xs : List Int) : Int := gfold 0 ((xs.drop 0).take 1)
def rd1_ (xs : List Int) : Int := gfold 0 ((xs.drop (0 + 1)).take 4)
def rd2_ (xs : List Int) : Int := gfold 0 ((xs.drop (0 + 1 + 4)).take 4)
def rdGood (xs : List Int) : Prop := xs.length = 13 + 14 * rdN xs ∧ nErr (rd0 xs) (rd1_ xs) (rd2_ xs) (ents xs (rdN xs)) = 0
instance (xs : List Int) : Decidable (rdGood xs) := by unfold rdGood; exact inferInstance
def rdC (xs : List Int) : Int := if xs.length < 13 then 3 else if 4096 < manyN xs then 4 else if (xs.length : Int) < 13 + 14 * manyN xs then 3 else if rdGood xs then 0 else 4
def rdWhat (xs : List Int) : Int := if rdC xs = 0 then rd0 xs else 0
def rdView (xs : List Int) : Int := if rdC xs = 0 then rd1_ xs else 0
def rdNum (xs : List Int) : Int := if rdC xs = 0 then rd2_ xs else 0
def rdL (xs : List Int) : List Ent := if rdC xs = 0 then ents xs (rdN xs) else []
theorem rd_bad {xs : List Int} (h : ¬ rdC xs = 0) : rdWhat xs = 0 ∧ rdView xs = 0 ∧ rdNum xs = 0 ∧ rdL xs = [] := ⟨if_neg h, if_neg h, if_neg h, if_neg h⟩
theorem rd_good {xs : List Int} (h : rdC xs = 0) : rdWhat xs = rd0 xs ∧ rdView xs = rd1_ xs ∧ rdNum xs = rd2_ xs ∧ rdL xs = ents xs (rdN xs) := ⟨if_pos h, if_pos h, if_pos h, if_pos h⟩
theorem rdC_short {xs : List Int} (h : xs.length < 13) : rdC xs = 3 := if_pos h
theorem rdC_many {xs : List Int} (h : ¬ xs.length < 13) (h2 : 4096 < manyN xs) : rdC xs = 4 := by unfold rdC; rw [if_neg h, if_pos h2]
theorem rdC_less {xs : List Int} (h : ¬ xs.length < 13) (h2 : ¬ 4096 < manyN xs) (h3 : (xs.length : Int) < 13 + 14 * manyN xs) : rdC xs = 3 := by unfold rdC; rw [if_neg h, if_neg h2, if_pos h3]
theorem rdC_good {xs : List Int} (h : ¬ xs.length < 13) (h2 : ¬ 4096 < manyN xs) (h3 : ¬ (xs.length : Int) < 13 + 14 * manyN xs) (h4 : rdGood xs) : rdC xs = 0 := by unfold rdC; rw [if_neg h, if_neg h2, if_neg h3, if_pos h4]
theorem rdC_no {xs : List Int} (h : ¬ xs.length < 13) (h2 : ¬ 4096 < manyN xs) (h3 : ¬ (xs.length : Int) < 13 + 14 * manyN xs) (h4 : ¬ rdGood xs) : rdC xs = 4 := by unfold rdC; rw [if_neg h, if_neg h2, if_neg h3, if_neg h4]
theorem rdC_inv {xs : List Int} (h : rdC xs = 0) : ¬ xs.length < 13 ∧ ¬ 4096 < manyN xs ∧ rdGood xs := by
  unfold rdC at h
  split at h
  · cases h
  · split at h
    · cases h
    · split at h
      · cases h
      · split at h
        · exact ⟨by assumption, by assumption, by assumption⟩
        · cases h
/-- What a call that reads a note comes to. -/
def RdAll (w : World) (xs : List Int) (e : Ending) (w' : World) : Prop := RdPost w (rdWhat xs) (rdView xs) (rdNum xs) (rdL xs) (rdC xs) e w'
theorem RdAll.no {w w' : World} {xs : List Int} {code : Int} {e : Ending} (hc : rdC xs = code) (hne : ¬ code = 0) (h : e = .returned (.tuple #[.agg #[.int .i64 0, .int .i64 0, .int .i64 0, .slice none 0 0], .int .i64 code]) ∧ Below w.heap.size w w') : RdAll w xs e w' := by
  subst hc
  obtain ⟨h0, h1, h2, h3⟩ := rd_bad hne
  unfold RdAll
  rw [h0, h1, h2, h3]
  exact ⟨h.2, none, 0, h.1, ReadsE.nil_ _ _, Nat.le_refl _, by unfold maxLen; omega⟩
end Go.Proofs.Ytdilccihhelilaa
