/- Rows of a statement: what comes in, and the statement's own comparison with it. -/
import Derived.Test.YtdilccihhelilaaPairI
namespace Go.Proofs.Ytdilccihhelilaa
open Go.RowKit
open Go.Joins Go.ChangeShapes Go.WideShapes Go.Deep
set_option linter.unusedVariables false
set_option linter.unusedSimpArgs false

theorem IsRow.at_ {k : IntKind} {w : World} {a : Option Addr} {len cap : Nat} {zs : List Int} (h : IsRow k w a len cap zs) {i : Nat} (hi : i < len) : ∃ x n, a = some x ∧ x.block < w.heap.size ∧ w.cell? (x.add i) = some (.int k n) ∧ (Lit.int k n).wf = true := by
  rcases h with ⟨rfl, rfl, rfl, rfl⟩ | ⟨x, rfl, hl, hm, hz, hc, hw⟩
  · omega
  · have hi' : i < zs.length := by omega
    refine ⟨x, zs[i], rfl, ?_, by rw [hc i hi']; simp [List.getD, List.getElem?_eq_getElem hi'], hw _ (List.getElem_mem hi')⟩
    have := block_of_cell (hc i hi')
    rwa [block_of_add] at this
theorem tmod_small {z : Int} {n : Nat} (hn : 0 < n) : -(n : Int) < z.tmod n ∧ z.tmod n < n := by
  have h : (z.tmod n).natAbs < n := by
    rw [Int.natAbs_tmod]
    have := Nat.mod_lt z.natAbs (y := (n : Int).natAbs) (by omega)
    omega
  omega
set_option maxRecDepth 100000 in
theorem open_rowsC {H : Type} {enc : TypeId × Value → H} {w : World} {fuel : Nat} {a : Option Addr} {len cap : Nat} {x : DataW H × List MemPlace} (h : DataW.trod enc Try.prog w 0 (fun _ => true) true fuel 26 [.slice a len cap] = some x) :
    ∃ ls : List (List Int), ls.length = len ∧ len ≤ cap ∧ RowsB w w.heap.size a ls := by
  obtain ⟨ls, h1, h2⟩ := open_rows h
  refine ⟨ls, h1, ?_, h2⟩
  rcases open_slice Try.underlying26 h with ⟨hcs, _⟩ | ⟨x0, l, c, m, n, D, Pl, hcs, hb, hl, hm, hmm, hx, hi⟩
  · simp only [List.cons.injEq, and_true, Value.slice.injEq] at hcs
    omega
  · simp only [List.cons.injEq, and_true, Value.slice.injEq] at hcs
    omega
/-- Two new ends, two empty rows. -/
theorem ps_new {w1 w2 : World} {B : Nat} {Fa Fb : Nat → Prop} {ga ma gb mb : Nat} (ha : HE w1 Fa ga ma 0 true [] 1 0 (fun _ => none)) (hba : ∀ q, Fa q → B ≤ q) (hk : Below w1.heap.size w1 w2) (hb : HE w2 Fb gb mb 0 true [] 1 0 (fun _ => none)) (hbb : ∀ q, Fb q → w1.heap.size ≤ q) (hB : B ≤ w1.heap.size) :
    PS w2 B [] Fa ga ma 0 true [] 0 Fb gb mb 0 true 0 (fun _ => none) (.slice none 0 0) 0 [] (.slice none 0 0) [] := by
  have hz : ∀ q, (Value.slice none 0 0).ownBlock ≠ some q := fun q h => by simp [Value.ownBlock] at h
  exact { a := ha.below hk, k := trivial, b := hb, i := fun y v h => (by cases h), n := ⟨World.ownsRow_nil _ _ _ _, fun u hu => absurd hu (by simp)⟩, g := ⟨World.ownsRow_nil _ _ _ _, fun i hi => absurd hi (by simp)⟩,
          dab := fun q h1 h2 => (by have := (ha.lt q h1).1; have := hbb q h2; omega), dna := fun q _ => hz q, dnb := fun q _ => hz q, dga := fun q _ => hz q, dgb := fun q _ => hz q, dng := fun q _ => hz q, ba := hba, bb := fun q hq => (by have := hbb q hq; omega),
          s := fun x hx => absurd hx (by simp), sl := by simp, fg := Nat.le_refl _, gs := Nat.le_refl _ }

theorem RowsB.below {w w' : World} {B : Nat} {A : Option Addr} {ls : List (List Int)} (h : RowsB w B A ls) (k : Below B w w') : RowsB w' B A ls := fun i xs hi => by
  obtain ⟨ad, e, hb, hr⟩ := h i xs hi
  exact ⟨ad, e, hb, hr.below k (by rw [block_of_add]; exact hb)⟩
theorem gr_old {w : World} {B n : Nat} {ls : List (List Int)} {v : Value} {vs : List Value} (h : GR w B (ls.take n) v vs) : ∀ i, i < vs.length → ∃ u x, vs[i]? = some u ∧ ls[i]? = some x ∧ OwnB w 0 u x := fun i hi => by
  obtain ⟨x, hx, ho⟩ := h.has i hi
  refine ⟨vs[i], x, List.getElem?_eq_getElem hi, ?_, ho⟩
  rw [List.getElem?_take] at hx
  split at hx
  · exact hx
  · cases hx
/-- The frames of Tick are the sender's. -/
theorem tks_own {w : World} {vs : List Value} {S : List (List Int)} {f : Nat} (h : OBs w vs (tks ((f : Int) + 1) 0 ((S.drop f).take 64))) : ∀ i u, vs[i]? = some u → ∃ x, S[f + i]? = some x ∧ OwnB w 0 u (FR (((f + i : Nat) : Int) + 1) 0 x) := fun i u hu => by
  have hl := h.len
  rw [tks_len] at hl
  have hi := (List.getElem?_eq_some_iff.1 hu).1
  have hx : ((S.drop f).take 64)[i]? = some ((S.drop f).take 64)[i] := List.getElem?_eq_getElem (by omega)
  obtain ⟨v, hv, ho⟩ := h.at_ (tks_at 0 _ ((f : Int) + 1) i _ hx)
  rw [hv] at hu
  injection hu with hu
  subst hu
  refine ⟨_, ?_, by rw [show ((f + i : Nat) : Int) + 1 = (f : Int) + 1 + i by omega]; exact ho⟩
  rw [List.getElem?_take] at hx
  split at hx
  · rw [List.getElem?_drop] at hx
    exact hx
  · cases hx

set_option maxRecDepth 100000 in
set_option maxHeartbeats 2000000 in
theorem rows_in (A1 A2 : Option Addr) (c1 c2 n : Nat) (vs : List Value) (ls : List (List Int)) (w : World) (B1 B2 : Nat) (h1 : Reads w B1 1 A1 n vs) (h2 : RowsB w B2 A2 ls) (hB2 : B2 ≤ w.heap.size) (hl : n ≤ ls.length) (ho : ∀ i, i < n → ∃ v x, vs[i]? = some v ∧ ls[i]? = some x ∧ OwnB w 0 v x) (hn : n ≤ 1048576) :
    Calls Try.prog 16 #[.slice A1 n c1, .slice A2 n c2] w fun e w' => e = .returned (.bool true) ∧ Below w.heap.size w w' := by
  replace h1 := Lib.hid h1
  replace h2 := Lib.hid h2
  replace ho := Lib.hid ho
  replace hl := Lib.hid hl
  go_enter Try.func16, Try.ntmps16
  go_wp2_with fail
  go_loopw [5] (fun i wr => ∃ k : Nat, k ≤ n ∧ i = .int .i64 k ∧ (∀ p, wr.cell? p = w.cell? p) ∧ Below w.heap.size w wr) (fun i _ => n - (intOf i).toNat)
  case atStart => exact ⟨0, Nat.zero_le _, rfl, fun _ => rfl, Below.refl _ _⟩
  case round =>
    obtain ⟨k, hk, rfl, hC, hB⟩ := hrel
    replace hC := Lib.hid hC
    by_cases hlt : k < n
    · have b1 : decide ((k : Int) < (n : Int)) = true := decide_eq_true (by omega)
      have b2 : decide (k < n) = true := decide_eq_true hlt
      obtain ⟨u1, x, e1, e2, q1⟩ := ho.out k hlt
      obtain ⟨ad1, v1, rfl, _, f1, t1⟩ := Reads.at_ h1.out hlt
      rw [e1] at f1
      injection f1 with f1
      subst f1
      obtain ⟨P1, d1, rfl, _, _, r1⟩ := own_form q1
      obtain ⟨ad2, rfl, had2, P2, d2, t2, r2, _, _, _⟩ := h2.out k x e2
      have r1' : ReadsB wr w.heap.size P1 x := Reads.below r1 hB
      have r2' : ReadsB wr w.heap.size P2 x := Reads.below (Reads.more r2 hB2) hB
      have s1 : wr.cell? (ad1.add k) = some (.slice P1 x.length d1) := (hC.out _).trans t1
      have s2 : wr.cell? (ad2.add k) = some (.slice P2 x.length d2) := (hC.out _).trans t2
      have k1 := run_text (w := wr) x.length d1 r1' rfl
      have k2 := run_text (w := wr) x.length d2 r2' rfl
      have k3 := run_text (w := wr.drew) x.length d1 (Reads.drew r1') rfl
      have k4 := run_text (w := wr.drew) x.length d2 (Reads.drew r2') rfl
      generalize strOfNums x = str at *
      clear r1 r2 r1' r2' q1 t1 t2 e1 e2
      go_wp2_with fail
      go_region
      go_wp2_with fail
      exact ⟨⟨k + 1, by omega, by go_num, fun p => hC.out p, hB.drew⟩, by simp [intOf]; omega⟩
    · obtain rfl : k = n := by omega
      have b1 : decide ((k : Int) < (k : Int)) = false := decide_eq_false (by omega)
      have b2 : decide (k < k) = false := decide_eq_false (by omega)
      go_wp2_with fail
      go_ret
      exact ⟨rfl, hB⟩
end Go.Proofs.Ytdilccihhelilaa
