/- What is written is read as it was: the plain laws; rows of calls in memory; a script that comes in. -/
import Derived.Test.YtahmhkabipcfiaaOps1
import Derived.Test.YtahmhkabipcfiaaOpen
import Derived.Test.YtahmhkabipcfiaaOpenG
namespace Go.Proofs.Ytahmhkabipcfiaa
open Go.Joins Go.RowKit Go.ChangeShapes Go.WideShapes Go.Deep
set_option linter.unusedVariables false

theorem div_div_ {x p q : Int} (hp : 0 < p) : x / p / q = x / (p * q) := by
  rw [Int.ediv_ediv, if_neg (by omega), Int.sub_zero]
theorem emod_mul_ {x p q : Int} (hp : 0 < p) : x % (p * q) = p * (x / p % q) + x % p := by
  have h1 := Int.mul_ediv_add_emod x (p * q)
  have h2 := Int.mul_ediv_add_emod x p
  have h3 := Int.mul_ediv_add_emod (x / p) q
  rw [← div_div_ hp, Int.mul_assoc] at h1
  generalize x / p / q = B at *
  generalize x / p % q = t at *
  generalize x / p = A at *
  subst h3
  rw [Int.mul_add] at h2
  omega
theorem pow256_pos (n : Nat) : (0 : Int) < 256 ^ n := Int.pow_pos (by omega)
/-- The number that a number's bytes make. -/
theorem gfold_beN (n : Nat) : ∀ (a x : Int), gfold a (beN n x) = a * 256 ^ n + x % 256 ^ n := by
  induction n with
  | zero => intro a x; simp [beN, gfold_nil, Int.emod_one]
  | succ n ih =>
    intro a x
    rw [beN, gfold_cons, ih, Int.pow_succ]
    have hp := pow256_pos n
    have h1 : x % (256 ^ n * 256) = 256 ^ n * (x / 256 ^ n % 256) + x % 256 ^ n := emod_mul_ hp
    rw [h1, Int.add_mul, Int.mul_assoc, Int.mul_comm 256 (256 ^ n), Int.add_assoc, Int.mul_comm (x / 256 ^ n % 256) _]
theorem back_u {n : Nat} {x : Int} (h1 : n ≤ 8) (h0 : 0 ≤ x) (hx : x < 18446744073709551616) (hf : fitsU n x = true) (hn : 1 ≤ n) : gfold 0 (beN n x) = x := by
  rw [gfold_beN, Int.zero_mul, Int.zero_add]
  refine Int.emod_eq_of_lt h0 ?_
  by_cases h8 : n = 8
  · subst h8; exact hx
  · unfold fitsU at hf
    rw [decide_eq_false (by omega), decide_eq_false (by omega), Bool.false_or, Bool.false_or, beq_iff_eq, Int.toNat_natCast] at hf
    have hp := pow256_pos n
    have := Int.emod_add_mul_ediv x (256 ^ n)
    rw [hf, Int.mul_zero, Int.add_zero] at this
    rw [← this]
    exact Int.emod_lt_of_pos _ hp
theorem pow2_256 (m : Nat) : (2 : Int) ^ (8 * (m + 1) - 1) = 256 ^ m * 128 := by
  have e : (256 : Int) ^ m = 2 ^ (8 * m) := by rw [Int.pow_mul]; rfl
  have e2 : 8 * (m + 1) - 1 = 8 * m + 7 := by omega
  rw [e, e2, Int.pow_add]
  rfl
theorem back_i {n : Nat} {y : Int} (h1 : n ≤ 8) (h0 : -9223372036854775808 ≤ y) (hy : y < 9223372036854775808) (hf : fitsI n y = true) (hn : 1 ≤ n) : sval (beN n y) = y := by
  obtain ⟨m, rfl⟩ : ∃ m, n = m + 1 := ⟨n - 1, by omega⟩
  rw [beN, sval, gfold_beN]
  have hp := pow256_pos m
  have hq : -128 ≤ y / 256 ^ m ∧ y / 256 ^ m < 128 := by
    by_cases h8 : m = 7
    · subst h8
      omega
    · unfold fitsI at hf
      rw [decide_eq_false (by omega), decide_eq_false (by omega), Bool.false_or, Bool.false_or, Bool.or_eq_true, beq_iff_eq, beq_iff_eq,
        show (8 * ((m + 1 : Nat) : Int)).toNat - 1 = 8 * (m + 1) - 1 from by omega, pow2_256, ← div_div_ hp] at hf
      omega
  have hs : sbyte (y / 256 ^ m % 256) = y / 256 ^ m := by unfold sbyte; omega
  rw [hs, Int.mul_comm]
  exact Int.mul_ediv_add_emod y (256 ^ m)

/-- A call's bytes, if it writes. -/
def Call.enc (o : Call) : List Int := if o.what = 0 then beN o.n.toNat o.x else if o.what = 1 then beN o.n.toNat o.y else o.bs
/-- It writes its number. -/
def Call.fine (o : Call) : Prop := (o.what = 0 → 1 ≤ o.n ∧ o.n ≤ 8 ∧ fitsU o.n o.x = true) ∧ (o.what = 1 → 1 ≤ o.n ∧ o.n ≤ 8 ∧ fitsI o.n o.y = true)
def Call.In (o : Call) : Prop := 0 ≤ o.x ∧ o.x < 18446744073709551616 ∧ -9223372036854775808 ≤ o.y ∧ o.y < 9223372036854775808 ∧ Bytes o.bs
theorem enc_0 {o : Call} (h : o.what = 0) : o.enc = beN o.n.toNat o.x := if_pos h
theorem enc_1 {o : Call} (h0 : ¬ o.what = 0) (h : o.what = 1) : o.enc = beN o.n.toNat o.y := by unfold Call.enc; rw [if_neg h0, if_pos h]
theorem enc_2 {o : Call} (h0 : ¬ o.what = 0) (h : ¬ o.what = 1) : o.enc = o.bs := by unfold Call.enc; rw [if_neg h0, if_neg h]
theorem enc_bytes {o : Call} (h : o.In) : Bytes o.enc := by
  unfold Call.enc
  split
  · exact beN_bytes _ _
  · split
    · exact beN_bytes _ _
    · exact h.2.2.2.2
theorem put_yes {n : Int} {f : Bool} {len most : Int} (h : putCode n f len most = 0) : 1 ≤ n ∧ n ≤ 8 ∧ f = true := by
  unfold putCode at h
  split at h
  · cases h
  · rename_i h1
    refine ⟨by omega, by omega, ?_⟩
    cases f with
    | true => rfl
    | false => exact absurd (.inr (.inr rfl)) h1

/-- A call that was done, as it stands in memory: its bytes' slice. -/
structure Did where
  o : Call
  A : Option Addr
  c : Nat
def Did.cells (d : Did) : List Value := [.int .i64 d.o.what, .int .i64 d.o.n, .int .u64 d.o.x, .int .i64 d.o.y, .slice d.A d.o.bs.length d.c]
def cellsD (l : List Did) : List Value := l.flatMap Did.cells
def encs (l : List Did) : List Int := l.flatMap fun d => d.o.enc
theorem encs_snoc (l : List Did) (d : Did) : encs (l ++ [d]) = encs l ++ d.o.enc := by simp [encs]
theorem cellsD_cons (e : Did) (l : List Did) : cellsD (e :: l) = e.cells ++ cellsD l := rfl
theorem cellsD_snoc (l : List Did) (d : Did) : cellsD (l ++ [d]) = cellsD l ++ d.cells := by simp [cellsD]
theorem cellsD_get : ∀ {l : List Did} {k : Nat} {e : Did}, l[k]? = some e → ∀ j, j < 5 → (cellsD l)[k * 5 + j]? = e.cells[j]?
  | [], k, e, h, _, _ => by simp at h
  | x :: l, 0, e, h, j, hj => by
    simp at h
    subst h
    rw [cellsD_cons, List.getElem?_append_left (by simp [Did.cells]; omega)]
    simp
  | x :: l, k + 1, e, h, j, hj => by
    rw [cellsD_cons, List.getElem?_append_right (by simp [Did.cells]; omega), show (k + 1) * 5 + j - x.cells.length = k * 5 + j from by simp [Did.cells]; omega]
    exact cellsD_get (by simpa using h) j hj
theorem cellsD_at {w : World} {B : Nat} {A : Option Addr} {l : List Did} {k : Nat} {d : Did} (h : Reads w B 5 A l.length (cellsD l)) (hk : l[k]? = some d) :
    ∃ ad, A = some ad ∧ ad.block < B ∧ w.cell? (ad.add (k * 5)) = some (.int .i64 d.o.what) ∧ w.cell? ((ad.add (k * 5)).add 1) = some (.int .i64 d.o.n) ∧ w.cell? ((ad.add (k * 5)).add 2) = some (.int .u64 d.o.x) ∧
      w.cell? ((ad.add (k * 5)).add 3) = some (.int .i64 d.o.y) ∧ w.cell? ((ad.add (k * 5)).add 4) = some (.slice d.A d.o.bs.length d.c) := by
  have hlt : k < l.length := (List.getElem?_eq_some_iff.1 hk).1
  obtain ⟨ad, hA, hb, hc⟩ := h.2 (by omega)
  have hg := cellsD_get hk
  refine ⟨ad, hA, hb, hc (k * 5) _ (hg 0 (by omega)), ?_, ?_, ?_, ?_⟩
  · have := hc (k * 5 + 1) _ (hg 1 (by omega)); rwa [← add_of_add] at this
  · have := hc (k * 5 + 2) _ (hg 2 (by omega)); rwa [← add_of_add] at this
  · have := hc (k * 5 + 3) _ (hg 3 (by omega)); rwa [← add_of_add] at this
  · have := hc (k * 5 + 4) _ (hg 4 (by omega)); rwa [← add_of_add] at this
theorem did_one (d : Did) : ∀ u ∈ d.cells, u.oneCell' = true := by
  intro u hu
  simp only [Did.cells, List.mem_cons, List.not_mem_nil, or_false] at hu
  rcases hu with rfl | rfl | rfl | rfl | rfl <;> rfl
theorem infoO : (Try.prog.info? 33).map (fun i => (i.zero, i.size, i.bytes)) = some (some (.agg #[.int .i64 0, .int .i64 0, .int .u64 0, .int .i64 0, .slice none 0 0]), 5, 56) := by kernel_rfl

/-- A row of calls that were done, of the call's own. -/
def OwnD (w : World) (base : Nat) (v : Value) (l : List Did) : Prop := w.ownsRow base 33 5 v l.length (cellsD l)
theorem wpList_appD {ops : Array Oper} {rest : List Oper} {o : Oper} {a : Act} {Q : Exit → Act → World → Prop} (w : World) (hgd : o.guard = none) (s x : Operand)
    (ho : o.op = .call { callee := .builtin .append, args := #[s, x], argTypes := #[22, 22] })
    (base : Nat) (v : Value) (xs : List Did) (hs : a.eval s = v) (hown : OwnD w base v xs)
    (B : Nat) (A : Option Addr) (c : Nat) (d : Did) (hx : a.eval x = .slice A 1 c) (hr : Reads w B 5 A 1 d.cells)
    (n' : Nat) (hn : xs.length + 1 = n') (hb : n' ≤ 100000) (hbase : base ≤ w.heap.size)
    (h : ∀ A' c' w', OwnD w' base (.slice A' n' c') (xs ++ [d]) → w.grownBy w' v.ownBlock →
      ((Value.slice A' n' c').ownBlock = v.ownBlock ∨ (Value.slice A' n' c').ownBlock = some w.heap.size) → wpList Try.prog ops Q rest (a.put o.dst (.slice A' n' c')) w') : wpList Try.prog ops Q (o :: rest) a w := by
  subst hn
  obtain ⟨i0, hi0, hz0, hz1, hz2⟩ := info_parts infoO
  refine wpList_app (P := Try.prog) w hgd s x 22 ho base 33 i0 _ 5 56 Try.underlying22 hi0 hz0 hz1 hz2 rfl (by omega) v xs.length (cellsD xs) hs hown B A 1 c d.cells hx hr (did_one d)
    (by unfold maxLen; omega) (by omega) hbase fun A' c' w' h1 h2 h3 => h A' c' w' ?_ h2 h3
  unfold OwnD
  rw [List.length_append, cellsD_snoc]
  exact h1

theorem bounds_u64_ {n : Int} (h : (Lit.int .u64 n).wf = true) : 0 ≤ n ∧ n < 18446744073709551616 := by
  simp only [Lit.wf, Bool.and_eq_true, decide_eq_true_eq] at h
  have h1 : IntKind.u64.min = 0 := by decide
  have h2 : IntKind.u64.max = 18446744073709551615 := by decide
  rw [h1, h2] at h
  omega
theorem open_calls {H : Type} {enc : TypeId × Value → H} {w : World} {base : Nat} {spare : Nat → Bool} {held : Bool} {fuel : Nat} {a : Option Addr} {len cap : Nat} {x : DataW H × List MemPlace}
    (h : DataW.trod enc Try.prog w base spare held fuel 22 [.slice a len cap] = some x) :
    ∃ os : List Call, os.length = len ∧ len ≤ maxLen ∧ Script w w.heap.size a os ∧ ∀ o ∈ os, o.In := by
  rcases open_slice_fields Try.underlying22 Try.underlying33 (by kernel_rfl) (by kernel_rfl) h with ⟨hcs, _⟩ | ⟨x0, l, c, m, D, Pl, hcs, hb, hl, hm, hmm, hx, hi⟩
  · simp only [List.cons.injEq, and_true, Value.slice.injEq] at hcs
    obtain ⟨rfl, rfl, rfl⟩ := hcs
    exact ⟨[], rfl, by unfold maxLen; omega, fun k o ho => by simp at ho, fun o ho => by cases ho⟩
  · simp only [List.cons.injEq, and_true, Value.slice.injEq] at hcs
    obtain ⟨rfl, rfl, rfl⟩ := hcs
    have hml : len ≤ m := by rw [hmm]; split <;> omega
    obtain ⟨os, hos, hP⟩ := list_choose (n := len) (P := fun i o => (CallAt w w.heap.size (x0.add (i * 5)) o) ∧ o.In) fun i hil => by
      obtain ⟨ys, n, hD, hPl, hyl, hf⟩ := hi i (by omega)
      obtain ⟨v0, y0, c0, e0, t0⟩ := hf 0 _ rfl
      obtain ⟨v1, y1, c1, e1, t1⟩ := hf 1 _ rfl
      obtain ⟨v2, y2, c2, e2, t2⟩ := hf 2 _ rfl
      obtain ⟨v3, y3, c3, e3, t3⟩ := hf 3 _ rfl
      obtain ⟨v4, y4, c4, e4, t4⟩ := hf 4 _ rfl
      obtain ⟨n0, q0, _, _⟩ := DataW.trod_int Try.underlying3 t0
      obtain ⟨n1, q1, _, _⟩ := DataW.trod_int Try.underlying3 t1
      obtain ⟨n2, q2, _, w2⟩ := DataW.trod_int Try.underlying30 t2
      obtain ⟨n3, q3, _, w3⟩ := DataW.trod_int Try.underlying2 t3
      simp only [List.cons.injEq, and_true] at q0 q1 q2 q3
      subst q0 q1 q2 q3
      obtain ⟨A4, l4, c4', bs, rfl, h41, h42, h43, h44, h45, _⟩ := open_bytes t4
      have hw3 := bounds_i64 w3
      have hw2 := bounds_u64_ w2
      refine ⟨⟨n0, n1, n2, n3, bs⟩, ⟨A4, l4, c4', c0, ?_, ?_, ?_, ?_, h45, h41, h42, h43⟩, hw2.1, hw2.2, hw3.1, by have := hw3.2; show n3 < _; omega, h44⟩
      · rw [add_of_add]; exact c1
      · rw [add_of_add]; exact c2
      · rw [add_of_add]; exact c3
      · rw [add_of_add]; exact c4
    refine ⟨os, hos, by omega, fun k o ho => ⟨x0, rfl, ?_, (hP k o ho).1⟩, fun o ho => ?_⟩
    · obtain ⟨⟨A, l, cc, hc, _⟩, _⟩ := hP k o ho
      have := block_of_cell hc
      rwa [block_of_add] at this
    · obtain ⟨k, hk⟩ := List.getElem?_of_mem ho
      exact (hP k o hk).2
end Go.Proofs.Ytahmhkabipcfiaa
