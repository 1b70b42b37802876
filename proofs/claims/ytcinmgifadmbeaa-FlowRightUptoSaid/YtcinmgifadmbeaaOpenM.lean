/- A method that comes in. -/
import Derived.Test.YtcinmgifadmbeaaOpen
import Derived.Test.YtcinmgifadmbeaaOpenG
import Derived.Test.YtcinmgifadmbeaaBulk
import Derived.Test.YtcinmgifadmbeaaInsL
import Derived.Test.YtcinmgifadmbeaaMapI
import Derived.Deep.Strs
import Derived.Lib.SmallJoins
namespace Go.Proofs.Ytcinmgifadmbeaa
open Go.Joins Go.RowKit Go.ChangeShapes Go.WideShapes Go.Deep
set_option linter.unusedVariables false

/-- A trap. -/
structure Tr where
  fr : Int
  to_ : Int
  hd : Int
  ty : Int
def Tr.val (t : Tr) : Value := .agg #[.int .i64 t.fr, .int .i64 t.to_, .int .i64 t.hd, .int .i64 t.ty]
def Tr.In (t : Tr) : Prop := fit64 t.fr ∧ fit64 t.to_ ∧ fit64 t.hd ∧ fit64 t.ty
def Tr.cells (i : Tr) : List Value := [.int .i64 i.fr, .int .i64 i.to_, .int .i64 i.hd, .int .i64 i.ty]
def cellsT (l : List Tr) : List Value := l.flatMap Tr.cells
theorem cellsT_cons (e : Tr) (l : List Tr) : cellsT (e :: l) = e.cells ++ cellsT l := rfl
theorem cellsT_append (l m : List Tr) : cellsT (l ++ m) = cellsT l ++ cellsT m := List.flatMap_append
theorem cellsT_length (l : List Tr) : (cellsT l).length = l.length * 4 := by
  induction l with
  | nil => rfl
  | cons e l ih => rw [cellsT_cons, List.length_append, ih]; simp [Tr.cells]; omega
theorem cellsT_get : ∀ {l : List Tr} {k : Nat} {e : Tr}, l[k]? = some e → ∀ j, j < 4 → (cellsT l)[k * 4 + j]? = e.cells[j]?
  | [], k, e, h, _, _ => by simp at h
  | x :: l, 0, e, h, j, hj => by
    simp at h
    subst h
    rw [cellsT_cons, List.getElem?_append_left (by simp [Tr.cells]; omega)]
    simp
  | x :: l, k + 1, e, h, j, hj => by
    rw [cellsT_cons, List.getElem?_append_right (by simp [Tr.cells]; omega), show (k + 1) * 4 + j - x.cells.length = k * 4 + j from by simp [Tr.cells]; omega]
    exact cellsT_get (by simpa using h) j hj
theorem cellsT_one (l : List Tr) : ∀ u ∈ cellsT l, u.oneCell' = true := by
  intro u hu
  simp only [cellsT, List.mem_flatMap, Tr.cells] at hu
  obtain ⟨e, _, he⟩ := hu
  simp only [List.mem_cons, List.not_mem_nil, or_false] at he
  rcases he with rfl | rfl | rfl | rfl <;> rfl

/-- At this place of memory stands this instruction. -/
structure TrAt (w : World) (ad : Addr) (e : Tr) : Prop where
  c0 : w.cell? ad = some (.int .i64 e.fr)
  c1 : w.cell? ⟨ad.block, ad.off + 1, none⟩ = some (.int .i64 e.to_)
  c2 : w.cell? ⟨ad.block, ad.off + 2, none⟩ = some (.int .i64 e.hd)
  c3 : w.cell? ⟨ad.block, ad.off + 3, none⟩ = some (.int .i64 e.ty)

/-- A slice of instructions that reads as l. -/
def ReadsT (w : World) (B : Nat) (A : Option Addr) (l : List Tr) : Prop := Reads w B 4 A l.length (cellsT l)
theorem ReadsT.at_ {w : World} {B : Nat} {A : Option Addr} {l : List Tr} {k : Nat} {e : Tr} (h : ReadsT w B A l) (hk : l[k]? = some e) :
    ∃ ad, A = some ad ∧ ad.block < B ∧ TrAt w (ad.add (k * 4)) e := by
  have hlt : k < l.length := (List.getElem?_eq_some_iff.1 hk).1
  obtain ⟨ad, hA, hb, hc⟩ := h.2 (by omega)
  have hg := cellsT_get hk
  refine ⟨ad, hA, hb, ⟨hc (k * 4) _ (hg 0 (by omega)), ?_, ?_, ?_⟩⟩
  · have := hc (k * 4 + 1) _ (hg 1 (by omega)); rwa [← add_of_add] at this
  · have := hc (k * 4 + 2) _ (hg 2 (by omega)); rwa [← add_of_add] at this
  · have := hc (k * 4 + 3) _ (hg 3 (by omega)); rwa [← add_of_add] at this
theorem ReadsT.nil_ (w : World) (B : Nat) : ReadsT w B none [] := Reads.none_
theorem ReadsT.drewN {w : World} {B : Nat} {A : Option Addr} {l : List Tr} (h : ReadsT w B A l) (n : Nat) : ReadsT (w.drewN n) B A l := Reads.drewN h n
theorem ReadsT.below {w w' : World} {B : Nat} {A : Option Addr} {l : List Tr} (h : ReadsT w B A l) (hb : Below B w w') : ReadsT w' B A l := Reads.below h hb
theorem tr_at {l : List Tr} {k : Nat} (h : k < l.length) : ∃ x, l[k]? = some x := ⟨l[k], List.getElem?_eq_getElem h⟩
theorem fit_wf {n : Int} (h : (Lit.int .i64 n).wf = true) : fit64 n := by
  simp only [Lit.wf, Bool.and_eq_true, decide_eq_true_eq] at h
  have h1 : IntKind.i64.min = -9223372036854775808 := by decide
  have h2 : IntKind.i64.max = 9223372036854775807 := by decide
  rw [h1, h2] at h
  unfold fit64
  omega
section
variable {H : Type} {enc : TypeId × Value → H} {w : World} {base : Nat} {spare : Nat → Bool} {held : Bool}
set_option maxRecDepth 100000 in
theorem trap_cells {fuel : Nat} {cs : List Value} {x : DataW H × List MemPlace} (h : DataW.trod enc Try.prog w base spare held fuel 63 cs = some x) : ∃ e : Tr, cs = e.cells ∧ e.In := by
  obtain ⟨y0, y1, y2, y3, n, _, hl, h0, h1, h2, h3⟩ := trod_struct4 Try.underlying63 h
  have hc : Try.prog.cellsOf 63 = 4 := by kernel_rfl
  have hi : Try.prog.cellsOf 3 = 1 := by kernel_rfl
  rw [hc] at hl
  match cs, hl with
  | [c0, c1, c2, c3], _ =>
    rw [hi] at h0 h1 h2 h3
    simp only [List.drop_zero, List.drop_succ_cons, List.take_succ_cons, List.take_zero] at h0 h1 h2 h3
    obtain ⟨n0, q0, _, s0⟩ := DataW.trod_int Try.underlying3 h0
    obtain ⟨n1, q1, _, s1⟩ := DataW.trod_int Try.underlying3 h1
    obtain ⟨n2, q2, _, s2⟩ := DataW.trod_int Try.underlying3 h2
    obtain ⟨n3, q3, _, s3⟩ := DataW.trod_int Try.underlying3 h3
    simp only [List.cons.injEq, and_true] at q0 q1 q2 q3
    subst q0 q1 q2 q3
    exact ⟨⟨n0, n1, n2, n3⟩, rfl, fit_wf s0, fit_wf s1, fit_wf s2, fit_wf s3⟩
set_option maxRecDepth 100000 in
theorem open_traps {fuel : Nat} {v : Value} {x : DataW H × List MemPlace} (h : DataW.trod enc Try.prog w base spare held fuel 56 [v] = some x) :
    ∃ A len cap, v = .slice A len cap ∧ ∃ l : List Tr, l.length = len ∧ len ≤ cap ∧ cap ≤ maxLen ∧ ReadsT w w.heap.size A l ∧ ∀ e ∈ l, e.In := by
  have hc : Try.prog.cellsOf 63 = 4 := by kernel_rfl
  rcases open_slice Try.underlying56 h with ⟨hcs, _⟩ | ⟨x0, l, c, m, n, D, Pl, hcs, hb, hl, hm, hmm, hx, hi⟩
  · simp only [List.cons.injEq, and_true] at hcs
    subst hcs
    exact ⟨none, 0, 0, rfl, [], rfl, Nat.le_refl _, by unfold maxLen; omega, ReadsT.nil_ _ _, fun e he => by cases he⟩
  · simp only [List.cons.injEq, and_true] at hcs
    subst hcs
    have hml : l ≤ m := by rw [hmm]; split <;> omega
    refine ⟨_, l, c, rfl, ?_⟩
    obtain ⟨es, hes, hP⟩ := list_choose (n := l) (P := fun i (e : Tr) => (∀ j u, e.cells[j]? = some u → w.cell? (x0.add (i * 4 + j)) = some u) ∧ e.In) fun i hil => by
      obtain ⟨cs', hcl, ht'⟩ := hi i (by omega)
      rw [hc] at hcl
      obtain ⟨e, rfl, hin⟩ := trap_cells ht'
      obtain ⟨_, _, hat⟩ := World.cells?_some hcl
      refine ⟨e, fun j u hu => ?_, hin⟩
      have hj : j < 4 := by
        rcases Nat.lt_or_ge j 4 with h | h
        · exact h
        · rw [List.getElem?_eq_none (by simpa [Tr.cells] using h)] at hu; cases hu
      rw [← Go.Deep.add_add, hat j hj, hu]
    refine ⟨es, hes, hl, hm, ⟨by rw [cellsT_length], fun hn => ⟨x0, rfl, ?_, fun j u hu => ?_⟩⟩, fun e he => ?_⟩
    · obtain ⟨e, he⟩ := tr_at (l := es) (k := 0) hn
      have := (hP 0 e he).1 0 _ rfl
      have := block_of_cell this
      rwa [block_of_add] at this
    · have hj : j < (cellsT es).length := (List.getElem?_eq_some_iff.1 hu).1
      rw [cellsT_length] at hj
      obtain ⟨e, he⟩ := tr_at (l := es) (k := j / 4) (by omega)
      have h1 := cellsT_get he (j % 4) (by omega)
      rw [show j / 4 * 4 + j % 4 = j from by omega, hu] at h1
      have := (hP _ e he).1 (j % 4) u h1.symm
      rwa [show j / 4 * 4 + j % 4 = j from by omega] at this
    · obtain ⟨k, hk⟩ := List.getElem?_of_mem he
      exact (hP k e hk).2
/-- What is known of a method that came in. -/
structure MethIn (w : World) (v : Value) (k0 k1 k2 k3 k4 : Int) (A : Option Addr) (c : Nat) (bs : List Int) (At_ : Option Addr) (ct : Nat) (ts : List Tr) (Am : Option Addr) (lm cm : Nat) : Prop where
  val : v = .agg #[.int .i64 k0, .int .i64 k1, .int .i64 k2, .int .i64 k3, .int .i64 k4, .slice A bs.length c, .slice At_ ts.length ct, .slice Am lm cm]
  code : ReadsB w w.heap.size A bs
  byte : Bytes bs
  cap : bs.length ≤ c
  max_ : c ≤ maxLen
  traps : ReadsT w w.heap.size At_ ts
  fits : ∀ t ∈ ts, t.In
  tcap : ts.length ≤ ct
  tmax : ct ≤ maxLen
theorem open_agg8 {P : Program} {r : Reach} {b0 : Nat} {t : TypeId} {f0 f1 f2 f3 f4 f5 f6 f7 : Field} {v : Value} {d : DataW H} {p : List MemPlace} (hs : P.underlying t = some (.struct #[f0, f1, f2, f3, f4, f5, f6, f7])) (hone : oneCellFields P #[f0, f1, f2, f3, f4, f5, f6, f7] = true) (hC : P.cellsOf t = 8)
    (hv : Value.okWide P w r b0 t v) (h : DataW.Trod enc P w base spare held t v d p) :
    ∃ (v0 v1 v2 v3 v4 v5 v6 v7 : Value) (y0 y1 y2 y3 y4 y5 y6 y7 : DataW H × List MemPlace) (n : Nat), v = .agg #[v0, v1, v2, v3, v4, v5, v6, v7] ∧ d = .agg ([y0, y1, y2, y3, y4, y5, y6, y7].map (·.1)) ∧
      DataW.trod enc P w base spare held n f0.type [v0] = some y0 ∧ DataW.trod enc P w base spare held n f1.type [v1] = some y1 ∧ DataW.trod enc P w base spare held n f2.type [v2] = some y2 ∧ DataW.trod enc P w base spare held n f3.type [v3] = some y3 ∧ DataW.trod enc P w base spare held n f4.type [v4] = some y4 ∧ DataW.trod enc P w base spare held n f5.type [v5] = some y5 ∧ DataW.trod enc P w base spare held n f6.type [v6] = some y6 ∧ DataW.trod enc P w base spare held n f7.type [v7] = some y7 := by
  obtain ⟨cs, rfl, hsz⟩ := okWide_struct hs hv
  obtain ⟨l⟩ := cs
  match l, hsz.trans hC with
  | [c0, c1, c2, c3, c4, c5, c6, c7], _ =>
    obtain ⟨fuel, hf⟩ := h
    obtain ⟨xs, n, _, hx, _, hlen, hg⟩ := DataW.trod_struct hs hf
    obtain ⟨o0, k0⟩ := hone_of hone 0 f0 rfl
    obtain ⟨o1, k1⟩ := hone_of hone 1 f1 rfl
    obtain ⟨o2, k2⟩ := hone_of hone 2 f2 rfl
    obtain ⟨o3, k3⟩ := hone_of hone 3 f3 rfl
    obtain ⟨o4, k4⟩ := hone_of hone 4 f4 rfl
    obtain ⟨o5, k5⟩ := hone_of hone 5 f5 rfl
    obtain ⟨o6, k6⟩ := hone_of hone 6 f6 rfl
    obtain ⟨o7, k7⟩ := hone_of hone 7 f7 rfl
    match xs, hlen with
    | [y0, y1, y2, y3, y4, y5, y6, y7], _ =>
      simp only [Prod.mk.injEq] at hx
      exact ⟨c0, c1, c2, c3, c4, c5, c6, c7, y0, y1, y2, y3, y4, y5, y6, y7, n, rfl, hx.1, by simpa [Value.cells, o0, k0] using hg 0 f0 rfl, by simpa [Value.cells, o1, k1] using hg 1 f1 rfl, by simpa [Value.cells, o2, k2] using hg 2 f2 rfl, by simpa [Value.cells, o3, k3] using hg 3 f3 rfl, by simpa [Value.cells, o4, k4] using hg 4 f4 rfl, by simpa [Value.cells, o5, k5] using hg 5 f5 rfl, by simpa [Value.cells, o6, k6] using hg 6 f6 rfl, by simpa [Value.cells, o7, k7] using hg 7 f7 rfl⟩
set_option maxRecDepth 100000 in
theorem open_method {r : Reach} {b0 : Nat} {v : Value} {d : DataW H} {p : List MemPlace} (hv : Value.okWide Try.prog w r b0 58 v) (h : DataW.Trod enc Try.prog w base spare held 58 v d p) :
    ∃ k0 k1 k2 k3 k4 A c bs At_ ct ts Am lm cm, MethIn w v k0 k1 k2 k3 k4 A c bs At_ ct ts Am lm cm ∧ bs.length ≤ Rows.uptoBulk d := by
  obtain ⟨c0, c1, c2, c3, c4, c5, c6, c7, y0, y1, y2, y3, y4, y5, y6, y7, n, rfl, hd, g0, g1, g2, g3, g4, g5, g6, g7⟩ := open_agg8 Try.underlying58 (by kernel_rfl) (by kernel_rfl) hv h
  obtain ⟨n0, q0, _, s0⟩ := DataW.trod_int Try.underlying3 g0
  obtain ⟨n1, q1, _, s1⟩ := DataW.trod_int Try.underlying3 g1
  obtain ⟨n2, q2, _, s2⟩ := DataW.trod_int Try.underlying3 g2
  obtain ⟨n3, q3, _, s3⟩ := DataW.trod_int Try.underlying3 g3
  obtain ⟨n4, q4, _, s4⟩ := DataW.trod_int Try.underlying3 g4
  simp only [List.cons.injEq, and_true] at q0 q1 q2 q3 q4
  subst q0 q1 q2 q3 q4
  obtain ⟨A, l, c, bs, rfl, rfl, hl, hm, hbb, hr, _⟩ := open_bytes g5
  obtain ⟨At_, lt, ct, rfl, ts, rfl, htl, htm, htr, htf⟩ := open_traps g6
  obtain ⟨Am, lm, cm, ms, rfl, _⟩ := open_bytes g7
  refine ⟨n0, n1, n2, n3, n4, A, c, bs, At_, ct, ts, Am, lm, cm, ⟨rfl, hr, hbb, hl, hm, htr, htf, htl, htm⟩, ?_⟩
  rw [hd]
  have e5 : bs.length ≤ Rows.uptoBulk y5.1 := by
    rcases open_ints Try.underlying31 Try.underlying5 (by kernel_rfl) g5 with ⟨hcs, hd'⟩ | ⟨x, l, c', zs, hcs, _, hl', hm', hz, hd', hcell, hwz⟩
    · simp only [List.cons.injEq, and_true, Value.slice.injEq] at hcs
      omega
    · simp only [List.cons.injEq, and_true, Value.slice.injEq] at hcs
      rw [hd']
      refine Nat.le_trans ?_ (Nat.le_trans (Nat.le_succ _) (bulk_slice _ _))
      simp only [lits, List.length_map, List.length_take, List.length_drop]
      have hz2 : l ≤ zs.length := by rw [hz]; split <;> omega
      omega
  have e6 : Rows.uptoBulk y5.1 ≤ Rows.uptoBulkAll ([y0, y1, y2, y3, y4, y5, y6, y7].map (·.1)) := bulk_in (by simp)
  have e7 : Rows.uptoBulk (.agg ([y0, y1, y2, y3, y4, y5, y6, y7].map (·.1))) = Rows.uptoBulkAll ([y0, y1, y2, y3, y4, y5, y6, y7].map (·.1)) + 1 := by rw [Rows.uptoBulk]
  rw [e7]
  omega
end
end Go.Proofs.Ytcinmgifadmbeaa
