/- Types, values and scripts of calls on a heap that come in. -/
import Derived.Test.YtpfgdgelnehjpaaOpenG
import Derived.Test.YtpfgdgelnehjpaaHeapA
import Derived.Lib.SmallJoins
namespace Go.Proofs.Ytpfgdgelnehjpaa
open Go.Joins Go.RowKit Go.ChangeShapes Go.WideShapes Go.Deep
set_option linter.unusedVariables false
set_option linter.unusedSimpArgs false

/-- A call of a script. -/
structure HOp where
  what : Int
  t : Ty
  f : Ty
  n : Int
  i : Int
  v : Vl
  l : List Ty
/-- At this place of memory stands this call, its list below B. -/
structure HOpAt (w : World) (B : Nat) (ad : Addr) (o : HOp) : Prop where
  cells : ∀ j u, [.int .i64 o.what, .int .i64 o.t.k, .string o.t.name, .int .i64 o.t.dims, .int .i64 o.t.elem, .int .i64 o.t.pos, .int .i64 o.f.k, .string o.f.name, .int .i64 o.f.dims, .int .i64 o.f.elem, .int .i64 o.f.pos, .int .i64 o.n, .int .i64 o.i, .int .i64 o.v.k, .int .i64 o.v.n, .int .i64 o.v.r][j]? = some u → w.cell? (ad.add j) = some u
  list : ∃ A c, w.cell? (ad.add 16) = some (.slice A o.l.length c) ∧ ReadsT w B A o.l ∧ o.l.length ≤ c ∧ c ≤ maxLen
/-- A script. -/
def ScriptH (w : World) (B : Nat) (A : Option Addr) (os : List HOp) : Prop :=
  ∀ k o, os[k]? = some o → ∃ ad, A = some ad ∧ ad.block < B ∧ HOpAt w B (ad.add (k * 17)) o
theorem reads_flat {α : Type} (f : α → List Value) {n : Nat} (hn : 0 < n) (hf : ∀ a, (f a).length = n) {w : World} {ad : Addr} {B : Nat} (l : List α) (hb : 0 < l.length → ad.block < B)
    (h : ∀ k e, l[k]? = some e → ∀ j u, (f e)[j]? = some u → w.cell? (ad.add (k * n + j)) = some u) : Reads w B n (some ad) l.length (l.flatMap f) := by
  refine ⟨flat_len f hf l, fun hl => ⟨ad, rfl, hb hl, fun j u hu => ?_⟩⟩
  have hj : j < l.length * n := by rw [← flat_len f hf l]; exact (List.getElem?_eq_some_iff.1 hu).1
  have hk : j / n < l.length := (Nat.div_lt_iff_lt_mul hn).2 hj
  have he : l[j / n]? = some l[j / n] := List.getElem?_eq_getElem hk
  have hm : j % n < n := Nat.mod_lt _ hn
  have hjj : j / n * n + j % n = j := by rw [Nat.mul_comm]; exact Nat.div_add_mod j n
  have h1 := flat_get f hf l (j / n) _ (j % n) he hm
  rw [hjj, hu] at h1
  have h2 := h _ _ he (j % n) u h1.symm
  rwa [hjj] at h2
section
variable {H : Type} {enc : TypeId × Value → H} {w : World} {base : Nat} {spare : Nat → Bool} {held : Bool}
theorem trod_struct7 {P : Program} {t : TypeId} {f0 f1 f2 f3 f4 f5 f6 : Field} {fuel : Nat} {cs : List Value} {x : DataW H × List MemPlace} (ht : P.underlying t = some (.struct #[f0, f1, f2, f3, f4, f5, f6])) (h : DataW.trod enc P w base spare held fuel t cs = some x) :
    ∃ n, cs.length = P.cellsOf t ∧ (∃ y, DataW.trod enc P w base spare held n f0.type ((cs.drop f0.offset).take (P.cellsOf f0.type)) = some y) ∧ (∃ y, DataW.trod enc P w base spare held n f1.type ((cs.drop f1.offset).take (P.cellsOf f1.type)) = some y) ∧ (∃ y, DataW.trod enc P w base spare held n f2.type ((cs.drop f2.offset).take (P.cellsOf f2.type)) = some y) ∧ (∃ y, DataW.trod enc P w base spare held n f3.type ((cs.drop f3.offset).take (P.cellsOf f3.type)) = some y) ∧ (∃ y, DataW.trod enc P w base spare held n f4.type ((cs.drop f4.offset).take (P.cellsOf f4.type)) = some y) ∧ (∃ y, DataW.trod enc P w base spare held n f5.type ((cs.drop f5.offset).take (P.cellsOf f5.type)) = some y) ∧ (∃ y, DataW.trod enc P w base spare held n f6.type ((cs.drop f6.offset).take (P.cellsOf f6.type)) = some y) := by
  obtain ⟨xs, n, _, rfl, hl, hlen, hf⟩ := DataW.trod_struct ht h
  match xs, hlen with
  | [y0, y1, y2, y3, y4, y5, y6], _ => exact ⟨n, hl, ⟨y0, by simpa using hf 0 f0 rfl⟩, ⟨y1, by simpa using hf 1 f1 rfl⟩, ⟨y2, by simpa using hf 2 f2 rfl⟩, ⟨y3, by simpa using hf 3 f3 rfl⟩, ⟨y4, by simpa using hf 4 f4 rfl⟩, ⟨y5, by simpa using hf 5 f5 rfl⟩, ⟨y6, by simpa using hf 6 f6 rfl⟩⟩
theorem trod_struct5 {P : Program} {t : TypeId} {f0 f1 f2 f3 f4 : Field} {fuel : Nat} {cs : List Value} {x : DataW H × List MemPlace} (ht : P.underlying t = some (.struct #[f0, f1, f2, f3, f4])) (h : DataW.trod enc P w base spare held fuel t cs = some x) :
    ∃ n, cs.length = P.cellsOf t ∧ (∃ y, DataW.trod enc P w base spare held n f0.type ((cs.drop f0.offset).take (P.cellsOf f0.type)) = some y) ∧ (∃ y, DataW.trod enc P w base spare held n f1.type ((cs.drop f1.offset).take (P.cellsOf f1.type)) = some y) ∧ (∃ y, DataW.trod enc P w base spare held n f2.type ((cs.drop f2.offset).take (P.cellsOf f2.type)) = some y) ∧ (∃ y, DataW.trod enc P w base spare held n f3.type ((cs.drop f3.offset).take (P.cellsOf f3.type)) = some y) ∧ (∃ y, DataW.trod enc P w base spare held n f4.type ((cs.drop f4.offset).take (P.cellsOf f4.type)) = some y) := by
  obtain ⟨xs, n, _, rfl, hl, hlen, hf⟩ := DataW.trod_struct ht h
  match xs, hlen with
  | [y0, y1, y2, y3, y4], _ => exact ⟨n, hl, ⟨y0, by simpa using hf 0 f0 rfl⟩, ⟨y1, by simpa using hf 1 f1 rfl⟩, ⟨y2, by simpa using hf 2 f2 rfl⟩, ⟨y3, by simpa using hf 3 f3 rfl⟩, ⟨y4, by simpa using hf 4 f4 rfl⟩⟩
set_option maxRecDepth 100000 in
theorem type_cells {fuel : Nat} {cs : List Value} {x : DataW H × List MemPlace} (h : DataW.trod enc Try.prog w base spare held fuel 30 cs = some x) : ∃ t : Ty, cs = t.cells := by
  obtain ⟨n, hl, ⟨y0, t0⟩, ⟨y1, t1⟩, ⟨y2, t2⟩, ⟨y3, t3⟩, ⟨y4, t4⟩⟩ := trod_struct5 Try.underlying30 h
  have hc : Try.prog.cellsOf 30 = 5 := by kernel_rfl
  have hi : Try.prog.cellsOf 3 = 1 := by kernel_rfl
  have hs : Try.prog.cellsOf 9 = 1 := by kernel_rfl
  rw [hc] at hl
  match cs, hl with
  | [c0, c1, c2, c3, c4], _ =>
    simp only [hi, hs, List.drop_zero, List.drop_succ_cons, List.take_succ_cons, List.take_zero] at t0 t1 t2 t3 t4
    obtain ⟨n0, q0, _⟩ := DataW.trod_int Try.underlying3 t0
    obtain ⟨n1, q1, _⟩ := DataW.trod_string Try.underlying9 t1
    obtain ⟨n2, q2, _⟩ := DataW.trod_int Try.underlying3 t2
    obtain ⟨n3, q3, _⟩ := DataW.trod_int Try.underlying3 t3
    obtain ⟨n4, q4, _⟩ := DataW.trod_int Try.underlying3 t4
    simp only [List.cons.injEq, and_true] at q0 q1 q2 q3 q4
    subst q0 q1 q2 q3 q4
    exact ⟨⟨n0, n1, n2, n3, n4⟩, rfl⟩
set_option maxRecDepth 100000 in
theorem value_cells {fuel : Nat} {cs : List Value} {x : DataW H × List MemPlace} (h : DataW.trod enc Try.prog w base spare held fuel 49 cs = some x) : ∃ v : Vl, cs = v.cells := by
  obtain ⟨y0, y1, y2, n, _, hl, t0, t1, t2⟩ := trod_struct3 Try.underlying49 h
  have hc : Try.prog.cellsOf 49 = 3 := by kernel_rfl
  have hi : Try.prog.cellsOf 3 = 1 := by kernel_rfl
  have hj : Try.prog.cellsOf 2 = 1 := by kernel_rfl
  rw [hc] at hl
  match cs, hl with
  | [c0, c1, c2], _ =>
    simp only [hi, hj, List.drop_zero, List.drop_succ_cons, List.take_succ_cons, List.take_zero] at t0 t1 t2
    obtain ⟨n0, q0, _⟩ := DataW.trod_int Try.underlying3 t0
    obtain ⟨n1, q1, _⟩ := DataW.trod_int Try.underlying2 t1
    obtain ⟨n2, q2, _⟩ := DataW.trod_int Try.underlying3 t2
    simp only [List.cons.injEq, and_true] at q0 q1 q2
    subst q0 q1 q2
    exact ⟨⟨n0, n1, n2⟩, rfl⟩
set_option maxRecDepth 100000 in
theorem open_types {fuel : Nat} {a : Option Addr} {len cap : Nat} {x : DataW H × List MemPlace} (h : DataW.trod enc Try.prog w base spare held fuel 50 [.slice a len cap] = some x) :
    ∃ ts : List Ty, ts.length = len ∧ len ≤ cap ∧ cap ≤ maxLen ∧ ReadsT w w.heap.size a ts := by
  have hc : Try.prog.cellsOf 30 = 5 := by kernel_rfl
  rcases open_slice Try.underlying50 h with ⟨hcs, _⟩ | ⟨x0, l, c, m, n, D, Pl, hcs, hb, hl, hm, hmm, hx, hi⟩
  · simp only [List.cons.injEq, and_true, Value.slice.injEq] at hcs
    obtain ⟨rfl, rfl, rfl⟩ := hcs
    exact ⟨[], rfl, Nat.le_refl _, by unfold maxLen; omega, Reads.none_⟩
  · simp only [List.cons.injEq, and_true, Value.slice.injEq] at hcs
    obtain ⟨rfl, rfl, rfl⟩ := hcs
    have hml : len ≤ m := by rw [hmm]; split <;> omega
    obtain ⟨ts, hts, hP⟩ := list_choose (n := len) (P := fun i (t : Ty) => ∀ j u, t.cells[j]? = some u → w.cell? (x0.add (i * 5 + j)) = some u) fun i hil => by
      obtain ⟨cs', hcl, ht'⟩ := hi i (by omega)
      rw [hc] at hcl
      obtain ⟨_, hlen, hat⟩ := World.cells?_some hcl
      obtain ⟨t, rfl⟩ := type_cells ht'
      refine ⟨t, fun j u hu => ?_⟩
      have hj : j < 5 := (List.getElem?_eq_some_iff.1 hu).1
      have h1 := hat j hj
      rw [add_of_add] at h1
      rw [h1, hu]
    refine ⟨ts, hts, hl, hm, ?_⟩
    refine reads_flat Ty.cells (by omega) (fun _ => rfl) ts (fun hp => ?_) hP
    have he : ts[0]? = some ts[0] := List.getElem?_eq_getElem hp
    have h0 := hP 0 _ he 0 _ rfl
    have := block_of_cell h0
    rwa [block_of_add] at this
set_option maxRecDepth 100000 in
theorem open_hops {fuel : Nat} {a : Option Addr} {len cap : Nat} {x : DataW H × List MemPlace} (h : DataW.trod enc Try.prog w base spare held fuel 47 [.slice a len cap] = some x) :
    ∃ os : List HOp, os.length = len ∧ len ≤ cap ∧ cap ≤ maxLen ∧ ScriptH w w.heap.size a os := by
  have hc : Try.prog.cellsOf 52 = 17 := by kernel_rfl
  have hi1 : Try.prog.cellsOf 3 = 1 := by kernel_rfl
  have hi2 : Try.prog.cellsOf 30 = 5 := by kernel_rfl
  have hi3 : Try.prog.cellsOf 49 = 3 := by kernel_rfl
  have hi4 : Try.prog.cellsOf 50 = 1 := by kernel_rfl
  rcases open_slice Try.underlying47 h with ⟨hcs, _⟩ | ⟨x0, l, c, m, n, D, Pl, hcs, hb, hl, hm, hmm, hx, hi⟩
  · simp only [List.cons.injEq, and_true, Value.slice.injEq] at hcs
    obtain ⟨rfl, rfl, rfl⟩ := hcs
    exact ⟨[], rfl, Nat.le_refl _, by unfold maxLen; omega, fun k o ho => by simp at ho⟩
  · simp only [List.cons.injEq, and_true, Value.slice.injEq] at hcs
    obtain ⟨rfl, rfl, rfl⟩ := hcs
    have hml : len ≤ m := by rw [hmm]; split <;> omega
    obtain ⟨os, hos, hP⟩ := list_choose (n := len) (P := fun i (o : HOp) => HOpAt w w.heap.size (x0.add (i * 17)) o) fun i hil => by
      obtain ⟨cs', hcl, ht'⟩ := hi i (by omega)
      rw [hc] at hcl
      obtain ⟨_, hlen, hat⟩ := World.cells?_some hcl
      obtain ⟨n', _, ⟨_, t0⟩, ⟨_, t1⟩, ⟨_, t2⟩, ⟨_, t3⟩, ⟨_, t4⟩, ⟨_, t5⟩, ⟨_, t6⟩⟩ := trod_struct7 Try.underlying52 ht'
      match cs', hlen, hat with
      | [v0, v1, v2, v3, v4, v5, v6, v7, v8, v9, v10, v11, v12, v13, v14, v15, v16], _, hat =>
        simp only [hi1, hi2, hi3, hi4, List.drop_zero, List.drop_succ_cons, List.take_succ_cons, List.take_zero] at t0 t1 t2 t3 t4 t5 t6
        obtain ⟨n0, q0, _⟩ := DataW.trod_int Try.underlying3 t0
        obtain ⟨e1, he1⟩ := type_cells t1
        obtain ⟨e2, he2⟩ := type_cells t2
        obtain ⟨n3, q3, _⟩ := DataW.trod_int Try.underlying3 t3
        obtain ⟨n4, q4, _⟩ := DataW.trod_int Try.underlying3 t4
        obtain ⟨e5, he5⟩ := value_cells t5
        obtain ⟨A6, l6, c6, hq6⟩ : ∃ A l c, v16 = .slice A l c := by
          rcases open_slice Try.underlying50 t6 with ⟨hcs, _⟩ | ⟨x1, l1, c1, _, _, _, _, hcs, _⟩
          · simp only [List.cons.injEq, and_true] at hcs; exact ⟨_, _, _, hcs⟩
          · simp only [List.cons.injEq, and_true] at hcs; exact ⟨_, _, _, hcs⟩
        subst hq6
        obtain ⟨ls, hl6, hc6, hm6, hr6⟩ := open_types t6
        subst hl6
        simp only [List.cons.injEq, and_true] at q0 q3 q4
        simp only [Ty.cells, List.cons.injEq, and_true] at he1 he2
        simp only [Vl.cells, List.cons.injEq, and_true] at he5
        obtain ⟨a0, a1, a2, a3, a4⟩ := he1
        obtain ⟨b0, b1, b2, b3, b4⟩ := he2
        obtain ⟨d0, d1, d2⟩ := he5
        subst q0 q3 q4 a0 a1 a2 a3 a4 b0 b1 b2 b3 b4 d0 d1 d2
        refine ⟨⟨n0, e1, e2, n3, n4, e5, ls⟩, ⟨fun j u hu => ?_, A6, c6, ?_, hr6, hc6, hm6⟩⟩
        · have hj : j < 16 := (List.getElem?_eq_some_iff.1 hu).1
          rw [hat j (by omega)]
          rw [← hu]
          match j, hj with
          | 0, _ => rfl
          | 1, _ => rfl
          | 2, _ => rfl
          | 3, _ => rfl
          | 4, _ => rfl
          | 5, _ => rfl
          | 6, _ => rfl
          | 7, _ => rfl
          | 8, _ => rfl
          | 9, _ => rfl
          | 10, _ => rfl
          | 11, _ => rfl
          | 12, _ => rfl
          | 13, _ => rfl
          | 14, _ => rfl
          | 15, _ => rfl
        · exact hat 16 (by omega)
    refine ⟨os, hos, hl, hm, fun k o ho => ⟨x0, rfl, ?_, hP k o ho⟩⟩
    have h0 := (hP k o ho).cells 0 _ rfl
    have := block_of_cell h0
    rwa [block_of_add, block_of_add] at this
end
end Go.Proofs.Ytpfgdgelnehjpaa
