/- Notes in a row: what comes in, what is sent, what is read. -/
import Derived.Test.YtdilccihhelilaaPairK
import Derived.Test.YtdilccihhelilaaReadPH
import Derived.Test.YtdilccihhelilaaBackNH
import Derived.Test.YtdilccihhelilaaOpenNH
namespace Go.Proofs.Ytdilccihhelilaa
open Go.Joins Go.RowKit Go.ChangeShapes Go.WideShapes Go.Deep
set_option linter.unusedVariables false
set_option linter.unusedSimpArgs false

/-- A note: its numbers, its list's place and entries. -/
structure NV where
  what : Int
  view : Int
  n : Int
  A : Option Addr
  c : Nat
  es : List Ent
def NV.cells (v : NV) : List Value := [.int .i64 v.what, .int .i64 v.view, .int .i64 v.n, .slice v.A v.es.length v.c]
def NV.val (v : NV) : Value := .agg #[.int .i64 v.what, .int .i64 v.view, .int .i64 v.n, .slice v.A v.es.length v.c]
def NV.bs (v : NV) : List Int := noteB v.what v.view v.n v.es
def NV.err (v : NV) : Int := nErr v.what v.view v.n v.es
structure NV.In (v : NV) (w : World) (B : Nat) : Prop where
  what : in64 v.what
  view : in64 v.view
  n : in64 v.n
  r : ReadsE w B v.A v.es
  i : InL v.es
  c : v.es.length ≤ v.c
  m : v.c ≤ maxLen
theorem NV.In.below {v : NV} {w w' : World} {B : Nat} (h : v.In w B) (k : Below B w w') : v.In w' B := ⟨h.what, h.view, h.n, ReadsE.below h.r k, h.i, h.c, h.m⟩
/-- The row of notes that came in. -/
def RowsN (w : World) (B : Nat) (A : Option Addr) (ls : List NV) : Prop := ∀ (k : Nat) v, ls[k]? = some v → ∃ ad, A = some ad ∧ ad.block < B ∧ w.cell? (ad.add (k * 4)) = some (.int .i64 v.what) ∧ w.cell? ((ad.add (k * 4)).add 1) = some (.int .i64 v.view) ∧ w.cell? ((ad.add (k * 4)).add 2) = some (.int .i64 v.n) ∧ w.cell? ((ad.add (k * 4)).add 3) = some (.slice v.A v.es.length v.c) ∧ v.In w B
section
variable {H : Type} {enc : TypeId × Value → H} {w : World}
set_option maxRecDepth 100000 in
theorem open_notes {fuel : Nat} {a : Option Addr} {len cap : Nat} {x : DataW H × List MemPlace} (h : DataW.trod enc Try.prog w 0 (fun _ => true) true fuel 22 [.slice a len cap] = some x) :
    ∃ ls : List NV, ls.length = len ∧ RowsN w w.heap.size a ls := by
  rcases open_slice_fields Try.underlying22 Try.underlying33 (by kernel_rfl) (by kernel_rfl) h with ⟨hcs, _⟩ | ⟨x0, l, c, m, D, Pl, hcs, hb, hl, hm, hmm, hx, hi⟩
  · simp only [List.cons.injEq, and_true, Value.slice.injEq] at hcs
    obtain ⟨rfl, rfl, rfl⟩ := hcs
    exact ⟨[], rfl, fun k o ho => by simp at ho⟩
  · simp only [List.cons.injEq, and_true, Value.slice.injEq] at hcs
    obtain ⟨rfl, rfl, rfl⟩ := hcs
    have hml : len ≤ m := by rw [hmm]; split <;> omega
    obtain ⟨os, hos, hP⟩ := list_choose (n := len) (P := fun i (o : NV) => w.cell? (x0.add (i * 4)) = some (.int .i64 o.what) ∧ w.cell? ((x0.add (i * 4)).add 1) = some (.int .i64 o.view) ∧ w.cell? ((x0.add (i * 4)).add 2) = some (.int .i64 o.n) ∧ w.cell? ((x0.add (i * 4)).add 3) = some (.slice o.A o.es.length o.c) ∧ o.In w w.heap.size) fun i hil => by
      obtain ⟨ys, n, _, _, _, hf⟩ := hi i (by omega)
      obtain ⟨v0, y0, c0, _, t0⟩ := hf 0 _ rfl
      obtain ⟨v1, y1, c1, _, t1⟩ := hf 1 _ rfl
      obtain ⟨v2, y2, c2, _, t2⟩ := hf 2 _ rfl
      obtain ⟨v3, y3, c3, _, t3⟩ := hf 3 _ rfl
      obtain ⟨n0, q0, _, s0⟩ := DataW.trod_int Try.underlying3 t0
      obtain ⟨n1, q1, _, s1⟩ := DataW.trod_int Try.underlying3 t1
      obtain ⟨n2, q2, _, s2⟩ := DataW.trod_int Try.underlying3 t2
      simp only [List.cons.injEq, and_true] at q0 q1 q2
      subst q0 q1 q2
      obtain ⟨A, l, c, hq⟩ : ∃ A l c, v3 = .slice A l c := by
        rcases open_slice Try.underlying31 t3 with ⟨hcs, _⟩ | ⟨x1, l1, c1, _, _, _, _, hcs, _⟩
        · simp only [List.cons.injEq, and_true] at hcs; exact ⟨_, _, _, hcs⟩
        · simp only [List.cons.injEq, and_true] at hcs; exact ⟨_, _, _, hcs⟩
      subst hq
      obtain ⟨es, hl', hc', hm', hr', hi'⟩ := open_entries t3
      subst hl'
      exact ⟨⟨n0, n1, n2, A, c, es⟩, c0, by rw [add_of_add]; exact c1, by rw [add_of_add]; exact c2, by rw [add_of_add]; exact c3, in64_wf s0, in64_wf s1, in64_wf s2, hr', hi', hc', hm'⟩
    refine ⟨os, hos, fun k o ho => ⟨x0, rfl, ?_, hP k o ho⟩⟩
    have h0 := (hP k o ho).1
    have := block_of_cell h0
    rwa [block_of_add] at this
end
theorem RowsN.below {w w' : World} {B : Nat} {A : Option Addr} {ls : List NV} (h : RowsN w B A ls) (k : Below B w w') : RowsN w' B A ls := fun i v hi => by
  obtain ⟨ad, e, hb, h0, h1, h2, h3, h4⟩ := h i v hi
  have hb' : ∀ n, (ad.add n).block < B := fun n => by rw [block_of_add]; exact hb
  exact ⟨ad, e, hb, (k.cell (hb' _)).trans h0, (k.cell (by rw [add_of_add]; exact hb' _)).trans h1, (k.cell (by rw [add_of_add]; exact hb' _)).trans h2, (k.cell (by rw [add_of_add]; exact hb' _)).trans h3, h4.below k⟩

/-- The cells of notes in a row. -/
def cellsN (l : List NV) : List Value := l.flatMap NV.cells
theorem cellsN_append (l m : List NV) : cellsN (l ++ m) = cellsN l ++ cellsN m := List.flatMap_append
theorem cellsN_length (l : List NV) : (cellsN l).length = l.length * 4 := by
  induction l with
  | nil => rfl
  | cons e l ih => rw [cellsN, List.flatMap_cons, List.length_append, show (l.flatMap NV.cells).length = l.length * 4 from ih, List.length_cons]; simp [NV.cells]; omega
theorem cellsN_get : ∀ {l : List NV} {k : Nat} {e : NV}, l[k]? = some e → ∀ j, j < 4 → (cellsN l)[k * 4 + j]? = e.cells[j]?
  | x :: l, 0, e, h, j, hj => by
    simp only [List.getElem?_cons_zero, Option.some.injEq] at h
    subst h
    rw [cellsN, List.flatMap_cons, List.getElem?_append_left (by simp [NV.cells]; omega)]
    simp
  | x :: l, k + 1, e, h, j, hj => by
    rw [List.getElem?_cons_succ] at h
    rw [cellsN, List.flatMap_cons, List.getElem?_append_right (by simp [NV.cells]; omega)]
    have := cellsN_get h j hj
    rw [← this]
    congr 1
    simp [NV.cells]
    omega
  | [], _, _, h, _, _ => by simp at h
theorem cellsN_one (l : List NV) : ∀ u ∈ cellsN l, u.oneCell' = true := fun u hu => by
  obtain ⟨v, _, hv⟩ := List.mem_flatMap.1 hu
  simp only [NV.cells, List.mem_cons, List.not_mem_nil, or_false] at hv
  rcases hv with rfl | rfl | rfl | rfl <;> rfl
theorem infoN : (Try.prog.info? 33).map (fun i => (i.zero, i.size, i.bytes)) = some (some (.agg #[.int .i64 0, .int .i64 0, .int .i64 0, .slice none 0 0]), 4, 48) := by kernel_rfl

/-- The row of the notes that were sent. -/
structure SR (w : World) (B : Nat) (Fa Fb : Nat → Prop) (v : Value) (l : List NV) : Prop where
  own : w.ownsRow B 33 4 v l.length (cellsN l)
  da : ∀ q, Fa q → v.ownBlock ≠ some q
  db : ∀ q, Fb q → v.ownBlock ≠ some q
theorem rowN_noB {w : World} {base n : Nat} {v : Value} {vs : List Value} (h : w.ownsRow base 33 4 v n vs) (q : Nat) (hq : v.ownBlock = some q) : NoB w q := by
  rcases h.2 with ⟨h', _⟩ | ⟨g', cap', cur, h', hb, hg, _⟩
  · rw [h'] at hq; simp [Value.ownBlock] at hq
  · rw [h'] at hq
    have : g' = q := by simpa [Value.ownBlock] using hq
    subst this
    exact Blk.noB (t := 33) hg (by decide)
/-- Rows of other types lie in other blocks. -/
theorem own_ne {w : World} {base base' : Nat} {e e' : TypeId} {size size' n n' : Nat} {v v' : Value} {xs xs' : List Value} (h : w.ownsRow base e size v n xs) (h' : w.ownsRow base' e' size' v' n' xs') (hne : e ≠ e') (q : Nat) (hq : v.ownBlock = some q) : v'.ownBlock ≠ some q := fun hq' => by
  rcases h.2 with ⟨hv, _⟩ | ⟨g, cap, cur, hv, hb, hg, _⟩
  · rw [hv] at hq; simp [Value.ownBlock] at hq
  · rcases h'.2 with ⟨hv', _⟩ | ⟨g', cap', cur', hv', hb', hg', _⟩
    · rw [hv'] at hq'; simp [Value.ownBlock] at hq'
    · rw [hv] at hq
      rw [hv'] at hq'
      have e1 : g = q := by simpa [Value.ownBlock] using hq
      have e2 : g' = q := by simpa [Value.ownBlock] using hq'
      subst e1
      subst e2
      rw [hg] at hg'
      injection hg' with hg'
      injection hg' with _ ht
      exact hne ht
section
variable {w w' : World} {B : Nat} {S : List (List Int)} {Fa : Nat → Prop} {ga ma ca : Nat} {oa : Bool} {kv : List Value} {f : Nat} {Fb : Nat → Prop} {gb mb cb : Nat} {ob : Bool} {got : Nat} {ev : Int → Option Value} {vN : Value} {nN : Nat} {vsN : List Value} {vG : Value} {vsG : List Value} {vS : Value} {l : List NV}
theorem SR.turn {G : Nat → Prop} (h : SR w B Fa Fb vS l) (k : Turned G w w') (hd : ∀ q, G q → vS.ownBlock ≠ some q) : SR w' B Fa Fb vS l := ⟨own_turned h.own k fun q hq hG => hd q hG hq, h.da, h.db⟩
theorem SR.below (h : SR w B Fa Fb vS l) (k : Below w.heap.size w w') : SR w' B Fa Fb vS l := h.turn (G := fun _ => False) (Turned.of_below k) fun _ h => h.elim
theorem SR.send {Fa' : Nat → Prop} (h : SR w B Fa Fb vS l) (k : Turned Fa w w') (hF : ∀ q, q < w.heap.size → Fa' q → Fa q) : SR w' B Fa' Fb vS l :=
  ⟨own_turned h.own k fun q hq hG => h.da q hG hq, fun q h1 h2 => h.da q (hF q (h.own.lt q h2).2 h1) h2, h.db⟩
theorem PS.turn {G : Nat → Prop} (h : PS w B S Fa ga ma ca oa kv f Fb gb mb cb ob got ev vN nN vsN vG vsG) (k : Turned G w w') (hB : ∀ q, G q → NoB w q) (ha : ∀ q, Fa q → ¬ G q) (hb : ∀ q, Fb q → ¬ G q) (hn : ∀ q, G q → vN.ownBlock ≠ some q) (hg : ∀ q, G q → vG.ownBlock ≠ some q) :
    PS w' B S Fa ga ma ca oa kv f Fb gb mb cb ob got ev vN nN vsN vG vsG :=
  ⟨h.a.turned k ha, h.k.keep fun v x h => h.keep k hB, h.b.turned k hb, inb_turn h.i k hB, h.n.turn k hB hn, h.g.turn k hB hg, h.dab, h.dna, h.dnb, h.dga, h.dgb, h.dng, h.ba, h.bb, h.s, h.sl, h.fg, h.gs⟩
/-- The row of what was sent has grown. -/
theorem SR.app {v : NV} {A : Option Addr} {c : Nat} (h : SR w B Fa Fb vS l) (hp : PS w B S Fa ga ma ca oa kv f Fb gb mb cb ob got ev vN nN vsN vG vsG) (ho : w'.ownsRow B 33 4 (.slice A (l.length + 1) c) (l.length + 1) (cellsN l ++ v.cells)) (hg : w.grownBy w' vS.ownBlock)
    (hat : (Value.slice A (l.length + 1) c).ownBlock = vS.ownBlock ∨ (Value.slice A (l.length + 1) c).ownBlock = some w.heap.size) :
    SR w' B Fa Fb (.slice A (l.length + 1) c) (l ++ [v]) ∧ PS w' B S Fa ga ma ca oa kv f Fb gb mb cb ob got ev vN nN vsN vG vsG := by
  have hT : Turned (fun q => vS.ownBlock = some q) w w' := Turned.of_grown hg fun q h => h
  refine ⟨⟨?_, fun q hq e => ?_, fun q hq e => ?_⟩, hp.turn hT (fun q hq => rowN_noB h.own q hq) (fun q h1 h2 => h.da q h1 h2) (fun q h1 h2 => h.db q h1 h2) (fun q hq => own_ne h.own hp.n.own (by decide) q hq) (fun q hq => own_ne h.own hp.g.own (by decide) q hq)⟩
  · rw [List.length_append, cellsN_append, show cellsN [v] = v.cells from by simp [cellsN]]
    exact ho
  · rcases hat with h1 | h1
    · rw [h1] at e; exact h.da q hq e
    · rw [h1] at e
      injection e with e
      have := (hp.a.lt q hq).1
      omega
  · rcases hat with h1 | h1
    · rw [h1] at e; exact h.db q hq e
    · rw [h1] at e
      injection e with e
      have := (hp.b.lt q hq).1
      omega
/-- The row of frames has grown: what was sent stands. -/
theorem SR.net (h : SR w B Fa Fb vS l) (hn : w.ownsRow B 27 1 vN nN vsN) (hg : w.grownBy w' vN.ownBlock) : SR w' B Fa Fb vS l :=
  h.turn (G := fun q => vN.ownBlock = some q) (Turned.of_grown hg fun q h => h) fun q hq => own_ne hn h.own (by decide) q hq
end
/-- A note's bytes are read as itself. -/
theorem rd_same {what view n : Int} {es : List Ent} (hi : InL es) (h : nErr what view n es = 0) :
    rdC (noteB what view n es) = 0 ∧ rdWhat (noteB what view n es) = what ∧ rdView (noteB what view n es) = view ∧ rdNum (noteB what view n es) = n ∧ rdL (noteB what view n es) = es := by
  obtain ⟨k0, k1, k2, k3⟩ := heads_noteB h
  have hz := nErr_zero h
  have hl := noteB_length what view n es
  have hN : rdN (noteB what view n es) = es.length := by unfold rdN; rw [k3]; omega
  have hE : ents (noteB what view n es) es.length = es := ents_noteB hi hz.2.2.2.2
  have hg : rdGood (noteB what view n es) := by
    unfold rdGood rd0 rd1_ rd2_
    rw [k0, k1, k2, hN, hE]
    exact ⟨hl, h⟩
  have h0 : rdC (noteB what view n es) = 0 := rdC_good (by omega) (by rw [k3]; omega) (by rw [k3]; omega) hg
  obtain ⟨r0, r1, r2, r3⟩ := rd_good h0
  exact ⟨h0, by rw [r0]; exact k0, by rw [r1]; exact k1, by rw [r2]; exact k2, by rw [r3, hN, hE]⟩
theorem bs_len {v : NV} (h : v.err = 0) : v.bs.length ≤ 57357 := by
  have := (nErr_zero h).2.2.2.1
  unfold NV.bs
  rw [noteB_length]
  omega
/-- What is read of the bytes of a note. -/
theorem read_back (v : NV) (A : Option Addr) (c : Nat) (w : World) (hi : InL v.es) (h : v.err = 0) (hb : Bytes v.bs) (hr : ReadsB w w.heap.size A v.bs) (hc : v.bs.length ≤ c) (hm : c ≤ maxLen) :
    Calls Try.prog 12 #[.slice A v.bs.length c] w fun e w' => Below w.heap.size w w' ∧ ∃ A2 c2, e = .returned (.tuple #[.agg #[.int .i64 v.what, .int .i64 v.view, .int .i64 v.n, .slice A2 v.es.length c2], .int .i64 0]) ∧ ReadsE w' w'.heap.size A2 v.es ∧ v.es.length ≤ c2 ∧ c2 ≤ maxLen := by
  obtain ⟨r0, r1, r2, r3, r4⟩ := rd_same (what := v.what) (view := v.view) (n := v.n) hi h
  refine (read_any A c v.bs w hb hr hc hm (by have := bs_len h; omega)).mono fun e w' he => ?_
  unfold RdAll NV.bs at he
  rw [r0, r1, r2, r3, r4] at he
  exact he
theorem bs_bytes (v : NV) : Bytes v.bs := by
  unfold NV.bs noteB
  refine ((((beN_bytes _ _).append (beN_bytes _ _)).append (beN_bytes _ _)).append (beN_bytes _ _)).append fun n hn => ?_
  obtain ⟨e, _, he⟩ := List.mem_flatMap.1 hn
  exact encE_bytes e n he
end Go.Proofs.Ytdilccihhelilaa
