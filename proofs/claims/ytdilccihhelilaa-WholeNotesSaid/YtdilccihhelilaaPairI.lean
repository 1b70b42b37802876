/- Two ends and the rows of a statement: what stands of them from call to call. -/
import Derived.Test.YtdilccihhelilaaPairH
import Derived.Test.YtdilccihhelilaaPairF
import Derived.Test.YtdilccihhelilaaOpenRP
namespace Go.Proofs.Ytdilccihhelilaa
open Go.RowKit
set_option linter.unusedVariables false
set_option linter.unusedSimpArgs false

theorem row_noB {w : World} {base n : Nat} {v : Value} {vs : List Value} (h : w.ownsRow base 27 1 v n vs) (q : Nat) (hq : v.ownBlock = some q) : NoB w q := by
  rcases h.2 with ⟨h', _⟩ | ⟨g', cap', cur, h', hb, hg, _⟩
  · rw [h'] at hq; simp [Value.ownBlock] at hq
  · rw [h'] at hq
    have : g' = q := by simpa [Value.ownBlock] using hq
    subst this
    exact Blk.noB (t := 27) hg (by decide)
/-- A row of the sender's frames. -/
structure NR (w : World) (B : Nat) (S : List (List Int)) (v : Value) (n : Nat) (vs : List Value) : Prop where
  own : w.ownsRow B 27 1 v n vs
  fr : ∀ u ∈ vs, ∃ (j : Nat) (x : List Int), S[j]? = some x ∧ OwnB w 0 u (FR ((j : Int) + 1) 0 x)
/-- A row of what was handed on. -/
structure GR (w : World) (B : Nat) (S : List (List Int)) (v : Value) (vs : List Value) : Prop where
  own : w.ownsRow B 27 1 v vs.length vs
  has : ∀ i (hi : i < vs.length), ∃ x, S[i]? = some x ∧ OwnB w 0 vs[i] x
theorem GR.le {w : World} {B : Nat} {S : List (List Int)} {v : Value} {vs : List Value} (h : GR w B S v vs) : vs.length ≤ S.length := by
  rcases Nat.eq_zero_or_pos vs.length with h0 | h0
  · omega
  · obtain ⟨x, hx, _⟩ := h.has (vs.length - 1) (by omega)
    have := (List.getElem?_eq_some_iff.1 hx).1
    omega
/-- Two ends: a has sent S, of which the last are kept; b has handed got on. net and got are rows. -/
structure PS (w : World) (B : Nat) (S : List (List Int)) (Fa : Nat → Prop) (ga ma ca : Nat) (oa : Bool) (kv : List Value) (f : Nat) (Fb : Nat → Prop) (gb mb cb : Nat) (ob : Bool) (got : Nat) (ev : Int → Option Value) (vN : Value) (nN : Nat) (vsN : List Value) (vG : Value) (vsG : List Value) : Prop where
  a : HE w Fa ga ma ca oa kv ((f : Int) + 1) 0 (fun _ => none)
  k : OBs w kv (S.drop f)
  b : HE w Fb gb mb cb ob [] 1 (got : Int) ev
  i : Inb S w got ev
  n : NR w B S vN nN vsN
  g : GR w B S vG vsG
  dab : ∀ q, Fa q → ¬ Fb q
  dna : ∀ q, Fa q → vN.ownBlock ≠ some q
  dnb : ∀ q, Fb q → vN.ownBlock ≠ some q
  dga : ∀ q, Fa q → vG.ownBlock ≠ some q
  dgb : ∀ q, Fb q → vG.ownBlock ≠ some q
  dng : ∀ q, vN.ownBlock = some q → vG.ownBlock ≠ some q
  ba : ∀ q, Fa q → B ≤ q
  bb : ∀ q, Fb q → B ≤ q
  s : ∀ x ∈ S, x.length ≤ 1048568 ∧ Bytes x
  sl : S.length ≤ 200
  fg : f ≤ got
  gs : got ≤ S.length
section
variable {w w' : World} {B : Nat} {S : List (List Int)} {Fa : Nat → Prop} {ga ma ca : Nat} {oa : Bool} {kv : List Value} {f : Nat} {Fb : Nat → Prop} {gb mb cb : Nat} {ob : Bool} {got : Nat} {ev : Int → Option Value} {vN : Value} {nN : Nat} {vsN : List Value} {vG : Value} {vsG : List Value}
theorem PS.kl (h : PS w B S Fa ga ma ca oa kv f Fb gb mb cb ob got ev vN nN vsN vG vsG) : kv.length = S.length - f := by
  rw [h.k.len, List.length_drop]
theorem inb_turn {G : Nat → Prop} (h : Inb S w got ev) (k : Turned G w w') (hB : ∀ q, G q → NoB w q) : Inb S w' got ev := fun y v hy => by
  obtain ⟨i, h1, h2, h3, xs, h4, h5⟩ := h y v hy
  exact ⟨i, h1, h2, h3, xs, h4, h5.keep k hB⟩
theorem NR.turn {G : Nat → Prop} (h : NR w B S vN nN vsN) (k : Turned G w w') (hB : ∀ q, G q → NoB w q) (hd : ∀ q, G q → vN.ownBlock ≠ some q) : NR w' B S vN nN vsN :=
  ⟨own_turned h.own k fun q hq hG => hd q hG hq, fun u hu => by
    obtain ⟨j, x, h1, h2⟩ := h.fr u hu
    exact ⟨j, x, h1, h2.keep k hB⟩⟩
theorem GR.turn {G : Nat → Prop} (h : GR w B S vG vsG) (k : Turned G w w') (hB : ∀ q, G q → NoB w q) (hd : ∀ q, G q → vG.ownBlock ≠ some q) : GR w' B S vG vsG :=
  ⟨own_turned h.own k fun q hq hG => hd q hG hq, fun i hi => by
    obtain ⟨x, h1, h2⟩ := h.has i hi
    exact ⟨x, h1, h2.keep k hB⟩⟩
/-- Only new memory. -/
theorem PS.below (h : PS w B S Fa ga ma ca oa kv f Fb gb mb cb ob got ev vN nN vsN vG vsG) (k : Below w.heap.size w w') : PS w' B S Fa ga ma ca oa kv f Fb gb mb cb ob got ev vN nN vsN vG vsG := by
  have hT : Turned (fun _ => False) w w' := Turned.of_below k
  exact ⟨h.a.below k, h.k.keep fun v x h => h.below k, h.b.below k, inb_turn h.i hT fun _ h => h.elim, h.n.turn hT (fun _ h => h.elim) (fun _ h => h.elim), h.g.turn hT (fun _ h => h.elim) (fun _ h => h.elim), h.dab, h.dna, h.dnb, h.dga, h.dgb, h.dng, h.ba, h.bb, h.s, h.sl, h.fg, h.gs⟩
/-- b has taken. -/
theorem PS.takeB {cb' got' : Nat} {ob' : Bool} {ev' : Int → Option Value} (h : PS w B S Fa ga ma ca oa kv f Fb gb mb cb ob got ev vN nN vsN vG vsG) (k : Turned Fb w w') (hb : HE w' Fb gb mb cb' ob' [] 1 (got' : Int) ev') (hi : Inb S w' got' ev') (hg : got ≤ got') (hs : got' ≤ S.length) :
    PS w' B S Fa ga ma ca oa kv f Fb gb mb cb' ob' got' ev' vN nN vsN vG vsG := by
  have hB := fun q hq => h.b.noB q hq
  exact ⟨h.a.turned k h.dab, h.k.keep fun v x h => h.keep k hB, hb, hi, h.n.turn k hB h.dnb, h.g.turn k hB h.dgb, h.dab, h.dna, h.dnb, h.dga, h.dgb, h.dng, h.ba, h.bb, h.s, h.sl, by have := h.fg; omega, hs⟩
/-- a has taken. -/
theorem PS.takeA {ca' f' : Nat} {oa' : Bool} (h : PS w B S Fa ga ma ca oa kv f Fb gb mb cb ob got ev vN nN vsN vG vsG) (k : Turned Fa w w') (ha : HE w' Fa ga ma ca' oa' (kv.drop (f' - f)) ((f' : Int) + 1) 0 (fun _ => none)) (h1 : f ≤ f') (h2 : f' ≤ got) :
    PS w' B S Fa ga ma ca' oa' (kv.drop (f' - f)) f' Fb gb mb cb ob got ev vN nN vsN vG vsG := by
  have hB := fun q hq => h.a.noB q hq
  have hk : OBs w' kv (S.drop f) := h.k.keep fun v x h => h.keep k hB
  have hk2 := hk.drop (f' - f)
  rw [List.drop_drop, show f + (f' - f) = f' by omega] at hk2
  exact ⟨ha, hk2, h.b.turned k (fun q hb ha => h.dab q ha hb), inb_turn h.i k hB, h.n.turn k hB h.dna, h.g.turn k hB h.dga, h.dab, h.dna, h.dnb, h.dga, h.dgb, h.dng, h.ba, h.bb, h.s, h.sl, h2, h.gs⟩
/-- a has sent. -/
theorem PS.send {Fa' : Nat → Prop} {u : Value} {x : List Int} (h : PS w B S Fa ga ma ca oa kv f Fb gb mb cb ob got ev vN nN vsN vG vsG) (k : Turned Fa w w') (hF : ∀ q, q < w.heap.size → Fa' q → Fa q) (ha : HE w' Fa' ga ma ca oa (kv ++ [u]) ((f : Int) + 1) 0 (fun _ => none))
    (hu : OwnB w' 0 u x) (hx : x.length ≤ 1048568 ∧ Bytes x) (hl : S.length < 200) (hB0 : B ≤ w.heap.size) :
    PS w' B (S ++ [x]) Fa' ga ma ca oa (kv ++ [u]) f Fb gb mb cb ob got ev vN nN vsN vG vsG := by
  have hB := fun q hq => h.a.noB q hq
  have hk : OBs w' kv (S.drop f) := h.k.keep fun v x h => h.keep k hB
  have hfs : f ≤ S.length := Nat.le_trans h.fg h.gs
  have hb' := h.b.turned k (fun q hb ha => h.dab q ha hb)
  have hn' := h.n.turn k hB h.dna
  have hg' := h.g.turn k hB h.dga
  have hlt : ∀ {j : Nat} {y : List Int}, S[j]? = some y → (S ++ [x])[j]? = some y := fun {j y} e => by
    rw [List.getElem?_append_left (List.getElem?_eq_some_iff.1 e).1]; exact e
  have hsz : ∀ q, Fa' q → Fb q → False := fun q h1 h2 => h.dab q (hF q (h.b.lt q h2).1 h1) h2
  refine ⟨ha, ?_, hb', fun y v hy => ?_, ⟨hn'.own, fun u hu => ?_⟩, ⟨hg'.own, fun i hi => ?_⟩, fun q h1 h2 => hsz q h1 h2, fun q h1 h2 => ?_, h.dnb, fun q h1 h2 => ?_, h.dgb, h.dng, fun q hq => ?_, h.bb, fun y hy => ?_, ?_, h.fg, ?_⟩
  · rw [List.drop_append_of_le_length hfs]
    exact hk.append ⟨hu, trivial⟩
  · obtain ⟨i, h1, h2, h3, xs, h4, h5⟩ := h.i y v hy
    exact ⟨i, h1, h2, h3, xs, hlt h4, h5.keep k hB⟩
  · obtain ⟨j, y, h1, h2⟩ := hn'.fr u hu
    exact ⟨j, y, hlt h1, h2⟩
  · obtain ⟨y, h1, h2⟩ := hg'.has i hi
    exact ⟨y, hlt h1, h2⟩
  · exact h.dna q (hF q (h.n.own.lt q h2).2 h1) h2
  · exact h.dga q (hF q (h.g.own.lt q h2).2 h1) h2
  · rcases Nat.lt_or_ge q w.heap.size with hl | hl
    · exact h.ba q (hF q hl hq)
    · omega
  · rcases List.mem_append.1 hy with hy | hy
    · exact h.s y hy
    · rw [List.mem_singleton.1 hy]; exact hx
  · rw [List.length_append]; simp; omega
  · rw [List.length_append]; have := h.gs; simp; omega
/-- The row of what was handed on has grown. -/
theorem PS.appG {us : List Value} {A : Option Addr} {c : Nat} (h : PS w B S Fa ga ma ca oa kv f Fb gb mb cb ob got ev vN nN vsN vG vsG) (ho : w'.ownsRow B 27 1 (.slice A (vsG.length + us.length) c) (vsG.length + us.length) (vsG ++ us)) (hg : w.grownBy w' vG.ownBlock)
    (hat : (Value.slice A (vsG.length + us.length) c).ownBlock = vG.ownBlock ∨ (Value.slice A (vsG.length + us.length) c).ownBlock = some w.heap.size) (hu : ∀ i (hi : i < us.length), ∃ x, S[vsG.length + i]? = some x ∧ OwnB w 0 us[i] x) :
    PS w' B S Fa ga ma ca oa kv f Fb gb mb cb ob got ev vN nN vsN (.slice A (vsG.length + us.length) c) (vsG ++ us) := by
  have hT : Turned (fun q => vG.ownBlock = some q) w w' := Turned.of_grown hg fun q h => h
  have hB := fun q hq => row_noB h.g.own q hq
  have hlF : ∀ q, Fa q ∨ Fb q → (Value.slice A (vsG.length + us.length) c).ownBlock ≠ some q := fun q hq e => by
    rcases hat with h1 | h1
    · rw [h1] at e
      exact hq.elim (fun hq => h.dga q hq e) (fun hq => h.dgb q hq e)
    · rw [h1] at e
      injection e with e
      have := hq.elim (fun hq => (h.a.lt q hq).1) (fun hq => (h.b.lt q hq).1)
      omega
  have hg' := h.g.turn (G := fun _ => False) (w' := w) (Turned.refl _ _) (fun _ h => h.elim) (fun _ h => h.elim)
  refine ⟨h.a.turned hT (fun q h1 h2 => h.dga q h1 h2), h.k.keep fun v x h => h.keep hT hB, h.b.turned hT (fun q h1 h2 => h.dgb q h1 h2), inb_turn h.i hT hB, h.n.turn hT hB (fun q h1 h2 => h.dng q h2 h1), ⟨by rw [List.length_append]; exact ho, fun i hi => ?_⟩, h.dab, h.dna, h.dnb, fun q hq => hlF q (.inl hq), fun q hq => hlF q (.inr hq), fun q h1 e => ?_, h.ba, h.bb, h.s, h.sl, h.fg, h.gs⟩
  · rw [List.length_append] at hi
    by_cases hlt : i < vsG.length
    · obtain ⟨x, h1, h2⟩ := h.g.has i hlt
      exact ⟨x, h1, by rw [List.getElem_append_left hlt]; exact h2.keep hT hB⟩
    · obtain ⟨x, h1, h2⟩ := hu (i - vsG.length) (by omega)
      refine ⟨x, ?_, ?_⟩
      · rwa [show vsG.length + (i - vsG.length) = i by omega] at h1
      · rw [List.getElem_append_right (by omega)]; exact h2.keep hT hB
  · rcases hat with h2 | h2
    · rw [h2] at e; exact h.dng q h1 e
    · rw [h2] at e
      injection e with e
      have := (h.n.own.lt q h1).2
      omega
/-- The row of frames has grown. -/
theorem PS.appN {us : List Value} {A : Option Addr} {c m : Nat} (h : PS w B S Fa ga ma ca oa kv f Fb gb mb cb ob got ev vN nN vsN vG vsG) (ho : w'.ownsRow B 27 1 (.slice A (nN + m) c) (nN + m) (vsN ++ us)) (hg : w.grownBy w' vN.ownBlock)
    (hat : (Value.slice A (nN + m) c).ownBlock = vN.ownBlock ∨ (Value.slice A (nN + m) c).ownBlock = some w.heap.size) (hu : ∀ u ∈ us, ∃ (j : Nat) (x : List Int), S[j]? = some x ∧ OwnB w 0 u (FR ((j : Int) + 1) 0 x)) :
    PS w' B S Fa ga ma ca oa kv f Fb gb mb cb ob got ev (.slice A (nN + m) c) (nN + m) (vsN ++ us) vG vsG := by
  have hT : Turned (fun q => vN.ownBlock = some q) w w' := Turned.of_grown hg fun q h => h
  have hB := fun q hq => row_noB h.n.own q hq
  have hlF : ∀ q, Fa q ∨ Fb q → (Value.slice A (nN + m) c).ownBlock ≠ some q := fun q hq e => by
    rcases hat with h1 | h1
    · rw [h1] at e
      exact hq.elim (fun hq => h.dna q hq e) (fun hq => h.dnb q hq e)
    · rw [h1] at e
      injection e with e
      have := hq.elim (fun hq => (h.a.lt q hq).1) (fun hq => (h.b.lt q hq).1)
      omega
  refine ⟨h.a.turned hT (fun q h1 h2 => h.dna q h1 h2), h.k.keep fun v x h => h.keep hT hB, h.b.turned hT (fun q h1 h2 => h.dnb q h1 h2), inb_turn h.i hT hB, ⟨ho, fun u hu' => ?_⟩, h.g.turn hT hB h.dng, h.dab, fun q hq => hlF q (.inl hq), fun q hq => hlF q (.inr hq), h.dga, h.dgb, fun q e h1 => ?_, h.ba, h.bb, h.s, h.sl, h.fg, h.gs⟩
  · rcases List.mem_append.1 hu' with hu' | hu'
    · obtain ⟨j, x, h1, h2⟩ := h.n.fr u hu'
      exact ⟨j, x, h1, h2.keep hT hB⟩
    · obtain ⟨j, x, h1, h2⟩ := hu u hu'
      exact ⟨j, x, h1, h2.keep hT hB⟩
  · rcases hat with h2 | h2
    · rw [h2] at e; exact h.dng q e h1
    · rw [h2] at e
      injection e with e
      have := (h.g.own.lt q h1).2
      omega
/-- b takes the frame at a place of the row. -/
theorem PS.take {p j c : Nat} {A : Option Addr} {x : List Int} (h : PS w B S Fa ga ma ca oa kv f Fb gb mb cb ob got ev vN nN vsN vG vsG) (hcb : cb < 1000000) (hj : S[j]? = some x) (hO : OwnB w 0 (.slice A (FR ((j : Int) + 1) 0 x).length c) (FR ((j : Int) + 1) 0 x)) :
    Calls Try.prog 11 #[.pointer (some ⟨gb, 0, none⟩), .slice A (FR ((j : Int) + 1) 0 x).length c] w fun e w' => ∃ AO cO us AB cB evN, e = .returned (.tuple #[.slice AO us.length cO, .slice AB 16 cB, .int .i64 0]) ∧ Turned Fb w w' ∧
      PS w' B S Fa ga ma ca oa kv f Fb gb mb (cb + 1) false (got + us.length) evN vN nN vsN vG vsG ∧ w'.ownsRow w.heap.size 27 1 (.slice AO us.length cO) us.length us ∧ OwnB w' 0 (.slice AB 16 cB) (FR 0 ((got + us.length : Nat) : Int) []) ∧
      (∀ i (hi : i < us.length), ∃ x, S[got + i]? = some x ∧ OwnB w' 0 us[i] x) ∧ evN (((got + us.length : Nat) : Int) + 1) = none := by
  have hx := h.s x (List.mem_of_getElem? hj)
  have hjl := (List.getElem?_eq_some_iff.1 hj).1
  have hsl := h.sl
  have hgs := h.gs
  have hcap := hO.cap
  refine (take_fr Fb gb mb cb ob got j ev S x A c w h.b h.i hj hx.1 hx.2 (by omega) (by omega) (by omega) hO.reads hcap.1 hcap.2).mono ?_
  rintro e w' ⟨AO, cO, us, AB, cB, evN, rfl, hT, hH, hR, hOb, hu, hI, hn⟩
  have hgl : got + us.length ≤ S.length := by
    rcases Nat.eq_zero_or_pos us.length with h0 | h0
    · omega
    · obtain ⟨y, hy, _⟩ := hu (us.length - 1) (by omega)
      have := (List.getElem?_eq_some_iff.1 hy).1
      omega
  have hH' : HE w' Fb gb mb (cb + 1) false [] 1 ((got + us.length : Nat) : Int) evN := by
    rw [Int.natCast_add]; exact hH
  rw [← Int.natCast_add] at hOb
  exact ⟨AO, cO, us, AB, cB, evN, rfl, hT, h.takeB hT hH' hI (by omega) hgl, hR, hOb, hu, hn⟩
/-- a takes an answer. -/
theorem PS.ans {G c : Nat} {A : Option Addr} (h : PS w B S Fa ga ma ca oa kv f Fb gb mb cb ob got ev vN nN vsN vG vsG) (hca : ca < 1000000) (h1 : f ≤ G) (h2 : G ≤ got) (hO : OwnB w 0 (.slice A (FR 0 (G : Int) []).length c) (FR 0 (G : Int) [])) :
    Calls Try.prog 11 #[.pointer (some ⟨ga, 0, none⟩), .slice A (FR 0 (G : Int) []).length c] w fun e w' => ∃ AO cO AB cB, e = .returned (.tuple #[.slice AO 0 cO, .slice AB 0 cB, .int .i64 0]) ∧ Turned Fa w w' ∧
      PS w' B S Fa ga ma (ca + 1) false (kv.drop (G - f)) G Fb gb mb cb ob got ev vN nN vsN vG vsG := by
  have hsl := h.sl
  have hgs := h.gs
  have hkl := h.kl
  have hcap := hO.cap
  refine (take_ans Fa ga ma ca oa kv f G (fun _ => none) A c w h.a h1 (by omega) (by omega) (by omega) (by omega) (fun _ => rfl) hO.reads hcap.1 hcap.2).mono ?_
  rintro e w' ⟨AO, cO, AB, cB, rfl, hT, hH⟩
  exact ⟨AO, cO, AB, cB, rfl, hT, h.takeA hT hH h1 h2⟩
end
end Go.Proofs.Ytdilccihhelilaa
