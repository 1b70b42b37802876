/- Two ends in rounds: what a round brings on. -/
import Derived.Test.YtdilccihhelilaaPairJ
namespace Go.Proofs.Ytdilccihhelilaa
open Go.RowKit
set_option linter.unusedVariables false
set_option linter.unusedSimpArgs false

/-- An end that is only sent to takes a frame of the sender's; the next one moves it on. -/
theorem take_go (F : Nat → Prop) (g m cnt : Nat) (own : Bool) (got j : Nat) (ev : Int → Option Value) (sent : List (List Int)) (x : List Int) (A : Option Addr) (c : Nat) (w : World) (h : HE w F g m cnt own [] 1 got ev) (hI : Inb sent w got ev)
    (hj : sent[j]? = some x) (hx : x.length ≤ 1048568) (hb : Bytes x) (hjl : j < 100000) (hgl : got < 100000) (hcnt : cnt < 4294967296)
    (hr : ReadsB w w.heap.size A (FR ((j : Int) + 1) 0 x)) (hc : (FR ((j : Int) + 1) 0 x).length ≤ c) (hm : c ≤ maxLen) :
    Calls Try.prog 11 #[.pointer (some ⟨g, 0, none⟩), .slice A (FR ((j : Int) + 1) 0 x).length c] w fun e w' => ∃ AO cO vs AB cB evN, e = .returned (.tuple #[.slice AO vs.length cO, .slice AB 16 cB, .int .i64 0]) ∧ Turned F w w' ∧
      HE w' F g m (cnt + 1) false [] 1 ((got : Int) + vs.length) evN ∧ w'.ownsRow w.heap.size 27 1 (.slice AO vs.length cO) vs.length vs ∧ OwnB w' 0 (.slice AB 16 cB) (FR 0 ((got : Int) + vs.length) []) ∧
      (∀ i (hi : i < vs.length), ∃ xs, sent[got + i]? = some xs ∧ OwnB w' 0 vs[i] xs) ∧ Inb sent w' (got + vs.length) evN ∧ (j = got → 1 ≤ vs.length) := by
  obtain ⟨s1, s2, s3, s4, s5, s6⟩ := fr_says (n := (j : Int) + 1) (g := 0) (xs := x) (by omega) (by omega) (by omega) (by omega) hx
  have hf : frC (FR ((j : Int) + 1) 0 x) (1 + (([] : List Value).length : Int)) = 0 := fr_taken (by omega) (by omega) (by omega) (by omega) hx (by simp) (fun h => by omega)
  have hk0 : kN (FR ((j : Int) + 1) 0 x) 1 = 0 := by unfold kN; rw [s5]; rfl
  refine (take_ok F g m cnt own [] 1 got ev A c _ w h hr (FR_bytes hb) hc hm (by omega) (by omega) (by simp) hf (by omega) (by omega) hcnt (fun y hy => ?_) (fun y v hy => ?_)).mono ?_
  · cases he : ev y with
    | none => rw [he] at hy; cases hy
    | some v => obtain ⟨_, _, _, h2, _⟩ := hI y v he; exact h2
  · obtain ⟨_, _, _, _, xs, _, h2⟩ := hI y v hy
    obtain ⟨A', c', e, _⟩ := own_form h2
    exact ⟨_, _, _, e⟩
  · rintro e w' ⟨AO, cO, vs, AB, nB, cB, b, evN, he, hT, hH, _, hO, hOb, _, hne⟩
    obtain ⟨rfl, hF, hvs, hend, hN⟩ := hne (by rw [s4]; omega)
    rw [s6] at hOb
    rw [hk0] at hH
    have hI' : Inb sent w' got ev := fun y v hy => by
      obtain ⟨i, h1, h2, h3, xs, h4, h5⟩ := hI y v hy
      exact ⟨i, h1, h2, h3, xs, h4, h5.keep hT (fun k hk => h.noB k hk)⟩
    have hgo : j = got → 1 ≤ vs.length := fun e => by
      rcases Nat.eq_zero_or_pos vs.length with h0 | h0
      · exfalso
        rw [h0] at hend
        have e2 : (got : Int) + 1 + ((0 : Nat) : Int) = frM (FR ((j : Int) + 1) 0 x) := by rw [s4, e]; omega
        rw [e2] at hend
        unfold ev1 at hend
        cases hv : ev (frM (FR ((j : Int) + 1) 0 x)) with
        | some v =>
          rw [if_neg (fun hh => by
            have := hh.1
            unfold insB at this
            rw [hv] at this
            simp at this), hv] at hend
          cases hend
        | none =>
          rw [if_pos ⟨by
            unfold insB
            rw [hv, s4, e]
            simp
            omega, rfl⟩] at hend
          cases hend
      · exact h0
    obtain ⟨r1, r2, r3⟩ := inb_step (ins := insB (FR ((j : Int) + 1) 0 x) got ev) hI' hj hOb (fun y => by unfold ev1; rw [s4]) (fun hi => by
      unfold insB at hi
      simp only [Bool.and_eq_true, decide_eq_true_eq, s4] at hi
      omega) hvs hend hN
    exact ⟨AO, cO, vs, AB, cB, evN, he, hT, by simpa using hH, hO, hF, r1, r2, hgo⟩

section
variable {w w' : World} {B : Nat} {S : List (List Int)} {Fa : Nat → Prop} {ga ma ca : Nat} {oa : Bool} {kv : List Value} {f : Nat} {Fb : Nat → Prop} {gb mb cb : Nat} {ob : Bool} {got : Nat} {ev : Int → Option Value} {vN : Value} {nN : Nat} {vsN : List Value} {vG : Value} {vsG : List Value}
/-- b takes a frame of the sender's. -/
theorem PS.go {j c : Nat} {A : Option Addr} {x : List Int} (h : PS w B S Fa ga ma ca oa kv f Fb gb mb cb ob got ev vN nN vsN vG vsG) (hcb : cb < 1000000) (hj : S[j]? = some x) (hO : OwnB w 0 (.slice A (FR ((j : Int) + 1) 0 x).length c) (FR ((j : Int) + 1) 0 x)) :
    Calls Try.prog 11 #[.pointer (some ⟨gb, 0, none⟩), .slice A (FR ((j : Int) + 1) 0 x).length c] w fun e w' => ∃ AO cO us AB cB evN, e = .returned (.tuple #[.slice AO us.length cO, .slice AB 16 cB, .int .i64 0]) ∧ Turned Fb w w' ∧
      PS w' B S Fa ga ma ca oa kv f Fb gb mb (cb + 1) false (got + us.length) evN vN nN vsN vG vsG ∧ w'.ownsRow w.heap.size 27 1 (.slice AO us.length cO) us.length us ∧ OwnB w' 0 (.slice AB 16 cB) (FR 0 ((got + us.length : Nat) : Int) []) ∧
      (∀ i (hi : i < us.length), ∃ x, S[got + i]? = some x ∧ OwnB w' 0 us[i] x) ∧ (j = got → 1 ≤ us.length) := by
  have hx := h.s x (List.mem_of_getElem? hj)
  have hjl := (List.getElem?_eq_some_iff.1 hj).1
  have hsl := h.sl
  have hgs := h.gs
  have hcap := hO.cap
  refine (take_go Fb gb mb cb ob got j ev S x A c w h.b h.i hj hx.1 hx.2 (by omega) (by omega) (by omega) hO.reads hcap.1 hcap.2).mono ?_
  rintro e w' ⟨AO, cO, us, AB, cB, evN, rfl, hT, hH, hR, hOb, hu, hI, hn⟩
  have hgl : got + us.length ≤ S.length := by
    rcases Nat.eq_zero_or_pos us.length with h0 | h0
    · omega
    · obtain ⟨y, hy, _⟩ := hu (us.length - 1) (by omega)
      have := (List.getElem?_eq_some_iff.1 hy).1
      omega
  have hH' : HE w' Fb gb mb (cb + 1) false [] 1 ((got + us.length : Nat) : Int) evN := by
    rw [Int.natCast_add]; exact hH
  rw [← Int.natCast_add] at hOb
  exact ⟨AO, cO, us, AB, cB, evN, rfl, hT, h.takeB hT hH' hI (by omega) hgl, hR, hOb, hu, hn⟩
/-- Another row of frames: a new one. -/
theorem PS.newN {A : Option Addr} {c n : Nat} {us : List Value} (h : PS w B S Fa ga ma ca oa kv f Fb gb mb cb ob got ev vN nN vsN vG vsG) (k : Below w.heap.size w w') (hB : B ≤ w.heap.size) (ho : w'.ownsRow w.heap.size 27 1 (.slice A n c) n us) (hu : ∀ u ∈ us, ∃ (j : Nat) (x : List Int), S[j]? = some x ∧ OwnB w' 0 u (FR ((j : Int) + 1) 0 x)) :
    PS w' B S Fa ga ma ca oa kv f Fb gb mb cb ob got ev (.slice A n c) n us vG vsG := by
  have h' := h.below k
  have hnew : ∀ q, (Value.slice A n c).ownBlock = some q → w.heap.size ≤ q := fun q hq => (ho.lt q hq).1
  exact { a := h'.a, k := h'.k, b := h'.b, i := h'.i, n := ⟨own_base ho hB, hu⟩, g := h'.g, dab := h.dab, dna := fun q h1 h2 => (by have := (h.a.lt q h1).1; have := hnew q h2; omega), dnb := fun q h1 h2 => (by have := (h.b.lt q h1).1; have := hnew q h2; omega),
          dga := h.dga, dgb := h.dgb, dng := fun q h1 h2 => (by have := (h.g.own.lt q h2).2; have := hnew q h1; omega), ba := h.ba, bb := h.bb, s := h.s, sl := h.sl, fg := h.fg, gs := h.gs }
end
/-- The frames that Tick gave, from the f0-th on. -/
def TK (w : World) (S : List (List Int)) (f0 : Nat) (vs : List Value) : Prop := ∀ i u, vs[i]? = some u → ∃ x, S[f0 + i]? = some x ∧ OwnB w 0 u (FR (((f0 + i : Nat) : Int) + 1) 0 x)
theorem TK.turn {w w' : World} {S : List (List Int)} {f0 : Nat} {vs : List Value} {G : Nat → Prop} (h : TK w S f0 vs) (k : Turned G w w') (hB : ∀ q, G q → NoB w q) : TK w' S f0 vs := fun i u hu => by
  obtain ⟨x, h1, h2⟩ := h i u hu
  exact ⟨x, h1, h2.keep k hB⟩
end Go.Proofs.Ytdilccihhelilaa
