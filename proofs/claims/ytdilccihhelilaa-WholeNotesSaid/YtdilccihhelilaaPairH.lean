/- The sender takes an answer.  -/
import Derived.Test.YtdilccihhelilaaPairG
namespace Go.Proofs.Ytdilccihhelilaa
open Go.RowKit
set_option linter.unusedVariables false
set_option linter.unusedSimpArgs false

/-- The sender takes an answer: what it tells of is no more kept. -/
theorem take_ans (F : Nat → Prop) (g m cnt : Nat) (own : Bool) (kv : List Value) (f G : Nat) (ev : Int → Option Value) (A : Option Addr) (c : Nat) (w : World) (h : HE w F g m cnt own kv ((f : Int) + 1) 0 ev) (hG : f ≤ G) (hG2 : G ≤ f + kv.length) (hk : kv.length ≤ 4096) (hGl : G < 100000) (hcnt : cnt < 4294967296)
    (hev : ∀ y, ev y = none) (hr : ReadsB w w.heap.size A (FR 0 G [])) (hc : (FR 0 (G : Int) []).length ≤ c) (hm : c ≤ maxLen) :
    Calls Try.prog 11 #[.pointer (some ⟨g, 0, none⟩), .slice A (FR 0 (G : Int) []).length c] w fun e w' => ∃ AO cO AB cB, e = .returned (.tuple #[.slice AO 0 cO, .slice AB 0 cB, .int .i64 0]) ∧ Turned F w w' ∧ HE w' F g m (cnt + 1) false (kv.drop (G - f)) ((G : Int) + 1) 0 ev := by
  have hGb : (G : Int) < 4294967296 := by omega
  have hGf : (G : Int) < (f : Int) + 1 + (kv.length : Int) := by omega
  have hf := fr_taken (n := 0) (g := (G : Int)) (lim := (f : Int) + 1 + (kv.length : Int)) (xs := []) (Int.le_refl 0) (by decide) (Int.natCast_nonneg G) hGb (Nat.zero_le _) hGf (fun _ => rfl)
  obtain ⟨_, _, _, s4, s5, _⟩ := fr_says (n := 0) (g := (G : Int)) (xs := []) (Int.le_refl 0) (by decide) (Int.natCast_nonneg G) hGb (Nat.zero_le _)
  have hk0 : kN (FR 0 (G : Int) []) ((f : Int) + 1) = G - f := by unfold kN; rw [s5]; clear hf s4 s5 hr hc; omega
  have hbX : Bytes (FR 0 (G : Int) []) := FR_bytes Bytes.nil
  generalize FR 0 (G : Int) [] = X at *
  refine (take_ok F g m cnt own kv ((f : Int) + 1) 0 ev A c X w h hr hbX hc hm (by omega) (by omega) hk hf (by omega) (by omega) hcnt (fun y hy => ?_) (fun y v hy => ?_)).mono ?_
  · rw [hev] at hy; cases hy
  · rw [hev] at hy; cases hy
  · rintro e w' ⟨AO, cO, vs, AB, nB, cB, b, evN, he, hT, hH, _, hO, hOb, h0, _⟩
    obtain ⟨rfl, rfl, rfl⟩ := h0 s4
    rw [hk0] at hH
    refine ⟨AO, cO, AB, cB, he, hT, ?_⟩
    have e1 : (f : Int) + 1 + ((G - f : Nat) : Int) = (G : Int) + 1 := by omega
    rw [e1] at hH
    simpa using hH
end Go.Proofs.Ytdilccihhelilaa
