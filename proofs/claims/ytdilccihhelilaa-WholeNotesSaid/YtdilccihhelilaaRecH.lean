/- An entry's bytes: record.put, record.Encode and the reference's. -/
import Derived.Test.YtdilccihhelilaaEntLH
import Derived.Test.YtdilccihhelilaaWMakeP
namespace Go.Proofs.Ytdilccihhelilaa
open Go.RowKit
set_option linter.unusedVariables false

theorem fitsU_of (N : Nat) (x : Int) (h0 : 0 ≤ x) (h : x < 256 ^ N) : fitsU N x = true := by
  unfold fitsU
  rw [Int.toNat_natCast, Int.ediv_eq_zero_of_lt h0 h]
  simp
/-- An entry's bytes. -/
def encE (e : Ent) : List Int := beN 4 e.view ++ (beN 1 e.what ++ (beN 1 e.a ++ beN 8 e.n))
theorem encE_length (e : Ent) : (encE e).length = 14 := by simp [encE, beN_length]
theorem encE_bytes (e : Ent) : Bytes (encE e) := (beN_bytes _ _).append ((beN_bytes _ _).append ((beN_bytes _ _).append (beN_bytes _ _)))

theorem cell_turned {F : Nat → Prop} {w w' : World} {p : Addr} (h : Turned F w w') (hF : ¬ F p.block) (hl : p.block < w.heap.size) : w'.cell? p = w.cell? p := World.cell?_of_block (h.block _ hl hF)
theorem EntAt.turned {F : Nat → Prop} {w w' : World} {ad : Addr} {e : Ent} (h : EntAt w ad e) (k : Turned F w w') (hF : ¬ F ad.block) (hl : ad.block < w.heap.size) : EntAt w' ad e :=
  ⟨(cell_turned k hF hl).trans h.c0, (cell_turned (p := ⟨_, _, none⟩) k hF hl).trans h.c1, (cell_turned (p := ⟨_, _, none⟩) k hF hl).trans h.c2, (cell_turned (p := ⟨_, _, none⟩) k hF hl).trans h.c3⟩

section
variable {F : Nat → Prop} {base g : Nat} {most : Int} {xs : List Int} {w w1 w2 : World}
theorem Wr.mono {G : Nat → Prop} (h : Wr w F base g most xs) (hFG : ∀ k, F k → G k) (hG : ∀ k, G k → base ≤ k ∧ k < w.heap.size) : Wr w G base g most xs := by
  obtain ⟨A, c, hB, hO, hlm, hm, hbg, hFg, hFv, hFw⟩ := h
  exact ⟨A, c, hB, hO, hlm, hm, hbg, hFG g hFg, fun k hk => hFG k (hFv k hk), hG⟩
theorem Wr.base_le (h : Wr w F base g most xs) : base ≤ w.heap.size := by
  obtain ⟨A, c, hB, hO, hlm, hm, hbg, hFg, hFv, hFw⟩ := h
  have := hFw g hFg
  omega
/-- The writer behind a second call, told from the first. -/
theorem Wr.next {ys zs : List Int} (h : Wr w F base g most xs) (hT : Turned F w w1) (hT2 : Turned (Grow F w w1) w1 w2) (k : Wr w2 (Grow (Grow F w w1) w1 w2) base g most zs) : Wr w2 (Grow F w w2) base g most zs := by
  have hb := h.base_le
  have s1 := hT.size
  have s2 := hT2.size
  refine k.mono (fun i hi => ?_) (fun i hi => ?_)
  · rcases hi with (hi | hi) | hi
    · exact .inl hi
    · exact .inr ⟨hi.1, by omega⟩
    · exact .inr ⟨by omega, hi.2⟩
  · rcases hi with hi | hi
    · have := h.lt i hi; omega
    · omega
theorem Wr.from_ {zs : List Int} (h : Wr w F base g most xs) (hb : Below w.heap.size w w1) (k : Wr w2 (Grow F w1 w2) base g most zs) (hT : Turned F w1 w2) : Wr w2 (Grow F w w2) base g most zs ∧ Turned F w w2 := by
  have hbl := h.base_le
  have s1 := hb.size
  have s2 := hT.size
  refine ⟨k.mono (fun i hi => hi.elim .inl fun hi => .inr ⟨by omega, hi.2⟩) (fun i hi => ?_), (Turned.of_below hb).trans hT fun i _ h => h⟩
  rcases hi with hi | hi
  · have := h.lt i hi; omega
  · omega
end

theorem code_ok (n : Nat) (len most : Int) (h1 : 1 ≤ n) (h8 : n ≤ 8) (hr : len + n ≤ most) : putCode n true len most = 0 := by
  unfold putCode
  rw [if_neg (by simp; omega), if_neg (by omega)]
theorem new_ok (n : Nat) (x most : Int) (xs : List Int) (h1 : 1 ≤ n) (h8 : n ≤ 8) (hr : (xs.length : Int) + n ≤ most) : putNew n x true most xs = xs ++ beN n x := by
  unfold putNew
  rw [code_ok n _ _ h1 h8 hr, if_pos rfl, Int.toNat_natCast]
section
variable (F : Nat → Prop) (base g : Nat) (most : Int) (xs : List Int) (n : Nat) (x : Int) (w : World)
theorem wuint_ok (hW : Wr w F base g most xs) (h1 : 1 ≤ n) (h8 : n ≤ 8) (hx0 : 0 ≤ x) (hx : x < 256 ^ n) (hr : (xs.length : Int) + n ≤ most) :
    Calls Try.prog 21 #[.pointer (some ⟨g, 0, none⟩), .int .i64 n, .int .u64 x] w (WPost w F base g most 0 (xs ++ beN n x)) := by
  have := wuint_any F base g most xs n x w hW
  rwa [fitsU_of n x hx0 hx, code_ok n _ _ h1 h8 hr, new_ok n x most xs h1 h8 hr] at this
theorem fitsI_8 : fitsI 8 x = true := by unfold fitsI; simp
theorem wint_ok (hW : Wr w F base g most xs) (hr : (xs.length : Int) + 8 ≤ most) :
    Calls Try.prog 36 #[.pointer (some ⟨g, 0, none⟩), .int .i64 8, .int .i64 x] w (WPost w F base g most 0 (xs ++ beN 8 x)) := by
  have := wint_any F base g most xs 8 x w hW
  rw [fitsI_8] at this
  have e1 := code_ok 8 (xs.length : Int) most (by decide) (by decide) hr
  have e2 := new_ok 8 x most xs (by decide) (by decide) hr
  have c8 : ((8 : Nat) : Int) = 8 := rfl
  rw [c8] at e1 e2
  rwa [e1, e2] at this
end

set_option maxRecDepth 100000 in
set_option maxHeartbeats 2000000 in
theorem put_any (F : Nat → Prop) (base g : Nat) (most : Int) (xs : List Int) (e : Ent) (w : World) (hW : Wr w F base g most xs) (ho : e.ok) (hi : e.In) (hr : (xs.length : Int) + 14 ≤ most) :
    Calls Try.prog 22 #[.pointer (some ⟨g, 0, none⟩), e.val] w fun x w' => x = .returned (.tuple #[]) ∧ Wr w' (Grow F w w') base g most (xs ++ encE e) ∧ Turned F w w' := by
  obtain ⟨o0, o1, oo⟩ := ho
  have ow : 0 ≤ e.what ∧ e.what ≤ 2 ∧ 0 ≤ e.a ∧ e.a < 16 := by omega
  obtain ⟨o2, o3, o4, o5⟩ := ow
  clear oo
  have hb0 : Below w.heap.size w (w.alloc (.cells #[.int .i64 e.view, .int .i64 e.what, .int .i64 e.a, .int .i64 e.n] 42)) := (Below.refl _ _).alloc (Nat.le_refl _) _
  have hbx : EntAt (w.alloc (.cells #[.int .i64 e.view, .int .i64 e.what, .int .i64 e.a, .int .i64 e.n] 42)) ⟨w.heap.size, 0, none⟩ e := by
    have h := Blk.new w 42 #[.int .i64 e.view, .int .i64 e.what, .int .i64 e.a, .int .i64 e.n]
    exact ⟨h.cell 0, h.cell 1, h.cell 2, h.cell 3⟩
  have hlw : w.heap.size < (w.alloc (.cells #[.int .i64 e.view, .int .i64 e.what, .int .i64 e.a, .int .i64 e.n] 42)).heap.size := by simp
  have hWa := hW.below hb0
  have hnF : ¬ F w.heap.size := fun h => by have := (hW.lt _ h).2; omega
  unfold Ent.val
  go_enter Try.func22, Try.ntmps22
  go_wp2_with fail
  generalize w.alloc (.cells #[.int .i64 e.view, .int .i64 e.what, .int .i64 e.a, .int .i64 e.n] 42) = W at *
  refine (wuint_ok F base g most xs 4 e.view W hWa (by decide) (by decide) o0 (by omega) (by omega)).mono ?_
  rintro _ w1 ⟨rfl, hW1, hT1⟩
  have s1 := hT1.size
  have hb1 := hbx.turned hT1 hnF hlw
  have hn1 : ¬ Grow F W w1 w.heap.size := fun h => h.elim hnF fun h => by omega
  obtain ⟨a0, a1, a2, a3⟩ := hb1
  have hb1 : EntAt w1 ⟨w.heap.size, 0, none⟩ e := ⟨a0, a1, a2, a3⟩
  go_wp2_with fail
  refine (wuint_ok _ base g most (xs ++ beN 4 e.view) 1 e.what w1 hW1 (by decide) (by decide) o2 (by omega) (by rw [List.length_append, beN_length]; omega)).mono ?_
  rintro _ w2 ⟨rfl, hW2, hT2⟩
  have s2 := hT2.size
  have hb2 := hb1.turned hT2 hn1 (show w.heap.size < w1.heap.size by omega)
  replace hW2 := hWa.next (ys := []) hT1 hT2 hW2
  have hT12 := hT1.next hT2
  clear hW1 hT2 hT1 hb1 a0 a1 a2 a3 hn1
  obtain ⟨a0, a1, a2, a3⟩ := hb2
  have hb2 : EntAt w2 ⟨w.heap.size, 0, none⟩ e := ⟨a0, a1, a2, a3⟩
  have hn2 : ¬ Grow F W w2 w.heap.size := fun h => h.elim hnF fun h => by omega
  go_wp2_with fail
  refine (wuint_ok _ base g most ((xs ++ beN 4 e.view) ++ beN 1 e.what) 1 e.a w2 hW2 (by decide) (by decide) o4 (by omega) (by rw [List.length_append, List.length_append, beN_length, beN_length]; omega)).mono ?_
  rintro _ w3 ⟨rfl, hW3, hT3⟩
  have s3 := hT3.size
  have hb3 := hb2.turned hT3 hn2 (show w.heap.size < w2.heap.size by omega)
  replace hW3 := hWa.next (ys := []) hT12 hT3 hW3
  have hT13 := hT12.next hT3
  clear hW2 hT3 hT12 hb2 a0 a1 a2 a3 hn2
  obtain ⟨a0, a1, a2, a3⟩ := hb3
  go_wp2_with fail
  refine (wint_ok _ base g most (((xs ++ beN 4 e.view) ++ beN 1 e.what) ++ beN 1 e.a) e.n w3 hW3 (by rw [List.length_append, List.length_append, List.length_append, beN_length, beN_length, beN_length]; omega)).mono ?_
  rintro _ w4 ⟨rfl, hW4, hT4⟩
  replace hW4 := hWa.next (ys := []) hT13 hT4 hW4
  have hT14 := hT13.next hT4
  go_wp2_with fail
  go_end0
  refine ⟨rfl, ?_⟩
  rw [show xs ++ encE e = (((xs ++ beN 4 e.view) ++ beN 1 e.what) ++ beN 1 e.a) ++ beN 8 e.n from by simp [encE]]
  exact hW.from_ hb0 hW4 hT14

/-- An entry's bytes, if it may be. -/
def encO (e : Ent) : List Int := if e.ok then encE e else []
end Go.Proofs.Ytdilccihhelilaa
