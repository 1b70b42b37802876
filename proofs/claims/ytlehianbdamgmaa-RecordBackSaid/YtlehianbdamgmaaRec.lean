/- An entry's bytes: record.put, record.Encode and the reference's. -/
import Derived.Test.YtlehianbdamgmaaEntL
import Derived.Test.YtlehianbdamgmaaWMake
namespace Go.Proofs.Ytlehianbdamgmaa
open Go.RowKit
set_option linter.unusedVariables false

/-- An entry's bytes. -/
def encE (e : Ent) : List Int := beN 4 e.view ++ (beN 1 e.what ++ (beN 1 e.a ++ beN 8 e.n))
theorem encE_length (e : Ent) : (encE e).length = 14 := by simp [encE, beN_length]
theorem encE_bytes (e : Ent) : Bytes (encE e) := (beN_bytes _ _).append ((beN_bytes _ _).append ((beN_bytes _ _).append (beN_bytes _ _)))

theorem cell_turned {F : Nat → Prop} {w w' : World} {p : Addr} (h : Turned F w w') (hF : ¬ F p.block) (hl : p.block < w.heap.size) : w'.cell? p = w.cell? p := World.cell?_of_block (h.block _ hl hF)
theorem EntAt.turned {F : Nat → Prop} {w w' : World} {ad : Addr} {e : Ent} (h : EntAt w ad e) (k : Turned F w w') (hF : ¬ F ad.block) (hl : ad.block < w.heap.size) : EntAt w' ad e :=
  ⟨(cell_turned k hF hl).trans h.c0, (cell_turned (p := ⟨_, _, none⟩) k hF hl).trans h.c1, (cell_turned (p := ⟨_, _, none⟩) k hF hl).trans h.c2, (cell_turned (p := ⟨_, _, none⟩) k hF hl).trans h.c3⟩

section
variable {F : Nat → Prop} {base g : Nat} {most : Int} {xs : List Int} {w w1 w2 : World}
theorem Wr.mono {G : Nat → Prop} (h : Wr w F base g most xs) (hFG : ∀ k, F k → G k) (hG : ∀ k, G k → base ≤ k ∧ k < w.heap.size) : Wr w G base g most xs := by
  obtain ⟨A, c, hB, hO, hlm, hm, hbg, hFg, hFv, hFw⟩ := h
  exact ⟨A, c, hB, hO, hlm, hm, hbg, hFG g hFg, fun k hk => hFG k (hFv k hk), hG⟩
theorem RWr.mono {G : Nat → Prop} (h : RWr w F base g most xs) (hFG : ∀ k, F k → G k) (hG : ∀ k, G k → base ≤ k ∧ k < w.heap.size) : RWr w G base g most xs := by
  obtain ⟨A, c, hB, hO, hlm, hm, hbg, hFg, hFv, hFw⟩ := h
  exact ⟨A, c, hB, hO, hlm, hm, hbg, hFG g hFg, fun k hk => hFG k (hFv k hk), hG⟩
theorem Wr.base_le (h : Wr w F base g most xs) : base ≤ w.heap.size := by
  obtain ⟨A, c, hB, hO, hlm, hm, hbg, hFg, hFv, hFw⟩ := h
  have := hFw g hFg
  omega
theorem RWr.base_le (h : RWr w F base g most xs) : base ≤ w.heap.size := by
  obtain ⟨A, c, hB, hO, hlm, hm, hbg, hFg, hFv, hFw⟩ := h
  have := hFw g hFg
  omega
/-- The writer behind a second call, told from the first. -/
theorem Wr.next {ys zs : List Int} (h : Wr w F base g most xs) (hT : Turned F w w1) (hT2 : Turned (Grow F w w1) w1 w2) (k : Wr w2 (Grow (Grow F w w1) w1 w2) base g most zs) : Wr w2 (Grow F w w2) base g most zs := by
  have hb := h.base_le
  have s1 := hT.size
  have s2 := hT2.size
  refine k.mono (fun i hi => ?_) (fun i hi => ?_)
  · rcases hi with (hi | hi) | hi
    · exact .inl hi
    · exact .inr ⟨hi.1, by omega⟩
    · exact .inr ⟨by omega, hi.2⟩
  · rcases hi with hi | hi
    · have := h.lt i hi; omega
    · omega
theorem RWr.next {ys zs : List Int} (h : RWr w F base g most xs) (hT : Turned F w w1) (hT2 : Turned (Grow F w w1) w1 w2) (k : RWr w2 (Grow (Grow F w w1) w1 w2) base g most zs) : RWr w2 (Grow F w w2) base g most zs := by
  have hb := h.base_le
  have s1 := hT.size
  have s2 := hT2.size
  refine k.mono (fun i hi => ?_) (fun i hi => ?_)
  · rcases hi with (hi | hi) | hi
    · exact .inl hi
    · exact .inr ⟨hi.1, by omega⟩
    · exact .inr ⟨by omega, hi.2⟩
  · rcases hi with hi | hi
    · have := h.lt i hi; omega
    · omega
theorem Wr.from_ {zs : List Int} (h : Wr w F base g most xs) (hb : Below w.heap.size w w1) (k : Wr w2 (Grow F w1 w2) base g most zs) (hT : Turned F w1 w2) : Wr w2 (Grow F w w2) base g most zs ∧ Turned F w w2 := by
  have hbl := h.base_le
  have s1 := hb.size
  have s2 := hT.size
  refine ⟨k.mono (fun i hi => hi.elim .inl fun hi => .inr ⟨by omega, hi.2⟩) (fun i hi => ?_), (Turned.of_below hb).trans hT fun i _ h => h⟩
  rcases hi with hi | hi
  · have := h.lt i hi; omega
  · omega
theorem RWr.from_ {zs : List Int} (h : RWr w F base g most xs) (hb : Below w.heap.size w w1) (k : RWr w2 (Grow F w1 w2) base g most zs) (hT : Turned F w1 w2) : RWr w2 (Grow F w w2) base g most zs ∧ Turned F w w2 := by
  have hbl := h.base_le
  have s1 := hb.size
  have s2 := hT.size
  refine ⟨k.mono (fun i hi => hi.elim .inl fun hi => .inr ⟨by omega, hi.2⟩) (fun i hi => ?_), (Turned.of_below hb).trans hT fun i _ h => h⟩
  rcases hi with hi | hi
  · have := h.lt i hi; omega
  · omega
end

theorem code_ok (n : Nat) (len most : Int) (h1 : 1 ≤ n) (h8 : n ≤ 8) (hr : len + n ≤ most) : putCode n true len most = 0 := by
  unfold putCode
  rw [if_neg (by simp; omega), if_neg (by omega)]
theorem new_ok (n : Nat) (x most : Int) (xs : List Int) (h1 : 1 ≤ n) (h8 : n ≤ 8) (hr : (xs.length : Int) + n ≤ most) : putNew n x true most xs = xs ++ beN n x := by
  unfold putNew
  rw [code_ok n _ _ h1 h8 hr, if_pos rfl, Int.toNat_natCast]
section
variable (F : Nat → Prop) (base g : Nat) (most : Int) (xs : List Int) (n : Nat) (x : Int) (w : World)
theorem wuint_ok (hW : Wr w F base g most xs) (h1 : 1 ≤ n) (h8 : n ≤ 8) (hx0 : 0 ≤ x) (hx : x < 256 ^ n) (hr : (xs.length : Int) + n ≤ most) :
    Calls Try.prog 57 #[.pointer (some ⟨g, 0, none⟩), .int .i64 n, .int .u64 x] w (WPost w F base g most 0 (xs ++ beN n x)) := by
  have := wuint_any F base g most xs n x w hW
  rwa [fitsU_of n x hx0 hx, code_ok n _ _ h1 h8 hr, new_ok n x most xs h1 h8 hr] at this
theorem ruint_ok (hW : RWr w F base g most xs) (h1 : 1 ≤ n) (h8 : n ≤ 8) (hx0 : 0 ≤ x) (hx : x < 256 ^ n) (hr : (xs.length : Int) + n ≤ most) :
    Calls Try.prog 60 #[.pointer (some ⟨g, 0, none⟩), .int .i64 n, .int .u64 x] w (RWPost w F base g most 0 (xs ++ beN n x)) := by
  have := ruint_any F base g most xs n x w hW
  rwa [fitsU_of n x hx0 hx, code_ok n _ _ h1 h8 hr, new_ok n x most xs h1 h8 hr] at this
theorem fitsI_8 : fitsI 8 x = true := by unfold fitsI; simp
theorem wint_ok (hW : Wr w F base g most xs) (hr : (xs.length : Int) + 8 ≤ most) :
    Calls Try.prog 69 #[.pointer (some ⟨g, 0, none⟩), .int .i64 8, .int .i64 x] w (WPost w F base g most 0 (xs ++ beN 8 x)) := by
  have := wint_any F base g most xs 8 x w hW
  rw [fitsI_8] at this
  have e1 := code_ok 8 (xs.length : Int) most (by decide) (by decide) hr
  have e2 := new_ok 8 x most xs (by decide) (by decide) hr
  have c8 : ((8 : Nat) : Int) = 8 := rfl
  rw [c8] at e1 e2
  rwa [e1, e2] at this
theorem rint_ok (hW : RWr w F base g most xs) (hx : in64 x) (hr : (xs.length : Int) + 8 ≤ most) :
    Calls Try.prog 71 #[.pointer (some ⟨g, 0, none⟩), .int .i64 8, .int .i64 x] w (RWPost w F base g most 0 (xs ++ beN 8 x)) := by
  have := rwint_any F base g most xs 8 x w hW hx.1 hx.2
  rw [fitsI_8] at this
  have e1 := code_ok 8 (xs.length : Int) most (by decide) (by decide) hr
  have e2 := new_ok 8 x most xs (by decide) (by decide) hr
  have c8 : ((8 : Nat) : Int) = 8 := rfl
  rw [c8] at e1 e2
  rwa [e1, e2] at this
end

set_option maxRecDepth 100000 in
set_option maxHeartbeats 2000000 in
theorem put_any (F : Nat → Prop) (base g : Nat) (most : Int) (xs : List Int) (e : Ent) (w : World) (hW : Wr w F base g most xs) (ho : e.ok) (hi : e.In) (hr : (xs.length : Int) + 14 ≤ most) :
    Calls Try.prog 51 #[.pointer (some ⟨g, 0, none⟩), e.val] w fun x w' => x = .returned (.tuple #[]) ∧ Wr w' (Grow F w w') base g most (xs ++ encE e) ∧ Turned F w w' := by
  obtain ⟨o0, o1, oo⟩ := ho
  have ow : 0 ≤ e.what ∧ e.what ≤ 2 ∧ 0 ≤ e.a ∧ e.a < 16 := by omega
  obtain ⟨o2, o3, o4, o5⟩ := ow
  clear oo
  have hb0 : Below w.heap.size w (w.alloc (.cells #[.int .i64 e.view, .int .i64 e.what, .int .i64 e.a, .int .i64 e.n] 33)) := (Below.refl _ _).alloc (Nat.le_refl _) _
  have hbx : EntAt (w.alloc (.cells #[.int .i64 e.view, .int .i64 e.what, .int .i64 e.a, .int .i64 e.n] 33)) ⟨w.heap.size, 0, none⟩ e := by
    have h := Blk.new w 33 #[.int .i64 e.view, .int .i64 e.what, .int .i64 e.a, .int .i64 e.n]
    exact ⟨h.cell 0, h.cell 1, h.cell 2, h.cell 3⟩
  have hlw : w.heap.size < (w.alloc (.cells #[.int .i64 e.view, .int .i64 e.what, .int .i64 e.a, .int .i64 e.n] 33)).heap.size := by simp
  have hWa := hW.below hb0
  have hnF : ¬ F w.heap.size := fun h => by have := (hW.lt _ h).2; omega
  unfold Ent.val
  go_enter Try.func51, Try.ntmps51
  go_wp2_with fail
  generalize w.alloc (.cells #[.int .i64 e.view, .int .i64 e.what, .int .i64 e.a, .int .i64 e.n] 33) = W at *
  refine (wuint_ok F base g most xs 4 e.view W hWa (by decide) (by decide) o0 (by omega) (by omega)).mono ?_
  rintro _ w1 ⟨rfl, hW1, hT1⟩
  have s1 := hT1.size
  have hb1 := hbx.turned hT1 hnF hlw
  have hn1 : ¬ Grow F W w1 w.heap.size := fun h => h.elim hnF fun h => by omega
  obtain ⟨a0, a1, a2, a3⟩ := hb1
  have hb1 : EntAt w1 ⟨w.heap.size, 0, none⟩ e := ⟨a0, a1, a2, a3⟩
  go_wp2_with fail
  refine (wuint_ok _ base g most (xs ++ beN 4 e.view) 1 e.what w1 hW1 (by decide) (by decide) o2 (by omega) (by rw [List.length_append, beN_length]; omega)).mono ?_
  rintro _ w2 ⟨rfl, hW2, hT2⟩
  have s2 := hT2.size
  have hb2 := hb1.turned hT2 hn1 (show w.heap.size < w1.heap.size by omega)
  replace hW2 := hWa.next (ys := []) hT1 hT2 hW2
  have hT12 := hT1.next hT2
  clear hW1 hT2 hT1 hb1 a0 a1 a2 a3 hn1
  obtain ⟨a0, a1, a2, a3⟩ := hb2
  have hb2 : EntAt w2 ⟨w.heap.size, 0, none⟩ e := ⟨a0, a1, a2, a3⟩
  have hn2 : ¬ Grow F W w2 w.heap.size := fun h => h.elim hnF fun h => by omega
  go_wp2_with fail
  refine (wuint_ok _ base g most ((xs ++ beN 4 e.view) ++ beN 1 e.what) 1 e.a w2 hW2 (by decide) (by decide) o4 (by omega) (by rw [List.length_append, List.length_append, beN_length, beN_length]; omega)).mono ?_
  rintro _ w3 ⟨rfl, hW3, hT3⟩
  have s3 := hT3.size
  have hb3 := hb2.turned hT3 hn2 (show w.heap.size < w2.heap.size by omega)
  replace hW3 := hWa.next (ys := []) hT12 hT3 hW3
  have hT13 := hT12.next hT3
  clear hW2 hT3 hT12 hb2 a0 a1 a2 a3 hn2
  obtain ⟨a0, a1, a2, a3⟩ := hb3
  go_wp2_with fail
  refine (wint_ok _ base g most (((xs ++ beN 4 e.view) ++ beN 1 e.what) ++ beN 1 e.a) e.n w3 hW3 (by rw [List.length_append, List.length_append, List.length_append, beN_length, beN_length, beN_length]; omega)).mono ?_
  rintro _ w4 ⟨rfl, hW4, hT4⟩
  replace hW4 := hWa.next (ys := []) hT13 hT4 hW4
  have hT14 := hT13.next hT4
  go_wp2_with fail
  go_end0
  refine ⟨rfl, ?_⟩
  rw [show xs ++ encE e = (((xs ++ beN 4 e.view) ++ beN 1 e.what) ++ beN 1 e.a) ++ beN 8 e.n from by simp [encE]]
  exact hW.from_ hb0 hW4 hT14

/-- An entry's bytes, if it may be. -/
def encO (e : Ent) : List Int := if e.ok then encE e else []
/-- What Encode comes to. -/
def EPost (w : World) (e : Ent) (x : Ending) (w' : World) : Prop :=
  ∃ A c, x = .returned (.tuple #[.slice A (encO e).length c, .int .i64 e.err]) ∧ ReadsB w' w'.heap.size A (encO e) ∧ (encO e).length ≤ c ∧ c ≤ maxLen ∧ Below w.heap.size w w'

set_option maxRecDepth 100000 in
set_option maxHeartbeats 2000000 in
theorem encode_any (e : Ent) (w : World) (hi : e.In) : Calls Try.prog 23 #[e.val] w (EPost w e) := by
  have hb0 : Below w.heap.size w (w.alloc (.cells #[.int .i64 e.view, .int .i64 e.what, .int .i64 e.a, .int .i64 e.n] 33)) := (Below.refl _ _).alloc (Nat.le_refl _) _
  have hbx : EntAt (w.alloc (.cells #[.int .i64 e.view, .int .i64 e.what, .int .i64 e.a, .int .i64 e.n] 33)) ⟨w.heap.size, 0, none⟩ e := by
    have h := Blk.new w 33 #[.int .i64 e.view, .int .i64 e.what, .int .i64 e.a, .int .i64 e.n]
    exact ⟨h.cell 0, h.cell 1, h.cell 2, h.cell 3⟩
  have hlw : w.heap.size < (w.alloc (.cells #[.int .i64 e.view, .int .i64 e.what, .int .i64 e.a, .int .i64 e.n] 33)).heap.size := by simp
  have hc := fun w => Lib.hid (check_any e w hi)
  by_cases hok : e.ok
  · have hx : encO e = encE e := if_pos hok
    have hl := encE_length e
    unfold EPost
    rw [hx, hl, Ent.err_yes hok]
    simp only [Ent.err_yes hok] at hc
    have hp := fun (F : Nat → Prop) base g w (hW : Wr w F base g 14 []) => Lib.hid (put_any F base g 14 [] e w hW hok hi (by decide))
    clear hok hx hi
    unfold Ent.val at *
    replace hl := Lib.hid hl
    go_enter Try.func23, Try.ntmps23
    go_wp2_with fail
    refine (hc _).out.mono ?_
    rintro _ w1 ⟨rfl, hb1⟩
    generalize w.alloc (.cells #[.int .i64 e.view, .int .i64 e.what, .int .i64 e.a, .int .i64 e.n] 33) = W at *
    have hbx1 := hbx.keep hb1 hlw
    have s1 := hb1.size
    go_wp2_with fail
    refine (newW_ok 14 _ (by decide) (by decide)).mono ?_
    rintro _ w2 ⟨rfl, hW2, hb2⟩
    have hbx2 := hbx1.keep hb2 (show w.heap.size < w1.heap.size by omega)
    have s2 := hb2.size
    obtain ⟨a0, a1, a2, a3⟩ := hbx2
    go_wp2_with fail
    refine (hp _ _ _ _ hW2).out.mono ?_
    rintro _ w3 ⟨rfl, hW3, hT3⟩
    go_wp2_with fail
    refine (out_any _ _ _ _ _ _ hW3).mono ?_
    rintro _ w4 ⟨A, c, rfl, hO, hb4⟩
    rw [List.nil_append, hl.out] at hO
    have hq := hO.reads
    have hq2 := hO.cap
    rw [List.nil_append] at hW3
    go_wp2_with fail
    go_ret2
    refine ⟨A, c, by rw [hl.out]; rfl, hq, by rw [← hl.out]; exact hq2.1, hq2.2, ?_⟩
    exact (hb0.trans (hb1.mono hb0.size)).trans (((hb2.trans ((hT3.below hb2.size fun k hk => hk.1))).trans (hb4.mono (by have := hT3.size; omega))).mono (by have := hb0.size; omega))
  · have hx : encO e = [] := if_neg hok
    unfold EPost
    rw [hx, Ent.err_no hok]
    simp only [Ent.err_no hok] at hc
    clear hok hx hi
    unfold Ent.val at *
    go_enter Try.func23, Try.ntmps23
    go_wp2_with fail
    refine (hc _).out.mono ?_
    rintro _ w1 ⟨rfl, hb1⟩
    go_wp2_with fail
    go_ret2
    exact ⟨none, 0, rfl, ReadsB.nil_ _ _, Nat.le_refl _, by unfold maxLen; omega, hb0.trans (hb1.mono hb0.size)⟩

theorem RWr.text {w : World} {F : Nat → Prop} {base g : Nat} {most : Int} {xs : List Int} (h : RWr w F base g most xs) : ∃ A c, w.cell? ⟨g, 0, none⟩ = some (.slice A xs.length c) ∧ ReadsB w w.heap.size A xs ∧ xs.length ≤ c ∧ c ≤ maxLen := by
  obtain ⟨A, c, hB, hO, _⟩ := h
  exact ⟨A, c, hB.cell 0, hO.reads, hO.cap.1, hO.cap.2⟩
/-- What the reference's put comes to. -/
def RPut (w : World) (e : Ent) (x : Ending) (w' : World) : Prop := ∃ A c, x = .returned (.slice A 14 c) ∧ ReadsB w' w'.heap.size A (encE e) ∧ 14 ≤ c ∧ c ≤ maxLen ∧ Below w.heap.size w w'

set_option maxRecDepth 100000 in
set_option maxHeartbeats 2000000 in
theorem rput_any (e : Ent) (w : World) (ho : e.ok) (hi : e.In) : Calls Try.prog 53 #[e.val] w (RPut w e) := by
  obtain ⟨o0, o1, oo⟩ := ho
  have ow : 0 ≤ e.what ∧ e.what ≤ 2 ∧ 0 ≤ e.a ∧ e.a < 16 := by omega
  obtain ⟨o2, o3, o4, o5⟩ := ow
  have hin := hi.n
  clear oo hi
  have hb0 : Below w.heap.size w (w.alloc (.cells #[.int .i64 e.view, .int .i64 e.what, .int .i64 e.a, .int .i64 e.n] 33)) := (Below.refl _ _).alloc (Nat.le_refl _) _
  have hbx : EntAt (w.alloc (.cells #[.int .i64 e.view, .int .i64 e.what, .int .i64 e.a, .int .i64 e.n] 33)) ⟨w.heap.size, 0, none⟩ e := by
    have h := Blk.new w 33 #[.int .i64 e.view, .int .i64 e.what, .int .i64 e.a, .int .i64 e.n]
    exact ⟨h.cell 0, h.cell 1, h.cell 2, h.cell 3⟩
  have hlw : w.heap.size < (w.alloc (.cells #[.int .i64 e.view, .int .i64 e.what, .int .i64 e.a, .int .i64 e.n] 33)).heap.size := by simp
  unfold Ent.val
  go_enter Try.func53, Try.ntmps53
  go_wp2_with fail
  generalize w.alloc (.cells #[.int .i64 e.view, .int .i64 e.what, .int .i64 e.a, .int .i64 e.n] 33) = W0 at *
  refine (rnewW_ok 14 _ (by decide) (by decide)).mono ?_
  rintro _ W ⟨rfl, hWa, hbW⟩
  have hbxW := hbx.keep hbW hlw
  have sW := hbW.size
  have hb0W := hb0.trans (hbW.mono (by omega))
  have hlwW : w.heap.size < W.heap.size := by omega
  have hnF : ¬ Made W0 W w.heap.size := fun h => by have := h.1; omega
  have hlw0 : ∀ k, Made W0 W k → w.heap.size ≤ k := fun k hk => by have := hk.1; omega
  generalize W0.heap.size = g at *
  clear hbx hlw hbW hb0
  obtain ⟨a0, a1, a2, a3⟩ := hbxW
  have hbxW : EntAt W ⟨w.heap.size, 0, none⟩ e := ⟨a0, a1, a2, a3⟩
  go_wp2_with fail
  refine (ruint_ok _ _ g 14 [] 4 e.view W hWa (by decide) (by decide) o0 (by omega) (by decide)).mono ?_
  rintro _ w1 ⟨rfl, hW1, hT1⟩
  have s1 := hT1.size
  have hb1 := hbxW.turned hT1 hnF hlwW
  have hn1 : ¬ Grow (Made W0 W) W w1 w.heap.size := fun h => h.elim hnF fun h => by omega
  clear a0 a1 a2 a3 hbxW
  obtain ⟨a0, a1, a2, a3⟩ := hb1
  have hb1 : EntAt w1 ⟨w.heap.size, 0, none⟩ e := ⟨a0, a1, a2, a3⟩
  go_wp2_with fail
  refine (ruint_ok _ _ g 14 ([] ++ beN 4 e.view) 1 e.what w1 hW1 (by decide) (by decide) o2 (by omega) (by rw [List.length_append, beN_length]; decide)).mono ?_
  rintro _ w2 ⟨rfl, hW2, hT2⟩
  have s2 := hT2.size
  have hb2 := hb1.turned hT2 hn1 (show w.heap.size < w1.heap.size by omega)
  replace hW2 := hWa.next (ys := []) hT1 hT2 hW2
  have hT12 := hT1.next hT2
  clear hW1 hT2 hT1 hb1 a0 a1 a2 a3 hn1
  obtain ⟨a0, a1, a2, a3⟩ := hb2
  have hb2 : EntAt w2 ⟨w.heap.size, 0, none⟩ e := ⟨a0, a1, a2, a3⟩
  have hn2 : ¬ Grow (Made W0 W) W w2 w.heap.size := fun h => h.elim hnF fun h => by omega
  go_wp2_with fail
  refine (ruint_ok _ _ g 14 (([] ++ beN 4 e.view) ++ beN 1 e.what) 1 e.a w2 hW2 (by decide) (by decide) o4 (by omega) (by rw [List.length_append, List.length_append, beN_length, beN_length]; decide)).mono ?_
  rintro _ w3 ⟨rfl, hW3, hT3⟩
  have s3 := hT3.size
  have hb3 := hb2.turned hT3 hn2 (show w.heap.size < w2.heap.size by omega)
  replace hW3 := hWa.next (ys := []) hT12 hT3 hW3
  have hT13 := hT12.next hT3
  clear hW2 hT3 hT12 hb2 a0 a1 a2 a3 hn2
  obtain ⟨a0, a1, a2, a3⟩ := hb3
  go_wp2_with fail
  refine (rint_ok _ _ g 14 ((([] ++ beN 4 e.view) ++ beN 1 e.what) ++ beN 1 e.a) e.n w3 hW3 hin (by rw [List.length_append, List.length_append, List.length_append, beN_length, beN_length, beN_length]; decide)).mono ?_
  rintro _ w4 ⟨rfl, hW4, hT4⟩
  replace hW4 := hWa.next (ys := []) hT13 hT4 hW4
  have hT14 := hT13.next hT4
  rw [show (((([] ++ beN 4 e.view) ++ beN 1 e.what) ++ beN 1 e.a) ++ beN 8 e.n) = encE e from by simp [encE]] at hW4
  obtain ⟨A, c, t0, t1, t2, t3⟩ := hW4.text
  rw [encE_length] at t0 t2
  clear a0 a1 a2 a3
  go_wp2_with fail
  go_ret
  refine ⟨A, c, rfl, t1, t2, t3, hb0W.trans (hT14.below (by omega) hlw0)⟩

set_option maxRecDepth 100000 in
set_option maxHeartbeats 2000000 in
theorem rencode_any (e : Ent) (w : World) (hi : e.In) : Calls Try.prog 24 #[e.val] w (EPost w e) := by
  have hb0 : Below w.heap.size w (w.alloc (.cells #[.int .i64 e.view, .int .i64 e.what, .int .i64 e.a, .int .i64 e.n] 33)) := (Below.refl _ _).alloc (Nat.le_refl _) _
  have hbx : EntAt (w.alloc (.cells #[.int .i64 e.view, .int .i64 e.what, .int .i64 e.a, .int .i64 e.n] 33)) ⟨w.heap.size, 0, none⟩ e := by
    have h := Blk.new w 33 #[.int .i64 e.view, .int .i64 e.what, .int .i64 e.a, .int .i64 e.n]
    exact ⟨h.cell 0, h.cell 1, h.cell 2, h.cell 3⟩
  have hlw : w.heap.size < (w.alloc (.cells #[.int .i64 e.view, .int .i64 e.what, .int .i64 e.a, .int .i64 e.n] 33)).heap.size := by simp
  have hc := fun w => Lib.hid (rcheck_any e w)
  by_cases hok : e.ok
  · have hx : encO e = encE e := if_pos hok
    have hl := encE_length e
    unfold EPost
    rw [hx, hl, Ent.err_yes hok]
    simp only [Ent.err_yes hok] at hc
    have hp := fun w => Lib.hid (rput_any e w hok hi)
    clear hok hx hi
    unfold Ent.val at *
    replace hl := Lib.hid hl
    go_enter Try.func24, Try.ntmps24
    go_wp2_with fail
    refine (hc _).out.mono ?_
    rintro _ w1 ⟨rfl, hb1⟩
    generalize w.alloc (.cells #[.int .i64 e.view, .int .i64 e.what, .int .i64 e.a, .int .i64 e.n] 33) = W at *
    have hbx1 := hbx.keep hb1 hlw
    have s1 := hb1.size
    obtain ⟨a0, a1, a2, a3⟩ := hbx1
    go_wp2_with fail
    refine (hp _).out.mono ?_
    rintro _ w3 ⟨A, c, rfl, hq, hq1, hq2, hb3⟩
    go_wp2_with fail
    go_ret2
    refine ⟨A, c, rfl, hq, hq1, hq2, ?_⟩
    exact (hb0.trans (hb1.mono hb0.size)).trans (hb3.mono (by have := hb0.size; omega))
  · have hx : encO e = [] := if_neg hok
    unfold EPost
    rw [hx, Ent.err_no hok]
    simp only [Ent.err_no hok] at hc
    clear hok hx hi
    unfold Ent.val at *
    go_enter Try.func24, Try.ntmps24
    go_wp2_with fail
    refine (hc _).out.mono ?_
    rintro _ w1 ⟨rfl, hb1⟩
    go_wp2_with fail
    go_ret2
    exact ⟨none, 0, rfl, ReadsB.nil_ _ _, Nat.le_refl _, by unfold maxLen; omega, hb0.trans (hb1.mono hb0.size)⟩

set_option maxRecDepth 100000 in
theorem awake18 (w : World) : Calls Try.prog 26 #[] w fun e w' => e = .returned (.bool true) ∧ Below w.heap.size w w' := by
  have hi : (⟨0, 0, 0, 1⟩ : Ent).In := ⟨by constructor <;> decide, by constructor <;> decide, by constructor <;> decide, by constructor <;> decide⟩
  have ho : (⟨0, 0, 0, 1⟩ : Ent).ok := by decide
  have ha := fun w => Lib.hid (encode_any ⟨0, 0, 0, 1⟩ w hi)
  unfold EPost at ha
  rw [show encO ⟨0, 0, 0, 1⟩ = encE ⟨0, 0, 0, 1⟩ from if_pos ho, encE_length, Ent.err_yes ho] at ha
  unfold Ent.val at ha
  go_enter Try.func26, Try.ntmps26
  go_wp2_with fail
  refine (ha _).out.mono ?_
  rintro _ w1 ⟨A, c, rfl, hq, hq1, hq2, hb1⟩
  go_wp2_with fail
  go_ret
  exact ⟨rfl, hb1⟩
end Go.Proofs.Ytlehianbdamgmaa
