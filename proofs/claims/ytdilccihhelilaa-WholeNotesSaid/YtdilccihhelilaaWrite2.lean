/- The writer's methods, each for every input. -/
import Derived.Test.YtdilccihhelilaaWrite
namespace Go.Proofs.Ytdilccihhelilaa
open Go.RowKit
set_option linter.unusedVariables false

/-- What a number's writing answers, by its count, whether it fits, and the room. -/
def putCode (n : Int) (fits : Bool) (len most : Int) : Int := if n < 1 ∨ 8 < n ∨ fits = false then 1 else if most < len + n then 2 else 0
def putNew (n x : Int) (fits : Bool) (most : Int) (xs : List Int) : List Int := if putCode n fits xs.length most = 0 then xs ++ beN n.toNat x else xs
/-- What a writer's call comes to. -/
def WPost (w : World) (F : Nat → Prop) (base g : Nat) (most : Int) (code : Int) (xs' : List Int) (e : Ending) (w' : World) : Prop :=
  e = .returned (.int .i64 code) ∧ Wr w' (Grow F w w') base g most xs' ∧ Turned F w w'

theorem Wr.drewN_ {w : World} {F : Nat → Prop} {base g : Nat} {most : Int} {xs : List Int} (h : Wr w F base g most xs) (m : Nat) :
    Wr (w.drewN m) (Grow F w (w.drewN m)) base g most xs ∧ Turned F w (w.drewN m) := by
  obtain ⟨A, c, hB, hO, hlm, hm, hbg, hFg, hFv, hFw⟩ := h
  refine ⟨⟨A, c, hB, hO, hlm, hm, hbg, .inl hFg, fun k hk => .inl (hFv k hk), fun k hk => ?_⟩, (Turned.refl _ _).drewN _⟩
  rcases hk with h | h
  · exact hFw k h
  · exfalso; simp at h; omega
theorem Wr.same {w : World} {F : Nat → Prop} {base g : Nat} {most : Int} {xs : List Int} (h : Wr w F base g most xs) :
    Wr w (Grow F w w) base g most xs ∧ Turned F w w := by
  obtain ⟨A, c, hB, hO, hlm, hm, hbg, hFg, hFv, hFw⟩ := h
  refine ⟨⟨A, c, hB, hO, hlm, hm, hbg, .inl hFg, fun k hk => .inl (hFv k hk), fun k hk => ?_⟩, Turned.refl _ _⟩
  rcases hk with h | h
  · exact hFw k h
  · exfalso; omega
theorem Wr.made {w : World} {F : Nat → Prop} {base g : Nat} {most : Int} {xs : List Int} (h : Wr w F base g most xs) : w.cell? ⟨g, 2, none⟩ = some (.bool true) := by
  obtain ⟨A, c, hB, _⟩ := h
  exact hB.cell 2

theorem putU_all (F : Nat → Prop) (base g : Nat) (most : Int) (xs : List Int) (n x : Int) (fits : Bool) (w : World) (hW : Wr w F base g most xs) :
    Calls Try.prog 35 #[.pointer (some ⟨g, 0, none⟩), .int .i64 n, .int .u64 x, .bool fits] w
      (WPost w F base g most (putCode n fits xs.length most) (putNew n x fits most xs)) := by
  by_cases hn : n < 1 ∨ 8 < n
  · have e : putCode n fits xs.length most = 1 := by unfold putCode; rw [if_pos (by omega)]
    unfold putNew; rw [e, if_neg (by decide)]
    exact (putU_count g n x fits w hW.made hn).mono fun _ _ ⟨he, hw⟩ => by subst hw; exact ⟨he, hW.same⟩
  · cases fits with
    | false =>
      have e : putCode n false xs.length most = 1 := by unfold putCode; rw [if_pos (by simp)]
      unfold putNew; rw [e, if_neg (by decide)]
      exact (putU_arg g n x false w hW.made rfl).mono fun _ _ ⟨he, hw⟩ => by subst hw; exact ⟨he, hW.same⟩
    | true =>
      by_cases hl : most < (xs.length : Int) + n
      · have e : putCode n true xs.length most = 2 := by unfold putCode; rw [if_neg (by simp; omega), if_pos hl]
        unfold putNew; rw [e, if_neg (by decide)]
        exact (putU_long F base g most xs n x w hW (by omega) (by omega) hl).mono fun _ _ ⟨he, m, hw⟩ => by subst hw; exact ⟨he, hW.drewN_ m⟩
      · have e : putCode n true xs.length most = 0 := by unfold putCode; rw [if_neg (by simp; omega), if_neg hl]
        unfold putNew; rw [e, if_pos rfl]
        obtain ⟨N, rfl⟩ := Int.eq_ofNat_of_zero_le (show 0 ≤ n by omega)
        exact (putU_yes F base g most xs N 0 x w hW (by omega) (by omega) (by omega)).mono fun _ _ ⟨he, h1, h2⟩ => ⟨he, h1, h2⟩

theorem putI_all (F : Nat → Prop) (base g : Nat) (most : Int) (xs : List Int) (n x : Int) (fits : Bool) (w : World) (hW : Wr w F base g most xs) :
    Calls Try.prog 49 #[.pointer (some ⟨g, 0, none⟩), .int .i64 n, .int .i64 x, .bool fits] w
      (WPost w F base g most (putCode n fits xs.length most) (putNew n x fits most xs)) := by
  by_cases hn : n < 1 ∨ 8 < n
  · have e : putCode n fits xs.length most = 1 := by unfold putCode; rw [if_pos (by omega)]
    unfold putNew; rw [e, if_neg (by decide)]
    exact (putI_count g n x fits w hW.made hn).mono fun _ _ ⟨he, hw⟩ => by subst hw; exact ⟨he, hW.same⟩
  · cases fits with
    | false =>
      have e : putCode n false xs.length most = 1 := by unfold putCode; rw [if_pos (by simp)]
      unfold putNew; rw [e, if_neg (by decide)]
      exact (putI_arg g n x false w hW.made rfl).mono fun _ _ ⟨he, hw⟩ => by subst hw; exact ⟨he, hW.same⟩
    | true =>
      by_cases hl : most < (xs.length : Int) + n
      · have e : putCode n true xs.length most = 2 := by unfold putCode; rw [if_neg (by simp; omega), if_pos hl]
        unfold putNew; rw [e, if_neg (by decide)]
        exact (putI_long F base g most xs n x w hW (by omega) (by omega) hl).mono fun _ _ ⟨he, m, hw⟩ => by subst hw; exact ⟨he, hW.drewN_ m⟩
      · have e : putCode n true xs.length most = 0 := by unfold putCode; rw [if_neg (by simp; omega), if_neg hl]
        unfold putNew; rw [e, if_pos rfl]
        obtain ⟨N, rfl⟩ := Int.eq_ofNat_of_zero_le (show 0 ≤ n by omega)
        exact (putI_yes F base g most xs N 0 x w hW (by omega) (by omega) (by omega)).mono fun _ _ ⟨he, h1, h2⟩ => ⟨he, h1, h2⟩

/-- Does a number without a sign fit into so many bytes? -/
def fitsU (n x : Int) : Bool := decide (n < 1) || decide (7 < n) || (x / 256 ^ n.toNat == 0)
/-- Does a number with a sign? -/
def fitsI (n x : Int) : Bool := decide (n < 1) || decide (7 < n) || (x / 2 ^ ((8 * n).toNat - 1) == 0) || (x / 2 ^ ((8 * n).toNat - 1) == -1)

set_option maxRecDepth 100000 in
set_option maxHeartbeats 1000000 in
theorem wuint_any (F : Nat → Prop) (base g : Nat) (most : Int) (xs : List Int) (n x : Int) (w : World) (hW : Wr w F base g most xs) :
    Calls Try.prog 21 #[.pointer (some ⟨g, 0, none⟩), .int .i64 n, .int .u64 x] w
      (WPost w F base g most (putCode n (fitsU n x) xs.length most) (putNew n x (fitsU n x) most xs)) := by
  have hp := fun b => Lib.hid (putU_all F base g most xs n x b w hW)
  clear hW
  by_cases h1 : n < 1
  · have e : fitsU n x = true := by simp [fitsU, h1]
    rw [e]
    go_enter Try.func21, Try.ntmps21
    go_wp2_with fail
    refine (hp true).out.mono ?_
    rintro e w1 ⟨rfl, hq⟩
    go_wp2_with fail
    go_ret
    exact ⟨rfl, hq⟩
  · by_cases h2 : 7 < n
    · have e : fitsU n x = true := by simp [fitsU, h2]
      rw [e]
      go_enter Try.func21, Try.ntmps21
      go_wp2_with fail
      refine (hp true).out.mono ?_
      rintro e w1 ⟨rfl, hq⟩
      go_wp2_with fail
      go_ret
      exact ⟨rfl, hq⟩
    · obtain ⟨N, rfl⟩ := Int.eq_ofNat_of_zero_le (show 0 ≤ n by omega)
      have e : fitsU N x = (x / 256 ^ N == 0) := by simp [fitsU, h1, h2]
      rw [e]
      generalize hb : (x / 256 ^ N == 0) = b
      have hp1 : (8 * (N : Int)).toNat = 8 * N := by omega
      have hp2 := pow256 N
      have h3 : 8 * (N : Int) ≤ 64 := by omega
      go_enter Try.func21, Try.ntmps21
      go_wp2_with fail
      refine (hp b).out.mono ?_
      rintro e w1 ⟨rfl, hq⟩
      go_wp2_with fail
      go_ret
      exact ⟨rfl, hq⟩

set_option maxRecDepth 100000 in
set_option maxHeartbeats 1000000 in
theorem wint_any (F : Nat → Prop) (base g : Nat) (most : Int) (xs : List Int) (n x : Int) (w : World) (hW : Wr w F base g most xs) :
    Calls Try.prog 36 #[.pointer (some ⟨g, 0, none⟩), .int .i64 n, .int .i64 x] w
      (WPost w F base g most (putCode n (fitsI n x) xs.length most) (putNew n x (fitsI n x) most xs)) := by
  have hp := fun b => Lib.hid (putI_all F base g most xs n x b w hW)
  clear hW
  by_cases h1 : n < 1
  · have e : fitsI n x = true := by simp [fitsI, h1]
    rw [e]
    go_enter Try.func36, Try.ntmps36
    go_wp2_with fail
    refine (hp true).out.mono ?_
    rintro e w1 ⟨rfl, hq⟩
    go_wp2_with fail
    go_ret
    exact ⟨rfl, hq⟩
  · by_cases h2 : 7 < n
    · have e : fitsI n x = true := by simp [fitsI, h2]
      rw [e]
      go_enter Try.func36, Try.ntmps36
      go_wp2_with fail
      refine (hp true).out.mono ?_
      rintro e w1 ⟨rfl, hq⟩
      go_wp2_with fail
      go_ret
      exact ⟨rfl, hq⟩
    · have e : fitsI n x = ((x / 2 ^ ((8 * n).toNat - 1) == 0) || (x / 2 ^ ((8 * n).toNat - 1) == -1)) := by simp [fitsI, h1, h2]
      rw [e]
      have h3 : 8 * n - 1 ≤ 64 := by omega
      have h4 : 0 ≤ 8 * n - 1 := by omega
      generalize hy : x / 2 ^ ((8 * n).toNat - 1) = y at *
      generalize hb : (y == 0 || y == -1) = b
      go_enter Try.func36, Try.ntmps36
      go_wp2_with fail
      · have hy0 : y = 0 := by assumption
        have hbt : b = true := by rw [← hb, hy0]; rfl
        replace hbt := Lib.hid hbt
        clear hb e
        refine (hp true).out.mono ?_
        rintro e w1 ⟨rfl, hq⟩
        go_wp2_with fail
        go_ret
        rw [hbt.out]
        exact ⟨rfl, hq⟩
      · refine (hp b).out.mono ?_
        rintro e w1 ⟨rfl, hq⟩
        go_wp2_with fail
        go_ret
        exact ⟨rfl, hq⟩

def bytesCode (m len most : Int) : Int := if most < len + m then 2 else 0
def bytesNew (bs : List Int) (most : Int) (xs : List Int) : List Int := if most < (xs.length : Int) + bs.length then xs else xs ++ bs

set_option maxRecDepth 100000 in
set_option maxHeartbeats 1000000 in
theorem wbytes_any (F : Nat → Prop) (base g : Nat) (most : Int) (xs : List Int) (A : Option Addr) (n c : Nat) (bs : List Int) (w : World) (B : Nat) (hW : Wr w F base g most xs)
    (hr : ReadsB w B A bs) (hn : n = bs.length) (hm63 : n ≤ maxLen) :
    Calls Try.prog 38 #[.pointer (some ⟨g, 0, none⟩), .slice A n c] w
      (WPost w F base g most (bytesCode n xs.length most) (bytesNew bs most xs)) := by
  unfold maxLen at hm63
  have hW0 := hW
  obtain ⟨A1, c1, hB, hO, hlm, hm, hbg, hFg, hFv, hFw⟩ := hW
  have c0 : w.cell? ⟨g, 0, none⟩ = some (.slice A1 xs.length c1) := hB.cell 0
  have c1' : w.cell? ⟨g, 1, none⟩ = some (.int .i64 most) := hB.cell 1
  have c2 : w.cell? ⟨g, 2, none⟩ = some (.bool true) := hB.cell 2
  have f0 := hB.frozen 0
  have hW0 := Lib.hid hW0
  by_cases hl : most < (xs.length : Int) + bs.length
  · have e1 : bytesCode n xs.length most = 2 := by unfold bytesCode; rw [if_pos (by omega)]
    have e2 : bytesNew bs most xs = xs := by unfold bytesNew; rw [if_pos hl]
    rw [e1, e2]
    clear e1 e2
    go_enter Try.func38, Try.ntmps38
    go_wp2_with fail
    refine (wnone_no g w c2).mono ?_
    rintro e w' ⟨rfl, rfl⟩
    go_wp2_with fail
    go_quiet (fail)
    go_wp2_with fail
    go_ret
    exact ⟨rfl, hW0.out.drewN_ _⟩
  · have e1 : bytesCode n xs.length most = 0 := by unfold bytesCode; rw [if_neg (by omega)]
    have e2 : bytesNew bs most xs = xs ++ bs := by unfold bytesNew; rw [if_neg hl]
    rw [e1, e2]
    clear e1 e2
    have hzl : (xs ++ bs).length = xs.length + n := by simp; omega
    replace hzl := Lib.hid hzl
    have hbs : base ≤ w.heap.size := by have := (hFw g hFg); omega
    replace hn := Lib.hid hn
    have hl' : (xs.length : Int) + n ≤ most := by have := hn.out; omega
    go_enter Try.func38, Try.ntmps38
    go_wp2_with fail
    refine (wnone_no g w c2).mono ?_
    rintro e w' ⟨rfl, rfl⟩
    go_wp2_with fail
    go_quiet (fail)
    obtain ⟨m1, rfl⟩ : ∃ m, m = nq := ⟨_, rfl⟩
    go_wp2_with (first
    | (at_builtin
       refine wpList_appB _ rfl (.tmp 26) (.tmp 27) rfl base (.slice A1 xs.length c1) xs rfl hO B A n c bs rfl hr hn.out
         (xs ++ bs) (xs.length + n) rfl hzl.out (by omega) hbs ?_
       intro A2 c2 w2 hown2 hg2 hb2 hat2
       have hB2 : Blk w2 g 84 #[.slice A1 xs.length c1, .int .i64 most, .bool true] := Blk.grown (w := w.drewN m1) hB hg2 (own_blk_ne hO hB (by decide)).symm
       have c02 : w2.cell? ⟨g, 0, none⟩ = some (.slice A1 xs.length c1) := hB2.cell 0
       have f02 := hB2.frozen 0))
    go_ret
    obtain ⟨q1, q2⟩ := wr_push (F := F) (w := w) (wr := w.drewN m1) ((Turned.refl _ _).drewN _) hB hO hm hbg (.inl hFg) (fun k hk => .inl (hFv k hk)) (fun k hk => by
      rcases hk with h | h
      · exact hFw k h
      · exfalso; simp at h; omega) (Below.refl _ _) hown2 hg2 hat2 hzl.out.symm (by rw [hzl.out]; omega)
    exact ⟨rfl, q1, q2⟩
end Go.Proofs.Ytdilccihhelilaa
