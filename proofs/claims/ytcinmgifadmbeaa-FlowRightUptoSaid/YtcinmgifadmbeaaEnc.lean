/- An instruction as bytes: the program's. -/
import Derived.Test.YtcinmgifadmbeaaPart
namespace Go.Proofs.Ytcinmgifadmbeaa
open Go.RowKit
set_option linter.unusedVariables false

/-- Does a number fit a part? -/
def pOk (n : Int) (sg : Bool) (x : Int) : Bool := if n = 0 then x == 0 else if sg then fitsI n x else decide (0 ≤ x) && fitsU n x
theorem put_room {n : Int} {f : Bool} {len most : Int} (h1 : 1 ≤ n) (h8 : n ≤ 8) (hr : len + n ≤ most) : putCode n f len most = if f then 0 else 1 := by
  unfold putCode
  cases f with
  | true => rw [if_neg (by simp; omega), if_neg (by omega)]; rfl
  | false => rw [if_pos (.inr (.inr rfl))]; rfl
set_option maxRecDepth 100000 in
set_option maxHeartbeats 4000000 in
theorem write_any (F : Nat → Prop) (base g : Nat) (most : Int) (xs : List Int) (n x : Int) (sg : Bool) (hn : 0 ≤ n) (hn2 : n ≤ 8) (hr : (xs.length : Int) + n ≤ most) (hx : in64 x) (w : World) (hW : Wr w F base g most xs) :
    Calls Try.prog 40 #[.agg #[.int .i64 n, .bool sg], .pointer (some ⟨g, 0, none⟩), .int .i64 x] w (PWr w F base g most (pOk n sg x) (if pOk n sg x = true then xs ++ beN n.toNat x else xs)) := by
  unfold in64 at hx
  by_cases h0 : n = 0
  · subst h0
    have := write_none F base g most xs sg x w hW
    unfold pOk
    rw [if_pos rfl]
    have e : (if (x == 0) = true then xs ++ beN (0 : Int).toNat x else xs) = xs := by
      split
      · show xs ++ [] = xs; simp
      · rfl
    rw [e]
    exact this
  · cases sg with
    | true =>
      have := write_sign F base g most xs n x h0 w hW
      unfold putNew at this
      rw [put_room (by omega) hn2 hr] at this
      unfold pOk
      rw [if_neg h0, if_pos rfl]
      cases hf : fitsI n x with
      | true => rw [hf] at this; exact this
      | false => rw [hf] at this; exact this
    | false =>
      unfold pOk
      rw [if_neg h0, if_neg (by decide)]
      by_cases hx0 : 0 ≤ x
      · have := write_plain F base g most xs n x h0 hx0 hx.2 w hW
        unfold putNew at this
        rw [put_room (by omega) hn2 hr] at this
        rw [decide_eq_true hx0, Bool.true_and]
        cases hf : fitsU n x with
        | true => rw [hf] at this; exact this
        | false => rw [hf] at this; exact this
      · have := write_neg F base g most xs n x h0 (by omega) w hW
        rw [decide_eq_false hx0, Bool.false_and]
        exact this

/-- The number that stands for A. -/
noncomputable def encA (i : Ins) : Int := if sh i.op = 116 then i.a - i.at_ else i.a
def encFar (i : Ins) : Prop := sh i.op = 116 ∧ (i.at_ < 0 ∨ i.a < 0 ∨ 4096 < i.at_ ∨ 4096 < i.a)
noncomputable instance (i : Ins) : Decidable (encFar i) := by unfold encFar; infer_instance
/-- What an instruction's encoding comes to, and its bytes. -/
noncomputable def encC (i : Ins) : Int := if isC i.op = false then 60 else if encFar i then 1 else if pOk (pn0 (sh i.op)) (ps0 (sh i.op)) (encA i) && pOk (pn1 (sh i.op)) (ps1 (sh i.op)) i.b then 0 else 1
noncomputable def encB (i : Ins) : List Int := if encC i = 0 then beN 1 i.op ++ beN (pn0 (sh i.op)).toNat (encA i) ++ beN (pn1 (sh i.op)).toNat i.b else []
/-- What a call that hands out bytes comes to. -/
def BPost (w : World) (bs : List Int) (code : Int) (e : Ending) (w' : World) : Prop :=
  ∃ A c, e = .returned (.tuple #[.slice A bs.length c, .int .i64 code]) ∧ OwnB w' w.heap.size (.slice A bs.length c) bs ∧ Below w.heap.size w w'
theorem pn_facts (s : Int) : 0 ≤ pn0 s ∧ pn0 s ≤ 2 ∧ 0 ≤ pn1 s ∧ pn1 s ≤ 1 ∧ pn0 s + pn1 s ≤ 2 := by
  unfold pn0 pn1
  split <;> split <;> omega
theorem isC_range {k : Int} (h : isC k = true) : 0 ≤ k ∧ k < 200 := by
  by_cases hk : 0 ≤ k ∧ k < 200
  · exact hk
  · unfold isC at h
    rw [rowOf_none hk] at h
    cases h

set_option maxRecDepth 100000 in
set_option maxHeartbeats 4000000 in
theorem enc_any (i : Ins) (hi : i.In) (w : World) :
    Calls Try.prog 22 #[i.val] w (BPost w (encB i) (encC i)) := by
  have gs := fun w => Lib.hid (shape_any i.op w)
  have hb0 : Below w.heap.size w (w.alloc (.cells #[.int .i64 i.at_, .int .i64 i.op, .int .i64 i.a, .int .i64 i.b, .int .i64 i.size] 28)) := (Below.refl _ _).alloc (Nat.le_refl _) _
  have hI := Blk.new w 28 #[.int .i64 i.at_, .int .i64 i.op, .int .i64 i.a, .int .i64 i.b, .int .i64 i.size]
  unfold Ins.val
  cases hC : isC i.op with
  | false =>
    have ec : encC i = 60 := by unfold encC; rw [if_pos hC]
    have eb : encB i = [] := by unfold encB; rw [ec]; rfl
    rw [hC] at gs
    rw [ec, eb]
    clear ec eb
    go_enter Try.func22, Try.ntmps22
    go_wp2_with fail
    refine (gs _).out.mono ?_
    rintro _ w1 ⟨rfl, hb1⟩
    go_wp2_with fail
    refine bodyPost_ret (v := .tuple #[.slice none 0 0, .int .i64 60]) (by simp [results, Try.results22, go_sem]) rfl ⟨none, 0, rfl, OwnB.nil _ _, bnext hb0 hb1⟩
  | true =>
    rw [hC] at gs
    have hop := isC_range hC
    have hp := pn_facts (sh i.op)
    have hia := hi.a
    have e8 : IntKind.u64.wrap i.op = i.op := by simp [IntKind.wrap, IntKind.bits, IntKind.signed]; omega
    have hfit : fitsU 1 i.op = true := by
      unfold fitsU
      rw [decide_eq_false (by omega), decide_eq_false (by omega), Bool.false_or, Bool.false_or, beq_iff_eq]
      exact Int.ediv_eq_zero_of_lt hop.1 (by show i.op < 256; omega)
    have hnew : putNew 1 i.op (fitsU 1 i.op) 3 [] = beN 1 i.op := by
      unfold putNew
      rw [hfit]
      rfl
    have gu := fun F b g w h => Lib.hid (wuint_any F b g 3 [] 1 i.op w h)
    have gp := fun w => Lib.hid (parts_any (sh i.op) w)
    unfold partsV at gp
    by_cases hT : sh i.op = 116
    · have eT : (sh i.op == 116) = true := by rw [hT]; rfl
      have hT' := Lib.hid hT
      have hat := hi.at_
      clear hT
      by_cases hle : i.at_ ≤ i.a
      · have hmax : (if i.at_ < i.a then i.a else i.at_) = i.a := by split <;> omega
        by_cases hlo : i.at_ < 0
        · have hz := hlo
          have b1 : decide (i.at_ < 0) = true := decide_eq_true (by omega)
          go_enter Try.func22, Try.ntmps22
          go_wp2_with fail
          refine (gs _).out.mono ?_
          rintro _ w1 ⟨rfl, hb1⟩
          generalize w.alloc (.cells #[.int .i64 i.at_, .int .i64 i.op, .int .i64 i.a, .int .i64 i.b, .int .i64 i.size] 28) = W at *
          have hI0 := hI.below hb1 hI.lt
          have hB0 := bnext hb0 hb1
          have d0 : w1.cell? ⟨w.heap.size, 0, none⟩ = some (.int .i64 i.at_) := hI0.cell 0
          have d2 : w1.cell? ⟨w.heap.size, 2, none⟩ = some (.int .i64 i.a) := hI0.cell 2
          have df := hI0.frozen 2
          have ec : encC i = 1 := by unfold encC; rw [if_neg (by rw [hC]; decide), if_pos ⟨hT'.out, by omega⟩]
          have eb : encB i = [] := by unfold encB; rw [ec]; rfl
          replace ec := Lib.hid ec
          replace eb := Lib.hid eb
          go_wp2_with fail
          refine bodyPost_ret (v := .tuple #[.slice none 0 0, .int .i64 1]) (by simp [results, Try.results22, go_sem]) rfl ?_
          rw [ec.out, eb.out]
          exact ⟨none, 0, rfl, OwnB.nil _ _, hB0⟩
        · by_cases hhi : 4096 < i.a
          · have hz := hlo
            have b1 : decide (i.at_ < 0) = false := decide_eq_false (by omega)
            have b2 : decide (4096 < i.a) = true := decide_eq_true (by omega)
            go_enter Try.func22, Try.ntmps22
            go_wp2_with fail
            refine (gs _).out.mono ?_
            rintro _ w1 ⟨rfl, hb1⟩
            generalize w.alloc (.cells #[.int .i64 i.at_, .int .i64 i.op, .int .i64 i.a, .int .i64 i.b, .int .i64 i.size] 28) = W at *
            have hI0 := hI.below hb1 hI.lt
            have hB0 := bnext hb0 hb1
            have d0 : w1.cell? ⟨w.heap.size, 0, none⟩ = some (.int .i64 i.at_) := hI0.cell 0
            have d2 : w1.cell? ⟨w.heap.size, 2, none⟩ = some (.int .i64 i.a) := hI0.cell 2
            have df := hI0.frozen 2
            have ec : encC i = 1 := by unfold encC; rw [if_neg (by rw [hC]; decide), if_pos ⟨hT'.out, by omega⟩]
            have eb : encB i = [] := by unfold encB; rw [ec]; rfl
            replace ec := Lib.hid ec
            replace eb := Lib.hid eb
            go_wp2_with fail
            refine bodyPost_ret (v := .tuple #[.slice none 0 0, .int .i64 1]) (by simp [results, Try.results22, go_sem]) rfl ?_
            rw [ec.out, eb.out]
            exact ⟨none, 0, rfl, OwnB.nil _ _, hB0⟩
          · have hz := hlo
            have b1 : decide (i.at_ < 0) = false := decide_eq_false (by omega)
            have b2 : decide (4096 < i.a) = false := decide_eq_false (by omega)
            go_enter Try.func22, Try.ntmps22
            go_wp2_with fail
            refine (gs _).out.mono ?_
            rintro _ w1 ⟨rfl, hb1⟩
            generalize w.alloc (.cells #[.int .i64 i.at_, .int .i64 i.op, .int .i64 i.a, .int .i64 i.b, .int .i64 i.size] 28) = W at *
            have hI0 := hI.below hb1 hI.lt
            have hB0 := bnext hb0 hb1
            have d0 : w1.cell? ⟨w.heap.size, 0, none⟩ = some (.int .i64 i.at_) := hI0.cell 0
            have d2 : w1.cell? ⟨w.heap.size, 2, none⟩ = some (.int .i64 i.a) := hI0.cell 2
            have df := hI0.frozen 2
            have hA : encA i = i.a - i.at_ := if_pos hT'.out
            have hfar : ¬ encFar i := by rintro ⟨_, h⟩; omega
            have hin : in64 (i.a - i.at_) := by unfold in64; omega
            have hw : IntKind.i64.wrap (i.a - i.at_) = i.a - i.at_ := by simp [IntKind.wrap, IntKind.bits, IntKind.signed]; omega
            go_wp2_with fail
            have hI1 : Blk (w1.setCell ⟨w.heap.size, 2, none⟩ (.int .i64 (i.a - i.at_))) w.heap.size 28 #[.int .i64 i.at_, .int .i64 i.op, .int .i64 (i.a - i.at_), .int .i64 i.b, .int .i64 i.size] := hI0.set_ 2 _
            have hB1 : Below w.heap.size w (w1.setCell ⟨w.heap.size, 2, none⟩ (.int .i64 (i.a - i.at_))) :=
              ((Turned.of_below (F := fun _ => False) hB0).setCell (.inr (Nat.le_refl _)) _).below (Nat.le_refl _) (fun _ h => h.elim)
            generalize w1.setCell ⟨w.heap.size, 2, none⟩ (.int .i64 (i.a - i.at_)) = W0 at *
            clear d0 d2 df hI0 hB0
            refine (newW_ok 3 W0 (by omega) (by omega)).mono ?_
            rintro _ w2 ⟨rfl, hW2, hb2⟩
            have hI2 := hI1.below hb2 hI1.lt
            have d1 : w2.cell? ⟨w.heap.size, 1, none⟩ = some (.int .i64 i.op) := hI2.cell 1
            have hB2 := hB1.trans (hb2.mono hB1.size)
            have hkF : ¬ Made W0 w2 w.heap.size := fun h => by have := hI1.lt; have := h.1; omega
            go_wp2_with fail
            refine (gu _ _ _ _ hW2).out.mono ?_
            rintro _ w3 ⟨rfl, hW3, hT3⟩
            rw [hnew] at hW3
            have hI3 := hI2.turned hT3 hkF
            have hB3 := hB2.trans (hT3.below hB2.size fun j hj => by have := hj.1; have := hB1.size; omega)
            have hkF3 : ¬ Grow (Made W0 w2) w2 w3 w.heap.size := fun h => by
              rcases h with h | h
              · exact hkF h
              · have := hI2.lt; omega
            clear d1
            go_wp2_with fail
            refine (gp _).out.mono ?_
            rintro _ w4 ⟨rfl, hb4⟩
            have hW4 := hW3.below hb4
            have hI4 := hI3.below hb4 hI3.lt
            have hB4 := hB3.trans (hb4.mono hB3.size)
            have hba : Below w4.heap.size w4 (w4.alloc (.cells #[.int .i64 (pn0 (sh i.op)), .bool (ps0 (sh i.op)), .int .i64 (pn1 (sh i.op)), .bool (ps1 (sh i.op))] 81)) := (Below.refl _ _).alloc (Nat.le_refl _) _
            have hW5 := hW4.below hba
            have hI5 := hI4.below hba hI4.lt
            have hB5 := hB4.trans (hba.mono hB4.size)
            have hP5 := Blk.new w4 81 #[.int .i64 (pn0 (sh i.op)), .bool (ps0 (sh i.op)), .int .i64 (pn1 (sh i.op)), .bool (ps1 (sh i.op))]
            have hpF : ¬ Grow (Made W0 w2) w2 w3 w4.heap.size := fun h => by have := (hW4.lt _ h).2; omega
            have a2 : w4.cell? ⟨w.heap.size, 2, none⟩ = some (.int .i64 ((i.a - i.at_))) := hI4.cell 2
            have hlw : w.heap.size < w4.heap.size := hI4.lt
            have g0 := write_any _ _ _ 3 _ (pn0 (sh i.op)) (i.a - i.at_) (ps0 (sh i.op)) hp.1 (by omega) (by rw [beN_length]; omega) (by unfold in64 at *; omega) _ hW5
            cases h0 : pOk (pn0 (sh i.op)) (ps0 (sh i.op)) (i.a - i.at_) with
            | false =>
              rw [h0] at g0
              replace g0 := Lib.hid g0
              have ec : encC i = 1 := by unfold encC; rw [if_neg (by rw [hC]; decide), if_neg hfar, hA, h0]; rfl
              have eb : encB i = [] := by unfold encB; rw [ec]; rfl
              replace ec := Lib.hid ec
              replace eb := Lib.hid eb
              go_wp2_with fail
              refine g0.out.mono ?_
              rintro _ w6 ⟨rfl, hW6, hT6⟩
              have hB6 := hB5.trans (hT6.below hB5.size fun j hj => by have := (hW5.lt j hj).1; have := hB1.size; omega)
              go_wp2_with fail
              refine bodyPost_ret (v := .tuple #[.slice none 0 0, .int .i64 1]) (by simp [results, Try.results22, go_sem]) rfl ?_
              rw [ec.out, eb.out]
              exact ⟨none, 0, rfl, OwnB.nil _ _, hB6⟩
            | true =>
              rw [h0, if_pos rfl] at g0
              replace g0 := Lib.hid g0
              go_wp2_with fail
              refine g0.out.mono ?_
              rintro _ w6 ⟨rfl, hW6, hT6⟩
              have hB6 := hB5.trans (hT6.below hB5.size fun j hj => by have := (hW5.lt j hj).1; have := hB1.size; omega)
              have hI6 := hI5.turned hT6 hkF3
              have hP6 := hP5.turned hT6 hpF
              have a3 : w6.cell? ⟨w.heap.size, 3, none⟩ = some (.int .i64 i.b) := hI6.cell 3
              have p2 : w6.cell? ⟨w4.heap.size, 2, none⟩ = some (.int .i64 (pn1 (sh i.op))) := hP6.cell 2
              have p3 : w6.cell? ⟨w4.heap.size, 3, none⟩ = some (.bool (ps1 (sh i.op))) := hP6.cell 3
              have g1 := write_any _ _ _ 3 _ (pn1 (sh i.op)) i.b (ps1 (sh i.op)) hp.2.2.1 (by omega) (by rw [List.length_append, beN_length, beN_length]; omega) hi.b _ hW6
              clear a2
              cases h1 : pOk (pn1 (sh i.op)) (ps1 (sh i.op)) i.b with
              | false =>
                rw [h1] at g1
                replace g1 := Lib.hid g1
                have ec : encC i = 1 := by unfold encC; rw [if_neg (by rw [hC]; decide), if_neg hfar, hA, h0, h1]; rfl
                have eb : encB i = [] := by unfold encB; rw [ec]; rfl
                replace ec := Lib.hid ec
                replace eb := Lib.hid eb
                go_wp2_with fail
                refine g1.out.mono ?_
                rintro _ w7 ⟨rfl, hW7, hT7⟩
                have hB7 := hB6.trans (hT7.below hB6.size fun j hj => by have := (hW6.lt j hj).1; have := hB1.size; omega)
                go_wp2_with fail
                refine bodyPost_ret (v := .tuple #[.slice none 0 0, .int .i64 1]) (by simp [results, Try.results22, go_sem]) rfl ?_
                rw [ec.out, eb.out]
                exact ⟨none, 0, rfl, OwnB.nil _ _, hB7⟩
              | true =>
                rw [h1, if_pos rfl] at g1
                replace g1 := Lib.hid g1
                have ec : encC i = 0 := by unfold encC; rw [if_neg (by rw [hC]; decide), if_neg hfar, hA, h0, h1]; rfl
                have eb : encB i = beN 1 i.op ++ beN (pn0 (sh i.op)).toNat (i.a - i.at_) ++ beN (pn1 (sh i.op)).toNat i.b := by unfold encB; rw [if_pos ec, hA]
                replace ec := Lib.hid ec
                replace eb := Lib.hid eb
                go_wp2_with fail
                refine g1.out.mono ?_
                rintro _ w7 ⟨rfl, hW7, hT7⟩
                have hB7 := hB6.trans (hT7.below hB6.size fun j hj => by have := (hW6.lt j hj).1; have := hB1.size; omega)
                have go := Lib.hid (out_any _ _ _ _ _ _ hW7)
                generalize beN 1 i.op ++ beN (pn0 (sh i.op)).toNat ((i.a - i.at_)) ++ beN (pn1 (sh i.op)).toNat i.b = bs at *
                go_wp2_with fail
                refine go.out.mono ?_
                rintro _ w8 ⟨A8, c8, rfl, hO8, hb8⟩
                go_wp2_with fail
                refine bodyPost_ret (v := .tuple #[.slice A8 bs.length c8, .int .i64 0]) (by simp [results, Try.results22, go_sem]) rfl ?_
                rw [ec.out, eb.out]
                exact ⟨A8, c8, rfl, own_base hO8 hB7.size, bnext hB7 hb8⟩
      · by_cases hlo : i.a < 0
        · have hz := hlo
          have b1 : decide (i.a < 0) = true := decide_eq_true (by omega)
          go_enter Try.func22, Try.ntmps22
          go_wp2_with fail
          refine (gs _).out.mono ?_
          rintro _ w1 ⟨rfl, hb1⟩
          generalize w.alloc (.cells #[.int .i64 i.at_, .int .i64 i.op, .int .i64 i.a, .int .i64 i.b, .int .i64 i.size] 28) = W at *
          have hI0 := hI.below hb1 hI.lt
          have hB0 := bnext hb0 hb1
          have d0 : w1.cell? ⟨w.heap.size, 0, none⟩ = some (.int .i64 i.at_) := hI0.cell 0
          have d2 : w1.cell? ⟨w.heap.size, 2, none⟩ = some (.int .i64 i.a) := hI0.cell 2
          have df := hI0.frozen 2
          have ec : encC i = 1 := by unfold encC; rw [if_neg (by rw [hC]; decide), if_pos ⟨hT'.out, by omega⟩]
          have eb : encB i = [] := by unfold encB; rw [ec]; rfl
          replace ec := Lib.hid ec
          replace eb := Lib.hid eb
          go_wp2_with fail
          refine bodyPost_ret (v := .tuple #[.slice none 0 0, .int .i64 1]) (by simp [results, Try.results22, go_sem]) rfl ?_
          rw [ec.out, eb.out]
          exact ⟨none, 0, rfl, OwnB.nil _ _, hB0⟩
        · by_cases hhi : 4096 < i.at_
          · have hz := hlo
            have b1 : decide (i.a < 0) = false := decide_eq_false (by omega)
            have b2 : decide (4096 < i.at_) = true := decide_eq_true (by omega)
            go_enter Try.func22, Try.ntmps22
            go_wp2_with fail
            refine (gs _).out.mono ?_
            rintro _ w1 ⟨rfl, hb1⟩
            generalize w.alloc (.cells #[.int .i64 i.at_, .int .i64 i.op, .int .i64 i.a, .int .i64 i.b, .int .i64 i.size] 28) = W at *
            have hI0 := hI.below hb1 hI.lt
            have hB0 := bnext hb0 hb1
            have d0 : w1.cell? ⟨w.heap.size, 0, none⟩ = some (.int .i64 i.at_) := hI0.cell 0
            have d2 : w1.cell? ⟨w.heap.size, 2, none⟩ = some (.int .i64 i.a) := hI0.cell 2
            have df := hI0.frozen 2
            have ec : encC i = 1 := by unfold encC; rw [if_neg (by rw [hC]; decide), if_pos ⟨hT'.out, by omega⟩]
            have eb : encB i = [] := by unfold encB; rw [ec]; rfl
            replace ec := Lib.hid ec
            replace eb := Lib.hid eb
            go_wp2_with fail
            refine bodyPost_ret (v := .tuple #[.slice none 0 0, .int .i64 1]) (by simp [results, Try.results22, go_sem]) rfl ?_
            rw [ec.out, eb.out]
            exact ⟨none, 0, rfl, OwnB.nil _ _, hB0⟩
          · have hz := hlo
            have b1 : decide (i.a < 0) = false := decide_eq_false (by omega)
            have b2 : decide (4096 < i.at_) = false := decide_eq_false (by omega)
            go_enter Try.func22, Try.ntmps22
            go_wp2_with fail
            refine (gs _).out.mono ?_
            rintro _ w1 ⟨rfl, hb1⟩
            generalize w.alloc (.cells #[.int .i64 i.at_, .int .i64 i.op, .int .i64 i.a, .int .i64 i.b, .int .i64 i.size] 28) = W at *
            have hI0 := hI.below hb1 hI.lt
            have hB0 := bnext hb0 hb1
            have d0 : w1.cell? ⟨w.heap.size, 0, none⟩ = some (.int .i64 i.at_) := hI0.cell 0
            have d2 : w1.cell? ⟨w.heap.size, 2, none⟩ = some (.int .i64 i.a) := hI0.cell 2
            have df := hI0.frozen 2
            have hA : encA i = i.a - i.at_ := if_pos hT'.out
            have hfar : ¬ encFar i := by rintro ⟨_, h⟩; omega
            have hin : in64 (i.a - i.at_) := by unfold in64; omega
            have hw : IntKind.i64.wrap (i.a - i.at_) = i.a - i.at_ := by simp [IntKind.wrap, IntKind.bits, IntKind.signed]; omega
            go_wp2_with fail
            have hI1 : Blk (w1.setCell ⟨w.heap.size, 2, none⟩ (.int .i64 (i.a - i.at_))) w.heap.size 28 #[.int .i64 i.at_, .int .i64 i.op, .int .i64 (i.a - i.at_), .int .i64 i.b, .int .i64 i.size] := hI0.set_ 2 _
            have hB1 : Below w.heap.size w (w1.setCell ⟨w.heap.size, 2, none⟩ (.int .i64 (i.a - i.at_))) :=
              ((Turned.of_below (F := fun _ => False) hB0).setCell (.inr (Nat.le_refl _)) _).below (Nat.le_refl _) (fun _ h => h.elim)
            generalize w1.setCell ⟨w.heap.size, 2, none⟩ (.int .i64 (i.a - i.at_)) = W0 at *
            clear d0 d2 df hI0 hB0
            refine (newW_ok 3 W0 (by omega) (by omega)).mono ?_
            rintro _ w2 ⟨rfl, hW2, hb2⟩
            have hI2 := hI1.below hb2 hI1.lt
            have d1 : w2.cell? ⟨w.heap.size, 1, none⟩ = some (.int .i64 i.op) := hI2.cell 1
            have hB2 := hB1.trans (hb2.mono hB1.size)
            have hkF : ¬ Made W0 w2 w.heap.size := fun h => by have := hI1.lt; have := h.1; omega
            go_wp2_with fail
            refine (gu _ _ _ _ hW2).out.mono ?_
            rintro _ w3 ⟨rfl, hW3, hT3⟩
            rw [hnew] at hW3
            have hI3 := hI2.turned hT3 hkF
            have hB3 := hB2.trans (hT3.below hB2.size fun j hj => by have := hj.1; have := hB1.size; omega)
            have hkF3 : ¬ Grow (Made W0 w2) w2 w3 w.heap.size := fun h => by
              rcases h with h | h
              · exact hkF h
              · have := hI2.lt; omega
            clear d1
            go_wp2_with fail
            refine (gp _).out.mono ?_
            rintro _ w4 ⟨rfl, hb4⟩
            have hW4 := hW3.below hb4
            have hI4 := hI3.below hb4 hI3.lt
            have hB4 := hB3.trans (hb4.mono hB3.size)
            have hba : Below w4.heap.size w4 (w4.alloc (.cells #[.int .i64 (pn0 (sh i.op)), .bool (ps0 (sh i.op)), .int .i64 (pn1 (sh i.op)), .bool (ps1 (sh i.op))] 81)) := (Below.refl _ _).alloc (Nat.le_refl _) _
            have hW5 := hW4.below hba
            have hI5 := hI4.below hba hI4.lt
            have hB5 := hB4.trans (hba.mono hB4.size)
            have hP5 := Blk.new w4 81 #[.int .i64 (pn0 (sh i.op)), .bool (ps0 (sh i.op)), .int .i64 (pn1 (sh i.op)), .bool (ps1 (sh i.op))]
            have hpF : ¬ Grow (Made W0 w2) w2 w3 w4.heap.size := fun h => by have := (hW4.lt _ h).2; omega
            have a2 : w4.cell? ⟨w.heap.size, 2, none⟩ = some (.int .i64 ((i.a - i.at_))) := hI4.cell 2
            have hlw : w.heap.size < w4.heap.size := hI4.lt
            have g0 := write_any _ _ _ 3 _ (pn0 (sh i.op)) (i.a - i.at_) (ps0 (sh i.op)) hp.1 (by omega) (by rw [beN_length]; omega) (by unfold in64 at *; omega) _ hW5
            cases h0 : pOk (pn0 (sh i.op)) (ps0 (sh i.op)) (i.a - i.at_) with
            | false =>
              rw [h0] at g0
              replace g0 := Lib.hid g0
              have ec : encC i = 1 := by unfold encC; rw [if_neg (by rw [hC]; decide), if_neg hfar, hA, h0]; rfl
              have eb : encB i = [] := by unfold encB; rw [ec]; rfl
              replace ec := Lib.hid ec
              replace eb := Lib.hid eb
              go_wp2_with fail
              refine g0.out.mono ?_
              rintro _ w6 ⟨rfl, hW6, hT6⟩
              have hB6 := hB5.trans (hT6.below hB5.size fun j hj => by have := (hW5.lt j hj).1; have := hB1.size; omega)
              go_wp2_with fail
              refine bodyPost_ret (v := .tuple #[.slice none 0 0, .int .i64 1]) (by simp [results, Try.results22, go_sem]) rfl ?_
              rw [ec.out, eb.out]
              exact ⟨none, 0, rfl, OwnB.nil _ _, hB6⟩
            | true =>
              rw [h0, if_pos rfl] at g0
              replace g0 := Lib.hid g0
              go_wp2_with fail
              refine g0.out.mono ?_
              rintro _ w6 ⟨rfl, hW6, hT6⟩
              have hB6 := hB5.trans (hT6.below hB5.size fun j hj => by have := (hW5.lt j hj).1; have := hB1.size; omega)
              have hI6 := hI5.turned hT6 hkF3
              have hP6 := hP5.turned hT6 hpF
              have a3 : w6.cell? ⟨w.heap.size, 3, none⟩ = some (.int .i64 i.b) := hI6.cell 3
              have p2 : w6.cell? ⟨w4.heap.size, 2, none⟩ = some (.int .i64 (pn1 (sh i.op))) := hP6.cell 2
              have p3 : w6.cell? ⟨w4.heap.size, 3, none⟩ = some (.bool (ps1 (sh i.op))) := hP6.cell 3
              have g1 := write_any _ _ _ 3 _ (pn1 (sh i.op)) i.b (ps1 (sh i.op)) hp.2.2.1 (by omega) (by rw [List.length_append, beN_length, beN_length]; omega) hi.b _ hW6
              clear a2
              cases h1 : pOk (pn1 (sh i.op)) (ps1 (sh i.op)) i.b with
              | false =>
                rw [h1] at g1
                replace g1 := Lib.hid g1
                have ec : encC i = 1 := by unfold encC; rw [if_neg (by rw [hC]; decide), if_neg hfar, hA, h0, h1]; rfl
                have eb : encB i = [] := by unfold encB; rw [ec]; rfl
                replace ec := Lib.hid ec
                replace eb := Lib.hid eb
                go_wp2_with fail
                refine g1.out.mono ?_
                rintro _ w7 ⟨rfl, hW7, hT7⟩
                have hB7 := hB6.trans (hT7.below hB6.size fun j hj => by have := (hW6.lt j hj).1; have := hB1.size; omega)
                go_wp2_with fail
                refine bodyPost_ret (v := .tuple #[.slice none 0 0, .int .i64 1]) (by simp [results, Try.results22, go_sem]) rfl ?_
                rw [ec.out, eb.out]
                exact ⟨none, 0, rfl, OwnB.nil _ _, hB7⟩
              | true =>
                rw [h1, if_pos rfl] at g1
                replace g1 := Lib.hid g1
                have ec : encC i = 0 := by unfold encC; rw [if_neg (by rw [hC]; decide), if_neg hfar, hA, h0, h1]; rfl
                have eb : encB i = beN 1 i.op ++ beN (pn0 (sh i.op)).toNat (i.a - i.at_) ++ beN (pn1 (sh i.op)).toNat i.b := by unfold encB; rw [if_pos ec, hA]
                replace ec := Lib.hid ec
                replace eb := Lib.hid eb
                go_wp2_with fail
                refine g1.out.mono ?_
                rintro _ w7 ⟨rfl, hW7, hT7⟩
                have hB7 := hB6.trans (hT7.below hB6.size fun j hj => by have := (hW6.lt j hj).1; have := hB1.size; omega)
                have go := Lib.hid (out_any _ _ _ _ _ _ hW7)
                generalize beN 1 i.op ++ beN (pn0 (sh i.op)).toNat ((i.a - i.at_)) ++ beN (pn1 (sh i.op)).toNat i.b = bs at *
                go_wp2_with fail
                refine go.out.mono ?_
                rintro _ w8 ⟨A8, c8, rfl, hO8, hb8⟩
                go_wp2_with fail
                refine bodyPost_ret (v := .tuple #[.slice A8 bs.length c8, .int .i64 0]) (by simp [results, Try.results22, go_sem]) rfl ?_
                rw [ec.out, eb.out]
                exact ⟨A8, c8, rfl, own_base hO8 hB7.size, bnext hB7 hb8⟩
    · have eT : (sh i.op == 116) = false := by simpa using hT
      have hA : encA i = i.a := if_neg hT
      have hfar : ¬ encFar i := fun h => hT h.1
      go_enter Try.func22, Try.ntmps22
      go_wp2_with fail
      refine (gs _).out.mono ?_
      rintro _ w1 ⟨rfl, hb1⟩
      generalize w.alloc (.cells #[.int .i64 i.at_, .int .i64 i.op, .int .i64 i.a, .int .i64 i.b, .int .i64 i.size] 28) = W at *
      have hI1 := hI.below hb1 hI.lt
      have hB1 := bnext hb0 hb1
      go_wp2_with fail
      refine (newW_ok 3 w1 (by omega) (by omega)).mono ?_
      rintro _ w2 ⟨rfl, hW2, hb2⟩
      have hI2 := hI1.below hb2 hI1.lt
      have d1 : w2.cell? ⟨w.heap.size, 1, none⟩ = some (.int .i64 i.op) := hI2.cell 1
      have hB2 := hB1.trans (hb2.mono hB1.size)
      have hkF : ¬ Made w1 w2 w.heap.size := fun h => by have := hI1.lt; have := h.1; omega
      go_wp2_with fail
      refine (gu _ _ _ _ hW2).out.mono ?_
      rintro _ w3 ⟨rfl, hW3, hT3⟩
      rw [hnew] at hW3
      have hI3 := hI2.turned hT3 hkF
      have hB3 := hB2.trans (hT3.below hB2.size fun j hj => by have := hj.1; have := hB1.size; omega)
      have hkF3 : ¬ Grow (Made w1 w2) w2 w3 w.heap.size := fun h => by
        rcases h with h | h
        · exact hkF h
        · have := hI2.lt; omega
      clear d1
      go_wp2_with fail
      refine (gp _).out.mono ?_
      rintro _ w4 ⟨rfl, hb4⟩
      have hW4 := hW3.below hb4
      have hI4 := hI3.below hb4 hI3.lt
      have hB4 := hB3.trans (hb4.mono hB3.size)
      have hba : Below w4.heap.size w4 (w4.alloc (.cells #[.int .i64 (pn0 (sh i.op)), .bool (ps0 (sh i.op)), .int .i64 (pn1 (sh i.op)), .bool (ps1 (sh i.op))] 81)) := (Below.refl _ _).alloc (Nat.le_refl _) _
      have hW5 := hW4.below hba
      have hI5 := hI4.below hba hI4.lt
      have hB5 := hB4.trans (hba.mono hB4.size)
      have hP5 := Blk.new w4 81 #[.int .i64 (pn0 (sh i.op)), .bool (ps0 (sh i.op)), .int .i64 (pn1 (sh i.op)), .bool (ps1 (sh i.op))]
      have hpF : ¬ Grow (Made w1 w2) w2 w3 w4.heap.size := fun h => by have := (hW4.lt _ h).2; omega
      have a2 : w4.cell? ⟨w.heap.size, 2, none⟩ = some (.int .i64 (i.a)) := hI4.cell 2
      have hlw : w.heap.size < w4.heap.size := hI4.lt
      have g0 := write_any _ _ _ 3 _ (pn0 (sh i.op)) i.a (ps0 (sh i.op)) hp.1 (by omega) (by rw [beN_length]; omega) (by unfold in64 at *; omega) _ hW5
      cases h0 : pOk (pn0 (sh i.op)) (ps0 (sh i.op)) i.a with
      | false =>
        rw [h0] at g0
        replace g0 := Lib.hid g0
        have ec : encC i = 1 := by unfold encC; rw [if_neg (by rw [hC]; decide), if_neg hfar, hA, h0]; rfl
        have eb : encB i = [] := by unfold encB; rw [ec]; rfl
        replace ec := Lib.hid ec
        replace eb := Lib.hid eb
        go_wp2_with fail
        refine g0.out.mono ?_
        rintro _ w6 ⟨rfl, hW6, hT6⟩
        have hB6 := hB5.trans (hT6.below hB5.size fun j hj => by have := (hW5.lt j hj).1; have := hB1.size; omega)
        go_wp2_with fail
        refine bodyPost_ret (v := .tuple #[.slice none 0 0, .int .i64 1]) (by simp [results, Try.results22, go_sem]) rfl ?_
        rw [ec.out, eb.out]
        exact ⟨none, 0, rfl, OwnB.nil _ _, hB6⟩
      | true =>
        rw [h0, if_pos rfl] at g0
        replace g0 := Lib.hid g0
        go_wp2_with fail
        refine g0.out.mono ?_
        rintro _ w6 ⟨rfl, hW6, hT6⟩
        have hB6 := hB5.trans (hT6.below hB5.size fun j hj => by have := (hW5.lt j hj).1; have := hB1.size; omega)
        have hI6 := hI5.turned hT6 hkF3
        have hP6 := hP5.turned hT6 hpF
        have a3 : w6.cell? ⟨w.heap.size, 3, none⟩ = some (.int .i64 i.b) := hI6.cell 3
        have p2 : w6.cell? ⟨w4.heap.size, 2, none⟩ = some (.int .i64 (pn1 (sh i.op))) := hP6.cell 2
        have p3 : w6.cell? ⟨w4.heap.size, 3, none⟩ = some (.bool (ps1 (sh i.op))) := hP6.cell 3
        have g1 := write_any _ _ _ 3 _ (pn1 (sh i.op)) i.b (ps1 (sh i.op)) hp.2.2.1 (by omega) (by rw [List.length_append, beN_length, beN_length]; omega) hi.b _ hW6
        clear a2
        cases h1 : pOk (pn1 (sh i.op)) (ps1 (sh i.op)) i.b with
        | false =>
          rw [h1] at g1
          replace g1 := Lib.hid g1
          have ec : encC i = 1 := by unfold encC; rw [if_neg (by rw [hC]; decide), if_neg hfar, hA, h0, h1]; rfl
          have eb : encB i = [] := by unfold encB; rw [ec]; rfl
          replace ec := Lib.hid ec
          replace eb := Lib.hid eb
          go_wp2_with fail
          refine g1.out.mono ?_
          rintro _ w7 ⟨rfl, hW7, hT7⟩
          have hB7 := hB6.trans (hT7.below hB6.size fun j hj => by have := (hW6.lt j hj).1; have := hB1.size; omega)
          go_wp2_with fail
          refine bodyPost_ret (v := .tuple #[.slice none 0 0, .int .i64 1]) (by simp [results, Try.results22, go_sem]) rfl ?_
          rw [ec.out, eb.out]
          exact ⟨none, 0, rfl, OwnB.nil _ _, hB7⟩
        | true =>
          rw [h1, if_pos rfl] at g1
          replace g1 := Lib.hid g1
          have ec : encC i = 0 := by unfold encC; rw [if_neg (by rw [hC]; decide), if_neg hfar, hA, h0, h1]; rfl
          have eb : encB i = beN 1 i.op ++ beN (pn0 (sh i.op)).toNat i.a ++ beN (pn1 (sh i.op)).toNat i.b := by unfold encB; rw [if_pos ec, hA]
          replace ec := Lib.hid ec
          replace eb := Lib.hid eb
          go_wp2_with fail
          refine g1.out.mono ?_
          rintro _ w7 ⟨rfl, hW7, hT7⟩
          have hB7 := hB6.trans (hT7.below hB6.size fun j hj => by have := (hW6.lt j hj).1; have := hB1.size; omega)
          have go := Lib.hid (out_any _ _ _ _ _ _ hW7)
          generalize beN 1 i.op ++ beN (pn0 (sh i.op)).toNat (i.a) ++ beN (pn1 (sh i.op)).toNat i.b = bs at *
          go_wp2_with fail
          refine go.out.mono ?_
          rintro _ w8 ⟨A8, c8, rfl, hO8, hb8⟩
          go_wp2_with fail
          refine bodyPost_ret (v := .tuple #[.slice A8 bs.length c8, .int .i64 0]) (by simp [results, Try.results22, go_sem]) rfl ?_
          rw [ec.out, eb.out]
          exact ⟨A8, c8, rfl, own_base hO8 hB7.size, bnext hB7 hb8⟩
end Go.Proofs.Ytcinmgifadmbeaa
