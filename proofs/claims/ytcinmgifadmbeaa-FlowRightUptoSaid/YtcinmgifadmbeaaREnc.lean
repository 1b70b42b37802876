/- An instruction as bytes: the reference's. -/
import Derived.Test.YtcinmgifadmbeaaEnc
namespace Go.Proofs.Ytcinmgifadmbeaa
open Go.RowKit
set_option linter.unusedVariables false
set_option linter.unusedSimpArgs false

theorem codes_shapes : (codeRows.all fun r => r.2.2 == 45 || r.2.2 == 98 || r.2.2 == 117 || r.2.2 == 99 || r.2.2 == 115 || r.2.2 == 116 || r.2.2 == 105) = true := by kernel_rfl
theorem sh_some {k : Int} (h : isC k = true) : sh k = 45 ∨ sh k = 98 ∨ sh k = 117 ∨ sh k = 99 ∨ sh k = 115 ∨ sh k = 116 ∨ sh k = 105 := by
  unfold isC at h
  cases hr : rowOf k with
  | none => rw [hr] at h; cases h
  | some r =>
    have hm : r ∈ codeRows := List.mem_of_find?_eq_some hr
    have := List.all_eq_true.1 codes_shapes r hm
    have e : sh k = r.2.2 := by unfold sh; rw [hr]
    rw [e]
    simpa [or_assoc] using this
theorem beN_1 (x : Int) : beN 1 x = [x % 256] := by show [x / 256 ^ 0 % 256] = _; rw [Int.pow_zero, Int.ediv_one]
theorem beN_2 (x : Int) : beN 2 x = [x / 256 % 256, x % 256] := by show [x / 256 ^ 1 % 256, x / 256 ^ 0 % 256] = _; rw [Int.pow_zero, Int.ediv_one]; rfl
theorem fitsI_1 (x : Int) : fitsI 1 x = (decide (-128 ≤ x) && decide (x ≤ 127)) := by
  unfold fitsI
  rw [decide_eq_false (by omega), decide_eq_false (by omega), Bool.false_or, Bool.false_or, show (2 : Int) ^ ((8 * (1 : Int)).toNat - 1) = 128 from rfl, Bool.eq_iff_iff]
  simp
  omega
theorem fitsI_2 (x : Int) : fitsI 2 x = (decide (-32768 ≤ x) && decide (x ≤ 32767)) := by
  unfold fitsI
  rw [decide_eq_false (by omega), decide_eq_false (by omega), Bool.false_or, Bool.false_or, show (2 : Int) ^ ((8 * (2 : Int)).toNat - 1) = 32768 from rfl, Bool.eq_iff_iff]
  simp
  omega
theorem fitsU_1 (x : Int) : (decide (0 ≤ x) && fitsU 1 x) = (decide (0 ≤ x) && decide (x ≤ 255)) := by
  unfold fitsU
  rw [show decide ((1 : Int) < 1) = false from rfl, show decide ((7 : Int) < 1) = false from rfl, Bool.false_or, Bool.false_or, show (256 : Int) ^ (1 : Int).toNat = 256 from rfl, Bool.eq_iff_iff]
  simp
  omega
theorem fitsU_2 (x : Int) : (decide (0 ≤ x) && fitsU 2 x) = (decide (0 ≤ x) && decide (x ≤ 65535)) := by
  unfold fitsU
  rw [show decide ((2 : Int) < 1) = false from rfl, show decide ((7 : Int) < 2) = false from rfl, Bool.false_or, Bool.false_or, show (256 : Int) ^ (2 : Int).toNat = 65536 from rfl, Bool.eq_iff_iff]
  simp
  omega
theorem u8_wrap (x : Int) : IntKind.u8.wrap x = x % 256 := by simp [IntKind.wrap, IntKind.bits, IntKind.signed]

set_option maxRecDepth 100000 in
set_option maxHeartbeats 4000000 in
theorem between_any (n a b : Int) (r : Bool) (w : World) (h : r = (decide (a ≤ n) && decide (n ≤ b))) :
    Calls Try.prog 42 #[.int .i64 n, .int .i64 a, .int .i64 b] w fun e w' => e = .returned (.bool r) ∧ w = w' := by
  by_cases h1 : a ≤ n
  · have b1 : decide (a ≤ n) = true := decide_eq_true h1
    rw [b1, Bool.true_and] at h
    subst h
    go_enter Try.func42, Try.ntmps42
    go_wp2_with fail
    go_ret
    exact ⟨rfl, rfl⟩
  · have b1 : decide (a ≤ n) = false := decide_eq_false h1
    rw [b1, Bool.false_and] at h
    subst h
    go_enter Try.func42, Try.ntmps42
    go_wp2_with fail
    go_ret
    exact ⟨rfl, rfl⟩
/-- What an instruction of this shape comes to. -/
def encCs (s : Int) (i : Ins) : Int := if s = 116 ∧ (i.at_ < 0 ∨ i.a < 0 ∨ 4096 < i.at_ ∨ 4096 < i.a) then 1 else if pOk (pn0 s) (ps0 s) (if s = 116 then i.a - i.at_ else i.a) && pOk (pn1 s) (ps1 s) i.b then 0 else 1
theorem encC_s {i : Ins} {s : Int} (hC : isC i.op = true) (hs : sh i.op = s) : encC i = encCs s i := by
  subst hs
  have : encC i = if isC i.op = false then 60 else encCs (sh i.op) i := rfl
  rw [this, if_neg (by rw [hC]; decide)]
theorem encB_s {i : Ins} {s : Int} (hC : isC i.op = true) (hs : sh i.op = s) : encB i = if encCs s i = 0 then beN 1 i.op ++ beN (pn0 s).toNat (if s = 116 then i.a - i.at_ else i.a) ++ beN (pn1 s).toNat i.b else [] := by
  unfold encB
  rw [encC_s hC hs]
  subst hs
  rfl

set_option maxRecDepth 100000 in
set_option maxHeartbeats 4000000 in
theorem renc_45 (i : Ins) (hi : i.In) (hC : isC i.op = true) (hs : sh i.op = 45) (w : World) :
    Calls Try.prog 23 #[i.val] w (BPost w (encB i) (encC i)) := by
  have gs := fun w => Lib.hid (rshape_any i.op w)
  rw [hC, hs] at gs
  have hop := isC_range hC
  have e8 : IntKind.u8.wrap i.op = i.op := by rw [u8_wrap]; omega
  have ea : IntKind.u8.wrap i.a = i.a % 256 := u8_wrap _
  have eb8 : IntKind.u8.wrap i.b = i.b % 256 := u8_wrap _
  have hI := Blk.new w 28 #[.int .i64 i.at_, .int .i64 i.op, .int .i64 i.a, .int .i64 i.b, .int .i64 i.size]
  have hb0 : Below w.heap.size w (w.alloc (.cells #[.int .i64 i.at_, .int .i64 i.op, .int .i64 i.a, .int .i64 i.b, .int .i64 i.size] 28)) := (Below.refl _ _).alloc (Nat.le_refl _) _
  have hC' := Lib.hid hC
  have hs' := Lib.hid hs
  clear hC hs
  unfold Ins.val
  by_cases hb : i.b = 0
  · have q0 : (i.b == 0) = true := by simpa using hb
    have hb' := Lib.hid hb
    clear hb
    by_cases ha : i.a = 0
    · have q1 : (i.a == 0) = true := by simpa using ha
      have hec : encCs 45 i = 0 := by
        have hz := hb'.out
        simp [encCs, pOk, pn0, ps0, pn1, fitsI_1, fitsI_2, fitsU_1, fitsU_2]
        exact ⟨ha, hb'.out⟩
      have heb : encB i = [i.op] := by
        rw [encB_s hC'.out hs'.out, if_pos hec]
        simp [pn0, pn1, beN_1, beN_2, beN]
        omega
      have hec2 : encC i = 0 := by rw [encC_s hC'.out hs'.out]; exact hec
      clear hec
      replace hec2 := Lib.hid hec2
      replace heb := Lib.hid heb
      have ha' := Lib.hid ha
      clear ha
      go_enter Try.func23, Try.ntmps23
      go_wp2_with fail
      refine (gs _).out.mono ?_
      rintro _ w1 ⟨rfl, hb1⟩
      generalize w.alloc (.cells #[.int .i64 i.at_, .int .i64 i.op, .int .i64 i.a, .int .i64 i.b, .int .i64 i.size] 28) = W at *
      have hI1 := hI.below hb1 hI.lt
      have hB1 := bnext hb0 hb1
      have d0 : w1.cell? ⟨w.heap.size, 0, none⟩ = some (.int .i64 i.at_) := hI1.cell 0
      have d1 : w1.cell? ⟨w.heap.size, 1, none⟩ = some (.int .i64 i.op) := hI1.cell 1
      have d2 : w1.cell? ⟨w.heap.size, 2, none⟩ = some (.int .i64 i.a) := hI1.cell 2
      have d3 : w1.cell? ⟨w.heap.size, 3, none⟩ = some (.int .i64 i.b) := hI1.cell 3
      have hlw := hI1.lt
      go_wp2_with fail
      have hO : OwnB (w1.alloc (.cells #[.int .u8 i.op] 5)) w.heap.size (.slice (some ⟨w1.heap.size, 0, none⟩) 1 1) [i.op] := OwnB.lit (xs := [i.op]) rfl hB1.size (by unfold maxLen; simp)
      refine bodyPost_ret (v := .tuple #[.slice (some ⟨w1.heap.size, 0, none⟩) 1 1, .int .i64 0]) (by simp [results, Try.results23, go_sem]) rfl ?_
      rw [hec2.out, heb.out]
      exact ⟨_, _, rfl, hO, bnext hB1 ((Below.refl _ _).alloc (Nat.le_refl _) _)⟩
    · have q1 : (i.a == 0) = false := by simpa using ha
      have hec : encC i = 1 := by
        rw [encC_s hC'.out hs'.out]
        simp [encCs, pOk, pn0, ps0, pn1, ps1, fitsI_1, fitsI_2, fitsU_1, fitsU_2]
        omega
      have heb : encB i = [] := by unfold encB; rw [hec]; rfl
      replace hec := Lib.hid hec
      replace heb := Lib.hid heb
      have ha' := Lib.hid ha
      clear ha
      go_enter Try.func23, Try.ntmps23
      go_wp2_with fail
      refine (gs _).out.mono ?_
      rintro _ w1 ⟨rfl, hb1⟩
      generalize w.alloc (.cells #[.int .i64 i.at_, .int .i64 i.op, .int .i64 i.a, .int .i64 i.b, .int .i64 i.size] 28) = W at *
      have hI1 := hI.below hb1 hI.lt
      have hB1 := bnext hb0 hb1
      have d0 : w1.cell? ⟨w.heap.size, 0, none⟩ = some (.int .i64 i.at_) := hI1.cell 0
      have d1 : w1.cell? ⟨w.heap.size, 1, none⟩ = some (.int .i64 i.op) := hI1.cell 1
      have d2 : w1.cell? ⟨w.heap.size, 2, none⟩ = some (.int .i64 i.a) := hI1.cell 2
      have d3 : w1.cell? ⟨w.heap.size, 3, none⟩ = some (.int .i64 i.b) := hI1.cell 3
      have hlw := hI1.lt
      go_wp2_with fail
      refine bodyPost_ret (v := .tuple #[.slice none 0 0, .int .i64 1]) (by simp [results, Try.results23, go_sem]) rfl ?_
      rw [hec.out, heb.out]
      exact ⟨none, 0, rfl, OwnB.nil _ _, hB1⟩
  · have q0 : (i.b == 0) = false := by simpa using hb
    have hb' := Lib.hid hb
    have hec : encC i = 1 := by
      rw [encC_s hC'.out hs'.out]
      simp [encCs, pOk, pn0, ps0, pn1, ps1, fitsI_1, fitsI_2, fitsU_1, fitsU_2]
      omega
    have heb : encB i = [] := by unfold encB; rw [hec]; rfl
    replace hec := Lib.hid hec
    replace heb := Lib.hid heb
    go_enter Try.func23, Try.ntmps23
    go_wp2_with fail
    refine (gs _).out.mono ?_
    rintro _ w1 ⟨rfl, hb1⟩
    generalize w.alloc (.cells #[.int .i64 i.at_, .int .i64 i.op, .int .i64 i.a, .int .i64 i.b, .int .i64 i.size] 28) = W at *
    have hI1 := hI.below hb1 hI.lt
    have hB1 := bnext hb0 hb1
    have d0 : w1.cell? ⟨w.heap.size, 0, none⟩ = some (.int .i64 i.at_) := hI1.cell 0
    have d1 : w1.cell? ⟨w.heap.size, 1, none⟩ = some (.int .i64 i.op) := hI1.cell 1
    have d2 : w1.cell? ⟨w.heap.size, 2, none⟩ = some (.int .i64 i.a) := hI1.cell 2
    have d3 : w1.cell? ⟨w.heap.size, 3, none⟩ = some (.int .i64 i.b) := hI1.cell 3
    have hlw := hI1.lt
    go_wp2_with fail
    refine bodyPost_ret (v := .tuple #[.slice none 0 0, .int .i64 1]) (by simp [results, Try.results23, go_sem]) rfl ?_
    rw [hec.out, heb.out]
    exact ⟨none, 0, rfl, OwnB.nil _ _, hB1⟩

set_option maxRecDepth 100000 in
set_option maxHeartbeats 4000000 in
theorem renc_98 (i : Ins) (hi : i.In) (hC : isC i.op = true) (hs : sh i.op = 98) (w : World) :
    Calls Try.prog 23 #[i.val] w (BPost w (encB i) (encC i)) := by
  have gs := fun w => Lib.hid (rshape_any i.op w)
  rw [hC, hs] at gs
  have hop := isC_range hC
  have e8 : IntKind.u8.wrap i.op = i.op := by rw [u8_wrap]; omega
  have ea : IntKind.u8.wrap i.a = i.a % 256 := u8_wrap _
  have eb8 : IntKind.u8.wrap i.b = i.b % 256 := u8_wrap _
  have hI := Blk.new w 28 #[.int .i64 i.at_, .int .i64 i.op, .int .i64 i.a, .int .i64 i.b, .int .i64 i.size]
  have hb0 : Below w.heap.size w (w.alloc (.cells #[.int .i64 i.at_, .int .i64 i.op, .int .i64 i.a, .int .i64 i.b, .int .i64 i.size] 28)) := (Below.refl _ _).alloc (Nat.le_refl _) _
  have hC' := Lib.hid hC
  have hs' := Lib.hid hs
  clear hC hs
  unfold Ins.val
  by_cases hb : i.b = 0
  · have q0 : (i.b == 0) = true := by simpa using hb
    have hb' := Lib.hid hb
    clear hb
    by_cases r0 : (-128) ≤ i.a ∧ i.a ≤ 127
    · have rr := r0
      have hec : encCs 98 i = 0 := by
        have hz := hb'.out
        simp [encCs, pOk, pn0, ps0, pn1, fitsI_1, fitsI_2, fitsU_1, fitsU_2]
        omega
      have heb : encB i = [i.op, i.a % 256] := by
        rw [encB_s hC'.out hs'.out, if_pos hec]
        simp [pn0, pn1, beN_1, beN_2, beN]
        omega
      have hec2 : encC i = 0 := by rw [encC_s hC'.out hs'.out]; exact hec
      clear hec
      replace hec2 := Lib.hid hec2
      replace heb := Lib.hid heb
      go_enter Try.func23, Try.ntmps23
      go_wp2_with fail
      refine (gs _).out.mono ?_
      rintro _ w1 ⟨rfl, hb1⟩
      generalize w.alloc (.cells #[.int .i64 i.at_, .int .i64 i.op, .int .i64 i.a, .int .i64 i.b, .int .i64 i.size] 28) = W at *
      have hI1 := hI.below hb1 hI.lt
      have hB1 := bnext hb0 hb1
      have d0 : w1.cell? ⟨w.heap.size, 0, none⟩ = some (.int .i64 i.at_) := hI1.cell 0
      have d1 : w1.cell? ⟨w.heap.size, 1, none⟩ = some (.int .i64 i.op) := hI1.cell 1
      have d2 : w1.cell? ⟨w.heap.size, 2, none⟩ = some (.int .i64 i.a) := hI1.cell 2
      have d3 : w1.cell? ⟨w.heap.size, 3, none⟩ = some (.int .i64 i.b) := hI1.cell 3
      have hlw := hI1.lt
      go_wp2_with fail
      refine (between_any i.a (-128) 127 true _ (by simp; omega)).mono ?_
      rintro _ _ ⟨rfl, rfl⟩
      have hO : OwnB ((w1.alloc (.cells #[.int .u8 i.op] 5)).alloc (.cells #[.int .u8 (i.a % 256)] 5)) w.heap.size (.slice (some ⟨w1.heap.size, 0, none⟩) 1 1) [i.op] := (OwnB.lit (xs := [i.op]) rfl hB1.size (by unfold maxLen; simp)).alloc _
      have hr : ReadsB ((w1.alloc (.cells #[.int .u8 i.op] 5)).alloc (.cells #[.int .u8 (i.a % 256)] 5)) (w1.heap.size + 1 + 1) (some ⟨w1.heap.size + 1, 0, none⟩) [i.a % 256] := by
        have := ReadsB.new (w1.alloc (.cells #[.int .u8 i.op] 5)) [i.a % 256] #[.int .u8 (i.a % 256)] 5 (0, 0) rfl
        simpa using this
      have hbs : w.heap.size ≤ ((w1.alloc (.cells #[.int .u8 i.op] 5)).alloc (.cells #[.int .u8 (i.a % 256)] 5)).heap.size := by have := hB1.size; simp; omega
      replace hO := Lib.hid hO
      replace hr := Lib.hid hr
      replace hbs := Lib.hid hbs
      go_wp2_with (first
        | (at_builtin
           refine wpList_appB ((w1.alloc (.cells #[.int .u8 i.op] 5)).alloc (.cells #[.int .u8 (i.a % 256)] 5)) rfl (.tmp 111) (.tmp 114) rfl w.heap.size (.slice (some ⟨w1.heap.size, 0, none⟩) 1 1) [i.op] (by simp [Act.eval]) hO.out
             (w1.heap.size + 1 + 1) (some ⟨w1.heap.size + 1, 0, none⟩) 1 1 [i.a % 256] (by simp [Act.eval]) hr.out rfl _ 2 rfl rfl (by omega) hbs.out ?_
           intro A3 c3 w3 hO3 hg3 hb3 hat3))
      refine bodyPost_ret (v := .tuple #[.slice A3 2 c3, .int .i64 0]) (by simp [results, Try.results23, go_sem]) rfl ?_
      rw [hec2.out, heb.out]
      exact ⟨A3, c3, rfl, hO3, hB1.trans ((((Below.refl _ _).alloc (Nat.le_refl _) _).alloc (by simp) _ : Below w1.heap.size w1 ((w1.alloc (.cells #[.int .u8 i.op] 5)).alloc (.cells #[.int .u8 (i.a % 256)] 5))).mono hB1.size) |>.trans hb3⟩
    · have rr := r0
      have hec : encC i = 1 := by
        rw [encC_s hC'.out hs'.out]
        simp [encCs, pOk, pn0, ps0, pn1, ps1, fitsI_1, fitsI_2, fitsU_1, fitsU_2]
        omega
      have heb : encB i = [] := by unfold encB; rw [hec]; rfl
      replace hec := Lib.hid hec
      replace heb := Lib.hid heb
      go_enter Try.func23, Try.ntmps23
      go_wp2_with fail
      refine (gs _).out.mono ?_
      rintro _ w1 ⟨rfl, hb1⟩
      generalize w.alloc (.cells #[.int .i64 i.at_, .int .i64 i.op, .int .i64 i.a, .int .i64 i.b, .int .i64 i.size] 28) = W at *
      have hI1 := hI.below hb1 hI.lt
      have hB1 := bnext hb0 hb1
      have d0 : w1.cell? ⟨w.heap.size, 0, none⟩ = some (.int .i64 i.at_) := hI1.cell 0
      have d1 : w1.cell? ⟨w.heap.size, 1, none⟩ = some (.int .i64 i.op) := hI1.cell 1
      have d2 : w1.cell? ⟨w.heap.size, 2, none⟩ = some (.int .i64 i.a) := hI1.cell 2
      have d3 : w1.cell? ⟨w.heap.size, 3, none⟩ = some (.int .i64 i.b) := hI1.cell 3
      have hlw := hI1.lt
      go_wp2_with fail
      refine (between_any i.a (-128) 127 false _ (by simp; omega)).mono ?_
      rintro _ _ ⟨rfl, rfl⟩
      go_wp2_with fail
      refine bodyPost_ret (v := .tuple #[.slice none 0 0, .int .i64 1]) (by simp [results, Try.results23, go_sem]) rfl ?_
      rw [hec.out, heb.out]
      exact ⟨none, 0, rfl, OwnB.nil _ _, hB1⟩
  · have q0 : (i.b == 0) = false := by simpa using hb
    have hb' := Lib.hid hb
    have hec : encC i = 1 := by
      rw [encC_s hC'.out hs'.out]
      simp [encCs, pOk, pn0, ps0, pn1, ps1, fitsI_1, fitsI_2, fitsU_1, fitsU_2]
      omega
    have heb : encB i = [] := by unfold encB; rw [hec]; rfl
    replace hec := Lib.hid hec
    replace heb := Lib.hid heb
    go_enter Try.func23, Try.ntmps23
    go_wp2_with fail
    refine (gs _).out.mono ?_
    rintro _ w1 ⟨rfl, hb1⟩
    generalize w.alloc (.cells #[.int .i64 i.at_, .int .i64 i.op, .int .i64 i.a, .int .i64 i.b, .int .i64 i.size] 28) = W at *
    have hI1 := hI.below hb1 hI.lt
    have hB1 := bnext hb0 hb1
    have d0 : w1.cell? ⟨w.heap.size, 0, none⟩ = some (.int .i64 i.at_) := hI1.cell 0
    have d1 : w1.cell? ⟨w.heap.size, 1, none⟩ = some (.int .i64 i.op) := hI1.cell 1
    have d2 : w1.cell? ⟨w.heap.size, 2, none⟩ = some (.int .i64 i.a) := hI1.cell 2
    have d3 : w1.cell? ⟨w.heap.size, 3, none⟩ = some (.int .i64 i.b) := hI1.cell 3
    have hlw := hI1.lt
    go_wp2_with fail
    refine bodyPost_ret (v := .tuple #[.slice none 0 0, .int .i64 1]) (by simp [results, Try.results23, go_sem]) rfl ?_
    rw [hec.out, heb.out]
    exact ⟨none, 0, rfl, OwnB.nil _ _, hB1⟩

set_option maxRecDepth 100000 in
set_option maxHeartbeats 4000000 in
theorem renc_117 (i : Ins) (hi : i.In) (hC : isC i.op = true) (hs : sh i.op = 117) (w : World) :
    Calls Try.prog 23 #[i.val] w (BPost w (encB i) (encC i)) := by
  have gs := fun w => Lib.hid (rshape_any i.op w)
  rw [hC, hs] at gs
  have hop := isC_range hC
  have e8 : IntKind.u8.wrap i.op = i.op := by rw [u8_wrap]; omega
  have ea : IntKind.u8.wrap i.a = i.a % 256 := u8_wrap _
  have eb8 : IntKind.u8.wrap i.b = i.b % 256 := u8_wrap _
  have hI := Blk.new w 28 #[.int .i64 i.at_, .int .i64 i.op, .int .i64 i.a, .int .i64 i.b, .int .i64 i.size]
  have hb0 : Below w.heap.size w (w.alloc (.cells #[.int .i64 i.at_, .int .i64 i.op, .int .i64 i.a, .int .i64 i.b, .int .i64 i.size] 28)) := (Below.refl _ _).alloc (Nat.le_refl _) _
  have hC' := Lib.hid hC
  have hs' := Lib.hid hs
  clear hC hs
  unfold Ins.val
  by_cases hb : i.b = 0
  · have q0 : (i.b == 0) = true := by simpa using hb
    have hb' := Lib.hid hb
    clear hb
    by_cases r0 : 0 ≤ i.a ∧ i.a ≤ 255
    · have rr := r0
      have hec : encCs 117 i = 0 := by
        have hz := hb'.out
        simp [encCs, pOk, pn0, ps0, pn1, fitsI_1, fitsI_2, fitsU_1, fitsU_2]
        omega
      have heb : encB i = [i.op, i.a % 256] := by
        rw [encB_s hC'.out hs'.out, if_pos hec]
        simp [pn0, pn1, beN_1, beN_2, beN]
        omega
      have hec2 : encC i = 0 := by rw [encC_s hC'.out hs'.out]; exact hec
      clear hec
      replace hec2 := Lib.hid hec2
      replace heb := Lib.hid heb
      go_enter Try.func23, Try.ntmps23
      go_wp2_with fail
      refine (gs _).out.mono ?_
      rintro _ w1 ⟨rfl, hb1⟩
      generalize w.alloc (.cells #[.int .i64 i.at_, .int .i64 i.op, .int .i64 i.a, .int .i64 i.b, .int .i64 i.size] 28) = W at *
      have hI1 := hI.below hb1 hI.lt
      have hB1 := bnext hb0 hb1
      have d0 : w1.cell? ⟨w.heap.size, 0, none⟩ = some (.int .i64 i.at_) := hI1.cell 0
      have d1 : w1.cell? ⟨w.heap.size, 1, none⟩ = some (.int .i64 i.op) := hI1.cell 1
      have d2 : w1.cell? ⟨w.heap.size, 2, none⟩ = some (.int .i64 i.a) := hI1.cell 2
      have d3 : w1.cell? ⟨w.heap.size, 3, none⟩ = some (.int .i64 i.b) := hI1.cell 3
      have hlw := hI1.lt
      go_wp2_with fail
      refine (between_any i.a 0 255 true _ (by simp; omega)).mono ?_
      rintro _ _ ⟨rfl, rfl⟩
      have hO : OwnB ((w1.alloc (.cells #[.int .u8 i.op] 5)).alloc (.cells #[.int .u8 (i.a % 256)] 5)) w.heap.size (.slice (some ⟨w1.heap.size, 0, none⟩) 1 1) [i.op] := (OwnB.lit (xs := [i.op]) rfl hB1.size (by unfold maxLen; simp)).alloc _
      have hr : ReadsB ((w1.alloc (.cells #[.int .u8 i.op] 5)).alloc (.cells #[.int .u8 (i.a % 256)] 5)) (w1.heap.size + 1 + 1) (some ⟨w1.heap.size + 1, 0, none⟩) [i.a % 256] := by
        have := ReadsB.new (w1.alloc (.cells #[.int .u8 i.op] 5)) [i.a % 256] #[.int .u8 (i.a % 256)] 5 (0, 0) rfl
        simpa using this
      have hbs : w.heap.size ≤ ((w1.alloc (.cells #[.int .u8 i.op] 5)).alloc (.cells #[.int .u8 (i.a % 256)] 5)).heap.size := by have := hB1.size; simp; omega
      replace hO := Lib.hid hO
      replace hr := Lib.hid hr
      replace hbs := Lib.hid hbs
      go_wp2_with (first
        | (at_builtin
           refine wpList_appB ((w1.alloc (.cells #[.int .u8 i.op] 5)).alloc (.cells #[.int .u8 (i.a % 256)] 5)) rfl (.tmp 111) (.tmp 114) rfl w.heap.size (.slice (some ⟨w1.heap.size, 0, none⟩) 1 1) [i.op] (by simp [Act.eval]) hO.out
             (w1.heap.size + 1 + 1) (some ⟨w1.heap.size + 1, 0, none⟩) 1 1 [i.a % 256] (by simp [Act.eval]) hr.out rfl _ 2 rfl rfl (by omega) hbs.out ?_
           intro A3 c3 w3 hO3 hg3 hb3 hat3))
      refine bodyPost_ret (v := .tuple #[.slice A3 2 c3, .int .i64 0]) (by simp [results, Try.results23, go_sem]) rfl ?_
      rw [hec2.out, heb.out]
      exact ⟨A3, c3, rfl, hO3, hB1.trans ((((Below.refl _ _).alloc (Nat.le_refl _) _).alloc (by simp) _ : Below w1.heap.size w1 ((w1.alloc (.cells #[.int .u8 i.op] 5)).alloc (.cells #[.int .u8 (i.a % 256)] 5))).mono hB1.size) |>.trans hb3⟩
    · have rr := r0
      have hec : encC i = 1 := by
        rw [encC_s hC'.out hs'.out]
        simp [encCs, pOk, pn0, ps0, pn1, ps1, fitsI_1, fitsI_2, fitsU_1, fitsU_2]
        omega
      have heb : encB i = [] := by unfold encB; rw [hec]; rfl
      replace hec := Lib.hid hec
      replace heb := Lib.hid heb
      go_enter Try.func23, Try.ntmps23
      go_wp2_with fail
      refine (gs _).out.mono ?_
      rintro _ w1 ⟨rfl, hb1⟩
      generalize w.alloc (.cells #[.int .i64 i.at_, .int .i64 i.op, .int .i64 i.a, .int .i64 i.b, .int .i64 i.size] 28) = W at *
      have hI1 := hI.below hb1 hI.lt
      have hB1 := bnext hb0 hb1
      have d0 : w1.cell? ⟨w.heap.size, 0, none⟩ = some (.int .i64 i.at_) := hI1.cell 0
      have d1 : w1.cell? ⟨w.heap.size, 1, none⟩ = some (.int .i64 i.op) := hI1.cell 1
      have d2 : w1.cell? ⟨w.heap.size, 2, none⟩ = some (.int .i64 i.a) := hI1.cell 2
      have d3 : w1.cell? ⟨w.heap.size, 3, none⟩ = some (.int .i64 i.b) := hI1.cell 3
      have hlw := hI1.lt
      go_wp2_with fail
      refine (between_any i.a 0 255 false _ (by simp; omega)).mono ?_
      rintro _ _ ⟨rfl, rfl⟩
      go_wp2_with fail
      refine bodyPost_ret (v := .tuple #[.slice none 0 0, .int .i64 1]) (by simp [results, Try.results23, go_sem]) rfl ?_
      rw [hec.out, heb.out]
      exact ⟨none, 0, rfl, OwnB.nil _ _, hB1⟩
  · have q0 : (i.b == 0) = false := by simpa using hb
    have hb' := Lib.hid hb
    have hec : encC i = 1 := by
      rw [encC_s hC'.out hs'.out]
      simp [encCs, pOk, pn0, ps0, pn1, ps1, fitsI_1, fitsI_2, fitsU_1, fitsU_2]
      omega
    have heb : encB i = [] := by unfold encB; rw [hec]; rfl
    replace hec := Lib.hid hec
    replace heb := Lib.hid heb
    go_enter Try.func23, Try.ntmps23
    go_wp2_with fail
    refine (gs _).out.mono ?_
    rintro _ w1 ⟨rfl, hb1⟩
    generalize w.alloc (.cells #[.int .i64 i.at_, .int .i64 i.op, .int .i64 i.a, .int .i64 i.b, .int .i64 i.size] 28) = W at *
    have hI1 := hI.below hb1 hI.lt
    have hB1 := bnext hb0 hb1
    have d0 : w1.cell? ⟨w.heap.size, 0, none⟩ = some (.int .i64 i.at_) := hI1.cell 0
    have d1 : w1.cell? ⟨w.heap.size, 1, none⟩ = some (.int .i64 i.op) := hI1.cell 1
    have d2 : w1.cell? ⟨w.heap.size, 2, none⟩ = some (.int .i64 i.a) := hI1.cell 2
    have d3 : w1.cell? ⟨w.heap.size, 3, none⟩ = some (.int .i64 i.b) := hI1.cell 3
    have hlw := hI1.lt
    go_wp2_with fail
    refine bodyPost_ret (v := .tuple #[.slice none 0 0, .int .i64 1]) (by simp [results, Try.results23, go_sem]) rfl ?_
    rw [hec.out, heb.out]
    exact ⟨none, 0, rfl, OwnB.nil _ _, hB1⟩

set_option maxRecDepth 100000 in
set_option maxHeartbeats 4000000 in
theorem renc_99 (i : Ins) (hi : i.In) (hC : isC i.op = true) (hs : sh i.op = 99) (w : World) :
    Calls Try.prog 23 #[i.val] w (BPost w (encB i) (encC i)) := by
  have gs := fun w => Lib.hid (rshape_any i.op w)
  rw [hC, hs] at gs
  have hop := isC_range hC
  have e8 : IntKind.u8.wrap i.op = i.op := by rw [u8_wrap]; omega
  have ea : IntKind.u8.wrap i.a = i.a % 256 := u8_wrap _
  have eb8 : IntKind.u8.wrap i.b = i.b % 256 := u8_wrap _
  have hI := Blk.new w 28 #[.int .i64 i.at_, .int .i64 i.op, .int .i64 i.a, .int .i64 i.b, .int .i64 i.size]
  have hb0 : Below w.heap.size w (w.alloc (.cells #[.int .i64 i.at_, .int .i64 i.op, .int .i64 i.a, .int .i64 i.b, .int .i64 i.size] 28)) := (Below.refl _ _).alloc (Nat.le_refl _) _
  have hC' := Lib.hid hC
  have hs' := Lib.hid hs
  clear hC hs
  unfold Ins.val
  by_cases hb : i.b = 0
  · have q0 : (i.b == 0) = true := by simpa using hb
    have hb' := Lib.hid hb
    clear hb
    by_cases r0 : 0 ≤ i.a ∧ i.a ≤ 65535
    · have rr := r0
      have hec : encCs 99 i = 0 := by
        have hz := hb'.out
        simp [encCs, pOk, pn0, ps0, pn1, fitsI_1, fitsI_2, fitsU_1, fitsU_2]
        omega
      have heb : encB i = [i.op, i.a / 256 % 256, i.a % 256] := by
        rw [encB_s hC'.out hs'.out, if_pos hec]
        simp [pn0, pn1, beN_1, beN_2, beN]
        omega
      have hec2 : encC i = 0 := by rw [encC_s hC'.out hs'.out]; exact hec
      clear hec
      replace hec2 := Lib.hid hec2
      replace heb := Lib.hid heb
      have gbt : Hid (true = (decide (0 ≤ i.a) && decide (i.a ≤ 65535))) := Lib.hid (by simp; omega)
      clear rr r0
      go_enter Try.func23, Try.ntmps23
      go_wp2_with fail
      refine (gs _).out.mono ?_
      rintro _ w1 ⟨rfl, hb1⟩
      generalize w.alloc (.cells #[.int .i64 i.at_, .int .i64 i.op, .int .i64 i.a, .int .i64 i.b, .int .i64 i.size] 28) = W at *
      have hI1 := hI.below hb1 hI.lt
      have hB1 := bnext hb0 hb1
      have d0 : w1.cell? ⟨w.heap.size, 0, none⟩ = some (.int .i64 i.at_) := hI1.cell 0
      have d1 : w1.cell? ⟨w.heap.size, 1, none⟩ = some (.int .i64 i.op) := hI1.cell 1
      have d2 : w1.cell? ⟨w.heap.size, 2, none⟩ = some (.int .i64 i.a) := hI1.cell 2
      have d3 : w1.cell? ⟨w.heap.size, 3, none⟩ = some (.int .i64 i.b) := hI1.cell 3
      have hlw := hI1.lt
      go_wp2_with fail
      refine (between_any i.a 0 65535 true _ gbt.out).mono ?_
      rintro _ _ ⟨rfl, rfl⟩
      have hO : OwnB ((w1.alloc (.cells #[.int .u8 i.op] 5)).alloc (.cells #[.int .u8 (i.a / 256 % 256), .int .u8 (i.a % 256)] 5)) w.heap.size (.slice (some ⟨w1.heap.size, 0, none⟩) 1 1) [i.op] := (OwnB.lit (xs := [i.op]) rfl hB1.size (by unfold maxLen; simp)).alloc _
      have hr : ReadsB ((w1.alloc (.cells #[.int .u8 i.op] 5)).alloc (.cells #[.int .u8 (i.a / 256 % 256), .int .u8 (i.a % 256)] 5)) (w1.heap.size + 1 + 1) (some ⟨w1.heap.size + 1, 0, none⟩) [i.a / 256 % 256, i.a % 256] := by
        have := ReadsB.new (w1.alloc (.cells #[.int .u8 i.op] 5)) [i.a / 256 % 256, i.a % 256] #[.int .u8 (i.a / 256 % 256), .int .u8 (i.a % 256)] 5 (0, 0) rfl
        simpa using this
      have hbs : w.heap.size ≤ ((w1.alloc (.cells #[.int .u8 i.op] 5)).alloc (.cells #[.int .u8 (i.a / 256 % 256), .int .u8 (i.a % 256)] 5)).heap.size := by have := hB1.size; simp; omega
      replace hO := Lib.hid hO
      replace hr := Lib.hid hr
      replace hbs := Lib.hid hbs
      go_wp2_with (first
        | (at_builtin
           refine wpList_appB ((w1.alloc (.cells #[.int .u8 i.op] 5)).alloc (.cells #[.int .u8 (i.a / 256 % 256), .int .u8 (i.a % 256)] 5)) rfl (.tmp 127) (.tmp 133) rfl w.heap.size (.slice (some ⟨w1.heap.size, 0, none⟩) 1 1) [i.op] (by simp [Act.eval]) hO.out
             (w1.heap.size + 1 + 1) (some ⟨w1.heap.size + 1, 0, none⟩) 2 2 [i.a / 256 % 256, i.a % 256] (by simp [Act.eval]) hr.out rfl _ 3 rfl rfl (by omega) hbs.out ?_
           intro A3 c3 w3 hO3 hg3 hb3 hat3))
      refine bodyPost_ret (v := .tuple #[.slice A3 3 c3, .int .i64 0]) (by simp [results, Try.results23, go_sem]) rfl ?_
      rw [hec2.out, heb.out]
      exact ⟨A3, c3, rfl, hO3, hB1.trans ((((Below.refl _ _).alloc (Nat.le_refl _) _).alloc (by simp) _ : Below w1.heap.size w1 ((w1.alloc (.cells #[.int .u8 i.op] 5)).alloc (.cells #[.int .u8 (i.a / 256 % 256), .int .u8 (i.a % 256)] 5))).mono hB1.size) |>.trans hb3⟩
    · have rr := r0
      have hec : encC i = 1 := by
        rw [encC_s hC'.out hs'.out]
        simp [encCs, pOk, pn0, ps0, pn1, ps1, fitsI_1, fitsI_2, fitsU_1, fitsU_2]
        omega
      have heb : encB i = [] := by unfold encB; rw [hec]; rfl
      replace hec := Lib.hid hec
      replace heb := Lib.hid heb
      go_enter Try.func23, Try.ntmps23
      go_wp2_with fail
      refine (gs _).out.mono ?_
      rintro _ w1 ⟨rfl, hb1⟩
      generalize w.alloc (.cells #[.int .i64 i.at_, .int .i64 i.op, .int .i64 i.a, .int .i64 i.b, .int .i64 i.size] 28) = W at *
      have hI1 := hI.below hb1 hI.lt
      have hB1 := bnext hb0 hb1
      have d0 : w1.cell? ⟨w.heap.size, 0, none⟩ = some (.int .i64 i.at_) := hI1.cell 0
      have d1 : w1.cell? ⟨w.heap.size, 1, none⟩ = some (.int .i64 i.op) := hI1.cell 1
      have d2 : w1.cell? ⟨w.heap.size, 2, none⟩ = some (.int .i64 i.a) := hI1.cell 2
      have d3 : w1.cell? ⟨w.heap.size, 3, none⟩ = some (.int .i64 i.b) := hI1.cell 3
      have hlw := hI1.lt
      go_wp2_with fail
      refine (between_any i.a 0 65535 false _ (by simp; omega)).mono ?_
      rintro _ _ ⟨rfl, rfl⟩
      go_wp2_with fail
      refine bodyPost_ret (v := .tuple #[.slice none 0 0, .int .i64 1]) (by simp [results, Try.results23, go_sem]) rfl ?_
      rw [hec.out, heb.out]
      exact ⟨none, 0, rfl, OwnB.nil _ _, hB1⟩
  · have q0 : (i.b == 0) = false := by simpa using hb
    have hb' := Lib.hid hb
    have hec : encC i = 1 := by
      rw [encC_s hC'.out hs'.out]
      simp [encCs, pOk, pn0, ps0, pn1, ps1, fitsI_1, fitsI_2, fitsU_1, fitsU_2]
      omega
    have heb : encB i = [] := by unfold encB; rw [hec]; rfl
    replace hec := Lib.hid hec
    replace heb := Lib.hid heb
    go_enter Try.func23, Try.ntmps23
    go_wp2_with fail
    refine (gs _).out.mono ?_
    rintro _ w1 ⟨rfl, hb1⟩
    generalize w.alloc (.cells #[.int .i64 i.at_, .int .i64 i.op, .int .i64 i.a, .int .i64 i.b, .int .i64 i.size] 28) = W at *
    have hI1 := hI.below hb1 hI.lt
    have hB1 := bnext hb0 hb1
    have d0 : w1.cell? ⟨w.heap.size, 0, none⟩ = some (.int .i64 i.at_) := hI1.cell 0
    have d1 : w1.cell? ⟨w.heap.size, 1, none⟩ = some (.int .i64 i.op) := hI1.cell 1
    have d2 : w1.cell? ⟨w.heap.size, 2, none⟩ = some (.int .i64 i.a) := hI1.cell 2
    have d3 : w1.cell? ⟨w.heap.size, 3, none⟩ = some (.int .i64 i.b) := hI1.cell 3
    have hlw := hI1.lt
    go_wp2_with fail
    refine bodyPost_ret (v := .tuple #[.slice none 0 0, .int .i64 1]) (by simp [results, Try.results23, go_sem]) rfl ?_
    rw [hec.out, heb.out]
    exact ⟨none, 0, rfl, OwnB.nil _ _, hB1⟩

set_option maxRecDepth 100000 in
set_option maxHeartbeats 4000000 in
theorem renc_115 (i : Ins) (hi : i.In) (hC : isC i.op = true) (hs : sh i.op = 115) (w : World) :
    Calls Try.prog 23 #[i.val] w (BPost w (encB i) (encC i)) := by
  have gs := fun w => Lib.hid (rshape_any i.op w)
  rw [hC, hs] at gs
  have hop := isC_range hC
  have e8 : IntKind.u8.wrap i.op = i.op := by rw [u8_wrap]; omega
  have ea : IntKind.u8.wrap i.a = i.a % 256 := u8_wrap _
  have eb8 : IntKind.u8.wrap i.b = i.b % 256 := u8_wrap _
  have hI := Blk.new w 28 #[.int .i64 i.at_, .int .i64 i.op, .int .i64 i.a, .int .i64 i.b, .int .i64 i.size]
  have hb0 : Below w.heap.size w (w.alloc (.cells #[.int .i64 i.at_, .int .i64 i.op, .int .i64 i.a, .int .i64 i.b, .int .i64 i.size] 28)) := (Below.refl _ _).alloc (Nat.le_refl _) _
  have hC' := Lib.hid hC
  have hs' := Lib.hid hs
  clear hC hs
  unfold Ins.val
  by_cases hb : i.b = 0
  · have q0 : (i.b == 0) = true := by simpa using hb
    have hb' := Lib.hid hb
    clear hb
    by_cases r0 : (-32768) ≤ i.a ∧ i.a ≤ 32767
    · have rr := r0
      have hec : encCs 115 i = 0 := by
        have hz := hb'.out
        simp [encCs, pOk, pn0, ps0, pn1, fitsI_1, fitsI_2, fitsU_1, fitsU_2]
        omega
      have heb : encB i = [i.op, i.a / 256 % 256, i.a % 256] := by
        rw [encB_s hC'.out hs'.out, if_pos hec]
        simp [pn0, pn1, beN_1, beN_2, beN]
        omega
      have hec2 : encC i = 0 := by rw [encC_s hC'.out hs'.out]; exact hec
      clear hec
      replace hec2 := Lib.hid hec2
      replace heb := Lib.hid heb
      go_enter Try.func23, Try.ntmps23
      go_wp2_with fail
      refine (gs _).out.mono ?_
      rintro _ w1 ⟨rfl, hb1⟩
      generalize w.alloc (.cells #[.int .i64 i.at_, .int .i64 i.op, .int .i64 i.a, .int .i64 i.b, .int .i64 i.size] 28) = W at *
      have hI1 := hI.below hb1 hI.lt
      have hB1 := bnext hb0 hb1
      have d0 : w1.cell? ⟨w.heap.size, 0, none⟩ = some (.int .i64 i.at_) := hI1.cell 0
      have d1 : w1.cell? ⟨w.heap.size, 1, none⟩ = some (.int .i64 i.op) := hI1.cell 1
      have d2 : w1.cell? ⟨w.heap.size, 2, none⟩ = some (.int .i64 i.a) := hI1.cell 2
      have d3 : w1.cell? ⟨w.heap.size, 3, none⟩ = some (.int .i64 i.b) := hI1.cell 3
      have hlw := hI1.lt
      go_wp2_with fail
      refine (between_any i.a (-32768) 32767 true _ (by simp; omega)).mono ?_
      rintro _ _ ⟨rfl, rfl⟩
      have hO : OwnB ((w1.alloc (.cells #[.int .u8 i.op] 5)).alloc (.cells #[.int .u8 (i.a / 256 % 256), .int .u8 (i.a % 256)] 5)) w.heap.size (.slice (some ⟨w1.heap.size, 0, none⟩) 1 1) [i.op] := (OwnB.lit (xs := [i.op]) rfl hB1.size (by unfold maxLen; simp)).alloc _
      have hr : ReadsB ((w1.alloc (.cells #[.int .u8 i.op] 5)).alloc (.cells #[.int .u8 (i.a / 256 % 256), .int .u8 (i.a % 256)] 5)) (w1.heap.size + 1 + 1) (some ⟨w1.heap.size + 1, 0, none⟩) [i.a / 256 % 256, i.a % 256] := by
        have := ReadsB.new (w1.alloc (.cells #[.int .u8 i.op] 5)) [i.a / 256 % 256, i.a % 256] #[.int .u8 (i.a / 256 % 256), .int .u8 (i.a % 256)] 5 (0, 0) rfl
        simpa using this
      have hbs : w.heap.size ≤ ((w1.alloc (.cells #[.int .u8 i.op] 5)).alloc (.cells #[.int .u8 (i.a / 256 % 256), .int .u8 (i.a % 256)] 5)).heap.size := by have := hB1.size; simp; omega
      replace hO := Lib.hid hO
      replace hr := Lib.hid hr
      replace hbs := Lib.hid hbs
      go_wp2_with (first
        | (at_builtin
           refine wpList_appB ((w1.alloc (.cells #[.int .u8 i.op] 5)).alloc (.cells #[.int .u8 (i.a / 256 % 256), .int .u8 (i.a % 256)] 5)) rfl (.tmp 127) (.tmp 133) rfl w.heap.size (.slice (some ⟨w1.heap.size, 0, none⟩) 1 1) [i.op] (by simp [Act.eval]) hO.out
             (w1.heap.size + 1 + 1) (some ⟨w1.heap.size + 1, 0, none⟩) 2 2 [i.a / 256 % 256, i.a % 256] (by simp [Act.eval]) hr.out rfl _ 3 rfl rfl (by omega) hbs.out ?_
           intro A3 c3 w3 hO3 hg3 hb3 hat3))
      refine bodyPost_ret (v := .tuple #[.slice A3 3 c3, .int .i64 0]) (by simp [results, Try.results23, go_sem]) rfl ?_
      rw [hec2.out, heb.out]
      exact ⟨A3, c3, rfl, hO3, hB1.trans ((((Below.refl _ _).alloc (Nat.le_refl _) _).alloc (by simp) _ : Below w1.heap.size w1 ((w1.alloc (.cells #[.int .u8 i.op] 5)).alloc (.cells #[.int .u8 (i.a / 256 % 256), .int .u8 (i.a % 256)] 5))).mono hB1.size) |>.trans hb3⟩
    · have rr := r0
      have hec : encC i = 1 := by
        rw [encC_s hC'.out hs'.out]
        simp [encCs, pOk, pn0, ps0, pn1, ps1, fitsI_1, fitsI_2, fitsU_1, fitsU_2]
        omega
      have heb : encB i = [] := by unfold encB; rw [hec]; rfl
      replace hec := Lib.hid hec
      replace heb := Lib.hid heb
      go_enter Try.func23, Try.ntmps23
      go_wp2_with fail
      refine (gs _).out.mono ?_
      rintro _ w1 ⟨rfl, hb1⟩
      generalize w.alloc (.cells #[.int .i64 i.at_, .int .i64 i.op, .int .i64 i.a, .int .i64 i.b, .int .i64 i.size] 28) = W at *
      have hI1 := hI.below hb1 hI.lt
      have hB1 := bnext hb0 hb1
      have d0 : w1.cell? ⟨w.heap.size, 0, none⟩ = some (.int .i64 i.at_) := hI1.cell 0
      have d1 : w1.cell? ⟨w.heap.size, 1, none⟩ = some (.int .i64 i.op) := hI1.cell 1
      have d2 : w1.cell? ⟨w.heap.size, 2, none⟩ = some (.int .i64 i.a) := hI1.cell 2
      have d3 : w1.cell? ⟨w.heap.size, 3, none⟩ = some (.int .i64 i.b) := hI1.cell 3
      have hlw := hI1.lt
      go_wp2_with fail
      refine (between_any i.a (-32768) 32767 false _ (by simp; omega)).mono ?_
      rintro _ _ ⟨rfl, rfl⟩
      go_wp2_with fail
      refine bodyPost_ret (v := .tuple #[.slice none 0 0, .int .i64 1]) (by simp [results, Try.results23, go_sem]) rfl ?_
      rw [hec.out, heb.out]
      exact ⟨none, 0, rfl, OwnB.nil _ _, hB1⟩
  · have q0 : (i.b == 0) = false := by simpa using hb
    have hb' := Lib.hid hb
    have hec : encC i = 1 := by
      rw [encC_s hC'.out hs'.out]
      simp [encCs, pOk, pn0, ps0, pn1, ps1, fitsI_1, fitsI_2, fitsU_1, fitsU_2]
      omega
    have heb : encB i = [] := by unfold encB; rw [hec]; rfl
    replace hec := Lib.hid hec
    replace heb := Lib.hid heb
    go_enter Try.func23, Try.ntmps23
    go_wp2_with fail
    refine (gs _).out.mono ?_
    rintro _ w1 ⟨rfl, hb1⟩
    generalize w.alloc (.cells #[.int .i64 i.at_, .int .i64 i.op, .int .i64 i.a, .int .i64 i.b, .int .i64 i.size] 28) = W at *
    have hI1 := hI.below hb1 hI.lt
    have hB1 := bnext hb0 hb1
    have d0 : w1.cell? ⟨w.heap.size, 0, none⟩ = some (.int .i64 i.at_) := hI1.cell 0
    have d1 : w1.cell? ⟨w.heap.size, 1, none⟩ = some (.int .i64 i.op) := hI1.cell 1
    have d2 : w1.cell? ⟨w.heap.size, 2, none⟩ = some (.int .i64 i.a) := hI1.cell 2
    have d3 : w1.cell? ⟨w.heap.size, 3, none⟩ = some (.int .i64 i.b) := hI1.cell 3
    have hlw := hI1.lt
    go_wp2_with fail
    refine bodyPost_ret (v := .tuple #[.slice none 0 0, .int .i64 1]) (by simp [results, Try.results23, go_sem]) rfl ?_
    rw [hec.out, heb.out]
    exact ⟨none, 0, rfl, OwnB.nil _ _, hB1⟩

set_option maxRecDepth 100000 in
set_option maxHeartbeats 4000000 in
theorem renc_116 (i : Ins) (hi : i.In) (hC : isC i.op = true) (hs : sh i.op = 116) (w : World) :
    Calls Try.prog 23 #[i.val] w (BPost w (encB i) (encC i)) := by
  have gs := fun w => Lib.hid (rshape_any i.op w)
  rw [hC, hs] at gs
  have hop := isC_range hC
  have e8 : IntKind.u8.wrap i.op = i.op := by rw [u8_wrap]; omega
  have ea : IntKind.u8.wrap i.a = i.a % 256 := u8_wrap _
  have eb8 : IntKind.u8.wrap i.b = i.b % 256 := u8_wrap _
  have hI := Blk.new w 28 #[.int .i64 i.at_, .int .i64 i.op, .int .i64 i.a, .int .i64 i.b, .int .i64 i.size]
  have hb0 : Below w.heap.size w (w.alloc (.cells #[.int .i64 i.at_, .int .i64 i.op, .int .i64 i.a, .int .i64 i.b, .int .i64 i.size] 28)) := (Below.refl _ _).alloc (Nat.le_refl _) _
  have hC' := Lib.hid hC
  have hs' := Lib.hid hs
  clear hC hs
  unfold Ins.val
  by_cases hb : i.b = 0
  · have q0 : (i.b == 0) = true := by simpa using hb
    have hb' := Lib.hid hb
    clear hb
    by_cases r0 : 0 ≤ i.at_ ∧ i.at_ ≤ 4096
    · have rr := r0
      by_cases r1 : 0 ≤ i.a ∧ i.a ≤ 4096
      · have rr := r1
        have hec : encCs 116 i = 0 := by
          have hz := hb'.out
          simp [encCs, pOk, pn0, ps0, pn1, fitsI_1, fitsI_2, fitsU_1, fitsU_2]
          omega
        have heb : encB i = [i.op, (i.a - i.at_) / 256 % 256, (i.a - i.at_) % 256] := by
          rw [encB_s hC'.out hs'.out, if_pos hec]
          simp [pn0, pn1, beN_1, beN_2, beN]
          omega
        have hec2 : encC i = 0 := by rw [encC_s hC'.out hs'.out]; exact hec
        clear hec
        replace hec2 := Lib.hid hec2
        replace heb := Lib.hid heb
        go_enter Try.func23, Try.ntmps23
        go_wp2_with fail
        refine (gs _).out.mono ?_
        rintro _ w1 ⟨rfl, hb1⟩
        generalize w.alloc (.cells #[.int .i64 i.at_, .int .i64 i.op, .int .i64 i.a, .int .i64 i.b, .int .i64 i.size] 28) = W at *
        have hI1 := hI.below hb1 hI.lt
        have hB1 := bnext hb0 hb1
        have d0 : w1.cell? ⟨w.heap.size, 0, none⟩ = some (.int .i64 i.at_) := hI1.cell 0
        have d1 : w1.cell? ⟨w.heap.size, 1, none⟩ = some (.int .i64 i.op) := hI1.cell 1
        have d2 : w1.cell? ⟨w.heap.size, 2, none⟩ = some (.int .i64 i.a) := hI1.cell 2
        have d3 : w1.cell? ⟨w.heap.size, 3, none⟩ = some (.int .i64 i.b) := hI1.cell 3
        have hlw := hI1.lt
        go_wp2_with fail
        refine (between_any i.at_ 0 4096 true _ (by simp; omega)).mono ?_
        rintro _ _ ⟨rfl, rfl⟩
        go_wp2_with fail
        refine (between_any i.a 0 4096 true _ (by simp; omega)).mono ?_
        rintro _ _ ⟨rfl, rfl⟩
        have hO : OwnB ((w1.alloc (.cells #[.int .u8 i.op] 5)).alloc (.cells #[.int .u8 ((i.a - i.at_) / 256 % 256), .int .u8 ((i.a - i.at_) % 256)] 5)) w.heap.size (.slice (some ⟨w1.heap.size, 0, none⟩) 1 1) [i.op] := (OwnB.lit (xs := [i.op]) rfl hB1.size (by unfold maxLen; simp)).alloc _
        have hr : ReadsB ((w1.alloc (.cells #[.int .u8 i.op] 5)).alloc (.cells #[.int .u8 ((i.a - i.at_) / 256 % 256), .int .u8 ((i.a - i.at_) % 256)] 5)) (w1.heap.size + 1 + 1) (some ⟨w1.heap.size + 1, 0, none⟩) [(i.a - i.at_) / 256 % 256, (i.a - i.at_) % 256] := by
          have := ReadsB.new (w1.alloc (.cells #[.int .u8 i.op] 5)) [(i.a - i.at_) / 256 % 256, (i.a - i.at_) % 256] #[.int .u8 ((i.a - i.at_) / 256 % 256), .int .u8 ((i.a - i.at_) % 256)] 5 (0, 0) rfl
          simpa using this
        have hbs : w.heap.size ≤ ((w1.alloc (.cells #[.int .u8 i.op] 5)).alloc (.cells #[.int .u8 ((i.a - i.at_) / 256 % 256), .int .u8 ((i.a - i.at_) % 256)] 5)).heap.size := by have := hB1.size; simp; omega
        replace hO := Lib.hid hO
        replace hr := Lib.hid hr
        replace hbs := Lib.hid hbs
        go_wp2_with (first
          | (at_builtin
             refine wpList_appB ((w1.alloc (.cells #[.int .u8 i.op] 5)).alloc (.cells #[.int .u8 ((i.a - i.at_) / 256 % 256), .int .u8 ((i.a - i.at_) % 256)] 5)) rfl (.tmp 127) (.tmp 133) rfl w.heap.size (.slice (some ⟨w1.heap.size, 0, none⟩) 1 1) [i.op] (by simp [Act.eval]) hO.out
               (w1.heap.size + 1 + 1) (some ⟨w1.heap.size + 1, 0, none⟩) 2 2 [(i.a - i.at_) / 256 % 256, (i.a - i.at_) % 256] (by simp [Act.eval]) hr.out rfl _ 3 rfl rfl (by omega) hbs.out ?_
             intro A3 c3 w3 hO3 hg3 hb3 hat3))
        refine bodyPost_ret (v := .tuple #[.slice A3 3 c3, .int .i64 0]) (by simp [results, Try.results23, go_sem]) rfl ?_
        rw [hec2.out, heb.out]
        exact ⟨A3, c3, rfl, hO3, hB1.trans ((((Below.refl _ _).alloc (Nat.le_refl _) _).alloc (by simp) _ : Below w1.heap.size w1 ((w1.alloc (.cells #[.int .u8 i.op] 5)).alloc (.cells #[.int .u8 ((i.a - i.at_) / 256 % 256), .int .u8 ((i.a - i.at_) % 256)] 5))).mono hB1.size) |>.trans hb3⟩
      · have rr := r1
        have hec : encC i = 1 := by
          rw [encC_s hC'.out hs'.out]
          simp [encCs, pOk, pn0, ps0, pn1, ps1, fitsI_1, fitsI_2, fitsU_1, fitsU_2]
          omega
        have heb : encB i = [] := by unfold encB; rw [hec]; rfl
        replace hec := Lib.hid hec
        replace heb := Lib.hid heb
        go_enter Try.func23, Try.ntmps23
        go_wp2_with fail
        refine (gs _).out.mono ?_
        rintro _ w1 ⟨rfl, hb1⟩
        generalize w.alloc (.cells #[.int .i64 i.at_, .int .i64 i.op, .int .i64 i.a, .int .i64 i.b, .int .i64 i.size] 28) = W at *
        have hI1 := hI.below hb1 hI.lt
        have hB1 := bnext hb0 hb1
        have d0 : w1.cell? ⟨w.heap.size, 0, none⟩ = some (.int .i64 i.at_) := hI1.cell 0
        have d1 : w1.cell? ⟨w.heap.size, 1, none⟩ = some (.int .i64 i.op) := hI1.cell 1
        have d2 : w1.cell? ⟨w.heap.size, 2, none⟩ = some (.int .i64 i.a) := hI1.cell 2
        have d3 : w1.cell? ⟨w.heap.size, 3, none⟩ = some (.int .i64 i.b) := hI1.cell 3
        have hlw := hI1.lt
        go_wp2_with fail
        refine (between_any i.at_ 0 4096 true _ (by simp; omega)).mono ?_
        rintro _ _ ⟨rfl, rfl⟩
        go_wp2_with fail
        refine (between_any i.a 0 4096 false _ (by simp; omega)).mono ?_
        rintro _ _ ⟨rfl, rfl⟩
        go_wp2_with fail
        refine bodyPost_ret (v := .tuple #[.slice none 0 0, .int .i64 1]) (by simp [results, Try.results23, go_sem]) rfl ?_
        rw [hec.out, heb.out]
        exact ⟨none, 0, rfl, OwnB.nil _ _, hB1⟩
    · have rr := r0
      have hec : encC i = 1 := by
        rw [encC_s hC'.out hs'.out]
        simp [encCs, pOk, pn0, ps0, pn1, ps1, fitsI_1, fitsI_2, fitsU_1, fitsU_2]
        omega
      have heb : encB i = [] := by unfold encB; rw [hec]; rfl
      replace hec := Lib.hid hec
      replace heb := Lib.hid heb
      go_enter Try.func23, Try.ntmps23
      go_wp2_with fail
      refine (gs _).out.mono ?_
      rintro _ w1 ⟨rfl, hb1⟩
      generalize w.alloc (.cells #[.int .i64 i.at_, .int .i64 i.op, .int .i64 i.a, .int .i64 i.b, .int .i64 i.size] 28) = W at *
      have hI1 := hI.below hb1 hI.lt
      have hB1 := bnext hb0 hb1
      have d0 : w1.cell? ⟨w.heap.size, 0, none⟩ = some (.int .i64 i.at_) := hI1.cell 0
      have d1 : w1.cell? ⟨w.heap.size, 1, none⟩ = some (.int .i64 i.op) := hI1.cell 1
      have d2 : w1.cell? ⟨w.heap.size, 2, none⟩ = some (.int .i64 i.a) := hI1.cell 2
      have d3 : w1.cell? ⟨w.heap.size, 3, none⟩ = some (.int .i64 i.b) := hI1.cell 3
      have hlw := hI1.lt
      go_wp2_with fail
      refine (between_any i.at_ 0 4096 false _ (by simp; omega)).mono ?_
      rintro _ _ ⟨rfl, rfl⟩
      go_wp2_with fail
      refine bodyPost_ret (v := .tuple #[.slice none 0 0, .int .i64 1]) (by simp [results, Try.results23, go_sem]) rfl ?_
      rw [hec.out, heb.out]
      exact ⟨none, 0, rfl, OwnB.nil _ _, hB1⟩
  · have q0 : (i.b == 0) = false := by simpa using hb
    have hb' := Lib.hid hb
    have hec : encC i = 1 := by
      rw [encC_s hC'.out hs'.out]
      simp [encCs, pOk, pn0, ps0, pn1, ps1, fitsI_1, fitsI_2, fitsU_1, fitsU_2]
      omega
    have heb : encB i = [] := by unfold encB; rw [hec]; rfl
    replace hec := Lib.hid hec
    replace heb := Lib.hid heb
    go_enter Try.func23, Try.ntmps23
    go_wp2_with fail
    refine (gs _).out.mono ?_
    rintro _ w1 ⟨rfl, hb1⟩
    generalize w.alloc (.cells #[.int .i64 i.at_, .int .i64 i.op, .int .i64 i.a, .int .i64 i.b, .int .i64 i.size] 28) = W at *
    have hI1 := hI.below hb1 hI.lt
    have hB1 := bnext hb0 hb1
    have d0 : w1.cell? ⟨w.heap.size, 0, none⟩ = some (.int .i64 i.at_) := hI1.cell 0
    have d1 : w1.cell? ⟨w.heap.size, 1, none⟩ = some (.int .i64 i.op) := hI1.cell 1
    have d2 : w1.cell? ⟨w.heap.size, 2, none⟩ = some (.int .i64 i.a) := hI1.cell 2
    have d3 : w1.cell? ⟨w.heap.size, 3, none⟩ = some (.int .i64 i.b) := hI1.cell 3
    have hlw := hI1.lt
    go_wp2_with fail
    refine bodyPost_ret (v := .tuple #[.slice none 0 0, .int .i64 1]) (by simp [results, Try.results23, go_sem]) rfl ?_
    rw [hec.out, heb.out]
    exact ⟨none, 0, rfl, OwnB.nil _ _, hB1⟩

set_option maxRecDepth 100000 in
set_option maxHeartbeats 4000000 in
theorem renc_105 (i : Ins) (hi : i.In) (hC : isC i.op = true) (hs : sh i.op = 105) (w : World) :
    Calls Try.prog 23 #[i.val] w (BPost w (encB i) (encC i)) := by
  have gs := fun w => Lib.hid (rshape_any i.op w)
  rw [hC, hs] at gs
  have hop := isC_range hC
  have e8 : IntKind.u8.wrap i.op = i.op := by rw [u8_wrap]; omega
  have ea : IntKind.u8.wrap i.a = i.a % 256 := u8_wrap _
  have eb8 : IntKind.u8.wrap i.b = i.b % 256 := u8_wrap _
  have hI := Blk.new w 28 #[.int .i64 i.at_, .int .i64 i.op, .int .i64 i.a, .int .i64 i.b, .int .i64 i.size]
  have hb0 : Below w.heap.size w (w.alloc (.cells #[.int .i64 i.at_, .int .i64 i.op, .int .i64 i.a, .int .i64 i.b, .int .i64 i.size] 28)) := (Below.refl _ _).alloc (Nat.le_refl _) _
  have hC' := Lib.hid hC
  have hs' := Lib.hid hs
  clear hC hs
  unfold Ins.val
  by_cases r0 : 0 ≤ i.a ∧ i.a ≤ 255
  · have rr := r0
    by_cases r1 : (-128) ≤ i.b ∧ i.b ≤ 127
    · have rr := r1
      have hec : encCs 105 i = 0 := by
        simp [encCs, pOk, pn0, ps0, pn1, ps1, fitsI_1, fitsI_2, fitsU_1, fitsU_2]
        omega
      have heb : encB i = [i.op, i.a % 256, i.b % 256] := by
        rw [encB_s hC'.out hs'.out, if_pos hec]
        simp [pn0, pn1, beN_1, beN_2, beN]
        omega
      have hec2 : encC i = 0 := by rw [encC_s hC'.out hs'.out]; exact hec
      clear hec
      replace hec2 := Lib.hid hec2
      replace heb := Lib.hid heb
      go_enter Try.func23, Try.ntmps23
      go_wp2_with fail
      refine (gs _).out.mono ?_
      rintro _ w1 ⟨rfl, hb1⟩
      generalize w.alloc (.cells #[.int .i64 i.at_, .int .i64 i.op, .int .i64 i.a, .int .i64 i.b, .int .i64 i.size] 28) = W at *
      have hI1 := hI.below hb1 hI.lt
      have hB1 := bnext hb0 hb1
      have d0 : w1.cell? ⟨w.heap.size, 0, none⟩ = some (.int .i64 i.at_) := hI1.cell 0
      have d1 : w1.cell? ⟨w.heap.size, 1, none⟩ = some (.int .i64 i.op) := hI1.cell 1
      have d2 : w1.cell? ⟨w.heap.size, 2, none⟩ = some (.int .i64 i.a) := hI1.cell 2
      have d3 : w1.cell? ⟨w.heap.size, 3, none⟩ = some (.int .i64 i.b) := hI1.cell 3
      have hlw := hI1.lt
      go_wp2_with fail
      refine (between_any i.a 0 255 true _ (by simp; omega)).mono ?_
      rintro _ _ ⟨rfl, rfl⟩
      go_wp2_with fail
      refine (between_any i.b (-128) 127 true _ (by simp; omega)).mono ?_
      rintro _ _ ⟨rfl, rfl⟩
      have hO : OwnB ((w1.alloc (.cells #[.int .u8 i.op] 5)).alloc (.cells #[.int .u8 (i.a % 256), .int .u8 (i.b % 256)] 5)) w.heap.size (.slice (some ⟨w1.heap.size, 0, none⟩) 1 1) [i.op] := (OwnB.lit (xs := [i.op]) rfl hB1.size (by unfold maxLen; simp)).alloc _
      have hr : ReadsB ((w1.alloc (.cells #[.int .u8 i.op] 5)).alloc (.cells #[.int .u8 (i.a % 256), .int .u8 (i.b % 256)] 5)) (w1.heap.size + 1 + 1) (some ⟨w1.heap.size + 1, 0, none⟩) [i.a % 256, i.b % 256] := by
        have := ReadsB.new (w1.alloc (.cells #[.int .u8 i.op] 5)) [i.a % 256, i.b % 256] #[.int .u8 (i.a % 256), .int .u8 (i.b % 256)] 5 (0, 0) rfl
        simpa using this
      have hbs : w.heap.size ≤ ((w1.alloc (.cells #[.int .u8 i.op] 5)).alloc (.cells #[.int .u8 (i.a % 256), .int .u8 (i.b % 256)] 5)).heap.size := by have := hB1.size; simp; omega
      replace hO := Lib.hid hO
      replace hr := Lib.hid hr
      replace hbs := Lib.hid hbs
      go_wp2_with (first
        | (at_builtin
           refine wpList_appB ((w1.alloc (.cells #[.int .u8 i.op] 5)).alloc (.cells #[.int .u8 (i.a % 256), .int .u8 (i.b % 256)] 5)) rfl (.tmp 118) (.tmp 125) rfl w.heap.size (.slice (some ⟨w1.heap.size, 0, none⟩) 1 1) [i.op] (by simp [Act.eval]) hO.out
             (w1.heap.size + 1 + 1) (some ⟨w1.heap.size + 1, 0, none⟩) 2 2 [i.a % 256, i.b % 256] (by simp [Act.eval]) hr.out rfl _ 3 rfl rfl (by omega) hbs.out ?_
           intro A3 c3 w3 hO3 hg3 hb3 hat3))
      refine bodyPost_ret (v := .tuple #[.slice A3 3 c3, .int .i64 0]) (by simp [results, Try.results23, go_sem]) rfl ?_
      rw [hec2.out, heb.out]
      exact ⟨A3, c3, rfl, hO3, hB1.trans ((((Below.refl _ _).alloc (Nat.le_refl _) _).alloc (by simp) _ : Below w1.heap.size w1 ((w1.alloc (.cells #[.int .u8 i.op] 5)).alloc (.cells #[.int .u8 (i.a % 256), .int .u8 (i.b % 256)] 5))).mono hB1.size) |>.trans hb3⟩
    · have rr := r1
      have hec : encC i = 1 := by
        rw [encC_s hC'.out hs'.out]
        simp [encCs, pOk, pn0, ps0, pn1, ps1, fitsI_1, fitsI_2, fitsU_1, fitsU_2]
        omega
      have heb : encB i = [] := by unfold encB; rw [hec]; rfl
      replace hec := Lib.hid hec
      replace heb := Lib.hid heb
      go_enter Try.func23, Try.ntmps23
      go_wp2_with fail
      refine (gs _).out.mono ?_
      rintro _ w1 ⟨rfl, hb1⟩
      generalize w.alloc (.cells #[.int .i64 i.at_, .int .i64 i.op, .int .i64 i.a, .int .i64 i.b, .int .i64 i.size] 28) = W at *
      have hI1 := hI.below hb1 hI.lt
      have hB1 := bnext hb0 hb1
      have d0 : w1.cell? ⟨w.heap.size, 0, none⟩ = some (.int .i64 i.at_) := hI1.cell 0
      have d1 : w1.cell? ⟨w.heap.size, 1, none⟩ = some (.int .i64 i.op) := hI1.cell 1
      have d2 : w1.cell? ⟨w.heap.size, 2, none⟩ = some (.int .i64 i.a) := hI1.cell 2
      have d3 : w1.cell? ⟨w.heap.size, 3, none⟩ = some (.int .i64 i.b) := hI1.cell 3
      have hlw := hI1.lt
      go_wp2_with fail
      refine (between_any i.a 0 255 true _ (by simp; omega)).mono ?_
      rintro _ _ ⟨rfl, rfl⟩
      go_wp2_with fail
      refine (between_any i.b (-128) 127 false _ (by simp; omega)).mono ?_
      rintro _ _ ⟨rfl, rfl⟩
      go_wp2_with fail
      refine bodyPost_ret (v := .tuple #[.slice none 0 0, .int .i64 1]) (by simp [results, Try.results23, go_sem]) rfl ?_
      rw [hec.out, heb.out]
      exact ⟨none, 0, rfl, OwnB.nil _ _, hB1⟩
  · have rr := r0
    have hec : encC i = 1 := by
      rw [encC_s hC'.out hs'.out]
      simp [encCs, pOk, pn0, ps0, pn1, ps1, fitsI_1, fitsI_2, fitsU_1, fitsU_2]
      omega
    have heb : encB i = [] := by unfold encB; rw [hec]; rfl
    replace hec := Lib.hid hec
    replace heb := Lib.hid heb
    go_enter Try.func23, Try.ntmps23
    go_wp2_with fail
    refine (gs _).out.mono ?_
    rintro _ w1 ⟨rfl, hb1⟩
    generalize w.alloc (.cells #[.int .i64 i.at_, .int .i64 i.op, .int .i64 i.a, .int .i64 i.b, .int .i64 i.size] 28) = W at *
    have hI1 := hI.below hb1 hI.lt
    have hB1 := bnext hb0 hb1
    have d0 : w1.cell? ⟨w.heap.size, 0, none⟩ = some (.int .i64 i.at_) := hI1.cell 0
    have d1 : w1.cell? ⟨w.heap.size, 1, none⟩ = some (.int .i64 i.op) := hI1.cell 1
    have d2 : w1.cell? ⟨w.heap.size, 2, none⟩ = some (.int .i64 i.a) := hI1.cell 2
    have d3 : w1.cell? ⟨w.heap.size, 3, none⟩ = some (.int .i64 i.b) := hI1.cell 3
    have hlw := hI1.lt
    go_wp2_with fail
    refine (between_any i.a 0 255 false _ (by simp; omega)).mono ?_
    rintro _ _ ⟨rfl, rfl⟩
    go_wp2_with fail
    refine bodyPost_ret (v := .tuple #[.slice none 0 0, .int .i64 1]) (by simp [results, Try.results23, go_sem]) rfl ?_
    rw [hec.out, heb.out]
    exact ⟨none, 0, rfl, OwnB.nil _ _, hB1⟩
end Go.Proofs.Ytcinmgifadmbeaa
