/- A note's bytes: the program's. -/
import Derived.Test.YtdilccihhelilaaNoteH
namespace Go.Proofs.Ytdilccihhelilaa
open Go.RowKit
set_option linter.unusedVariables false
set_option linter.unusedSimpArgs false

/-- A writer that holds xs, made at a heap of this size. -/
def WS (w : World) (base g : Nat) (most : Int) (xs : List Int) : Prop := ∃ F, Wr w F base g most xs
theorem WS.keep {w w' : World} {base g : Nat} {most : Int} {xs : List Int} (h : WS w base g most xs) (hb : Below w.heap.size w w') : WS w' base g most xs := by
  obtain ⟨F, hW⟩ := h
  exact ⟨F, hW.below hb⟩
theorem WS.le {w : World} {base g : Nat} {most : Int} {xs : List Int} (h : WS w base g most xs) : base ≤ w.heap.size := by
  obtain ⟨F, hW⟩ := h
  exact hW.base_le
theorem WS.uint {w : World} {base g : Nat} {most : Int} {xs : List Int} (h : WS w base g most xs) (n : Nat) (x : Int) (h1 : 1 ≤ n) (h8 : n ≤ 8) (hx0 : 0 ≤ x) (hx : x < 256 ^ n) (hr : (xs.length : Int) + n ≤ most) :
    Calls Try.prog 21 #[.pointer (some ⟨g, 0, none⟩), .int .i64 n, .int .u64 x] w fun e w' => e = .returned (.int .i64 0) ∧ WS w' base g most (xs ++ beN n x) ∧ Below base w w' := by
  obtain ⟨F, hW⟩ := h
  refine (wuint_ok F base g most xs n x w hW h1 h8 hx0 hx hr).mono ?_
  rintro _ w' ⟨rfl, hW', hT⟩
  exact ⟨rfl, ⟨_, hW'⟩, hT.below hW.base_le (fun k hk => (hW.lt k hk).1)⟩
theorem WS.put {w : World} {base g : Nat} {most : Int} {xs : List Int} (h : WS w base g most xs) (e : Ent) (ho : e.ok) (hi : e.In) (hr : (xs.length : Int) + 14 ≤ most) :
    Calls Try.prog 22 #[.pointer (some ⟨g, 0, none⟩), e.val] w fun x w' => x = .returned (.tuple #[]) ∧ WS w' base g most (xs ++ encE e) ∧ Below base w w' := by
  obtain ⟨F, hW⟩ := h
  refine (put_any F base g most xs e w hW ho hi hr).mono ?_
  rintro _ w' ⟨rfl, hW', hT⟩
  exact ⟨rfl, ⟨_, hW'⟩, hT.below hW.base_le (fun k hk => (hW.lt k hk).1)⟩

def noteB (what view n : Int) (es : List Ent) : List Int := (((beN 1 what ++ beN 4 view) ++ beN 4 n) ++ beN 4 es.length) ++ es.flatMap encE
def noteO (what view n : Int) (es : List Ent) : List Int := if nErr what view n es = 0 then noteB what view n es else []
theorem flat_take {es : List Ent} {k : Nat} {x : Ent} (h : es[k]? = some x) : (es.take (k + 1)).flatMap encE = (es.take k).flatMap encE ++ encE x := by
  rw [take_next h, List.flatMap_append]
  simp
theorem flat_length (es : List Ent) : (es.flatMap encE).length = es.length * 14 := by
  induction es with
  | nil => rfl
  | cons e es ih => rw [List.flatMap_cons, List.length_append, encE_length, ih, List.length_cons]; omega
theorem noteB_length (what view n : Int) (es : List Ent) : (noteB what view n es).length = 13 + 14 * es.length := by
  unfold noteB
  rw [List.length_append, flat_length]
  simp [beN_length]
  omega
theorem allOk_at {es : List Ent} {k : Nat} {x : Ent} (h : allOk es = true) (hx : es[k]? = some x) : x.ok := by
  by_cases ho : x.ok
  · exact ho
  · have := allOk_no hx ho
    rw [this] at h
    cases h
theorem inV_in {v : Int} (h : inV v = true) : 0 ≤ v ∧ v ≤ 2147483647 := by unfold inV at h; simpa using h
theorem nErr_zero {what view n : Int} {es : List Ent} (h : nErr what view n es = 0) : (0 ≤ what ∧ what ≤ 5) ∧ (0 ≤ view ∧ view ≤ 2147483647) ∧ (0 ≤ n ∧ n ≤ 2147483647) ∧ es.length ≤ 4096 ∧ allOk es = true := by
  unfold nErr at h
  by_cases h1 : what < 0 ∨ 5 < what ∨ inV view = false ∨ inV n = false
  · rw [if_pos h1] at h; omega
  · rw [if_neg h1] at h
    by_cases h2 : 4096 < es.length
    · rw [if_pos h2] at h; omega
    · rw [if_neg h2] at h
      cases h3 : allOk es with
      | false => rw [h3, if_neg (by decide)] at h; omega
      | true =>
        refine ⟨by omega, inV_in ?_, inV_in ?_, by omega, rfl⟩
        · cases hv : inV view with
          | true => rfl
          | false => exact absurd (.inr (.inr (.inl hv))) h1
        · cases hv : inV n with
          | true => rfl
          | false => exact absurd (.inr (.inr (.inr hv))) h1
theorem nErr_or (what view n : Int) (es : List Ent) : nErr what view n es = 0 ∨ nErr what view n es = 1 ∨ nErr what view n es = 2 := by
  unfold nErr
  split
  · exact .inr (.inl rfl)
  · split
    · exact .inr (.inr rfl)
    · split
      · exact .inl rfl
      · exact .inr (.inl rfl)
theorem bnextN {a b c : World} (h : Below a.heap.size a b) (k : Below b.heap.size b c) : Below a.heap.size a c := h.trans (k.mono h.size)
theorem idx30 (a b c : Int) (w : World) : (Instr.index 63 (.agg #[.int .i64 a, .int .i64 b, .int .i64 c]) (.int .i64 0)).run Try.prog w = .ok (.int .i64 a) w := by kernel_rfl
theorem idx31 (a b c : Int) (w : World) : (Instr.index 63 (.agg #[.int .i64 a, .int .i64 b, .int .i64 c]) (.int .i64 1)).run Try.prog w = .ok (.int .i64 b) w := by kernel_rfl
theorem idx32 (a b c : Int) (w : World) : (Instr.index 63 (.agg #[.int .i64 a, .int .i64 b, .int .i64 c]) (.int .i64 2)).run Try.prog w = .ok (.int .i64 c) w := by kernel_rfl
/-- What a call that hands out a note's bytes comes to. -/
def NPost (w : World) (bs : List Int) (code : Int) (x : Ending) (w' : World) : Prop :=
  ∃ A c, x = .returned (.tuple #[.slice A bs.length c, .int .i64 code]) ∧ OwnB w' w.heap.size (.slice A bs.length c) bs ∧ Below w.heap.size w w'

set_option maxRecDepth 100000 in
set_option maxHeartbeats 4000000 in
theorem note_no (what view n : Int) (A : Option Addr) (c : Nat) (es : List Ent) (w : World) (hr : ReadsE w w.heap.size A es) (hi : InL es) (hv : in64 view) (hn : in64 n) (hm : es.length ≤ maxLen) (code : Int) (hc : nErr what view n es = code) (hne : ¬ code = 0) : Calls Try.prog 9 #[.agg #[.int .i64 what, .int .i64 view, .int .i64 n, .slice A es.length c]] w (NPost w [] code) := by
  have hN0 := Blk.new w 33 #[.int .i64 what, .int .i64 view, .int .i64 n, .slice A es.length c]
  have hB0 : Below w.heap.size w (w.alloc (.cells #[.int .i64 what, .int .i64 view, .int .i64 n, .slice A es.length c] 33)) := (Below.refl _ _).alloc (Nat.le_refl _) _
  have gc := Lib.hid (chk_any what view n A c es (w.alloc (.cells #[.int .i64 what, .int .i64 view, .int .i64 n, .slice A es.length c] 33)) ((ReadsE.below hr hB0) |> fun h => Reads.more h hB0.size) hi hv hn hm)
  have hcc : code = 1 ∨ code = 2 ∨ code = 3 ∨ code = 4 := by have := nErr_or what view n es; omega
  rw [hc] at gc
  clear hc
  go_enter Try.func9, Try.ntmps9
  go_wp2_with fail
  refine gc.out.mono ?_
  rintro _ w1 ⟨hb1, ⟨h0, _⟩ | ⟨_, jg, rfl, hJ⟩⟩
  · exact absurd h0 hne
  · have hB1 := hB0.trans (hb1.mono hB0.size)
    have ht := Lib.hid (told_any jg code w1 hcc hJ)
    unfold joinV at *
    go_wp2_with fail
    refine ht.out.mono ?_
    rintro _ w2 ⟨rfl, hw2⟩
    subst hw2
    go_wp2_with fail
    refine bodyPost_ret (v := .tuple #[.slice none 0 0, .int .i64 code]) (by simp [results, Try.results9, go_sem]) rfl ?_
    exact ⟨none, 0, rfl, OwnB.nil _ _, hB1⟩
set_option maxRecDepth 100000 in
set_option maxHeartbeats 4000000 in
theorem note_yes (what view n : Int) (A : Option Addr) (c : Nat) (es : List Ent) (w : World) (hr : ReadsE w w.heap.size A es) (hi : InL es) (hv : in64 view) (hn : in64 n) (hm : es.length ≤ maxLen) (hc : nErr what view n es = 0) : Calls Try.prog 9 #[.agg #[.int .i64 what, .int .i64 view, .int .i64 n, .slice A es.length c]] w (NPost w (noteB what view n es) 0) := by
  have hN0 := Blk.new w 33 #[.int .i64 what, .int .i64 view, .int .i64 n, .slice A es.length c]
  have hB0 : Below w.heap.size w (w.alloc (.cells #[.int .i64 what, .int .i64 view, .int .i64 n, .slice A es.length c] 33)) := (Below.refl _ _).alloc (Nat.le_refl _) _
  have gc := Lib.hid (chk_any what view n A c es (w.alloc (.cells #[.int .i64 what, .int .i64 view, .int .i64 n, .slice A es.length c] 33)) ((ReadsE.below hr hB0) |> fun h => Reads.more h hB0.size) hi hv hn hm)
  obtain ⟨⟨z0, z1⟩, ⟨z2, z3⟩, ⟨z4, z5⟩, z6, z7⟩ := nErr_zero hc
  rw [hc] at gc
  obtain ⟨L, hL⟩ : ∃ L, L = es.length := ⟨_, rfl⟩
  have hmost : (13 + 14 * (es.length : Int)) ≤ 57357 := by omega
  have q1 : wrap64 (14 * (es.length : Int)) = 14 * es.length := IntWalk.wrap64_in _ (by omega)
  obtain ⟨most, hms⟩ : ∃ m : Int, m = 13 + 14 * (es.length : Int) := ⟨_, rfl⟩
  clear hc q1
  go_enter Try.func9, Try.ntmps9
  go_wp2_with fail
  refine gc.out.mono ?_
  rintro _ w1 ⟨hb1, ⟨_, rfl⟩ | ⟨h0, _⟩⟩
  rotate_left
  · exact absurd rfl h0
  have hB1 := hB0.trans (hb1.mono hB0.size)
  have hN1 := hN0.below hb1 hN0.lt
  have hlt1 := hN1.lt
  have d0 : w1.cell? ⟨w.heap.size, 0, none⟩ = some (.int .i64 what) := hN1.cell 0
  have d1 : w1.cell? ⟨w.heap.size, 1, none⟩ = some (.int .i64 view) := hN1.cell 1
  have d2 : w1.cell? ⟨w.heap.size, 2, none⟩ = some (.int .i64 n) := hN1.cell 2
  have d3 : w1.cell? ⟨w.heap.size, 3, none⟩ = some (.slice A es.length c) := hN1.cell 3
  clear gc
  go_wp2_with fail
  refine (newW_ok _ _ (by omega) (by omega)).mono ?_
  rintro _ w2 ⟨rfl, hW2, hb2⟩
  have hS2 : WS w2 w1.heap.size w1.heap.size (13 + 14 * (es.length : Int)) [] := ⟨_, hW2⟩
  have hN2 := hN1.below hb2 hN1.lt
  have hB2 := bnextN hB1 hb2
  obtain ⟨B, hBb⟩ : ∃ B, B = w1.heap.size := ⟨_, rfl⟩
  rw [← hBb] at hS2 hlt1 ⊢
  have hwB : w.heap.size ≤ B := by omega
  clear d0 d1 d2 d3 hN1 hB1 hb1 hb2 hW2 hBb
  have d0 : w2.cell? ⟨w.heap.size, 0, none⟩ = some (.int .i64 what) := hN2.cell 0
  have d1 : w2.cell? ⟨w.heap.size, 1, none⟩ = some (.int .i64 view) := hN2.cell 1
  have d2 : w2.cell? ⟨w.heap.size, 2, none⟩ = some (.int .i64 n) := hN2.cell 2
  have d3 : w2.cell? ⟨w.heap.size, 3, none⟩ = some (.slice A es.length c) := hN2.cell 3
  go_wp2_with fail
  refine (hS2.uint 1 what (by decide) (by decide) z0 (by omega) (by simp; omega)).mono ?_
  rintro _ w3 ⟨rfl, hS3, hb3⟩
  have hN3 := hN2.below hb3 hlt1
  have hB3 := hB2.trans (hb3.mono hwB)
  clear d0 d1 d2 d3 hN2 hB2 hb3 hS2
  have d0 : w3.cell? ⟨w.heap.size, 0, none⟩ = some (.int .i64 what) := hN3.cell 0
  have d1 : w3.cell? ⟨w.heap.size, 1, none⟩ = some (.int .i64 view) := hN3.cell 1
  have d2 : w3.cell? ⟨w.heap.size, 2, none⟩ = some (.int .i64 n) := hN3.cell 2
  have d3 : w3.cell? ⟨w.heap.size, 3, none⟩ = some (.slice A es.length c) := hN3.cell 3
  rw [List.nil_append] at hS3
  have i0 := idx30
  have i1 := idx31
  have i2 := idx32
  go_wp2_with fail
  refine wp_loop_rounds 4 ?_
  rw [rounds_succ]
  go_wp2_with fail
  refine (hS3.uint 4 view (by decide) (by decide) z2 (by omega) (by simp [beN_length]; omega)).mono ?_
  rintro _ w4 ⟨rfl, hS4, hb4⟩
  have hN4 := hN3.below hb4 hlt1
  have hB4 := hB3.trans (hb4.mono hwB)
  clear d0 d1 d2 d3 hN3 hB3 hb4 hS3
  have d0 : w4.cell? ⟨w.heap.size, 0, none⟩ = some (.int .i64 what) := hN4.cell 0
  have d1 : w4.cell? ⟨w.heap.size, 1, none⟩ = some (.int .i64 view) := hN4.cell 1
  have d2 : w4.cell? ⟨w.heap.size, 2, none⟩ = some (.int .i64 n) := hN4.cell 2
  have d3 : w4.cell? ⟨w.heap.size, 3, none⟩ = some (.slice A es.length c) := hN4.cell 3
  go_wp2_with fail
  rw [rounds_succ]
  go_wp2_with fail
  refine (hS4.uint 4 n (by decide) (by decide) z4 (by omega) (by simp [beN_length]; omega)).mono ?_
  rintro _ w5 ⟨rfl, hS5, hb5⟩
  have hN5 := hN4.below hb5 hlt1
  have hB5 := hB4.trans (hb5.mono hwB)
  clear d0 d1 d2 d3 hN4 hB4 hb5 hS4
  have d0 : w5.cell? ⟨w.heap.size, 0, none⟩ = some (.int .i64 what) := hN5.cell 0
  have d1 : w5.cell? ⟨w.heap.size, 1, none⟩ = some (.int .i64 view) := hN5.cell 1
  have d2 : w5.cell? ⟨w.heap.size, 2, none⟩ = some (.int .i64 n) := hN5.cell 2
  have d3 : w5.cell? ⟨w.heap.size, 3, none⟩ = some (.slice A es.length c) := hN5.cell 3
  go_wp2_with fail
  rw [rounds_succ]
  go_wp2_with fail
  refine (hS5.uint 4 es.length (by decide) (by decide) (by omega) (by omega) (by simp [beN_length]; omega)).mono ?_
  rintro _ w6 ⟨rfl, hS6, hb6⟩
  have hN6 := hN5.below hb6 hlt1
  have hB6 := hB5.trans (hb6.mono hwB)
  clear d0 d1 d2 d3 hN5 hB5 hb6 hS5
  have d0 : w6.cell? ⟨w.heap.size, 0, none⟩ = some (.int .i64 what) := hN6.cell 0
  have d1 : w6.cell? ⟨w.heap.size, 1, none⟩ = some (.int .i64 view) := hN6.cell 1
  have d2 : w6.cell? ⟨w.heap.size, 2, none⟩ = some (.int .i64 n) := hN6.cell 2
  have d3 : w6.cell? ⟨w.heap.size, 3, none⟩ = some (.slice A es.length c) := hN6.cell 3
  go_wp2_with fail
  rw [rounds_succ]
  go_wp2_with fail
  obtain ⟨H, hH⟩ : ∃ H, H = ((beN 1 what ++ beN 4 view) ++ beN 4 n) ++ beN 4 (es.length : Int) := ⟨_, rfl⟩
  rw [← hH] at hS6
  have hHl : H.length = 13 := by rw [hH]; simp [beN_length]
  replace hH := Lib.hid hH
  replace hHl := Lib.hid hHl
  go_loopw [50] (fun i wr => ∃ k : Nat, k ≤ es.length ∧ i = .int .i64 k ∧ WS wr B B (13 + 14 * (es.length : Int)) (H ++ (es.take k).flatMap encE) ∧ Below w.heap.size w wr) (fun i _ => es.length - (intOf i).toNat)
  case atStart => exact ⟨0, by omega, rfl, by simpa using hS6, hB6⟩
  case round =>
    obtain ⟨k, hk, rfl, hS, hb⟩ := hrel
    by_cases hlt : k < es.length
    · obtain ⟨x, hx⟩ := ent_at hlt
      have hxi := hi.at_ hx
      have hxo := allOk_at z7 hx
      obtain ⟨ad, rfl, hBk, e1⟩ := hr.at_ hx
      replace hBk : (ad.add (k * 4)).block < w.heap.size := by rw [block_of_add]; exact hBk
      have hs := hb.size
      replace e1 := e1.keep hb hBk
      have hbx := entAt_box wr x
      have hbel := hb.alloc hs (.cells #[.int .i64 x.view, .int .i64 x.what, .int .i64 x.a, .int .i64 x.n] 42)
      have hSb := hS.keep ((Below.refl wr.heap.size wr).alloc (Nat.le_refl _) (.cells #[.int .i64 x.view, .int .i64 x.what, .int .i64 x.a, .int .i64 x.n] 42))
      have hft := flat_take hx
      have hfl := flat_length (es.take k)
      have htl : (es.take k).length = k := by rw [List.length_take]; omega
      rw [htl] at hfl
      have hroom : ((H ++ (es.take k).flatMap encE).length : Int) + 14 ≤ 13 + 14 * (es.length : Int) := by rw [List.length_append, hHl.out, hfl]; omega
      have hput := Lib.hid (hSb.put x hxo hxi hroom)
      have hsB := hS.le
      obtain ⟨a0, a1, a2, a3⟩ := e1
      unfold Ent.val at hput
      clear hfl hroom hHl
      go_wp2_with fail
      refine hput.out.mono ?_
      rintro _ w8 ⟨rfl, hS8, hb8⟩
      rw [List.append_assoc, ← hft] at hS8
      have hB8 : Below w.heap.size w w8 := hbel.trans (hb8.mono hwB)
      clear hput hft a0 a1 a2 a3 hSb
      go_wp2_with fail
      exact ⟨⟨k + 1, by omega, by go_num, hS8, hB8⟩, by simp [intOf]; omega⟩
    · obtain rfl : k = es.length := by omega
      rw [List.take_length] at hS
      obtain ⟨F, hW⟩ := hS
      have hout := Lib.hid (out_any _ _ _ _ _ _ hW)
      have hnb : noteB what view n es = H ++ es.flatMap encE := by rw [hH.out]; rfl
      have hnl := noteB_length what view n es
      rw [← hnb] at hout
      generalize noteB what view n es = bs at *
      replace hnb := Lib.hid hnb
      replace hnl := Lib.hid hnl
      go_wp2_with fail
      refine hout.out.mono ?_
      rintro _ w9 ⟨A9, c9, rfl, hO9, hb9⟩
      go_wp2_with fail
      refine bodyPost_ret (v := .tuple #[.slice A9 bs.length c9, .int .i64 0]) (by simp [results, Try.results9, go_sem]) rfl ?_
      exact ⟨A9, c9, rfl, hO9.base_ hb.size, bnextN hb hb9⟩
theorem note_any (what view n : Int) (A : Option Addr) (c : Nat) (es : List Ent) (w : World) (hr : ReadsE w w.heap.size A es) (hi : InL es) (hv : in64 view) (hn : in64 n) (hm : es.length ≤ maxLen) : Calls Try.prog 9 #[.agg #[.int .i64 what, .int .i64 view, .int .i64 n, .slice A es.length c]] w (NPost w (noteO what view n es) (nErr what view n es)) := by
  unfold noteO
  by_cases h : nErr what view n es = 0
  · rw [if_pos h, h]; exact note_yes what view n A c es w hr hi hv hn hm h
  · rw [if_neg h]; exact note_no what view n A c es w hr hi hv hn hm _ rfl h
end Go.Proofs.Ytdilccihhelilaa
