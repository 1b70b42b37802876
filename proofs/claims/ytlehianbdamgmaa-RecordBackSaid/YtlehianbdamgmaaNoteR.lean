/- A note's bytes: the reference's. -/
import Derived.Test.YtlehianbdamgmaaNoteP
namespace Go.Proofs.Ytlehianbdamgmaa
open Go.RowKit
set_option linter.unusedVariables false
set_option linter.unusedSimpArgs false
set_option maxRecDepth 100000 in
set_option maxHeartbeats 4000000 in
theorem rright_0 (what view n : Int) (A : Option Addr) (c : Nat) (es : List Ent) (w : World) (hr : ReadsE w w.heap.size A es) (hi : InL es) (hm : es.length ≤ maxLen)  (h0 : what < 0) : Calls Try.prog 58 #[.agg #[.int .i64 what, .int .i64 view, .int .i64 n, .slice A es.length c]] w (fun e w' => e = .returned (.int .i64 1) ∧ Below w.heap.size w w') := by
  have hN0 := Blk.new w 64 #[.int .i64 what, .int .i64 view, .int .i64 n, .slice A es.length c]
  have hB0 : Below w.heap.size w (w.alloc (.cells #[.int .i64 what, .int .i64 view, .int .i64 n, .slice A es.length c] 64)) := (Below.refl _ _).alloc (Nat.le_refl _) _
  have b0 : decide (what < 0) = true := decide_eq_true (by omega)
  go_enter Try.func58, Try.ntmps58
  go_wp2_with fail
  refine bodyPost_ret (v := .int .i64 1) (by simp [results, Try.results58, go_sem]) rfl ⟨rfl, hB0⟩
set_option maxRecDepth 100000 in
set_option maxHeartbeats 4000000 in
theorem rright_1 (what view n : Int) (A : Option Addr) (c : Nat) (es : List Ent) (w : World) (hr : ReadsE w w.heap.size A es) (hi : InL es) (hm : es.length ≤ maxLen) (h0 : ¬ what < 0) (h1 : 5 < what) : Calls Try.prog 58 #[.agg #[.int .i64 what, .int .i64 view, .int .i64 n, .slice A es.length c]] w (fun e w' => e = .returned (.int .i64 1) ∧ Below w.heap.size w w') := by
  have hN0 := Blk.new w 64 #[.int .i64 what, .int .i64 view, .int .i64 n, .slice A es.length c]
  have hB0 : Below w.heap.size w (w.alloc (.cells #[.int .i64 what, .int .i64 view, .int .i64 n, .slice A es.length c] 64)) := (Below.refl _ _).alloc (Nat.le_refl _) _
  have b0 : decide (what < 0) = false := decide_eq_false (by omega)
  have b1 : decide (5 < what) = true := decide_eq_true (by omega)
  go_enter Try.func58, Try.ntmps58
  go_wp2_with fail
  refine bodyPost_ret (v := .int .i64 1) (by simp [results, Try.results58, go_sem]) rfl ⟨rfl, hB0⟩
set_option maxRecDepth 100000 in
set_option maxHeartbeats 4000000 in
theorem rright_2 (what view n : Int) (A : Option Addr) (c : Nat) (es : List Ent) (w : World) (hr : ReadsE w w.heap.size A es) (hi : InL es) (hm : es.length ≤ maxLen) (h0 : ¬ what < 0) (h1 : ¬ 5 < what) (h2 : view < 0) : Calls Try.prog 58 #[.agg #[.int .i64 what, .int .i64 view, .int .i64 n, .slice A es.length c]] w (fun e w' => e = .returned (.int .i64 1) ∧ Below w.heap.size w w') := by
  have hN0 := Blk.new w 64 #[.int .i64 what, .int .i64 view, .int .i64 n, .slice A es.length c]
  have hB0 : Below w.heap.size w (w.alloc (.cells #[.int .i64 what, .int .i64 view, .int .i64 n, .slice A es.length c] 64)) := (Below.refl _ _).alloc (Nat.le_refl _) _
  have b0 : decide (what < 0) = false := decide_eq_false (by omega)
  have b1 : decide (5 < what) = false := decide_eq_false (by omega)
  have b2 : decide (view < 0) = true := decide_eq_true (by omega)
  go_enter Try.func58, Try.ntmps58
  go_wp2_with fail
  refine bodyPost_ret (v := .int .i64 1) (by simp [results, Try.results58, go_sem]) rfl ⟨rfl, hB0⟩
set_option maxRecDepth 100000 in
set_option maxHeartbeats 4000000 in
theorem rright_3 (what view n : Int) (A : Option Addr) (c : Nat) (es : List Ent) (w : World) (hr : ReadsE w w.heap.size A es) (hi : InL es) (hm : es.length ≤ maxLen) (h0 : ¬ what < 0) (h1 : ¬ 5 < what) (h2 : ¬ view < 0) (h3 : 2147483647 < view) : Calls Try.prog 58 #[.agg #[.int .i64 what, .int .i64 view, .int .i64 n, .slice A es.length c]] w (fun e w' => e = .returned (.int .i64 1) ∧ Below w.heap.size w w') := by
  have hN0 := Blk.new w 64 #[.int .i64 what, .int .i64 view, .int .i64 n, .slice A es.length c]
  have hB0 : Below w.heap.size w (w.alloc (.cells #[.int .i64 what, .int .i64 view, .int .i64 n, .slice A es.length c] 64)) := (Below.refl _ _).alloc (Nat.le_refl _) _
  have b0 : decide (what < 0) = false := decide_eq_false (by omega)
  have b1 : decide (5 < what) = false := decide_eq_false (by omega)
  have b2 : decide (view < 0) = false := decide_eq_false (by omega)
  have b3 : decide (2147483647 < view) = true := decide_eq_true (by omega)
  go_enter Try.func58, Try.ntmps58
  go_wp2_with fail
  refine bodyPost_ret (v := .int .i64 1) (by simp [results, Try.results58, go_sem]) rfl ⟨rfl, hB0⟩
set_option maxRecDepth 100000 in
set_option maxHeartbeats 4000000 in
theorem rright_4 (what view n : Int) (A : Option Addr) (c : Nat) (es : List Ent) (w : World) (hr : ReadsE w w.heap.size A es) (hi : InL es) (hm : es.length ≤ maxLen) (h0 : ¬ what < 0) (h1 : ¬ 5 < what) (h2 : ¬ view < 0) (h3 : ¬ 2147483647 < view) (h4 : n < 0) : Calls Try.prog 58 #[.agg #[.int .i64 what, .int .i64 view, .int .i64 n, .slice A es.length c]] w (fun e w' => e = .returned (.int .i64 1) ∧ Below w.heap.size w w') := by
  have hN0 := Blk.new w 64 #[.int .i64 what, .int .i64 view, .int .i64 n, .slice A es.length c]
  have hB0 : Below w.heap.size w (w.alloc (.cells #[.int .i64 what, .int .i64 view, .int .i64 n, .slice A es.length c] 64)) := (Below.refl _ _).alloc (Nat.le_refl _) _
  have b0 : decide (what < 0) = false := decide_eq_false (by omega)
  have b1 : decide (5 < what) = false := decide_eq_false (by omega)
  have b2 : decide (view < 0) = false := decide_eq_false (by omega)
  have b3 : decide (2147483647 < view) = false := decide_eq_false (by omega)
  have b4 : decide (n < 0) = true := decide_eq_true (by omega)
  go_enter Try.func58, Try.ntmps58
  go_wp2_with fail
  refine bodyPost_ret (v := .int .i64 1) (by simp [results, Try.results58, go_sem]) rfl ⟨rfl, hB0⟩
set_option maxRecDepth 100000 in
set_option maxHeartbeats 4000000 in
theorem rright_5 (what view n : Int) (A : Option Addr) (c : Nat) (es : List Ent) (w : World) (hr : ReadsE w w.heap.size A es) (hi : InL es) (hm : es.length ≤ maxLen) (h0 : ¬ what < 0) (h1 : ¬ 5 < what) (h2 : ¬ view < 0) (h3 : ¬ 2147483647 < view) (h4 : ¬ n < 0) (h5 : 2147483647 < n) : Calls Try.prog 58 #[.agg #[.int .i64 what, .int .i64 view, .int .i64 n, .slice A es.length c]] w (fun e w' => e = .returned (.int .i64 1) ∧ Below w.heap.size w w') := by
  have hN0 := Blk.new w 64 #[.int .i64 what, .int .i64 view, .int .i64 n, .slice A es.length c]
  have hB0 : Below w.heap.size w (w.alloc (.cells #[.int .i64 what, .int .i64 view, .int .i64 n, .slice A es.length c] 64)) := (Below.refl _ _).alloc (Nat.le_refl _) _
  have b0 : decide (what < 0) = false := decide_eq_false (by omega)
  have b1 : decide (5 < what) = false := decide_eq_false (by omega)
  have b2 : decide (view < 0) = false := decide_eq_false (by omega)
  have b3 : decide (2147483647 < view) = false := decide_eq_false (by omega)
  have b4 : decide (n < 0) = false := decide_eq_false (by omega)
  have b5 : decide (2147483647 < n) = true := decide_eq_true (by omega)
  go_enter Try.func58, Try.ntmps58
  go_wp2_with fail
  refine bodyPost_ret (v := .int .i64 1) (by simp [results, Try.results58, go_sem]) rfl ⟨rfl, hB0⟩
set_option maxRecDepth 100000 in
set_option maxHeartbeats 4000000 in
theorem rright_long (what view n : Int) (A : Option Addr) (c : Nat) (es : List Ent) (w : World) (hr : ReadsE w w.heap.size A es) (hi : InL es) (hm : es.length ≤ maxLen) (h0 : ¬ what < 0) (h1 : ¬ 5 < what) (h2 : ¬ view < 0) (h3 : ¬ 2147483647 < view) (h4 : ¬ n < 0) (h5 : ¬ 2147483647 < n) (h6 : 4096 < es.length) : Calls Try.prog 58 #[.agg #[.int .i64 what, .int .i64 view, .int .i64 n, .slice A es.length c]] w (fun e w' => e = .returned (.int .i64 2) ∧ Below w.heap.size w w') := by
  have hN0 := Blk.new w 64 #[.int .i64 what, .int .i64 view, .int .i64 n, .slice A es.length c]
  have hB0 : Below w.heap.size w (w.alloc (.cells #[.int .i64 what, .int .i64 view, .int .i64 n, .slice A es.length c] 64)) := (Below.refl _ _).alloc (Nat.le_refl _) _
  have b0 : decide (what < 0) = false := decide_eq_false (by omega)
  have b1 : decide (5 < what) = false := decide_eq_false (by omega)
  have b2 : decide (view < 0) = false := decide_eq_false (by omega)
  have b3 : decide (2147483647 < view) = false := decide_eq_false (by omega)
  have b4 : decide (n < 0) = false := decide_eq_false (by omega)
  have b5 : decide (2147483647 < n) = false := decide_eq_false (by omega)
  have b6 : decide (4096 < (es.length : Int)) = true := decide_eq_true (by omega)
  go_enter Try.func58, Try.ntmps58
  go_wp2_with fail
  refine bodyPost_ret (v := .int .i64 2) (by simp [results, Try.results58, go_sem]) rfl ⟨rfl, hB0⟩

set_option maxRecDepth 100000 in
set_option maxHeartbeats 4000000 in
theorem rright_loop (what view n : Int) (A : Option Addr) (c : Nat) (es : List Ent) (w : World) (hr : ReadsE w w.heap.size A es) (hi : InL es) (hm : es.length ≤ maxLen) (h0 : ¬ what < 0) (h1 : ¬ 5 < what) (h2 : ¬ view < 0) (h3 : ¬ 2147483647 < view) (h4 : ¬ n < 0) (h5 : ¬ 2147483647 < n) (h6 : ¬ 4096 < es.length) (code : Int) (hcode : Hid (code = if allOk es = true then 0 else 1)) : Calls Try.prog 58 #[.agg #[.int .i64 what, .int .i64 view, .int .i64 n, .slice A es.length c]] w (fun e w' => e = .returned (.int .i64 code) ∧ Below w.heap.size w w') := by
  have hN0 := Blk.new w 64 #[.int .i64 what, .int .i64 view, .int .i64 n, .slice A es.length c]
  have hB0 : Below w.heap.size w (w.alloc (.cells #[.int .i64 what, .int .i64 view, .int .i64 n, .slice A es.length c] 64)) := (Below.refl _ _).alloc (Nat.le_refl _) _
  have b0 : decide (what < 0) = false := decide_eq_false (by omega)
  have b1 : decide (5 < what) = false := decide_eq_false (by omega)
  have b2 : decide (view < 0) = false := decide_eq_false (by omega)
  have b3 : decide (2147483647 < view) = false := decide_eq_false (by omega)
  have b4 : decide (n < 0) = false := decide_eq_false (by omega)
  have b5 : decide (2147483647 < n) = false := decide_eq_false (by omega)
  have b6 : decide (4096 < (es.length : Int)) = false := decide_eq_false (by omega)
  go_enter Try.func58, Try.ntmps58
  go_wp2_with fail
  go_loopw [3] (fun i wr => ∃ k : Nat, k ≤ es.length ∧ i = .int .i64 k ∧ allOk (es.take k) = true ∧ Below w.heap.size w wr ∧ Blk wr w.heap.size 64 #[.int .i64 what, .int .i64 view, .int .i64 n, .slice A es.length c]) (fun i _ => es.length - (intOf i).toNat)
  case atStart => exact ⟨0, by omega, rfl, rfl, hB0, hN0⟩
  case round =>
    obtain ⟨k, hk, rfl, ho, hb, hN⟩ := hrel
    replace ho := Lib.hid ho
    have d3 : wr.cell? ⟨w.heap.size, 3, none⟩ = some (.slice A es.length c) := hN.cell 3
    by_cases hlt : k < es.length
    · obtain ⟨x, hx⟩ := ent_at hlt
      have hc := fun w => Lib.hid (rcheck_any x w)
      obtain ⟨ad, rfl, hB, e1⟩ := hr.at_ hx
      replace hB : (ad.add (k * 4)).block < w.heap.size := by rw [block_of_add]; exact hB
      have hs := hb.size
      replace e1 := e1.keep hb hB
      obtain ⟨a0, a1, a2, a3⟩ := e1
      replace hx := Lib.hid hx
      unfold Ent.val at hc
      by_cases hok : x.ok
      · simp only [Ent.err_yes hok] at hc
        go_wp2_with fail
        refine (hc _).out.mono ?_
        rintro _ w2 ⟨rfl, hb2⟩
        have hb2' := bnextN hb hb2
        have hN2 := hN.below hb2 hN.lt
        go_wp2_with fail
        exact ⟨⟨k + 1, by omega, by go_num, allOk_next ho.out hx.out hok, hb2', hN2⟩, by simp [intOf]; omega⟩
      · simp only [Ent.err_no hok] at hc
        have he : code = 1 := by rw [hcode.out, if_neg (by rw [allOk_no hx.out hok]; decide)]
        replace he := Lib.hid he
        go_wp2_with fail
        refine (hc _).out.mono ?_
        rintro _ w2 ⟨rfl, hb2⟩
        go_wp2_with fail
        refine bodyPost_ret (v := .int .i64 1) (by simp [results, Try.results58, go_sem]) rfl ?_
        exact ⟨by rw [he.out], bnextN hb hb2⟩
    · obtain rfl : k = es.length := by omega
      have he : code = 0 := by
        have h := ho.out
        rw [List.take_length] at h
        rw [hcode.out, if_pos h]
      replace he := Lib.hid he
      go_wp2_with fail
      refine bodyPost_ret (v := .int .i64 0) (by simp [results, Try.results58, go_sem]) rfl ?_
      exact ⟨by rw [he.out], hb⟩
theorem inV_no {v : Int} (h : v < 0 ∨ 2147483647 < v) : inV v = false := by unfold inV; exact decide_eq_false (by omega)
theorem inV_yes {v : Int} (h : ¬ v < 0) (h2 : ¬ 2147483647 < v) : inV v = true := by unfold inV; exact decide_eq_true (by omega)
theorem rright_any (what view n : Int) (A : Option Addr) (c : Nat) (es : List Ent) (w : World) (hr : ReadsE w w.heap.size A es) (hi : InL es) (hm : es.length ≤ maxLen) : Calls Try.prog 58 #[.agg #[.int .i64 what, .int .i64 view, .int .i64 n, .slice A es.length c]] w (fun e w' => e = .returned (.int .i64 (nErr what view n es)) ∧ Below w.heap.size w w') := by
  unfold nErr
  by_cases h0 : what < 0
  · rw [if_pos (.inl h0)]; exact rright_0 what view n A c es w hr hi hm h0
  · by_cases h1 : 5 < what
    · rw [if_pos (.inr (.inl h1))]; exact rright_1 what view n A c es w hr hi hm h0 h1
    · by_cases h2 : view < 0
      · rw [if_pos (.inr (.inr (.inl (inV_no (.inl h2)))))]; exact rright_2 what view n A c es w hr hi hm h0 h1 h2
      · by_cases h3 : 2147483647 < view
        · rw [if_pos (.inr (.inr (.inl (inV_no (.inr h3)))))]; exact rright_3 what view n A c es w hr hi hm h0 h1 h2 h3
        · by_cases h4 : n < 0
          · rw [if_pos (.inr (.inr (.inr (inV_no (.inl h4)))))]; exact rright_4 what view n A c es w hr hi hm h0 h1 h2 h3 h4
          · by_cases h5 : 2147483647 < n
            · rw [if_pos (.inr (.inr (.inr (inV_no (.inr h5)))))]; exact rright_5 what view n A c es w hr hi hm h0 h1 h2 h3 h4 h5
            · rw [if_neg (by rw [inV_yes h2 h3, inV_yes h4 h5]; rintro (k | k | k | k); exact h0 k; exact h1 k; cases k; cases k)]
              by_cases h6 : 4096 < es.length
              · rw [if_pos h6]; exact rright_long what view n A c es w hr hi hm h0 h1 h2 h3 h4 h5 h6
              · rw [if_neg h6]; exact rright_loop what view n A c es w hr hi hm h0 h1 h2 h3 h4 h5 h6 _ (Lib.hid rfl)
/-- The reference's writer that holds xs. -/
def RWS (w : World) (base g : Nat) (most : Int) (xs : List Int) : Prop := ∃ F, RWr w F base g most xs
theorem RWS.keep {w w' : World} {base g : Nat} {most : Int} {xs : List Int} (h : RWS w base g most xs) (hb : Below w.heap.size w w') : RWS w' base g most xs := by
  obtain ⟨F, hW⟩ := h
  exact ⟨F, hW.below hb⟩
theorem RWS.uint {w : World} {base g : Nat} {most : Int} {xs : List Int} (h : RWS w base g most xs) (n : Nat) (x : Int) (h1 : 1 ≤ n) (h8 : n ≤ 8) (hx0 : 0 ≤ x) (hx : x < 256 ^ n) (hr : (xs.length : Int) + n ≤ most) :
    Calls Try.prog 60 #[.pointer (some ⟨g, 0, none⟩), .int .i64 n, .int .u64 x] w fun e w' => e = .returned (.int .i64 0) ∧ RWS w' base g most (xs ++ beN n x) ∧ Below base w w' := by
  obtain ⟨F, hW⟩ := h
  refine (ruint_ok F base g most xs n x w hW h1 h8 hx0 hx hr).mono ?_
  rintro _ w' ⟨rfl, hW', hT⟩
  exact ⟨rfl, ⟨_, hW'⟩, hT.below hW.base_le (fun k hk => (hW.lt k hk).1)⟩
theorem RWS.bytes {w : World} {base g : Nat} {most : Int} {xs : List Int} (h : RWS w base g most xs) (A : Option Addr) (c n : Nat) (bs : List Int) (hr : ReadsB w w.heap.size A bs) (hn : n = bs.length) (hm : n ≤ maxLen) (hroom : (xs.length : Int) + n ≤ most) :
    Calls Try.prog 61 #[.pointer (some ⟨g, 0, none⟩), .slice A n c] w fun e w' => e = .returned (.int .i64 0) ∧ RWS w' base g most (xs ++ bs) ∧ Below base w w' := by
  obtain ⟨F, hW⟩ := h
  have e1 : bytesCode n xs.length most = 0 := by unfold bytesCode; rw [if_neg (by omega)]
  have e2 : bytesNew bs most xs = xs ++ bs := by unfold bytesNew; rw [if_neg (by omega)]
  have := rwbytes_any F base g most xs A n c bs w _ hW hr hn hm
  rw [e1, e2] at this
  refine this.mono ?_
  rintro _ w' ⟨rfl, hW', hT⟩
  exact ⟨rfl, ⟨_, hW'⟩, hT.below hW.base_le (fun k hk => (hW.lt k hk).1)⟩
set_option maxRecDepth 100000 in
set_option maxHeartbeats 4000000 in
theorem rnote_no (what view n : Int) (A : Option Addr) (c : Nat) (es : List Ent) (w : World) (hr : ReadsE w w.heap.size A es) (hi : InL es) (hm : es.length ≤ maxLen) (code : Int) (hc : nErr what view n es = code) (hne : ¬ code = 0) : Calls Try.prog 43 #[.agg #[.int .i64 what, .int .i64 view, .int .i64 n, .slice A es.length c]] w (NPost w [] code) := by
  have hN0 := Blk.new w 64 #[.int .i64 what, .int .i64 view, .int .i64 n, .slice A es.length c]
  have hB0 : Below w.heap.size w (w.alloc (.cells #[.int .i64 what, .int .i64 view, .int .i64 n, .slice A es.length c] 64)) := (Below.refl _ _).alloc (Nat.le_refl _) _
  have gc := Lib.hid (rright_any what view n A c es (w.alloc (.cells #[.int .i64 what, .int .i64 view, .int .i64 n, .slice A es.length c] 64)) ((ReadsE.below hr hB0) |> fun h => Reads.more h hB0.size) hi hm)
  rw [hc] at gc
  have c1 : (code == 0) = false := by simpa using hne
  have c2 : (code != 0) = true := by simpa using hne
  clear hc
  go_enter Try.func43, Try.ntmps43
  go_wp2_with fail
  refine gc.out.mono ?_
  rintro _ w1 ⟨rfl, hb1⟩
  go_wp2_with fail
  refine bodyPost_ret (v := .tuple #[.slice none 0 0, .int .i64 code]) (by simp [results, Try.results43, go_sem]) rfl ?_
  exact ⟨none, 0, rfl, ReadsB.nil_ _ _, Nat.le_refl _, by unfold maxLen; omega, bnextN hB0 hb1⟩
set_option maxRecDepth 100000 in
set_option maxHeartbeats 4000000 in
theorem rnote_yes (what view n : Int) (A : Option Addr) (c : Nat) (es : List Ent) (w : World) (hr : ReadsE w w.heap.size A es) (hi : InL es) (hm : es.length ≤ maxLen) (hc : nErr what view n es = 0) : Calls Try.prog 43 #[.agg #[.int .i64 what, .int .i64 view, .int .i64 n, .slice A es.length c]] w (NPost w (noteB what view n es) 0) := by
  have hN0 := Blk.new w 64 #[.int .i64 what, .int .i64 view, .int .i64 n, .slice A es.length c]
  have hB0 : Below w.heap.size w (w.alloc (.cells #[.int .i64 what, .int .i64 view, .int .i64 n, .slice A es.length c] 64)) := (Below.refl _ _).alloc (Nat.le_refl _) _
  have gc := Lib.hid (rright_any what view n A c es (w.alloc (.cells #[.int .i64 what, .int .i64 view, .int .i64 n, .slice A es.length c] 64)) ((ReadsE.below hr hB0) |> fun h => Reads.more h hB0.size) hi hm)
  obtain ⟨⟨z0, z1⟩, ⟨z2, z3⟩, ⟨z4, z5⟩, z6, z7⟩ := nErr_zero hc
  rw [hc] at gc
  clear hc
  go_enter Try.func43, Try.ntmps43
  go_wp2_with fail
  refine gc.out.mono ?_
  rintro _ w1 ⟨rfl, hb1⟩
  have hB1 := bnextN hB0 hb1
  have hN1 := hN0.below hb1 hN0.lt
  have hlt1 := hN1.lt
  have d0 : w1.cell? ⟨w.heap.size, 0, none⟩ = some (.int .i64 what) := hN1.cell 0
  have d1 : w1.cell? ⟨w.heap.size, 1, none⟩ = some (.int .i64 view) := hN1.cell 1
  have d2 : w1.cell? ⟨w.heap.size, 2, none⟩ = some (.int .i64 n) := hN1.cell 2
  have d3 : w1.cell? ⟨w.heap.size, 3, none⟩ = some (.slice A es.length c) := hN1.cell 3
  clear gc
  go_wp2_with fail
  refine (rnewW_ok _ _ (by omega) (by omega)).mono ?_
  rintro _ w2 ⟨rfl, hW2, hb2⟩
  have hS2 : RWS w2 w1.heap.size w1.heap.size (13 + 14 * (es.length : Int)) [] := ⟨_, hW2⟩
  have hN2 := hN1.below hb2 hN1.lt
  have hB2 := bnextN hB1 hb2
  obtain ⟨B, hBb⟩ : ∃ B, B = w1.heap.size := ⟨_, rfl⟩
  rw [← hBb] at hS2 hlt1 ⊢
  have hwB : w.heap.size ≤ B := by omega
  clear d0 d1 d2 d3 hN1 hB1 hb1 hb2 hW2 hBb
  have d0 : w2.cell? ⟨w.heap.size, 0, none⟩ = some (.int .i64 what) := hN2.cell 0
  have d1 : w2.cell? ⟨w.heap.size, 1, none⟩ = some (.int .i64 view) := hN2.cell 1
  have d2 : w2.cell? ⟨w.heap.size, 2, none⟩ = some (.int .i64 n) := hN2.cell 2
  have d3 : w2.cell? ⟨w.heap.size, 3, none⟩ = some (.slice A es.length c) := hN2.cell 3
  go_wp2_with fail
  refine (hS2.uint 1 what (by decide) (by decide) z0 (by omega) (by simp [beN_length]; omega)).mono ?_
  rintro _ w3 ⟨rfl, hS3, hb3⟩
  have hN3 := hN2.below hb3 hlt1
  have hB3 := hB2.trans (hb3.mono hwB)
  clear d0 d1 d2 d3 hN2 hB2 hb3 hS2
  have d0 : w3.cell? ⟨w.heap.size, 0, none⟩ = some (.int .i64 what) := hN3.cell 0
  have d1 : w3.cell? ⟨w.heap.size, 1, none⟩ = some (.int .i64 view) := hN3.cell 1
  have d2 : w3.cell? ⟨w.heap.size, 2, none⟩ = some (.int .i64 n) := hN3.cell 2
  have d3 : w3.cell? ⟨w.heap.size, 3, none⟩ = some (.slice A es.length c) := hN3.cell 3
  rw [List.nil_append] at hS3
  go_wp2_with fail
  refine (hS3.uint 4 view (by decide) (by decide) z2 (by omega) (by simp [beN_length]; omega)).mono ?_
  rintro _ w4 ⟨rfl, hS4, hb4⟩
  have hN4 := hN3.below hb4 hlt1
  have hB4 := hB3.trans (hb4.mono hwB)
  clear d0 d1 d2 d3 hN3 hB3 hb4 hS3
  have d0 : w4.cell? ⟨w.heap.size, 0, none⟩ = some (.int .i64 what) := hN4.cell 0
  have d1 : w4.cell? ⟨w.heap.size, 1, none⟩ = some (.int .i64 view) := hN4.cell 1
  have d2 : w4.cell? ⟨w.heap.size, 2, none⟩ = some (.int .i64 n) := hN4.cell 2
  have d3 : w4.cell? ⟨w.heap.size, 3, none⟩ = some (.slice A es.length c) := hN4.cell 3
  go_wp2_with fail
  refine (hS4.uint 4 n (by decide) (by decide) z4 (by omega) (by simp [beN_length]; omega)).mono ?_
  rintro _ w5 ⟨rfl, hS5, hb5⟩
  have hN5 := hN4.below hb5 hlt1
  have hB5 := hB4.trans (hb5.mono hwB)
  clear d0 d1 d2 d3 hN4 hB4 hb5 hS4
  have d0 : w5.cell? ⟨w.heap.size, 0, none⟩ = some (.int .i64 what) := hN5.cell 0
  have d1 : w5.cell? ⟨w.heap.size, 1, none⟩ = some (.int .i64 view) := hN5.cell 1
  have d2 : w5.cell? ⟨w.heap.size, 2, none⟩ = some (.int .i64 n) := hN5.cell 2
  have d3 : w5.cell? ⟨w.heap.size, 3, none⟩ = some (.slice A es.length c) := hN5.cell 3
  go_wp2_with fail
  refine (hS5.uint 4 es.length (by decide) (by decide) (by omega) (by omega) (by simp [beN_length]; omega)).mono ?_
  rintro _ w6 ⟨rfl, hS6, hb6⟩
  have hN6 := hN5.below hb6 hlt1
  have hB6 := hB5.trans (hb6.mono hwB)
  clear d0 d1 d2 d3 hN5 hB5 hb6 hS5
  have d0 : w6.cell? ⟨w.heap.size, 0, none⟩ = some (.int .i64 what) := hN6.cell 0
  have d1 : w6.cell? ⟨w.heap.size, 1, none⟩ = some (.int .i64 view) := hN6.cell 1
  have d2 : w6.cell? ⟨w.heap.size, 2, none⟩ = some (.int .i64 n) := hN6.cell 2
  have d3 : w6.cell? ⟨w.heap.size, 3, none⟩ = some (.slice A es.length c) := hN6.cell 3
  go_wp2_with fail
  obtain ⟨H, hH⟩ : ∃ H, H = ((beN 1 what ++ beN 4 view) ++ beN 4 n) ++ beN 4 (es.length : Int) := ⟨_, rfl⟩
  rw [← hH] at hS6
  have hHl : H.length = 13 := by rw [hH]; simp [beN_length]
  replace hH := Lib.hid hH
  replace hHl := Lib.hid hHl
  clear d0 d1 d2 d3
  go_loopw [7] (fun i wr => ∃ k : Nat, k ≤ es.length ∧ i = .int .i64 k ∧ RWS wr B B (13 + 14 * (es.length : Int)) (H ++ (es.take k).flatMap encE) ∧ Below w.heap.size w wr ∧ Blk wr w.heap.size 64 #[.int .i64 what, .int .i64 view, .int .i64 n, .slice A es.length c]) (fun i _ => es.length - (intOf i).toNat)
  case atStart => exact ⟨0, by omega, rfl, by simpa using hS6, hB6, hN6⟩
  case round =>
    obtain ⟨k, hk, rfl, hS, hb, hN⟩ := hrel
    have d3 : wr.cell? ⟨w.heap.size, 3, none⟩ = some (.slice A es.length c) := hN.cell 3
    by_cases hlt : k < es.length
    · obtain ⟨x, hx⟩ := ent_at hlt
      have hxi := hi.at_ hx
      have hxo := allOk_at z7 hx
      obtain ⟨ad, rfl, hBk, e1⟩ := hr.at_ hx
      replace hBk : (ad.add (k * 4)).block < w.heap.size := by rw [block_of_add]; exact hBk
      replace e1 := e1.keep hb hBk
      have hft := flat_take hx
      have hfl := flat_length (es.take k)
      have htl : (es.take k).length = k := by rw [List.length_take]; omega
      rw [htl] at hfl
      have hroom : ((H ++ (es.take k).flatMap encE).length : Int) + 14 ≤ 13 + 14 * (es.length : Int) := by rw [List.length_append, hHl.out, hfl]; omega
      have hput := Lib.hid (rput_any x wr hxo hxi)
      obtain ⟨a0, a1, a2, a3⟩ := e1
      unfold Ent.val RPut at hput
      replace hroom := Lib.hid hroom
      clear hfl
      go_wp2_with fail
      refine hput.out.mono ?_
      rintro _ w7 ⟨A7, c7, rfl, hr7, hc7, hm7, hb7⟩
      have hS7 := hS.keep hb7
      have hN7 := hN.below hb7 hN.lt
      have hB7 := bnextN hb hb7
      have hby := Lib.hid (hS7.bytes A7 c7 14 (encE x) hr7 (encE_length x).symm (by omega) hroom.out)
      clear hput a0 a1 a2 a3 d3
      go_wp2_with fail
      refine hby.out.mono ?_
      rintro _ w8 ⟨rfl, hS8, hb8⟩
      rw [List.append_assoc, ← hft] at hS8
      have hB8 : Below w.heap.size w w8 := hB7.trans (hb8.mono hwB)
      have hN8 := hN7.below hb8 hlt1
      clear hft
      go_wp2_with fail
      exact ⟨⟨k + 1, by omega, by go_num, hS8, hB8, hN8⟩, by simp [intOf]; omega⟩
    · obtain rfl : k = es.length := by omega
      rw [List.take_length] at hS
      obtain ⟨F, hW⟩ := hS
      obtain ⟨A9, c9, t0, t1, t2, t3⟩ := hW.text
      have hnb : noteB what view n es = H ++ es.flatMap encE := by rw [hH.out]; rfl
      rw [← hnb] at t0 t1 t2
      generalize noteB what view n es = bs at *
      replace hnb := Lib.hid hnb
      go_wp2_with fail
      refine bodyPost_ret (v := .tuple #[.slice A9 bs.length c9, .int .i64 0]) (by simp [results, Try.results43, go_sem]) rfl ?_
      exact ⟨A9, c9, rfl, t1, t2, t3, hb⟩
theorem rnote_any (what view n : Int) (A : Option Addr) (c : Nat) (es : List Ent) (w : World) (hr : ReadsE w w.heap.size A es) (hi : InL es) (hm : es.length ≤ maxLen) : Calls Try.prog 43 #[.agg #[.int .i64 what, .int .i64 view, .int .i64 n, .slice A es.length c]] w (NPost w (noteO what view n es) (nErr what view n es)) := by
  unfold noteO
  by_cases h : nErr what view n es = 0
  · rw [if_pos h, h]; exact rnote_yes what view n A c es w hr hi hm h
  · rw [if_neg h]; exact rnote_no what view n A c es w hr hi hm _ rfl h
end Go.Proofs.Ytlehianbdamgmaa
