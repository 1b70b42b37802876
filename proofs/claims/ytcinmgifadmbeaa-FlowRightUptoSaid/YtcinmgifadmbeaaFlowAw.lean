/- May the next instruction come behind one? Does layer 7 compute at all? -/
import Derived.Test.YtcinmgifadmbeaaFlowL
namespace Go.Proofs.Ytcinmgifadmbeaa
open Go.RowKit
set_option linter.unusedVariables false
set_option linter.unusedSimpArgs false

/-- May the next one come behind it? -/
def fallsI (i : Ins) : Bool := !(i.op == 167 || i.op == 172 || i.op == 173 || i.op == 176 || i.op == 177 || i.op == 191)
set_option maxRecDepth 100000 in
set_option maxHeartbeats 4000000 in
theorem falls_any (i : Ins) (w : World) : Calls Try.prog 34 #[i.val] w fun e w' => e = .returned (.bool (fallsI i)) ∧ Below w.heap.size w w' := by
  obtain ⟨at_, op, a, b, size⟩ := i
  unfold Ins.val fallsI
  have hb : Below w.heap.size w (w.alloc (.cells #[.int .i64 at_, .int .i64 op, .int .i64 a, .int .i64 b, .int .i64 size] 28)) := (Below.refl _ _).alloc (Nat.le_refl _) _
  by_cases h0 : op = 167
  · subst h0
    go_enter Try.func34, Try.ntmps34
    go_wp2_with fail
    go_ret
    exact ⟨rfl, hb⟩
  by_cases h1 : op = 172
  · subst h1
    go_enter Try.func34, Try.ntmps34
    go_wp2_with fail
    go_ret
    exact ⟨rfl, hb⟩
  by_cases h2 : op = 173
  · subst h2
    go_enter Try.func34, Try.ntmps34
    go_wp2_with fail
    go_ret
    exact ⟨rfl, hb⟩
  by_cases h3 : op = 176
  · subst h3
    go_enter Try.func34, Try.ntmps34
    go_wp2_with fail
    go_ret
    exact ⟨rfl, hb⟩
  by_cases h4 : op = 177
  · subst h4
    go_enter Try.func34, Try.ntmps34
    go_wp2_with fail
    go_ret
    exact ⟨rfl, hb⟩
  by_cases h5 : op = 191
  · subst h5
    go_enter Try.func34, Try.ntmps34
    go_wp2_with fail
    go_ret
    exact ⟨rfl, hb⟩
  have hf : (!(op == 167 || op == 172 || op == 173 || op == 176 || op == 177 || op == 191)) = true := by simp [h0, h1, h2, h3, h4, h5]
  rw [hf]
  have b0 : (op == 167) = false := by simpa using h0
  have b1 : (op == 172) = false := by simpa using h1
  have b2 : (op == 173) = false := by simpa using h2
  have b3 : (op == 176) = false := by simpa using h3
  have b4 : (op == 177) = false := by simpa using h4
  have b5 : (op == 191) = false := by simpa using h5
  clear hf h0 h1 h2 h3 h4 h5
  go_enter Try.func34, Try.ntmps34
  go_wp2_with fail
  go_ret
  exact ⟨rfl, hb⟩
set_option maxRecDepth 100000 in
set_option maxHeartbeats 4000000 in
theorem rfalls_any (i : Ins) (w : World) : Calls Try.prog 49 #[i.val] w fun e w' => e = .returned (.bool (fallsI i)) ∧ Below w.heap.size w w' := by
  obtain ⟨at_, op, a, b, size⟩ := i
  unfold Ins.val fallsI
  have hb : Below w.heap.size w (w.alloc (.cells #[.int .i64 at_, .int .i64 op, .int .i64 a, .int .i64 b, .int .i64 size] 28)) := (Below.refl _ _).alloc (Nat.le_refl _) _
  by_cases h0 : op = 167
  · subst h0
    go_enter Try.func49, Try.ntmps49
    go_wp2_with fail
    go_ret
    exact ⟨rfl, hb⟩
  by_cases h1 : op = 172
  · subst h1
    go_enter Try.func49, Try.ntmps49
    go_wp2_with fail
    go_ret
    exact ⟨rfl, hb⟩
  by_cases h2 : op = 173
  · subst h2
    go_enter Try.func49, Try.ntmps49
    go_wp2_with fail
    go_ret
    exact ⟨rfl, hb⟩
  by_cases h3 : op = 176
  · subst h3
    go_enter Try.func49, Try.ntmps49
    go_wp2_with fail
    go_ret
    exact ⟨rfl, hb⟩
  by_cases h4 : op = 177
  · subst h4
    go_enter Try.func49, Try.ntmps49
    go_wp2_with fail
    go_ret
    exact ⟨rfl, hb⟩
  by_cases h5 : op = 191
  · subst h5
    go_enter Try.func49, Try.ntmps49
    go_wp2_with fail
    go_ret
    exact ⟨rfl, hb⟩
  have hf : (!(op == 167 || op == 172 || op == 173 || op == 176 || op == 177 || op == 191)) = true := by simp [h0, h1, h2, h3, h4, h5]
  rw [hf]
  have b0 : (op == 167) = false := by simpa using h0
  have b1 : (op == 172) = false := by simpa using h1
  have b2 : (op == 173) = false := by simpa using h2
  have b3 : (op == 176) = false := by simpa using h3
  have b4 : (op == 177) = false := by simpa using h4
  have b5 : (op == 191) = false := by simpa using h5
  clear hf h0 h1 h2 h3 h4 h5
  go_enter Try.func49, Try.ntmps49
  go_wp2_with fail
  go_ret
  exact ⟨rfl, hb⟩

theorem dec_aw0 : decC [3, 172] ((0 : Nat) : Int) = 0 := by kernel_rfl
theorem dec_aw1 : decC [3, 172] ((1 : Nat) : Int) = 0 := by kernel_rfl
theorem sz_aw0 : szAt [3, 172] 0 = 1 := by kernel_rfl
theorem sz_aw1 : szAt [3, 172] 1 = 1 := by kernel_rfl
theorem op_aw1 : (decI [3, 172] ((1 : Nat) : Int)).op = 172 := by
  rw [dec_is (dec_stands.1 dec_aw1)]
  rfl
theorem walk_aw : walkAt [3, 172] 0 = [(decI [3, 172] ((0 : Nat) : Int), 0), (decI [3, 172] ((1 : Nat) : Int), 0)] := by
  rw [walkAt_go (by decide) dec_aw0, sz_aw0, walkAt_go (by decide) dec_aw1, sz_aw1, walkAt_end (by decide)]
theorem list_aw : listE [3, 172] = 0 ∧ ∃ i j : Ins, listL [3, 172] = [i, j] ∧ j.op = 172 := by
  obtain ⟨h1, h2⟩ := list_good (bs := [3, 172]) (by rw [walk_aw]; intro x hx; simp at hx; rcases hx with rfl | rfl <;> rfl)
  exact ⟨h1, _, _, by rw [h2, walk_aw]; rfl, op_aw1⟩
set_option maxRecDepth 100000 in
set_option maxHeartbeats 4000000 in
theorem awake07 (w : World) : Calls Try.prog 29 #[] w fun e w' => e = .returned (.bool true) ∧ Below w.heap.size w w' := by
  have hb0 : Below w.heap.size w (w.alloc (.cells #[.int .u8 3, .int .u8 172] 5)) := (Below.refl _ _).alloc (Nat.le_refl _) _
  have hr : ReadsB (w.alloc (.cells #[.int .u8 3, .int .u8 172] 5)) (w.alloc (.cells #[.int .u8 3, .int .u8 172] 5)).heap.size (some ⟨w.heap.size, 0, none⟩) [3, 172] := ReadsB.new w [3, 172] _ _ _ rfl
  have hl := Lib.hid (list_any (some ⟨w.heap.size, 0, none⟩) 2 [3, 172] _ (by decide) (by intro n hn; simp at hn; omega) hr (by decide) (by decide))
  obtain ⟨he, i, j, hL, hj⟩ := list_aw
  unfold LsPost at hl
  rw [he, hL] at hl
  have hf := fun w => Lib.hid (falls_any j w)
  have hfj : fallsI j = false := by unfold fallsI; rw [hj]; rfl
  rw [hfj] at hf
  obtain ⟨at_, op, a, b, size⟩ := j
  unfold Ins.val at hf
  clear he hL hj hfj
  go_enter Try.func29, Try.ntmps29
  go_wp2_with fail
  refine hl.out.mono ?_
  rintro _ w1 ⟨A, c, rfl, hrd, hlc, hmx, hb1⟩
  obtain ⟨ad, rfl, _, c0, c1, c2, c3, c4⟩ := hrd.at_ (k := 1) (e := ⟨at_, op, a, b, size⟩) rfl
  have hB1 := hb0.trans (hb1.mono hb0.size)
  have e5 : ad.add (1 * 5) = ⟨ad.block, ad.off + 5, none⟩ := by unfold Addr.add; simp
  rw [e5] at c0 c1 c2 c3 c4
  dsimp only at c1 c2 c3 c4
  clear hl e5
  go_wp2_with fail
  refine (hf _).out.mono ?_
  rintro _ w2 ⟨rfl, hb2⟩
  go_wp2_with fail
  go_ret
  exact ⟨rfl, hB1.trans (hb2.mono hB1.size)⟩
end Go.Proofs.Ytcinmgifadmbeaa
