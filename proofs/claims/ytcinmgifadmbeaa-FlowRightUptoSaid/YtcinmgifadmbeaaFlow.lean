/- flow.each: a range over a function. -/
import Derived.Test.YtcinmgifadmbeaaDecP
import Derived.Test.YtcinmgifadmbeaaInsL
import Derived.RangeFuncNested
import Derived.RangeFuncBound
import Derived.RangeFuncCalls
import Derived.RangeFuncLeaves
import Derived.Shelf.Abstract
import Derived.Shelf.RegionOpen
import Derived.OwnWalkIn
import Derived.TacticsInMore
import Derived.LoopNIn
import Derived.LoopIn
namespace Go.Proofs.Ytcinmgifadmbeaa
open Go.RowKit Go.Shelf
set_option linter.unusedVariables false
attribute [local go_sem] Oper.semAt_some

/-- What comes of a code from a place on: instructions, and behind the last one the number of what is wrong. -/
noncomputable def walkAt (bs : List Int) (k : Nat) : List (Ins × Int) :=
  if k < bs.length then (decI bs k, decC bs k) :: (if decC bs k = 0 then walkAt bs (k + szAt bs k) else []) else []
  termination_by bs.length - k
  decreasing_by have := (szAt_bd bs k).1; omega
theorem walkAt_end {bs : List Int} {k : Nat} (h : ¬ k < bs.length) : walkAt bs k = [] := by rw [walkAt, if_neg h]
theorem walkAt_go {bs : List Int} {k : Nat} (h : k < bs.length) (h0 : decC bs k = 0) : walkAt bs k = (decI bs k, 0) :: walkAt bs (k + szAt bs k) := by rw [walkAt, if_pos h, if_pos h0, h0]
theorem walkAt_no {bs : List Int} {k : Nat} (h : k < bs.length) (h0 : ¬ decC bs k = 0) : walkAt bs k = [(decI bs k, decC bs k)] := by rw [walkAt, if_pos h, if_neg h0]

/-- What a round keeps: all cells but G's. -/
structure Kept (G : World → Nat → Prop) (W W' : World) : Prop where
  size : W.heap.size ≤ W'.heap.size
  same : ∀ k o, W.heap[k]? = some o → o.isCells = true → ¬ G W k → W'.heap[k]? = some o
  back : ∀ k, k < W.heap.size → G W' k → G W k
  inr : (∀ k, G W k → k < W.heap.size) → ∀ k, G W' k → k < W'.heap.size
theorem Kept.trans {G : World → Nat → Prop} {A B C : World} (h : Kept G A B) (k : Kept G B C) : Kept G A C :=
  ⟨Nat.le_trans h.size k.size, fun j o hj ho hn => k.same j o (h.same j o hj ho hn) ho fun hg => hn (h.back j (Array.getElem?_eq_some_iff.1 hj).1 hg),
    fun j hj hg => h.back j hj (k.back j (Nat.lt_of_lt_of_le hj h.size) hg), fun hr => k.inr (h.inr hr)⟩
/-- G is told by what lies. -/
structure Told (G : World → Nat → Prop) : Prop where
  below : ∀ {W W' : World}, (∀ k, G W k → k < W.heap.size) → Below W.heap.size W W' → ∀ k, G W' k → G W k
theorem kept_cell {G : World → Nat → Prop} {W W' : World} (h : Kept G W W') {p : Addr} {v : Value} (hn : ¬ G W p.block) (hc : W.cell? p = some v) : W'.cell? p = some v := by
  obtain ⟨o, ho, hcl⟩ := cells_of_cell hc
  exact (World.cell?_of_block ((h.same _ o ho hcl hn).trans ho.symm)).trans hc
theorem Blk.kept {G : World → Nat → Prop} {W W' : World} {g : Nat} {t : TypeId} {cs : Array Value} (h : Blk W g t cs) (k : Kept G W W') (hn : ¬ G W g) : Blk W' g t cs := k.same g _ h rfl hn
theorem Reads.kept {G : World → Nat → Prop} {W W' : World} {B size n : Nat} {A : Option Addr} {xs : List Value} (h : Reads W B size A n xs) (k : Kept G W W') (hn : ∀ j, j < B → ¬ G W j) : Reads W' B size A n xs :=
  ⟨h.1, fun h0 => by
    obtain ⟨ad, e, hb, hc⟩ := h.2 h0
    exact ⟨ad, e, hb, fun j u hu => kept_cell k (by rw [block_of_add]; exact hn _ hb) (hc j u hu)⟩⟩

set_option maxRecDepth 100000 in
set_option maxHeartbeats 4000000 in
theorem each_any (A : Option Addr) (n c : Nat) (w : World) :
    Calls Try.prog 46 #[.slice A n c] w fun e w' => e = .returned (.func (.func 58) #[] #[.pointer (some ⟨w.heap.size, 0, none⟩)]) ∧ w' = w.alloc (.cells #[.slice A n c] 31) := by
  go_enter Try.func46, Try.ntmps46
  go_wp2_with fail
  go_ret
  exact ⟨rfl, rfl⟩

set_option maxRecDepth 100000 in
set_option maxHeartbeats 4000000 in
theorem each1_in (n : Nat) (hn : 1 ≤ n) (G : World → Nat → Prop) (hG : Told G) (l Bx n₀ : Nat) (A : Option Addr) (c : Nat) (bs : List Int) (hb : Bytes bs) (hc : bs.length ≤ c) (hm : c ≤ 9223372036854775807) (J Jx : List (Ins × Int) → World → Prop)
    (hY : ∀ pre x W1, J pre W1 → pre.length < bs.length → YieldAt Fence.wide (n - 1) Try.prog l #[x.1.val, .int .i64 x.2] W1 fun e W' =>
      (e = .returned (.bool true) ∧ J (pre ++ [x]) W' ∧ Kept G W1 W') ∨ (e = .returned (.bool false) ∧ Jx (pre ++ [x]) W'))
    (W : World) (hJ : AbidesFrom W.heap.size J) (hBx : Blk W Bx 31 #[.slice A bs.length c]) (hGx : ¬ G W Bx) (hr : ReadsB W n₀ A bs) (hn0 : n₀ ≤ W.heap.size) (hG0 : ∀ j, j < n₀ → ¬ G W j) (hGr : ∀ k, G W k → k < W.heap.size) (h0 : J [] W) :
    CallsIn Fence.wide n Try.prog 58 #[.func (.yield l) #[] #[], .pointer (some ⟨Bx, 0, none⟩)] W fun e W' => (∃ v, e = .returned v) ∧
      ((∃ ys, ys = walkAt bs 0 ∧ J ys W') ∨ (∃ pre, pre <+: walkAt bs 0 ∧ Jx pre W')) := by
  refine callsIn_of_wp Try.func58 rfl trivial ?_ rfl
  simp only [Try.ntmps58, List.size_toArray, List.length_cons, List.length_nil, Nat.reduceAdd, Nat.reduceSub, Array.replicate_succ, Array.replicate_zero, List.push_toArray, List.append_toArray, List.nil_append, List.cons_append]
  have hc0 : W.cell? ⟨Bx, 0, none⟩ = some (.slice A bs.length c) := hBx.cell 0
  gi_wp2
  gi_loopw [3] (fun i wr => ∃ (k : Nat) (pre : List (Ins × Int)), k ≤ bs.length ∧ i = .int .i64 k ∧ pre.length ≤ k ∧ pre ++ walkAt bs k = walkAt bs 0 ∧ J pre wr ∧ Blk wr Bx 31 #[.slice A bs.length c] ∧ ¬ G wr Bx ∧ ReadsB wr n₀ A bs ∧ n₀ ≤ wr.heap.size ∧ (∀ j, j < n₀ → ¬ G wr j) ∧ (∀ k, G wr k → k < wr.heap.size) ∧ W.heap.size ≤ wr.heap.size) (fun i _ => bs.length - (intOf i).toNat)
  case atStart => exact ⟨0, [], by omega, rfl, by simp, rfl, h0, hBx, hGx, hr, hn0, hG0, hGr, Nat.le_refl _⟩
  case round =>
    obtain ⟨k, pre, hk, rfl, hpl, hall, hJs, hB, hGB, hR, hn0r, hG0r, hGrr, hWs⟩ := hrel
    have hbc : wr.cell? ⟨Bx, 0, none⟩ = some (.slice A bs.length c) := hB.cell 0
    by_cases hlt : k < bs.length
    · have hdec := Lib.hid (dec_any A c bs k wr (Reads.more hR hn0r) hb hc hm)
      unfold DPost at hdec
      obtain ⟨x, hx⟩ : ∃ x, x = decI bs k := ⟨_, rfl⟩
      obtain ⟨cd, hcd⟩ : ∃ cd, cd = decC bs k := ⟨_, rfl⟩
      rw [← hx, ← hcd] at hdec
      unfold Ins.val at hdec hY
      replace hx := Lib.hid hx
      replace hcd := Lib.hid hcd
      replace hall := Lib.hid hall
      gi_wp2_with fail
      refine ⟨trivial, (callsIn_wide.2 hdec.out).mono ?_⟩
      rintro _ w2 ⟨rfl, hb2⟩
      have hb3 : Below wr.heap.size wr (w2.alloc (.cells #[.int .i64 x.at_, .int .i64 x.op, .int .i64 x.a, .int .i64 x.b, .int .i64 x.size] 28)) := hb2.alloc hb2.size _
      have hBi := Blk.new w2 28 #[.int .i64 x.at_, .int .i64 x.op, .int .i64 x.a, .int .i64 x.b, .int .i64 x.size]
      have hJ3 : J pre (w2.alloc (.cells #[.int .i64 x.at_, .int .i64 x.op, .int .i64 x.a, .int .i64 x.b, .int .i64 x.size] 28)) := hJ pre wr _ none hJs (only_of_below hb3 none) (fun r h => by cases h)
      have hB3 := hB.below hb3 hB.lt
      have hback := hG.below hGrr hb3
      have hs2 := hb2.size
      have hs3 : (w2.alloc (.cells #[.int .i64 x.at_, .int .i64 x.op, .int .i64 x.a, .int .i64 x.b, .int .i64 x.size] 28)).heap.size = w2.heap.size + 1 := by simp
      have hGB3 := fun h => hGB (hback Bx h)
      have hR3 : ReadsB (w2.alloc (.cells #[.int .i64 x.at_, .int .i64 x.op, .int .i64 x.a, .int .i64 x.b, .int .i64 x.size] 28)) n₀ A bs := Reads.below hR (hb3.mono hn0r)
      have hG03 := fun j hj h => hG0r j hj (hback j h)
      have hGr3 : ∀ k, G (w2.alloc (.cells #[.int .i64 x.at_, .int .i64 x.op, .int .i64 x.a, .int .i64 x.b, .int .i64 x.size] 28)) k → k < (w2.alloc (.cells #[.int .i64 x.at_, .int .i64 x.op, .int .i64 x.a, .int .i64 x.b, .int .i64 x.size] 28)).heap.size := fun k h => by have := hGrr k (hback k h); omega
      have hGi : ¬ G (w2.alloc (.cells #[.int .i64 x.at_, .int .i64 x.op, .int .i64 x.a, .int .i64 x.b, .int .i64 x.size] 28)) w2.heap.size := fun h => by have := hGrr _ (hback _ h); omega
      obtain ⟨w3, hw3⟩ : ∃ w3, w3 = w2.alloc (.cells #[.int .i64 x.at_, .int .i64 x.op, .int .i64 x.a, .int .i64 x.b, .int .i64 x.size] 28) := ⟨_, rfl⟩
      obtain ⟨fn, tmps, assign, body, hy, hRd⟩ := hY pre (x, cd) _ hJ3 (by omega)
      dsimp only at hy
      have d0 : (w2.alloc (.cells #[.int .i64 x.at_, .int .i64 x.op, .int .i64 x.a, .int .i64 x.b, .int .i64 x.size] 28)).cell? ⟨w2.heap.size, 0, none⟩ = some (.int .i64 x.at_) := hBi.cell 0
      clear hdec hbc hw3
      replace hs3 := Lib.hid hs3
      gi_wp2_with fail
      refine hRd.mono ?_
      rintro _ W3 (⟨rfl, hJ4, hk4⟩ | ⟨rfl, hJx4⟩)
      · have hBi4 := hBi.kept hk4 hGi
        have e4 : W3.cell? ⟨w2.heap.size, 4, none⟩ = some (.int .i64 x.size) := hBi4.cell 4
        have hB4 := hB3.kept hk4 hGB3
        have hR4 := Reads.kept hR3 hk4 hG03
        have hs4 := hk4.size
        have hGB4 : ¬ G W3 Bx := fun h => hGB3 (hk4.back _ (by have := hB3.lt; exact this) h)
        have hG04 : ∀ j, j < n₀ → ¬ G W3 j := fun j hj h => hG03 j hj (hk4.back _ (by have := hs3.out; omega) h)
        have hGr4 := hk4.inr hGr3
        by_cases h0 : cd = 0
        · subst h0
          have hst := dec_stands.1 hcd.out.symm
          have hsz : x.size = (szAt bs k : Int) := by rw [hx.out, dec_is hst]
          have hroom := hst.room
          have hsp := (szAt_bd bs k).1
          rw [hsz] at e4
          have hnext : pre ++ [(x, 0)] ++ walkAt bs (k + szAt bs k) = walkAt bs 0 := by
            rw [← hall.out, walkAt_go hlt hcd.out.symm, hx.out]; simp
          generalize szAt bs k = z at *
          replace hsz := Lib.hid hsz
          replace hnext := Lib.hid hnext
          clear hst d0 hBi hBi4
          gi_wp2_with fail
          refine ⟨⟨k + z, pre ++ [(x, 0)], by omega, by go_num, by simp; omega, hnext.out, hJ4, hB4, hGB4, hR4, by have := hs3.out; omega, hG04, hGr4, by have := hs3.out; omega⟩, by simp [intOf]; omega⟩
        · have b0 : (cd != 0) = true := by simpa using h0
          have hend : pre ++ [(x, cd)] = walkAt bs 0 := by
            rw [← hall.out, walkAt_no hlt (by rw [← hcd.out]; exact h0), hx.out, hcd.out]
          replace hend := Lib.hid hend
          replace h0 := Lib.hid h0
          gi_wp2_with fail
          refine bodyPost_ret (results_none rfl _ _ _) rfl ?_
          exact ⟨⟨_, rfl⟩, .inl ⟨_, hend.out, hJ4⟩⟩
      · have hpre : pre ++ [(x, cd)] <+: walkAt bs 0 := by
          rw [← hall.out, hx.out, hcd.out]
          by_cases h0 : decC bs k = 0
          · rw [walkAt_go hlt h0, h0]
            exact ⟨walkAt bs (k + szAt bs k), by simp⟩
          · rw [walkAt_no hlt h0]
            exact List.prefix_refl _
        replace hpre := Lib.hid hpre
        gi_wp2_with fail
        refine bodyPost_ret (results_none rfl _ _ _) rfl ?_
        exact ⟨⟨_, rfl⟩, .inr ⟨_, hpre.out, hJx4⟩⟩
    · rw [walkAt_end hlt, List.append_nil] at hall
      gi_wp2_with fail
      go_end0
      exact ⟨⟨_, rfl⟩, .inl ⟨_, hall, hJs⟩⟩
end Go.Proofs.Ytcinmgifadmbeaa
