/- The reference's List. -/
import Derived.Test.YtcinmgifadmbeaaFlowL
import Derived.Test.YtcinmgifadmbeaaRDec
namespace Go.Proofs.Ytcinmgifadmbeaa
open Go.RowKit
set_option linter.unusedVariables false

set_option maxRecDepth 100000 in
set_option maxHeartbeats 4000000 in
theorem rlist_any (A : Option Addr) (c : Nat) (bs : List Int) (w : World) (hsm : bs.length ≤ 1048576) (hb : Bytes bs) (hr : ReadsB w w.heap.size A bs) (hc : bs.length ≤ c) (hm : c ≤ 9223372036854775807) :
    Calls Try.prog 27 #[.slice A bs.length c] w (LsPost w bs) := by
  go_enter Try.func27, Try.ntmps27
  go_wp2_with fail
  go_loopw [4, 5] (fun v i wr => ∃ (k : Nat) (pre : List (Ins × Int)) (A' : Option Addr) (c' : Nat), k ≤ bs.length ∧ i = .int .i64 k ∧ v = .slice A' pre.length c' ∧ OwnI wr w.heap.size (.slice A' pre.length c') (pre.map (·.1)) ∧ pre.length ≤ k ∧ pre ++ walkAt bs k = walkAt bs 0 ∧ (∀ x ∈ pre, x.2 = 0) ∧ Below w.heap.size w wr) (fun _ i _ => bs.length - (intOf i).toNat)
  case atStart => exact ⟨0, [], none, 0, by omega, rfl, rfl, OwnI.nil _ _, by simp, rfl, (fun x hx => by cases hx), Below.refl _ _⟩
  case round =>
    obtain ⟨k, pre, A', c', hk, rfl, rfl, hO, hpl, hall, hz, hB⟩ := hrel
    replace hall := Lib.hid hall
    by_cases hlt : k < bs.length
    · have hdec := Lib.hid (rdec_any A c bs k wr (Reads.more (Reads.below hr hB) hB.size) hb hc hm)
      unfold DPost at hdec
      obtain ⟨x, hx⟩ : ∃ x, x = decI bs k := ⟨_, rfl⟩
      obtain ⟨cd, hcd⟩ : ∃ cd, cd = decC bs k := ⟨_, rfl⟩
      rw [← hx, ← hcd] at hdec
      unfold Ins.val at hdec
      replace hx := Lib.hid hx
      replace hcd := Lib.hid hcd
      go_wp2_with fail
      refine hdec.out.mono ?_
      rintro _ w2 ⟨rfl, hb2⟩
      have hO2 := OwnI.below hO hb2
      have hB2 := hB.trans (hb2.mono hB.size)
      have hBi := Blk.new w2 28 #[.int .i64 x.at_, .int .i64 x.op, .int .i64 x.a, .int .i64 x.b, .int .i64 x.size]
      have hO3 := Lib.hid (OwnI.alloc hO2 (.cells #[.int .i64 x.at_, .int .i64 x.op, .int .i64 x.a, .int .i64 x.b, .int .i64 x.size] 28))
      have hB3 := hB2.alloc hB2.size (.cells #[.int .i64 x.at_, .int .i64 x.op, .int .i64 x.a, .int .i64 x.b, .int .i64 x.size] 28)
      by_cases h0 : cd = 0
      · subst h0
        have hst := dec_stands.1 hcd.out.symm
        have hsz : x.size = (szAt bs k : Int) := by rw [hx.out, dec_is hst]
        have hroom := hst.room
        have hsp := (szAt_bd bs k).1
        have hnext : pre ++ [(x, 0)] ++ walkAt bs (k + szAt bs k) = walkAt bs 0 := by
          rw [← hall.out, walkAt_go hlt hcd.out.symm, hx.out]; simp
        have hz1 : pre.map (·.1) ++ [x] = (pre ++ [(x, (0 : Int))]).map (·.1) := by simp
        have hz2 : ((pre ++ [(x, (0 : Int))]).map (·.1)).length = pre.length + 1 := by simp
        have hone := Lib.hid (ReadsI.one (w2.alloc (.cells #[.int .i64 x.at_, .int .i64 x.op, .int .i64 x.a, .int .i64 x.b, .int .i64 x.size] 28)) x)
        have hOa : Hid (OwnI ((w2.alloc (.cells #[.int .i64 x.at_, .int .i64 x.op, .int .i64 x.a, .int .i64 x.b, .int .i64 x.size] 28)).alloc (.cells #[.int .i64 x.at_, .int .i64 x.op, .int .i64 x.a, .int .i64 x.b, .int .i64 x.size] 28)) w.heap.size (.slice A' pre.length c') (pre.map (·.1))) := Lib.hid (OwnI.alloc hO3.out (.cells #[.int .i64 x.at_, .int .i64 x.op, .int .i64 x.a, .int .i64 x.b, .int .i64 x.size] 28))
        generalize szAt bs k = z at *
        replace hsz := Lib.hid hsz
        replace hnext := Lib.hid hnext
        replace hz1 := Lib.hid hz1
        replace hz2 := Lib.hid hz2
        clear hst
        have hs2 := hB2.size
        go_wp2_with (first
          | (at_builtin
             refine wpList_appI _ rfl (.tmp 21) (.tmp 23) rfl w.heap.size (.slice A' pre.length c') (pre.map (·.1)) rfl hOa.out (w2.heap.size + 1 + 1) (some ⟨w2.heap.size + 1, 0, none⟩) 1 1 [x] rfl (by have := hone.out; simpa using this) rfl
               ((pre ++ [(x, (0 : Int))]).map (·.1)) (pre.length + 1) hz1.out hz2.out (by omega) (by simp; omega) ?_
             intro A3 c3 w3 hown3 hg3 hb3 hat3
             have hBi3 : Blk w3 w2.heap.size 28 #[.int .i64 x.at_, .int .i64 x.op, .int .i64 x.a, .int .i64 x.b, .int .i64 x.size] := (hBi.alloc _).grown hg3 (fun e => by have := (own_at hO2 e.symm).2; omega)
             have e4 : w3.cell? ⟨w2.heap.size, 4, none⟩ = some (.int .i64 z) := by rw [← hsz.out]; exact hBi3.cell 4))
        have hB4 := (hB3.alloc hB3.size (.cells #[.int .i64 x.at_, .int .i64 x.op, .int .i64 x.a, .int .i64 x.b, .int .i64 x.size] 28)).trans hb3
        exact ⟨⟨k + z, pre ++ [(x, 0)], A3, c3, by omega, by go_num, by simp, by simpa using hown3, by simp; omega, hnext.out, fun y hy => by
          rcases List.mem_append.1 hy with hy | hy
          · exact hz y hy
          · rw [List.mem_singleton.1 hy], hB4⟩, by simp [intOf]; omega⟩
      · have b0 : (cd != 0) = true := by simpa using h0
        obtain ⟨g1, g2⟩ := list_bad (bs := bs) (p := pre) (x := (x, cd)) (by rw [← hall.out, walkAt_no hlt (by rw [← hcd.out]; exact h0), hx.out, hcd.out]; exact List.prefix_refl _) h0
        replace g1 := Lib.hid g1
        replace g2 := Lib.hid g2
        replace h0 := Lib.hid h0
        go_wp2_with fail
        go_ret2
        exact ⟨none, 0, by rw [g1.out, g2.out]; rfl, by rw [g2.out]; exact ReadsI.nil_ _ _, by rw [g2.out]; exact Nat.le_refl _, by unfold maxLen; omega, hB3⟩
    · have hall' := hall.out
      rw [walkAt_end hlt, List.append_nil] at hall'
      obtain ⟨g1, g2⟩ := list_good (bs := bs) (by rw [← hall']; exact hz)
      rw [← hall'] at g2
      have hcap := hO.cap
      replace g1 := Lib.hid g1
      replace g2 := Lib.hid g2
      replace hall' := Lib.hid hall'
      have hln : (pre.map (·.1)).length = pre.length := List.length_map ..
      replace hln := Lib.hid hln
      go_wp2_with fail
      go_ret2
      exact ⟨A', c', by rw [g1.out, g2.out, hln.out]; rfl, by rw [g2.out]; exact hO.reads, by rw [g2.out]; exact hcap.1, hcap.2, hB⟩
end Go.Proofs.Ytcinmgifadmbeaa
