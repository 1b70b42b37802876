/- WireBack: numbers and bytes that are written are read as they were, and nothing is left. -/
import Derived.Test.YtahmhkabipcfiaaBackP
import Derived.Test.YtahmhkabipcfiaaHead
import Derived.Test.YtahmhkabipcfiaaOpenG
import Derived.Deep.RegionHeld3
import Derived.Lib.SmallJoins
import Derived.ProofKit
import Derived.OpenShut
import Derived.ShutString
import Derived.ChangeOld
import Derived.Laws.StructEq
namespace Go.Proofs.Ytahmhkabipcfiaa.WireBackP
open Go.ChangeShapes Go.WideShapes Go.ChangeAt Go.RowKit
open Go.ChangeMaps (open_string shut_string)
set_option linter.unusedVariables false

theorem own : ownKnob Try.prog.godebug = none := by kernel_rfl
theorem laidOut : laidOutB Try.prog = true := by kernel_rfl
theorem bnext {a b c : World} (h : Below a.heap.size a b) (k : Below b.heap.size b c) : Below a.heap.size a c := h.trans (k.mono h.size)
theorem encs_len (l m : List Did) : (encs (l ++ m)).length = (encs l).length + (encs m).length := by simp [encs]
theorem encs_at {ds : List Did} {j : Nat} {d : Did} (h : ds[j]? = some d) : ((encs ds).drop (encs (ds.take j)).length).take d.o.enc.length = d.o.enc ∧
    (encs (ds.take (j + 1))).length = (encs (ds.take j)).length + d.o.enc.length ∧ (encs (ds.take j)).length + d.o.enc.length ≤ (encs ds).length := by
  have hj : j < ds.length := (List.getElem?_eq_some_iff.1 h).1
  have h1 : ds.take (j + 1) = ds.take j ++ [d] := by rw [List.take_add_one, h]; rfl
  have h2 : encs ds = encs (ds.take j) ++ (d.o.enc ++ encs (ds.drop (j + 1))) := by
    conv => lhs; rw [← List.take_append_drop (j + 1) ds, h1]
    simp [encs]
  refine ⟨?_, ?_, ?_⟩
  · rw [h2, List.drop_left, List.take_left]
  · rw [h1, encs_len]; simp [encs]
  · rw [h2, List.length_append, List.length_append]; omega
theorem bytes_yes {bs xs : List Int} {most : Int} (h : bytesCode (↑bs.length) (↑xs.length) most = 0) : bytesNew bs most xs = xs ++ bs := by
  unfold bytesCode at h
  unfold bytesNew
  by_cases k : most < (xs.length : Int) + bs.length
  · rw [if_pos k] at h; cases h
  · rw [if_neg k]
theorem bytes_no {bs xs : List Int} {most : Int} (h : ¬ bytesCode (↑bs.length) (↑xs.length) most = 0) : bytesNew bs most xs = xs := by
  unfold bytesCode at h
  unfold bytesNew
  by_cases k : most < (xs.length : Int) + bs.length
  · rw [if_pos k]
  · exact absurd (if_neg k) h
/-- What is known of a call that was done. -/
def OkD (w : World) (d : Did) : Prop := d.o.In ∧ d.o.fine ∧ ReadsB w w.heap.size d.A d.o.bs
theorem ok_snoc {w : World} {ds : List Did} {d : Did} (h : ∀ x ∈ ds, OkD w x) (k : OkD w d) : ∀ x ∈ ds ++ [d], OkD w x := fun x hx => by
  rcases List.mem_append.1 hx with hx | hx
  · exact h x hx
  · rw [List.mem_singleton.1 hx]; exact k

set_option maxRecDepth 100000 in
set_option maxHeartbeats 4000000 in
theorem walk (A0 : Option Addr) (n0 c0 : Nat) (os : List Call) (w : World) (h0 : os.length = n0 ∧ n0 ≤ maxLen ∧ Script w w.heap.size A0 os ∧ ∀ o ∈ os, o.In) :
    Calls Try.prog 4 #[.slice A0 n0 c0] w fun e w' => e = .returned (.bool true) ∧ Below w.heap.size w w' := by
  obtain ⟨rfl, hm, hSc, hIn⟩ := h0
  unfold maxLen at hm
  have gn := fun w => Lib.hid (newW_ok 1048576 w (by omega) (by omega))
  have gaw := fun w => Lib.hid (awake_wire w)
  go_enter Try.func4, Try.ntmps4
  go_wp2_with fail
  refine (gn _).out.mono ?_
  rintro _ w1 ⟨rfl, hW1, hb1⟩
  go_wp2_with fail
  go_loopw [5, 6] (fun did i wr => ∃ (k : Nat) (F : Nat → Prop) (ds : List Did) (A : Option Addr) (c : Nat), k ≤ os.length ∧ i = .int .i64 k ∧ did = .slice A ds.length c ∧ Wr wr F w.heap.size w.heap.size 1048576 (encs ds) ∧ OwnD wr w.heap.size (.slice A ds.length c) ds ∧ (∀ j, (Value.slice A ds.length c).ownBlock = some j → ¬ F j) ∧ (∀ d ∈ ds, OkD w d) ∧ ds.length ≤ k ∧ k ≤ 200 ∧ Below w.heap.size w wr) (fun _ i _ => os.length - (intOf i).toNat)
  case atStart => exact ⟨0, _, [], none, 0, by omega, rfl, rfl, hW1, World.ownsRow_nil _ _ _ _, (fun j hj => by cases hj), (fun d hd => by cases hd), by simp, by omega, hb1⟩
  case round =>
    obtain ⟨k, F, ds, A, c, hk, rfl, rfl, hW, hO, hF, hok0, hdk, hk200, hB⟩ := hrel
    by_cases hlt : k < os.length ∧ k < 200
    · obtain ⟨hlt, h200⟩ := hlt
      have b1 : decide ((k : Int) < (os.length : Int)) = true := decide_eq_true (by omega)
      have b2 : decide ((k : Int) < 200) = true := decide_eq_true (by omega)
      obtain ⟨ad, rfl, hlo, hC⟩ := hSc k os[k] (List.getElem?_eq_getElem hlt)
      have hin := hIn os[k] (List.getElem_mem hlt)
      generalize os[k] = o at *
      obtain ⟨A2, len, cp, c0, c1, c2, c3, c4, hrb, hlen, hlc, hmx⟩ := hC
      subst hlen
      obtain ⟨ow, on, ox, oy, bs⟩ := o
      dsimp only at c0 c1 c2 c3 c4 hrb hlc
      unfold maxLen at hmx
      have hpb : (ad.add (k * 5)).block < w.heap.size := by rw [block_of_add]; exact hlo
      replace c0 := (hB.cell (p := ad.add (k * 5)) hpb).trans c0
      replace c1 : wr.cell? { block := (ad.add (k * 5)).block, off := (ad.add (k * 5)).off + 1 } = some (.int .i64 on) := (hB.cell (p := ⟨_, _, none⟩) hpb).trans c1
      replace c2 : wr.cell? { block := (ad.add (k * 5)).block, off := (ad.add (k * 5)).off + 2 } = some (.int .u64 ox) := (hB.cell (p := ⟨_, _, none⟩) hpb).trans c2
      replace c3 : wr.cell? { block := (ad.add (k * 5)).block, off := (ad.add (k * 5)).off + 3 } = some (.int .i64 oy) := (hB.cell (p := ⟨_, _, none⟩) hpb).trans c3
      replace c4 : wr.cell? { block := (ad.add (k * 5)).block, off := (ad.add (k * 5)).off + 4 } = some (.slice A2 bs.length cp) := (hB.cell (p := ⟨_, _, none⟩) hpb).trans c4
      have hba : Below wr.heap.size wr (wr.alloc (.cells #[.int .i64 ow, .int .i64 on, .int .u64 ox, .int .i64 oy, .slice A2 bs.length cp] 33)) := (Below.refl _ _).alloc (Nat.le_refl _) _
      have hWa := hW.below hba
      have hL := Blk.new wr 33 #[.int .i64 ow, .int .i64 on, .int .u64 ox, .int .i64 oy, .slice A2 bs.length cp]
      have hOa : OwnD (wr.alloc (.cells #[.int .i64 ow, .int .i64 on, .int .u64 ox, .int .i64 oy, .slice A2 bs.length cp] 33)) w.heap.size (.slice A ds.length c) ds := own_below hO hba
      have hBa := hB.trans (hba.mono hB.size)
      have hra : ReadsB (wr.alloc (.cells #[.int .i64 ow, .int .i64 on, .int .u64 ox, .int .i64 oy, .slice A2 bs.length cp] 33)) w.heap.size A2 bs := hrb.below hBa
      have hnF : ¬ F wr.heap.size := fun h => by have := (hW.lt _ h).2; omega
      have sa := hba.size
      by_cases hlong : 1000 < bs.length
      · have b3 : decide ((1000 : Int) < (bs.length : Int)) = true := decide_eq_true (by omega)
        go_wp2_with fail
        exact ⟨⟨k + 1, _, ds, A, c, by omega, by go_num, rfl, hWa, hOa, hF, hok0, by omega, by omega, hBa⟩, by simp [intOf]; omega⟩
      · have b3 : decide ((1000 : Int) < (bs.length : Int)) = false := decide_eq_false (by omega)
        have gwu := fun w2 F b xs h => Lib.hid (wuint_any F b w.heap.size 1048576 xs on ox w2 h)
        have gwi := fun w2 F b xs h => Lib.hid (wint_any F b w.heap.size 1048576 xs on oy w2 h)
        have gwb := fun w2 F b xs B2 h hr => Lib.hid (wbytes_any F b w.heap.size 1048576 xs A2 bs.length cp bs w2 B2 h hr rfl (by unfold maxLen; omega))
        by_cases hw0 : ow = 0
        · subst hw0
          go_wp2_with fail
          generalize hWW : wr.alloc (.cells #[.int .i64 0, .int .i64 on, .int .u64 ox, .int .i64 oy, .slice A2 bs.length cp] 33) = W at *
          refine (gwu _ _ _ _ hWa).out.mono ?_
          rintro _ w3 ⟨rfl, hW3, hT3⟩
          have hL3 := hL.turned hT3 hnF
          have d0 : w3.cell? ⟨wr.heap.size, 0, none⟩ = some (.int .i64 0) := hL3.cell 0
          have d1 : w3.cell? ⟨wr.heap.size, 1, none⟩ = some (.int .i64 on) := hL3.cell 1
          have d2 : w3.cell? ⟨wr.heap.size, 2, none⟩ = some (.int .u64 ox) := hL3.cell 2
          have d3 : w3.cell? ⟨wr.heap.size, 3, none⟩ = some (.int .i64 oy) := hL3.cell 3
          have d4 : w3.cell? ⟨wr.heap.size, 4, none⟩ = some (.slice A2 bs.length cp) := hL3.cell 4
          have hO3 : OwnD w3 w.heap.size (.slice A ds.length c) ds := own_turned hOa hT3 hF
          have hB3 := hBa.trans (hT3.below hBa.size fun j hj => (hWa.lt j hj).1)
          have s3 := hT3.size
          have hF3 : ∀ j, (Value.slice A ds.length c).ownBlock = some j → ¬ Grow F W w3 j := fun j hj h => by
            rcases h with h | h
            · exact hF j hj h
            · have := (own_at hO hj).2; omega
          clear c0 c1 c2 c3 c4
          by_cases hcode : putCode on (fitsU on ox) (↑(encs ds).length) 1048576 = 0
          · have hnew : putNew on ox (fitsU on ox) 1048576 (encs ds) = encs ds ++ Call.enc ⟨0, on, ox, oy, bs⟩ := by rw [enc_0 rfl]; unfold putNew; rw [if_pos hcode]
            have hok : OkD w (⟨⟨0, on, ox, oy, bs⟩, A2, cp⟩ : Did) := ⟨hin, ⟨fun _ => put_yes hcode, (fun h => absurd (show (0 : Int) = 1 from h) (by decide))⟩, hrb⟩
            rw [hnew] at hW3
            rw [hcode]
            replace hnew := Lib.hid hnew
            replace hcode := Lib.hid hcode
            have hba3 : Below w3.heap.size w3 (w3.alloc (.cells #[.int .i64 0, .int .i64 on, .int .u64 ox, .int .i64 oy, .slice A2 bs.length cp] 33)) := (Below.refl _ _).alloc (Nat.le_refl _) _
            have hOa3 : OwnD (w3.alloc (.cells #[.int .i64 0, .int .i64 on, .int .u64 ox, .int .i64 oy, .slice A2 bs.length cp] 33)) w.heap.size (.slice A ds.length c) ds := own_below hO3 hba3
            have hR1 : Reads (w3.alloc (.cells #[.int .i64 0, .int .i64 on, .int .u64 ox, .int .i64 oy, .slice A2 bs.length cp] 33)) (w3.heap.size + 1) 5 (some ⟨w3.heap.size, 0, none⟩) 1 (Did.cells (⟨⟨0, on, ox, oy, bs⟩, A2, cp⟩ : Did)) := by
              have := Reads.new w3 #[.int .i64 0, .int .i64 on, .int .u64 ox, .int .i64 oy, .slice A2 bs.length cp] 33 (0, 0) 1 5 rfl
              simpa [Did.cells] using this
            have hsz3 := hba3.size
            have hbs3 : w.heap.size ≤ (w3.alloc (.cells #[.int .i64 0, .int .i64 on, .int .u64 ox, .int .i64 oy, .slice A2 bs.length cp] 33)).heap.size := Nat.le_trans hB3.size hsz3
            have hWr4 := hW3.below hba3
            have hB4 := hB3.trans (hba3.mono hB3.size)
            replace hR1 := Lib.hid hR1
            replace hOa3 := Lib.hid hOa3
            replace hWr4 := Lib.hid hWr4
            replace hbs3 := Lib.hid hbs3
            replace hB4 := Lib.hid hB4
            go_wp2_with (first
              | (at_builtin
                 refine wpList_appD (w3.alloc (.cells #[.int .i64 0, .int .i64 on, .int .u64 ox, .int .i64 oy, .slice A2 bs.length cp] 33)) rfl (.tmp 66) (.tmp 68) rfl w.heap.size (.slice A ds.length c) ds (by simp [Act.eval]) hOa3.out
                   (w3.heap.size + 1) (some ⟨w3.heap.size, 0, none⟩) 1 (⟨⟨0, on, ox, oy, bs⟩, A2, cp⟩ : Did) (by simp [Act.eval]) hR1.out (ds.length + 1) rfl (by omega) hbs3.out ?_
                 intro A3 c3 w4 hO4 hg4 hat4))
            have hW4 := Wr.turned hWr4.out (Turned.of_grown (F := fun k => (Value.slice A ds.length c).ownBlock = some k) hg4 (fun k h => h)) (fun i hi h => hF3 i h hi)
            have hB5 := hB4.out.trans (grown_below hg4 hbs3.out fun k hk => (own_at hO hk).1)
            rw [← encs_snoc ds (⟨⟨0, on, ox, oy, bs⟩, A2, cp⟩ : Did)] at hW4
            have hzl : (ds ++ [(⟨⟨0, on, ox, oy, bs⟩, A2, cp⟩ : Did)]).length = ds.length + 1 := by simp
            exact ⟨⟨k + 1, _, ds ++ [(⟨⟨0, on, ox, oy, bs⟩, A2, cp⟩ : Did)], A3, c3, by omega, by go_num, by rw [hzl], hW4, by rw [hzl]; exact hO4, (by
              rw [hzl]
              intro j hj h
              rcases hat4 with e | e
              · exact hF3 j (e ▸ hj) h
              · rw [e] at hj
                injection hj with hj
                have := (hW3.lt j h).2
                omega), ok_snoc hok0 hok, by rw [hzl]; omega, by omega, hB5⟩, by simp [intOf]; omega⟩
          · have hnew : putNew on ox (fitsU on ox) 1048576 (encs ds) = encs ds := by unfold putNew; rw [if_neg hcode]
            rw [hnew] at hW3
            generalize putCode on (fitsU on ox) (↑(encs ds).length) 1048576 = code at *
            have e3 : (code == 0) = false := by simpa using hcode
            clear hnew
            go_wp2_with fail
            exact ⟨⟨k + 1, _, ds, A, c, by omega, by go_num, rfl, hW3, hO3, hF3, hok0, by omega, by omega, hB3⟩, by simp [intOf]; omega⟩
        · by_cases hw1 : ow = 1
          · subst hw1
            replace hw0 := Lib.hid hw0
            go_wp2_with fail
            generalize hWW : wr.alloc (.cells #[.int .i64 1, .int .i64 on, .int .u64 ox, .int .i64 oy, .slice A2 bs.length cp] 33) = W at *
            refine (gwi _ _ _ _ hWa).out.mono ?_
            rintro _ w3 ⟨rfl, hW3, hT3⟩
            have hL3 := hL.turned hT3 hnF
            have d0 : w3.cell? ⟨wr.heap.size, 0, none⟩ = some (.int .i64 1) := hL3.cell 0
            have d1 : w3.cell? ⟨wr.heap.size, 1, none⟩ = some (.int .i64 on) := hL3.cell 1
            have d2 : w3.cell? ⟨wr.heap.size, 2, none⟩ = some (.int .u64 ox) := hL3.cell 2
            have d3 : w3.cell? ⟨wr.heap.size, 3, none⟩ = some (.int .i64 oy) := hL3.cell 3
            have d4 : w3.cell? ⟨wr.heap.size, 4, none⟩ = some (.slice A2 bs.length cp) := hL3.cell 4
            have hO3 : OwnD w3 w.heap.size (.slice A ds.length c) ds := own_turned hOa hT3 hF
            have hB3 := hBa.trans (hT3.below hBa.size fun j hj => (hWa.lt j hj).1)
            have s3 := hT3.size
            have hF3 : ∀ j, (Value.slice A ds.length c).ownBlock = some j → ¬ Grow F W w3 j := fun j hj h => by
              rcases h with h | h
              · exact hF j hj h
              · have := (own_at hO hj).2; omega
            clear c0 c1 c2 c3 c4
            by_cases hcode : putCode on (fitsI on oy) (↑(encs ds).length) 1048576 = 0
            · have hnew : putNew on oy (fitsI on oy) 1048576 (encs ds) = encs ds ++ Call.enc ⟨1, on, ox, oy, bs⟩ := by rw [enc_1 (show ¬ (1 : Int) = 0 by decide) rfl]; unfold putNew; rw [if_pos hcode]
              have hok : OkD w (⟨⟨1, on, ox, oy, bs⟩, A2, cp⟩ : Did) := ⟨hin, ⟨(fun h => absurd (show (1 : Int) = 0 from h) (by decide)), fun _ => put_yes hcode⟩, hrb⟩
              rw [hnew] at hW3
              rw [hcode]
              replace hnew := Lib.hid hnew
              replace hcode := Lib.hid hcode
              have hba3 : Below w3.heap.size w3 (w3.alloc (.cells #[.int .i64 1, .int .i64 on, .int .u64 ox, .int .i64 oy, .slice A2 bs.length cp] 33)) := (Below.refl _ _).alloc (Nat.le_refl _) _
              have hOa3 : OwnD (w3.alloc (.cells #[.int .i64 1, .int .i64 on, .int .u64 ox, .int .i64 oy, .slice A2 bs.length cp] 33)) w.heap.size (.slice A ds.length c) ds := own_below hO3 hba3
              have hR1 : Reads (w3.alloc (.cells #[.int .i64 1, .int .i64 on, .int .u64 ox, .int .i64 oy, .slice A2 bs.length cp] 33)) (w3.heap.size + 1) 5 (some ⟨w3.heap.size, 0, none⟩) 1 (Did.cells (⟨⟨1, on, ox, oy, bs⟩, A2, cp⟩ : Did)) := by
                have := Reads.new w3 #[.int .i64 1, .int .i64 on, .int .u64 ox, .int .i64 oy, .slice A2 bs.length cp] 33 (0, 0) 1 5 rfl
                simpa [Did.cells] using this
              have hsz3 := hba3.size
              have hbs3 : w.heap.size ≤ (w3.alloc (.cells #[.int .i64 1, .int .i64 on, .int .u64 ox, .int .i64 oy, .slice A2 bs.length cp] 33)).heap.size := Nat.le_trans hB3.size hsz3
              have hWr4 := hW3.below hba3
              have hB4 := hB3.trans (hba3.mono hB3.size)
              replace hR1 := Lib.hid hR1
              replace hOa3 := Lib.hid hOa3
              replace hWr4 := Lib.hid hWr4
              replace hbs3 := Lib.hid hbs3
              replace hB4 := Lib.hid hB4
              go_wp2_with (first
                | (at_builtin
                   refine wpList_appD (w3.alloc (.cells #[.int .i64 1, .int .i64 on, .int .u64 ox, .int .i64 oy, .slice A2 bs.length cp] 33)) rfl (.tmp 66) (.tmp 68) rfl w.heap.size (.slice A ds.length c) ds (by simp [Act.eval]) hOa3.out
                     (w3.heap.size + 1) (some ⟨w3.heap.size, 0, none⟩) 1 (⟨⟨1, on, ox, oy, bs⟩, A2, cp⟩ : Did) (by simp [Act.eval]) hR1.out (ds.length + 1) rfl (by omega) hbs3.out ?_
                   intro A3 c3 w4 hO4 hg4 hat4))
              have hW4 := Wr.turned hWr4.out (Turned.of_grown (F := fun k => (Value.slice A ds.length c).ownBlock = some k) hg4 (fun k h => h)) (fun i hi h => hF3 i h hi)
              have hB5 := hB4.out.trans (grown_below hg4 hbs3.out fun k hk => (own_at hO hk).1)
              rw [← encs_snoc ds (⟨⟨1, on, ox, oy, bs⟩, A2, cp⟩ : Did)] at hW4
              have hzl : (ds ++ [(⟨⟨1, on, ox, oy, bs⟩, A2, cp⟩ : Did)]).length = ds.length + 1 := by simp
              exact ⟨⟨k + 1, _, ds ++ [(⟨⟨1, on, ox, oy, bs⟩, A2, cp⟩ : Did)], A3, c3, by omega, by go_num, by rw [hzl], hW4, by rw [hzl]; exact hO4, (by
                rw [hzl]
                intro j hj h
                rcases hat4 with e | e
                · exact hF3 j (e ▸ hj) h
                · rw [e] at hj
                  injection hj with hj
                  have := (hW3.lt j h).2
                  omega), ok_snoc hok0 hok, by rw [hzl]; omega, by omega, hB5⟩, by simp [intOf]; omega⟩
            · have hnew : putNew on oy (fitsI on oy) 1048576 (encs ds) = encs ds := by unfold putNew; rw [if_neg hcode]
              rw [hnew] at hW3
              generalize putCode on (fitsI on oy) (↑(encs ds).length) 1048576 = code at *
              have e3 : (code == 0) = false := by simpa using hcode
              clear hnew
              go_wp2_with fail
              exact ⟨⟨k + 1, _, ds, A, c, by omega, by go_num, rfl, hW3, hO3, hF3, hok0, by omega, by omega, hB3⟩, by simp [intOf]; omega⟩
          · have e0 : (ow == 0) = false := by simpa using hw0
            have e1 : (ow == 1) = false := by simpa using hw1
            go_wp2_with fail
            generalize hWW : wr.alloc (.cells #[.int .i64 ow, .int .i64 on, .int .u64 ox, .int .i64 oy, .slice A2 bs.length cp] 33) = W at *
            refine (gwb _ _ _ _ _ hWa hra).out.mono ?_
            rintro _ w3 ⟨rfl, hW3, hT3⟩
            have hL3 := hL.turned hT3 hnF
            have d0 : w3.cell? ⟨wr.heap.size, 0, none⟩ = some (.int .i64 ow) := hL3.cell 0
            have d1 : w3.cell? ⟨wr.heap.size, 1, none⟩ = some (.int .i64 on) := hL3.cell 1
            have d2 : w3.cell? ⟨wr.heap.size, 2, none⟩ = some (.int .u64 ox) := hL3.cell 2
            have d3 : w3.cell? ⟨wr.heap.size, 3, none⟩ = some (.int .i64 oy) := hL3.cell 3
            have d4 : w3.cell? ⟨wr.heap.size, 4, none⟩ = some (.slice A2 bs.length cp) := hL3.cell 4
            have hO3 : OwnD w3 w.heap.size (.slice A ds.length c) ds := own_turned hOa hT3 hF
            have hB3 := hBa.trans (hT3.below hBa.size fun j hj => (hWa.lt j hj).1)
            have s3 := hT3.size
            have hF3 : ∀ j, (Value.slice A ds.length c).ownBlock = some j → ¬ Grow F W w3 j := fun j hj h => by
              rcases h with h | h
              · exact hF j hj h
              · have := (own_at hO hj).2; omega
            clear c0 c1 c2 c3 c4
            by_cases hcode : bytesCode (↑bs.length) (↑(encs ds).length) 1048576 = 0
            · have hnew : bytesNew bs 1048576 (encs ds) = encs ds ++ Call.enc ⟨ow, on, ox, oy, bs⟩ := by rw [enc_2 hw0 hw1]; exact bytes_yes hcode
              have hok : OkD w (⟨⟨ow, on, ox, oy, bs⟩, A2, cp⟩ : Did) := ⟨hin, ⟨fun h => absurd h hw0, fun h => absurd h hw1⟩, hrb⟩
              rw [hnew] at hW3
              rw [hcode]
              replace hnew := Lib.hid hnew
              replace hcode := Lib.hid hcode
              have hba3 : Below w3.heap.size w3 (w3.alloc (.cells #[.int .i64 ow, .int .i64 on, .int .u64 ox, .int .i64 oy, .slice A2 bs.length cp] 33)) := (Below.refl _ _).alloc (Nat.le_refl _) _
              have hOa3 : OwnD (w3.alloc (.cells #[.int .i64 ow, .int .i64 on, .int .u64 ox, .int .i64 oy, .slice A2 bs.length cp] 33)) w.heap.size (.slice A ds.length c) ds := own_below hO3 hba3
              have hR1 : Reads (w3.alloc (.cells #[.int .i64 ow, .int .i64 on, .int .u64 ox, .int .i64 oy, .slice A2 bs.length cp] 33)) (w3.heap.size + 1) 5 (some ⟨w3.heap.size, 0, none⟩) 1 (Did.cells (⟨⟨ow, on, ox, oy, bs⟩, A2, cp⟩ : Did)) := by
                have := Reads.new w3 #[.int .i64 ow, .int .i64 on, .int .u64 ox, .int .i64 oy, .slice A2 bs.length cp] 33 (0, 0) 1 5 rfl
                simpa [Did.cells] using this
              have hsz3 := hba3.size
              have hbs3 : w.heap.size ≤ (w3.alloc (.cells #[.int .i64 ow, .int .i64 on, .int .u64 ox, .int .i64 oy, .slice A2 bs.length cp] 33)).heap.size := Nat.le_trans hB3.size hsz3
              have hWr4 := hW3.below hba3
              have hB4 := hB3.trans (hba3.mono hB3.size)
              replace hR1 := Lib.hid hR1
              replace hOa3 := Lib.hid hOa3
              replace hWr4 := Lib.hid hWr4
              replace hbs3 := Lib.hid hbs3
              replace hB4 := Lib.hid hB4
              go_wp2_with (first
                | (at_builtin
                   refine wpList_appD (w3.alloc (.cells #[.int .i64 ow, .int .i64 on, .int .u64 ox, .int .i64 oy, .slice A2 bs.length cp] 33)) rfl (.tmp 66) (.tmp 68) rfl w.heap.size (.slice A ds.length c) ds (by simp [Act.eval]) hOa3.out
                     (w3.heap.size + 1) (some ⟨w3.heap.size, 0, none⟩) 1 (⟨⟨ow, on, ox, oy, bs⟩, A2, cp⟩ : Did) (by simp [Act.eval]) hR1.out (ds.length + 1) rfl (by omega) hbs3.out ?_
                   intro A3 c3 w4 hO4 hg4 hat4))
              have hW4 := Wr.turned hWr4.out (Turned.of_grown (F := fun k => (Value.slice A ds.length c).ownBlock = some k) hg4 (fun k h => h)) (fun i hi h => hF3 i h hi)
              have hB5 := hB4.out.trans (grown_below hg4 hbs3.out fun k hk => (own_at hO hk).1)
              rw [← encs_snoc ds (⟨⟨ow, on, ox, oy, bs⟩, A2, cp⟩ : Did)] at hW4
              have hzl : (ds ++ [(⟨⟨ow, on, ox, oy, bs⟩, A2, cp⟩ : Did)]).length = ds.length + 1 := by simp
              exact ⟨⟨k + 1, _, ds ++ [(⟨⟨ow, on, ox, oy, bs⟩, A2, cp⟩ : Did)], A3, c3, by omega, by go_num, by rw [hzl], hW4, by rw [hzl]; exact hO4, (by
                rw [hzl]
                intro j hj h
                rcases hat4 with e | e
                · exact hF3 j (e ▸ hj) h
                · rw [e] at hj
                  injection hj with hj
                  have := (hW3.lt j h).2
                  omega), ok_snoc hok0 hok, by rw [hzl]; omega, by omega, hB5⟩, by simp [intOf]; omega⟩
            · have hnew : bytesNew bs 1048576 (encs ds) = encs ds := by exact bytes_no hcode
              rw [hnew] at hW3
              generalize bytesCode (↑bs.length) (↑(encs ds).length) 1048576 = code at *
              have e3 : (code == 0) = false := by simpa using hcode
              clear hnew
              go_wp2_with fail
              exact ⟨⟨k + 1, _, ds, A, c, by omega, by go_num, rfl, hW3, hO3, hF3, hok0, by omega, by omega, hB3⟩, by simp [intOf]; omega⟩
    · have hor : (decide ((k : Int) < (os.length : Int)) = true ∧ decide ((k : Int) < 200) = false ∧ ¬ k < 200 ∧ k < os.length) ∨ (decide ((k : Int) < (os.length : Int)) = false ∧ ¬ k < os.length ∧ True ∧ True) := by
        by_cases h : k < os.length
        · exact .inl ⟨decide_eq_true (by omega), decide_eq_false (by omega), by omega, h⟩
        · exact .inr ⟨decide_eq_false (by omega), h, trivial, trivial⟩
      have gout := fun w2 => Lib.hid (out_any F w.heap.size w.heap.size 1048576 (encs ds) w2)
      have gnr := fun A c n w2 B hr hn hm => Lib.hid (newReader_any A c n (encs ds) w2 B hr hn hm)
      have hlen := hW.len
      have hbytes : Bytes (encs ds) := by
        intro b hb
        unfold encs at hb
        rw [List.mem_flatMap] at hb
        obtain ⟨d, hd, hb⟩ := hb
        exact enc_bytes (hok0 d hd).1 b hb
      clear hlt
      rcases hor with ⟨b1, b2, b3, b4⟩ | ⟨b1, b2, b3, b4⟩
      all_goals
        go_wp2_with fail
        refine ((out_any F w.heap.size w.heap.size 1048576 (encs ds) wr hW)).mono ?_
        rintro _ w5 ⟨A5, c5, rfl, hO5, hb5⟩
        have hB5 := hB.trans (hb5.mono hB.size)
        have hD5 : OwnD w5 w.heap.size (.slice A ds.length c) ds := own_below hO hb5
        have hRD : Reads w5 w5.heap.size 5 A ds.length (cellsD ds) := own_reads hD5
        have hok5 : ∀ d ∈ ds, ReadsB w5 w.heap.size d.A d.o.bs := fun d hd => (hok0 d hd).2.2.below hB5
        have hr5 := hO5.reads
        clear hW hO hF hD5 hO5 hb5
        go_wp2_with fail
        refine (newReader_any A5 c5 _ (encs ds) w5 _ hr5 rfl (by omega)).mono ?_
        rintro _ w6 ⟨g2, rfl, hg2, hR6, hb6⟩
        clear hr5 b1 b2 b3 b4
        go_wp2_with fail
        go_loopw [10] (fun i wq => ∃ j : Nat, j ≤ ds.length ∧ i = .int .i64 j ∧ Rd wq g2 (encs ds) (encs (ds.take j)).length ∧ Below w5.heap.size w5 wq) (fun i _ => ds.length - (intOf i).toNat)
        case atStart => exact ⟨0, by omega, rfl, hR6, hb6⟩
        case round =>
          obtain ⟨j, hj, rfl, hR, hBq⟩ := hrel
          by_cases hlt : j < ds.length
          · have b1 : decide ((j : Int) < (ds.length : Int)) = true := decide_eq_true (by omega)
            have hd : ds[j]? = some ds[j] := List.getElem?_eq_getElem hlt
            obtain ⟨hin, hfine, _⟩ := hok0 ds[j] (List.getElem_mem hlt)
            have hrb := hok5 ds[j] (List.getElem_mem hlt)
            generalize ds[j] = d at *
            obtain ⟨e1, e2, e3⟩ := encs_at hd
            obtain ⟨ad, rfl, hlo, c0, c1, c2, c3, c4⟩ := cellsD_at hRD hd
            obtain ⟨⟨ow, on, ox, oy, bs⟩, A2, cp⟩ := d
            dsimp only at c0 c1 c2 c3 c4 hrb hin hfine e1 e2 e3
            have hpb : (ad.add (j * 5)).block < w5.heap.size := by rw [block_of_add]; exact hlo
            replace c0 := (hBq.cell (p := ad.add (j * 5)) hpb).trans c0
            replace c1 : wr.cell? { block := (ad.add (j * 5)).block, off := (ad.add (j * 5)).off + 1 } = some (.int .i64 on) := (hBq.cell (p := ⟨_, _, none⟩) hpb).trans c1
            replace c2 : wr.cell? { block := (ad.add (j * 5)).block, off := (ad.add (j * 5)).off + 2 } = some (.int .u64 ox) := (hBq.cell (p := ⟨_, _, none⟩) hpb).trans c2
            replace c3 : wr.cell? { block := (ad.add (j * 5)).block, off := (ad.add (j * 5)).off + 3 } = some (.int .i64 oy) := (hBq.cell (p := ⟨_, _, none⟩) hpb).trans c3
            replace c4 : wr.cell? { block := (ad.add (j * 5)).block, off := (ad.add (j * 5)).off + 4 } = some (.slice A2 bs.length cp) := (hBq.cell (p := ⟨_, _, none⟩) hpb).trans c4
            have hba : Below wr.heap.size wr (wr.alloc (.cells #[.int .i64 ow, .int .i64 on, .int .u64 ox, .int .i64 oy, .slice A2 bs.length cp] 33)) := (Below.refl _ _).alloc (Nat.le_refl _) _
            have hRa := hR.keep hba
            have hBa := hBq.trans (hba.mono hBq.size)
            have hL := Blk.new wr 33 #[.int .i64 ow, .int .i64 on, .int .u64 ox, .int .i64 oy, .slice A2 bs.length cp]
            have hgq : g2 < wr.heap.size := hR.lt
            have s5 := hBq.size
            clear hSc hIn
            by_cases hw0 : ow = 0
            · subst hw0
              obtain ⟨f1, f2, f3⟩ := hfine.1 rfl
              dsimp only at f1 f2 f3
              obtain ⟨n, rfl⟩ := Int.eq_ofNat_of_zero_le (show 0 ≤ on by omega)
              rw [enc_0 rfl] at e1 e2 e3
              simp only [Int.toNat_natCast, beN_length] at e1 e2 e3
              have gr := ruint_yes g2 _ (n : Int) (encs ds) _ hbytes hRa f1 f2 (by omega)
              unfold RUint at gr
              rw [Int.toNat_natCast, e1, back_u (by omega) hin.1 hin.2.1 f3 (by omega)] at gr
              replace gr := Lib.hid gr
              go_wp2_with fail
              generalize wr.alloc (.cells #[.int .i64 0, .int .i64 (n : Int), .int .u64 ox, .int .i64 oy, .slice A2 bs.length cp] 33) = W at *
              refine gr.out.mono ?_
              rintro _ w7 ⟨rfl, hR7, hg7⟩
              have hL7 := hL.grown hg7 (by intro h; injection h with h; omega)
              have d2 : w7.cell? ⟨wr.heap.size, 2, none⟩ = some (.int .u64 ox) := hL7.cell 2
              have hB7 := hBa.trans (grown_below hg7 hBa.size fun k hk => by injection hk with hk; omega)
              clear c0 c1 c2 c3 c4
              go_wp2_with fail
              rw [← e2] at hR7
              exact ⟨⟨j + 1, by omega, by go_num, hR7, hB7⟩, by simp [intOf]; omega⟩
            · by_cases hw1 : ow = 1
              · subst hw1
                obtain ⟨f1, f2, f3⟩ := hfine.2 rfl
                dsimp only at f1 f2 f3
                obtain ⟨n, rfl⟩ := Int.eq_ofNat_of_zero_le (show 0 ≤ on by omega)
                rw [enc_1 (show ¬ (1 : Int) = 0 by decide) rfl] at e1 e2 e3
                simp only [Int.toNat_natCast, beN_length] at e1 e2 e3
                have gr := rint_yes g2 _ (n : Int) (encs ds) _ hbytes hRa f1 f2 (by omega)
                unfold RInt at gr
                rw [Int.toNat_natCast, e1, back_i (by omega) hin.2.2.1 hin.2.2.2.1 f3 (by omega)] at gr
                replace gr := Lib.hid gr
                replace hw0 := Lib.hid hw0
                go_wp2_with fail
                generalize wr.alloc (.cells #[.int .i64 1, .int .i64 (n : Int), .int .u64 ox, .int .i64 oy, .slice A2 bs.length cp] 33) = W at *
                refine gr.out.mono ?_
                rintro _ w7 ⟨rfl, hR7, hg7⟩
                have hL7 := hL.grown hg7 (by intro h; injection h with h; omega)
                have d3 : w7.cell? ⟨wr.heap.size, 3, none⟩ = some (.int .i64 oy) := hL7.cell 3
                have hB7 := hBa.trans (grown_below hg7 hBa.size fun k hk => by injection hk with hk; omega)
                clear c0 c1 c2 c3 c4
                go_wp2_with fail
                rw [← e2] at hR7
                exact ⟨⟨j + 1, by omega, by go_num, hR7, hB7⟩, by simp [intOf]; omega⟩
              · have q0 : (ow == 0) = false := by simpa using hw0
                have q1 : (ow == 1) = false := by simpa using hw1
                rw [enc_2 hw0 hw1] at e1 e2 e3
                dsimp only at e1 e2 e3
                have gr := rbytes_yes g2 _ (bs.length : Int) (encs ds) _ hbytes hRa (by omega) (by omega) (by omega)
                unfold RBytes at gr
                rw [Int.toNat_natCast, e1] at gr
                replace gr := Lib.hid gr
                go_wp2_with fail
                generalize wr.alloc (.cells #[.int .i64 ow, .int .i64 on, .int .u64 ox, .int .i64 oy, .slice A2 bs.length cp] 33) = W at *
                refine gr.out.mono ?_
                rintro _ w7 ⟨A7, c7, rfl, hO7, hR7, hg7⟩
                have hL7 := hL.grown hg7 (by intro h; injection h with h; omega)
                have d4 : w7.cell? ⟨wr.heap.size, 4, none⟩ = some (.slice A2 bs.length cp) := hL7.cell 4
                have hB7 := hBa.trans (grown_below hg7 hBa.size fun k hk => by injection hk with hk; omega)
                have t1 := run_text bs.length c7 hO7.reads rfl
                have t2 := run_text bs.length cp (hrb.below (hB7.mono hB5.size)) rfl
                clear c0 c1 c2 c3 c4
                go_wp2_with fail
                rw [← e2] at hR7
                exact ⟨⟨j + 1, by omega, by go_num, hR7, hB7⟩, by simp [intOf]; omega⟩
          · have b1 : decide ((j : Int) < (ds.length : Int)) = false := decide_eq_false (by omega)
            obtain rfl : j = ds.length := by omega
            rw [List.take_length] at hR
            have gl := left_any g2 _ (encs ds) wr hR
            rw [Int.sub_self] at gl
            replace gl := Lib.hid gl
            go_wp2_with fail
            refine gl.out.mono ?_
            rintro _ w8 ⟨rfl, m8, rfl⟩
            go_wp2_with fail
            refine (gaw _).out.mono ?_
            rintro _ w9 ⟨rfl, hb9⟩
            go_wp2_with fail
            go_ret
            have hBw := hB5.trans (hBq.mono hB5.size)
            exact ⟨rfl, (below_drewN hBw _).trans (hb9.mono (by have := hBw.size; simpa using this))⟩

set_option maxRecDepth 100000 in
theorem lifted (os : Os) (started : os.Started) (H : Type) (enc : TypeId × Value → H) :
    ReturnsInHanded {} Try.checked os 4 .any (Rows.wireBackSpec.pre6 enc Try.prog Try.f4 Rows.wireBackRow.domain false) (Rows.wireBackSpec.post enc Try.prog Try.f4 false true false false) := by
  refine returnsInHanded_of_change (C := Try.checked) own started (by kernel_rfl) Try.func4
    (ChangeSpec.witness6 (enc := enc) (C := Try.checked) false ⟨#[], #[.slice none 0 0], []⟩ 8 (by kernel_rfl) (by kernel_rfl) (by kernel_rfl) (by kernel_rfl)) ?_
  intro W base args ds gs before hval0 hW hcnd _
  have hval : ∀ (j : Nat) t v, Try.f4.params[j]? = some t → args[j]? = some v → Value.okWide Try.prog W .any base t v := hval0
  have hW' := hW
  obtain ⟨p, q, hA0, hV, rfl, hfz, hnd⟩ := hW
  have hA : DataW.TrodAll enc Try.prog W 0 (fun _ => true) true Try.f4.params.toList args.toList ds p := hA0
  rw [Try.params4] at hA hval
  obtain ⟨v0, vs0, d0, ds0, p0, q0, hargs, rfl, rfl, h0, r0⟩ := trodAll_cons hA
  obtain ⟨rfl, rfl, rfl⟩ := trodAll_nil r0
  obtain rfl : args = #[v0] := by cases args; simp_all
  obtain ⟨rfl, rfl⟩ := trodVars_none hV
  obtain ⟨a0, len0, cap0, rfl⟩ := okWide_slice Try.underlying22 (hval 0 22 v0 rfl rfl)
  have k0 := h0
  have lt0 : ∀ x ∈ p0, x.block < W.heap.size := by obtain ⟨m, hm⟩ := k0; exact DataW.trod_lt m _ _ _ hm
  obtain ⟨fuel0, hf0⟩ := h0
  have hg0 : DataW.trod enc Try.prog W 0 (fun _ => true) true fuel0 22 [.slice a0 len0 cap0] = some (d0, p0) := by simpa [Value.cells] using hf0
  obtain ⟨os0, w0⟩ := open_calls hg0
  clear hA0 hval0
  refine (walk a0 len0 cap0 os0 W w0).mono fun e W' ⟨he, bel⟩ => ?_
  subst he
  exact ⟨_, rfl, _, _, _, [], _, [], hW', trodAll_mk1 (shut_bool Try.underlying4 _), (trodAll_cons_mk (Below.trod laidOut (by kernel_rfl) (of_decide_eq_true (by kernel_rfl)) k0 bel lt0) trodAll_mk0), rfl, bel.frame _, fun h => by cases h⟩

theorem closed : joinedFacts Try.prog 4 Try.f4 Rows.wireBackSpec Rows.wireBackRow = true := by
  have h1 := mayEnter_fact
  have h2 : (Rows.wireBackRow.lifted == Try.prog.liftsFinal) = true := by rw [lifts_fact]; rfl
  have h3 : (Try.prog.make == some Rows.wireBackRow.make) = true := by rw [make_fact]; rfl
  have hfin : ∀ b : Bool, b = true → b = true := fun _ h => h
  unfold joinedFacts
  rw [h1, h2, h3]
  clear h1 h2 h3
  refine hfin _ ?_
  kernel_rfl

theorem over : Rows.wireBackRow.holds Try.pinned (OpenSpec.ofChange Rows.wireBackSpec) :=
  OpenClaim.holds_of_wide 4 Try.f4 rfl rfl rfl rfl rfl rfl rfl ⟨rfl, rfl, rfl, rfl, rfl⟩ rfl rfl rfl rfl rfl (by kernel_rfl) Try.func4 closed
    (of_decide_eq_true (by kernel_rfl)) (by unfold Func.isWrapper; first | (rw [if_pos (by decide +kernel)]; kernel_rfl) | (rw [if_neg (by decide +kernel)]; exact ⟨rfl, rfl⟩))
    (fun os started H enc _ => lifted os started H enc)

/-- The statement. -/
theorem proved : Rows.WireBackSaid := over
#print axioms proved

end Go.Proofs.Ytahmhkabipcfiaa.WireBackP
