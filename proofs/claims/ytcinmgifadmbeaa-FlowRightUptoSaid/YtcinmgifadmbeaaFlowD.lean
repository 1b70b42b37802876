/- The reference's At and Check. -/
import Derived.Test.YtcinmgifadmbeaaFlowC
import Derived.Test.YtcinmgifadmbeaaFlowR
namespace Go.Proofs.Ytcinmgifadmbeaa
open Go.RowKit
set_option linter.unusedVariables false
set_option linter.unusedSimpArgs false

set_option maxRecDepth 100000 in
set_option maxHeartbeats 4000000 in
theorem rat07_any (A : Option Addr) (c : Nat) (l : List Ins) (x : Int) (w : World) (hr : ReadsI w w.heap.size A l) (hl : l.length ≤ 4398046511104) :
    Calls Try.prog 51 #[.slice A l.length c, .int .i64 x] w fun e w' => e = .returned (.int .i64 (atN l x)) ∧ Below w.heap.size w w' := by
  go_enter Try.func51, Try.ntmps51
  go_wp2_with fail
  go_loopw [5] (fun i wr => ∃ k : Nat, k ≤ l.length ∧ i = .int .i64 k ∧ idxI (l.take k) x = none ∧ w = wr) (fun i _ => l.length - (intOf i).toNat)
  case atStart => exact ⟨0, Nat.zero_le _, rfl, rfl, rfl⟩
  case round =>
    obtain ⟨k, hk, rfl, hf, rfl⟩ := hrel
    by_cases hlt : k < l.length
    · obtain ⟨y, hy⟩ := ins_at hlt
      obtain ⟨ad, rfl, had, e1⟩ := hr.at_ hy
      obtain ⟨a0, a1, a2, a3, a4⟩ := e1
      have hln : (l.take k).length = k := by rw [List.length_take]; omega
      have hnx := idxI_next (l.take k) y x
      rw [← takeI_next hy, hf, hln] at hnx
      simp only [Option.isSome_none, Bool.false_eq_true, if_false] at hnx
      replace hy := Lib.hid hy
      clear hln
      by_cases hxy : y.at_ = x
      · rw [if_pos hxy] at hnx
        have hat : atN l x = k := by
          have e : idxI l x = some k := by
            unfold idxI at hnx ⊢
            rw [← List.take_append_drop (k + 1) l, List.findIdx?_append, hnx]
            rfl
          unfold atN
          rw [e]
        replace hnx := Lib.hid hnx
        replace hf := Lib.hid hf
        replace hat := Lib.hid hat
        go_wp2_with fail
        go_ret
        exact ⟨by rw [hat.out]; rfl, Below.refl _ _⟩
      · rw [if_neg hxy] at hnx
        replace hnx := Lib.hid hnx
        replace hf := Lib.hid hf
        go_wp2_with fail
        exact ⟨⟨k + 1, by omega, by go_num, hnx.out, trivial⟩, by simp [intOf]; omega⟩
    · obtain rfl : k = l.length := by omega
      rw [List.take_length] at hf
      have hat : atN l x = -1 := by unfold atN; rw [hf]
      replace hat := Lib.hid hat
      clear hf
      go_wp2_with fail
      go_ret
      exact ⟨by rw [hat.out]; rfl, Below.refl _ _⟩

theorem atN_ok (l : List Ins) (x : Int) : (okI l x = false ∧ atN l x = -1) ∨ (okI l x = true ∧ ∃ n : Nat, atN l x = n) := by
  unfold okI idxV
  rcases atN_or l x with ⟨h, e⟩ | ⟨n, y, _, _, e, h⟩
  · exact .inl ⟨by rw [h]; rfl, e⟩
  · exact .inr ⟨by rw [h]; rfl, n, e⟩
theorem bad_jump {ls : List Ins} {n : Nat} {ts : List Tr} (h : ls.all (jumpI ls) = false) : chB ls n ts = false := by
  unfold chB
  rw [h]
  simp
theorem bad_trap {ls : List Ins} {n : Nat} {ts : List Tr} {k : Nat} {t : Tr} (h1 : fineI ls = true) (h2 : ls.all (jumpI ls) = true) (ht : ts[k]? = some t) (h : trapI ls n t = false) : chB ls n ts = false := by
  have e : ts.all (trapI ls n) = false := all_short (k := k + 1) _ (by rw [all_next _ ht, h]; simp)
  unfold chB
  rw [e]
  simp
set_option maxRecDepth 100000 in
set_option maxHeartbeats 4000000 in
theorem rcheck_any (k0 k1 k2 k3 k4 : Int) (A : Option Addr) (c : Nat) (bs : List Int) (At_ : Option Addr) (ct : Nat) (ts : List Tr) (Am : Option Addr) (lm cm : Nat) (v : Value) (w : World) (hm : MethIn w v k0 k1 k2 k3 k4 A c bs At_ ct ts Am lm cm) (hs : bs.length ≤ 1048576) :
    Calls Try.prog 33 #[v] w fun e w' => CkPost w bs ts e w' := by
  obtain ⟨rfl, hr, hby, hcap, hmx, hrt, hfit, htc, htm⟩ := hm
  have hX := Blk.new w 58 #[.int .i64 k0, .int .i64 k1, .int .i64 k2, .int .i64 k3, .int .i64 k4, .slice A bs.length c, .slice At_ ts.length ct, .slice Am lm cm]
  have hW0 : Below w.heap.size w (w.alloc (.cells #[.int .i64 k0, .int .i64 k1, .int .i64 k2, .int .i64 k3, .int .i64 k4, .slice A bs.length c, .slice At_ ts.length ct, .slice Am lm cm] 58)) := (Below.refl _ _).alloc (Nat.le_refl _) _
  have hra : ReadsB (w.alloc (.cells #[.int .i64 k0, .int .i64 k1, .int .i64 k2, .int .i64 k3, .int .i64 k4, .slice A bs.length c, .slice At_ ts.length ct, .slice Am lm cm] 58)) (w.alloc (.cells #[.int .i64 k0, .int .i64 k1, .int .i64 k2, .int .i64 k3, .int .i64 k4, .slice A bs.length c, .slice At_ ts.length ct, .slice Am lm cm] 58)).heap.size A bs := Reads.more (Reads.below hr hW0) hW0.size
  have hlp := Lib.hid (rlist_any A c bs _ (by omega) hby hra hcap (by unfold maxLen at hmx; omega))
  unfold LsPost at hlp
  unfold maxLen at htm
  unfold CkPost
  have c5 : (w.alloc (.cells #[.int .i64 k0, .int .i64 k1, .int .i64 k2, .int .i64 k3, .int .i64 k4, .slice A bs.length c, .slice At_ ts.length ct, .slice Am lm cm] 58)).cell? ⟨w.heap.size, 5, none⟩ = some (.slice A bs.length c) := hX.cell 5
  by_cases he : listE bs = 0
  · rw [he] at hlp
    have hrow := list_row he
    have hfa := list_fit hby he (by omega)
    generalize hls : listL bs = ls at *
    have hll : ls.length ≤ 1048576 := by have := rowI_len hrow; omega
    replace he := Lib.hid he
    replace hls := Lib.hid hls
    replace hrow := Lib.hid hrow
    by_cases hnil : ls = []
    · subst hnil
      have hch : chB [] bs.length ts = false := rfl
      replace hch := Lib.hid hch
      go_enter Try.func33, Try.ntmps33
      go_wp2_with fail
      refine hlp.out.mono ?_
      rintro _ w1 ⟨A1, c1, rfl, hr1, hlc1, hm1, hb1⟩
      have hB1 := hW0.trans (hb1.mono hW0.size)
      clear hlp
      go_wp2_with fail
      go_ret2
      have e1 : chE bs ts = 70 := by unfold chE; rw [if_pos he.out, hls.out, hch.out, if_neg (by decide)]
      have e2 : chL bs ts = [] := by unfold chL; rw [e1, if_neg (by decide)]
      rw [e1, e2]
      exact ⟨none, 0, rfl, ReadsI.nil_ _ _, Nat.le_refl _, Nat.zero_le _, hB1⟩
    · obtain ⟨p, i, hpi⟩ : ∃ p i, ls = p ++ [i] := by
        rcases List.eq_nil_or_concat ls with h | ⟨p, i, h⟩
        · exact absurd h hnil
        · exact ⟨p, i, by rw [h, List.concat_eq_append]⟩
      have hfine : fineI ls = !fallsI i := by unfold fineI; rw [hpi]; simp
      have hlast : ls[ls.length - 1]? = some i := by rw [hpi]; simp
      have hpos : 0 < ls.length := by rw [hpi]; simp
      have b0 : ((ls.length : Int) == 0) = false := by simp; omega
      replace hpi := Lib.hid hpi
      replace hnil := Lib.hid hnil
      have hfalls := fun w => Lib.hid (rfalls_any i w)
      unfold Ins.val at hfalls
      go_enter Try.func33, Try.ntmps33
      go_wp2_with fail
      refine hlp.out.mono ?_
      rintro _ w1 ⟨A1, c1, rfl, hr1, hlc1, hm1, hb1⟩
      have hw1 : w.heap.size < w1.heap.size := by have := hb1.size; simp at this; omega
      have hB1 := hW0.trans (hb1.mono hW0.size)
      replace hX := hX.below hb1 hX.lt
      clear hlp
      have hat := fun wr x (hB : Below w1.heap.size w1 wr) (hx : fit64 x) => Lib.hid (rat07_any A1 c1 ls x wr ((ReadsI.below hr1 hB).more hB.size) (by omega))
      obtain ⟨ad, q, _, e1⟩ := hr1.at_ hlast
      subst q
      obtain ⟨a0, a1, a2, a3, a4⟩ := e1
      go_wp2_with fail
      refine (hfalls _).out.mono ?_
      rintro _ w3 ⟨rfl, hb4⟩
      clear a0 a1 a2 a3 a4 hfalls
      have hB := hb4
      cases hfi : fallsI i with
      | true =>
        have hch : chB ls bs.length ts = false := by unfold chB; rw [hfine, hfi]; rfl
        replace hch := Lib.hid hch
        clear hfine hlast hpos hfi
        go_wp2_with fail
        go_ret2
        have e1 : chE bs ts = 70 := by unfold chE; rw [if_pos he.out, hls.out, hch.out, if_neg (by decide)]
        have e2 : chL bs ts = [] := by unfold chL; rw [e1, if_neg (by decide)]
        rw [e1, e2]
        exact ⟨none, 0, rfl, ReadsI.nil_ _ _, Nat.le_refl _, Nat.zero_le _, hB1.trans (hB.mono hB1.size)⟩
      | false =>
        have hfin : Hid (fineI ls = true) := Lib.hid (by rw [hfine, hfi]; rfl)
        clear hfine hlast hpos hfi hb4
        go_wp2_with fail
        go_loopw [6] (fun i wr => ∃ k : Nat, k ≤ ls.length ∧ i = .int .i64 k ∧ (ls.take k).all (jumpI ls) = true ∧ Below w1.heap.size w1 wr) (fun i _ => ls.length - (intOf i).toNat)
        case atStart => exact ⟨0, Nat.zero_le _, rfl, by simp, hB⟩
        case round =>
          clear hB
          obtain ⟨k, hk, rfl, hf, hB⟩ := hrel
          by_cases hlt : k < ls.length
          · obtain ⟨x, hx⟩ := ins_at hlt
            have hxa := hfa x (List.mem_of_getElem? hx)
            have hnx := all_next (jumpI ls) hx
            obtain ⟨ad, q, _, e1⟩ := (ReadsI.below hr1 hB).at_ hx
            first | subst q | (injection q with q; subst q)
            obtain ⟨a0, a1, a2, a3, a4⟩ := e1
            have hleads := fun w => Lib.hid (rleads_any x w)
            unfold Ins.val at hleads
            replace hf := Lib.hid hf
            replace hx := Lib.hid hx
            replace hnx := Lib.hid hnx
            cases hld : ldB x with
            | true =>
              have hla : ldA x = x.a := by unfold ldA; rw [if_pos hld]
              rw [hld, hla] at hleads
              replace hla := Lib.hid hla
              replace hld := Lib.hid hld
              go_wp2_with fail
              refine (hleads _).out.mono ?_
              rintro _ v0 ⟨rfl, hb0⟩
              have hC := hB.trans (hb0.mono hB.size)
              clear a0 a1 a2 a3 a4
              go_wp2_with fail
              refine (hat _ x.a hC hxa).out.mono ?_
              rintro _ v1 ⟨rfl, hb1'⟩
              have hD := hC.trans (hb1'.mono hC.size)
              rcases atN_ok ls x.a with ⟨o1, q1⟩ | ⟨o1, n1, q1⟩
              · rw [q1]
                have hch : chB ls bs.length ts = false := bad_jump (all_short (k := k + 1) _ (by rw [hnx.out]; unfold jumpI; simp [hld.out, o1]))
                replace hch := Lib.hid hch
                go_wp2_with fail
                go_ret2
                have e1 : chE bs ts = 70 := by unfold chE; rw [if_pos he.out, hls.out, hch.out, if_neg (by decide)]
                have e2 : chL bs ts = [] := by unfold chL; rw [e1, if_neg (by decide)]
                rw [e1, e2]
                exact ⟨none, 0, rfl, ReadsI.nil_ _ _, Nat.le_refl _, Nat.zero_le _, hB1.trans (hD.mono hB1.size)⟩
              · rw [q1]
                have hff : (ls.take (k + 1)).all (jumpI ls) = true := by rw [hnx.out, hf.out]; unfold jumpI; simp [hld.out, o1]
                replace hff := Lib.hid hff
                replace o1 := Lib.hid o1
                go_wp2_with fail
                exact ⟨⟨k + 1, by omega, by go_num, hff.out, hD⟩, by simp [intOf]; omega⟩
            | false =>
              have hla : ldA x = 0 := by unfold ldA; rw [if_neg (by rw [hld]; decide)]
              rw [hld, hla] at hleads
              have hff : (ls.take (k + 1)).all (jumpI ls) = true := by rw [hnx.out, hf.out]; unfold jumpI; simp [hld]
              replace hff := Lib.hid hff
              replace hla := Lib.hid hla
              replace hld := Lib.hid hld
              go_wp2_with fail
              refine (hleads _).out.mono ?_
              rintro _ v0 ⟨rfl, hb0⟩
              have hC := hB.trans (hb0.mono hB.size)
              go_wp2_with fail
              exact ⟨⟨k + 1, by omega, by go_num, hff.out, hC⟩, by simp [intOf]; omega⟩
          · obtain rfl : k = ls.length := by omega
            rw [List.take_length] at hf
            have hjmp := Lib.hid hf
            clear hf
            have cm : wr.cell? ⟨w.heap.size, 6, none⟩ = some (.slice At_ ts.length ct) := (hX.below hB hw1).cell 6
            go_wp2_with fail
            go_loopw [9] (fun i wr => ∃ k : Nat, k ≤ ts.length ∧ i = .int .i64 k ∧ (ts.take k).all (trapI ls bs.length) = true ∧ Below w1.heap.size w1 wr) (fun i _ => ts.length - (intOf i).toNat)
            case atStart => exact ⟨0, Nat.zero_le _, rfl, by simp, hB⟩
            case round =>
              clear cm hB
              obtain ⟨k, hk, rfl, hf, hB⟩ := hrel
              have cm : wr.cell? ⟨w.heap.size, 6, none⟩ = some (.slice At_ ts.length ct) := (hX.below hB hw1).cell 6
              by_cases hlt : k < ts.length
              · obtain ⟨t, ht⟩ := tr_at hlt
                have htin := hfit t (List.mem_of_getElem? ht)
                have hnx := all_next (trapI ls bs.length) ht
                obtain ⟨at_, q, _, e1⟩ := (ReadsT.below hrt (hB1.trans (hB.mono hB1.size))).at_ ht
                first | subst q | (injection q with q; subst q)
                obtain ⟨a0, a1, a2, a3⟩ := e1
                replace hf := Lib.hid hf
                replace hnx := Lib.hid hnx
                replace ht := Lib.hid ht
                have v0T := Blk.new wr 63 #[.int .i64 t.fr, .int .i64 t.to_, .int .i64 t.hd, .int .i64 t.ty]
                have v0B := hB.alloc hB.size (.cells #[.int .i64 t.fr, .int .i64 t.to_, .int .i64 t.hd, .int .i64 t.ty] 63)
                go_wp2_with fail
                clear a0 a1 a2 a3 cm
                refine (hat _ (t.fr) v0B htin.1).out.mono ?_
                rintro _ v1 ⟨rfl, hbv1⟩
                have v1B := v0B.trans (hbv1.mono v0B.size)
                have v1T := v0T.below hbv1 v0T.lt
                have v1d0 : v1.cell? ⟨wr.heap.size, 0, none⟩ = some (.int .i64 t.fr) := v1T.cell 0
                have v1d1 : v1.cell? ⟨wr.heap.size, 1, none⟩ = some (.int .i64 t.to_) := v1T.cell 1
                have v1d2 : v1.cell? ⟨wr.heap.size, 2, none⟩ = some (.int .i64 t.hd) := v1T.cell 2
                have v1d3 : v1.cell? ⟨wr.heap.size, 3, none⟩ = some (.int .i64 t.ty) := v1T.cell 3
                have v1m : v1.cell? ⟨w.heap.size, 5, none⟩ = some (.slice A bs.length c) := (hX.below v1B hw1).cell 5
                rcases atN_ok ls t.fr with ⟨o1, q1⟩ | ⟨o1, n1, q1⟩
                · rw [q1]
                  replace o1 := Lib.hid o1
                  have hbad : trapI ls bs.length t = false := by unfold trapI; simp [o1.out]
                  have hch := bad_trap (n := bs.length) (ts := ts) hfin.out hjmp.out ht.out hbad
                  replace hch := Lib.hid hch
                  clear hbad
                  go_wp2_with fail
                  go_ret2
                  have e1 : chE bs ts = 70 := by unfold chE; rw [if_pos he.out, hls.out, hch.out, if_neg (by decide)]
                  have e2 : chL bs ts = [] := by unfold chL; rw [e1, if_neg (by decide)]
                  rw [e1, e2]
                  exact ⟨none, 0, rfl, ReadsI.nil_ _ _, Nat.le_refl _, Nat.zero_le _, hB1.trans (v1B.mono hB1.size)⟩
                · rw [q1]
                  replace o1 := Lib.hid o1
                  go_wp2_with fail
                  refine (hat _ (t.to_) v1B htin.2.1).out.mono ?_
                  rintro _ v2 ⟨rfl, hbv2⟩
                  have v2B := v1B.trans (hbv2.mono v1B.size)
                  have v2T := v1T.below hbv2 v1T.lt
                  have v2d0 : v2.cell? ⟨wr.heap.size, 0, none⟩ = some (.int .i64 t.fr) := v2T.cell 0
                  have v2d1 : v2.cell? ⟨wr.heap.size, 1, none⟩ = some (.int .i64 t.to_) := v2T.cell 1
                  have v2d2 : v2.cell? ⟨wr.heap.size, 2, none⟩ = some (.int .i64 t.hd) := v2T.cell 2
                  have v2d3 : v2.cell? ⟨wr.heap.size, 3, none⟩ = some (.int .i64 t.ty) := v2T.cell 3
                  have v2m : v2.cell? ⟨w.heap.size, 5, none⟩ = some (.slice A bs.length c) := (hX.below v2B hw1).cell 5
                  rcases atN_ok ls t.to_ with ⟨o2, q2⟩ | ⟨o2, n2, q2⟩
                  · rw [q2]
                    replace o2 := Lib.hid o2
                    by_cases hto : t.to_ = bs.length
                    · have b1 : decide (t.to_ = (bs.length : Int)) = true := by simpa using hto
                      go_wp2_with fail
                      replace b1 := Lib.hid b1
                      refine (hat _ (t.hd) v2B htin.2.2.1).out.mono ?_
                      rintro _ v3 ⟨rfl, hbv3⟩
                      have v3B := v2B.trans (hbv3.mono v2B.size)
                      have v3T := v2T.below hbv3 v2T.lt
                      have v3d0 : v3.cell? ⟨wr.heap.size, 0, none⟩ = some (.int .i64 t.fr) := v3T.cell 0
                      have v3d1 : v3.cell? ⟨wr.heap.size, 1, none⟩ = some (.int .i64 t.to_) := v3T.cell 1
                      have v3d2 : v3.cell? ⟨wr.heap.size, 2, none⟩ = some (.int .i64 t.hd) := v3T.cell 2
                      have v3d3 : v3.cell? ⟨wr.heap.size, 3, none⟩ = some (.int .i64 t.ty) := v3T.cell 3
                      have v3m : v3.cell? ⟨w.heap.size, 5, none⟩ = some (.slice A bs.length c) := (hX.below v3B hw1).cell 5
                      rcases atN_ok ls t.hd with ⟨o3, q3⟩ | ⟨o3, n3, q3⟩
                      · rw [q3]
                        replace o3 := Lib.hid o3
                        have hbad : trapI ls bs.length t = false := by unfold trapI; simp [o1.out, o2.out, b1.out, o3.out]
                        have hch := bad_trap (n := bs.length) (ts := ts) hfin.out hjmp.out ht.out hbad
                        replace hch := Lib.hid hch
                        clear hbad
                        go_wp2_with fail
                        go_ret2
                        have e1 : chE bs ts = 70 := by unfold chE; rw [if_pos he.out, hls.out, hch.out, if_neg (by decide)]
                        have e2 : chL bs ts = [] := by unfold chL; rw [e1, if_neg (by decide)]
                        rw [e1, e2]
                        exact ⟨none, 0, rfl, ReadsI.nil_ _ _, Nat.le_refl _, Nat.zero_le _, hB1.trans (v3B.mono hB1.size)⟩
                      · rw [q3]
                        replace o3 := Lib.hid o3
                        have hff : (ts.take (k + 1)).all (trapI ls bs.length) = true := by rw [hnx.out, hf.out]; unfold trapI; simp [o1.out, o2.out, b1.out, o3.out]
                        replace hff := Lib.hid hff
                        go_wp2_with fail
                        exact ⟨⟨k + 1, by omega, by go_num, hff.out, v3B⟩, by simp [intOf]; omega⟩
                    · have b1 : decide (t.to_ = (bs.length : Int)) = false := by simpa using hto
                      replace b1 := Lib.hid b1
                      have hbad : trapI ls bs.length t = false := by unfold trapI; simp [o1.out, o2.out, b1.out]
                      have hch := bad_trap (n := bs.length) (ts := ts) hfin.out hjmp.out ht.out hbad
                      replace hch := Lib.hid hch
                      clear hbad
                      go_wp2_with fail
                      go_ret2
                      have e1 : chE bs ts = 70 := by unfold chE; rw [if_pos he.out, hls.out, hch.out, if_neg (by decide)]
                      have e2 : chL bs ts = [] := by unfold chL; rw [e1, if_neg (by decide)]
                      rw [e1, e2]
                      exact ⟨none, 0, rfl, ReadsI.nil_ _ _, Nat.le_refl _, Nat.zero_le _, hB1.trans (v2B.mono hB1.size)⟩
                  · rw [q2]
                    replace o2 := Lib.hid o2
                    go_wp2_with fail
                    refine (hat _ (t.hd) v2B htin.2.2.1).out.mono ?_
                    rintro _ v3 ⟨rfl, hbv3⟩
                    have v3B := v2B.trans (hbv3.mono v2B.size)
                    have v3T := v2T.below hbv3 v2T.lt
                    have v3d0 : v3.cell? ⟨wr.heap.size, 0, none⟩ = some (.int .i64 t.fr) := v3T.cell 0
                    have v3d1 : v3.cell? ⟨wr.heap.size, 1, none⟩ = some (.int .i64 t.to_) := v3T.cell 1
                    have v3d2 : v3.cell? ⟨wr.heap.size, 2, none⟩ = some (.int .i64 t.hd) := v3T.cell 2
                    have v3d3 : v3.cell? ⟨wr.heap.size, 3, none⟩ = some (.int .i64 t.ty) := v3T.cell 3
                    have v3m : v3.cell? ⟨w.heap.size, 5, none⟩ = some (.slice A bs.length c) := (hX.below v3B hw1).cell 5
                    rcases atN_ok ls t.hd with ⟨o3, q3⟩ | ⟨o3, n3, q3⟩
                    · rw [q3]
                      replace o3 := Lib.hid o3
                      have hbad : trapI ls bs.length t = false := by unfold trapI; simp [o1.out, o2.out, o3.out]
                      have hch := bad_trap (n := bs.length) (ts := ts) hfin.out hjmp.out ht.out hbad
                      replace hch := Lib.hid hch
                      clear hbad
                      go_wp2_with fail
                      go_ret2
                      have e1 : chE bs ts = 70 := by unfold chE; rw [if_pos he.out, hls.out, hch.out, if_neg (by decide)]
                      have e2 : chL bs ts = [] := by unfold chL; rw [e1, if_neg (by decide)]
                      rw [e1, e2]
                      exact ⟨none, 0, rfl, ReadsI.nil_ _ _, Nat.le_refl _, Nat.zero_le _, hB1.trans (v3B.mono hB1.size)⟩
                    · rw [q3]
                      replace o3 := Lib.hid o3
                      have hff : (ts.take (k + 1)).all (trapI ls bs.length) = true := by rw [hnx.out, hf.out]; unfold trapI; simp [o1.out, o2.out, o3.out]
                      replace hff := Lib.hid hff
                      go_wp2_with fail
                      exact ⟨⟨k + 1, by omega, by go_num, hff.out, v3B⟩, by simp [intOf]; omega⟩
              · obtain rfl : k = ts.length := by omega
                rw [List.take_length] at hf
                have hch : chB ls bs.length ts = true := by unfold chB; rw [hfin.out, hjmp.out, hf]; rfl
                replace hch := Lib.hid hch
                clear hf
                go_wp2_with fail
                go_ret2
                have e1 : chE bs ts = 0 := by unfold chE; rw [if_pos he.out, hls.out, hch.out, if_pos rfl]
                have e2 : chL bs ts = ls := by unfold chL; rw [if_pos e1, hls.out]
                rw [e1, e2]
                exact ⟨_, _, rfl, (ReadsI.below hr1 hB).more hB.size, hlc1, hm1, hB1.trans (hB.mono hB1.size)⟩
  · have hnone := list_none he
    rw [hnone] at hlp
    have e1 : chE bs ts = listE bs := by unfold chE; rw [if_neg he]
    have e2 : chL bs ts = [] := by unfold chL; rw [e1, if_neg he]
    rw [e1, e2]
    clear e1 e2 hnone
    generalize listE bs = code at *
    have b1 : decide (code = 0) = false := by simpa using he
    go_enter Try.func33, Try.ntmps33
    go_wp2_with fail
    refine hlp.out.mono ?_
    rintro _ w1 ⟨A1, c1, rfl, hr1, hlc1, hm1, hb1⟩
    go_wp2_with fail
    go_ret2
    exact ⟨none, 0, rfl, ReadsI.nil_ _ _, Nat.le_refl _, Nat.zero_le _, hW0.trans (hb1.mono hW0.size)⟩
end Go.Proofs.Ytcinmgifadmbeaa
