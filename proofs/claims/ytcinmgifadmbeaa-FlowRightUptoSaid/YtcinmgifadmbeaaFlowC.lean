/- flow.Check. -/
import Derived.Test.YtcinmgifadmbeaaFlowP
import Derived.Test.YtcinmgifadmbeaaBackI
import Derived.Test.YtcinmgifadmbeaaFlowAw
import Derived.Test.YtcinmgifadmbeaaOpenM
import Derived.WalkMore
namespace Go.Proofs.Ytcinmgifadmbeaa
open Go.RowKit
set_option linter.unusedVariables false
set_option linter.unusedSimpArgs false

set_option maxRecDepth 100000 in
set_option maxHeartbeats 4000000 in
theorem is_any (x : Int) (n g gb gf : Nat) (fl : Bool) (f : Int → Option Value) (w : World) (hM : MapI w g n f) (hG : Blk w gb 95 #[.map (some g)]) (hF : Blk w gf 4 #[.bool fl]) (hx : fit64 x) :
    Calls Try.prog 48 #[.int .i64 x, .pointer (some ⟨gb, 0, none⟩), .pointer (some ⟨gf, 0, none⟩)] w fun e w' => e = .returned (.tuple #[]) ∧ w.setCell ⟨gf, 0, none⟩ (.bool (fl && (f x).isSome)) = w' := by
  have c0 : w.cell? ⟨gb, 0, none⟩ = some (.map (some g)) := hG.cell 0
  have c1 : w.cell? ⟨gf, 0, none⟩ = some (.bool fl) := hF.cell 0
  have z1 : w.frozen? ⟨gf, 0, none⟩ = false := hF.frozen 0
  have hrun := hM.look_ok (T := 95) (E := 3) Try.underlying95 (zeroI_run _) hx
  cases fl <;> cases hf : f x <;> rw [hf] at hrun <;> simp only [Option.getD_none, Option.isSome_none, Option.getD_some, Option.isSome_some] at hrun <;> replace hf := Lib.hid hf <;> go_enter Try.func48, Try.ntmps48
  all_goals go_wp2_with fail
  all_goals go_end0
  all_goals exact ⟨rfl, rfl⟩
/-- The state of Check: the places, the flag. -/
structure Ck (w1 : World) (ls : List Ins) (gb gf : Nat) (fl : Bool) (wr : World) : Prop where
  hB : Below w1.heap.size w1 wr
  hM : MapI wr w1.heap.size ls.length (idxV ls)
  hG : Blk wr gb 95 #[.map (some w1.heap.size)]
  hF : Blk wr gf 4 #[.bool fl]
  hgf : w1.heap.size < gf
  hne : gb ≠ gf
theorem Ck.below {w1 : World} {ls : List Ins} {gb gf : Nat} {fl : Bool} {wr wr' : World} (h : Ck w1 ls gb gf fl wr) (hb : Below wr.heap.size wr wr') : Ck w1 ls gb gf fl wr' :=
  ⟨h.hB.trans (hb.mono h.hB.size), h.hM.below hb, h.hG.below hb h.hG.lt, h.hF.below hb h.hF.lt, h.hgf, h.hne⟩
theorem Ck.alloc {w1 : World} {ls : List Ins} {gb gf : Nat} {fl : Bool} {wr : World} (h : Ck w1 ls gb gf fl wr) (o : Obj) : Ck w1 ls gb gf fl (wr.alloc o) := h.below ((Below.refl _ _).alloc (Nat.le_refl _) o)
theorem is_ck {w1 : World} {ls : List Ins} {gb gf : Nat} {fl : Bool} {wr : World} (h : Ck w1 ls gb gf fl wr) (x : Int) (hx : fit64 x) :
    Calls Try.prog 48 #[.int .i64 x, .pointer (some ⟨gb, 0, none⟩), .pointer (some ⟨gf, 0, none⟩)] wr fun e w' => e = .returned (.tuple #[]) ∧ Ck w1 ls gb gf (fl && (idxV ls x).isSome) w' ∧ (∀ g t cs, Blk wr g t cs → g ≠ gf → Blk w' g t cs) := by
  refine (is_any x ls.length w1.heap.size gb gf fl (idxV ls) wr h.hM h.hG h.hF hx).mono ?_
  rintro e w' ⟨rfl, rfl⟩
  have hgf := h.hgf
  exact ⟨rfl, ⟨h.hB.setCell (Nat.le_of_lt hgf) _, h.hM.setCell (Nat.ne_of_lt hgf) _, h.hG.far h.hne _, h.hF.set_ 0 _, hgf, h.hne⟩, fun g t cs hb hg => hb.far hg _⟩

/-- Is the last one there, and does it not fall? -/
def fineI (ls : List Ins) : Bool := match ls.getLast? with | none => false | some i => !fallsI i
def okI (ls : List Ins) (x : Int) : Bool := (idxV ls x).isSome
noncomputable def jumpI (ls : List Ins) (i : Ins) : Bool := !(ldB i) || okI ls i.a
def trapI (ls : List Ins) (n : Nat) (t : Tr) : Bool := (okI ls t.fr && okI ls t.hd) && (decide (t.to_ = n) || okI ls t.to_)
noncomputable def chB (ls : List Ins) (n : Nat) (ts : List Tr) : Bool := (fineI ls && ls.all (jumpI ls)) && ts.all (trapI ls n)
noncomputable def chE (bs : List Int) (ts : List Tr) : Int := if listE bs = 0 then (if chB (listL bs) bs.length ts = true then 0 else 70) else listE bs
noncomputable def chL (bs : List Int) (ts : List Tr) : List Ins := if chE bs ts = 0 then listL bs else []
theorem all_next {α : Type} {l : List α} {k : Nat} {x : α} (p : α → Bool) (h : l[k]? = some x) : (l.take (k + 1)).all p = ((l.take k).all p && p x) := by
  rw [List.take_add_one, h]; simp
theorem all_short {α : Type} {l : List α} {k : Nat} (p : α → Bool) (h : (l.take k).all p = false) : l.all p = false := by
  have e : l.all p = ((l.take k).all p && (l.drop k).all p) := by rw [← List.all_append, List.take_append_drop]
  rw [e, h]; rfl
theorem walk_mem {bs : List Int} : ∀ (n k : Nat) (x : Ins × Int), bs.length - k ≤ n → x ∈ walkAt bs k → x.2 = 0 → ∃ j, Stands bs j ∧ j < bs.length ∧ x.1 = decI bs j := by
  intro n
  induction n with
  | zero => intro k x h hx; rw [walkAt_end (by omega)] at hx; cases hx
  | succ n ih =>
    intro k x h hx h2
    by_cases hlt : k < bs.length
    · by_cases h0 : decC bs k = 0
      · rw [walkAt_go hlt h0] at hx
        rcases List.mem_cons.1 hx with e | e
        · exact ⟨k, dec_stands.1 h0, hlt, by rw [e]⟩
        · exact ih _ x (by have := (szAt_bd bs k).1; omega) e h2
      · rw [walkAt_no hlt h0] at hx
        rw [List.mem_singleton.1 hx] at h2
        exact absurd h2 h0
    · rw [walkAt_end hlt] at hx; cases hx
theorem list_fit {bs : List Int} (hb : Bytes bs) (h : listE bs = 0) (hs : bs.length ≤ 4194304) : ∀ i ∈ listL bs, fit64 i.a := by
  intro i hi
  rw [list_is h] at hi
  obtain ⟨x, hx, rfl⟩ := List.mem_map.1 hi
  obtain ⟨j, g, hj, e⟩ := walk_mem _ 0 x (Nat.le_refl _) hx (list_all h x hx)
  have hr := (raw_bd hb g).1
  rw [e, dec_is g]
  unfold fit64 leads
  dsimp only
  split
  · rw [IntWalk.wrap64_in _ (by omega)]; omega
  · omega
/-- What a call that checks comes to. -/
def CkPost (w : World) (bs : List Int) (ts : List Tr) (e : Ending) (w' : World) : Prop :=
  ∃ A c, e = .returned (.tuple #[.slice A (chL bs ts).length c, .int .i64 (chE bs ts)]) ∧ ReadsI w' w'.heap.size A (chL bs ts) ∧ (chL bs ts).length ≤ c ∧ c ≤ maxLen ∧ Below w.heap.size w w'

set_option maxRecDepth 100000 in
set_option maxHeartbeats 4000000 in
theorem check_any (k0 k1 k2 k3 k4 : Int) (A : Option Addr) (c : Nat) (bs : List Int) (At_ : Option Addr) (ct : Nat) (ts : List Tr) (Am : Option Addr) (lm cm : Nat) (v : Value) (w : World) (hm : MethIn w v k0 k1 k2 k3 k4 A c bs At_ ct ts Am lm cm) (hs : bs.length ≤ 4194304) :
    Calls Try.prog 32 #[v] w fun e w' => CkPost w bs ts e w' := by
  obtain ⟨rfl, hr, hby, hcap, hmx, hrt, hfit, htc, htm⟩ := hm
  have hX := Blk.new w 58 #[.int .i64 k0, .int .i64 k1, .int .i64 k2, .int .i64 k3, .int .i64 k4, .slice A bs.length c, .slice At_ ts.length ct, .slice Am lm cm]
  have hW0 : Below w.heap.size w (w.alloc (.cells #[.int .i64 k0, .int .i64 k1, .int .i64 k2, .int .i64 k3, .int .i64 k4, .slice A bs.length c, .slice At_ ts.length ct, .slice Am lm cm] 58)) := (Below.refl _ _).alloc (Nat.le_refl _) _
  have hra : ReadsB (w.alloc (.cells #[.int .i64 k0, .int .i64 k1, .int .i64 k2, .int .i64 k3, .int .i64 k4, .slice A bs.length c, .slice At_ ts.length ct, .slice Am lm cm] 58)) (w.alloc (.cells #[.int .i64 k0, .int .i64 k1, .int .i64 k2, .int .i64 k3, .int .i64 k4, .slice A bs.length c, .slice At_ ts.length ct, .slice Am lm cm] 58)).heap.size A bs := Reads.more (Reads.below hr hW0) hW0.size
  have hlp := Lib.hid (list_any A c bs _ (by omega) hby hra hcap (by unfold maxLen at hmx; omega))
  unfold LsPost at hlp
  unfold maxLen at htm
  unfold CkPost
  have c5 : (w.alloc (.cells #[.int .i64 k0, .int .i64 k1, .int .i64 k2, .int .i64 k3, .int .i64 k4, .slice A bs.length c, .slice At_ ts.length ct, .slice Am lm cm] 58)).cell? ⟨w.heap.size, 5, none⟩ = some (.slice A bs.length c) := hX.cell 5
  by_cases he : listE bs = 0
  · rw [he] at hlp
    have hrow := list_row he
    have hfa := list_fit hby he hs
    generalize hls : listL bs = ls at *
    have hll : ls.length ≤ 4194304 := by have := rowI_len hrow; omega
    have hfi := rowI_fit hrow (by omega)
    replace he := Lib.hid he
    replace hls := Lib.hid hls
    replace hrow := Lib.hid hrow
    by_cases hnil : ls = []
    · subst hnil
      go_enter Try.func32, Try.ntmps32
      go_wp2_with fail
      go_step3
      go_wp2_with fail
      refine hlp.out.mono ?_
      rintro _ w1 ⟨A1, c1, rfl, hr1, hlc1, hm1, hb1⟩
      have hw1 : w.heap.size < w1.heap.size := by have := hb1.size; simp at this; omega
      have hB1 := hW0.trans (hb1.mono hW0.size)
      replace hX := hX.below hb1 hX.lt
      clear hlp
      go_wp2_with fail
      refine (places_any A1 c1 ([] : List Ins) w1 hr1 hfi (by omega)).mono ?_
      rintro _ w2 ⟨rfl, hM2, hb2⟩
      have hM3 := hM2.alloc (.cells #[.map (some w1.heap.size)] 95)
      have hb3 := hb2.alloc hb2.size (.cells #[.map (some w1.heap.size)] 95)
      have hG3 := Blk.new w2 95 #[.map (some w1.heap.size)]
      have hgf : w1.heap.size < w2.heap.size + 1 := by have := hM2.lt; omega
      have hne : w2.heap.size ≠ w2.heap.size + 1 := by omega
      have hC : Ck w1 ([] : List Ins) w2.heap.size (w2.heap.size + 1) false ((w2.alloc (.cells #[.map (some w1.heap.size)] 95)).alloc (.cells #[.bool false] 4)) :=
        ⟨hb3.alloc hb3.size _, hM3.alloc _, hG3.alloc _, by have h := Blk.new (w2.alloc (.cells #[.map (some w1.heap.size)] 95)) 4 #[.bool false]; simpa using h, hgf, hne⟩
      clear hM2 hM3 hG3 hb2 hb3
      have hmf : ∀ (fn : Fn) (first cap : Array Value) (w : World), (Instr.makeFunc fn first cap).run Try.prog w = .ok (.func fn first cap) w := fun _ _ _ _ => rfl
      go_wp2_with fail
      go_step3
      generalize ((w2.alloc (.cells #[.map (some w1.heap.size)] 95)).alloc (.cells #[.bool false] 4)) = W0 at *
      generalize w2.heap.size + 1 = gf at *
      generalize w2.heap.size = gb at *
      clear hmf hgf hne
      obtain ⟨fl2, hfg⟩ : ∃ b : Bool, b = false := ⟨false, rfl⟩
      rw [← hfg] at hC
      have hfl : Hid (fl2 = (fineI ([] : List Ins) && ([] : List Ins).all (jumpI ([] : List Ins)))) := Lib.hid (by rw [hfg]; rfl)
      clear hfg
      go_wp2_with fail
      go_loopw [42] (fun i wr => i = .int .i64 0 ∧ wr = W0) (fun i _ => 0)
      case atStart => exact ⟨rfl, rfl⟩
      case round =>
        obtain ⟨rfl, rfl⟩ := hrel
        have cm : wr.cell? ⟨w.heap.size, 6, none⟩ = some (.slice At_ ts.length ct) := (hX.below hC.hB hw1).cell 6
        go_wp2_with fail
        go_loopw [61] (fun i wr => ∃ (k : Nat) (g2 : Bool), k ≤ ts.length ∧ i = .int .i64 k ∧ g2 = (fl2 && (ts.take k).all (trapI ([] : List Ins) bs.length)) ∧ Ck w1 ([] : List Ins) gb gf g2 wr) (fun i _ => ts.length - (intOf i).toNat)
        case atStart => exact ⟨0, fl2, Nat.zero_le _, rfl, by simp, hC⟩
        case round =>
          clear cm hC
          obtain ⟨k, g2, hk, rfl, hf, hC⟩ := hrel
          by_cases hlt : k < ts.length
          · obtain ⟨t, ht⟩ := tr_at hlt
            have htin := hfit t (List.mem_of_getElem? ht)
            have hnx := all_next (trapI ([] : List Ins) bs.length) ht
            obtain ⟨at_, q, _, e1⟩ := (ReadsT.below hrt (hB1.trans (hC.hB.mono hB1.size))).at_ ht
            first | subst q | (injection q with q; subst q)
            obtain ⟨a0, a1, a2, a3⟩ := e1
            replace hf := Lib.hid hf
            replace hnx := Lib.hid hnx
            replace ht := Lib.hid ht
            go_wp2_with fail
            have hT := Blk.new wr 63 #[.int .i64 t.fr, .int .i64 t.to_, .int .i64 t.hd, .int .i64 t.ty]
            have hTne : wr.heap.size ≠ gf := Nat.ne_of_gt hC.hF.lt
            replace hC := hC.alloc (.cells #[.int .i64 t.fr, .int .i64 t.to_, .int .i64 t.hd, .int .i64 t.ty] 63)
            clear a0 a1 a2 a3
            refine (is_ck hC (t.fr) htin.1).mono ?_
            rintro _ v1 ⟨rfl, hC1, hk1⟩
            have hT1 := hk1 _ _ _ hT hTne
            have d2 : v1.cell? ⟨wr.heap.size, 2, none⟩ = some (.int .i64 t.hd) := hT1.cell 2
            skip
            go_wp2_with fail
            replace hC := hC1
            refine (is_ck hC (t.hd) htin.2.2.1).mono ?_
            rintro _ v2 ⟨rfl, hC2, hk2⟩
            have hT2 := hk2 _ _ _ hT1 hTne
            have d1 : v2.cell? ⟨wr.heap.size, 1, none⟩ = some (.int .i64 t.to_) := hT2.cell 1
            have d5 : v2.cell? ⟨w.heap.size, 5, none⟩ = some (.slice A bs.length c) := (hX.below hC2.hB hw1).cell 5
            replace hC := hC2
            by_cases hto : t.to_ = bs.length
            · have b1 : decide (t.to_ = (bs.length : Int)) = true := by simpa using hto
              have hff : ((g2 && (idxV ([] : List Ins) t.fr).isSome) && (idxV ([] : List Ins) t.hd).isSome) = (fl2 && (ts.take (k + 1)).all (trapI ([] : List Ins) bs.length)) := by
                rw [hf.out, hnx.out]; unfold trapI okI; rw [b1]; simp [Bool.and_assoc]
              replace hff := Lib.hid hff
              skip
              go_wp2_with fail
              exact ⟨⟨k + 1, _, by omega, by go_num, hff.out, hC⟩, by simp [intOf]; omega⟩
            · have b1 : decide (t.to_ = (bs.length : Int)) = false := by simpa using hto
              have hff : (((g2 && (idxV ([] : List Ins) t.fr).isSome) && (idxV ([] : List Ins) t.hd).isSome) && (idxV ([] : List Ins) t.to_).isSome) = (fl2 && (ts.take (k + 1)).all (trapI ([] : List Ins) bs.length)) := by
                rw [hf.out, hnx.out]; unfold trapI okI; rw [b1]; simp [Bool.and_assoc]
              replace hff := Lib.hid hff
              skip
              go_wp2_with fail
              refine (is_ck hC (t.to_) htin.2.1).mono ?_
              rintro _ v3 ⟨rfl, hC3, hk3⟩
              skip
              go_wp2_with fail
              exact ⟨⟨k + 1, _, by omega, by go_num, hff.out, hC3⟩, by simp [intOf]; omega⟩
          · obtain rfl : k = ts.length := by omega
            rw [List.take_length] at hf
            have cf : wr.cell? ⟨gf, 0, none⟩ = some (.bool g2) := hC.hF.cell 0
            have hBw : Below w.heap.size w wr := hB1.trans (hC.hB.mono hB1.size)
            have hch : g2 = chB ([] : List Ins) bs.length ts := by rw [hf, hfl.out]; rfl
            replace hch := Lib.hid hch
            clear hf
            cases g2 with
            | true =>
              go_wp2_with fail
              try rw [Exit.noGoto_ret]
              go_ret2
              have e1 : chE bs ts = 0 := by unfold chE; rw [if_pos he.out, hls.out, ← hch.out, if_pos rfl]
              have e2 : chL bs ts = ([] : List Ins) := by unfold chL; rw [if_pos e1, hls.out]
              rw [e1, e2]
              exact ⟨_, _, rfl, (ReadsI.below hr1 hC.hB).more hC.hB.size, hlc1, hm1, hBw⟩
            | false =>
              go_wp2_with fail
              try rw [Exit.noGoto_ret]
              go_ret2
              have e1 : chE bs ts = 70 := by unfold chE; rw [if_pos he.out, hls.out, ← hch.out, if_neg (by decide)]
              have e2 : chL bs ts = [] := by unfold chL; rw [e1, if_neg (by decide)]
              rw [e1, e2]
              exact ⟨none, 0, rfl, ReadsI.nil_ _ _, Nat.le_refl _, Nat.zero_le _, hBw⟩
    · obtain ⟨p, i, hpi⟩ : ∃ p i, ls = p ++ [i] := by
        rcases List.eq_nil_or_concat ls with h | ⟨p, i, h⟩
        · exact absurd h hnil
        · exact ⟨p, i, by rw [h, List.concat_eq_append]⟩
      have hfine : fineI ls = !fallsI i := by unfold fineI; rw [hpi]; simp
      have hlast : ls[ls.length - 1]? = some i := by rw [hpi]; simp
      have hpos : 0 < ls.length := by rw [hpi]; simp
      replace hpi := Lib.hid hpi
      replace hnil := Lib.hid hnil
      go_enter Try.func32, Try.ntmps32
      go_wp2_with fail
      go_step3
      go_wp2_with fail
      refine hlp.out.mono ?_
      rintro _ w1 ⟨A1, c1, rfl, hr1, hlc1, hm1, hb1⟩
      have hw1 : w.heap.size < w1.heap.size := by have := hb1.size; simp at this; omega
      have hB1 := hW0.trans (hb1.mono hW0.size)
      replace hX := hX.below hb1 hX.lt
      clear hlp
      go_wp2_with fail
      refine (places_any A1 c1 ls w1 hr1 hfi (by omega)).mono ?_
      rintro _ w2 ⟨rfl, hM2, hb2⟩
      have hM3 := hM2.alloc (.cells #[.map (some w1.heap.size)] 95)
      have hb3 := hb2.alloc hb2.size (.cells #[.map (some w1.heap.size)] 95)
      have hG3 := Blk.new w2 95 #[.map (some w1.heap.size)]
      obtain ⟨ad, q, _, e1⟩ := (ReadsI.below hr1 hb3).at_ hlast
      first | subst q | (injection q with q; subst q)
      obtain ⟨a0, a1, a2, a3, a4⟩ := e1
      have hfalls := fun w => Lib.hid (falls_any i w)
      unfold Ins.val at hfalls
      go_wp2_with fail
      refine (hfalls _).out.mono ?_
      rintro _ w3 ⟨rfl, hb4⟩
      have hB4 := hb3.trans (hb4.mono hb3.size)
      have hM4 := hM3.below hb4
      have hG4 := hG3.below hb4 hG3.lt
      have hgf : w1.heap.size < w3.heap.size := by have := hM4.lt; omega
      have hne : w2.heap.size ≠ w3.heap.size := Nat.ne_of_lt hG4.lt
      clear a0 a1 a2 a3 a4 hfalls hM2 hM3 hG3 hb2 hb3 hb4
      have hC : Ck w1 ls w2.heap.size w3.heap.size (!fallsI i) (w3.alloc (.cells #[.bool (!fallsI i)] 4)) :=
        ⟨hB4.alloc hB4.size _, hM4.alloc _, hG4.alloc _, Blk.new w3 _ _, hgf, hne⟩
      have hmf : ∀ (fn : Fn) (first cap : Array Value) (w : World), (Instr.makeFunc fn first cap).run Try.prog w = .ok (.func fn first cap) w := fun _ _ _ _ => rfl
      go_wp2_with fail
      go_step3
      generalize w3.alloc (.cells #[.bool (!fallsI i)] 4) = W0 at *
      rw [← hfine] at hC
      generalize w2.heap.size = gb at *
      generalize w3.heap.size = gf at *
      clear hlast hpos hfine hmf hB4 hM4 hG4 hgf hne
      go_wp2_with fail
      go_loopw [42] (fun i wr => ∃ (k : Nat) (fl : Bool), k ≤ ls.length ∧ i = .int .i64 k ∧ fl = (fineI ls && (ls.take k).all (jumpI ls)) ∧ Ck w1 ls gb gf fl wr) (fun i _ => ls.length - (intOf i).toNat)
      case atStart => exact ⟨0, fineI ls, Nat.zero_le _, rfl, by simp, hC⟩
      case round =>
        clear hC
        obtain ⟨k, fl, hk, rfl, hf, hC⟩ := hrel
        by_cases hlt : k < ls.length
        · obtain ⟨x, hx⟩ := ins_at hlt
          have hxa := hfa x (List.mem_of_getElem? hx)
          have hnx := all_next (jumpI ls) hx
          obtain ⟨ad, q, _, e1⟩ := (ReadsI.below hr1 hC.hB).at_ hx
          first | subst q | (injection q with q; subst q)
          obtain ⟨a0, a1, a2, a3, a4⟩ := e1
          have hleads := fun w => Lib.hid (leads_any x w)
          unfold Ins.val at hleads
          replace hf := Lib.hid hf
          replace hx := Lib.hid hx
          cases hld : ldB x with
          | true =>
            have hla : ldA x = x.a := by unfold ldA; rw [if_pos hld]
            rw [hld, hla] at hleads
            have hff : (fl && (idxV ls x.a).isSome) = (fineI ls && (ls.take (k + 1)).all (jumpI ls)) := by
              rw [hf.out, hnx]; unfold jumpI okI; rw [hld]; simp [Bool.and_assoc]
            replace hff := Lib.hid hff
            replace hla := Lib.hid hla
            replace hld := Lib.hid hld
            clear hnx
            go_wp2_with fail
            refine (hleads _).out.mono ?_
            rintro _ v0 ⟨rfl, hb0⟩
            replace hC := (hC.alloc (.cells #[.int .i64 x.at_, .int .i64 x.op, .int .i64 x.a, .int .i64 x.b, .int .i64 x.size] 28)).below hb0
            clear a0 a1 a2 a3 a4
            go_wp2_with fail
            refine (is_ck hC x.a hxa).mono ?_
            rintro _ v1 ⟨rfl, hC1, hk1⟩
            replace hC := hC1
            clear hC1 hk1
            generalize (fl && (idxV ls x.a).isSome) = fl' at *
            skip
            have cf : v1.cell? ⟨gf, 0, none⟩ = some (.bool fl') := hC.hF.cell 0
            cases fl' with
            | true =>
              go_wp2_with fail
              exact ⟨⟨k + 1, _, by omega, by go_num, hff.out, hC⟩, by simp [intOf]; omega⟩
            | false =>
              have hfl : Hid (false = (fineI ls && ls.all (jumpI ls))) := Lib.hid (by
                have h := hff.out
                cases hq : fineI ls with
                | false => rfl
                | true =>
                  rw [hq] at h
                  simp only [Bool.true_and] at h
                  rw [all_short _ h.symm]; rfl)
              obtain ⟨fl2, hfg⟩ : ∃ b : Bool, b = false := ⟨false, rfl⟩
              rw [← hfg] at hC hfl
              clear hfg hff hf
              have cm : v1.cell? ⟨w.heap.size, 6, none⟩ = some (.slice At_ ts.length ct) := (hX.below hC.hB hw1).cell 6
              go_wp2_with fail
              go_loopw [61] (fun i wr => ∃ (k : Nat) (g2 : Bool), k ≤ ts.length ∧ i = .int .i64 k ∧ g2 = (fl2 && (ts.take k).all (trapI ls bs.length)) ∧ Ck w1 ls gb gf g2 wr) (fun i _ => ts.length - (intOf i).toNat)
              case atStart => exact ⟨0, fl2, Nat.zero_le _, rfl, by simp, hC⟩
              case round =>
                clear cm hC
                obtain ⟨k, g2, hk, rfl, hf, hC⟩ := hrel
                by_cases hlt : k < ts.length
                · obtain ⟨t, ht⟩ := tr_at hlt
                  have htin := hfit t (List.mem_of_getElem? ht)
                  have hnx := all_next (trapI ls bs.length) ht
                  obtain ⟨at_, q, _, e1⟩ := (ReadsT.below hrt (hB1.trans (hC.hB.mono hB1.size))).at_ ht
                  first | subst q | (injection q with q; subst q)
                  obtain ⟨a0, a1, a2, a3⟩ := e1
                  replace hf := Lib.hid hf
                  replace hnx := Lib.hid hnx
                  replace ht := Lib.hid ht
                  go_wp2_with fail
                  have hT := Blk.new wr 63 #[.int .i64 t.fr, .int .i64 t.to_, .int .i64 t.hd, .int .i64 t.ty]
                  have hTne : wr.heap.size ≠ gf := Nat.ne_of_gt hC.hF.lt
                  replace hC := hC.alloc (.cells #[.int .i64 t.fr, .int .i64 t.to_, .int .i64 t.hd, .int .i64 t.ty] 63)
                  clear a0 a1 a2 a3
                  refine (is_ck hC (t.fr) htin.1).mono ?_
                  rintro _ v1 ⟨rfl, hC1, hk1⟩
                  have hT1 := hk1 _ _ _ hT hTne
                  have d2 : v1.cell? ⟨wr.heap.size, 2, none⟩ = some (.int .i64 t.hd) := hT1.cell 2
                  skip
                  go_wp2_with fail
                  replace hC := hC1
                  refine (is_ck hC (t.hd) htin.2.2.1).mono ?_
                  rintro _ v2 ⟨rfl, hC2, hk2⟩
                  have hT2 := hk2 _ _ _ hT1 hTne
                  have d1 : v2.cell? ⟨wr.heap.size, 1, none⟩ = some (.int .i64 t.to_) := hT2.cell 1
                  have d5 : v2.cell? ⟨w.heap.size, 5, none⟩ = some (.slice A bs.length c) := (hX.below hC2.hB hw1).cell 5
                  replace hC := hC2
                  by_cases hto : t.to_ = bs.length
                  · have b1 : decide (t.to_ = (bs.length : Int)) = true := by simpa using hto
                    have hff : ((g2 && (idxV ls t.fr).isSome) && (idxV ls t.hd).isSome) = (fl2 && (ts.take (k + 1)).all (trapI ls bs.length)) := by
                      rw [hf.out, hnx.out]; unfold trapI okI; rw [b1]; simp [Bool.and_assoc]
                    replace hff := Lib.hid hff
                    skip
                    go_wp2_with fail
                    exact ⟨⟨k + 1, _, by omega, by go_num, hff.out, hC⟩, by simp [intOf]; omega⟩
                  · have b1 : decide (t.to_ = (bs.length : Int)) = false := by simpa using hto
                    have hff : (((g2 && (idxV ls t.fr).isSome) && (idxV ls t.hd).isSome) && (idxV ls t.to_).isSome) = (fl2 && (ts.take (k + 1)).all (trapI ls bs.length)) := by
                      rw [hf.out, hnx.out]; unfold trapI okI; rw [b1]; simp [Bool.and_assoc]
                    replace hff := Lib.hid hff
                    skip
                    go_wp2_with fail
                    refine (is_ck hC (t.to_) htin.2.1).mono ?_
                    rintro _ v3 ⟨rfl, hC3, hk3⟩
                    skip
                    go_wp2_with fail
                    exact ⟨⟨k + 1, _, by omega, by go_num, hff.out, hC3⟩, by simp [intOf]; omega⟩
                · obtain rfl : k = ts.length := by omega
                  rw [List.take_length] at hf
                  have cf : wr.cell? ⟨gf, 0, none⟩ = some (.bool g2) := hC.hF.cell 0
                  have hBw : Below w.heap.size w wr := hB1.trans (hC.hB.mono hB1.size)
                  have hch : g2 = chB ls bs.length ts := by rw [hf, hfl.out]; rfl
                  replace hch := Lib.hid hch
                  clear hf
                  cases g2 with
                  | true =>
                    go_wp2_with fail
                    try rw [Exit.noGoto_ret]
                    go_ret2
                    have e1 : chE bs ts = 0 := by unfold chE; rw [if_pos he.out, hls.out, ← hch.out, if_pos rfl]
                    have e2 : chL bs ts = ls := by unfold chL; rw [if_pos e1, hls.out]
                    rw [e1, e2]
                    exact ⟨_, _, rfl, (ReadsI.below hr1 hC.hB).more hC.hB.size, hlc1, hm1, hBw⟩
                  | false =>
                    go_wp2_with fail
                    try rw [Exit.noGoto_ret]
                    go_ret2
                    have e1 : chE bs ts = 70 := by unfold chE; rw [if_pos he.out, hls.out, ← hch.out, if_neg (by decide)]
                    have e2 : chL bs ts = [] := by unfold chL; rw [e1, if_neg (by decide)]
                    rw [e1, e2]
                    exact ⟨none, 0, rfl, ReadsI.nil_ _ _, Nat.le_refl _, Nat.zero_le _, hBw⟩
          | false =>
            have hla : ldA x = 0 := by unfold ldA; rw [if_neg (by rw [hld]; decide)]
            rw [hld, hla] at hleads
            have hff : fl = (fineI ls && (ls.take (k + 1)).all (jumpI ls)) := by
              rw [hf.out, hnx]; unfold jumpI okI; rw [hld]; simp
            replace hff := Lib.hid hff
            replace hla := Lib.hid hla
            replace hld := Lib.hid hld
            clear hnx
            go_wp2_with fail
            refine (hleads _).out.mono ?_
            rintro _ v1 ⟨rfl, hb0⟩
            replace hC := (hC.alloc (.cells #[.int .i64 x.at_, .int .i64 x.op, .int .i64 x.a, .int .i64 x.b, .int .i64 x.size] 28)).below hb0
            clear a0 a1 a2 a3 a4 hb0
            rename Bool => fl'
            have cf : v1.cell? ⟨gf, 0, none⟩ = some (.bool fl') := hC.hF.cell 0
            cases fl' with
            | true =>
              go_wp2_with fail
              exact ⟨⟨k + 1, _, by omega, by go_num, hff.out, hC⟩, by simp [intOf]; omega⟩
            | false =>
              have hfl : Hid (false = (fineI ls && ls.all (jumpI ls))) := Lib.hid (by
                have h := hff.out
                cases hq : fineI ls with
                | false => rfl
                | true =>
                  rw [hq] at h
                  simp only [Bool.true_and] at h
                  rw [all_short _ h.symm]; rfl)
              obtain ⟨fl2, hfg⟩ : ∃ b : Bool, b = false := ⟨false, rfl⟩
              rw [← hfg] at hC hfl
              clear hfg hff hf
              have cm : v1.cell? ⟨w.heap.size, 6, none⟩ = some (.slice At_ ts.length ct) := (hX.below hC.hB hw1).cell 6
              go_wp2_with fail
              go_loopw [61] (fun i wr => ∃ (k : Nat) (g2 : Bool), k ≤ ts.length ∧ i = .int .i64 k ∧ g2 = (fl2 && (ts.take k).all (trapI ls bs.length)) ∧ Ck w1 ls gb gf g2 wr) (fun i _ => ts.length - (intOf i).toNat)
              case atStart => exact ⟨0, fl2, Nat.zero_le _, rfl, by simp, hC⟩
              case round =>
                clear cm hC
                obtain ⟨k, g2, hk, rfl, hf, hC⟩ := hrel
                by_cases hlt : k < ts.length
                · obtain ⟨t, ht⟩ := tr_at hlt
                  have htin := hfit t (List.mem_of_getElem? ht)
                  have hnx := all_next (trapI ls bs.length) ht
                  obtain ⟨at_, q, _, e1⟩ := (ReadsT.below hrt (hB1.trans (hC.hB.mono hB1.size))).at_ ht
                  first | subst q | (injection q with q; subst q)
                  obtain ⟨a0, a1, a2, a3⟩ := e1
                  replace hf := Lib.hid hf
                  replace hnx := Lib.hid hnx
                  replace ht := Lib.hid ht
                  go_wp2_with fail
                  have hT := Blk.new wr 63 #[.int .i64 t.fr, .int .i64 t.to_, .int .i64 t.hd, .int .i64 t.ty]
                  have hTne : wr.heap.size ≠ gf := Nat.ne_of_gt hC.hF.lt
                  replace hC := hC.alloc (.cells #[.int .i64 t.fr, .int .i64 t.to_, .int .i64 t.hd, .int .i64 t.ty] 63)
                  clear a0 a1 a2 a3
                  refine (is_ck hC (t.fr) htin.1).mono ?_
                  rintro _ v1 ⟨rfl, hC1, hk1⟩
                  have hT1 := hk1 _ _ _ hT hTne
                  have d2 : v1.cell? ⟨wr.heap.size, 2, none⟩ = some (.int .i64 t.hd) := hT1.cell 2
                  skip
                  go_wp2_with fail
                  replace hC := hC1
                  refine (is_ck hC (t.hd) htin.2.2.1).mono ?_
                  rintro _ v2 ⟨rfl, hC2, hk2⟩
                  have hT2 := hk2 _ _ _ hT1 hTne
                  have d1 : v2.cell? ⟨wr.heap.size, 1, none⟩ = some (.int .i64 t.to_) := hT2.cell 1
                  have d5 : v2.cell? ⟨w.heap.size, 5, none⟩ = some (.slice A bs.length c) := (hX.below hC2.hB hw1).cell 5
                  replace hC := hC2
                  by_cases hto : t.to_ = bs.length
                  · have b1 : decide (t.to_ = (bs.length : Int)) = true := by simpa using hto
                    have hff : ((g2 && (idxV ls t.fr).isSome) && (idxV ls t.hd).isSome) = (fl2 && (ts.take (k + 1)).all (trapI ls bs.length)) := by
                      rw [hf.out, hnx.out]; unfold trapI okI; rw [b1]; simp [Bool.and_assoc]
                    replace hff := Lib.hid hff
                    skip
                    go_wp2_with fail
                    exact ⟨⟨k + 1, _, by omega, by go_num, hff.out, hC⟩, by simp [intOf]; omega⟩
                  · have b1 : decide (t.to_ = (bs.length : Int)) = false := by simpa using hto
                    have hff : (((g2 && (idxV ls t.fr).isSome) && (idxV ls t.hd).isSome) && (idxV ls t.to_).isSome) = (fl2 && (ts.take (k + 1)).all (trapI ls bs.length)) := by
                      rw [hf.out, hnx.out]; unfold trapI okI; rw [b1]; simp [Bool.and_assoc]
                    replace hff := Lib.hid hff
                    skip
                    go_wp2_with fail
                    refine (is_ck hC (t.to_) htin.2.1).mono ?_
                    rintro _ v3 ⟨rfl, hC3, hk3⟩
                    skip
                    go_wp2_with fail
                    exact ⟨⟨k + 1, _, by omega, by go_num, hff.out, hC3⟩, by simp [intOf]; omega⟩
                · obtain rfl : k = ts.length := by omega
                  rw [List.take_length] at hf
                  have cf : wr.cell? ⟨gf, 0, none⟩ = some (.bool g2) := hC.hF.cell 0
                  have hBw : Below w.heap.size w wr := hB1.trans (hC.hB.mono hB1.size)
                  have hch : g2 = chB ls bs.length ts := by rw [hf, hfl.out]; rfl
                  replace hch := Lib.hid hch
                  clear hf
                  cases g2 with
                  | true =>
                    go_wp2_with fail
                    try rw [Exit.noGoto_ret]
                    go_ret2
                    have e1 : chE bs ts = 0 := by unfold chE; rw [if_pos he.out, hls.out, ← hch.out, if_pos rfl]
                    have e2 : chL bs ts = ls := by unfold chL; rw [if_pos e1, hls.out]
                    rw [e1, e2]
                    exact ⟨_, _, rfl, (ReadsI.below hr1 hC.hB).more hC.hB.size, hlc1, hm1, hBw⟩
                  | false =>
                    go_wp2_with fail
                    try rw [Exit.noGoto_ret]
                    go_ret2
                    have e1 : chE bs ts = 70 := by unfold chE; rw [if_pos he.out, hls.out, ← hch.out, if_neg (by decide)]
                    have e2 : chL bs ts = [] := by unfold chL; rw [e1, if_neg (by decide)]
                    rw [e1, e2]
                    exact ⟨none, 0, rfl, ReadsI.nil_ _ _, Nat.le_refl _, Nat.zero_le _, hBw⟩
        · obtain rfl : k = ls.length := by omega
          rw [List.take_length] at hf
          have hfl : Hid (fl = (fineI ls && ls.all (jumpI ls))) := Lib.hid hf
          clear hf
          have cm : wr.cell? ⟨w.heap.size, 6, none⟩ = some (.slice At_ ts.length ct) := (hX.below hC.hB hw1).cell 6
          go_wp2_with fail
          go_loopw [61] (fun i wr => ∃ (k : Nat) (g2 : Bool), k ≤ ts.length ∧ i = .int .i64 k ∧ g2 = (fl && (ts.take k).all (trapI ls bs.length)) ∧ Ck w1 ls gb gf g2 wr) (fun i _ => ts.length - (intOf i).toNat)
          case atStart => exact ⟨0, fl, Nat.zero_le _, rfl, by simp, hC⟩
          case round =>
            clear cm hC
            obtain ⟨k, g2, hk, rfl, hf, hC⟩ := hrel
            by_cases hlt : k < ts.length
            · obtain ⟨t, ht⟩ := tr_at hlt
              have htin := hfit t (List.mem_of_getElem? ht)
              have hnx := all_next (trapI ls bs.length) ht
              obtain ⟨at_, q, _, e1⟩ := (ReadsT.below hrt (hB1.trans (hC.hB.mono hB1.size))).at_ ht
              first | subst q | (injection q with q; subst q)
              obtain ⟨a0, a1, a2, a3⟩ := e1
              replace hf := Lib.hid hf
              replace hnx := Lib.hid hnx
              replace ht := Lib.hid ht
              go_wp2_with fail
              have hT := Blk.new wr 63 #[.int .i64 t.fr, .int .i64 t.to_, .int .i64 t.hd, .int .i64 t.ty]
              have hTne : wr.heap.size ≠ gf := Nat.ne_of_gt hC.hF.lt
              replace hC := hC.alloc (.cells #[.int .i64 t.fr, .int .i64 t.to_, .int .i64 t.hd, .int .i64 t.ty] 63)
              clear a0 a1 a2 a3
              refine (is_ck hC (t.fr) htin.1).mono ?_
              rintro _ v1 ⟨rfl, hC1, hk1⟩
              have hT1 := hk1 _ _ _ hT hTne
              have d2 : v1.cell? ⟨wr.heap.size, 2, none⟩ = some (.int .i64 t.hd) := hT1.cell 2
              skip
              go_wp2_with fail
              replace hC := hC1
              refine (is_ck hC (t.hd) htin.2.2.1).mono ?_
              rintro _ v2 ⟨rfl, hC2, hk2⟩
              have hT2 := hk2 _ _ _ hT1 hTne
              have d1 : v2.cell? ⟨wr.heap.size, 1, none⟩ = some (.int .i64 t.to_) := hT2.cell 1
              have d5 : v2.cell? ⟨w.heap.size, 5, none⟩ = some (.slice A bs.length c) := (hX.below hC2.hB hw1).cell 5
              replace hC := hC2
              by_cases hto : t.to_ = bs.length
              · have b1 : decide (t.to_ = (bs.length : Int)) = true := by simpa using hto
                have hff : ((g2 && (idxV ls t.fr).isSome) && (idxV ls t.hd).isSome) = (fl && (ts.take (k + 1)).all (trapI ls bs.length)) := by
                  rw [hf.out, hnx.out]; unfold trapI okI; rw [b1]; simp [Bool.and_assoc]
                replace hff := Lib.hid hff
                skip
                go_wp2_with fail
                exact ⟨⟨k + 1, _, by omega, by go_num, hff.out, hC⟩, by simp [intOf]; omega⟩
              · have b1 : decide (t.to_ = (bs.length : Int)) = false := by simpa using hto
                have hff : (((g2 && (idxV ls t.fr).isSome) && (idxV ls t.hd).isSome) && (idxV ls t.to_).isSome) = (fl && (ts.take (k + 1)).all (trapI ls bs.length)) := by
                  rw [hf.out, hnx.out]; unfold trapI okI; rw [b1]; simp [Bool.and_assoc]
                replace hff := Lib.hid hff
                skip
                go_wp2_with fail
                refine (is_ck hC (t.to_) htin.2.1).mono ?_
                rintro _ v3 ⟨rfl, hC3, hk3⟩
                skip
                go_wp2_with fail
                exact ⟨⟨k + 1, _, by omega, by go_num, hff.out, hC3⟩, by simp [intOf]; omega⟩
            · obtain rfl : k = ts.length := by omega
              rw [List.take_length] at hf
              have cf : wr.cell? ⟨gf, 0, none⟩ = some (.bool g2) := hC.hF.cell 0
              have hBw : Below w.heap.size w wr := hB1.trans (hC.hB.mono hB1.size)
              have hch : g2 = chB ls bs.length ts := by rw [hf, hfl.out]; rfl
              replace hch := Lib.hid hch
              clear hf
              cases g2 with
              | true =>
                go_wp2_with fail
                try rw [Exit.noGoto_ret]
                go_ret2
                have e1 : chE bs ts = 0 := by unfold chE; rw [if_pos he.out, hls.out, ← hch.out, if_pos rfl]
                have e2 : chL bs ts = ls := by unfold chL; rw [if_pos e1, hls.out]
                rw [e1, e2]
                exact ⟨_, _, rfl, (ReadsI.below hr1 hC.hB).more hC.hB.size, hlc1, hm1, hBw⟩
              | false =>
                go_wp2_with fail
                try rw [Exit.noGoto_ret]
                go_ret2
                have e1 : chE bs ts = 70 := by unfold chE; rw [if_pos he.out, hls.out, ← hch.out, if_neg (by decide)]
                have e2 : chL bs ts = [] := by unfold chL; rw [e1, if_neg (by decide)]
                rw [e1, e2]
                exact ⟨none, 0, rfl, ReadsI.nil_ _ _, Nat.le_refl _, Nat.zero_le _, hBw⟩
  · have he0 := he
    have hnone := list_none he
    rw [hnone] at hlp
    have e1 : chE bs ts = listE bs := by unfold chE; rw [if_neg he]
    have e2 : chL bs ts = [] := by unfold chL; rw [e1, if_neg he]
    rw [e1, e2]
    clear e1 e2 hnone
    generalize listE bs = code at *
    have b1 : decide (code = 0) = false := by simpa using he
    go_enter Try.func32, Try.ntmps32
    go_wp2_with fail
    go_step3
    go_wp2_with fail
    refine hlp.out.mono ?_
    rintro _ w1 ⟨A1, c1, rfl, hr1, hlc1, hm1, hb1⟩
    go_wp2_with fail
    try rw [Exit.noGoto_ret]
    go_ret2
    exact ⟨none, 0, rfl, ReadsI.nil_ _ _, Nat.le_refl _, Nat.zero_le _, hW0.trans (hb1.mono hW0.size)⟩
end Go.Proofs.Ytcinmgifadmbeaa
