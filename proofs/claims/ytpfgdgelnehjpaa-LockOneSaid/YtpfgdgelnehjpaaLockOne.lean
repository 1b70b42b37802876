/- LockOne: at most one thread owns a monitor. -/
import Derived.Test.YtpfgdgelnehjpaaLockP
import Derived.Test.YtpfgdgelnehjpaaLockA
import Derived.Test.YtpfgdgelnehjpaaLockV
import Derived.Test.YtpfgdgelnehjpaaLockB
import Derived.Test.YtpfgdgelnehjpaaOpenL
import Derived.Deep.RegionHeldLaw
import Derived.Test.YtpfgdgelnehjpaaHead
import Derived.Test.YtpfgdgelnehjpaaOpenG
import Derived.Deep.RegionHeld3
import Derived.Lib.SmallJoins
import Derived.ProofKit
import Derived.OpenShut
import Derived.ShutString
import Derived.ChangeOld
import Derived.Laws.StructEq
namespace Go.Proofs.Ytpfgdgelnehjpaa.LockOneP
open Go.ChangeShapes Go.WideShapes Go.ChangeAt Go.RowKit
open Go.ChangeMaps (open_string shut_string)
set_option linter.unusedVariables false

theorem own : ownKnob Try.prog.godebug = none := by kernel_rfl
theorem laidOut : laidOutB Try.prog = true := by kernel_rfl
theorem bnext {a b c : World} (h : Below a.heap.size a b) (k : Below b.heap.size b c) : Below a.heap.size a c := h.trans (k.mono h.size)

theorem enterS_own (s : Int → Mon) (r t : Int) (hf : freeM (s r) t = true) : enterS s r t r = ⟨t, (s r).cnt + 1, (s r).row⟩ := by
  unfold enterS
  rw [if_pos hf, updM_at]
theorem enterS_not (s : Int → Mon) (r t : Int) (hf : freeM (s r) t = false) : enterS s r t = s := by
  unfold enterS
  rw [if_neg (by rw [hf]; decide)]
set_option maxRecDepth 100000 in
set_option maxHeartbeats 40000000 in
theorem walk (A0 : Option Addr) (n0 c0 : Nat) (os : List LOp) (r t other : Int) (w : World) (h0 : os.length = n0 ∧ n0 ≤ c0 ∧ c0 ≤ maxLen ∧ ScriptL w w.heap.size A0 os ∧ ∀ o ∈ os, in64L o.r ∧ in64L o.t) (hcap : c0 * 32 ≤ 140737488351232) (wr : (Lit.int .i64 r).wf = true) (wt : (Lit.int .i64 t).wf = true) (wo : (Lit.int .i64 other).wf = true) :
    Calls Try.prog 7 #[.slice A0 n0 c0, .int .i64 r, .int .i64 t, .int .i64 other] w fun e w' => e = .returned (.bool true) ∧ Below w.heap.size w w' := by
  obtain ⟨rfl, hlc, hm, hSc, hIn⟩ := h0
  have hlen : os.length < 4398046511104 := by omega
  have fr : fit64 r := in64L_wf wr
  clear hcap
  go_enter Try.func7, Try.ntmps7
  go_wp2_with fail
  refine (new_any _).mono ?_
  rintro _ w1 ⟨rfl, hL1, hb1⟩
  go_wp2_with fail
  go_loopw [10] (fun i wr => ∃ k : Nat, k ≤ os.length ∧ i = .int .i64 k ∧ ∃ S, LS wr (w.heap.size + 1) w.heap.size k S ∧ Below w.heap.size w wr) (fun i _ => os.length - (intOf i).toNat)
  case atStart => exact ⟨0, by omega, rfl, _, hL1, hb1⟩
  case round =>
    obtain ⟨k, hk, rfl, S, hL, hB⟩ := hrel
    have hsz := hL.blk.lt
    by_cases hlt : k < os.length
    · have b1 : decide ((k : Int) < (os.length : Int)) = true := decide_eq_true (by omega)
      obtain ⟨ad, rfl, hlo, d0, d1, d2, d3⟩ := hSc k os[k] (List.getElem?_eq_getElem hlt)
      obtain ⟨in1, in2⟩ := hIn os[k] (List.getElem_mem hlt)
      generalize os[k] = o at *
      obtain ⟨ow, or_, ot, oa⟩ := o
      dsimp only at d0 d1 d2 d3 in1 in2
      replace in1 : fit64 or_ := in1
      have hpb : (ad.add (k * 4)).block < w.heap.size := by rw [block_of_add]; exact hlo
      have hpb1 : ((ad.add (k * 4)).add 1).block < w.heap.size := by rw [block_of_add]; exact hpb
      have hpb2 : ((ad.add (k * 4)).add 2).block < w.heap.size := by rw [block_of_add]; exact hpb
      have hpb3 : ((ad.add (k * 4)).add 3).block < w.heap.size := by rw [block_of_add]; exact hpb
      replace d0 := (hB.cell hpb).trans d0
      replace d1 : wr.cell? { block := (ad.add (k * 4)).block, off := (ad.add (k * 4)).off + 1 } = some (.int .i64 or_) := (hB.cell (p := ⟨_, _, none⟩) hpb).trans d1
      replace d2 : wr.cell? { block := (ad.add (k * 4)).block, off := (ad.add (k * 4)).off + 2 } = some (.int .i64 ot) := (hB.cell (p := ⟨_, _, none⟩) hpb).trans d2
      replace d3 : wr.cell? { block := (ad.add (k * 4)).block, off := (ad.add (k * 4)).off + 3 } = some (.bool oa) := (hB.cell (p := ⟨_, _, none⟩) hpb).trans d3
      have hba : Below wr.heap.size wr (wr.alloc (.cells #[.int .i64 ow, .int .i64 or_, .int .i64 ot, .bool oa] 72)) := (Below.refl _ _).alloc (Nat.le_refl _) _
      have hLa := hL.below hba
      have hBa := hB.trans (hba.mono hB.size)
      clear hpb hpb1 hpb2 hpb3 hsz
      by_cases hw0 : ow = 0
      · subst hw0
        have g := Lib.hid (enter_any (w.heap.size + 1) w.heap.size k S or_ ot  in1 _ hLa (by omega))
        go_wp2_with fail
        refine g.out.mono ?_
        rintro _ w3 ⟨rfl, hL3, hg3⟩
        have hB3 := hBa.grown hg3 hBa.size (fun j e => by injection e with e; omega)
        go_wp2_with fail
        exact ⟨⟨k + 1, by omega, by go_num, _, hL3, hB3⟩, by simp [intOf]; omega⟩
      · have q0 : (ow == 0) = false := by simpa using hw0
        by_cases hw1 : ow = 1
        · subst hw1
          clear hw0
          have g := Lib.hid (exit_any (w.heap.size + 1) w.heap.size k S or_ ot  in1 _ hLa (by omega))
          go_wp2_with fail
          refine g.out.mono ?_
          rintro _ w3 ⟨rfl, hL3, hg3⟩
          have hB3 := hBa.grown hg3 hBa.size (fun j e => by injection e with e; omega)
          go_wp2_with fail
          exact ⟨⟨k + 1, by omega, by go_num, _, hL3, hB3⟩, by simp [intOf]; omega⟩
        · have q1 : (ow == 1) = false := by simpa using hw1
          by_cases hw2 : ow = 2
          · subst hw2
            clear hw0 hw1
            have g := Lib.hid (wait_any (w.heap.size + 1) w.heap.size k S or_ ot  in1 _ hLa (by omega))
            go_wp2_with fail
            refine g.out.mono ?_
            rintro _ w3 ⟨rfl, hL3, hg3⟩
            have hB3 := hBa.grown hg3 hBa.size (fun j e => by injection e with e; omega)
            go_wp2_with fail
            exact ⟨⟨k + 1, by omega, by go_num, _, hL3, hB3⟩, by simp [intOf]; omega⟩
          · have q2 : (ow == 2) = false := by simpa using hw2
            by_cases hw3 : ow = 3
            · subst hw3
              clear hw0 hw1 hw2
              have g := Lib.hid (tell_any (w.heap.size + 1) w.heap.size k S or_ ot oa in1 _ hLa (by omega))
              go_wp2_with fail
              refine g.out.mono ?_
              rintro _ w3 ⟨A3, c3, rfl, hr3, hlc3, hmc3, hL3, hg3⟩
              have hB3 := hBa.grown hg3 hBa.size (fun j e => by injection e with e; omega)
              go_wp2_with fail
              exact ⟨⟨k + 1, by omega, by go_num, _, hL3, hB3⟩, by simp [intOf]; omega⟩
            · have q3 : (ow == 3) = false := by simpa using hw3
              clear hw0 hw1 hw2 hw3
              have g := Lib.hid (back_any (w.heap.size + 1) w.heap.size k S or_ ot  in1 _ hLa (by omega))
              go_wp2_with fail
              refine g.out.mono ?_
              rintro _ w3 ⟨rfl, hL3, hg3⟩
              have hB3 := hBa.grown hg3 hBa.size (fun j e => by injection e with e; omega)
              go_wp2_with fail
              exact ⟨⟨k + 1, by omega, by go_num, _, hL3, hB3⟩, by simp [intOf]; omega⟩
    · obtain rfl : k = os.length := by omega
      have b1 : decide ((os.length : Int) < (os.length : Int)) = false := decide_eq_false (by omega)
      have b2 : decide (os.length < os.length) = false := decide_eq_false (by omega)
      clear hlt hk
      have go := Lib.hid (owner_any (w.heap.size + 1) w.heap.size _ S r fr wr hL)
      have gf := fun t u hu => Lib.hid (free_any (w.heap.size + 1) w.heap.size os.length S r t fr u hu)
      have ge := fun u hu => Lib.hid (enter_any (w.heap.size + 1) w.heap.size os.length S r t fr u hu (by omega))
      have go2 := fun u hu => Lib.hid (owner_any (w.heap.size + 1) w.heap.size (os.length + 1) (enterS S r t) r fr u hu)
      have gx := fun u hu => Lib.hid (exit_any (w.heap.size + 1) w.heap.size (os.length + 1) (enterS S r t) r t fr u hu (by omega))
      have hbd := (hL.bd r).cnt
      by_cases hc : (S r).cnt = 0
      · have f1 : ∀ t, freeM (S r) t = true := fun t => by unfold freeM; rw [hc]; rfl
        have f2 := enterS_own S r t (f1 t)
        rw [hc] at f2
        have f3 : ownI (S r) = -1 := if_pos hc
        have f4 : ownI (enterS S r t r) = t := by rw [f2]; rfl
        have f5 : (enterS S r t r).cnt = 1 := by rw [f2]; rfl
        have f6 : ownE (enterS S r t r) t = 0 := by rw [f2]; simp [ownE]
        simp only [f1] at gf ge
        rw [f3, hc] at go
        simp only [f4, f5] at go2
        simp only [f6] at gx
        clear f1 f2 f3 f4 f5 f6 hc hbd
        have gft := fun u hu => gf t u hu
        have gfo := fun u hu => gf other u hu
        clear gf
        by_cases hto : t = other
        · subst hto
          go_wp2_with fail
          refine go.out.mono ?_
          rintro _ w2 ⟨rfl, m2, rfl⟩
          have hL2 := hL.drewN m2
          have hB2 := below_drewN hB m2
          generalize wr.drewN m2 = w2 at *
          go_wp2_with fail
          refine (gft w2 hL2).out.mono ?_
          rintro _ w3 ⟨rfl, m3, rfl⟩
          have hL3 := hL2.drewN m3
          have hB3 := below_drewN hB2 m3
          generalize w2.drewN m3 = w3 at *
          go_wp2_with fail
          refine (gfo w3 hL3).out.mono ?_
          rintro _ w4 ⟨rfl, m4, rfl⟩
          have hL4 := hL3.drewN m4
          have hB4 := below_drewN hB3 m4
          generalize w3.drewN m4 = w4 at *
          go_wp2_with fail
          refine (ge w4 hL4).out.mono ?_
          rintro _ w5 ⟨rfl, hL5, hg5⟩
          have hB5 := hB4.grown hg5 hB4.size (fun j e => by injection e with e; omega)
          go_wp2_with fail
          refine (go2 w5 hL5).out.mono ?_
          rintro _ w6 ⟨rfl, m6, rfl⟩
          have hL6 := hL5.drewN m6
          have hB6 := below_drewN hB5 m6
          generalize w5.drewN m6 = w6 at *
          go_wp2_with fail
          refine (gx w6 hL6).out.mono ?_
          rintro _ w7 ⟨rfl, hL7, hg7⟩
          have hB7 := hB6.grown hg7 hB6.size (fun j e => by injection e with e; omega)
          go_wp2_with fail
          go_ret
          exact ⟨rfl, hB7⟩
        · have q1 : decide (t = other) = false := decide_eq_false hto
          have q2 : (t == other) = false := by simpa using hto
          have q5 : (t != other) = true := by simpa using hto
          go_wp2_with fail
          refine go.out.mono ?_
          rintro _ w2 ⟨rfl, m2, rfl⟩
          have hL2 := hL.drewN m2
          have hB2 := below_drewN hB m2
          generalize wr.drewN m2 = w2 at *
          go_wp2_with fail
          refine (gft w2 hL2).out.mono ?_
          rintro _ w3 ⟨rfl, m3, rfl⟩
          have hL3 := hL2.drewN m3
          have hB3 := below_drewN hB2 m3
          generalize w2.drewN m3 = w3 at *
          go_wp2_with fail
          refine (gfo w3 hL3).out.mono ?_
          rintro _ w4 ⟨rfl, m4, rfl⟩
          have hL4 := hL3.drewN m4
          have hB4 := below_drewN hB3 m4
          generalize w3.drewN m4 = w4 at *
          go_wp2_with fail
          refine (ge w4 hL4).out.mono ?_
          rintro _ w5 ⟨rfl, hL5, hg5⟩
          have hB5 := hB4.grown hg5 hB4.size (fun j e => by injection e with e; omega)
          go_wp2_with fail
          refine (go2 w5 hL5).out.mono ?_
          rintro _ w6 ⟨rfl, m6, rfl⟩
          have hL6 := hL5.drewN m6
          have hB6 := below_drewN hB5 m6
          generalize w5.drewN m6 = w6 at *
          go_wp2_with fail
          refine (gx w6 hL6).out.mono ?_
          rintro _ w7 ⟨rfl, hL7, hg7⟩
          have hB7 := hB6.grown hg7 hB6.size (fun j e => by injection e with e; omega)
          go_wp2_with fail
          go_ret
          exact ⟨rfl, hB7⟩
      · by_cases ht : (S r).own = t
        · have f1 : freeM (S r) t = true := by unfold freeM; rw [ht]; simp
          have f2 := enterS_own S r t f1
          have f3 : ownI (S r) = t := (if_neg hc).trans ht
          have f4 : ownI (enterS S r t r) = t := by rw [f2]; exact if_neg (by show ¬ (S r).cnt + 1 = 0; omega)
          have f5 : (enterS S r t r).cnt = (S r).cnt + 1 := by rw [f2]
          have f6 : ownE (enterS S r t r) t = 0 := by rw [f2]; simp [ownE]; omega
          have f7 : freeM (S r) other = decide (t = other) := by unfold freeM; rw [ht]; simp [hc]
          have gft := fun u hu => gf t u hu
          have gfo := fun u hu => gf other u hu
          simp only [f1] at gft ge
          simp only [f7] at gfo
          rw [f3] at go
          simp only [f4, f5] at go2
          simp only [f6] at gx
          clear f1 f2 f3 f4 f5 f6 f7 ht gf
          generalize hcc : (S r).cnt = cc at *
          replace hcc := Lib.hid hcc
          have p1 : decide (cc > 0) = true := decide_eq_true (by omega)
          have p2 : decide (0 < cc) = true := decide_eq_true (by omega)
          have p3 : (cc == 0) = false := by simpa using hc
          by_cases hto : t = other
          · subst hto
            simp only [decide_true] at gfo
            go_wp2_with fail
            refine go.out.mono ?_
            rintro _ w2 ⟨rfl, m2, rfl⟩
            have hL2 := hL.drewN m2
            have hB2 := below_drewN hB m2
            generalize wr.drewN m2 = w2 at *
            go_wp2_with fail
            refine (gft w2 hL2).out.mono ?_
            rintro _ w3 ⟨rfl, m3, rfl⟩
            have hL3 := hL2.drewN m3
            have hB3 := below_drewN hB2 m3
            generalize w2.drewN m3 = w3 at *
            go_wp2_with fail
            refine (gfo w3 hL3).out.mono ?_
            rintro _ w4 ⟨rfl, m4, rfl⟩
            have hL4 := hL3.drewN m4
            have hB4 := below_drewN hB3 m4
            generalize w3.drewN m4 = w4 at *
            go_wp2_with fail
            refine (ge w4 hL4).out.mono ?_
            rintro _ w5 ⟨rfl, hL5, hg5⟩
            have hB5 := hB4.grown hg5 hB4.size (fun j e => by injection e with e; omega)
            go_wp2_with fail
            refine (go2 w5 hL5).out.mono ?_
            rintro _ w6 ⟨rfl, m6, rfl⟩
            have hL6 := hL5.drewN m6
            have hB6 := below_drewN hB5 m6
            generalize w5.drewN m6 = w6 at *
            go_wp2_with fail
            refine (gx w6 hL6).out.mono ?_
            rintro _ w7 ⟨rfl, hL7, hg7⟩
            have hB7 := hB6.grown hg7 hB6.size (fun j e => by injection e with e; omega)
            go_wp2_with fail
            go_ret
            exact ⟨rfl, hB7⟩
          · have q1 : decide (t = other) = false := decide_eq_false hto
            have q2 : (t == other) = false := by simpa using hto
            have q5 : (t != other) = true := by simpa using hto
            simp only [q1] at gfo
            go_wp2_with fail
            refine go.out.mono ?_
            rintro _ w2 ⟨rfl, m2, rfl⟩
            have hL2 := hL.drewN m2
            have hB2 := below_drewN hB m2
            generalize wr.drewN m2 = w2 at *
            go_wp2_with fail
            refine (gft w2 hL2).out.mono ?_
            rintro _ w3 ⟨rfl, m3, rfl⟩
            have hL3 := hL2.drewN m3
            have hB3 := below_drewN hB2 m3
            generalize w2.drewN m3 = w3 at *
            go_wp2_with fail
            refine (gfo w3 hL3).out.mono ?_
            rintro _ w4 ⟨rfl, m4, rfl⟩
            have hL4 := hL3.drewN m4
            have hB4 := below_drewN hB3 m4
            generalize w3.drewN m4 = w4 at *
            go_wp2_with fail
            refine (ge w4 hL4).out.mono ?_
            rintro _ w5 ⟨rfl, hL5, hg5⟩
            have hB5 := hB4.grown hg5 hB4.size (fun j e => by injection e with e; omega)
            go_wp2_with fail
            refine (go2 w5 hL5).out.mono ?_
            rintro _ w6 ⟨rfl, m6, rfl⟩
            have hL6 := hL5.drewN m6
            have hB6 := below_drewN hB5 m6
            generalize w5.drewN m6 = w6 at *
            go_wp2_with fail
            refine (gx w6 hL6).out.mono ?_
            rintro _ w7 ⟨rfl, hL7, hg7⟩
            have hB7 := hB6.grown hg7 hB6.size (fun j e => by injection e with e; omega)
            go_wp2_with fail
            go_ret
            exact ⟨rfl, hB7⟩
        · have f1 : freeM (S r) t = false := by unfold freeM; simp [hc, ht]
          have f2 := enterS_not S r t f1
          have f3 : ownI (S r) = (S r).own := if_neg hc
          have f7 : freeM (S r) other = decide ((S r).own = other) := by unfold freeM; simp [hc]
          have gft := fun u hu => gf t u hu
          have gfo := fun u hu => gf other u hu
          simp only [f1, f2] at gft ge go2 gx
          simp only [f7] at gfo
          rw [f3] at go
          simp only [f3] at go2
          clear f1 f2 f3 f7 gx gf
          generalize hcc : (S r).cnt = cc at *
          replace hcc := Lib.hid hcc
          generalize hoo : (S r).own = oo at *
          replace hoo := Lib.hid hoo
          have p1 : decide (cc > 0) = true := decide_eq_true (by omega)
          have p2 : decide (0 < cc) = true := decide_eq_true (by omega)
          have p3 : (cc == 0) = false := by simpa using hc
          have p4 : (oo == t) = false := by simpa using ht
          by_cases hto : oo = other
          · subst hto
            have p5 : (t == oo) = false := by simpa using fun e => ht e.symm
            have p6 : (t != oo) = true := by simpa using fun e => ht e.symm
            simp only [decide_true] at gfo
            go_wp2_with fail
            refine go.out.mono ?_
            rintro _ w2 ⟨rfl, m2, rfl⟩
            have hL2 := hL.drewN m2
            have hB2 := below_drewN hB m2
            generalize wr.drewN m2 = w2 at *
            go_wp2_with fail
            refine (gft w2 hL2).out.mono ?_
            rintro _ w3 ⟨rfl, m3, rfl⟩
            have hL3 := hL2.drewN m3
            have hB3 := below_drewN hB2 m3
            generalize w2.drewN m3 = w3 at *
            go_wp2_with fail
            refine (gfo w3 hL3).out.mono ?_
            rintro _ w4 ⟨rfl, m4, rfl⟩
            have hL4 := hL3.drewN m4
            have hB4 := below_drewN hB3 m4
            generalize w3.drewN m4 = w4 at *
            go_wp2_with fail
            refine (ge w4 hL4).out.mono ?_
            rintro _ w5 ⟨rfl, hL5, hg5⟩
            have hB5 := hB4.grown hg5 hB4.size (fun j e => by injection e with e; omega)
            go_wp2_with fail
            refine (go2 w5 hL5).out.mono ?_
            rintro _ w6 ⟨rfl, m6, rfl⟩
            have hL6 := hL5.drewN m6
            have hB6 := below_drewN hB5 m6
            generalize w5.drewN m6 = w6 at *
            go_wp2_with fail
            go_ret
            exact ⟨rfl, hB6⟩
          · have q1 : decide (oo = other) = false := decide_eq_false hto
            have q2 : (oo == other) = false := by simpa using hto
            simp only [q1] at gfo
            by_cases hto2 : t = other
            · subst hto2
              go_wp2_with fail
              refine go.out.mono ?_
              rintro _ w2 ⟨rfl, m2, rfl⟩
              have hL2 := hL.drewN m2
              have hB2 := below_drewN hB m2
              generalize wr.drewN m2 = w2 at *
              go_wp2_with fail
              refine (gft w2 hL2).out.mono ?_
              rintro _ w3 ⟨rfl, m3, rfl⟩
              have hL3 := hL2.drewN m3
              have hB3 := below_drewN hB2 m3
              generalize w2.drewN m3 = w3 at *
              go_wp2_with fail
              refine (gfo w3 hL3).out.mono ?_
              rintro _ w4 ⟨rfl, m4, rfl⟩
              have hL4 := hL3.drewN m4
              have hB4 := below_drewN hB3 m4
              generalize w3.drewN m4 = w4 at *
              go_wp2_with fail
              refine (ge w4 hL4).out.mono ?_
              rintro _ w5 ⟨rfl, hL5, hg5⟩
              have hB5 := hB4.grown hg5 hB4.size (fun j e => by injection e with e; omega)
              go_wp2_with fail
              refine (go2 w5 hL5).out.mono ?_
              rintro _ w6 ⟨rfl, m6, rfl⟩
              have hL6 := hL5.drewN m6
              have hB6 := below_drewN hB5 m6
              generalize w5.drewN m6 = w6 at *
              go_wp2_with fail
              go_ret
              exact ⟨rfl, hB6⟩
            · have q3 : (t == other) = false := by simpa using hto2
              have q5 : (t != other) = true := by simpa using hto2
              go_wp2_with fail
              refine go.out.mono ?_
              rintro _ w2 ⟨rfl, m2, rfl⟩
              have hL2 := hL.drewN m2
              have hB2 := below_drewN hB m2
              generalize wr.drewN m2 = w2 at *
              go_wp2_with fail
              refine (gft w2 hL2).out.mono ?_
              rintro _ w3 ⟨rfl, m3, rfl⟩
              have hL3 := hL2.drewN m3
              have hB3 := below_drewN hB2 m3
              generalize w2.drewN m3 = w3 at *
              go_wp2_with fail
              refine (gfo w3 hL3).out.mono ?_
              rintro _ w4 ⟨rfl, m4, rfl⟩
              have hL4 := hL3.drewN m4
              have hB4 := below_drewN hB3 m4
              generalize w3.drewN m4 = w4 at *
              go_wp2_with fail
              refine (ge w4 hL4).out.mono ?_
              rintro _ w5 ⟨rfl, hL5, hg5⟩
              have hB5 := hB4.grown hg5 hB4.size (fun j e => by injection e with e; omega)
              go_wp2_with fail
              refine (go2 w5 hL5).out.mono ?_
              rintro _ w6 ⟨rfl, m6, rfl⟩
              have hL6 := hL5.drewN m6
              have hB6 := below_drewN hB5 m6
              generalize w5.drewN m6 = w6 at *
              go_wp2_with fail
              go_ret
              exact ⟨rfl, hB6⟩

set_option maxRecDepth 100000 in
theorem lifted (os : Os) (started : os.Started) (H : Type) (enc : TypeId × Value → H) :
    ReturnsInHanded {} Try.checked os 7 .any (Rows.lockOneSpec.pre6 enc Try.prog Try.f7 Rows.lockOneRow.domain false) (Rows.lockOneSpec.post enc Try.prog Try.f7 false true false false) := by
  refine returnsInHanded_of_change_sized (C := Try.checked) own started (by kernel_rfl) Try.func7
    (ChangeSpec.witness6 (enc := enc) (C := Try.checked) false ⟨#[], #[.slice none 0 0, .int .i64 0, .int .i64 0, .int .i64 0], []⟩ 8 (by kernel_rfl) (by kernel_rfl) (by kernel_rfl) (by kernel_rfl)) ?_
  intro W base args ds gs before hval0 hW hcnd hsz0 _
  have hsz : (DataW.weightsEach Try.prog (Try.f7.params.toList ++ Rows.lockOneSpec.plain.varTypes Try.prog) (ds ++ gs)).all (· ≤ reachBytes) = true := hsz0
  clear hsz0
  have hval : ∀ (j : Nat) t v, Try.f7.params[j]? = some t → args[j]? = some v → Value.okWide Try.prog W .any base t v := hval0
  have hW' := hW
  obtain ⟨p, q, hA0, hV, rfl, hfz, hnd⟩ := hW
  have hA : DataW.TrodAll enc Try.prog W 0 (fun _ => true) true Try.f7.params.toList args.toList ds p := hA0
  rw [Try.params7] at hA hval hsz
  obtain ⟨v0, vs0, d0, ds0, p0, q0, hargs, rfl, rfl, h0, r0⟩ := trodAll_cons hA
  obtain ⟨v1, vs1, d1, ds1, p1, q1, rfl, rfl, rfl, h1, r1⟩ := trodAll_cons r0
  obtain ⟨v2, vs2, d2, ds2, p2, q2, rfl, rfl, rfl, h2, r2⟩ := trodAll_cons r1
  obtain ⟨v3, vs3, d3, ds3, p3, q3, rfl, rfl, rfl, h3, r3⟩ := trodAll_cons r2
  obtain ⟨rfl, rfl, rfl⟩ := trodAll_nil r3
  obtain rfl : args = #[v0, v1, v2, v3] := by cases args; simp_all
  obtain ⟨rfl, rfl⟩ := trodVars_none hV
  obtain ⟨a0, len0, cap0, rfl⟩ := okWide_slice Try.underlying70 (hval 0 70 v0 rfl rfl)
  have k0 := h0
  have lt0 : ∀ x ∈ p0, x.block < W.heap.size := by obtain ⟨m, hm⟩ := k0; exact DataW.trod_lt m _ _ _ hm
  obtain ⟨fuel0, hf0⟩ := h0
  have hg0 : DataW.trod enc Try.prog W 0 (fun _ => true) true fuel0 70 [.slice a0 len0 cap0] = some (d0, p0) := by simpa [Value.cells] using hf0
  obtain ⟨os0, w0⟩ := open_lops hg0
  have hcap0 : cap0 * 32 ≤ 140737488351232 := by
    have h1 := slice_reach (P := Try.prog) Try.underlying70 hg0 hsz (j := 0) rfl rfl
    rw [show Try.prog.bytesOf 72 = 32 from by kernel_rfl] at h1
    exact h1
  obtain ⟨x1, rfl, rfl, rfl, wx1⟩ := open_int Try.underlying3 (hval 1 3 v1 rfl rfl) h1
  obtain ⟨x2, rfl, rfl, rfl, wx2⟩ := open_int Try.underlying3 (hval 2 3 v2 rfl rfl) h2
  obtain ⟨x3, rfl, rfl, rfl, wx3⟩ := open_int Try.underlying3 (hval 3 3 v3 rfl rfl) h3
  clear hA0 hval0
  refine (walk a0 len0 cap0 os0 x1 x2 x3 W w0 hcap0 wx1 wx2 wx3).mono fun e W' ⟨he, bel⟩ => ?_
  subst he
  exact ⟨_, rfl, _, _, _, [], _, [], hW', trodAll_mk1 (shut_bool Try.underlying4 _), (trodAll_cons_mk (Below.trod laidOut (by kernel_rfl) (of_decide_eq_true (by kernel_rfl)) k0 bel lt0) (trodAll_cons_mk (shut_int Try.underlying3 wx1) (trodAll_cons_mk (shut_int Try.underlying3 wx2) (trodAll_cons_mk (shut_int Try.underlying3 wx3) trodAll_mk0)))), rfl, bel.frame _, fun h => by cases h⟩

theorem closed : joinedFacts Try.prog 7 Try.f7 Rows.lockOneSpec Rows.lockOneRow = true := by
  have h1 := mayEnter_fact
  have h2 : (Rows.lockOneRow.lifted == Try.prog.liftsFinal) = true := by rw [lifts_fact]; rfl
  have h3 : (Try.prog.make == some Rows.lockOneRow.make) = true := by rw [make_fact]; rfl
  have hfin : ∀ b : Bool, b = true → b = true := fun _ h => h
  unfold joinedFacts
  rw [h1, h2, h3]
  clear h1 h2 h3
  refine hfin _ ?_
  kernel_rfl

theorem over : Rows.lockOneRow.holds Try.pinned (OpenSpec.ofChange Rows.lockOneSpec) :=
  OpenClaim.holds_of_wide 7 Try.f7 rfl rfl rfl rfl rfl rfl rfl ⟨rfl, rfl, rfl, rfl, rfl⟩ rfl rfl rfl rfl rfl (by kernel_rfl) Try.func7 closed
    (of_decide_eq_true (by kernel_rfl)) (by unfold Func.isWrapper; first | (rw [if_pos (by decide +kernel)]; kernel_rfl) | (rw [if_neg (by decide +kernel)]; exact ⟨rfl, rfl⟩))
    (fun os started H enc _ => lifted os started H enc)

/-- The statement. -/
theorem proved : Rows.LockOneSaid := over
#print axioms proved

end Go.Proofs.Ytpfgdgelnehjpaa.LockOneP
