/- LockRow: threads that wait are told in the order in which they began to. -/
import Derived.Test.YtpfgdgelnehjpaaLockP
import Derived.Test.YtpfgdgelnehjpaaLockA
import Derived.Test.YtpfgdgelnehjpaaLockV
import Derived.Deep.RegionHeldLaw
import Derived.Test.YtpfgdgelnehjpaaHead
import Derived.Test.YtpfgdgelnehjpaaOpenG
import Derived.Deep.RegionHeld3
import Derived.Lib.SmallJoins
import Derived.ProofKit
import Derived.OpenShut
import Derived.ShutString
import Derived.ChangeOld
import Derived.Laws.StructEq
namespace Go.Proofs.Ytpfgdgelnehjpaa.LockRowP
open Go.ChangeShapes Go.WideShapes Go.ChangeAt Go.RowKit
open Go.ChangeMaps (open_string shut_string)
set_option linter.unusedVariables false

theorem own : ownKnob Try.prog.godebug = none := by kernel_rfl
theorem laidOut : laidOutB Try.prog = true := by kernel_rfl
theorem bnext {a b c : World} (h : Below a.heap.size a b) (k : Below b.heap.size b c) : Below a.heap.size a c := h.trans (k.mono h.size)

theorem wpList_appZ {ops : Array Oper} {rest : List Oper} {o : Oper} {a : Act} {Q : Exit → Act → World → Prop} (w : World) (hgd : o.guard = none) (s x : Operand)
    (ho : o.op = .call { callee := .builtin .append, args := #[s, x], argTypes := #[38, 38] })
    (base : Nat) (v : Value) (xs : List Int) (hs : a.eval s = v) (hown : OwnZ w base v xs)
    (B : Nat) (A : Option Addr) (m c : Nat) (ys : List Int) (hx : a.eval x = .slice A m c) (hr : ReadsZ w B A ys) (hm : m = ys.length)
    (zs : List Int) (n' : Nat) (hz : xs ++ ys = zs) (hn : zs.length = n')
    (hb : n' ≤ 17592186044416) (hbase : base ≤ w.heap.size)
    (h : ∀ A' c' w', OwnZ w' base (.slice A' n' c') zs → w.grownBy w' v.ownBlock → wpList Try.prog ops Q rest (a.put o.dst (.slice A' n' c')) w') : wpList Try.prog ops Q (o :: rest) a w := by
  subst hm
  subst hz
  rw [List.length_append] at hn
  subst hn
  obtain ⟨i0, hi0, hz0, hz1, hz2⟩ := info_parts infoZ
  refine wpList_app (P := Try.prog) w hgd s x 38 ho base 3 i0 _ 1 8 Try.underlying38 hi0 hz0 hz1 hz2 rfl (by omega) v xs.length (cellsOf .i64 xs) hs hown B A ys.length c (cellsOf .i64 ys) hx hr cellsOf_one
    (by unfold maxLen; omega) (by omega) hbase fun A' c' w' h1 h2 h3 => h A' c' w' ?_ h2
  unfold OwnZ
  have e : cellsOf .i64 (xs ++ ys) = cellsOf .i64 xs ++ cellsOf .i64 ys := List.map_append
  rw [List.length_append, e]
  exact h1
theorem ReadsZ.more {w w' : World} {B : Nat} {A : Option Addr} {xs : List Int} (h : ReadsZ w B A xs) (hb : Below w.heap.size w w') (hB : B = w.heap.size) : ReadsZ w' w'.heap.size A xs := by
  subst hB
  exact Reads.more (Reads.below h hb) hb.size
theorem ints_two (l : List Int) (N : Nat) (hN : l.length = N) (hl : N ≤ maxLen) (A1 A2 : Option Addr) (c1 c2 : Nat) (w : World) (B1 B2 : Nat) (h1 : ReadsZ w B1 A1 l) (h2 : ReadsZ w B2 A2 l) :
    Calls Try.prog 20 #[.slice A1 N c1, .slice A2 N c2] w fun e w' => e = .returned (.bool true) ∧ ∃ n, w' = w.drewN n := by
  subst hN
  exact ints_any A1 A2 c1 c2 l w B1 B2 h1 h2 hl
theorem take_next {l : List Int} {k : Nat} (h : k < l.length) : l.take k ++ [l.getD k 0] = l.take (k + 1) := by
  rw [List.take_succ_eq_append_getElem h]
  simp [List.getD, List.getElem?_eq_getElem h]

set_option maxRecDepth 100000 in
set_option maxHeartbeats 40000000 in
theorem walk (a0 : Option Addr) (len0 cap0 : Nat) (z0 : List Int) (x1 : Bool) (w : World) (h : IsRow .u8 w a0 len0 cap0 z0) :
    Calls Try.prog 4 #[.slice a0 len0 cap0, .bool x1] w fun e w' => e = .returned (.bool true) ∧ Below w.heap.size w w' := by
  obtain ⟨xs, rfl, hbx, hr, hlc, hm⟩ := h.reads
  obtain ⟨n, hn⟩ : ∃ n : Nat, n = min xs.length 50 := ⟨_, rfl⟩
  have gaw := fun w => Lib.hid (awake15 w)
  go_enter Try.func4, Try.ntmps4
  go_wp2_with fail
  refine (new_any _).mono ?_
  rintro _ w1 ⟨rfl, hL1, hb1⟩
  go_wp2_with fail
  go_loopw [7, 6] (fun i s wr => ∃ k : Nat, k ≤ n ∧ i = .int .i64 k ∧ ∃ A c, s = .slice A k c ∧ OwnZ wr (w.heap.size + 2) s (xs.take k) ∧ Below w.heap.size w wr ∧ ∃ S, LS wr (w.heap.size + 1) w.heap.size (2 * k) S ∧ (S 5).cnt = 0 ∧ (S 5).row = kpW (xs.take k)) (fun i _ _ => n - (intOf i).toNat)
  case atStart => exact ⟨0, by omega, rfl, none, 0, rfl, OwnZ.nil _ _, hb1, _, hL1, rfl, rfl⟩
  case round =>
    obtain ⟨k, hk, rfl, A, c, rfl, hO, hB, S, hL, hc0, hrow⟩ := hrel
    have hsz := hL.blk.lt
    by_cases hlt : k < n
    · have b1 : decide ((k : Int) < xs.length) = true := decide_eq_true (by omega)
      have b2 : decide ((k : Int) < 50) = true := decide_eq_true (by omega)
      obtain ⟨ad, rfl, had, hcell⟩ := hr.at_ (k := k) (by omega)
      have hx := hbx.at_ k
      have hkl : k < xs.length := by omega
      have htk := take_next hkl
      generalize xs.getD k 0 = x at *
      have hle : (xs.take (k + 1)).length = k + 1 := by rw [List.length_take]; omega
      replace hle := Lib.hid hle
      replace htk := Lib.hid htk
      have c0 : wr.cell? (ad.add k) = some (.int .u8 x) := (hB.cell (by rw [block_of_add]; exact had)).trans hcell
      have hf : freeM (S 5) x = true := by unfold freeM; rw [hc0]; rfl
      have ge := enter_any (w.heap.size + 1) w.heap.size _ S 5 x (by unfold fit64; omega) wr hL (by omega)
      rw [hf] at ge
      replace ge := Lib.hid ge
      have hown := ownE_enter S 5 x hc0
      have hat := waitS_at S 5 x hc0
      rw [hrow] at hat
      generalize enterS S 5 x = S2 at *
      replace hat := Lib.hid hat
      replace hc0 := Lib.hid hc0
      replace hrow := Lib.hid hrow
      go_wp2_with fail
      refine ge.out.mono ?_
      rintro _ w2 ⟨rfl, hL2, hg2⟩
      have gt := wait_any (w.heap.size + 1) w.heap.size _ S2 5 x (by unfold fit64; omega) w2 hL2 (by omega)
      rw [hown] at gt
      replace gt := Lib.hid gt
      replace hown := Lib.hid hown
      have hO2 := hO.beside hg2 (by omega)
      have hB2 := hB.grown hg2 hB.size (fun k e => by injection e with e; omega)
      have c2 : w2.cell? (ad.add k) = some (.int .u8 x) := (hB2.cell (by rw [block_of_add]; exact had)).trans hcell
      go_wp2_with fail
      refine gt.out.mono ?_
      rintro _ w3 ⟨rfl, hL3, hg3⟩
      have hO3 := hO2.beside hg3 (by omega)
      have hB3 := hB2.grown hg3 hB2.size (fun k e => by injection e with e; omega)
      have c3 : w3.cell? (ad.add k) = some (.int .u8 x) := (hB3.cell (by rw [block_of_add]; exact had)).trans hcell
      have hs3 := hL3.blk.lt
      have hb4 : Below w3.heap.size w3 (w3.alloc (.cells #[.int .i64 x] 3)) := (Below.refl _ _).alloc (Nat.le_refl _) _
      go_wp2_with (first
        | (at_builtin
           refine wpList_appZ (w3.alloc (.cells #[.int .i64 x] 3)) rfl (.tmp 39) (.tmp 45) rfl (w.heap.size + 2) (.slice A k c) (xs.take k) rfl (hO3.alloc _) (w3.heap.size + 1) (some ⟨w3.heap.size, 0, none⟩) 1 1 [x] rfl (ReadsZ.one w3 x) rfl
             (xs.take (k + 1)) (k + 1) htk.out hle.out (by omega) (by simp; omega) ?_
           intro A5 c5 w5 hO5 hg5
           have hB5 := (bnext hB3 hb4).grown hg5 (by simp; have := hB3.size; omega) (fun g e => by have := (hO3.lt g e).1; omega)
           have hL5 := (hL3.below hb4).beside (hO3.alloc _) hg5))
      exact ⟨⟨k + 1, by omega, by go_num, A5, c5, rfl, hO5, hB5, _, hL5, by rw [hat.out], by rw [hat.out]; show _ = kpW (xs.take (k + 1)); rw [← htk.out, kpW_append]; rfl⟩, by simp [intOf]; omega⟩
    · obtain rfl : k = n := by omega
      obtain ⟨l, hl⟩ : ∃ l, xs.take k = l := ⟨_, rfl⟩
      have hll : k = l.length := by rw [← hl, List.length_take]; omega
      rw [hl] at hO hrow
      clear hl
      subst hll
      by_cases hx : l.length < xs.length
      · have b1 : decide ((l.length : Int) < xs.length) = true := decide_eq_true (by omega)
        have b2 : decide ((l.length : Int) < 50) = false := decide_eq_false (by omega)
        have hl50 : l.length ≤ 50 := by omega
        have b3 : decide (l.length < 50) = false := decide_eq_false (by omega)
        clear hlt hk hn
        have hws : wsT (S 5).row = l := by rw [hrow]; exact wsF_kp l 0
        have gw := waits_any (w.heap.size + 1) w.heap.size _ S 5 (by unfold fit64; omega) wr hL (by omega)
        rw [hws] at gw
        replace gw := Lib.hid gw
        have gi := fun A1 A2 c1 c2 u B1 B2 h1 h2 => Lib.hid (ints_any A1 A2 c1 c2 l u B1 B2 h1 h2 (by unfold maxLen; omega))
        go_wp2_with fail
        refine gw.out.mono ?_
        rintro _ w2 ⟨A1, c1, rfl, hr1, hlc1, hmc1, hb2⟩
        have hO2 := hO.below hb2
        go_wp2_with fail
        refine (gi _ _ _ _ _ _ _ hr1 hO2.reads).out.mono ?_
        rintro _ w3 ⟨rfl, m3, rfl⟩
        have hb3 := below_drewN hb2 m3
        have hL3 := hL.below hb3
        have hO3 := hO.below hb3
        have hB3 := bnext hB hb3
        generalize w2.drewN m3 = w3 at *
        clear gw hO2 hr1 hL hO gi hb2 hb3 hws
        have ge := enter_any (w.heap.size + 1) w.heap.size _ S 5 1000 (by unfold fit64; omega) w3 hL3 (by omega)
        have hf : freeM (S 5) 1000 = true := by unfold freeM; rw [hc0]; rfl
        have hS5 := enterS_at S 5 1000 hc0
        rw [hrow] at hS5
        rw [hf] at ge
        generalize enterS S 5 1000 = S2 at *
        replace ge := Lib.hid ge
        replace hS5 := Lib.hid hS5
        clear hf hc0 hrow
        go_wp2_with fail
        refine ge.out.mono ?_
        rintro _ w4 ⟨rfl, hL4, hg4⟩
        have hO4 := hO3.beside hg4 (by omega)
        have hB4 := hB3.grown hg4 hB3.size (fun k e => by injection e with e; omega)
        have hE : ownE (S2 5) 1000 = 0 := by rw [hS5.out]; simp [ownE]
        have hT := tellO_at (S2 5) 1000 x1 _ hS5.out
        rw [tell_who] at hT
        have hl5 : wsT (tellS S2 5 1000 x1 5).row = l.drop (toldN x1 l) := by rw [tellS_at S2 5 1000 x1 _ hS5.out]; exact tell_left l x1
        have hNl := toldN_le l x1
        have gt := tell_any (w.heap.size + 1) w.heap.size _ S2 5 1000 x1 (by unfold fit64; omega) w4 hL4 (by omega)
        rw [hE, hT] at gt
        obtain ⟨N, hN⟩ : ∃ N, toldN x1 l = N := ⟨_, rfl⟩
        rw [hN] at gt hl5 hNl
        have hNt : (l.take N).length = N := by rw [List.length_take]; omega
        have hNd : (l.drop N).length = l.length - N := List.length_drop
        rw [hNt] at gt
        generalize tellS S2 5 1000 x1 = S3 at *
        replace gt := Lib.hid gt
        replace hl5 := Lib.hid hl5
        replace hNt := Lib.hid hNt
        replace hNd := Lib.hid hNd
        clear hE hT hS5 ge hL3 hO3 hB3
        go_wp2_with fail
        refine gt.out.mono ?_
        rintro _ w5 ⟨A5, c5, rfl, hr5, hlc5, hmc5, hL5, hg5⟩
        have hO5 := hO4.beside hg5 (by omega)
        have hB5 := hB4.grown hg5 hB4.size (fun k e => by injection e with e; omega)
        have hcap5 := hO5.cap
        have hRk : ReadsZ w5 w5.heap.size A (l.take N) := by
          have h := Reads.take (k := N) hO5.reads hNl
          unfold ReadsZ
          rw [hNt.out]
          have e : cellsOf .i64 (l.take N) = (cellsOf .i64 l).take (N * 1) := by rw [Nat.mul_one]; exact List.map_take ..
          rw [e]
          exact h
        have hRd : ReadsZ w5 w5.heap.size (if c = N then A else A.map (·.add (N * 1))) (l.drop N) := by
          have h := Reads.cut (k := N) (cap := c) hO5.reads hNl hcap5.1
          unfold ReadsZ
          rw [hNd.out]
          have e : cellsOf .i64 (l.drop N) = (cellsOf .i64 l).drop (N * 1) := by rw [Nat.mul_one]; exact List.map_drop ..
          rw [e]
          exact h
        have gi1 := fun A1 A2 c1 c2 u B1 B2 h1 h2 => Lib.hid (ints_two (l.take N) N hNt.out (by unfold maxLen; omega) A1 A2 c1 c2 u B1 B2 h1 h2)
        have gi2 := fun A1 A2 c1 c2 u B1 B2 h1 h2 => Lib.hid (ints_two (l.drop N) (l.length - N) hNd.out (by unfold maxLen; omega) A1 A2 c1 c2 u B1 B2 h1 h2)
        have gw := fun u hu => Lib.hid (waits_any (w.heap.size + 1) w.heap.size (2 * l.length + 1 + 1) S3 5 (by unfold fit64; omega) u hu (by omega))
        rw [hl5.out, hNd.out] at gw
        have hTd : ReadsZ w5.drew w5.heap.size A5 (l.take N) := hr5
        have hRkd : ReadsZ w5.drew w5.heap.size A (l.take N) := hRk
        unfold toldN at hN
        obtain ⟨M, hM⟩ : ∃ M, M = min 1 l.length := ⟨_, rfl⟩
        have hmin : (if (l.length : Int) < 1 then (l.length : Int) else 1) = (M : Int) := by split <;> omega
        rw [← hM] at hN
        clear hM gt
        cases x1 with
        | true =>
          simp only [if_true] at hN
          subst hN
          simp only [Nat.sub_self] at gw gi2
          simp only [Nat.mul_one] at hRd
          obtain ⟨A8, hA8⟩ : ∃ A8, (if c = l.length then A else Option.map (fun x => x.add l.length) A) = A8 := ⟨_, rfl⟩
          rw [hA8] at hRd
          go_wp2_with fail
          go_region_held_law (fun w' => True) (go_keep)
            (first
            | (go_at_call 20
               refine (gi2 _ _ _ _ _ _ _ hr7 hR7).out.mono ?_
               rintro _ w8 ⟨rfl, m8, rfl⟩)
            | (go_at_call 20
               refine (gi1 _ _ _ _ _ _ _ hTd hRkd).out.mono ?_
               clear hTd hRkd
               rintro _ w6 ⟨rfl, m6, rfl⟩
               have hL6 := LS.drewN hL5 (1 + m6)
               have hR6 := Reads.drewN hRd (1 + m6))
            | (go_at_call 21
               refine (gw _ hL6).out.mono ?_
               rintro _ w7 ⟨A7, c7, rfl, hr7, hlc7, hmc7, hb7⟩
               have hR7 := Reads.below hR6 hb7
               have hB7 := (below_drewN hB5 (1 + m6)).trans (hb7.mono hB5.size))
            | (go_at_call 23
               refine (gaw _).out.mono ?_
               rintro _ w9 ⟨rfl, hb9⟩))
          all_goals
            go_wp2_with fail
            go_ret
            exact ⟨rfl, (below_drewN hB7 m8).trans (hb9.mono hB7.size)⟩
        | false =>
          simp only [Bool.false_eq_true, if_false] at hN
          subst hN
          simp only [Nat.mul_one] at hRd
          obtain ⟨A8, hA8⟩ : ∃ A8, (if c = M then A else Option.map (fun x => x.add M) A) = A8 := ⟨_, rfl⟩
          rw [hA8] at hRd
          go_wp2_with fail
          go_region_held_law (fun w' => True) (go_keep)
            (first
            | (go_at_call 20
               refine (gi2 _ _ _ _ _ _ _ hr7 hR7).out.mono ?_
               rintro _ w8 ⟨rfl, m8, rfl⟩)
            | (go_at_call 20
               refine (gi1 _ _ _ _ _ _ _ hTd hRkd).out.mono ?_
               clear hTd hRkd
               rintro _ w6 ⟨rfl, m6, rfl⟩
               have hL6 := LS.drewN hL5 (1 + m6)
               have hR6 := Reads.drewN hRd (1 + m6))
            | (go_at_call 21
               refine (gw _ hL6).out.mono ?_
               rintro _ w7 ⟨A7, c7, rfl, hr7, hlc7, hmc7, hb7⟩
               have hR7 := Reads.below hR6 hb7
               have hB7 := (below_drewN hB5 (1 + m6)).trans (hb7.mono hB5.size))
            | (go_at_call 23
               refine (gaw _).out.mono ?_
               rintro _ w9 ⟨rfl, hb9⟩))
          all_goals
            go_wp2_with fail
            go_ret
            exact ⟨rfl, (below_drewN hB7 m8).trans (hb9.mono hB7.size)⟩
      · have b1 : decide ((l.length : Int) < xs.length) = false := decide_eq_false (by omega)
        have hl50 : l.length ≤ 50 := by omega
        have b3 : decide (l.length < xs.length) = false := decide_eq_false hx
        clear hlt hk hn
        have hws : wsT (S 5).row = l := by rw [hrow]; exact wsF_kp l 0
        have gw := waits_any (w.heap.size + 1) w.heap.size _ S 5 (by unfold fit64; omega) wr hL (by omega)
        rw [hws] at gw
        replace gw := Lib.hid gw
        have gi := fun A1 A2 c1 c2 u B1 B2 h1 h2 => Lib.hid (ints_any A1 A2 c1 c2 l u B1 B2 h1 h2 (by unfold maxLen; omega))
        go_wp2_with fail
        refine gw.out.mono ?_
        rintro _ w2 ⟨A1, c1, rfl, hr1, hlc1, hmc1, hb2⟩
        have hO2 := hO.below hb2
        go_wp2_with fail
        refine (gi _ _ _ _ _ _ _ hr1 hO2.reads).out.mono ?_
        rintro _ w3 ⟨rfl, m3, rfl⟩
        have hb3 := below_drewN hb2 m3
        have hL3 := hL.below hb3
        have hO3 := hO.below hb3
        have hB3 := bnext hB hb3
        generalize w2.drewN m3 = w3 at *
        clear gw hO2 hr1 hL hO gi hb2 hb3 hws
        have ge := enter_any (w.heap.size + 1) w.heap.size _ S 5 1000 (by unfold fit64; omega) w3 hL3 (by omega)
        have hf : freeM (S 5) 1000 = true := by unfold freeM; rw [hc0]; rfl
        have hS5 := enterS_at S 5 1000 hc0
        rw [hrow] at hS5
        rw [hf] at ge
        generalize enterS S 5 1000 = S2 at *
        replace ge := Lib.hid ge
        replace hS5 := Lib.hid hS5
        clear hf hc0 hrow
        go_wp2_with fail
        refine ge.out.mono ?_
        rintro _ w4 ⟨rfl, hL4, hg4⟩
        have hO4 := hO3.beside hg4 (by omega)
        have hB4 := hB3.grown hg4 hB3.size (fun k e => by injection e with e; omega)
        have hE : ownE (S2 5) 1000 = 0 := by rw [hS5.out]; simp [ownE]
        have hT := tellO_at (S2 5) 1000 x1 _ hS5.out
        rw [tell_who] at hT
        have hl5 : wsT (tellS S2 5 1000 x1 5).row = l.drop (toldN x1 l) := by rw [tellS_at S2 5 1000 x1 _ hS5.out]; exact tell_left l x1
        have hNl := toldN_le l x1
        have gt := tell_any (w.heap.size + 1) w.heap.size _ S2 5 1000 x1 (by unfold fit64; omega) w4 hL4 (by omega)
        rw [hE, hT] at gt
        obtain ⟨N, hN⟩ : ∃ N, toldN x1 l = N := ⟨_, rfl⟩
        rw [hN] at gt hl5 hNl
        have hNt : (l.take N).length = N := by rw [List.length_take]; omega
        have hNd : (l.drop N).length = l.length - N := List.length_drop
        rw [hNt] at gt
        generalize tellS S2 5 1000 x1 = S3 at *
        replace gt := Lib.hid gt
        replace hl5 := Lib.hid hl5
        replace hNt := Lib.hid hNt
        replace hNd := Lib.hid hNd
        clear hE hT hS5 ge hL3 hO3 hB3
        go_wp2_with fail
        refine gt.out.mono ?_
        rintro _ w5 ⟨A5, c5, rfl, hr5, hlc5, hmc5, hL5, hg5⟩
        have hO5 := hO4.beside hg5 (by omega)
        have hB5 := hB4.grown hg5 hB4.size (fun k e => by injection e with e; omega)
        have hcap5 := hO5.cap
        have hRk : ReadsZ w5 w5.heap.size A (l.take N) := by
          have h := Reads.take (k := N) hO5.reads hNl
          unfold ReadsZ
          rw [hNt.out]
          have e : cellsOf .i64 (l.take N) = (cellsOf .i64 l).take (N * 1) := by rw [Nat.mul_one]; exact List.map_take ..
          rw [e]
          exact h
        have hRd : ReadsZ w5 w5.heap.size (if c = N then A else A.map (·.add (N * 1))) (l.drop N) := by
          have h := Reads.cut (k := N) (cap := c) hO5.reads hNl hcap5.1
          unfold ReadsZ
          rw [hNd.out]
          have e : cellsOf .i64 (l.drop N) = (cellsOf .i64 l).drop (N * 1) := by rw [Nat.mul_one]; exact List.map_drop ..
          rw [e]
          exact h
        have gi1 := fun A1 A2 c1 c2 u B1 B2 h1 h2 => Lib.hid (ints_two (l.take N) N hNt.out (by unfold maxLen; omega) A1 A2 c1 c2 u B1 B2 h1 h2)
        have gi2 := fun A1 A2 c1 c2 u B1 B2 h1 h2 => Lib.hid (ints_two (l.drop N) (l.length - N) hNd.out (by unfold maxLen; omega) A1 A2 c1 c2 u B1 B2 h1 h2)
        have gw := fun u hu => Lib.hid (waits_any (w.heap.size + 1) w.heap.size (2 * l.length + 1 + 1) S3 5 (by unfold fit64; omega) u hu (by omega))
        rw [hl5.out, hNd.out] at gw
        have hTd : ReadsZ w5.drew w5.heap.size A5 (l.take N) := hr5
        have hRkd : ReadsZ w5.drew w5.heap.size A (l.take N) := hRk
        unfold toldN at hN
        obtain ⟨M, hM⟩ : ∃ M, M = min 1 l.length := ⟨_, rfl⟩
        have hmin : (if (l.length : Int) < 1 then (l.length : Int) else 1) = (M : Int) := by split <;> omega
        rw [← hM] at hN
        clear hM gt
        cases x1 with
        | true =>
          simp only [if_true] at hN
          subst hN
          simp only [Nat.sub_self] at gw gi2
          simp only [Nat.mul_one] at hRd
          obtain ⟨A8, hA8⟩ : ∃ A8, (if c = l.length then A else Option.map (fun x => x.add l.length) A) = A8 := ⟨_, rfl⟩
          rw [hA8] at hRd
          go_wp2_with fail
          go_region_held_law (fun w' => True) (go_keep)
            (first
            | (go_at_call 20
               refine (gi2 _ _ _ _ _ _ _ hr7 hR7).out.mono ?_
               rintro _ w8 ⟨rfl, m8, rfl⟩)
            | (go_at_call 20
               refine (gi1 _ _ _ _ _ _ _ hTd hRkd).out.mono ?_
               clear hTd hRkd
               rintro _ w6 ⟨rfl, m6, rfl⟩
               have hL6 := LS.drewN hL5 (1 + m6)
               have hR6 := Reads.drewN hRd (1 + m6))
            | (go_at_call 21
               refine (gw _ hL6).out.mono ?_
               rintro _ w7 ⟨A7, c7, rfl, hr7, hlc7, hmc7, hb7⟩
               have hR7 := Reads.below hR6 hb7
               have hB7 := (below_drewN hB5 (1 + m6)).trans (hb7.mono hB5.size))
            | (go_at_call 23
               refine (gaw _).out.mono ?_
               rintro _ w9 ⟨rfl, hb9⟩))
          all_goals
            go_wp2_with fail
            go_ret
            exact ⟨rfl, (below_drewN hB7 m8).trans (hb9.mono hB7.size)⟩
        | false =>
          simp only [Bool.false_eq_true, if_false] at hN
          subst hN
          simp only [Nat.mul_one] at hRd
          obtain ⟨A8, hA8⟩ : ∃ A8, (if c = M then A else Option.map (fun x => x.add M) A) = A8 := ⟨_, rfl⟩
          rw [hA8] at hRd
          go_wp2_with fail
          go_region_held_law (fun w' => True) (go_keep)
            (first
            | (go_at_call 20
               refine (gi2 _ _ _ _ _ _ _ hr7 hR7).out.mono ?_
               rintro _ w8 ⟨rfl, m8, rfl⟩)
            | (go_at_call 20
               refine (gi1 _ _ _ _ _ _ _ hTd hRkd).out.mono ?_
               clear hTd hRkd
               rintro _ w6 ⟨rfl, m6, rfl⟩
               have hL6 := LS.drewN hL5 (1 + m6)
               have hR6 := Reads.drewN hRd (1 + m6))
            | (go_at_call 21
               refine (gw _ hL6).out.mono ?_
               rintro _ w7 ⟨A7, c7, rfl, hr7, hlc7, hmc7, hb7⟩
               have hR7 := Reads.below hR6 hb7
               have hB7 := (below_drewN hB5 (1 + m6)).trans (hb7.mono hB5.size))
            | (go_at_call 23
               refine (gaw _).out.mono ?_
               rintro _ w9 ⟨rfl, hb9⟩))
          all_goals
            go_wp2_with fail
            go_ret
            exact ⟨rfl, (below_drewN hB7 m8).trans (hb9.mono hB7.size)⟩

set_option maxRecDepth 100000 in
theorem lifted (os : Os) (started : os.Started) (H : Type) (enc : TypeId × Value → H) :
    ReturnsInHanded {} Try.checked os 4 .any (Rows.lockRowSpec.pre6 enc Try.prog Try.f4 Rows.lockRowRow.domain false) (Rows.lockRowSpec.post enc Try.prog Try.f4 false true false false) := by
  refine returnsInHanded_of_change (C := Try.checked) own started (by kernel_rfl) Try.func4
    (ChangeSpec.witness6 (enc := enc) (C := Try.checked) false ⟨#[], #[.slice none 0 0, .bool false], []⟩ 8 (by kernel_rfl) (by kernel_rfl) (by kernel_rfl) (by kernel_rfl)) ?_
  intro W base args ds gs before hval0 hW hcnd _
  have hval : ∀ (j : Nat) t v, Try.f4.params[j]? = some t → args[j]? = some v → Value.okWide Try.prog W .any base t v := hval0
  have hW' := hW
  obtain ⟨p, q, hA0, hV, rfl, hfz, hnd⟩ := hW
  have hA : DataW.TrodAll enc Try.prog W 0 (fun _ => true) true Try.f4.params.toList args.toList ds p := hA0
  rw [Try.params4] at hA hval
  obtain ⟨v0, vs0, d0, ds0, p0, q0, hargs, rfl, rfl, h0, r0⟩ := trodAll_cons hA
  obtain ⟨v1, vs1, d1, ds1, p1, q1, rfl, rfl, rfl, h1, r1⟩ := trodAll_cons r0
  obtain ⟨rfl, rfl, rfl⟩ := trodAll_nil r1
  obtain rfl : args = #[v0, v1] := by cases args; simp_all
  obtain ⟨rfl, rfl⟩ := trodVars_none hV
  obtain ⟨a0, len0, cap0, rfl⟩ := okWide_slice Try.underlying35 (hval 0 35 v0 rfl rfl)
  have k0 := h0
  have lt0 : ∀ x ∈ p0, x.block < W.heap.size := by obtain ⟨m, hm⟩ := k0; exact DataW.trod_lt m _ _ _ hm
  obtain ⟨z0, w0⟩ : ∃ zs, IsRow .u8 W a0 len0 cap0 zs := by
    obtain ⟨fuel, hf⟩ := h0
    rcases open_ints Try.underlying35 Try.underlying5 (by kernel_rfl) hf with ⟨hcs, _⟩ | ⟨x, l, c, zs, hcs, _, hl, hm, hz, _, hcell, hwz⟩
    · simp [Value.cells] at hcs
      obtain ⟨rfl, rfl, rfl⟩ := hcs
      exact ⟨[], .inl ⟨rfl, rfl, rfl, rfl⟩⟩
    · simp [Value.cells] at hcs
      obtain ⟨rfl, rfl, rfl⟩ := hcs
      exact ⟨zs, .inr ⟨_, rfl, hl, hm, by simpa using hz, hcell, hwz⟩⟩
  obtain ⟨x1, rfl, rfl, rfl⟩ := open_bool Try.underlying4 (hval 1 4 v1 rfl rfl) h1
  clear hA0 hval0
  refine (walk a0 len0 cap0 z0 x1 W w0).mono fun e W' ⟨he, bel⟩ => ?_
  subst he
  exact ⟨_, rfl, _, _, _, [], _, [], hW', trodAll_mk1 (shut_bool Try.underlying4 _), (trodAll_cons_mk (Below.trod laidOut (by kernel_rfl) (of_decide_eq_true (by kernel_rfl)) k0 bel lt0) (trodAll_cons_mk (shut_bool Try.underlying4 x1) trodAll_mk0)), rfl, bel.frame _, fun h => by cases h⟩

theorem closed : joinedFacts Try.prog 4 Try.f4 Rows.lockRowSpec Rows.lockRowRow = true := by
  have h1 := mayEnter_fact
  have h2 : (Rows.lockRowRow.lifted == Try.prog.liftsFinal) = true := by rw [lifts_fact]; rfl
  have h3 : (Try.prog.make == some Rows.lockRowRow.make) = true := by rw [make_fact]; rfl
  have hfin : ∀ b : Bool, b = true → b = true := fun _ h => h
  unfold joinedFacts
  rw [h1, h2, h3]
  clear h1 h2 h3
  refine hfin _ ?_
  kernel_rfl

theorem over : Rows.lockRowRow.holds Try.pinned (OpenSpec.ofChange Rows.lockRowSpec) :=
  OpenClaim.holds_of_wide 4 Try.f4 rfl rfl rfl rfl rfl rfl rfl ⟨rfl, rfl, rfl, rfl, rfl⟩ rfl rfl rfl rfl rfl (by kernel_rfl) Try.func4 closed
    (of_decide_eq_true (by kernel_rfl)) (by unfold Func.isWrapper; first | (rw [if_pos (by decide +kernel)]; kernel_rfl) | (rw [if_neg (by decide +kernel)]; exact ⟨rfl, rfl⟩))
    (fun os started H enc _ => lifted os started H enc)

/-- The statement. -/
theorem proved : Rows.LockRowSaid := over
#print axioms proved

end Go.Proofs.Ytpfgdgelnehjpaa.LockRowP
