/- Monitors: the methods that walk over no row. -/
import Derived.Test.YtpfgdgelnehjpaaLockK
import Derived.Laws.StructEq
import Derived.BigRegion
import Derived.Deep.RegionLaw
namespace Go.Proofs.Ytpfgdgelnehjpaa
open Go.RowKit
set_option linter.unusedVariables false
set_option linter.unusedSimpArgs false
attribute [-go_sem] Builtin.append_

/-- m[x] = v, at a step of a drawn region. -/
theorem step_setI {ops : Array Oper} {o : Oper} {a : Act} {K : Act → World → Prop} {Q : Exit → Act → World → Prop} {E0 : Prop} (w : World) (hg : o.guard = none) (m x v : Operand) (T E : TypeId) (hop : o.op = Op.mapUpdate T m x v)
    (ht : Try.prog.underlying T = some (.map 3 E)) (b n : Nat) (f : Int → Option Value) (hm : a.eval m = .map (some b)) (h : MapI w b n f) (hn : n < maxLen) (y : Int) (hy : fit64 y) (u : Value) (hx : a.eval x = .int .i64 y) (hv : a.eval v = u)
    (hK : ∀ w', MapI w' b (n + 1) (fun z => if z = y then some u else f z) → w.grownBy w' (some b) → K (a.put o.dst undef) w') :
    if Region.wanted o (yielded ops a.tmps) = true then Oper.wp Try.prog o a w K Q else E0 := by
  have hw : Region.wanted o (yielded ops a.tmps) = true := by simp [Region.wanted, hg]
  rw [if_pos hw]
  obtain ⟨w', hrun, r1, r2⟩ := h.set_ ht hn hy u
  unfold Oper.wp
  simp [execOp, hop, hm, hx, hv, hrun, Result.andThen]
  exact hK w' r1 r2

def ownI (m : Mon) : Int := if m.cnt = 0 then -1 else m.own
def freeM (m : Mon) (t : Int) : Bool := decide (m.cnt = 0) || decide (m.own = t)
def enterS (s : Int → Mon) (r t : Int) : Int → Mon := if freeM (s r) t = true then updM s r ⟨t, (s r).cnt + 1, (s r).row⟩ else s
def ownE (m : Mon) (t : Int) : Int := if m.cnt = 0 ∨ ¬ m.own = t then 150 else 0
def normM (m : Mon) : Mon := if m.cnt = 0 ∧ m.row = [] then mon0 else m
def setS (s : Int → Mon) (r : Int) (m : Mon) : Int → Mon := updM s r (normM m)
def exitS (s : Int → Mon) (r t : Int) : Int → Mon := if ownE (s r) t = 0 then setS s r ⟨(s r).own, (s r).cnt - 1, (s r).row⟩ else s
def waitS (s : Int → Mon) (r t : Int) : Int → Mon := if ownE (s r) t = 0 then setS s r ⟨(s r).own, 0, (s r).row ++ [⟨t, (s r).cnt, false⟩]⟩ else s

set_option maxRecDepth 100000 in
set_option maxHeartbeats 4000000 in
theorem none_any (p b n : Nat) (s : Int → Mon) (w : World) (h : LS w p b n s) :
    Calls Try.prog 43 #[.pointer (some ⟨p, 0, none⟩)] w fun e w' => e = .returned (.bool false) ∧ w = w' := by
  have km := mapEq_run
  have c0 : w.cell? ⟨p, 0, none⟩ = some (.map (some b)) := h.blk.cell 0
  go_enter Try.func43, Try.ntmps43
  go_wp2_with fail
  exact bodyPost_ret (v := .bool false) (by simp [results, Try.results43, go_sem] <;> rfl) rfl ⟨rfl, rfl⟩

set_option maxRecDepth 100000 in
set_option maxHeartbeats 4000000 in
theorem new_any (w : World) :
    Calls Try.prog 17 #[] w fun e w' => e = .returned (.pointer (some ⟨w.heap.size + 1, 0, none⟩)) ∧ LS w' (w.heap.size + 1) w.heap.size 0 (fun _ => mon0) ∧ Below w.heap.size w w' := by
  have hmm := @run_makeMap Try.prog
  have hB : Blk ((w.alloc (.map #[] 0)).alloc (.cells #[.map (some w.heap.size)] 89)) (w.heap.size + 1) 89 #[.map (some w.heap.size)] := by
    have h := Blk.new (w.alloc (.map #[] 0)) 89 #[.map (some w.heap.size)]
    simpa using h
  go_enter Try.func17, Try.ntmps17
  go_wp2_with fail
  go_ret
  exact ⟨rfl, ⟨⟨_, (MapI.made w).alloc _, fun r => Holds.zero _⟩, hB, fun r => mon0_bd _⟩, ((Below.refl _ _).alloc (Nat.le_refl _) _).alloc (by simp) _⟩

set_option maxRecDepth 100000 in
set_option maxHeartbeats 4000000 in
theorem owner_any (p b n : Nat) (s : Int → Mon) (r : Int) (hx : fit64 r) (w : World) (h : LS w p b n s) :
    Calls Try.prog 32 #[.pointer (some ⟨p, 0, none⟩), .int .i64 r] w fun e w' => e = .returned (.tuple #[.int .i64 (ownI (s r)), .int .i64 (s r).cnt]) ∧ ∃ k, w' = w.drewN k := by
  have hnone := Lib.hid (none_any p b n s w h)
  obtain ⟨⟨f, hM, hH⟩, hB, hbd⟩ := h
  have hpb := LS.ne hM hB
  obtain ⟨A, c, hv, hr, hlc, hmc, hkt⟩ := hH r
  have hmb := hbd r
  have c0 : w.cell? ⟨p, 0, none⟩ = some (.map (some b)) := hB.cell 0
  have hrun := hM.look (T := 87) (E := 95) Try.underlying87 (zeroM_run w) hx
  have hrunD := MapI.look (w := w.drew) (hM.below ((Below.refl _ _).drew)) (T := 87) (E := 95) Try.underlying87 (zeroM_run _) hx
  rw [hv] at hrun hrunD
  unfold Mon.v at hrun hrunD
  unfold ownI
  clear hv hbd hmb hr hlc hH
  generalize s r = m at *
  obtain ⟨own, cnt, row⟩ := m
  dsimp only at hrun hrunD ⊢
  have hf0 : ∀ w, (Instr.field 95 (.agg #[.int .i64 own, .int .i64 cnt, .slice A row.length c]) 0).run Try.prog w = .ok (.int .i64 own) w := fun w => by rfl
  have hf1 : ∀ w, (Instr.field 95 (.agg #[.int .i64 own, .int .i64 cnt, .slice A row.length c]) 1).run Try.prog w = .ok (.int .i64 cnt) w := fun w => by rfl
  by_cases h0 : cnt = 0
  · subst h0
    rw [if_pos rfl]
    go_enter Try.func32, Try.ntmps32
    go_wp2_with fail
    refine hnone.out.mono ?_
    rintro _ w1 ⟨rfl, rfl⟩
    go_wp2_with fail
    go_ret2
    exact ⟨rfl, 0, rfl⟩
  · rw [if_neg h0]
    go_enter Try.func32, Try.ntmps32
    go_wp2_with fail
    refine hnone.out.mono ?_
    rintro _ w1 ⟨rfl, rfl⟩
    go_wp2_with fail
    go_region
    all_goals
      go_wp2_with fail
      go_ret2
      exact ⟨rfl, _, rfl⟩

set_option maxRecDepth 100000 in
set_option maxHeartbeats 4000000 in
theorem free_any (p b n : Nat) (s : Int → Mon) (r t : Int) (hx : fit64 r) (w : World) (h : LS w p b n s) :
    Calls Try.prog 33 #[.pointer (some ⟨p, 0, none⟩), .int .i64 r, .int .i64 t] w fun e w' => e = .returned (.bool (freeM (s r) t)) ∧ ∃ k, w' = w.drewN k := by
  have hown := Lib.hid (owner_any p b n s r hx w h)
  have hnone := fun k => Lib.hid (none_any p b n s (w.drewN k) (h.below (below_drewN (Below.refl _ _) k)))
  obtain ⟨⟨f, hM, hH⟩, hB, hbd⟩ := h
  have hpb := LS.ne hM hB
  obtain ⟨A, c, hv, hr, hlc, hmc, hkt⟩ := hH r
  have hmb := hbd r
  have c0 : w.cell? ⟨p, 0, none⟩ = some (.map (some b)) := hB.cell 0
  have hrun := fun k => MapI.look (w := w.drewN k) (hM.below (below_drewN (Below.refl _ _) k)) (T := 87) (E := 95) Try.underlying87 (zeroM_run _) hx
  rw [hv] at hrun
  unfold Mon.v at hrun
  unfold freeM
  clear hv hbd hmb hr hlc hH
  generalize s r = m at *
  obtain ⟨own, cnt, row⟩ := m
  dsimp only at hrun hown ⊢
  have hf0 : ∀ w, (Instr.field 95 (.agg #[.int .i64 own, .int .i64 cnt, .slice A row.length c]) 0).run Try.prog w = .ok (.int .i64 own) w := fun w => by rfl
  have hf1 : ∀ w, (Instr.field 95 (.agg #[.int .i64 own, .int .i64 cnt, .slice A row.length c]) 1).run Try.prog w = .ok (.int .i64 cnt) w := fun w => by rfl
  by_cases h0 : cnt = 0
  · subst h0
    go_enter Try.func33, Try.ntmps33
    go_wp2_with fail
    refine hown.out.mono ?_
    rintro _ w1 ⟨rfl, k, rfl⟩
    go_wp2_with fail
    refine (hnone k).out.mono ?_
    rintro _ w1 ⟨rfl, rfl⟩
    go_wp2_with fail
    go_ret
    exact ⟨rfl, k, rfl⟩
  · by_cases h1 : own = t
    · subst h1
      go_enter Try.func33, Try.ntmps33
      go_wp2_with fail
      refine hown.out.mono ?_
      rintro _ w1 ⟨rfl, k, rfl⟩
      have hrun' := hrun k
      have c0' : (w.drewN k).cell? ⟨p, 0, none⟩ = some (.map (some b)) := c0
      go_wp2_with fail
      refine (hnone k).out.mono ?_
      rintro _ w1 ⟨rfl, rfl⟩
      go_wp2_with fail
      go_ret
      exact ⟨by simp [h0], k, rfl⟩
    · go_enter Try.func33, Try.ntmps33
      go_wp2_with fail
      refine hown.out.mono ?_
      rintro _ w1 ⟨rfl, k, rfl⟩
      have hrun' := hrun k
      have c0' : (w.drewN k).cell? ⟨p, 0, none⟩ = some (.map (some b)) := c0
      go_wp2_with fail
      refine (hnone k).out.mono ?_
      rintro _ w1 ⟨rfl, rfl⟩
      go_wp2_with fail
      go_ret
      exact ⟨by simp [h0, h1], k, rfl⟩

set_option maxRecDepth 100000 in
set_option maxHeartbeats 4000000 in
theorem owned_any (p b n : Nat) (s : Int → Mon) (r t : Int) (hx : fit64 r) (w : World) (h : LS w p b n s) :
    Calls Try.prog 44 #[.pointer (some ⟨p, 0, none⟩), .int .i64 r, .int .i64 t] w fun e w' => ∃ A c, e = .returned (.tuple #[(s r).v A c, .int .i64 (ownE (s r) t)]) ∧ ReadsK w w.heap.size A (s r).row ∧ (s r).row.length ≤ c ∧ c ≤ maxLen ∧ KTy w A ∧ Below w.heap.size w w' := by
  have hnone := fun w' (hb : Below w.heap.size w w') => Lib.hid (none_any p b n s w' (h.below hb))
  obtain ⟨⟨f, hM, hH⟩, hB, hbd⟩ := h
  have hpb := LS.ne hM hB
  obtain ⟨A, c, hv, hr, hlc, hmc, hkt⟩ := hH r
  have hmb := hbd r
  have c0 : w.cell? ⟨p, 0, none⟩ = some (.map (some b)) := hB.cell 0
  have hW := b0 w (.cells #[.int .i64 0, .int .i64 0, .slice none 0 0] 95)
  have hrun := MapI.look (hM.below hW) (T := 87) (E := 95) Try.underlying87 (zeroM_run _) hx
  have c1 : (w.alloc (.cells #[.int .i64 0, .int .i64 0, .slice none 0 0] 95)).cell? ⟨p, 0, none⟩ = some (.map (some b)) := (hB.below hW hB.lt).cell 0
  rw [hv] at hrun
  unfold Mon.v at hrun ⊢
  unfold ownE
  clear hv hbd hmb hH
  generalize s r = m at *
  obtain ⟨own, cnt, row⟩ := m
  dsimp only at hrun hr hlc ⊢
  by_cases h0 : cnt = 0
  · subst h0
    rw [if_pos (.inl rfl)]
    go_enter Try.func44, Try.ntmps44
    go_wp2_with fail
    refine (hnone _ hW).out.mono ?_
    rintro _ w1 ⟨rfl, rfl⟩
    go_wp2_with fail
    exact bodyPost_ret (v := .tuple #[.agg #[.int .i64 own, .int .i64 0, .slice A row.length c], .int .i64 150]) (by simp [results, Try.results44, go_sem] <;> rfl) rfl ⟨A, c, rfl, hr, hlc, hmc, hkt, ba (b0 w _) _⟩
  · by_cases h1 : own = t
    · rw [if_neg (fun h => h.elim h0 (fun g => g h1))]
      subst h1
      go_enter Try.func44, Try.ntmps44
      go_wp2_with fail
      refine (hnone _ hW).out.mono ?_
      rintro _ w1 ⟨rfl, rfl⟩
      go_wp2_with fail
      exact bodyPost_ret (v := .tuple #[.agg #[.int .i64 own, .int .i64 cnt, .slice A row.length c], .int .i64 0]) (by simp [results, Try.results44, go_sem] <;> rfl) rfl ⟨A, c, rfl, hr, hlc, hmc, hkt, ba (b0 w _) _⟩
    · rw [if_pos (.inr h1)]
      have b2 : (own != t) = true := by simpa using h1
      go_enter Try.func44, Try.ntmps44
      go_wp2_with fail
      refine (hnone _ hW).out.mono ?_
      rintro _ w1 ⟨rfl, rfl⟩
      go_wp2_with fail
      exact bodyPost_ret (v := .tuple #[.agg #[.int .i64 own, .int .i64 cnt, .slice A row.length c], .int .i64 150]) (by simp [results, Try.results44, go_sem] <;> rfl) rfl ⟨A, c, rfl, hr, hlc, hmc, hkt, ba (b0 w _) _⟩

set_option maxRecDepth 100000 in
set_option maxHeartbeats 4000000 in
theorem set_any (p b n : Nat) (s : Int → Mon) (r : Int) (hx : fit64 r) (own cnt : Int) (row : List Kp) (A : Option Addr) (c : Nat) (w : World) (h : LS w p b n s) (hm : Mon.Bd ⟨own, cnt, row⟩ (n + 1)) (hr : ReadsK w w.heap.size A row) (hlc : row.length ≤ c) (hmc : c ≤ maxLen) (hkt : KTy w A) (hn : n < 4611686018427387904) :
    Calls Try.prog 45 #[.pointer (some ⟨p, 0, none⟩), .int .i64 r, .agg #[.int .i64 own, .int .i64 cnt, .slice A row.length c]] w fun e w' => e = .returned (.tuple #[]) ∧ LS w' p b (n + 1) (setS s r ⟨own, cnt, row⟩) ∧ w.grownBy w' (some b) := by
  obtain ⟨⟨f, hM, hH⟩, hB, hbd⟩ := h
  have hpb := LS.ne hM hB
  have hW := b0 w (.cells #[.int .i64 own, .int .i64 cnt, .slice A row.length c] 95)
  have hM1 := hM.below hW
  have hB1 := hB.below hW hB.lt
  have hH1 := fun r => (hH r).below hW
  have hu : Holds (w.alloc (.cells #[.int .i64 own, .int .i64 cnt, .slice A row.length c] 95)) (.agg #[.int .i64 own, .int .i64 cnt, .slice A row.length c]) ⟨own, cnt, row⟩ := ⟨A, c, rfl, Reads.more (Reads.below hr hW) hW.size, hlc, hmc, hkt.below hW⟩
  have c0 : (w.alloc (.cells #[.int .i64 own, .int .i64 cnt, .slice A row.length c] 95)).cell? ⟨p, 0, none⟩ = some (.map (some b)) := hB1.cell 0
  unfold setS normM
  by_cases h0 : cnt = 0 ∧ row = []
  · rw [if_pos h0]
    obtain ⟨rfl, rfl⟩ := h0
    clear hM hB hH hu
    dsimp only [List.length_nil] at *
    obtain ⟨w3, hrun3, hM3, hg3⟩ := hM1.del_ (T := 87) (E := 95) Try.underlying87 hx 0
    go_enter Try.func45, Try.ntmps45
    go_wp2_with fail
    exact bodyPost_ret (v := .tuple #[]) (by simp [results, Try.results45, go_sem] <;> rfl) rfl ⟨rfl, (LS.del_ hM1 hH1 hB1 hbd hM3 hg3 hpb).more (Nat.le_succ _), only_trans (only_of_below hW _) hg3⟩
  · rw [if_neg h0]
    have hMd : MapI (w.alloc (.cells #[.int .i64 own, .int .i64 cnt, .slice A row.length c] 95)).drew b n f := hM1.below ((Below.refl _ _).drew)
    replace hm := Lib.hid hm
    replace h0 := Lib.hid h0
    by_cases e : cnt = 0
    · subst e
      have e3 : 0 < row.length := List.length_pos_iff.2 (fun e' => h0.out ⟨rfl, e'⟩)
      have e4 : ((row.length : Int) == 0) = false := by rw [beq_eq_false_iff_ne]; omega
      obtain ⟨w3, hrun3, hM3, hg3⟩ := MapI.set_ hMd (T := 87) (E := 95) Try.underlying87 (by unfold maxLen; omega) hx (.agg #[.int .i64 own, .int .i64 0, .slice A row.length c])
      go_enter Try.func45, Try.ntmps45
      go_wp2_with fail
      go_region
      all_goals
        go_wp2_with fail
        go_end0
        have hg4 := only_trans (only_drew (only_refl _ _)) hg3
        exact ⟨rfl, LS.set_ hM1 hH1 hB1 hbd hu hm.out hM3 hg4 hpb, only_trans (only_of_below hW _) hg4⟩
    · obtain ⟨w3, hrun3, hM3, hg3⟩ := MapI.set_ hMd (T := 87) (E := 95) Try.underlying87 (by unfold maxLen; omega) hx (.agg #[.int .i64 own, .int .i64 cnt, .slice A row.length c])
      go_enter Try.func45, Try.ntmps45
      go_wp2_with fail
      go_region
      all_goals
        go_wp2_with fail
        go_end0
        have hg4 := only_trans (only_drew (only_refl _ _)) hg3
        exact ⟨rfl, LS.set_ hM1 hH1 hB1 hbd hu hm.out hM3 hg4 hpb, only_trans (only_of_below hW _) hg4⟩

theorem LS.drewN {w : World} {p b n : Nat} {s : Int → Mon} (h : LS w p b n s) (k : Nat) : LS (w.drewN k) p b n s := h.below (below_drewN (Below.refl _ _) k)
set_option maxRecDepth 100000 in
set_option maxHeartbeats 4000000 in
theorem enter_any (p b n : Nat) (s : Int → Mon) (r t : Int) (hx : fit64 r) (w : World) (h : LS w p b n s) (hn : n < 4611686018427387904) :
    Calls Try.prog 18 #[.pointer (some ⟨p, 0, none⟩), .int .i64 r, .int .i64 t] w fun e w' => e = .returned (.tuple #[.bool (freeM (s r) t), .int .i64 0]) ∧ LS w' p b (n + 1) (enterS s r t) ∧ w.grownBy w' (some b) := by
  have hnone := Lib.hid (none_any p b n s w h)
  have hfree := Lib.hid (free_any p b n s r t hx w h)
  cases hf : freeM (s r) t with
  | false =>
    rw [hf] at hfree
    have he : enterS s r t = s := by unfold enterS; rw [hf]; simp
    rw [he]
    clear hf he
    go_enter Try.func18, Try.ntmps18
    go_wp2_with fail
    refine hnone.out.mono ?_
    rintro _ w1 ⟨rfl, rfl⟩
    go_wp2_with fail
    refine hfree.out.mono ?_
    rintro _ w1 ⟨rfl, k, rfl⟩
    go_wp2_with fail
    go_ret2
    exact ⟨rfl, (h.drewN k).more (Nat.le_succ _), only_drewN (only_refl _ _) k⟩
  | true =>
    rw [hf] at hfree
    have he : enterS s r t = updM s r ⟨t, (s r).cnt + 1, (s r).row⟩ := by unfold enterS; rw [hf]; simp
    rw [he]
    clear hf he
    go_enter Try.func18, Try.ntmps18
    go_wp2_with fail
    refine hnone.out.mono ?_
    rintro _ w1 ⟨rfl, rfl⟩
    go_wp2_with fail
    refine hfree.out.mono ?_
    rintro _ w1 ⟨rfl, k, rfl⟩
    have hg0 : w.grownBy (w.drewN k) (some b) := only_drewN (only_refl _ _) k
    replace h := h.drewN k
    clear hnone hfree
    generalize w.drewN k = u at *
    obtain ⟨⟨f, hM, hH⟩, hB, hbd⟩ := h
    have hpb := LS.ne hM hB
    obtain ⟨A, c, hv, hr, hlc, hmc, hkt⟩ := hH r
    have hmb := hbd r
    have c0 : u.cell? ⟨p, 0, none⟩ = some (.map (some b)) := hB.cell 0
    have hrun := MapI.look hM (T := 87) (E := 95) Try.underlying87 (zeroM_run _) hx
    rw [hv] at hrun
    unfold Mon.v at hrun
    clear hv
    generalize hsr : s r = m at *
    obtain ⟨own, cnt, row⟩ := m
    replace hsr := Lib.hid hsr
    dsimp only at hrun hr hlc
    obtain ⟨hb1, hb2, hb3⟩ := hmb
    dsimp only at hb1 hb2 hb3
    have hW := b0 u (.cells #[.int .i64 t, .int .i64 (cnt + 1), .slice A row.length c] 95)
    have hWd : Below u.heap.size u (u.alloc (.cells #[.int .i64 t, .int .i64 (cnt + 1), .slice A row.length c] 95)).drew := hW.drew
    have c1 : (u.alloc (.cells #[.int .i64 t, .int .i64 (cnt + 1), .slice A row.length c] 95)).cell? ⟨p, 0, none⟩ = some (.map (some b)) := (hB.below hW hB.lt).cell 0
    have hu : Holds (u.alloc (.cells #[.int .i64 t, .int .i64 (cnt + 1), .slice A row.length c] 95)).drew (.agg #[.int .i64 t, .int .i64 (cnt + 1), .slice A row.length c]) ⟨t, cnt + 1, row⟩ := ⟨A, c, rfl, Reads.more (Reads.below hr hWd) hWd.size, hlc, hmc, hkt.below hWd⟩
    obtain ⟨w3, hrun3, hM3, hg3⟩ := MapI.set_ (hM.below hWd) (T := 87) (E := 95) Try.underlying87 (by unfold maxLen; omega) hx (.agg #[.int .i64 t, .int .i64 (cnt + 1), .slice A row.length c])
    have hfin : LS w3 p b (n + 1) (updM s r ⟨t, cnt + 1, row⟩) := LS.set_ (hM.below hWd) (fun r => (hH r).below hWd) (hB.below hWd hB.lt) hbd hu ⟨by dsimp only; omega, by dsimp only; omega, fun k hk => by have := hb3 k hk; omega⟩ hM3 hg3 hpb
    have hg4 : w.grownBy w3 (some b) := only_trans (only_trans hg0 (only_of_below hWd _)) hg3
    replace hfin := Lib.hid hfin
    go_wp2_with fail
    go_region
    all_goals
      go_wp2_with fail
      go_ret2
      exact ⟨rfl, by rw [hsr.out]; exact hfin.out, hg4⟩

set_option maxRecDepth 100000 in
set_option maxHeartbeats 4000000 in
theorem exit_any (p b n : Nat) (s : Int → Mon) (r t : Int) (hx : fit64 r) (w : World) (h : LS w p b n s) (hn : n < 4611686018427387904) :
    Calls Try.prog 30 #[.pointer (some ⟨p, 0, none⟩), .int .i64 r, .int .i64 t] w fun e w' => e = .returned (.int .i64 (ownE (s r) t)) ∧ LS w' p b (n + 1) (exitS s r t) ∧ w.grownBy w' (some b) := by
  have hown := Lib.hid (owned_any p b n s r t hx w h)
  have hmb := h.bd r
  by_cases he : ownE (s r) t = 0
  · have hes : exitS s r t = setS s r ⟨(s r).own, (s r).cnt - 1, (s r).row⟩ := by unfold exitS; rw [if_pos he]
    have hc0 : ¬ (s r).cnt = 0 := fun h0 => by unfold ownE at he; rw [if_pos (.inl h0)] at he; cases he
    rw [hes, he]
    rw [he] at hown
    unfold Mon.v at hown
    clear he hes
    generalize s r = m at *
    obtain ⟨own, cnt, row⟩ := m
    obtain ⟨hb1, hb2, hb3⟩ := hmb
    dsimp only at hown hb1 hb2 hb3 hc0 ⊢
    go_enter Try.func30, Try.ntmps30
    go_wp2_with fail
    refine hown.out.mono ?_
    rintro _ w1 ⟨A, c, rfl, hr, hlc, hmc, hkt, hbw⟩
    have hW := ba hbw (.cells #[.int .i64 own, .int .i64 (cnt - 1), .slice A row.length c] 95)
    have hset := Lib.hid (set_any p b n s r hx own (cnt - 1) row A c _ (h.below hW) ⟨by dsimp only; omega, by dsimp only; omega, fun k hk => by have := hb3 k hk; omega⟩ (Reads.more (Reads.below hr hW) hW.size) hlc hmc (hkt.below hW) hn)
    go_wp2_with fail
    refine hset.out.mono ?_
    rintro _ w2 ⟨rfl, hL, hg⟩
    go_wp2_with fail
    go_ret
    exact ⟨rfl, hL, only_trans (only_of_below hW _) hg⟩
  · have hes : exitS s r t = s := by unfold exitS; rw [if_neg he]
    rw [hes]
    generalize ownE (s r) t = code at *
    have b1 : decide (code = 0) = false := by simpa using he
    unfold Mon.v at hown
    generalize s r = m at *
    obtain ⟨own, cnt, row⟩ := m
    dsimp only at hown
    go_enter Try.func30, Try.ntmps30
    go_wp2_with fail
    refine hown.out.mono ?_
    rintro _ w1 ⟨A, c, rfl, hr, hlc, hmc, hkt, hbw⟩
    have hW := ba hbw (.cells #[.int .i64 own, .int .i64 cnt, .slice A row.length c] 95)
    go_wp2_with fail
    go_ret
    exact ⟨rfl, (h.below hW).more (Nat.le_succ _), only_of_below hW _⟩

set_option maxRecDepth 100000 in
set_option maxHeartbeats 4000000 in
theorem wait_any (p b n : Nat) (s : Int → Mon) (r t : Int) (hx : fit64 r) (w : World) (h : LS w p b n s) (hn : n < 4398046511104) :
    Calls Try.prog 19 #[.pointer (some ⟨p, 0, none⟩), .int .i64 r, .int .i64 t] w fun e w' => e = .returned (.int .i64 (ownE (s r) t)) ∧ LS w' p b (n + 1) (waitS s r t) ∧ w.grownBy w' (some b) := by
  have hown := Lib.hid (owned_any p b n s r t hx w h)
  have hmb := h.bd r
  by_cases he : ownE (s r) t = 0
  · have hes : waitS s r t = setS s r ⟨(s r).own, 0, (s r).row ++ [⟨t, (s r).cnt, false⟩]⟩ := by unfold waitS; rw [if_pos he]
    rw [hes, he]
    rw [he] at hown
    unfold Mon.v at hown
    clear he hes
    generalize s r = m at *
    obtain ⟨own, cnt, row⟩ := m
    obtain ⟨hb1, hb2, hb3'⟩ := hmb
    dsimp only at hown hb1 hb2 hb3' ⊢
    go_enter Try.func19, Try.ntmps19
    go_wp2_with fail
    refine hown.out.mono ?_
    rintro _ w1 ⟨A, c, rfl, hr, hlc, hmc, hkt, hbw⟩
    have hW := ba hbw (.cells #[.int .i64 own, .int .i64 cnt, .slice A row.length c] 95)
    have hBx := Blk.new w1 95 #[.int .i64 own, .int .i64 cnt, .slice A row.length c]
    have hWk : Below w.heap.size w ((w1.alloc (.cells #[.int .i64 own, .int .i64 cnt, .slice A row.length c] 95)).alloc (.cells #[.int .i64 t, .int .i64 cnt, .bool false] 99)).drew := (ba hW _).drew
    have hBy : Blk ((w1.alloc (.cells #[.int .i64 own, .int .i64 cnt, .slice A row.length c] 95)).alloc (.cells #[.int .i64 t, .int .i64 cnt, .bool false] 99)).drew w1.heap.size 95 #[.int .i64 own, .int .i64 cnt, .slice A row.length c] := (hBx.alloc _).drew
    have hRa : ReadsK ((w1.alloc (.cells #[.int .i64 own, .int .i64 cnt, .slice A row.length c] 95)).alloc (.cells #[.int .i64 t, .int .i64 cnt, .bool false] 99)).drew ((w1.alloc (.cells #[.int .i64 own, .int .i64 cnt, .slice A row.length c] 95)).alloc (.cells #[.int .i64 t, .int .i64 cnt, .bool false] 99)).drew.heap.size A row := Reads.more (Reads.below hr hWk) hWk.size
    have hR1 : ReadsK ((w1.alloc (.cells #[.int .i64 own, .int .i64 cnt, .slice A row.length c] 95)).alloc (.cells #[.int .i64 t, .int .i64 cnt, .bool false] 99)).drew (w1.heap.size + 2) (some ⟨w1.heap.size + 1, 0, none⟩) [⟨t, cnt, false⟩] := by
      have h := ReadsK.one (w1.alloc (.cells #[.int .i64 own, .int .i64 cnt, .slice A row.length c] 95)) ⟨t, cnt, false⟩
      have e : (w1.alloc (.cells #[.int .i64 own, .int .i64 cnt, .slice A row.length c] 95)).heap.size = w1.heap.size + 1 := by simp
      rw [e] at h
      exact h
    have hsz : ((w1.alloc (.cells #[.int .i64 own, .int .i64 cnt, .slice A row.length c] 95)).alloc (.cells #[.int .i64 t, .int .i64 cnt, .bool false] 99)).drew.heap.size = w1.heap.size + 2 := by simp [World.drew]
    obtain ⟨A2, c2, w3, hrun3, hown3, hb3⟩ := run_appFull ((w1.alloc (.cells #[.int .i64 own, .int .i64 cnt, .slice A row.length c] 95)).alloc (.cells #[.int .i64 t, .int .i64 cnt, .bool false] 99)).drew 93 A row [⟨t, cnt, false⟩] hRa (w1.heap.size + 2) (some ⟨w1.heap.size + 1, 0, none⟩) 1 hR1 (by simp) (by simp; omega)
    have hl3 : (row ++ [(⟨t, cnt, false⟩ : Kp)]).length = row.length + 1 := by simp
    rw [hl3] at hrun3 hown3
    have hB3 : Blk w3 w1.heap.size 95 #[.int .i64 own, .int .i64 cnt, .slice A row.length c] := Blk.below hBy hb3 (by rw [hsz]; omega)
    have c00 : w3.cell? ⟨w1.heap.size, 0, none⟩ = some (.int .i64 own) := hB3.cell 0
    have c01 : w3.cell? ⟨w1.heap.size, 1, none⟩ = some (.int .i64 cnt) := hB3.cell 1
    have c02 : w3.cell? ⟨w1.heap.size, 2, none⟩ = some (.slice A row.length c) := hB3.cell 2
    have f01 := hB3.frozen 1
    have f02 := hB3.frozen 2
    dsimp only [List.length_cons, List.length_nil] at hrun3
    have hq3 := hWk.trans (hb3.mono hWk.size)
    replace hWk := Lib.hid hWk
    replace hBy := Lib.hid hBy
    replace hRa := Lib.hid hRa
    replace hR1 := Lib.hid hR1
    replace hsz := Lib.hid hsz
    replace hown3 := Lib.hid hown3
    replace hl3 := Lib.hid hl3
    go_wp2_with fail
    go_region
    all_goals
      go_wp2_with fail
      have hq5 := (hq3.setCell (p := ⟨w1.heap.size, 2, none⟩) hbw.size (.slice A2 (row.length + 1) c2)).setCell (p := ⟨w1.heap.size, 1, none⟩) hbw.size (.int .i64 0)
      have ho5 := ownK_setCell (i := 1) (ownK_setCell (i := 2) hown3.out hB3 (by decide) (.slice A2 (row.length + 1) c2)) (hB3.set_ 2 _) (by decide) (.int .i64 0)
      have hset := set_any p b n s r hx own 0 (row ++ [⟨t, cnt, false⟩]) A2 c2 _ (h.below hq5) ⟨by dsimp only; omega, by rw [hl3.out]; omega, fun k hk => by
        rcases List.mem_append.1 hk with hk | hk
        · have := hb3' k hk; omega
        · rw [List.mem_singleton.1 hk]; dsimp only; omega⟩ ho5.reads (by rw [hl3.out]; have := ho5.cap; rw [hl3.out] at this; exact this.1) ho5.cap.2 ho5.ty (by omega)
      rw [hl3.out] at hset
      refine hset.mono ?_
      rintro _ w2 ⟨rfl, hL, hg⟩
      go_wp2_with fail
      go_ret
      exact ⟨rfl, hL, only_trans (only_of_below hq5 _) hg⟩
  · have hes : waitS s r t = s := by unfold waitS; rw [if_neg he]
    rw [hes]
    generalize ownE (s r) t = code at *
    have b1 : decide (code = 0) = false := by simpa using he
    unfold Mon.v at hown
    generalize s r = m at *
    obtain ⟨own, cnt, row⟩ := m
    dsimp only at hown
    go_enter Try.func19, Try.ntmps19
    go_wp2_with fail
    refine hown.out.mono ?_
    rintro _ w1 ⟨A, c, rfl, hr, hlc, hmc, hkt, hbw⟩
    have hW := ba hbw (.cells #[.int .i64 own, .int .i64 cnt, .slice A row.length c] 95)
    go_wp2_with fail
    go_ret
    exact ⟨rfl, (h.below hW).more (Nat.le_succ _), only_of_below hW _⟩
end Go.Proofs.Ytpfgdgelnehjpaa
