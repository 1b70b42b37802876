/- A log's Add. -/
import Derived.Test.YtlehianbdamgmaaStoreM
namespace Go.Proofs.Ytlehianbdamgmaa
open Go.RowKit
set_option linter.unusedVariables false

def addCode (l : List Ent) (e : Ent) : Int := if ¬ e.ok then 1 else if e.view < viewL l then 190 else if 4096 ≤ l.length then 9 else 0
def addNew (l : List Ent) (e : Ent) : List Ent := if addCode l e = 0 then l ++ [e] else l
/-- What a log's call comes to. -/
def SPost (w : World) (F : Nat → Prop) (base g : Nat) (code : Int) (l' : List Ent) (e : Ending) (w' : World) : Prop :=
  e = .returned (.int .i64 code) ∧ St w' (Grow F w w') base g l' ∧ Turned F w w'

theorem St.from_ {w w1 w' : World} {F : Nat → Prop} {base g : Nat} {l l' : List Ent} (h : St w F base g l) (hb : Below w.heap.size w w1) (k : St w' (Grow F w1 w') base g l' ∧ Turned F w1 w') : St w' (Grow F w w') base g l' ∧ Turned F w w' := by
  obtain ⟨⟨A, c, hB, hO, hl, hbg, hFg, hFv, hFw⟩, hT⟩ := k
  obtain ⟨A0, c0, hB0, hO0, hl0, hbg0, hFg0, hFv0, hFw0⟩ := h
  have h0 := hFw0 g hFg0
  have hs := hb.size
  have hs' := hT.size
  have hm : ∀ k, Grow F w1 w' k → Grow F w w' k := fun k h => h.elim .inl fun h => .inr ⟨by omega, h.2⟩
  refine ⟨⟨A, c, hB, hO, hl, hbg, hm g hFg, fun i hi => hm i (hFv i hi), fun i hi => ?_⟩, (Turned.of_below hb).trans hT fun i _ hF => hF⟩
  rcases hi with hi | hi
  · have := hFw0 i hi; omega
  · omega
theorem boxE_below (w : World) (e : Ent) : Below w.heap.size w (w.alloc (.cells #[.int .i64 e.view, .int .i64 e.what, .int .i64 e.a, .int .i64 e.n] 33)) := (Below.refl _ _).alloc (Nat.le_refl _) _

theorem quiet_more {P : Program} {f : FuncId} {args : Array Value} {w : World} {n : Nat} {v : Value}
    (h : Calls P f args (w.drewN n) fun e w' => e = .returned v ∧ ∃ m, w' = (w.drewN n).drewN m) : Calls P f args (w.drewN n) fun e w'' => e = .returned v ∧ ∃ m, w'' = w.drewN m :=
  h.mono fun _ _ ⟨he, m, hm⟩ => ⟨he, n + m, by rw [hm, World.drewN_drewN]⟩

set_option maxRecDepth 100000 in
set_option maxHeartbeats 2000000 in
theorem add_any (g : Nat) (l : List Ent) (e : Ent) (hi : e.In) (w : World) (F : Nat → Prop) (base : Nat) (h : St w F base g l) :
    Calls Try.prog 32 #[.pointer (some ⟨g, 0, none⟩), e.val] w (SPost w F base g (addCode l e) (addNew l e)) := by
  have hb0 := boxE_below w e
  have hbx := entAt_box w e
  have hS := h.below hb0
  obtain ⟨_, _, _, k1, _⟩ := hS.cells
  have hn := fun w h => Lib.hid (none_any g true w h)
  have hc := fun w => Lib.hid (check_any e w hi)
  have hlw : w.heap.size < (w.alloc (.cells #[.int .i64 e.view, .int .i64 e.what, .int .i64 e.a, .int .i64 e.n] 33)).heap.size := by simp
  unfold Ent.val at hc ⊢
  by_cases hok : e.ok
  · simp only [Ent.err_yes hok] at hc
    go_enter Try.func32, Try.ntmps32
    go_wp2_with fail
    refine (hn _ (by assumption)).out.mono ?_
    rintro _ _ ⟨rfl, rfl⟩
    go_wp2_with fail
    refine (hc _).out.mono ?_
    rintro _ w2 ⟨rfl, hb2⟩
    generalize w.alloc (.cells #[.int .i64 e.view, .int .i64 e.what, .int .i64 e.a, .int .i64 e.n] 33) = W at *
    have hS2 := hS.below hb2
    have hbx2 := hbx.keep hb2 hlw
    have hbel := hb0.trans (hb2.mono hb0.size)
    have hlw2 : w.heap.size < w2.heap.size := by have := hb2.size; omega
    have hbx2' := hbx2
    obtain ⟨b0, b1, b2, b3⟩ := hbx2
    have hv := fun m => view_any g l (w2.drewN m) F base (hS2.below (below_drewN (Below.refl _ _) m))
    replace hv := Lib.hid hv
    clear hbx k1 hS hb2 hb0 hlw hc
    by_cases hvw : e.view < viewL l
    · have b1 : decide (e.view < viewL l) = true := decide_eq_true hvw
      have hcode : addCode l e = 190 := by unfold addCode; rw [if_neg (by simp [hok]), if_pos hvw]
      go_wp2_with fail
      go_quiet ((go_at_call 35; exact quiet_more (hv.out _)))
      go_wp2_with fail
      go_ret
      refine ⟨by rw [hcode]; rfl, ?_⟩
      unfold addNew
      rw [hcode, if_neg (by decide)]
      exact h.grow (below_drewN hbel _)
    · have b1 : decide (e.view < viewL l) = false := decide_eq_false hvw
      go_wp2_with fail
      go_quiet ((go_at_call 35; exact quiet_more (hv.out _)))
      obtain ⟨m1, rfl⟩ : ∃ m, m = nq := ⟨_, rfl⟩
      have hS3 := hS2.below (below_drewN (Below.refl _ _) m1)
      have hbel3 := below_drewN hbel m1
      obtain ⟨A, c, c0, c1, f0, hlt, hr, hcl, hm⟩ := hS3.cells
      replace hcl := Lib.hid hcl
      replace hm := Lib.hid hm
      by_cases hfull : 4096 ≤ l.length
      · have hcode : addCode l e = 9 := by unfold addCode; rw [if_neg (by simp [hok]), if_neg (show ¬ e.view < viewL l by omega), if_pos hfull]
        go_wp2_with fail
        go_ret
        refine ⟨by rw [hcode]; rfl, ?_⟩
        unfold addNew
        rw [hcode, if_neg (by decide)]
        exact h.grow hbel3
      · have hcode : addCode l e = 0 := by unfold addCode; rw [if_neg (by simp [hok]), if_neg (show ¬ e.view < viewL l by omega), if_neg hfull]
        have hnew : addNew l e = l ++ [e] := by unfold addNew; rw [hcode, if_pos rfl]
        replace hcode := Lib.hid hcode
        replace hnew := Lib.hid hnew
        have hlw3 : w.heap.size < (w2.drewN m1).heap.size := by simpa using hlw2
        have hbx3 := hbx2'.drewN m1
        clear b0 b1 b2 b3 hbx2' hbel hS2 hv hlw2
        generalize w2.drewN m1 = W3 at *
        obtain ⟨b0, b1, b2, b3⟩ := hbx3
        have hlw4 : w.heap.size ≠ g := by have := h.lt g (by obtain ⟨_, _, _, _, _, _, hFg, _⟩ := h; exact hFg); omega
        have hS3' := hS3
        obtain ⟨A', c', hB, hO, hl4, hbg, hFg, hFv, hFw⟩ := hS3
        have e1 := hB.cell 0
        rw [c0] at e1
        obtain ⟨rfl, rfl⟩ : A = A' ∧ c = c' := by simpa using e1
        clear e1
        have hR1 := Lib.hid (ReadsE.one W3 e)
        have hBa := Lib.hid (Blk.alloc hB (.cells #[.int .i64 e.view, .int .i64 e.what, .int .i64 e.a, .int .i64 e.n] 33))
        have hOa := Lib.hid (OwnE.alloc hO (.cells #[.int .i64 e.view, .int .i64 e.what, .int .i64 e.a, .int .i64 e.n] 33))
        have hzl : (l ++ [e]).length = l.length + 1 := by simp
        replace hzl := Lib.hid hzl
        have hgv := own_blk_ne hO hB (by decide)
        have hbs : base ≤ W3.heap.size + 1 := by have := (hFw g hFg); omega
        go_wp2_with fail
        go_region_law (first
          | (refine step_appE (W3.alloc (.cells #[.int .i64 e.view, .int .i64 e.what, .int .i64 e.a, .int .i64 e.n] 33)).drew (by rfl) (.tmp 29) (.tmp 31) (by rfl) base (.slice A l.length c) l (by simp [Act.eval]) hOa.out (W3.heap.size + 1) (some ⟨W3.heap.size, 0, none⟩) 1 1 [e] (by simp [Act.eval]) hR1.out rfl
              (l ++ [e]) (l.length + 1) rfl hzl.out (by omega) (by simp; omega) ?_
             intro A2 c2 w3 hown2 hg2 hb3 hat2
             have hB2 : Blk w3 g 53 #[.slice A l.length c, .bool true] := Blk.grown (w := (W3.alloc (.cells #[.int .i64 e.view, .int .i64 e.what, .int .i64 e.a, .int .i64 e.n] 33)).drew) hBa.out hg2 hgv.symm
             have c02 : w3.cell? ⟨g, 0, none⟩ = some (.slice A l.length c) := hB2.cell 0
             have f02 := hB2.frozen 0))
        all_goals
          go_wp2_with fail
          go_ret
          refine ⟨by rw [hcode.out]; rfl, ?_⟩
          rw [hnew.out]
          exact h.from_ hbel3 (st_push hB hO hbg hFg hFv hFw (boxE_below W3 e).drew hown2 (Nat.le_refl _) (.inr rfl) hg2 (hat2.elim .inl fun h => .inr (.inl h)) hzl.out.symm (by rw [hzl.out]; omega))
  · have hcode : addCode l e = 1 := by unfold addCode; rw [if_pos (by simp [hok])]
    simp only [Ent.err_no hok] at hc
    go_enter Try.func32, Try.ntmps32
    go_wp2_with fail
    refine (hn _ (by assumption)).out.mono ?_
    rintro _ _ ⟨rfl, rfl⟩
    go_wp2_with fail
    refine (hc _).out.mono ?_
    rintro _ w2 ⟨rfl, hb2⟩
    generalize w.alloc (.cells #[.int .i64 e.view, .int .i64 e.what, .int .i64 e.a, .int .i64 e.n] 33) = W at *
    go_wp2_with fail
    go_ret
    refine ⟨by rw [hcode]; rfl, ?_⟩
    unfold addNew
    rw [hcode, if_neg (by decide)]
    exact h.grow (hb0.trans (hb2.mono hb0.size))
