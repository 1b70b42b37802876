/- The reference's log, and its methods. -/
import Derived.Test.YtlehianbdamgmaaStoreS
import Derived.Deep.RegionHeldLaw
namespace Go.Proofs.Ytlehianbdamgmaa
open Go.RowKit
set_option linter.unusedVariables false

theorem Reads.off {w w' : World} {B size n : Nat} {ad : Addr} {xs : List Value} (h : Reads w B size (some ad) n xs) (hb : w'.heap[ad.block]? = w.heap[ad.block]?) : Reads w' B size (some ad) n xs :=
  ⟨h.1, fun hn => by
    obtain ⟨ad', e, hB, hc⟩ := h.2 hn
    injection e with e
    subst e
    refine ⟨_, rfl, hB, fun j u hu => ?_⟩
    rw [← hc j u hu]
    exact World.cell?_of_block (by rw [block_of_add]; exact hb)⟩
theorem OwnE.empty (w : World) : OwnE (w.alloc (.cells #[] 33)) w.heap.size (.slice (some ⟨w.heap.size, 0, none⟩) 0 0) [] :=
  World.ownsRow_lit (base := w.heap.size) (e := 33) (size := 4) w #[] 0 (Nat.le_refl _) (by unfold maxLen; omega) rfl
/-- A log of the entries l. Its blocks are F's, none below base. -/
def RSt (w : World) (F : Nat → Prop) (base g : Nat) (l : List Ent) : Prop :=
  ∃ A c, Blk w g 60 #[.slice A l.length c] ∧ OwnE w base (.slice A l.length c) l ∧ l.length ≤ 4096 ∧ base ≤ g ∧
    F g ∧ (∀ k, (Value.slice A l.length c).ownBlock = some k → F k) ∧ (∀ k, F k → base ≤ k ∧ k < w.heap.size)


/-- What becomes of a log when a new row is stored. -/
theorem rst_set {F : Nat → Prop} {w w2 : World} {base g n' c2 : Nat} {A2 : Option Addr} {l zs' : List Ent}
    (h : RSt w F base g l) (ha : Below w.heap.size w w2) (hown2 : OwnE w2 w.heap.size (.slice A2 n' c2) zs') (hn : n' = zs'.length) (hl : zs'.length ≤ 4096) :
    RSt (w2.setCell ⟨g, 0, none⟩ (.slice A2 n' c2)) (Grow F w (w2.setCell ⟨g, 0, none⟩ (.slice A2 n' c2))) base g zs' ∧ Turned F w (w2.setCell ⟨g, 0, none⟩ (.slice A2 n' c2)) := by
  subst hn
  obtain ⟨A, c, hB, hO, hl0, hbg, hFg, hFv, hFw⟩ := h
  have hB2 := hB.below ha hB.lt
  have hsz : (w2.setCell ⟨g, 0, none⟩ (.slice A2 zs'.length c2)).heap.size = w2.heap.size := by simp [World.setCell]
  have hT3 : Turned F w (w2.setCell ⟨g, 0, none⟩ (.slice A2 zs'.length c2)) := (Turned.of_below ha).setCell (.inl hFg) _
  have hs := ha.size
  have hbs : base ≤ w.heap.size := by have := hFw g hFg; omega
  refine ⟨⟨A2, c2, hB2.set_ 0 _, (ownE_setCell hown2 hB2 (by decide) _).base_ hbs, hl, hbg, .inl hFg, fun k hk => ?_, fun k hk => ?_⟩, hT3⟩
  · have := hown2.lt k hk
    exact .inr ⟨by omega, by omega⟩
  · rcases hk with h | h
    · have := hFw k h; omega
    · exact ⟨by omega, by omega⟩
section
variable {w w' : World} {F G : Nat → Prop} {base g : Nat} {l : List Ent}
theorem RSt.turned (h : RSt w F base g l) (k : Turned G w w') (hd : ∀ i, F i → ¬ G i) : RSt w' F base g l := by
  obtain ⟨A, c, hB, hO, hl, hbg, hFg, hFv, hFw⟩ := h
  exact ⟨A, c, hB.turned k (hd g hFg), own_turned hO k (fun i hi => hd i (hFv i hi)), hl, hbg, hFg, hFv, fun i hi => ⟨(hFw i hi).1, by have := (hFw i hi).2; have := k.size; omega⟩⟩
theorem RSt.below (h : RSt w F base g l) (k : Below w.heap.size w w') : RSt w' F base g l :=
  h.turned (Turned.of_below (F := fun _ => False) k) fun _ _ h => h
theorem RSt.grow (h : RSt w F base g l) (k : Below w.heap.size w w') : RSt w' (Grow F w w') base g l ∧ Turned F w w' := by
  refine ⟨?_, Turned.of_below k⟩
  obtain ⟨A, c, hB, hO, hl, hbg, hFg, hFv, hFw⟩ := h.below k
  refine ⟨A, c, hB, hO, hl, hbg, .inl hFg, fun i hi => .inl (hFv i hi), fun i hi => ?_⟩
  rcases hi with hi | hi
  · exact hFw i hi
  · obtain ⟨A', c', hB', hO', hl', hbg', hFg', hFv', hFw'⟩ := h
    have := hFw' g hFg'
    exact ⟨by omega, hi.2⟩
theorem RSt.lt (h : RSt w F base g l) (k : Nat) (hk : F k) : base ≤ k ∧ k < w.heap.size := by
  obtain ⟨A, c, hB, hO, hl, hbg, hFg, hFv, hFw⟩ := h
  exact hFw k hk
theorem RSt.len (h : RSt w F base g l) : l.length ≤ 4096 := by
  obtain ⟨A, c, hB, hO, hl, _⟩ := h
  exact hl
theorem RSt.cells (h : RSt w F base g l) : ∃ A c, w.cell? ⟨g, 0, none⟩ = some (.slice A l.length c) ∧ w.frozen? ⟨g, 0, none⟩ = false ∧ g < w.heap.size ∧ ReadsE w w.heap.size A l ∧ l.length ≤ c ∧ c ≤ maxLen := by
  obtain ⟨A, c, hB, hO, hl, _⟩ := h
  exact ⟨A, c, hB.cell 0, hB.frozen 0, hB.lt, hO.reads, hO.cap.1, hO.cap.2⟩
end


/-- What a call of the reference's log comes to. -/
def RSPost (w : World) (F : Nat → Prop) (base g : Nat) (code : Int) (l' : List Ent) (e : Ending) (w' : World) : Prop :=
  e = .returned (.int .i64 code) ∧ RSt w' (Grow F w w') base g l' ∧ Turned F w w'
theorem RSt.from_ {w w1 w' : World} {F : Nat → Prop} {base g : Nat} {l l' : List Ent} (h : RSt w F base g l) (hb : Below w.heap.size w w1) (k : RSt w' (Grow F w1 w') base g l' ∧ Turned F w1 w') : RSt w' (Grow F w w') base g l' ∧ Turned F w w' := by
  obtain ⟨⟨A, c, hB, hO, hl, hbg, hFg, hFv, hFw⟩, hT⟩ := k
  obtain ⟨A0, c0, hB0, hO0, hl0, hbg0, hFg0, hFv0, hFw0⟩ := h
  have h0 := hFw0 g hFg0
  have hs := hb.size
  have hs' := hT.size
  have hm : ∀ k, Grow F w1 w' k → Grow F w w' k := fun k h => h.elim .inl fun h => .inr ⟨by omega, h.2⟩
  refine ⟨⟨A, c, hB, hO, hl, hbg, hm g hFg, fun i hi => hm i (hFv i hi), fun i hi => ?_⟩, (Turned.of_below hb).trans hT fun i _ hF => hF⟩
  rcases hi with hi | hi
  · have := hFw0 i hi; omega
  · omega
set_option maxRecDepth 100000 in
set_option maxHeartbeats 4000000 in
theorem rview_any (g : Nat) (l : List Ent) (w : World) (F : Nat → Prop) (base : Nat) (h : RSt w F base g l) :
    Calls Try.prog 41 #[.pointer (some ⟨g, 0, none⟩)] w fun e w' => e = .returned (.int .i64 (viewL l)) ∧ ∃ n, w' = w.drewN n := by
  obtain ⟨A, c, c0, f0, hlt, hr, hc, hm⟩ := h.cells
  have hl := h.len
  unfold maxLen at hm
  by_cases h0 : l.length = 0
  · have hv : viewL l = 0 := by rw [List.eq_nil_of_length_eq_zero h0]; rfl
    replace hv := Lib.hid hv
    have b1 : ((l.length : Int) == 0) = true := by rw [beq_iff_eq]; omega
    have b2 : (l.length == 0) = true := by rw [beq_iff_eq]; omega
    clear h0
    go_enter Try.func41, Try.ntmps41
    go_wp2_with fail
    go_ret
    exact ⟨by rw [hv.out]; rfl, 0, rfl⟩
  · obtain ⟨K, hK⟩ : ∃ K, l.length = K + 1 := ⟨l.length - 1, by omega⟩
    obtain ⟨x, hx⟩ := ent_at (show K < l.length by omega)
    have hv : viewL l = x.view := by
      unfold viewL
      rw [List.getLast?_eq_getElem?, show l.length - 1 = K from by omega, hx]
    replace hv := Lib.hid hv
    obtain ⟨ad, rfl, _, e1⟩ := hr.at_ hx
    obtain ⟨a0, a1, a2, a3⟩ := e1
    have b1 : ((l.length : Int) == 0) = false := by rw [beq_eq_false_iff_ne]; omega
    have b2 : (l.length == 0) = false := by rw [beq_eq_false_iff_ne]; omega
    have g1 : IntKind.i64.wrap ((l.length : Int) - 1) = (K : Int) := by rw [IntKind.wrap_i64]; omega
    have g2 : ((l.length : Int) - 1) = (K : Int) := by omega
    have g3 : decide ((K : Int) < (l.length : Int)) = true := decide_eq_true (by omega)
    have g4 : K < l.length := by omega
    replace hK := Lib.hid hK
    clear h0 hx
    go_enter Try.func41, Try.ntmps41
    go_wp2_with fail
    go_quiet (fail)
    go_wp2_with fail
    go_ret
    exact ⟨by rw [hv.out]; rfl, _, rfl⟩
set_option maxRecDepth 100000 in
set_option maxHeartbeats 4000000 in
theorem rset_any (g : Nat) (l new : List Ent) (A2 : Option Addr) (c2 : Nat) (w : World) (F : Nat → Prop) (base : Nat) (h : RSt w F base g l) (hr2 : ReadsE w w.heap.size A2 new) (hi : InL new) (hm2 : new.length ≤ maxLen) :
    Calls Try.prog 38 #[.pointer (some ⟨g, 0, none⟩), .slice A2 new.length c2] w (RSPost w F base g (checkL new) (setNew l new)) := by
  have hck := Lib.hid (rscheck_any A2 c2 new w hr2 hm2)
  by_cases h0 : checkL new = 0
  · have hs : setNew l new = new := if_pos h0
    have h4 := checkL_len h0
    rw [hs, h0]
    rw [h0] at hck
    clear h0
    go_enter Try.func38, Try.ntmps38
    go_wp2_with fail
    refine hck.out.mono ?_
    rintro _ w1 ⟨rfl, hb1⟩
    have hS1 := h.below hb1
    have hS1' := hS1
    obtain ⟨A', c', hB, hO, hl4, hbg, hFg, hFv, hFw⟩ := hS1
    have q0 : w1.cell? ⟨g, 0, none⟩ = some (.slice A' l.length c') := hB.cell 0
    have hlt := hB.lt
    have hO0 := Lib.hid (OwnE.empty w1)
    have hr3 := Lib.hid (Reads.alloc ((ReadsE.below hr2 hb1).more hb1.size) (Nat.le_refl _) (.cells #[] 33))
    have hz1 : (w1.alloc (.cells #[] 33)).heap.size = w1.heap.size + 1 := by simp
    replace hz1 := Lib.hid hz1
    go_wp2_with (first
      | (at_builtin
         refine wpList_appE _ rfl (.tmp 11) (.tmp 12) rfl w1.heap.size (.slice (some ⟨w1.heap.size, 0, none⟩) 0 0) [] rfl hO0.out w1.heap.size A2 new.length c2 new rfl hr3.out rfl new new.length rfl rfl (by omega) (by rw [hz1.out]; omega) ?_
         intro A3 c3 w3 hown3 hg3 hb3 hat3
         have hbb : Below w1.heap.size w1 w3 := ((Below.refl _ _).alloc (Nat.le_refl _) (.cells #[] 33)).trans hb3
         have hB3 := hB.below hbb hlt
         have c03 : w3.cell? ⟨g, 0, none⟩ = some (.slice A' l.length c') := hB3.cell 0
         have f03 := hB3.frozen 0))
    go_ret
    exact ⟨rfl, h.from_ hb1 (rst_set hS1' hbb hown3 rfl h4)⟩
  · have hs : setNew l new = l := if_neg h0
    have b0 : (checkL new == 0) = false := beq_eq_false_iff_ne.2 h0
    rw [hs]
    generalize checkL new = cn at *
    clear h0
    go_enter Try.func38, Try.ntmps38
    go_wp2_with fail
    refine hck.out.mono ?_
    rintro _ w1 ⟨rfl, hb1⟩
    go_wp2_with fail
    go_ret
    exact ⟨rfl, h.grow hb1⟩

set_option maxRecDepth 100000 in
set_option maxHeartbeats 2000000 in
theorem rat_any (g : Nat) (l : List Ent) (i : Int) (w : World) (F : Nat → Prop) (base : Nat) (h : RSt w F base g l) :
    Calls Try.prog 39 #[.pointer (some ⟨g, 0, none⟩), .int .i64 i] w fun e w' => e = .returned (.tuple #[(atV l i).val, .int .i64 (atC l i)]) ∧ Below w.heap.size w w' := by
  have hba : Below w.heap.size w (w.alloc (.cells #[.int .i64 0, .int .i64 0, .int .i64 0, .int .i64 0] 33)) := (Below.refl _ _).alloc (Nat.le_refl _) _
  have hl4 := h.len
  obtain ⟨Ab, cb, k0, kf, klt, kr, kc, km⟩ := h.cells
  have c0 := (hba.cell (p := ⟨g, 0, none⟩) klt).trans k0
  by_cases hin : 0 ≤ i ∧ i < l.length
  · obtain ⟨k, rfl⟩ := Int.eq_ofNat_of_zero_le hin.1
    have hk : k < l.length := by omega
    obtain ⟨x, hx⟩ := ent_at hk
    obtain ⟨e1, e2⟩ := atV_in hx
    rw [e1, e2]
    obtain ⟨ad, rfl, hB, ex⟩ := kr.at_ hx
    have hB' : (ad.add (k * 4)).block < w.heap.size := by rw [block_of_add]; exact hB
    obtain ⟨a0, a1, a2, a3⟩ := ex.alloc hB' (.cells #[.int .i64 0, .int .i64 0, .int .i64 0, .int .i64 0] 33)
    have b1 : decide ((k : Int) < 0) = false := decide_eq_false (by omega)
    have b2 : decide ((l.length : Int) ≤ (k : Int)) = false := decide_eq_false (by omega)
    have b3 : decide (l.length ≤ k) = false := decide_eq_false (by omega)
    clear e1 e2 hin hx
    go_enter Try.func39, Try.ntmps39
    go_wp2_with fail
    refine bodyPost_ret (v := .tuple #[.agg #[.int .i64 x.view, .int .i64 x.what, .int .i64 x.a, .int .i64 x.n], .int .i64 0]) (by simp [results, Try.results39, go_sem]) rfl ⟨rfl, ?_⟩
    exact (Below.refl _ _).alloc (Nat.le_refl _) _
  · obtain ⟨e1, e2⟩ := atV_out hin
    rw [e1, e2]
    by_cases h0 : i < 0
    · have b1 : decide (i < 0) = true := decide_eq_true h0
      clear e1 e2 hin
      go_enter Try.func39, Try.ntmps39
      go_wp2_with fail
      refine bodyPost_ret (v := .tuple #[.agg #[.int .i64 0, .int .i64 0, .int .i64 0, .int .i64 0], .int .i64 1]) (by simp [results, Try.results39, go_sem]) rfl ⟨rfl, ?_⟩
      exact (Below.refl _ _).alloc (Nat.le_refl _) _
    · have b1 : decide (i < 0) = false := decide_eq_false h0
      have b2 : decide ((l.length : Int) ≤ i) = true := decide_eq_true (by omega)
      clear e1 e2 hin
      go_enter Try.func39, Try.ntmps39
      go_wp2_with fail
      refine bodyPost_ret (v := .tuple #[.agg #[.int .i64 0, .int .i64 0, .int .i64 0, .int .i64 0], .int .i64 1]) (by simp [results, Try.results39, go_sem]) rfl ⟨rfl, ?_⟩
      exact (Below.refl _ _).alloc (Nat.le_refl _) _



set_option maxRecDepth 100000 in
set_option maxHeartbeats 4000000 in
theorem radd_any (g : Nat) (l : List Ent) (e : Ent) (hi : e.In) (w : World) (F : Nat → Prop) (base : Nat) (h : RSt w F base g l) :
    Calls Try.prog 37 #[.pointer (some ⟨g, 0, none⟩), e.val] w (RSPost w F base g (addCode l e) (addNew l e)) := by
  have hb0 := boxE_below w e
  have hbx := entAt_box w e
  have hS := h.below hb0
  have hc := fun w => Lib.hid (rcheck_any e w)
  have hlw : w.heap.size < (w.alloc (.cells #[.int .i64 e.view, .int .i64 e.what, .int .i64 e.a, .int .i64 e.n] 33)).heap.size := by simp
  unfold Ent.val at hc ⊢
  by_cases hok : e.ok
  · simp only [Ent.err_yes hok] at hc
    go_enter Try.func37, Try.ntmps37
    go_wp2_with fail
    refine (hc _).out.mono ?_
    rintro _ w2 ⟨rfl, hb2⟩
    generalize w.alloc (.cells #[.int .i64 e.view, .int .i64 e.what, .int .i64 e.a, .int .i64 e.n] 33) = W0 at *
    have hS2 := hS.below hb2
    have hbx2 := hbx.keep hb2 hlw
    have hbel := hb0.trans (hb2.mono hb0.size)
    have hlw2 : w.heap.size < w2.heap.size := by have := hb2.size; omega
    have hbx2' := hbx2
    obtain ⟨b0, b1, b2, b3⟩ := hbx2
    have hv := fun m => rview_any g l (w2.drewN m) F base (hS2.below (below_drewN (Below.refl _ _) m))
    replace hv := Lib.hid hv
    clear hbx hS hb2 hb0 hlw hc
    by_cases hvw : e.view < viewL l
    · have b1 : decide (e.view < viewL l) = true := decide_eq_true hvw
      have hcode : addCode l e = 190 := by unfold addCode; rw [if_neg (by simp [hok]), if_pos hvw]
      go_wp2_with fail
      go_quiet ((go_at_call 41; exact quiet_more (hv.out _)))
      go_wp2_with fail
      go_ret
      refine ⟨by rw [hcode]; rfl, ?_⟩
      unfold addNew
      rw [hcode, if_neg (by decide)]
      exact h.grow (below_drewN hbel _)
    · have b1 : decide (e.view < viewL l) = false := decide_eq_false hvw
      go_wp2_with fail
      go_quiet ((go_at_call 41; exact quiet_more (hv.out _)))
      obtain ⟨m1, rfl⟩ : ∃ m, m = nq := ⟨_, rfl⟩
      have hS3 := hS2.below (below_drewN (Below.refl _ _) m1)
      have hbel3 := below_drewN hbel m1
      obtain ⟨A, c, c0, f0, hlt, hr, hcl, hm⟩ := hS3.cells
      replace hcl := Lib.hid hcl
      replace hm := Lib.hid hm
      by_cases hfull : 4096 ≤ l.length
      · have hcode : addCode l e = 9 := by unfold addCode; rw [if_neg (by simp [hok]), if_neg (show ¬ e.view < viewL l by omega), if_pos hfull]
        go_wp2_with fail
        go_ret
        refine ⟨by rw [hcode]; rfl, ?_⟩
        unfold addNew
        rw [hcode, if_neg (by decide)]
        exact h.grow hbel3
      · have hcode : addCode l e = 0 := by unfold addCode; rw [if_neg (by simp [hok]), if_neg (show ¬ e.view < viewL l by omega), if_neg hfull]
        have hnew : addNew l e = l ++ [e] := by unfold addNew; rw [hcode, if_pos rfl]
        replace hcode := Lib.hid hcode
        replace hnew := Lib.hid hnew
        have hXl : w.heap.size < (w2.drewN m1).heap.size := by simpa using hlw2
        have hgl : g < (w2.drewN m1).heap.size := hlt
        have hbx3 := hbx2'.drewN m1
        clear b0 b1 b2 b3 hbx2' hbel hS2 hv hlw2 hlt
        generalize w2.drewN m1 = W at *
        generalize hX : w.heap.size = X at *
        obtain ⟨x0, x1, x2, x3⟩ := hbx3
        have hzl : (l ++ [e]).length = l.length + 1 := by simp
        replace hzl := Lib.hid hzl
        have hOa := Lib.hid (OwnE.empty W)
        have hOb := Lib.hid (OwnE.alloc (OwnE.empty W) (.cells #[.int .i64 e.view, .int .i64 e.what, .int .i64 e.a, .int .i64 e.n] 33))
        have hOc : Hid (OwnE ((W.alloc (.cells #[.int .i64 e.view, .int .i64 e.what, .int .i64 e.a, .int .i64 e.n] 33)).alloc (.cells #[] 33)) W.heap.size (.slice (some ⟨W.heap.size + 1, 0, none⟩) 0 0) []) := Lib.hid (by
          have := (OwnE.empty (W.alloc (.cells #[.int .i64 e.view, .int .i64 e.what, .int .i64 e.a, .int .i64 e.n] 33))).base_ (b := W.heap.size) (by simp)
          simpa using this)
        have hRa := Lib.hid (Reads.alloc hr (Nat.le_refl _) (.cells #[] 33))
        have hRb := Lib.hid (Reads.alloc (Reads.alloc hr (Nat.le_refl _) (.cells #[] 33)) (by simp) (.cells #[.int .i64 e.view, .int .i64 e.what, .int .i64 e.a, .int .i64 e.n] 33))
        have hRc := Lib.hid (Reads.alloc (Reads.alloc hr (Nat.le_refl _) (.cells #[.int .i64 e.view, .int .i64 e.what, .int .i64 e.a, .int .i64 e.n] 33)) (by simp) (.cells #[] 33))
        have hXb : Hid (ReadsE ((W.alloc (.cells #[] 33)).alloc (.cells #[.int .i64 e.view, .int .i64 e.what, .int .i64 e.a, .int .i64 e.n] 33)) (W.heap.size + 1 + 1) (some ⟨W.heap.size + 1, 0, none⟩) [e]) := Lib.hid (by
          have := ReadsE.one (W.alloc (.cells #[] 33)) e
          simpa using this)
        have hXc : Hid (ReadsE ((W.alloc (.cells #[.int .i64 e.view, .int .i64 e.what, .int .i64 e.a, .int .i64 e.n] 33)).alloc (.cells #[] 33)) (W.heap.size + 1) (some ⟨W.heap.size, 0, none⟩) [e]) := Lib.hid (Reads.alloc (ReadsE.one W e) (by simp) _)
        have hBa : Hid (Below W.heap.size W (W.alloc (.cells #[] 33)).drew) := Lib.hid ((Below.refl _ _).alloc (Nat.le_refl _) _).drew
        have hBb : Hid (Below W.heap.size W ((W.alloc (.cells #[] 33)).alloc (.cells #[.int .i64 e.view, .int .i64 e.what, .int .i64 e.a, .int .i64 e.n] 33)).drew) := Lib.hid (((Below.refl _ _).alloc (Nat.le_refl _) _).alloc (by simp) _).drew
        have hBc : Hid (Below W.heap.size W ((W.alloc (.cells #[.int .i64 e.view, .int .i64 e.what, .int .i64 e.a, .int .i64 e.n] 33)).alloc (.cells #[] 33)).drew) := Lib.hid (((Below.refl _ _).alloc (Nat.le_refl _) _).alloc (by simp) _).drew
        have hgX : g ≠ X := by have := h.lt g (by obtain ⟨_, _, _, _, _, _, hFg, _⟩ := h; exact hFg); omega
        clear hr
        go_wp2_with fail
        go_region_law (first
        | (refine step_appE (w3.alloc (.cells #[.int .i64 e.view, .int .i64 e.what, .int .i64 e.a, .int .i64 e.n] 33)) (by rfl) (.tmp 25) (.tmp 27) (by rfl) W.heap.size (.slice A3 l.length c3) l (by simp [Act.eval]) (OwnE.alloc hown3 _) (w3.heap.size + 1) (some ⟨w3.heap.size, 0, none⟩) 1 1 [e] (by simp [Act.eval]) (ReadsE.one w3 e) rfl
              (l ++ [e]) (l.length + 1) rfl hzl.out (by omega) (by first | omega | (simp; done) | (simp; omega)) ?_
           intro A9 c9 w9 hown9 hg9 hb9 hat9
           have hq9 : Below W.heap.size W w9 := (hq3.alloc hq3.size (.cells #[.int .i64 e.view, .int .i64 e.what, .int .i64 e.a, .int .i64 e.n] 33)).trans hb9
           have m0 : w9.cell? ⟨g, 0, none⟩ = some (.slice A l.length c) := (hq9.cell (p := ⟨g, 0, none⟩) hgl).trans c0
           have mf := (hq9.frozen (p := ⟨g, 0, none⟩) hgl).trans f0
           have me0 : w9.cell? ⟨X, 0, none⟩ = some (.int .i64 e.view) := (hq9.cell (p := ⟨X, 0, none⟩) hXl).trans x0
           have me1 : w9.cell? ⟨X, 1, none⟩ = some (.int .i64 e.what) := (hq9.cell (p := ⟨X, 1, none⟩) hXl).trans x1
           have me2 : w9.cell? ⟨X, 2, none⟩ = some (.int .i64 e.a) := (hq9.cell (p := ⟨X, 2, none⟩) hXl).trans x2
           have me3 : w9.cell? ⟨X, 3, none⟩ = some (.int .i64 e.n) := (hq9.cell (p := ⟨X, 3, none⟩) hXl).trans x3)
        | (refine step_appE w3 (by rfl) (.tmp 25) (.tmp 27) (by rfl) W.heap.size (.slice A3 l.length c3) l (by simp [Act.eval]) hown3 w3.heap.size (some ⟨W.heap.size + 1, 0, none⟩) 1 1 [e] (by simp [Act.eval]) hx3 rfl
              (l ++ [e]) (l.length + 1) rfl hzl.out (by omega) (by first | omega | (simp; done) | (simp; omega)) ?_
           intro A9 c9 w9 hown9 hg9 hb9 hat9
           have hq9 : Below W.heap.size W w9 := hq3.trans hb9
           have m0 : w9.cell? ⟨g, 0, none⟩ = some (.slice A l.length c) := (hq9.cell (p := ⟨g, 0, none⟩) hgl).trans c0
           have mf := (hq9.frozen (p := ⟨g, 0, none⟩) hgl).trans f0
           have me0 : w9.cell? ⟨X, 0, none⟩ = some (.int .i64 e.view) := (hq9.cell (p := ⟨X, 0, none⟩) hXl).trans x0
           have me1 : w9.cell? ⟨X, 1, none⟩ = some (.int .i64 e.what) := (hq9.cell (p := ⟨X, 1, none⟩) hXl).trans x1
           have me2 : w9.cell? ⟨X, 2, none⟩ = some (.int .i64 e.a) := (hq9.cell (p := ⟨X, 2, none⟩) hXl).trans x2
           have me3 : w9.cell? ⟨X, 3, none⟩ = some (.int .i64 e.n) := (hq9.cell (p := ⟨X, 3, none⟩) hXl).trans x3)
        | (refine step_appE w3 (by rfl) (.tmp 25) (.tmp 27) (by rfl) W.heap.size (.slice A3 l.length c3) l (by simp [Act.eval]) hown3 w3.heap.size (some ⟨W.heap.size, 0, none⟩) 1 1 [e] (by simp [Act.eval]) hx3 rfl
              (l ++ [e]) (l.length + 1) rfl hzl.out (by omega) (by first | omega | (simp; done) | (simp; omega)) ?_
           intro A9 c9 w9 hown9 hg9 hb9 hat9
           have hq9 : Below W.heap.size W w9 := hq3.trans hb9
           have m0 : w9.cell? ⟨g, 0, none⟩ = some (.slice A l.length c) := (hq9.cell (p := ⟨g, 0, none⟩) hgl).trans c0
           have mf := (hq9.frozen (p := ⟨g, 0, none⟩) hgl).trans f0
           have me0 : w9.cell? ⟨X, 0, none⟩ = some (.int .i64 e.view) := (hq9.cell (p := ⟨X, 0, none⟩) hXl).trans x0
           have me1 : w9.cell? ⟨X, 1, none⟩ = some (.int .i64 e.what) := (hq9.cell (p := ⟨X, 1, none⟩) hXl).trans x1
           have me2 : w9.cell? ⟨X, 2, none⟩ = some (.int .i64 e.a) := (hq9.cell (p := ⟨X, 2, none⟩) hXl).trans x2
           have me3 : w9.cell? ⟨X, 3, none⟩ = some (.int .i64 e.n) := (hq9.cell (p := ⟨X, 3, none⟩) hXl).trans x3)
        | (refine step_appE (W.alloc (.cells #[] 33)).drew (by rfl) (.tmp 20) (.tmp 24) (by rfl) W.heap.size (.slice (some ⟨W.heap.size, 0, none⟩) 0 0) [] (by simp [Act.eval]) hOa.out W.heap.size A l.length c l (by simp [Act.eval]) hRa.out rfl
              l l.length rfl rfl (by omega) (by first | omega | (simp; done) | (simp; omega)) ?_
           intro A3 c3 w3 hown3 hg3 hb3 hat3
           have hq3 : Below W.heap.size W w3 := hBa.out.trans hb3
           have hx3 : True := trivial
           have hz3 := hq3.size
           have k0 : w3.cell? ⟨g, 0, none⟩ = some (.slice A l.length c) := (hq3.cell (p := ⟨g, 0, none⟩) hgl).trans c0
           have kf := (hq3.frozen (p := ⟨g, 0, none⟩) hgl).trans f0
           have ke0 : w3.cell? ⟨X, 0, none⟩ = some (.int .i64 e.view) := (hq3.cell (p := ⟨X, 0, none⟩) hXl).trans x0
           have ke1 : w3.cell? ⟨X, 1, none⟩ = some (.int .i64 e.what) := (hq3.cell (p := ⟨X, 1, none⟩) hXl).trans x1
           have ke2 : w3.cell? ⟨X, 2, none⟩ = some (.int .i64 e.a) := (hq3.cell (p := ⟨X, 2, none⟩) hXl).trans x2
           have ke3 : w3.cell? ⟨X, 3, none⟩ = some (.int .i64 e.n) := (hq3.cell (p := ⟨X, 3, none⟩) hXl).trans x3)
        | (refine step_appE ((W.alloc (.cells #[] 33)).alloc (.cells #[.int .i64 e.view, .int .i64 e.what, .int .i64 e.a, .int .i64 e.n] 33)).drew (by rfl) (.tmp 20) (.tmp 24) (by rfl) W.heap.size (.slice (some ⟨W.heap.size, 0, none⟩) 0 0) [] (by simp [Act.eval]) hOb.out W.heap.size A l.length c l (by simp [Act.eval]) hRb.out rfl
              l l.length rfl rfl (by omega) (by first | omega | (simp; done) | (simp; omega)) ?_
           intro A3 c3 w3 hown3 hg3 hb3 hat3
           have hq3 : Below W.heap.size W w3 := hBb.out.trans hb3
           have hx3 : ReadsE w3 w3.heap.size (some ⟨W.heap.size + 1, 0, none⟩) [e] := (Reads.off hXb.out (hg3.block _ (by simp <;> omega) (by simp [Value.ownBlock]))).more (by have := hg3.size; simp at this; omega)
           have hz3 := hq3.size
           have k0 : w3.cell? ⟨g, 0, none⟩ = some (.slice A l.length c) := (hq3.cell (p := ⟨g, 0, none⟩) hgl).trans c0
           have kf := (hq3.frozen (p := ⟨g, 0, none⟩) hgl).trans f0
           have ke0 : w3.cell? ⟨X, 0, none⟩ = some (.int .i64 e.view) := (hq3.cell (p := ⟨X, 0, none⟩) hXl).trans x0
           have ke1 : w3.cell? ⟨X, 1, none⟩ = some (.int .i64 e.what) := (hq3.cell (p := ⟨X, 1, none⟩) hXl).trans x1
           have ke2 : w3.cell? ⟨X, 2, none⟩ = some (.int .i64 e.a) := (hq3.cell (p := ⟨X, 2, none⟩) hXl).trans x2
           have ke3 : w3.cell? ⟨X, 3, none⟩ = some (.int .i64 e.n) := (hq3.cell (p := ⟨X, 3, none⟩) hXl).trans x3)
        | (refine step_appE ((W.alloc (.cells #[.int .i64 e.view, .int .i64 e.what, .int .i64 e.a, .int .i64 e.n] 33)).alloc (.cells #[] 33)).drew (by rfl) (.tmp 20) (.tmp 24) (by rfl) W.heap.size (.slice (some ⟨W.heap.size + 1, 0, none⟩) 0 0) [] (by simp [Act.eval]) hOc.out W.heap.size A l.length c l (by simp [Act.eval]) hRc.out rfl
              l l.length rfl rfl (by omega) (by first | omega | (simp; done) | (simp; omega)) ?_
           intro A3 c3 w3 hown3 hg3 hb3 hat3
           have hq3 : Below W.heap.size W w3 := hBc.out.trans hb3
           have hx3 : ReadsE w3 w3.heap.size (some ⟨W.heap.size, 0, none⟩) [e] := (Reads.off hXc.out (hg3.block _ (by simp <;> omega) (by simp [Value.ownBlock]))).more (by have := hg3.size; simp at this; omega)
           have hz3 := hq3.size
           have k0 : w3.cell? ⟨g, 0, none⟩ = some (.slice A l.length c) := (hq3.cell (p := ⟨g, 0, none⟩) hgl).trans c0
           have kf := (hq3.frozen (p := ⟨g, 0, none⟩) hgl).trans f0
           have ke0 : w3.cell? ⟨X, 0, none⟩ = some (.int .i64 e.view) := (hq3.cell (p := ⟨X, 0, none⟩) hXl).trans x0
           have ke1 : w3.cell? ⟨X, 1, none⟩ = some (.int .i64 e.what) := (hq3.cell (p := ⟨X, 1, none⟩) hXl).trans x1
           have ke2 : w3.cell? ⟨X, 2, none⟩ = some (.int .i64 e.a) := (hq3.cell (p := ⟨X, 2, none⟩) hXl).trans x2
           have ke3 : w3.cell? ⟨X, 3, none⟩ = some (.int .i64 e.n) := (hq3.cell (p := ⟨X, 3, none⟩) hXl).trans x3))
        all_goals
          go_wp2_with fail
          go_ret
          refine ⟨by rw [hcode.out]; rfl, ?_⟩
          rw [hnew.out]
          subst hX
          exact h.from_ hbel3 (rst_set hS3 hq9 hown9 hzl.out.symm (by rw [hzl.out]; omega))
  · have hcode : addCode l e = 1 := by unfold addCode; rw [if_pos (by simp [hok])]
    simp only [Ent.err_no hok] at hc
    go_enter Try.func37, Try.ntmps37
    go_wp2_with fail
    refine (hc _).out.mono ?_
    rintro _ w2 ⟨rfl, hb2⟩
    generalize w.alloc (.cells #[.int .i64 e.view, .int .i64 e.what, .int .i64 e.a, .int .i64 e.n] 33) = W0 at *
    go_wp2_with fail
    go_ret
    refine ⟨by rw [hcode]; rfl, ?_⟩
    unfold addNew
    rw [hcode, if_neg (by decide)]
    exact h.grow (hb0.trans (hb2.mono hb0.size))


set_option maxRecDepth 100000 in
set_option maxHeartbeats 4000000 in
theorem rfrom_any (g : Nat) (l : List Ent) (i : Int) (w : World) (F : Nat → Prop) (base : Nat) (h : RSt w F base g l) :
    Calls Try.prog 40 #[.pointer (some ⟨g, 0, none⟩), .int .i64 i] w (LPost w (fromL l i)) := by
  have hl4 := h.len
  obtain ⟨A, c, c0, f0, klt, kr, kc, km⟩ := h.cells
  unfold maxLen at km
  obtain ⟨k, hk⟩ : ∃ k : Nat, k = min i.toNat l.length := ⟨_, rfl⟩
  have hkl : k ≤ l.length := by omega
  have hfrom : fromL l i = l.drop k := by
    unfold fromL
    rcases Nat.lt_or_ge l.length i.toNat with h1 | h1
    · rw [List.drop_eq_nil_of_le (by omega), List.drop_eq_nil_of_le (by omega)]
    · rw [hk, Nat.min_eq_left h1]
  rw [hfrom]
  have hr2 := kr.cut (cap := c) hkl kc
  have hlen : (l.drop k).length = l.length - k := List.length_drop
  have hlen' : (l.drop k).length ≤ 4096 := by omega
  generalize l.drop k = zs at *
  have hO0 := Lib.hid (OwnE.empty w)
  have hr3 := Lib.hid (Reads.alloc hr2 (Nat.le_refl _) (.cells #[] 33))
  replace hlen := Lib.hid hlen
  clear hr2 hfrom kr
  have hlim : (k : Int) ≤ c := by omega
  rcases Int.lt_or_le i 0 with hi | hi
  · obtain rfl : k = 0 := by omega
    clear hk
    have hAA : (if c = 0 then A else A.map (fun x => x.add (0 * 4))) = A := by
      split
      · rfl
      · cases A
        · rfl
        · simp [Addr.add]
    have hr3 : Hid (Reads (w.alloc (.cells #[] 33)) w.heap.size 4 A zs.length (cellsE zs)) := Lib.hid (by have h := hr3.out; rw [hAA] at h; exact h)
    clear hAA
    have b1 : decide (i < 0) = true := decide_eq_true hi
    have b2 : decide ((l.length : Int) < 0) = false := decide_eq_false (by omega)
    have b3 : (0 : Int) ≤ l.length := by omega
    have b4 : (0 : Int) ≤ c := by omega
    have b5 : (if (l.length : Int) < 0 then (l.length : Int) else 0) = 0 := if_neg (by omega)
    go_enter Try.func40, Try.ntmps40
    go_wp2_with fail
    go_region_held_law (fun w' => w'.cell? ⟨g, 0, none⟩ = some (.slice A l.length c)) (go_keep) (first
      | (refine step_appE (w.alloc (.cells #[] 33)).drew (by rfl) (.tmp 5) (.tmp 18) (by rfl) w.heap.size (.slice (some ⟨w.heap.size, 0, none⟩) 0 0) [] (by simp [Act.eval]) hO0.out w.heap.size A l.length c zs (by simp [Act.eval]) hr3.out (by rw [hlen.out]; rfl)
            zs zs.length rfl rfl (by omega) (by simp) ?_
         intro A3 c3 w3 hown3 hg3 hb3 hat3
         have hbb : Below w.heap.size w w3 := ((Below.refl _ _).alloc (Nat.le_refl _) (.cells #[] 33)).drew.trans hb3
         have k0 : w3.cell? ⟨g, 0, none⟩ = some (.slice A l.length c) := (hbb.cell (p := ⟨g, 0, none⟩) klt).trans c0)
      | fail)
    all_goals (try dsimp only [List.getElem_toArray, List.getElem_cons_succ, List.getElem_cons_zero])
    all_goals go_wp2_with fail
    all_goals go_ret
    all_goals exact ⟨A3, c3, rfl, hown3, hbb⟩
  · obtain ⟨n, rfl⟩ := Int.eq_ofNat_of_zero_le hi
    have b1 : (if (n : Int) < 0 then (0 : Int) else n) = n := if_neg (by omega)
    rcases Nat.lt_or_ge l.length n with hn | hn
    · obtain rfl : k = l.length := by omega
      clear hk
      have b2 : (if (l.length : Int) < n then (l.length : Int) else n) = l.length := if_pos (by omega)
      have b3 : (l.length : Int) ≤ c := by omega
      go_enter Try.func40, Try.ntmps40
      go_wp2_with fail
      go_region_held_law (fun w' => w'.cell? ⟨g, 0, none⟩ = some (.slice A l.length c)) (go_keep) (first
        | (refine step_appE (w.alloc (.cells #[] 33)).drew (by rfl) (.tmp 5) (.tmp 18) (by rfl) w.heap.size (.slice (some ⟨w.heap.size, 0, none⟩) 0 0) [] (by simp [Act.eval]) hO0.out w.heap.size (if c = l.length then A else Option.map (fun x => x.add (l.length * 4)) A) 0 (c - l.length) zs (by simp [Act.eval]) hr3.out (by rw [hlen.out]; omega)
              zs zs.length rfl rfl (by omega) (by simp) ?_
           intro A3 c3 w3 hown3 hg3 hb3 hat3
           have hbb : Below w.heap.size w w3 := ((Below.refl _ _).alloc (Nat.le_refl _) (.cells #[] 33)).drew.trans hb3
           have k0 : w3.cell? ⟨g, 0, none⟩ = some (.slice A l.length c) := (hbb.cell (p := ⟨g, 0, none⟩) klt).trans c0)
        | fail)
      all_goals go_wp2_with fail
      all_goals go_ret
      all_goals exact ⟨A3, c3, rfl, hown3, hbb⟩
    · obtain rfl : k = n := by omega
      clear hk
      have b2 : (if l.length < k then (l.length : Int) else k) = k := if_neg (by omega)
      have b3 : (k : Int) ≤ l.length := by omega
      have b4 : (k : Int) ≤ c := by omega
      go_enter Try.func40, Try.ntmps40
      go_wp2_with fail
      go_region_held_law (fun w' => w'.cell? ⟨g, 0, none⟩ = some (.slice A l.length c)) (go_keep) (first
        | (refine step_appE (w.alloc (.cells #[] 33)).drew (by rfl) (.tmp 5) (.tmp 18) (by rfl) w.heap.size (.slice (some ⟨w.heap.size, 0, none⟩) 0 0) [] (by simp [Act.eval]) hO0.out w.heap.size (if c = k then A else Option.map (fun x => x.add (k * 4)) A) (l.length - k) (c - k) zs (by simp [Act.eval]) hr3.out hlen.out.symm
              zs zs.length rfl rfl (by omega) (by simp) ?_
           intro A3 c3 w3 hown3 hg3 hb3 hat3
           have hbb : Below w.heap.size w w3 := ((Below.refl _ _).alloc (Nat.le_refl _) (.cells #[] 33)).drew.trans hb3
           have k0 : w3.cell? ⟨g, 0, none⟩ = some (.slice A l.length c) := (hbb.cell (p := ⟨g, 0, none⟩) klt).trans c0)
        | fail)
      all_goals go_wp2_with fail
      all_goals go_ret
      all_goals exact ⟨A3, c3, rfl, hown3, hbb⟩
end Go.Proofs.Ytlehianbdamgmaa
