/- StorePlays: a log under any script of calls answers as the reference. -/
import Derived.Test.YtlehianbdamgmaaStoreAw
import Derived.Test.YtlehianbdamgmaaStoreR
import Derived.Test.YtlehianbdamgmaaOpenS
import Derived.Test.YtlehianbdamgmaaHead
import Derived.Test.YtlehianbdamgmaaOpenG
import Derived.Deep.RegionHeld3
import Derived.Lib.SmallJoins
import Derived.ProofKit
import Derived.OpenShut
import Derived.ShutString
import Derived.ChangeOld
import Derived.Laws.StructEq
namespace Go.Proofs.Ytlehianbdamgmaa.StorePlaysP
open Go.ChangeShapes Go.WideShapes Go.ChangeAt Go.RowKit
open Go.ChangeMaps (open_string shut_string)
set_option linter.unusedVariables false

theorem own : ownKnob Try.prog.godebug = none := by kernel_rfl
theorem laidOut : laidOutB Try.prog = true := by kernel_rfl
theorem bnext {a b c : World} (h : Below a.heap.size a b) (k : Below b.heap.size b c) : Below a.heap.size a c := h.trans (k.mono h.size)

/-- Both logs stand in w, as they have become since W1. -/
structure Two (b g gR : Nat) (W1 : World) (F1 G1 : Nat → Prop) (l lR : List Ent) (w : World) : Prop where
  ex : ∃ F G, St w F b g l ∧ RSt w G b gR lR ∧ (∀ k, F k → ¬ G k) ∧ (∀ k, k < W1.heap.size → F k → F1 k) ∧ (∀ k, k < W1.heap.size → G k → G1 k)
  turned : Turned (fun k => F1 k ∨ G1 k) W1 w
section
variable {b g gR : Nat} {W1 : World} {F1 G1 : Nat → Prop} {l lR l' : List Ent} {w w' : World}
theorem Two.start (h1 : St W1 F1 b g l) (h2 : RSt W1 G1 b gR lR) (hd : ∀ k, F1 k → ¬ G1 k) : Two b g gR W1 F1 G1 l lR W1 :=
  ⟨⟨F1, G1, h1, h2, hd, fun _ _ h => h, fun _ _ h => h⟩, Turned.refl _ _⟩
theorem Two.below (h : Two b g gR W1 F1 G1 l lR w) (hb : Below w.heap.size w w') : Two b g gR W1 F1 G1 l lR w' := by
  obtain ⟨⟨F, G, h1, h2, h3, h4, h5⟩, hT⟩ := h
  exact ⟨⟨F, G, h1.below hb, h2.below hb, h3, h4, h5⟩, hT.trans (Turned.of_below (F := fun _ => False) hb) fun _ _ h => h.elim⟩
theorem Two.drew (h : Two b g gR W1 F1 G1 l lR w) : Two b g gR W1 F1 G1 l lR w.drew := h.below ((Below.refl _ _).drew)
theorem Two.size (h : Two b g gR W1 F1 G1 l lR w) : W1.heap.size ≤ w.heap.size := h.turned.size
theorem Two.cell (h : Two b g gR W1 F1 G1 l lR w) {p : Addr} {v : Value} (hl : p.block < W1.heap.size) (hF : ¬ F1 p.block) (hG : ¬ G1 p.block) (hc : W1.cell? p = some v) : w.cell? p = some v :=
  (World.cell?_of_block (h.turned.block p.block hl (fun hh => hh.elim hF hG))).trans hc
theorem Two.sstep {f : FuncId} {args : Array Value} {v : Value} (h : Two b g gR W1 F1 G1 l lR w) (hc : ∀ F, St w F b g l → Calls Try.prog f args w fun e w' => e = .returned v ∧ St w' (Grow F w w') b g l' ∧ Turned F w w') :
    Calls Try.prog f args w fun e w' => e = .returned v ∧ Two b g gR W1 F1 G1 l' lR w' := by
  obtain ⟨⟨F, G, h1, h2, h3, h4, h5⟩, hT⟩ := h
  refine (hc F h1).mono fun e w' ⟨he, hS, hT'⟩ => ⟨he, ⟨Grow F w w', G, hS, h2.turned hT' (fun i hg hf => h3 i hf hg), ?_, ?_, h5⟩, ?_⟩
  · rintro k (hk | hk) hg
    · exact h3 k hk hg
    · have := h2.lt k hg; omega
  · rintro k hk (hf | hf)
    · exact h4 k hk hf
    · have := hT.size; omega
  · exact hT.trans hT' fun i hi hf => .inl (h4 i hi hf)
theorem Two.rstep {f : FuncId} {args : Array Value} {v : Value} (h : Two b g gR W1 F1 G1 l lR w) (hc : ∀ G, RSt w G b gR lR → Calls Try.prog f args w fun e w' => e = .returned v ∧ RSt w' (Grow G w w') b gR l' ∧ Turned G w w') :
    Calls Try.prog f args w fun e w' => e = .returned v ∧ Two b g gR W1 F1 G1 l l' w' := by
  obtain ⟨⟨F, G, h1, h2, h3, h4, h5⟩, hT⟩ := h
  refine (hc G h2).mono fun e w' ⟨he, hS, hT'⟩ => ⟨he, ⟨F, Grow G w w', h1.turned hT' (fun i hf hg => h3 i hf hg), hS, ?_, h4, ?_⟩, ?_⟩
  · rintro k hf (hk | hk)
    · exact h3 k hf hk
    · have := h1.lt k hf; omega
  · rintro k hk (hf | hf)
    · exact h5 k hk hf
    · have := hT.size; omega
  · exact hT.trans hT' fun i hi hf => .inr (h5 i hi hf)
theorem Two.add (h : Two b g gR W1 F1 G1 l lR w) (e : Ent) (hi : e.In) : Calls Try.prog 32 #[.pointer (some ⟨g, 0, none⟩), e.val] w fun x w' => x = .returned (.int .i64 (addCode l e)) ∧ Two b g gR W1 F1 G1 (addNew l e) lR w' :=
  h.sstep fun F hS => add_any g l e hi w F b hS
theorem Two.radd (h : Two b g gR W1 F1 G1 l lR w) (e : Ent) (hi : e.In) : Calls Try.prog 37 #[.pointer (some ⟨gR, 0, none⟩), e.val] w fun x w' => x = .returned (.int .i64 (addCode lR e)) ∧ Two b g gR W1 F1 G1 l (addNew lR e) w' :=
  h.rstep fun F hS => radd_any gR lR e hi w F b hS
theorem Two.set (h : Two b g gR W1 F1 G1 l lR w) (new : List Ent) (A2 : Option Addr) (c2 : Nat) (hr : ReadsE w w.heap.size A2 new) (hi : InL new) (hm : new.length ≤ maxLen) :
    Calls Try.prog 31 #[.pointer (some ⟨g, 0, none⟩), .slice A2 new.length c2] w fun x w' => x = .returned (.int .i64 (checkL new)) ∧ Two b g gR W1 F1 G1 (setNew l new) lR w' :=
  h.sstep fun F hS => set_any g l new A2 c2 w F b hS hr hi hm
theorem Two.rset (h : Two b g gR W1 F1 G1 l lR w) (new : List Ent) (A2 : Option Addr) (c2 : Nat) (hr : ReadsE w w.heap.size A2 new) (hi : InL new) (hm : new.length ≤ maxLen) :
    Calls Try.prog 38 #[.pointer (some ⟨gR, 0, none⟩), .slice A2 new.length c2] w fun x w' => x = .returned (.int .i64 (checkL new)) ∧ Two b g gR W1 F1 G1 l (setNew lR new) w' :=
  h.rstep fun F hS => rset_any gR lR new A2 c2 w F b hS hr hi hm
theorem Two.at_ (h : Two b g gR W1 F1 G1 l lR w) (i : Int) : Calls Try.prog 34 #[.pointer (some ⟨g, 0, none⟩), .int .i64 i] w fun e w' => e = .returned (.tuple #[(atV l i).val, .int .i64 (atC l i)]) ∧ Below w.heap.size w w' := by
  obtain ⟨⟨F, G, h1, h2, _⟩, _⟩ := h
  exact at_any g l i w F b h1
theorem Two.rat (h : Two b g gR W1 F1 G1 l lR w) (i : Int) : Calls Try.prog 39 #[.pointer (some ⟨gR, 0, none⟩), .int .i64 i] w fun e w' => e = .returned (.tuple #[(atV lR i).val, .int .i64 (atC lR i)]) ∧ Below w.heap.size w w' := by
  obtain ⟨⟨F, G, h1, h2, _⟩, _⟩ := h
  exact rat_any gR lR i w G b h2
theorem Two.from_ (h : Two b g gR W1 F1 G1 l lR w) (i : Int) : Calls Try.prog 33 #[.pointer (some ⟨g, 0, none⟩), .int .i64 i] w (LPost w (fromL l i)) := by
  obtain ⟨⟨F, G, h1, h2, _⟩, _⟩ := h
  exact from_any g l i w F b h1
theorem Two.rfrom (h : Two b g gR W1 F1 G1 l lR w) (i : Int) : Calls Try.prog 40 #[.pointer (some ⟨gR, 0, none⟩), .int .i64 i] w (LPost w (fromL lR i)) := by
  obtain ⟨⟨F, G, h1, h2, _⟩, _⟩ := h
  exact rfrom_any gR lR i w G b h2
theorem Two.len (h : Two b g gR W1 F1 G1 l lR w) : Calls Try.prog 36 #[.pointer (some ⟨g, 0, none⟩)] w fun e w' => e = .returned (.int .i64 l.length) ∧ w = w' := by
  obtain ⟨⟨F, G, h1, h2, _⟩, _⟩ := h
  exact len_any g l w F b h1
theorem Two.view (h : Two b g gR W1 F1 G1 l lR w) : Calls Try.prog 35 #[.pointer (some ⟨g, 0, none⟩)] w fun e w' => e = .returned (.int .i64 (viewL l)) ∧ ∃ n, w' = w.drewN n := by
  obtain ⟨⟨F, G, h1, h2, _⟩, _⟩ := h
  exact view_any g l w F b h1
theorem Two.rview (h : Two b g gR W1 F1 G1 l lR w) : Calls Try.prog 41 #[.pointer (some ⟨gR, 0, none⟩)] w fun e w' => e = .returned (.int .i64 (viewL lR)) ∧ ∃ n, w' = w.drewN n := by
  obtain ⟨⟨F, G, h1, h2, _⟩, _⟩ := h
  exact rview_any gR lR w G b h2
theorem Two.rl (h : Two b g gR W1 F1 G1 l lR w) : ∃ A c, w.cell? ⟨gR, 0, none⟩ = some (.slice A lR.length c) ∧ ReadsE w w.heap.size A lR ∧ gR < w.heap.size := by
  obtain ⟨⟨F, G, h1, h2, _⟩, _⟩ := h
  obtain ⟨A, c, c0, f0, hlt, hr, _⟩ := h2.cells
  exact ⟨A, c, c0, hr, hlt⟩
theorem Two.len4 (h : Two b g gR W1 F1 G1 l lR w) : l.length ≤ 4096 ∧ lR.length ≤ 4096 := by
  obtain ⟨⟨F, G, h1, h2, _⟩, _⟩ := h
  exact ⟨h1.len, h2.len⟩
end

set_option maxRecDepth 100000 in
set_option maxHeartbeats 4000000 in
theorem walk (A0 : Option Addr) (n0 c0 : Nat) (os : List SOp) (w : World) (h0 : os.length = n0 ∧ n0 ≤ maxLen ∧ ScriptS w w.heap.size A0 os ∧ ∀ o ∈ os, in64 o.n ∧ o.e.In ∧ ∀ e ∈ o.l, e.In) :
    Calls Try.prog 10 #[.slice A0 n0 c0] w fun e w' => e = .returned (.bool true) ∧ Below w.heap.size w w' := by
  obtain ⟨rfl, hm, hSc, hIn⟩ := h0
  unfold maxLen at hm
  have gnew := fun w => Lib.hid (new_any w)
  have gaw := fun w => Lib.hid (awake19 w)
  go_enter Try.func10, Try.ntmps10
  go_wp2_with fail
  refine (gnew _).out.mono ?_
  rintro _ w1 ⟨rfl, hS1, hb1⟩
  go_wp2_with fail
  have hS2 := hS1.below ((Below.refl _ _).alloc (Nat.le_refl _) (.cells #[.slice none 0 0] 60))
  have hb2 := hb1.alloc hb1.size (.cells #[.slice none 0 0] 60)
  have hR2 : RSt (w1.alloc (.cells #[.slice none 0 0] 60)) (fun k => k = w1.heap.size) w.heap.size w1.heap.size [] :=
    ⟨none, 0, Blk.new _ _ _, OwnE.nil _ _, by decide, hb1.size, rfl, fun k hk => by simp [Value.ownBlock] at hk, fun k hk => by subst hk; exact ⟨hb1.size, by simp⟩⟩
  have hd2 : ∀ k, Grow (fun _ => False) w w1 k → ¬ (fun k => k = w1.heap.size) k := fun k h e => by
    have h := hS1.lt k h
    have e' : k = w1.heap.size := e
    omega
  obtain ⟨wg, hwg⟩ : ∃ wg, wg = w1.heap.size := ⟨_, rfl⟩
  rw [← hwg] at hR2 hd2
  generalize w1.alloc (.cells #[.slice none 0 0] 60) = w2 at *
  rw [← hwg]
  clear hwg hS1 hb1
  go_loopw [5] (fun i wr => ∃ (k : Nat) (F G : Nat → Prop) (l : List Ent), k ≤ os.length ∧ i = .int .i64 k ∧ St wr F w.heap.size w.heap.size l ∧ RSt wr G w.heap.size wg l ∧ (∀ k, F k → ¬ G k) ∧ Below w.heap.size w wr) (fun i _ => os.length - (intOf i).toNat)
  case atStart => exact ⟨0, _, _, [], by omega, rfl, hS2, hR2, hd2, hb2⟩
  case round =>
    obtain ⟨k, F, G, l, hk, rfl, hS, hR, hd, hB⟩ := hrel
    by_cases hlt : k < os.length
    · have b1 : decide ((k : Int) < (os.length : Int)) = true := decide_eq_true (by omega)
      obtain ⟨ad, rfl, hlo, hC⟩ := hSc k os[k] (List.getElem?_eq_getElem hlt)
      obtain ⟨in1, in2, in3⟩ := hIn os[k] (List.getElem_mem hlt)
      generalize os[k] = o at *
      obtain ⟨A2, c2, d0, d1, d2, d3, d4, d5, d6, hrb, hlc, hmx⟩ := hC
      obtain ⟨ow, on, oe, ol⟩ := o
      dsimp only at d0 d1 d2 d3 d4 d5 d6 hrb hlc in1 in2 in3
      unfold maxLen at hmx
      have hpb : (ad.add (k * 7)).block < w.heap.size := by rw [block_of_add]; exact hlo
      replace d0 := (hB.cell (p := ad.add (k * 7)) hpb).trans d0
      replace d1 : wr.cell? { block := (ad.add (k * 7)).block, off := (ad.add (k * 7)).off + 1 } = some (.int .i64 on) := (hB.cell (p := ⟨_, _, none⟩) hpb).trans d1
      replace d2 : wr.cell? { block := (ad.add (k * 7)).block, off := (ad.add (k * 7)).off + 2 } = some (.int .i64 oe.view) := (hB.cell (p := ⟨_, _, none⟩) hpb).trans d2
      replace d3 : wr.cell? { block := (ad.add (k * 7)).block, off := (ad.add (k * 7)).off + 3 } = some (.int .i64 oe.what) := (hB.cell (p := ⟨_, _, none⟩) hpb).trans d3
      replace d4 : wr.cell? { block := (ad.add (k * 7)).block, off := (ad.add (k * 7)).off + 4 } = some (.int .i64 oe.a) := (hB.cell (p := ⟨_, _, none⟩) hpb).trans d4
      replace d5 : wr.cell? { block := (ad.add (k * 7)).block, off := (ad.add (k * 7)).off + 5 } = some (.int .i64 oe.n) := (hB.cell (p := ⟨_, _, none⟩) hpb).trans d5
      replace d6 : wr.cell? { block := (ad.add (k * 7)).block, off := (ad.add (k * 7)).off + 6 } = some (.slice A2 ol.length c2) := (hB.cell (p := ⟨_, _, none⟩) hpb).trans d6
      have hba : Below wr.heap.size wr (wr.alloc (.cells #[.int .i64 ow, .int .i64 on, .int .i64 oe.view, .int .i64 oe.what, .int .i64 oe.a, .int .i64 oe.n, .slice A2 ol.length c2] 49)) := (Below.refl _ _).alloc (Nat.le_refl _) _
      have hL := Blk.new wr 49 #[.int .i64 ow, .int .i64 on, .int .i64 oe.view, .int .i64 oe.what, .int .i64 oe.a, .int .i64 oe.n, .slice A2 ol.length c2]
      have hSa := hS.below hba
      have hRa := hR.below hba
      have hBa := hB.trans (hba.mono hB.size)
      have hra := hrb.below hBa
      have hnL : wr.heap.size < (wr.alloc (.cells #[.int .i64 ow, .int .i64 on, .int .i64 oe.view, .int .i64 oe.what, .int .i64 oe.a, .int .i64 oe.n, .slice A2 ol.length c2] 49)).heap.size := by simp
      have hnF : ¬ F wr.heap.size := fun h => by have := (hS.lt _ h).2; omega
      have hnG : ¬ G wr.heap.size := fun h => by have := (hR.lt _ h).2; omega
      by_cases hw0 : ow = 0
      · subst hw0
        have gadd := fun l lR u (h : Two w.heap.size w.heap.size wg (wr.alloc (.cells #[.int .i64 0, .int .i64 on, .int .i64 oe.view, .int .i64 oe.what, .int .i64 oe.a, .int .i64 oe.n, .slice A2 ol.length c2] 49)) F G l lR u) => Lib.hid (h.add oe in2)
        have gradd := fun l lR u (h : Two w.heap.size w.heap.size wg (wr.alloc (.cells #[.int .i64 0, .int .i64 on, .int .i64 oe.view, .int .i64 oe.what, .int .i64 oe.a, .int .i64 oe.n, .slice A2 ol.length c2] 49)) F G l lR u) => Lib.hid (h.radd oe in2)
        unfold Ent.val at gadd gradd
        go_wp2_with fail
        generalize hW1 : wr.alloc (.cells #[.int .i64 0, .int .i64 on, .int .i64 oe.view, .int .i64 oe.what, .int .i64 oe.a, .int .i64 oe.n, .slice A2 ol.length c2] 49) = W1 at *
        have hTa : Two w.heap.size w.heap.size wg W1 F G l l W1.drew := (Two.start hSa hRa hd).drew
        have z2 : W1.cell? ⟨wr.heap.size, 2, none⟩ = some (.int .i64 oe.view) := hL.cell 2
        have z3 : W1.cell? ⟨wr.heap.size, 3, none⟩ = some (.int .i64 oe.what) := hL.cell 3
        have z4 : W1.cell? ⟨wr.heap.size, 4, none⟩ = some (.int .i64 oe.a) := hL.cell 4
        have z5 : W1.cell? ⟨wr.heap.size, 5, none⟩ = some (.int .i64 oe.n) := hL.cell 5
        go_region_held_law (fun w' => w'.cell? ⟨wr.heap.size, 2, none⟩ = some (.int .i64 oe.view) ∧ w'.cell? ⟨wr.heap.size, 3, none⟩ = some (.int .i64 oe.what) ∧ w'.cell? ⟨wr.heap.size, 4, none⟩ = some (.int .i64 oe.a) ∧ w'.cell? ⟨wr.heap.size, 5, none⟩ = some (.int .i64 oe.n)) (go_keep)
          (first
          | (go_at_call 32
             refine (gadd _ _ _ (by assumption)).out.mono ?_
             rintro _ w3 ⟨rfl, hT3⟩
             have y2 := hT3.cell (p := ⟨wr.heap.size, 2, none⟩) hnL hnF hnG z2
             have y3 := hT3.cell (p := ⟨wr.heap.size, 3, none⟩) hnL hnF hnG z3
             have y4 := hT3.cell (p := ⟨wr.heap.size, 4, none⟩) hnL hnF hnG z4
             have y5 := hT3.cell (p := ⟨wr.heap.size, 5, none⟩) hnL hnF hnG z5)
          | (go_at_call 37
             refine (gradd _ _ _ (by assumption)).out.mono ?_
             rintro _ w3 ⟨rfl, hT3⟩
             have y2 := hT3.cell (p := ⟨wr.heap.size, 2, none⟩) hnL hnF hnG z2
             have y3 := hT3.cell (p := ⟨wr.heap.size, 3, none⟩) hnL hnF hnG z3
             have y4 := hT3.cell (p := ⟨wr.heap.size, 4, none⟩) hnL hnF hnG z4
             have y5 := hT3.cell (p := ⟨wr.heap.size, 5, none⟩) hnL hnF hnG z5))
        have hl4 := hT3.len4
        obtain ⟨AR, cR, r0, rr, rlt⟩ := hT3.rl
        have hTd := fun m => hT3.below (below_drewN (Below.refl _ _) m)
        have glen := fun m => Lib.hid (Two.len (hTd m))
        have gview := fun m => Lib.hid (Two.view (hTd m))
        have grview := fun m => Lib.hid (Two.rview (hTd m))
        have hBf := hBa.trans (hT3.turned.below hBa.size (fun j hj => hj.elim (fun h => (hSa.lt j h).1) (fun h => (hRa.lt j h).1)))
        obtain ⟨⟨F9, G9, hS9, hR9, hd9, _⟩, _⟩ := hT3
        clear hTd
        generalize hl2 : (addNew l oe) = l2 at *
        replace hl2 := Lib.hid hl2
        go_wp2_with fail
        go_quiet (first
          | (go_at_call 36; exact quiet_left (glen _).out)
          | (go_at_call 35; exact quiet_more (gview _).out)
          | (go_at_call 41; exact quiet_more (grview _).out))
        go_wp2_with fail
        exact ⟨⟨k + 1, F9, G9, l2, by omega, by go_num, St.below hS9 (below_drewN (Below.refl _ _) _), RSt.below hR9 (below_drewN (Below.refl _ _) _), hd9, below_drewN hBf _⟩, by simp [intOf]; omega⟩
      · have q0 : (ow == 0) = false := by simpa using hw0
        by_cases hw1 : ow = 1
        · subst hw1
          have gset := fun l lR u (h : Two w.heap.size w.heap.size wg (wr.alloc (.cells #[.int .i64 1, .int .i64 on, .int .i64 oe.view, .int .i64 oe.what, .int .i64 oe.a, .int .i64 oe.n, .slice A2 ol.length c2] 49)) F G l lR u) => Lib.hid (h.set ol A2 c2 (Reads.more (Reads.below hra (h.turned.below hBa.size (fun j hj => hj.elim (fun h => (hSa.lt j h).1) (fun h => (hRa.lt j h).1)))) (Nat.le_trans hBa.size h.size)) in3 (by unfold maxLen; omega))
          have grset := fun l lR u (h : Two w.heap.size w.heap.size wg (wr.alloc (.cells #[.int .i64 1, .int .i64 on, .int .i64 oe.view, .int .i64 oe.what, .int .i64 oe.a, .int .i64 oe.n, .slice A2 ol.length c2] 49)) F G l lR u) => Lib.hid (h.rset ol A2 c2 (Reads.more (Reads.below hra (h.turned.below hBa.size (fun j hj => hj.elim (fun h => (hSa.lt j h).1) (fun h => (hRa.lt j h).1)))) (Nat.le_trans hBa.size h.size)) in3 (by unfold maxLen; omega))
          clear hw0
          go_wp2_with fail
          generalize hW1 : wr.alloc (.cells #[.int .i64 1, .int .i64 on, .int .i64 oe.view, .int .i64 oe.what, .int .i64 oe.a, .int .i64 oe.n, .slice A2 ol.length c2] 49) = W1 at *
          have hTa : Two w.heap.size w.heap.size wg W1 F G l l W1.drew := (Two.start hSa hRa hd).drew
          have z3 : W1.cell? ⟨wr.heap.size, 3, none⟩ = some (.int .i64 oe.what) := hL.cell 3
          have z6 : W1.cell? ⟨wr.heap.size, 6, none⟩ = some (.slice A2 ol.length c2) := hL.cell 6
          go_region_held_law (fun w' => w'.cell? ⟨wr.heap.size, 6, none⟩ = some (.slice A2 ol.length c2)) (go_keep)
            (first
            | (go_at_call 31
               refine (gset _ _ _ (by assumption)).out.mono ?_
               rintro _ w3 ⟨rfl, hT3⟩
               have y3 := hT3.cell (p := ⟨wr.heap.size, 3, none⟩) hnL hnF hnG z3
               have y6 := hT3.cell (p := ⟨wr.heap.size, 6, none⟩) hnL hnF hnG z6)
            | (go_at_call 38
               refine (grset _ _ _ (by assumption)).out.mono ?_
               rintro _ w3 ⟨rfl, hT3⟩
               have y3 := hT3.cell (p := ⟨wr.heap.size, 3, none⟩) hnL hnF hnG z3
               have y6 := hT3.cell (p := ⟨wr.heap.size, 6, none⟩) hnL hnF hnG z6))
          have hl4 := hT3.len4
          obtain ⟨AR, cR, r0, rr, rlt⟩ := hT3.rl
          have hTd := fun m => hT3.below (below_drewN (Below.refl _ _) m)
          have glen := fun m => Lib.hid (Two.len (hTd m))
          have gview := fun m => Lib.hid (Two.view (hTd m))
          have grview := fun m => Lib.hid (Two.rview (hTd m))
          have hBf := hBa.trans (hT3.turned.below hBa.size (fun j hj => hj.elim (fun h => (hSa.lt j h).1) (fun h => (hRa.lt j h).1)))
          obtain ⟨⟨F9, G9, hS9, hR9, hd9, _⟩, _⟩ := hT3
          clear hTd
          generalize hl2 : (setNew l ol) = l2 at *
          replace hl2 := Lib.hid hl2
          go_wp2_with fail
          go_quiet (first
            | (go_at_call 36; exact quiet_left (glen _).out)
            | (go_at_call 35; exact quiet_more (gview _).out)
            | (go_at_call 41; exact quiet_more (grview _).out))
          go_wp2_with fail
          exact ⟨⟨k + 1, F9, G9, l2, by omega, by go_num, St.below hS9 (below_drewN (Below.refl _ _) _), RSt.below hR9 (below_drewN (Below.refl _ _) _), hd9, below_drewN hBf _⟩, by simp [intOf]; omega⟩
        · have q1 : (ow == 1) = false := by simpa using hw1
          by_cases hw2 : ow = 2
          · subst hw2
            clear hw0 hw1
            go_wp2_with fail
            generalize hW1 : wr.alloc (.cells #[.int .i64 2, .int .i64 on, .int .i64 oe.view, .int .i64 oe.what, .int .i64 oe.a, .int .i64 oe.n, .slice A2 ol.length c2] 49) = W1 at *
            have hTa : Two w.heap.size w.heap.size wg W1 F G l l W1 := Two.start hSa hRa hd
            have z1 : W1.cell? ⟨wr.heap.size, 1, none⟩ = some (.int .i64 on) := hL.cell 1
            have ga := Lib.hid (hTa.at_ on)
            have gra := fun u (h : Two w.heap.size w.heap.size wg W1 F G l l u) => Lib.hid (h.rat on)
            obtain ⟨⟨v0, v1, v2, v3⟩, hv⟩ : ∃ v, atV l on = v := ⟨_, rfl⟩
            rw [hv] at ga gra
            generalize atC l on = cc at *
            clear hv
            unfold Ent.val at ga gra
            go_wp2_with fail
            refine ga.out.mono ?_
            rintro _ w3 ⟨rfl, hb3⟩
            have hb3' := hb3.alloc hb3.size (.cells #[.int .i64 v0, .int .i64 v1, .int .i64 v2, .int .i64 v3] 33)
            have hT3 := hTa.below hb3'
            have hX := Blk.new w3 33 #[.int .i64 v0, .int .i64 v1, .int .i64 v2, .int .i64 v3]
            have y1 := hT3.cell (p := ⟨wr.heap.size, 1, none⟩) hnL hnF hnG z1
            go_wp2_with fail
            generalize hu3 : w3.alloc (.cells #[.int .i64 v0, .int .i64 v1, .int .i64 v2, .int .i64 v3] 33) = u3 at *
            refine (gra _ hT3).out.mono ?_
            rintro _ w4 ⟨rfl, hb4⟩
            have hb4' := hb4.alloc hb4.size (.cells #[.int .i64 v0, .int .i64 v1, .int .i64 v2, .int .i64 v3] 33)
            have hT4 := hT3.below hb4'
            have hX4 := hX.below hb4' hX.lt
            have x0 : (w4.alloc (.cells #[.int .i64 v0, .int .i64 v1, .int .i64 v2, .int .i64 v3] 33)).cell? ⟨w3.heap.size, 0, none⟩ = some (.int .i64 v0) := hX4.cell 0
            have x1 : (w4.alloc (.cells #[.int .i64 v0, .int .i64 v1, .int .i64 v2, .int .i64 v3] 33)).cell? ⟨w3.heap.size, 1, none⟩ = some (.int .i64 v1) := hX4.cell 1
            have x2 : (w4.alloc (.cells #[.int .i64 v0, .int .i64 v1, .int .i64 v2, .int .i64 v3] 33)).cell? ⟨w3.heap.size, 2, none⟩ = some (.int .i64 v2) := hX4.cell 2
            have x3 : (w4.alloc (.cells #[.int .i64 v0, .int .i64 v1, .int .i64 v2, .int .i64 v3] 33)).cell? ⟨w3.heap.size, 3, none⟩ = some (.int .i64 v3) := hX4.cell 3
            clear ga gra hX hb4 hb3 hb3'
            have hl4 := hT4.len4
            obtain ⟨AR, cR, r0, rr, rlt⟩ := hT4.rl
            have hTd := fun m => hT4.below (below_drewN (Below.refl _ _) m)
            have glen := fun m => Lib.hid (Two.len (hTd m))
            have gview := fun m => Lib.hid (Two.view (hTd m))
            have grview := fun m => Lib.hid (Two.rview (hTd m))
            have hBf := hBa.trans (hT4.turned.below hBa.size (fun j hj => hj.elim (fun h => (hSa.lt j h).1) (fun h => (hRa.lt j h).1)))
            obtain ⟨⟨F9, G9, hS9, hR9, hd9, _⟩, _⟩ := hT4
            clear hTd
            generalize hl2 : l = l2 at *
            replace hl2 := Lib.hid hl2
            go_wp2_with fail
            go_quiet (first
              | (go_at_call 36; exact quiet_left (glen _).out)
              | (go_at_call 35; exact quiet_more (gview _).out)
              | (go_at_call 41; exact quiet_more (grview _).out))
            go_wp2_with fail
            exact ⟨⟨k + 1, F9, G9, l2, by omega, by go_num, St.below hS9 (below_drewN (Below.refl _ _) _), RSt.below hR9 (below_drewN (Below.refl _ _) _), hd9, below_drewN hBf _⟩, by simp [intOf]; omega⟩
          · have q2 : (ow == 2) = false := by simpa using hw2
            clear hw0 hw1 hw2
            have gsame := fun (zs : List Ent) (hz : zs.length ≤ maxLen) A1 A2 c1 c2 u B1 B2 (h1 : ReadsE u B1 A1 zs) (h2 : ReadsE u B2 A2 zs) => Lib.hid (same_any A1 A2 c1 c2 zs zs u B1 B2 h1 h2 hz hz)
            simp only [decide_true] at gsame
            go_wp2_with fail
            generalize hW1 : wr.alloc (.cells #[.int .i64 ow, .int .i64 on, .int .i64 oe.view, .int .i64 oe.what, .int .i64 oe.a, .int .i64 oe.n, .slice A2 ol.length c2] 49) = W1 at *
            have hTa : Two w.heap.size w.heap.size wg W1 F G l l W1.drew := (Two.start hSa hRa hd).drew
            have z1 : W1.cell? ⟨wr.heap.size, 1, none⟩ = some (.int .i64 on) := hL.cell 1
            have hzl : (fromL l on).length ≤ maxLen := by
              have := (hTa.len4).1
              unfold fromL maxLen
              rw [List.length_drop]
              omega
            have gf := fun u (h : Two w.heap.size w.heap.size wg W1 F G l l u) => Lib.hid (h.from_ on)
            have grf := fun u (h : Two w.heap.size w.heap.size wg W1 F G l l u) => Lib.hid (h.rfrom on)
            unfold LPost at gf grf
            generalize fromL l on = zs at *
            replace gsame := gsame zs hzl
            go_region_held_law (fun w' => w'.cell? ⟨wr.heap.size, 1, none⟩ = some (.int .i64 on)) (go_keep)
              (first
              | (go_at_call 33
                 refine (gf _ hTa).out.mono ?_
                 rintro _ w3 ⟨A3, c3, rfl, hO3, hb3⟩
                 have hT3 := hTa.below hb3
                 have y1 := hT3.cell (p := ⟨wr.heap.size, 1, none⟩) hnL hnF hnG z1)
              | (go_at_call 40
                 refine (grf _ hT3).out.mono ?_
                 rintro _ w4 ⟨A4, c4, rfl, hO4, hb4⟩
                 have hT4 := hT3.below hb4
                 have hr3 := (OwnE.below hO3 hb4).reads
                 have hr4 := hO4.reads
                 have x1 := hT4.cell (p := ⟨wr.heap.size, 1, none⟩) hnL hnF hnG z1)
              | (go_at_call 20
                 refine (gsame A3 A4 c3 c4 w4 _ _ hr3 hr4).out.mono ?_
                 rintro _ w5 ⟨rfl, n5, rfl⟩
                 have hT5 := hT4.below (below_drewN (Below.refl _ _) n5)
                 have v1 := hT5.cell (p := ⟨wr.heap.size, 1, none⟩) hnL hnF hnG z1))
            clear gf grf gsame hTa hT3 hT4 hr3 hr4 y1 x1 v1 hO3 hO4
            generalize w4.drewN n5 = u5 at *
            have hl4 := hT5.len4
            obtain ⟨AR, cR, r0, rr, rlt⟩ := hT5.rl
            have hTd := fun m => hT5.below (below_drewN (Below.refl _ _) m)
            have glen := fun m => Lib.hid (Two.len (hTd m))
            have gview := fun m => Lib.hid (Two.view (hTd m))
            have grview := fun m => Lib.hid (Two.rview (hTd m))
            have hBf := hBa.trans (hT5.turned.below hBa.size (fun j hj => hj.elim (fun h => (hSa.lt j h).1) (fun h => (hRa.lt j h).1)))
            obtain ⟨⟨F9, G9, hS9, hR9, hd9, _⟩, _⟩ := hT5
            clear hTd
            generalize hl2 : l = l2 at *
            replace hl2 := Lib.hid hl2
            go_wp2_with fail
            go_quiet (first
              | (go_at_call 36; exact quiet_left (glen _).out)
              | (go_at_call 35; exact quiet_more (gview _).out)
              | (go_at_call 41; exact quiet_more (grview _).out))
            go_wp2_with fail
            exact ⟨⟨k + 1, F9, G9, l2, by omega, by go_num, St.below hS9 (below_drewN (Below.refl _ _) _), RSt.below hR9 (below_drewN (Below.refl _ _) _), hd9, below_drewN hBf _⟩, by simp [intOf]; omega⟩
    · have b1 : decide ((k : Int) < (os.length : Int)) = false := decide_eq_false (by omega)
      have hl4 := hS.len
      have hTa : Two w.heap.size w.heap.size wg wr F G l l wr := Two.start hS hR hd
      have hTd := hTa.drew
      obtain ⟨AR, cR, r0, rr, rlt⟩ := hTa.rl
      have r0d : wr.drew.cell? ⟨wg, 0, none⟩ = some (.slice AR l.length cR) := r0
      have gf : Hid (Calls Try.prog 33 #[.pointer (some ⟨w.heap.size, 0, none⟩), .int .i64 0] wr.drew (LPost wr.drew l)) := Lib.hid (hTd.from_ 0)
      have gsame := fun A1 A2 c1 c2 u B1 B2 (h1 : ReadsE u B1 A1 l) (h2 : ReadsE u B2 A2 l) => Lib.hid (same_any A1 A2 c1 c2 l l u B1 B2 h1 h2 (by unfold maxLen; omega) (by unfold maxLen; omega))
      simp only [decide_true] at gsame
      unfold LPost at gf
      have b2 : decide (k < os.length) = false := decide_eq_false hlt
      obtain rfl : k = os.length := by omega
      clear hlt b1 b2
      go_wp2_with fail
      go_region_held_law (fun w' => w'.cell? ⟨wg, 0, none⟩ = some (.slice AR l.length cR)) (go_keep)
        (first
        | (go_at_call 33
           refine gf.out.mono ?_
           rintro _ w3 ⟨A3, c3, rfl, hO3, hb3⟩
           have hb3' : Below wr.heap.size wr w3 := ⟨hb3.os, hb3.tape, hb3.output, hb3.size, hb3.block⟩
           have y0 : w3.cell? ⟨wg, 0, none⟩ = some (.slice AR l.length cR) := (hb3'.cell (p := ⟨wg, 0, none⟩) rlt).trans r0
           have hrr := ReadsE.below rr hb3'
           have hr3 := hO3.reads)
        | (go_at_call 20
           refine (gsame A3 AR c3 cR w3 _ _ hr3 hrr).out.mono ?_
           rintro _ w5 ⟨rfl, n5, rfl⟩
           have v0 : (w3.drewN n5).cell? ⟨wg, 0, none⟩ = some (.slice AR l.length cR) := y0
           have hb5 := below_drewN hb3' n5)
        | (go_at_call 18
           refine (gaw _).out.mono ?_
           rintro _ w6 ⟨rfl, hb6⟩
           have hb6' := hb5.trans (hb6.mono hb5.size)
           have t0 : w6.cell? ⟨wg, 0, none⟩ = some (.slice AR l.length cR) := (hb6'.cell (p := ⟨wg, 0, none⟩) rlt).trans r0))
      all_goals
        go_wp2_with fail
        go_ret
        exact ⟨rfl, hB.trans (hb6'.mono hB.size)⟩

set_option maxRecDepth 100000 in
theorem lifted (os : Os) (started : os.Started) (H : Type) (enc : TypeId × Value → H) :
    ReturnsInHanded {} Try.checked os 10 .any (Rows.storePlaysSpec.pre6 enc Try.prog Try.f10 Rows.storePlaysRow.domain false) (Rows.storePlaysSpec.post enc Try.prog Try.f10 false true false false) := by
  refine returnsInHanded_of_change (C := Try.checked) own started (by kernel_rfl) Try.func10
    (ChangeSpec.witness6 (enc := enc) (C := Try.checked) false ⟨#[], #[.slice none 0 0], []⟩ 8 (by kernel_rfl) (by kernel_rfl) (by kernel_rfl) (by kernel_rfl)) ?_
  intro W base args ds gs before hval0 hW hcnd _
  have hval : ∀ (j : Nat) t v, Try.f10.params[j]? = some t → args[j]? = some v → Value.okWide Try.prog W .any base t v := hval0
  have hW' := hW
  obtain ⟨p, q, hA0, hV, rfl, hfz, hnd⟩ := hW
  have hA : DataW.TrodAll enc Try.prog W 0 (fun _ => true) true Try.f10.params.toList args.toList ds p := hA0
  rw [Try.params10] at hA hval
  obtain ⟨v0, vs0, d0, ds0, p0, q0, hargs, rfl, rfl, h0, r0⟩ := trodAll_cons hA
  obtain ⟨rfl, rfl, rfl⟩ := trodAll_nil r0
  obtain rfl : args = #[v0] := by cases args; simp_all
  obtain ⟨rfl, rfl⟩ := trodVars_none hV
  obtain ⟨a0, len0, cap0, rfl⟩ := okWide_slice Try.underlying45 (hval 0 45 v0 rfl rfl)
  have k0 := h0
  have lt0 : ∀ x ∈ p0, x.block < W.heap.size := by obtain ⟨m, hm⟩ := k0; exact DataW.trod_lt m _ _ _ hm
  obtain ⟨fuel0, hf0⟩ := h0
  have hg0 : DataW.trod enc Try.prog W 0 (fun _ => true) true fuel0 45 [.slice a0 len0 cap0] = some (d0, p0) := by simpa [Value.cells] using hf0
  obtain ⟨os0, w0⟩ := open_script hg0
  clear hA0 hval0
  refine (walk a0 len0 cap0 os0 W w0).mono fun e W' ⟨he, bel⟩ => ?_
  subst he
  exact ⟨_, rfl, _, _, _, [], _, [], hW', trodAll_mk1 (shut_bool Try.underlying4 _), (trodAll_cons_mk (Below.trod laidOut (by kernel_rfl) (of_decide_eq_true (by kernel_rfl)) k0 bel lt0) trodAll_mk0), rfl, bel.frame _, fun h => by cases h⟩

theorem closed : joinedFacts Try.prog 10 Try.f10 Rows.storePlaysSpec Rows.storePlaysRow = true := by
  have h1 := mayEnter_fact
  have h2 : (Rows.storePlaysRow.lifted == Try.prog.liftsFinal) = true := by rw [lifts_fact]; rfl
  have h3 : (Try.prog.make == some Rows.storePlaysRow.make) = true := by rw [make_fact]; rfl
  have hfin : ∀ b : Bool, b = true → b = true := fun _ h => h
  unfold joinedFacts
  rw [h1, h2, h3]
  clear h1 h2 h3
  refine hfin _ ?_
  kernel_rfl

theorem over : Rows.storePlaysRow.holds Try.pinned (OpenSpec.ofChange Rows.storePlaysSpec) :=
  OpenClaim.holds_of_wide 10 Try.f10 rfl rfl rfl rfl rfl rfl rfl ⟨rfl, rfl, rfl, rfl, rfl⟩ rfl rfl rfl rfl rfl (by kernel_rfl) Try.func10 closed
    (of_decide_eq_true (by kernel_rfl)) (by unfold Func.isWrapper; first | (rw [if_pos (by decide +kernel)]; kernel_rfl) | (rw [if_neg (by decide +kernel)]; exact ⟨rfl, rfl⟩))
    (fun os started H enc _ => lifted os started H enc)

/-- The statement. -/
theorem proved : Rows.StorePlaysSaid := over
#print axioms proved

end Go.Proofs.Ytlehianbdamgmaa.StorePlaysP
