/- StoreRises: whatever is added, or set, the views of a log rise, each of its entries may be, and it begins with what it was, unless it was set. -/
import Derived.Test.YtlehianbdamgmaaStoreAw
import Derived.Test.YtlehianbdamgmaaStoreS
import Derived.Test.YtlehianbdamgmaaOpenS
import Derived.Test.YtlehianbdamgmaaHead
import Derived.Test.YtlehianbdamgmaaOpenG
import Derived.Deep.RegionHeld3
import Derived.Lib.SmallJoins
import Derived.ProofKit
import Derived.OpenShut
import Derived.ShutString
import Derived.ChangeOld
import Derived.Laws.StructEq
namespace Go.Proofs.Ytlehianbdamgmaa.StoreRisesP
open Go.ChangeShapes Go.WideShapes Go.ChangeAt Go.RowKit
open Go.ChangeMaps (open_string shut_string)
set_option linter.unusedVariables false

theorem own : ownKnob Try.prog.godebug = none := by kernel_rfl
theorem laidOut : laidOutB Try.prog = true := by kernel_rfl
theorem bnext {a b c : World} (h : Below a.heap.size a b) (k : Below b.heap.size b c) : Below a.heap.size a c := h.trans (k.mono h.size)
theorem falls_last {l : List Ent} {e : Ent} (h : falls l = false) (h1 : ¬ e.view < viewL l) : falls (l ++ [e]) = false := by
  rcases List.eq_nil_or_concat l with rfl | ⟨p, x, rfl⟩
  · rfl
  · simp only [List.concat_eq_append] at *
    have hv : viewL (p ++ [x]) = x.view := by unfold viewL; rw [List.getLast?_concat]
    rw [List.append_assoc]
    rw [hv] at h1
    rw [show [x] ++ [e] = [x, e] from rfl, falls_snoc, h, Bool.false_or]
    exact decide_eq_false h1
theorem check_facts {l : List Ent} (h : checkL l = 0) : l.length ≤ 4096 ∧ allOk l = true ∧ falls l = false := by
  unfold checkL at h
  split at h
  · cases h
  · rename_i h0
    split at h
    · cases h
    · rename_i h1
      split at h
      · cases h
      · rename_i h2
        exact ⟨by omega, by simpa using h1, by simpa using h2⟩
theorem check_add {l : List Ent} (e : Ent) (h : checkL l = 0) : checkL (addNew l e) = 0 := by
  unfold addNew
  split
  · rename_i hc
    unfold addCode at hc
    split at hc
    · cases hc
    · rename_i h0
      split at hc
      · cases hc
      · rename_i h1
        split at hc
        · cases hc
        · rename_i h2
          obtain ⟨k0, k1, k2⟩ := check_facts h
          refine checkL_yes (by rw [List.length_append]; simp; omega) ?_ (falls_last k2 h1)
          unfold allOk at *
          rw [List.all_append, k1]
          simp at h0 ⊢
          exact h0
  · exact h
theorem check_set {l : List Ent} (new : List Ent) (h : checkL l = 0) : checkL (setNew l new) = 0 := by
  unfold setNew
  split
  · assumption
  · exact h
theorem begins_add (l : List Ent) (e : Ent) : begins (addNew l e) l = true := by
  refine begins_yes ?_
  unfold addNew
  split
  · exact List.take_left
  · exact List.take_length
theorem in_add {l : List Ent} {e : Ent} (h : InL l) (he : e.In) : InL (addNew l e) := by
  unfold addNew
  split
  · intro x hx
    rcases List.mem_append.1 hx with hx | hx
    · exact h x hx
    · rw [List.mem_singleton.1 hx]; exact he
  · exact h
theorem in_set {l new : List Ent} (h : InL l) (hn : InL new) : InL (setNew l new) := by
  unfold setNew
  split
  · exact hn
  · exact h

set_option maxRecDepth 100000 in
set_option maxHeartbeats 2000000 in
theorem walk (A0 : Option Addr) (n0 c0 : Nat) (os : List SOp) (w : World) (h0 : os.length = n0 ∧ n0 ≤ maxLen ∧ ScriptS w w.heap.size A0 os ∧ ∀ o ∈ os, in64 o.n ∧ o.e.In ∧ ∀ e ∈ o.l, e.In) :
    Calls Try.prog 8 #[.slice A0 n0 c0] w fun e w' => e = .returned (.bool true) ∧ Below w.heap.size w w' := by
  obtain ⟨rfl, hm, hSc, hIn⟩ := h0
  unfold maxLen at hm
  have gadd := fun g l e hi w F base h => Lib.hid (add_any g l e hi w F base h)
  have gset := fun g l new A2 c2 w F base h hr hi hm => Lib.hid (set_any g l new A2 c2 w F base h hr hi hm)
  have gfrom : ∀ g l w F base, St w F base g l → Hid (Calls Try.prog 33 #[.pointer (some ⟨g, 0, none⟩), .int .i64 0] w (LPost w l)) := fun g l w F base h => Lib.hid (from_any g l 0 w F base h)
  have gcheck := fun A c l w h1 hi hl => Lib.hid (scheck_any A c l w h1 hi hl)
  have gbeg := fun A1 A2 c1 c2 l a w h1 h2 hl hm => Lib.hid (begins_any A1 A2 c1 c2 l a w h1 h2 hl hm)
  unfold Ent.val at gadd
  have gnew := fun w => Lib.hid (new_any w)
  have gaw := fun w => Lib.hid (awake19 w)
  go_enter Try.func8, Try.ntmps8
  go_wp2_with fail
  refine (gnew _).out.mono ?_
  rintro _ w1 ⟨rfl, hS1, hb1⟩
  go_wp2_with fail
  go_loopw [4, 5] (fun old i wr => ∃ (k : Nat) (F : Nat → Prop) (l : List Ent) (A : Option Addr) (c b : Nat), k ≤ os.length ∧ i = .int .i64 k ∧ old = .slice A l.length c ∧ St wr F w.heap.size w.heap.size l ∧ checkL l = 0 ∧ InL l ∧ OwnE wr b (.slice A l.length c) l ∧ (∀ j, (Value.slice A l.length c).ownBlock = some j → ¬ F j) ∧ Below w.heap.size w wr) (fun _ i _ => os.length - (intOf i).toNat)
  case atStart => exact ⟨0, _, [], none, 0, 0, by omega, rfl, rfl, hS1, rfl, (fun e he => by cases he), OwnE.nil _ _, (fun j hj => by cases hj), hb1⟩
  case round =>
    obtain ⟨k, F, l, A, c, b, hk, rfl, rfl, hS, hck, hin, hO, hF, hB⟩ := hrel
    replace hck := Lib.hid hck
    by_cases hlt : k < os.length ∧ k < 100
    · obtain ⟨hlt, h100⟩ := hlt
      have b1 : decide ((k : Int) < (os.length : Int)) = true := decide_eq_true (by omega)
      have b2 : decide ((k : Int) < 100) = true := decide_eq_true (by omega)
      obtain ⟨ad, rfl, hlo, hC⟩ := hSc k os[k] (List.getElem?_eq_getElem hlt)
      obtain ⟨in1, in2, in3⟩ := hIn os[k] (List.getElem_mem hlt)
      generalize os[k] = o at *
      obtain ⟨A2, c2, d0, d1, d2, d3, d4, d5, d6, hrb, hlc, hmx⟩ := hC
      obtain ⟨ow, on, oe, ol⟩ := o
      dsimp only at d0 d1 d2 d3 d4 d5 d6 hrb hlc in1 in2 in3
      unfold maxLen at hmx
      have hpb : (ad.add (k * 7)).block < w.heap.size := by rw [block_of_add]; exact hlo
      replace d0 := (hB.cell (p := ad.add (k * 7)) hpb).trans d0
      replace d1 : wr.cell? { block := (ad.add (k * 7)).block, off := (ad.add (k * 7)).off + 1 } = some (.int .i64 on) := (hB.cell (p := ⟨_, _, none⟩) hpb).trans d1
      replace d2 : wr.cell? { block := (ad.add (k * 7)).block, off := (ad.add (k * 7)).off + 2 } = some (.int .i64 oe.view) := (hB.cell (p := ⟨_, _, none⟩) hpb).trans d2
      replace d3 : wr.cell? { block := (ad.add (k * 7)).block, off := (ad.add (k * 7)).off + 3 } = some (.int .i64 oe.what) := (hB.cell (p := ⟨_, _, none⟩) hpb).trans d3
      replace d4 : wr.cell? { block := (ad.add (k * 7)).block, off := (ad.add (k * 7)).off + 4 } = some (.int .i64 oe.a) := (hB.cell (p := ⟨_, _, none⟩) hpb).trans d4
      replace d5 : wr.cell? { block := (ad.add (k * 7)).block, off := (ad.add (k * 7)).off + 5 } = some (.int .i64 oe.n) := (hB.cell (p := ⟨_, _, none⟩) hpb).trans d5
      replace d6 : wr.cell? { block := (ad.add (k * 7)).block, off := (ad.add (k * 7)).off + 6 } = some (.slice A2 ol.length c2) := (hB.cell (p := ⟨_, _, none⟩) hpb).trans d6
      have hSa := St.below hS ((Below.refl _ _).alloc (Nat.le_refl _) (.cells #[.int .i64 ow, .int .i64 on, .int .i64 oe.view, .int .i64 oe.what, .int .i64 oe.a, .int .i64 oe.n, .slice A2 ol.length c2] 49))
      have hba : Below wr.heap.size wr (wr.alloc (.cells #[.int .i64 ow, .int .i64 on, .int .i64 oe.view, .int .i64 oe.what, .int .i64 oe.a, .int .i64 oe.n, .slice A2 ol.length c2] 49)) := (Below.refl _ _).alloc (Nat.le_refl _) _
      have hL := Blk.new wr 49 #[.int .i64 ow, .int .i64 on, .int .i64 oe.view, .int .i64 oe.what, .int .i64 oe.a, .int .i64 oe.n, .slice A2 ol.length c2]
      have hOa := OwnE.below hO hba
      have hBa := hB.trans (hba.mono hB.size)
      have hra := hrb.below hBa
      have hFlt := hSa.lt
      have hnF : ¬ F wr.heap.size := fun h => by have := (hS.lt _ h).2; omega
      have hsz := hba.size
      have l4 := hS.len
      by_cases hw : ow = 1
      · subst hw
        go_wp2_with fail
        generalize (wr.alloc (.cells #[.int .i64 1, .int .i64 on, .int .i64 oe.view, .int .i64 oe.what, .int .i64 oe.a, .int .i64 oe.n, .slice A2 ol.length c2] 49)) = W at *
        refine (gset _ l ol A2 c2 _ F _ hSa (Reads.more hra hBa.size) in3 (by unfold maxLen; omega)).out.mono ?_
        rintro _ w3 ⟨rfl, hS3, hT3⟩
        have hT3' := hT3.mono fun j _ hj => hj
        obtain ⟨hS3, hT3⟩ := St.from_ hS hba ⟨hS3, hT3⟩
        have hO3 := own_turned hO hT3 hF
        have hB3 := hB.trans (hT3.below hB.size fun j hj => (hS.lt j hj).1)
        have hF3 : ∀ j, (Value.slice A l.length c).ownBlock = some j → ¬ Grow F wr w3 j := fun j hj h => by
          rcases h with h | h
          · exact hF j hj h
          · have := (own_at hO hj).2; omega
        have hL3 : Blk w3 wr.heap.size 49 #[.int .i64 1, .int .i64 on, .int .i64 oe.view, .int .i64 oe.what, .int .i64 oe.a, .int .i64 oe.n, .slice A2 ol.length c2] := hL.turned hT3' hnF
        have hck3 := Lib.hid (check_set ol hck.out)
        have hin3 := in_set hin in3
        have hl3 := hS3.len
        generalize hnew : setNew l ol = l3 at *
        replace hnew := Lib.hid hnew
        go_wp2_with fail
        refine (gfrom _ _ _ _ _ hS3).out.mono ?_
        rintro _ w4 ⟨A4, c4, rfl, hO4, hb4⟩
        have hS4 := hS3.below hb4
        have hL4 := hL3.below hb4 hL3.lt
        have hO34 := OwnE.below hO3 hb4
        have hB4 := hB3.trans (hb4.mono hB3.size)
        have r4 := hO4.reads
        have f0 : w4.cell? ⟨wr.heap.size, 0, none⟩ = some (.int .i64 1) := hL4.cell 0
        have gc := gcheck A4 c4 l3 w4 r4 hin3 (by unfold maxLen; omega)
        rw [hck3.out] at gc
        have hr34 := hO34.reads
        clear d0 d1 d2 d3 d4 d5 d6
        go_wp2_with fail
        refine gc.out.mono ?_
        rintro _ w5 ⟨rfl, hb5⟩
        have hS5 := hS4.below hb5
        have hL5 := hL4.below hb5 hL4.lt
        have hO5 := OwnE.below hO4 hb5
        have hB5 := hB4.trans (hb5.mono hB4.size)
        have f5 : w5.cell? ⟨wr.heap.size, 0, none⟩ = some (.int .i64 1) := hL5.cell 0
        have hr35 := ReadsE.below (hr34.more (Nat.le_refl _)) hb5
        have s5 := hb5.size
        go_wp2_with fail
        exact ⟨⟨k + 1, _, l3, A4, c4, _, by omega, by go_num, rfl, hS5, hck3.out, hin3, hO5, (fun j hj h => by have h1 := (hS3.lt j h).2; have h2 := (own_at hO4 hj).1; omega), hB5⟩, by simp [intOf]; omega⟩
      · have e1 : (ow == 1) = false := by simpa using hw
        go_wp2_with fail
        generalize (wr.alloc (.cells #[.int .i64 ow, .int .i64 on, .int .i64 oe.view, .int .i64 oe.what, .int .i64 oe.a, .int .i64 oe.n, .slice A2 ol.length c2] 49)) = W at *
        refine (gadd _ l oe in2 _ F _ hSa).out.mono ?_
        rintro _ w3 ⟨rfl, hS3, hT3⟩
        have hT3' := hT3.mono fun j _ hj => hj
        obtain ⟨hS3, hT3⟩ := St.from_ hS hba ⟨hS3, hT3⟩
        have hO3 := own_turned hO hT3 hF
        have hB3 := hB.trans (hT3.below hB.size fun j hj => (hS.lt j hj).1)
        have hF3 : ∀ j, (Value.slice A l.length c).ownBlock = some j → ¬ Grow F wr w3 j := fun j hj h => by
          rcases h with h | h
          · exact hF j hj h
          · have := (own_at hO hj).2; omega
        have hL3 : Blk w3 wr.heap.size 49 #[.int .i64 ow, .int .i64 on, .int .i64 oe.view, .int .i64 oe.what, .int .i64 oe.a, .int .i64 oe.n, .slice A2 ol.length c2] := hL.turned hT3' hnF
        have hck3 := Lib.hid (check_add oe hck.out)
        have hin3 := in_add hin in2
        have hl3 := hS3.len
        generalize hnew : addNew l oe = l3 at *
        replace hnew := Lib.hid hnew
        go_wp2_with fail
        refine (gfrom _ _ _ _ _ hS3).out.mono ?_
        rintro _ w4 ⟨A4, c4, rfl, hO4, hb4⟩
        have hS4 := hS3.below hb4
        have hL4 := hL3.below hb4 hL3.lt
        have hO34 := OwnE.below hO3 hb4
        have hB4 := hB3.trans (hb4.mono hB3.size)
        have r4 := hO4.reads
        have f0 : w4.cell? ⟨wr.heap.size, 0, none⟩ = some (.int .i64 ow) := hL4.cell 0
        have gc := gcheck A4 c4 l3 w4 r4 hin3 (by unfold maxLen; omega)
        rw [hck3.out] at gc
        have hr34 := hO34.reads
        clear d0 d1 d2 d3 d4 d5 d6
        go_wp2_with fail
        refine gc.out.mono ?_
        rintro _ w5 ⟨rfl, hb5⟩
        have hS5 := hS4.below hb5
        have hL5 := hL4.below hb5 hL4.lt
        have hO5 := OwnE.below hO4 hb5
        have hB5 := hB4.trans (hb5.mono hB4.size)
        have f5 : w5.cell? ⟨wr.heap.size, 0, none⟩ = some (.int .i64 ow) := hL5.cell 0
        have hr35 := ReadsE.below (hr34.more (Nat.le_refl _)) hb5
        have s5 := hb5.size
        go_wp2_with fail
        have gb := gbeg A4 A c4 c l3 l w5 hO5.reads (hr35.more s5) (by unfold maxLen; omega) (by unfold maxLen; omega)
        rw [show begins l3 l = true from by rw [← hnew.out]; exact begins_add l oe] at gb
        refine gb.out.mono ?_
        rintro _ w6 ⟨rfl, hb6⟩
        have hS6 := hS5.below hb6
        have hO6 := OwnE.below hO5 hb6
        have hB6 := hB5.trans (hb6.mono hB5.size)
        go_wp2_with fail
        exact ⟨⟨k + 1, _, l3, A4, c4, _, by omega, by go_num, rfl, hS6, hck3.out, hin3, hO6, (fun j hj h => by have h1 := (hS3.lt j h).2; have h2 := (own_at hO4 hj).1; omega), hB6⟩, by simp [intOf]; omega⟩
    · by_cases hkl : k < os.length
      · have b1 : decide ((k : Int) < (os.length : Int)) = true := decide_eq_true (by omega)
        have b2 : decide ((k : Int) < 100) = false := decide_eq_false (by omega)
        have h100 : ¬ k < 100 := by omega
        clear hlt
        go_wp2_with fail
        all_goals
          refine (gaw _).out.mono ?_
          rintro _ w3 ⟨rfl, hb3⟩
          go_wp2_with fail
          go_ret
          exact ⟨rfl, hB.trans (hb3.mono hB.size)⟩
      · have b1 : decide ((k : Int) < (os.length : Int)) = false := decide_eq_false (by omega)
        clear hlt
        go_wp2_with fail
        all_goals
          refine (gaw _).out.mono ?_
          rintro _ w3 ⟨rfl, hb3⟩
          go_wp2_with fail
          go_ret
          exact ⟨rfl, hB.trans (hb3.mono hB.size)⟩

set_option maxRecDepth 100000 in
theorem lifted (os : Os) (started : os.Started) (H : Type) (enc : TypeId × Value → H) :
    ReturnsInHanded {} Try.checked os 8 .any (Rows.storeRisesSpec.pre6 enc Try.prog Try.f8 Rows.storeRisesRow.domain false) (Rows.storeRisesSpec.post enc Try.prog Try.f8 false true false false) := by
  refine returnsInHanded_of_change (C := Try.checked) own started (by kernel_rfl) Try.func8
    (ChangeSpec.witness6 (enc := enc) (C := Try.checked) false ⟨#[], #[.slice none 0 0], []⟩ 8 (by kernel_rfl) (by kernel_rfl) (by kernel_rfl) (by kernel_rfl)) ?_
  intro W base args ds gs before hval0 hW hcnd _
  have hval : ∀ (j : Nat) t v, Try.f8.params[j]? = some t → args[j]? = some v → Value.okWide Try.prog W .any base t v := hval0
  have hW' := hW
  obtain ⟨p, q, hA0, hV, rfl, hfz, hnd⟩ := hW
  have hA : DataW.TrodAll enc Try.prog W 0 (fun _ => true) true Try.f8.params.toList args.toList ds p := hA0
  rw [Try.params8] at hA hval
  obtain ⟨v0, vs0, d0, ds0, p0, q0, hargs, rfl, rfl, h0, r0⟩ := trodAll_cons hA
  obtain ⟨rfl, rfl, rfl⟩ := trodAll_nil r0
  obtain rfl : args = #[v0] := by cases args; simp_all
  obtain ⟨rfl, rfl⟩ := trodVars_none hV
  obtain ⟨a0, len0, cap0, rfl⟩ := okWide_slice Try.underlying45 (hval 0 45 v0 rfl rfl)
  have k0 := h0
  have lt0 : ∀ x ∈ p0, x.block < W.heap.size := by obtain ⟨m, hm⟩ := k0; exact DataW.trod_lt m _ _ _ hm
  obtain ⟨fuel0, hf0⟩ := h0
  have hg0 : DataW.trod enc Try.prog W 0 (fun _ => true) true fuel0 45 [.slice a0 len0 cap0] = some (d0, p0) := by simpa [Value.cells] using hf0
  obtain ⟨os0, w0⟩ := open_script hg0
  clear hA0 hval0
  refine (walk a0 len0 cap0 os0 W w0).mono fun e W' ⟨he, bel⟩ => ?_
  subst he
  exact ⟨_, rfl, _, _, _, [], _, [], hW', trodAll_mk1 (shut_bool Try.underlying4 _), (trodAll_cons_mk (Below.trod laidOut (by kernel_rfl) (of_decide_eq_true (by kernel_rfl)) k0 bel lt0) trodAll_mk0), rfl, bel.frame _, fun h => by cases h⟩

theorem closed : joinedFacts Try.prog 8 Try.f8 Rows.storeRisesSpec Rows.storeRisesRow = true := by
  have h1 := mayEnter_fact
  have h2 : (Rows.storeRisesRow.lifted == Try.prog.liftsFinal) = true := by rw [lifts_fact]; rfl
  have h3 : (Try.prog.make == some Rows.storeRisesRow.make) = true := by rw [make_fact]; rfl
  have hfin : ∀ b : Bool, b = true → b = true := fun _ h => h
  unfold joinedFacts
  rw [h1, h2, h3]
  clear h1 h2 h3
  refine hfin _ ?_
  kernel_rfl

theorem over : Rows.storeRisesRow.holds Try.pinned (OpenSpec.ofChange Rows.storeRisesSpec) :=
  OpenClaim.holds_of_wide 8 Try.f8 rfl rfl rfl rfl rfl rfl rfl ⟨rfl, rfl, rfl, rfl, rfl⟩ rfl rfl rfl rfl rfl (by kernel_rfl) Try.func8 closed
    (of_decide_eq_true (by kernel_rfl)) (by unfold Func.isWrapper; first | (rw [if_pos (by decide +kernel)]; kernel_rfl) | (rw [if_neg (by decide +kernel)]; exact ⟨rfl, rfl⟩))
    (fun os started H enc _ => lifted os started H enc)

/-- The statement. -/
theorem proved : Rows.StoreRisesSaid := over
#print axioms proved

end Go.Proofs.Ytlehianbdamgmaa.StoreRisesP
