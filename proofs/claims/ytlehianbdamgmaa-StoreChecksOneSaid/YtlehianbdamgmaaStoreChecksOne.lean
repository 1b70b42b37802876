/- StoreChecksOne: a list that is not too long may be a log just if each entry may be, and no view falls. -/
import Derived.Test.YtlehianbdamgmaaStoreAw
import Derived.Test.YtlehianbdamgmaaOpenE
import Derived.Test.YtlehianbdamgmaaQuietS
import Derived.Test.YtlehianbdamgmaaHead
import Derived.Test.YtlehianbdamgmaaOpenG
import Derived.Deep.RegionHeld3
import Derived.Lib.SmallJoins
import Derived.ProofKit
import Derived.OpenShut
import Derived.ShutString
import Derived.ChangeOld
import Derived.Laws.StructEq
namespace Go.Proofs.Ytlehianbdamgmaa.StoreChecksOneP
open Go.ChangeShapes Go.WideShapes Go.ChangeAt Go.RowKit
open Go.ChangeMaps (open_string shut_string)
set_option linter.unusedVariables false

theorem own : ownKnob Try.prog.godebug = none := by kernel_rfl
theorem laidOut : laidOutB Try.prog = true := by kernel_rfl
theorem bnext {a b c : World} (h : Below a.heap.size a b) (k : Below b.heap.size b c) : Below a.heap.size a c := h.trans (k.mono h.size)
/-- May the first k entries be, and rise? -/
def fineTo (l : List Ent) (k : Nat) : Bool := allOk (l.take k) && !falls (l.take k)
theorem fineTo_mono {l : List Ent} {k : Nat} {x : Ent} (hx : l[k]? = some x) (h : fineTo l k = false) : fineTo l (k + 1) = false := by
  unfold fineTo at *
  rw [Bool.and_eq_false_iff] at h ⊢
  rcases h with h | h
  · left
    unfold allOk at *
    rw [take_next hx, List.all_append, h]
    rfl
  · right
    rw [Bool.not_eq_false'] at h ⊢
    exact falls_mono h (by omega)
theorem fineTo_bad {l : List Ent} {k : Nat} {x : Ent} (hx : l[k]? = some x) (h : ¬ x.ok) : fineTo l (k + 1) = false := by
  unfold fineTo
  rw [Bool.and_eq_false_iff]
  left
  refine allOk_no (k := k) (x := x) ?_ h
  rw [List.getElem?_take, if_pos (by omega)]
  exact hx
theorem fineTo_one {l : List Ent} {x : Ent} (hx : l[0]? = some x) (h : x.ok) : fineTo l (0 + 1) = true := by
  unfold fineTo
  rw [falls_one, allOk_next (by rfl) hx h]
  rfl
theorem fineTo_next {l : List Ent} {k : Nat} {x y : Ent} (hf : fineTo l (k + 1) = true) (hy : l[k]? = some y) (hx : l[k + 1]? = some x) (h : x.ok) : fineTo l (k + 1 + 1) = decide (y.view ≤ x.view) := by
  unfold fineTo at *
  rw [Bool.and_eq_true] at hf
  rw [allOk_next hf.1 hx h, falls_take hy hx]
  have := hf.2
  rw [Bool.not_eq_true'] at this
  rw [this, Bool.true_and, Bool.false_or, Bool.eq_iff_iff]
  simp
theorem checkL_fine (l : List Ent) (h : l.length ≤ 500) : (checkL l == 0) = fineTo l l.length := by
  unfold fineTo
  rw [List.take_length]
  cases ha : allOk l with
  | false => rw [checkL_bad (by omega) ha]; rfl
  | true => cases hf : falls l with
    | true => rw [checkL_falls (by omega) ha hf]; rfl
    | false => rw [checkL_yes (by omega) ha hf]; rfl

/-- Two entries stand, and what was there stands. -/
def KE (w0 : World) (a1 : Addr) (x : Ent) (a2 : Addr) (y : Ent) (w : World) : Prop := EntAt w a1 x ∧ EntAt w a2 y ∧ a1.block < w0.heap.size ∧ a2.block < w0.heap.size ∧ Below w0.heap.size w0 w
theorem KE.cells {w0 w : World} {a1 a2 : Addr} {x y : Ent} (h : KE w0 a1 x a2 y w) : (w.cell? a1 = some (.int .i64 x.view) ∧ w.cell? ⟨a1.block, a1.off + 1, none⟩ = some (.int .i64 x.what) ∧ w.cell? ⟨a1.block, a1.off + 2, none⟩ = some (.int .i64 x.a) ∧ w.cell? ⟨a1.block, a1.off + 3, none⟩ = some (.int .i64 x.n)) ∧
    w.cell? a2 = some (.int .i64 y.view) ∧ KE w0 a1 x a2 y w := ⟨⟨h.1.c0, h.1.c1, h.1.c2, h.1.c3⟩, h.2.1.c0, h⟩
theorem KE.next {w0 w w' : World} {a1 a2 : Addr} {x y : Ent} (h : KE w0 a1 x a2 y w) (hb : Below w.heap.size w w') : KE w0 a1 x a2 y w' := by
  have hs := h.2.2.2.2.size
  exact ⟨h.1.keep hb (by have := h.2.2.1; omega), h.2.1.keep hb (by have := h.2.2.2.1; omega), h.2.2.1, h.2.2.2.1, bnext h.2.2.2.2 hb⟩

set_option maxRecDepth 100000 in
set_option maxHeartbeats 1000000 in
theorem walk (A0 : Option Addr) (n0 c0 : Nat) (l0 : List Ent) (w : World) (h0 : l0.length = n0 ∧ n0 ≤ c0 ∧ c0 ≤ maxLen ∧ ReadsE w w.heap.size A0 l0 ∧ ∀ e ∈ l0, e.In) :
    Calls Try.prog 5 #[.slice A0 n0 c0] w fun e w' => e = .returned (.bool true) ∧ Below w.heap.size w w' := by
  obtain ⟨rfl, hc0, hm0, hr0, hi0⟩ := h0
  have hlm := Nat.le_trans hc0 hm0
  unfold maxLen at hlm
  by_cases h500 : 500 < l0.length
  · go_enter Try.func5, Try.ntmps5
    go_wp2_with fail
    refine (awake19 _).mono ?_
    rintro _ wz ⟨rfl, hbz⟩
    go_wp2_with fail
    go_ret
    exact ⟨rfl, hbz⟩
  · have g1 := fun w' (hb : Below w.heap.size w w') => Lib.hid (scheck_any A0 c0 l0 w' ((hr0.below hb).more hb.size) hi0 (Nat.le_trans hc0 hm0))
    have gf := checkL_fine l0 (by omega)
    generalize checkL l0 = cl at g1 gf
    replace gf := Lib.hid gf
    go_enter Try.func5, Try.ntmps5
    go_wp2_with fail
    go_loopw [4, 3] (fun i f wr => ∃ k : Nat, k ≤ l0.length ∧ i = .int .i64 k ∧ f = .bool (fineTo l0 k) ∧ Below w.heap.size w wr) (fun i _ _ => l0.length - (intOf i).toNat)
    case atStart => exact ⟨0, by omega, rfl, rfl, Below.refl _ _⟩
    case round =>
      obtain ⟨k, hk, rfl, rfl, hb⟩ := hrel
      by_cases hlt : k < l0.length
      · obtain ⟨x, hx⟩ := ent_at hlt
        have hxi := hi0 x (List.mem_of_getElem? hx)
        have hc := fun w => Lib.hid (check_any x w hxi)
        obtain ⟨ad, rfl, hB, e1⟩ := hr0.at_ hx
        generalize hf0 : fineTo l0 k = b at *
        replace hf0 := Lib.hid hf0
        replace hx := Lib.hid hx
        cases b with
        | false =>
          go_wp2_with fail
          go_quiet (fail)
          go_wp2_with fail
          exact ⟨⟨k + 1, by omega, by go_num, by rw [fineTo_mono hx.out hf0.out], below_drewN hb _⟩, by simp [intOf]; omega⟩
        | true =>
          have hs := hb.size
          have hB1 : (ad.add (k * 4)).block < w.heap.size := by rw [block_of_add]; exact hB
          unfold Ent.val at hc
          by_cases hok : x.ok
          · simp only [Ent.err_yes hok] at hc
            by_cases hk0 : k = 0
            · subst hk0
              obtain ⟨K, hK⟩ : ∃ K : Nat, K = 0 := ⟨0, rfl⟩
              rw [show ad.add (0 * 4) = ad from by simp [Addr.add]] at e1 hB1
              clear hK
              go_wp2_with fail
              have k0 : ∀ z : Of (KE w ad x ad x), z.w.cell? ad = some (.int .i64 x.view) := fun z => z.ok.1.c0
              have k1 : ∀ z : Of (KE w ad x ad x), z.w.cell? ⟨ad.block, ad.off + 1, none⟩ = some (.int .i64 x.what) := fun z => z.ok.1.c1
              have k2 : ∀ z : Of (KE w ad x ad x), z.w.cell? ⟨ad.block, ad.off + 2, none⟩ = some (.int .i64 x.a) := fun z => z.ok.1.c2
              have k3 : ∀ z : Of (KE w ad x ad x), z.w.cell? ⟨ad.block, ad.off + 3, none⟩ = some (.int .i64 x.n) := fun z => z.ok.1.c3
              have k4 : ∀ z : Of (KE w ad x ad x), z.w.cell? ad = some (.int .i64 x.view) := fun z => z.ok.2.1.c0
              refine wp_region_sub (S := KE w ad x ad x) (by kernel_rfl) (by kernel_rfl) ⟨e1.keep hb.drew hB1, e1.keep hb.drew hB1, hB1, hB1, hb.drew⟩ fun hne => ?_
              repeat (any_goals (first | go_big_quiet_step ((go_at_call 21; exact sub_of ((hc _).out.mono fun _ _ hq => ⟨hq.1, KE.next (Of.ok _) hq.2⟩))) | quiet_step ((go_at_call 21; exact sub_of ((hc _).out.mono fun _ _ hq => ⟨hq.1, KE.next (Of.ok _) hq.2⟩)))))
              refine wpQuiet_nil ?_
              rintro _ ⟨⟨w5, hH5⟩, rfl⟩
              clear k0 k1 k2 k3 k4
              go_wp2_with fail
              exact ⟨⟨0 + 1, by omega, by go_num, by rw [fineTo_one hx.out hok], hH5.2.2.2.2⟩, by simp [intOf]; omega⟩
            · obtain ⟨K, rfl⟩ : ∃ K, k = K + 1 := ⟨k - 1, by omega⟩
              obtain ⟨y, hy⟩ := ent_at (show K < l0.length by omega)
              obtain ⟨_, had, _, e2⟩ := hr0.at_ hy
              injection had with had
              subst had
              have hB2 : (ad.add (K * 4)).block < w.heap.size := by rw [block_of_add]; exact hB
              have hd := Lib.hid (fineTo_next hf0.out hy hx.out hok)
              have g1' : IntKind.i64.wrap (((K + 1 : Nat) : Int) - 1) = (K : Int) := by rw [IntKind.wrap_i64]; omega
              have g2 : IntKind.i64.wrap ((K : Int) + 1 - 1) = (K : Int) := by rw [IntKind.wrap_i64]; omega
              have g3 : ((K : Int) + 1 - 1) = (K : Int) := by omega
              have g4 : (((K + 1 : Nat) : Int) == 0) = false := beq_eq_false_iff_ne.2 (by omega)
              have g5 : (((K : Int) + 1) == 0) = false := beq_eq_false_iff_ne.2 (by omega)
              have g6 : K < l0.length := by omega
              have g7 : K + 1 < l0.length := by omega
              have g8 : (0 : Int) ≤ (K : Int) := by omega
              have g9 : ((K : Int) + 1).toNat = K + 1 := by omega
              replace hy := Lib.hid hy
              go_wp2_with fail
              have k0 : ∀ z : Of (KE w (ad.add ((K + 1) * 4)) x (ad.add (K * 4)) y), z.w.cell? (ad.add ((K + 1) * 4)) = some (.int .i64 x.view) := fun z => z.ok.1.c0
              have k1 : ∀ z : Of (KE w (ad.add ((K + 1) * 4)) x (ad.add (K * 4)) y), z.w.cell? ⟨(ad.add ((K + 1) * 4)).block, (ad.add ((K + 1) * 4)).off + 1, none⟩ = some (.int .i64 x.what) := fun z => z.ok.1.c1
              have k2 : ∀ z : Of (KE w (ad.add ((K + 1) * 4)) x (ad.add (K * 4)) y), z.w.cell? ⟨(ad.add ((K + 1) * 4)).block, (ad.add ((K + 1) * 4)).off + 2, none⟩ = some (.int .i64 x.a) := fun z => z.ok.1.c2
              have k3 : ∀ z : Of (KE w (ad.add ((K + 1) * 4)) x (ad.add (K * 4)) y), z.w.cell? ⟨(ad.add ((K + 1) * 4)).block, (ad.add ((K + 1) * 4)).off + 3, none⟩ = some (.int .i64 x.n) := fun z => z.ok.1.c3
              have k4 : ∀ z : Of (KE w (ad.add ((K + 1) * 4)) x (ad.add (K * 4)) y), z.w.cell? (ad.add (K * 4)) = some (.int .i64 y.view) := fun z => z.ok.2.1.c0
              refine wp_region_sub (S := KE w (ad.add ((K + 1) * 4)) x (ad.add (K * 4)) y) (by kernel_rfl) (by kernel_rfl) ⟨e1.keep hb.drew hB1, e2.keep hb.drew hB2, hB1, hB2, hb.drew⟩ fun hne => ?_
              repeat (any_goals (first | go_big_quiet_step ((go_at_call 21; exact sub_of ((hc _).out.mono fun _ _ hq => ⟨hq.1, KE.next (Of.ok _) hq.2⟩))) | quiet_step ((go_at_call 21; exact sub_of ((hc _).out.mono fun _ _ hq => ⟨hq.1, KE.next (Of.ok _) hq.2⟩)))))
              refine wpQuiet_nil ?_
              rintro _ ⟨⟨w5, hH5⟩, rfl⟩
              clear k0 k1 k2 k3 k4
              go_wp2_with fail
              exact ⟨⟨K + 1 + 1, by omega, by go_num, by rw [hd.out], hH5.2.2.2.2⟩, by simp [intOf]; omega⟩
          · simp only [Ent.err_no hok] at hc
            have hd := Lib.hid (fineTo_bad hx.out hok)
            go_wp2_with fail
            have k0 : ∀ z : Of (KE w (ad.add (k * 4)) x (ad.add (k * 4)) x), z.w.cell? (ad.add (k * 4)) = some (.int .i64 x.view) := fun z => z.ok.1.c0
            have k1 : ∀ z : Of (KE w (ad.add (k * 4)) x (ad.add (k * 4)) x), z.w.cell? ⟨(ad.add (k * 4)).block, (ad.add (k * 4)).off + 1, none⟩ = some (.int .i64 x.what) := fun z => z.ok.1.c1
            have k2 : ∀ z : Of (KE w (ad.add (k * 4)) x (ad.add (k * 4)) x), z.w.cell? ⟨(ad.add (k * 4)).block, (ad.add (k * 4)).off + 2, none⟩ = some (.int .i64 x.a) := fun z => z.ok.1.c2
            have k3 : ∀ z : Of (KE w (ad.add (k * 4)) x (ad.add (k * 4)) x), z.w.cell? ⟨(ad.add (k * 4)).block, (ad.add (k * 4)).off + 3, none⟩ = some (.int .i64 x.n) := fun z => z.ok.1.c3
            have k4 : ∀ z : Of (KE w (ad.add (k * 4)) x (ad.add (k * 4)) x), z.w.cell? (ad.add (k * 4)) = some (.int .i64 x.view) := fun z => z.ok.2.1.c0
            refine wp_region_sub (S := KE w (ad.add (k * 4)) x (ad.add (k * 4)) x) (by kernel_rfl) (by kernel_rfl) ⟨e1.keep hb.drew hB1, e1.keep hb.drew hB1, hB1, hB1, hb.drew⟩ fun hne => ?_
            repeat (any_goals (first | go_big_quiet_step ((go_at_call 21; exact sub_of ((hc _).out.mono fun _ _ hq => ⟨hq.1, KE.next (Of.ok _) hq.2⟩))) | quiet_step ((go_at_call 21; exact sub_of ((hc _).out.mono fun _ _ hq => ⟨hq.1, KE.next (Of.ok _) hq.2⟩)))))
            refine wpQuiet_nil ?_
            rintro _ ⟨⟨w5, hH5⟩, rfl⟩
            clear k0 k1 k2 k3 k4
            go_wp2_with fail
            exact ⟨⟨k + 1, by omega, by go_num, by rw [hd.out], hH5.2.2.2.2⟩, by simp [intOf]; omega⟩
      · obtain rfl : k = l0.length := by omega
        generalize fineTo l0 l0.length = b at *
        go_wp2_with fail
        refine (g1 _ hb).out.mono ?_
        rintro _ w1 ⟨rfl, hb1⟩
        have gg := gf.out
        go_wp2_with fail
        refine (awake19 _).mono ?_
        rintro _ wz ⟨rfl, hbz⟩
        go_wp2_with fail
        go_ret
        exact ⟨rfl, bnext (bnext hb hb1) hbz⟩

set_option maxRecDepth 100000 in
theorem lifted (os : Os) (started : os.Started) (H : Type) (enc : TypeId × Value → H) :
    ReturnsInHanded {} Try.checked os 5 .any (Rows.storeChecksOneSpec.pre6 enc Try.prog Try.f5 Rows.storeChecksOneRow.domain false) (Rows.storeChecksOneSpec.post enc Try.prog Try.f5 false true false false) := by
  refine returnsInHanded_of_change (C := Try.checked) own started (by kernel_rfl) Try.func5
    (ChangeSpec.witness6 (enc := enc) (C := Try.checked) false ⟨#[], #[.slice none 0 0], []⟩ 8 (by kernel_rfl) (by kernel_rfl) (by kernel_rfl) (by kernel_rfl)) ?_
  intro W base args ds gs before hval0 hW hcnd _
  have hval : ∀ (j : Nat) t v, Try.f5.params[j]? = some t → args[j]? = some v → Value.okWide Try.prog W .any base t v := hval0
  have hW' := hW
  obtain ⟨p, q, hA0, hV, rfl, hfz, hnd⟩ := hW
  have hA : DataW.TrodAll enc Try.prog W 0 (fun _ => true) true Try.f5.params.toList args.toList ds p := hA0
  rw [Try.params5] at hA hval
  obtain ⟨v0, vs0, d0, ds0, p0, q0, hargs, rfl, rfl, h0, r0⟩ := trodAll_cons hA
  obtain ⟨rfl, rfl, rfl⟩ := trodAll_nil r0
  obtain rfl : args = #[v0] := by cases args; simp_all
  obtain ⟨rfl, rfl⟩ := trodVars_none hV
  obtain ⟨a0, len0, cap0, rfl⟩ := okWide_slice Try.underlying25 (hval 0 25 v0 rfl rfl)
  have k0 := h0
  have lt0 : ∀ x ∈ p0, x.block < W.heap.size := by obtain ⟨m, hm⟩ := k0; exact DataW.trod_lt m _ _ _ hm
  obtain ⟨fuel0, hf0⟩ := h0
  have hg0 : DataW.trod enc Try.prog W 0 (fun _ => true) true fuel0 25 [.slice a0 len0 cap0] = some (d0, p0) := by simpa [Value.cells] using hf0
  obtain ⟨os0, w0⟩ := open_entries hg0
  clear hA0 hval0
  refine (walk a0 len0 cap0 os0 W w0).mono fun e W' ⟨he, bel⟩ => ?_
  subst he
  exact ⟨_, rfl, _, _, _, [], _, [], hW', trodAll_mk1 (shut_bool Try.underlying4 _), (trodAll_cons_mk (Below.trod laidOut (by kernel_rfl) (of_decide_eq_true (by kernel_rfl)) k0 bel lt0) trodAll_mk0), rfl, bel.frame _, fun h => by cases h⟩

theorem closed : joinedFacts Try.prog 5 Try.f5 Rows.storeChecksOneSpec Rows.storeChecksOneRow = true := by
  have h1 := mayEnter_fact
  have h2 : (Rows.storeChecksOneRow.lifted == Try.prog.liftsFinal) = true := by rw [lifts_fact]; rfl
  have h3 : (Try.prog.make == some Rows.storeChecksOneRow.make) = true := by rw [make_fact]; rfl
  have hfin : ∀ b : Bool, b = true → b = true := fun _ h => h
  unfold joinedFacts
  rw [h1, h2, h3]
  clear h1 h2 h3
  refine hfin _ ?_
  kernel_rfl

theorem over : Rows.storeChecksOneRow.holds Try.pinned (OpenSpec.ofChange Rows.storeChecksOneSpec) :=
  OpenClaim.holds_of_wide 5 Try.f5 rfl rfl rfl rfl rfl rfl rfl ⟨rfl, rfl, rfl, rfl, rfl⟩ rfl rfl rfl rfl rfl (by kernel_rfl) Try.func5 closed
    (of_decide_eq_true (by kernel_rfl)) (by unfold Func.isWrapper; first | (rw [if_pos (by decide +kernel)]; kernel_rfl) | (rw [if_neg (by decide +kernel)]; exact ⟨rfl, rfl⟩))
    (fun os started H enc _ => lifted os started H enc)

/-- The statement. -/
theorem proved : Rows.StoreChecksOneSaid := over
#print axioms proved

end Go.Proofs.Ytlehianbdamgmaa.StoreChecksOneP
