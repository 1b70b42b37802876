/- FlowRight, where what is read is of bulk at most 1048576: nobody falls out. -/
import Derived.Test.YtcinmgifadmbeaaBulk
import Derived.JoinedCond
import Derived.Test.YtcinmgifadmbeaaFlowD
import Derived.Test.YtcinmgifadmbeaaHead
import Derived.Test.YtcinmgifadmbeaaOpenG
import Derived.Deep.RegionHeld3
import Derived.Lib.SmallJoins
import Derived.ProofKit
import Derived.OpenShut
import Derived.ShutString
import Derived.ChangeOld
import Derived.Laws.StructEq
namespace Go.Proofs.Ytcinmgifadmbeaa.FlowRightP
open Go.ChangeShapes Go.WideShapes Go.ChangeAt Go.RowKit
open Go.ChangeMaps (open_string shut_string)
set_option linter.unusedVariables false

theorem own : ownKnob Try.prog.godebug = none := by kernel_rfl
theorem laidOut : laidOutB Try.prog = true := by kernel_rfl
theorem bnext {a b c : World} (h : Below a.heap.size a b) (k : Below b.heap.size b c) : Below a.heap.size a c := h.trans (k.mono h.size)
theorem meth_below {w w' : World} {v : Value} {k0 k1 k2 k3 k4 : Int} {A : Option Addr} {c : Nat} {bs : List Int} {At_ : Option Addr} {ct : Nat} {ts : List Tr} {Am : Option Addr} {lm cm : Nat} (h : MethIn w v k0 k1 k2 k3 k4 A c bs At_ ct ts Am lm cm) (hb : Below w.heap.size w w') : MethIn w' v k0 k1 k2 k3 k4 A c bs At_ ct ts Am lm cm :=
  ⟨h.val, (Reads.below h.code hb).more hb.size, h.byte, h.cap, h.max_, (Reads.below h.traps hb).more hb.size, h.fits, h.tcap, h.tmax⟩
theorem chL_len (bs : List Int) (ts : List Tr) (hs : bs.length ≤ 4194304) : (chL bs ts).length ≤ 4194304 := by
  unfold chL
  split
  · by_cases h : listE bs = 0
    · have := rowI_len (list_row h); omega
    · rw [list_none h]; simp
  · simp
theorem chE_zero {bs : List Int} {ts : List Tr} (h : chE bs ts = 0) : listE bs = 0 ∧ chB (listL bs) bs.length ts = true := by
  unfold chE at h
  split at h
  · rename_i h1
    split at h
    · rename_i h2; exact ⟨h1, h2⟩
    · omega
  · rename_i h1; exact absurd h h1
theorem atN_yes {l : List Ins} {x : Int} (h : okI l x = true) : ∃ n : Nat, atN l x = n := by
  rcases atN_ok l x with ⟨h1, _⟩ | ⟨_, h2⟩
  · rw [h] at h1; cases h1
  · exact h2
theorem trap_parts {ls : List Ins} {n : Nat} {t : Tr} (h : trapI ls n t = true) : okI ls t.fr = true ∧ okI ls t.hd = true ∧ (¬ t.to_ = n → okI ls t.to_ = true) := by
  unfold trapI at h
  simp only [Bool.and_eq_true, Bool.or_eq_true, decide_eq_true_eq] at h
  exact ⟨h.1.1, h.1.2, fun hn => h.2.resolve_left hn⟩
theorem fine_last {ls : List Ins} (h : fineI ls = true) : ∃ i, ls[ls.length - 1]? = some i ∧ 0 < ls.length ∧ fallsI i = false := by
  unfold fineI at h
  cases hl : ls.getLast? with
  | none => rw [hl] at h; cases h
  | some i =>
    rw [hl] at h
    refine ⟨i, by rw [← List.getLast?_eq_getElem?]; exact hl, ?_, by simpa using h⟩
    cases ls with
    | nil => cases hl
    | cons => simp

set_option maxRecDepth 100000 in
set_option maxHeartbeats 4000000 in
theorem walk (k0 k1 k2 k3 k4 : Int) (A : Option Addr) (c : Nat) (bs : List Int) (At_ : Option Addr) (ct : Nat) (ts : List Tr) (Am : Option Addr) (lm cm : Nat) (v : Value) (w : World) (hm : MethIn w v k0 k1 k2 k3 k4 A c bs At_ ct ts Am lm cm) (hs : bs.length ≤ 1048576) :
    Calls Try.prog 14 #[v] w fun e w' => e = .returned (.bool true) ∧ Below w.heap.size w w' := by
  have hck := fun w' (hb : Below w.heap.size w w') => Lib.hid (check_any k0 k1 k2 k3 k4 A c bs At_ ct ts Am lm cm v w' (meth_below hm hb) (by omega))
  have gaw := fun w => Lib.hid (awake07 w)
  unfold CkPost at hck
  have hv := hm.val
  subst hv
  obtain ⟨_, hr, hby, hcap, hmx, hrt, hfit, htc, htm⟩ := hm
  unfold maxLen at htm
  have hX := Blk.new w 58 #[.int .i64 k0, .int .i64 k1, .int .i64 k2, .int .i64 k3, .int .i64 k4, .slice A bs.length c, .slice At_ ts.length ct, .slice Am lm cm]
  have hW0 : Below w.heap.size w (w.alloc (.cells #[.int .i64 k0, .int .i64 k1, .int .i64 k2, .int .i64 k3, .int .i64 k4, .slice A bs.length c, .slice At_ ts.length ct, .slice Am lm cm] 58)) := (Below.refl _ _).alloc (Nat.le_refl _) _
  by_cases he : chE bs ts = 0
  · obtain ⟨he1, hch⟩ := chE_zero he
    have hls : chL bs ts = listL bs := by unfold chL; rw [if_pos he]
    rw [he, hls] at hck
    have hrow := list_row he1
    have hfa := list_fit hby he1 (by omega)
    generalize listL bs = ls at *
    have hll : ls.length ≤ 1048576 := by have := rowI_len hrow; omega
    have hfi := rowI_fit hrow (by omega)
    unfold chB at hch
    simp only [Bool.and_eq_true] at hch
    obtain ⟨⟨hfin, hjmp⟩, htrp⟩ := hch
    obtain ⟨i, hlast, hpos, hfl⟩ := fine_last hfin
    replace hls := Lib.hid hls
    replace hrow := Lib.hid hrow
    replace hfin := Lib.hid hfin
    replace hjmp := Lib.hid hjmp
    replace htrp := Lib.hid htrp
    replace hlast := Lib.hid hlast
    replace hpos := Lib.hid hpos
    have hfalls := fun w => Lib.hid (falls_any i w)
    rw [hfl] at hfalls
    unfold Ins.val at hfalls
    clear hfl he he1
    go_enter Try.func14, Try.ntmps14
    go_wp2_with fail
    refine (hck _ hW0).out.mono ?_
    rintro _ w1 ⟨A1, c1, rfl, hr1, hl1, hm1, hb1⟩
    have hw1 : w.heap.size < w1.heap.size := by have := hb1.size; simp at this; omega
    have hB1 := hW0.trans (hb1.mono hW0.size)
    replace hX := hX.below hb1 hX.lt
    clear hck
    have hat := fun wr x (hB : Below w1.heap.size w1 wr) (hx : fit64 x) => Lib.hid (at07_any A1 c1 ls x wr ((ReadsI.below hr1 hB).more hB.size) hfi (by omega) hx)
    go_wp2_with fail
    go_loopw [5] (fun i wr => ∃ k : Nat, k ≤ ls.length ∧ i = .int .i64 k ∧ Below w1.heap.size w1 wr) (fun i _ => ls.length - (intOf i).toNat)
    case atStart => exact ⟨0, Nat.zero_le _, rfl, Below.refl _ _⟩
    case round =>
      obtain ⟨k, hk, rfl, hB⟩ := hrel
      by_cases hlt : k < ls.length
      · obtain ⟨x, hx⟩ := ins_at hlt
        have hxa := hfa x (List.mem_of_getElem? hx)
        have hj := List.all_eq_true.1 hjmp.out x (List.mem_of_getElem? hx)
        obtain ⟨ad, q, _, e1⟩ := (ReadsI.below hr1 hB).at_ hx
        first | subst q | (injection q with q; subst q)
        obtain ⟨a0, a1, a2, a3, a4⟩ := e1
        have hleads := fun w => Lib.hid (leads_any x w)
        unfold Ins.val at hleads
        replace hx := Lib.hid hx
        cases hld : ldB x with
        | true =>
          have hla : ldA x = x.a := by unfold ldA; rw [if_pos hld]
          have ho : okI ls x.a = true := by unfold jumpI at hj; rw [hld] at hj; simpa using hj
          rw [hld, hla] at hleads
          replace ho := Lib.hid ho
          replace hj := Lib.hid hj
          replace hla := Lib.hid hla
          replace hld := Lib.hid hld
          go_wp2_with fail
          refine (hleads _).out.mono ?_
          rintro _ v0 ⟨rfl, hb0⟩
          have hC := hB.trans (hb0.mono hB.size)
          clear a0 a1 a2 a3 a4
          go_wp2_with fail
          refine (hat _ x.a hC hxa).out.mono ?_
          rintro _ v1 ⟨rfl, hb1'⟩
          have hD := hC.trans (hb1'.mono hC.size)
          obtain ⟨n1, q1⟩ := atN_yes ho.out
          rw [q1]
          go_wp2_with fail
          exact ⟨⟨k + 1, by omega, by go_num, hD⟩, by simp [intOf]; omega⟩
        | false =>
          have hla : ldA x = 0 := by unfold ldA; rw [if_neg (by rw [hld]; decide)]
          rw [hld, hla] at hleads
          replace hj := Lib.hid hj
          replace hla := Lib.hid hla
          replace hld := Lib.hid hld
          go_wp2_with fail
          refine (hleads _).out.mono ?_
          rintro _ v0 ⟨rfl, hb0⟩
          have hC := hB.trans (hb0.mono hB.size)
          go_wp2_with fail
          exact ⟨⟨k + 1, by omega, by go_num, hC⟩, by simp [intOf]; omega⟩
      · obtain rfl : k = ls.length := by omega
        have cm : wr.cell? ⟨w.heap.size, 6, none⟩ = some (.slice At_ ts.length ct) := (hX.below hB hw1).cell 6
        go_wp2_with fail
        go_loopw [8] (fun i wr => ∃ k : Nat, k ≤ ts.length ∧ i = .int .i64 k ∧ Below w1.heap.size w1 wr) (fun i _ => ts.length - (intOf i).toNat)
        case atStart => exact ⟨0, Nat.zero_le _, rfl, hB⟩
        case round =>
          clear cm hB
          obtain ⟨k, hk, rfl, hB⟩ := hrel
          have cm : wr.cell? ⟨w.heap.size, 6, none⟩ = some (.slice At_ ts.length ct) := (hX.below hB hw1).cell 6
          by_cases hlt : k < ts.length
          · obtain ⟨t, ht⟩ := tr_at hlt
            have htin := hfit t (List.mem_of_getElem? ht)
            obtain ⟨o1, o2, o3⟩ := trap_parts (List.all_eq_true.1 htrp.out t (List.mem_of_getElem? ht))
            obtain ⟨at_, q, _, e1⟩ := (ReadsT.below hrt (hB1.trans (hB.mono hB1.size))).at_ ht
            first | subst q | (injection q with q; subst q)
            obtain ⟨a0, a1, a2, a3⟩ := e1
            replace ht := Lib.hid ht
            replace o1 := Lib.hid o1
            replace o2 := Lib.hid o2
            have v0T := Blk.new wr 63 #[.int .i64 t.fr, .int .i64 t.to_, .int .i64 t.hd, .int .i64 t.ty]
            have v0B := hB.alloc hB.size (.cells #[.int .i64 t.fr, .int .i64 t.to_, .int .i64 t.hd, .int .i64 t.ty] 63)
            go_wp2_with fail
            clear a0 a1 a2 a3 cm
            refine (hat _ (t.fr) v0B htin.1).out.mono ?_
            rintro _ v1 ⟨rfl, hbv1⟩
            have v1B := v0B.trans (hbv1.mono v0B.size)
            have v1T := v0T.below hbv1 v0T.lt
            have v1d0 : v1.cell? ⟨wr.heap.size, 0, none⟩ = some (.int .i64 t.fr) := v1T.cell 0
            have v1d1 : v1.cell? ⟨wr.heap.size, 1, none⟩ = some (.int .i64 t.to_) := v1T.cell 1
            have v1d2 : v1.cell? ⟨wr.heap.size, 2, none⟩ = some (.int .i64 t.hd) := v1T.cell 2
            have v1d3 : v1.cell? ⟨wr.heap.size, 3, none⟩ = some (.int .i64 t.ty) := v1T.cell 3
            have v1m : v1.cell? ⟨w.heap.size, 5, none⟩ = some (.slice A bs.length c) := (hX.below v1B hw1).cell 5
            obtain ⟨nv1, qv1⟩ := atN_yes o1.out
            rw [qv1]
            go_wp2_with fail
            refine (hat _ (t.hd) v1B htin.2.2.1).out.mono ?_
            rintro _ v2 ⟨rfl, hbv2⟩
            have v2B := v1B.trans (hbv2.mono v1B.size)
            have v2T := v1T.below hbv2 v1T.lt
            have v2d0 : v2.cell? ⟨wr.heap.size, 0, none⟩ = some (.int .i64 t.fr) := v2T.cell 0
            have v2d1 : v2.cell? ⟨wr.heap.size, 1, none⟩ = some (.int .i64 t.to_) := v2T.cell 1
            have v2d2 : v2.cell? ⟨wr.heap.size, 2, none⟩ = some (.int .i64 t.hd) := v2T.cell 2
            have v2d3 : v2.cell? ⟨wr.heap.size, 3, none⟩ = some (.int .i64 t.ty) := v2T.cell 3
            have v2m : v2.cell? ⟨w.heap.size, 5, none⟩ = some (.slice A bs.length c) := (hX.below v2B hw1).cell 5
            obtain ⟨nv2, qv2⟩ := atN_yes o2.out
            rw [qv2]
            by_cases hto : t.to_ = bs.length
            · replace o3 := Lib.hid o3
              go_wp2_with fail
              exact ⟨⟨k + 1, by omega, by go_num, v2B⟩, by simp [intOf]; omega⟩
            · replace o3 := Lib.hid (o3 hto)
              go_wp2_with fail
              refine (hat _ (t.to_) v2B htin.2.1).out.mono ?_
              rintro _ v3 ⟨rfl, hbv3⟩
              have v3B := v2B.trans (hbv3.mono v2B.size)
              have v3T := v2T.below hbv3 v2T.lt
              have v3d0 : v3.cell? ⟨wr.heap.size, 0, none⟩ = some (.int .i64 t.fr) := v3T.cell 0
              have v3d1 : v3.cell? ⟨wr.heap.size, 1, none⟩ = some (.int .i64 t.to_) := v3T.cell 1
              have v3d2 : v3.cell? ⟨wr.heap.size, 2, none⟩ = some (.int .i64 t.hd) := v3T.cell 2
              have v3d3 : v3.cell? ⟨wr.heap.size, 3, none⟩ = some (.int .i64 t.ty) := v3T.cell 3
              have v3m : v3.cell? ⟨w.heap.size, 5, none⟩ = some (.slice A bs.length c) := (hX.below v3B hw1).cell 5
              obtain ⟨nv3, qv3⟩ := atN_yes o3.out
              rw [qv3]
              go_wp2_with fail
              exact ⟨⟨k + 1, by omega, by go_num, v3B⟩, by simp [intOf]; omega⟩
          · obtain rfl : k = ts.length := by omega
            obtain ⟨ad, q, _, e1⟩ := (ReadsI.below hr1 hB).at_ hlast.out
            first | subst q | (injection q with q; subst q)
            obtain ⟨a0, a1, a2, a3, a4⟩ := e1
            have hpos' := hpos.out
            go_wp2_with fail
            refine (hfalls _).out.mono ?_
            rintro _ w5 ⟨rfl, hb5⟩
            have hB5 := hB.trans (hb5.mono hB.size)
            go_wp2_with fail
            go_ret
            exact ⟨rfl, hB1.trans (hB5.mono hB1.size)⟩
  · have hls : chL bs ts = [] := by unfold chL; rw [if_neg he]
    rw [hls] at hck
    clear hls
    generalize chE bs ts = code at *
    have b1 : decide (code = 0) = false := by simpa using he
    go_enter Try.func14, Try.ntmps14
    go_wp2_with fail
    refine (hck _ hW0).out.mono ?_
    rintro _ w1 ⟨A1, c1, rfl, hr1, hl1, hm1, hb1⟩
    have hB1 := hW0.trans (hb1.mono hW0.size)
    clear hck
    go_wp2_with fail
    refine (gaw _).out.mono ?_
    rintro _ w5 ⟨rfl, hb5⟩
    go_wp2_with fail
    go_ret
    exact ⟨rfl, hB1.trans (hb5.mono hB1.size)⟩

set_option maxRecDepth 100000 in
theorem lifted (os : Os) (started : os.Started) (H : Type) (enc : TypeId × Value → H) (Fi : Stop.Interp) :
    ReturnsInHanded {} Try.checked os 14 .any ((Rows.OpenSpec.upto Rows.flowRightSpec).pre6 enc Try.prog Try.f14 Rows.flowRightUptoRow.domain false) (((Rows.OpenSpec.upto Rows.flowRightSpec).at Fi).post enc Try.prog Try.f14 false true false false) := by
  refine returnsInHanded_of_cond (C := Try.checked) (s := Rows.OpenSpec.upto Rows.flowRightSpec) (k := Rows.uptoSmall) rfl own started (by kernel_rfl) Try.func14
    (OpenSpec.witness (enc := enc) (C := Try.checked) (s := Rows.OpenSpec.upto Rows.flowRightSpec) (k := Rows.uptoSmall) rfl false ⟨#[], #[.agg #[.int .i64 0, .int .i64 0, .int .i64 0, .int .i64 0, .int .i64 0, .slice none 0 0, .slice none 0 0, .slice none 0 0]], []⟩ 8 (by kernel_rfl) (by kernel_rfl) (by kernel_rfl)
      (x := ([.agg [.lit (.int .i64 0), .lit (.int .i64 0), .lit (.int .i64 0), .lit (.int .i64 0), .lit (.int .i64 0), .nil, .nil, .nil]], [], [])) (by kernel_rfl) rfl (by kernel_rfl)) ?_
  intro W base args ds gs before hval0 hW hcnd hk _
  have hval : ∀ (j : Nat) t v, Try.f14.params[j]? = some t → args[j]? = some v → Value.okWide Try.prog W .any base t v := hval0
  have hW' := hW
  obtain ⟨p, q, hA0, hV, rfl, hfz, hnd⟩ := hW
  have hA : DataW.TrodAll enc Try.prog W 0 (fun _ => true) true Try.f14.params.toList args.toList ds p := hA0
  rw [Try.params14] at hA hval
  obtain ⟨v0, vs0, d0, ds0, p0, q0, hargs, rfl, rfl, h0, r0⟩ := trodAll_cons hA
  obtain ⟨rfl, rfl, rfl⟩ := trodAll_nil r0
  obtain rfl : args = #[v0] := by cases args; simp_all
  obtain ⟨rfl, rfl⟩ := trodVars_none hV
  have k0 := h0
  have lt0 : ∀ x ∈ p0, x.block < W.heap.size := by obtain ⟨m, hm⟩ := k0; exact DataW.trod_lt m _ _ _ hm
  obtain ⟨ka0, kb0, kc0, kd0, ke0, A0, c0, bs0, At0, ct0, ts0, Am0, lm0, cm0, w0, hbk0⟩ := open_method (hval 0 58 v0 rfl rfl) h0
  have hcap0 : bs0.length ≤ 1048576 := Nat.le_trans hbk0 (bulk_small hk (List.mem_append_left _ (List.mem_cons_self ..)))
  clear hA0 hval0
  refine (walk ka0 kb0 kc0 kd0 ke0 A0 c0 bs0 At0 ct0 ts0 Am0 lm0 cm0 v0 W w0 hcap0).mono fun e W' ⟨he, bel⟩ => ?_
  subst he
  exact ⟨_, rfl, _, _, _, [], _, [], hW', trodAll_mk1 (shut_bool Try.underlying4 _), (trodAll_cons_mk (Below.trod laidOut (by kernel_rfl) (of_decide_eq_true (by kernel_rfl)) k0 bel lt0) trodAll_mk0), rfl, bel.frame _, fun h => by cases h⟩

theorem closed : joinedFacts Try.prog 14 Try.f14 (Rows.OpenSpec.upto Rows.flowRightSpec).bare Rows.flowRightUptoRow = true := by
  have h1 := mayEnter_fact
  have h2 : (Rows.flowRightUptoRow.lifted == Try.prog.liftsFinal) = true := by rw [lifts_fact]; rfl
  have h3 : (Try.prog.make == some Rows.flowRightUptoRow.make) = true := by rw [make_fact]; rfl
  have hfin : ∀ b : Bool, b = true → b = true := fun _ h => h
  unfold joinedFacts
  rw [h1, h2, h3]
  clear h1 h2 h3
  refine hfin _ ?_
  kernel_rfl

theorem over : Rows.flowRightUptoRow.holds Try.pinned (Rows.OpenSpec.upto Rows.flowRightSpec) :=
  OpenClaim.holds_of_cond 14 Try.f14 rfl rfl rfl rfl rfl rfl rfl ⟨rfl, rfl, rfl, rfl, rfl⟩ rfl rfl rfl rfl rfl (by kernel_rfl) Try.func14 closed
    (of_decide_eq_true (by kernel_rfl)) (by unfold Func.isWrapper; first | (rw [if_pos (by decide +kernel)]; kernel_rfl) | (rw [if_neg (by decide +kernel)]; exact ⟨rfl, rfl⟩))
    (fun os started H enc _ Fi => lifted os started H enc Fi)

/-- The statement. -/
theorem proved : Rows.FlowRightUptoSaid := over
#print axioms proved

end Go.Proofs.Ytcinmgifadmbeaa.FlowRightP
