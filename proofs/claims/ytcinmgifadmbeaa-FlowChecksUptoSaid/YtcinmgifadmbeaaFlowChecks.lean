/- FlowChecks, where what is read is of bulk at most 1048576: the instructions of any method, if they lead where they may. -/
import Derived.Test.YtcinmgifadmbeaaBulk
import Derived.JoinedCond
import Derived.Test.YtcinmgifadmbeaaFlowD
import Derived.Test.YtcinmgifadmbeaaHead
import Derived.Test.YtcinmgifadmbeaaOpenG
import Derived.Deep.RegionHeld3
import Derived.Lib.SmallJoins
import Derived.ProofKit
import Derived.OpenShut
import Derived.ShutString
import Derived.ChangeOld
import Derived.Laws.StructEq
namespace Go.Proofs.Ytcinmgifadmbeaa.FlowChecksP
open Go.ChangeShapes Go.WideShapes Go.ChangeAt Go.RowKit
open Go.ChangeMaps (open_string shut_string)
set_option linter.unusedVariables false

theorem own : ownKnob Try.prog.godebug = none := by kernel_rfl
theorem laidOut : laidOutB Try.prog = true := by kernel_rfl
theorem bnext {a b c : World} (h : Below a.heap.size a b) (k : Below b.heap.size b c) : Below a.heap.size a c := h.trans (k.mono h.size)
theorem meth_below {w w' : World} {v : Value} {k0 k1 k2 k3 k4 : Int} {A : Option Addr} {c : Nat} {bs : List Int} {At_ : Option Addr} {ct : Nat} {ts : List Tr} {Am : Option Addr} {lm cm : Nat} (h : MethIn w v k0 k1 k2 k3 k4 A c bs At_ ct ts Am lm cm) (hb : Below w.heap.size w w') : MethIn w' v k0 k1 k2 k3 k4 A c bs At_ ct ts Am lm cm :=
  ⟨h.val, (Reads.below h.code hb).more hb.size, h.byte, h.cap, h.max_, (Reads.below h.traps hb).more hb.size, h.fits, h.tcap, h.tmax⟩
theorem chL_len (bs : List Int) (ts : List Tr) (hs : bs.length ≤ 4194304) : (chL bs ts).length ≤ 4194304 := by
  unfold chL
  split
  · by_cases h : listE bs = 0
    · have := rowI_len (list_row h); omega
    · rw [list_none h]; simp
  · simp

set_option maxRecDepth 100000 in
set_option maxHeartbeats 4000000 in
theorem walk (k0 k1 k2 k3 k4 : Int) (A : Option Addr) (c : Nat) (bs : List Int) (At_ : Option Addr) (ct : Nat) (ts : List Tr) (Am : Option Addr) (lm cm : Nat) (v : Value) (w : World) (hm : MethIn w v k0 k1 k2 k3 k4 A c bs At_ ct ts Am lm cm) (hs : bs.length ≤ 1048576) :
    Calls Try.prog 13 #[v] w fun e w' => e = .returned (.bool true) ∧ Below w.heap.size w w' := by
  have hck := fun w' (hb : Below w.heap.size w w') => Lib.hid (check_any k0 k1 k2 k3 k4 A c bs At_ ct ts Am lm cm v w' (meth_below hm hb) (by omega))
  have hrk := fun w' (hb : Below w.heap.size w w') => Lib.hid (rcheck_any k0 k1 k2 k3 k4 A c bs At_ ct ts Am lm cm v w' (meth_below hm hb) hs)
  have gaw := fun w => Lib.hid (awake07 w)
  have hll := chL_len bs ts (by omega)
  unfold CkPost at hck hrk
  have gsame := fun A1 A2 c1 c2 w B1 B2 h1 h2 => Lib.hid (same07_any A1 A2 c1 c2 (chL bs ts) w B1 B2 h1 h2 (by unfold maxLen; omega))
  generalize chL bs ts = ls at *
  generalize chE bs ts = code at *
  have hv := hm.val
  subst hv
  have hX := Blk.new w 58 #[.int .i64 k0, .int .i64 k1, .int .i64 k2, .int .i64 k3, .int .i64 k4, .slice A bs.length c, .slice At_ ts.length ct, .slice Am lm cm]
  have hW0 : Below w.heap.size w (w.alloc (.cells #[.int .i64 k0, .int .i64 k1, .int .i64 k2, .int .i64 k3, .int .i64 k4, .slice A bs.length c, .slice At_ ts.length ct, .slice Am lm cm] 58)) := (Below.refl _ _).alloc (Nat.le_refl _) _
  clear hm
  go_enter Try.func13, Try.ntmps13
  go_wp2_with fail
  refine (hck _ hW0).out.mono ?_
  rintro _ w1 ⟨A1, c1, rfl, hr1, hl1, hm1, hb1⟩
  have hX1 := hX.below hb1 hX.lt
  have hW1 := hW0.trans (hb1.mono hW0.size)
  have w1d0 : w1.cell? ⟨w.heap.size, 0, none⟩ = some (.int .i64 k0) := hX1.cell 0
  have w1d1 : w1.cell? ⟨w.heap.size, 1, none⟩ = some (.int .i64 k1) := hX1.cell 1
  have w1d2 : w1.cell? ⟨w.heap.size, 2, none⟩ = some (.int .i64 k2) := hX1.cell 2
  have w1d3 : w1.cell? ⟨w.heap.size, 3, none⟩ = some (.int .i64 k3) := hX1.cell 3
  have w1d4 : w1.cell? ⟨w.heap.size, 4, none⟩ = some (.int .i64 k4) := hX1.cell 4
  have w1d5 : w1.cell? ⟨w.heap.size, 5, none⟩ = some (.slice A bs.length c) := hX1.cell 5
  have w1d6 : w1.cell? ⟨w.heap.size, 6, none⟩ = some (.slice At_ ts.length ct) := hX1.cell 6
  have w1d7 : w1.cell? ⟨w.heap.size, 7, none⟩ = some (.slice Am lm cm) := hX1.cell 7
  clear hck
  go_wp2_with fail
  refine (hrk _ hW1).out.mono ?_
  rintro _ w2 ⟨A2, c2, rfl, hr2, hl2, hm2, hb2⟩
  have hW2 := hW1.trans (hb2.mono hW1.size)
  have hr12 : ReadsI w2 w1.heap.size _ _ := ReadsI.below hr1 hb2
  clear hrk
  go_wp2_with fail
  refine (gsame _ _ c1 c2 _ _ _ hr12 hr2).out.mono ?_
  rintro _ w3 ⟨rfl, n3, rfl⟩
  have hW3 := below_drewN hW2 n3
  go_wp2_with fail
  refine (gaw _).out.mono ?_
  rintro _ w4 ⟨rfl, hb4⟩
  go_wp2_with fail
  go_ret
  exact ⟨rfl, hW3.trans (hb4.mono hW3.size)⟩

set_option maxRecDepth 100000 in
theorem lifted (os : Os) (started : os.Started) (H : Type) (enc : TypeId × Value → H) (Fi : Stop.Interp) :
    ReturnsInHanded {} Try.checked os 13 .any ((Rows.OpenSpec.upto Rows.flowChecksSpec).pre6 enc Try.prog Try.f13 Rows.flowChecksUptoRow.domain false) (((Rows.OpenSpec.upto Rows.flowChecksSpec).at Fi).post enc Try.prog Try.f13 false true false false) := by
  refine returnsInHanded_of_cond (C := Try.checked) (s := Rows.OpenSpec.upto Rows.flowChecksSpec) (k := Rows.uptoSmall) rfl own started (by kernel_rfl) Try.func13
    (OpenSpec.witness (enc := enc) (C := Try.checked) (s := Rows.OpenSpec.upto Rows.flowChecksSpec) (k := Rows.uptoSmall) rfl false ⟨#[], #[.agg #[.int .i64 0, .int .i64 0, .int .i64 0, .int .i64 0, .int .i64 0, .slice none 0 0, .slice none 0 0, .slice none 0 0]], []⟩ 8 (by kernel_rfl) (by kernel_rfl) (by kernel_rfl)
      (x := ([.agg [.lit (.int .i64 0), .lit (.int .i64 0), .lit (.int .i64 0), .lit (.int .i64 0), .lit (.int .i64 0), .nil, .nil, .nil]], [], [])) (by kernel_rfl) rfl (by kernel_rfl)) ?_
  intro W base args ds gs before hval0 hW hcnd hk _
  have hval : ∀ (j : Nat) t v, Try.f13.params[j]? = some t → args[j]? = some v → Value.okWide Try.prog W .any base t v := hval0
  have hW' := hW
  obtain ⟨p, q, hA0, hV, rfl, hfz, hnd⟩ := hW
  have hA : DataW.TrodAll enc Try.prog W 0 (fun _ => true) true Try.f13.params.toList args.toList ds p := hA0
  rw [Try.params13] at hA hval
  obtain ⟨v0, vs0, d0, ds0, p0, q0, hargs, rfl, rfl, h0, r0⟩ := trodAll_cons hA
  obtain ⟨rfl, rfl, rfl⟩ := trodAll_nil r0
  obtain rfl : args = #[v0] := by cases args; simp_all
  obtain ⟨rfl, rfl⟩ := trodVars_none hV
  have k0 := h0
  have lt0 : ∀ x ∈ p0, x.block < W.heap.size := by obtain ⟨m, hm⟩ := k0; exact DataW.trod_lt m _ _ _ hm
  obtain ⟨ka0, kb0, kc0, kd0, ke0, A0, c0, bs0, At0, ct0, ts0, Am0, lm0, cm0, w0, hbk0⟩ := open_method (hval 0 58 v0 rfl rfl) h0
  have hcap0 : bs0.length ≤ 1048576 := Nat.le_trans hbk0 (bulk_small hk (List.mem_append_left _ (List.mem_cons_self ..)))
  clear hA0 hval0
  refine (walk ka0 kb0 kc0 kd0 ke0 A0 c0 bs0 At0 ct0 ts0 Am0 lm0 cm0 v0 W w0 hcap0).mono fun e W' ⟨he, bel⟩ => ?_
  subst he
  exact ⟨_, rfl, _, _, _, [], _, [], hW', trodAll_mk1 (shut_bool Try.underlying4 _), (trodAll_cons_mk (Below.trod laidOut (by kernel_rfl) (of_decide_eq_true (by kernel_rfl)) k0 bel lt0) trodAll_mk0), rfl, bel.frame _, fun h => by cases h⟩

theorem closed : joinedFacts Try.prog 13 Try.f13 (Rows.OpenSpec.upto Rows.flowChecksSpec).bare Rows.flowChecksUptoRow = true := by
  have h1 := mayEnter_fact
  have h2 : (Rows.flowChecksUptoRow.lifted == Try.prog.liftsFinal) = true := by rw [lifts_fact]; rfl
  have h3 : (Try.prog.make == some Rows.flowChecksUptoRow.make) = true := by rw [make_fact]; rfl
  have hfin : ∀ b : Bool, b = true → b = true := fun _ h => h
  unfold joinedFacts
  rw [h1, h2, h3]
  clear h1 h2 h3
  refine hfin _ ?_
  kernel_rfl

theorem over : Rows.flowChecksUptoRow.holds Try.pinned (Rows.OpenSpec.upto Rows.flowChecksSpec) :=
  OpenClaim.holds_of_cond 13 Try.f13 rfl rfl rfl rfl rfl rfl rfl ⟨rfl, rfl, rfl, rfl, rfl⟩ rfl rfl rfl rfl rfl (by kernel_rfl) Try.func13 closed
    (of_decide_eq_true (by kernel_rfl)) (by unfold Func.isWrapper; first | (rw [if_pos (by decide +kernel)]; kernel_rfl) | (rw [if_neg (by decide +kernel)]; exact ⟨rfl, rfl⟩))
    (fun os started H enc _ Fi => lifted os started H enc Fi)

/-- The statement. -/
theorem proved : Rows.FlowChecksUptoSaid := over
#print axioms proved

end Go.Proofs.Ytcinmgifadmbeaa.FlowChecksP
