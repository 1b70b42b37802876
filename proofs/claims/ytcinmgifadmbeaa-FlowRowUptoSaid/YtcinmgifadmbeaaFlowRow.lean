/- FlowRow, where what is read is of bulk at most 1048576: the instructions stand one behind the other. -/
import Derived.Test.YtcinmgifadmbeaaBulk
import Derived.JoinedCond
import Derived.Test.YtcinmgifadmbeaaFlowAw
import Derived.Test.YtcinmgifadmbeaaFlowP
import Derived.Test.YtcinmgifadmbeaaHead
import Derived.Test.YtcinmgifadmbeaaOpenG
import Derived.Deep.RegionHeld3
import Derived.Lib.SmallJoins
import Derived.ProofKit
import Derived.OpenShut
import Derived.ShutString
import Derived.ChangeOld
import Derived.Laws.StructEq
namespace Go.Proofs.Ytcinmgifadmbeaa.FlowRowP
open Go.ChangeShapes Go.WideShapes Go.ChangeAt Go.RowKit
open Go.ChangeMaps (open_string shut_string)
set_option linter.unusedVariables false

theorem own : ownKnob Try.prog.godebug = none := by kernel_rfl
theorem laidOut : laidOutB Try.prog = true := by kernel_rfl
theorem bnext {a b c : World} (h : Below a.heap.size a b) (k : Below b.heap.size b c) : Below a.heap.size a c := h.trans (k.mono h.size)
theorem wf_u16 {n : Int} (h : (Lit.int .u16 n).wf = true) : 0 ≤ n ∧ n < 65536 := by
  simp only [Lit.wf, Bool.and_eq_true, decide_eq_true_eq] at h
  have h1 : IntKind.u16.min = 0 := by decide
  have h2 : IntKind.u16.max = 65535 := by decide
  rw [h1, h2] at h
  omega

set_option maxRecDepth 100000 in
set_option maxHeartbeats 4000000 in
theorem walk (a0 : Option Addr) (len0 cap0 : Nat) (z0 : List Int) (x1 : Int) (w : World) (h : IsRow .u8 w a0 len0 cap0 z0) (hcap : cap0 ≤ 1048576) (hx1 : (Lit.int .u16 x1).wf = true) :
    Calls Try.prog 11 #[.slice a0 len0 cap0, .int .u16 x1] w fun e w' => e = .returned (.bool true) ∧ Below w.heap.size w w' := by
  obtain ⟨xs, hlen, hby, hr, hlc, hmx⟩ := h.reads
  subst hlen
  have hb16 := wf_u16 hx1
  have hf16 : fit64 x1 := by unfold fit64; omega
  have gaw := fun w => Lib.hid (awake07 w)
  have hlp := Lib.hid (list_any a0 cap0 xs w (by omega) hby hr hlc (by omega))
  have hxl : xs.length ≤ 1048576 := by omega
  unfold LsPost at hlp
  by_cases he : listE xs = 0
  · have hrow := list_row he
    rw [he] at hlp
    generalize listL xs = ls at *
    have hll : ls.length ≤ 1048576 := by have := rowI_len hrow; omega
    have hfit := rowI_fit hrow (by omega)
    have hat := fun A c x w h1 hx => Lib.hid (at07_any A c ls x w h1 hfit (by omega) hx)
    have hsum : sumI ls = xs.length := by have := rowI_end hrow; omega
    go_enter Try.func11, Try.ntmps11
    go_wp2_with fail
    refine hlp.out.mono ?_
    rintro _ w3 ⟨A3, c3, rfl, hr3, hlc3, hm3, hb3⟩
    clear hlp
    go_wp2_with fail
    go_loopw [7, 8] (fun s i wr => ∃ k : Nat, k ≤ ls.length ∧ i = .int .i64 k ∧ s = .int .i64 (sumI (ls.take k)) ∧ Below w.heap.size w wr ∧ ReadsI wr wr.heap.size A3 ls) (fun s i _ => ls.length - (intOf i).toNat)
    case atStart => exact ⟨0, Nat.zero_le _, rfl, rfl, hb3, hr3⟩
    case round =>
      obtain ⟨k, hk, rfl, rfl, hB, hR⟩ := hrel
      by_cases hlt : k < ls.length
      · obtain ⟨x, hx⟩ := ins_at hlt
        obtain ⟨ad, rfl, had, e1⟩ := hR.at_ hx
        obtain ⟨a0', a1', a2', a3', a4'⟩ := e1
        obtain ⟨g1, ⟨g2, g2'⟩, g3⟩ := rowI_at hrow hx
        have g4 := atN_row hrow hx
        have g5 := (sumI_pos k hrow).1
        have g6 := sumI_next hx
        rw [Int.zero_add] at g1
        have ha := hat _ c3 x.at_ _ hR (hfit x (List.mem_of_getElem? hx))
        rw [g4] at ha
        have g7 := (sumI_pos (k + 1) hrow).2
        have g8 : Hid (sumI (ls.take (k + 1)) = x.at_ + x.size) := Lib.hid (by rw [g6, g1])
        clear g6
        generalize sumI (ls.take k) = sk at *
        subst g1
        replace hx := Lib.hid hx
        replace g7 := Lib.hid g7
        replace g4 := Lib.hid g4
        have b1 : decide (x.size < 1) = false := by simp; omega
        have b2 : decide (3 < x.size) = false := by simp; omega
        go_wp2_with fail
        refine ha.out.mono ?_
        rintro _ w4 ⟨rfl, hb4⟩
        have hB4 := hB.trans (hb4.mono hB.size)
        have hR4 : ReadsI w4 w4.heap.size _ ls := (ReadsI.below hR hb4).more hb4.size
        obtain ⟨ad, q1, had, e1⟩ := hR4.at_ hx.out
        injection q1 with q1
        subst q1
        obtain ⟨a0'', a1'', a2'', a3'', a4''⟩ := e1
        go_wp2_with fail
        exact ⟨⟨k + 1, by omega, by go_num, by have g7 := g7.out; rw [g8.out] at g7 ⊢, hB4, hR4⟩, by simp [intOf]; omega⟩
      · obtain rfl : k = ls.length := by omega
        rw [List.take_length]
        go_wp2_with fail
        refine (hat _ _ _ _ hR hf16).out.mono ?_
        rintro _ w4 ⟨rfl, hb4⟩
        have hB4 := hB.trans (hb4.mono hB.size)
        have hR4 : ReadsI w4 w4.heap.size _ ls := (ReadsI.below hR hb4).more hb4.size
        rcases atN_or ls x1 with ⟨_, e⟩ | ⟨n, y, hy, hy2, e, _⟩
        · rw [e]
          go_wp2_with fail
          refine (gaw _).out.mono ?_
          rintro _ w5 ⟨rfl, hb5⟩
          go_wp2_with fail
          go_ret
          exact ⟨rfl, hB4.trans (hb5.mono hB4.size)⟩
        · rw [e]
          have hn : n < ls.length := (List.getElem?_eq_some_iff.1 hy).1
          obtain ⟨ad, rfl, had, e1⟩ := hR4.at_ hy
          obtain ⟨a0'', a1'', a2'', a3'', a4''⟩ := e1
          subst hy2
          go_wp2_with fail
          refine (gaw _).out.mono ?_
          rintro _ w5 ⟨rfl, hb5⟩
          go_wp2_with fail
          go_ret
          exact ⟨rfl, hB4.trans (hb5.mono hB4.size)⟩
  · have hrow := list_none he
    rw [hrow] at hlp
    clear hrow
    generalize listE xs = code at *
    have b1 : decide (code = 0) = false := by simpa using he
    go_enter Try.func11, Try.ntmps11
    go_wp2_with fail
    refine hlp.out.mono ?_
    rintro _ w3 ⟨A3, c3, rfl, hr3, hlc3, hm3, hb3⟩
    clear hlp
    go_wp2_with fail
    refine (gaw _).out.mono ?_
    rintro _ w5 ⟨rfl, hb5⟩
    go_wp2_with fail
    go_ret
    exact ⟨rfl, hb3.trans (hb5.mono hb3.size)⟩

set_option maxRecDepth 100000 in
theorem lifted (os : Os) (started : os.Started) (H : Type) (enc : TypeId × Value → H) (Fi : Stop.Interp) :
    ReturnsInHanded {} Try.checked os 11 .any ((Rows.OpenSpec.upto Rows.flowRowSpec).pre6 enc Try.prog Try.f11 Rows.flowRowUptoRow.domain false) (((Rows.OpenSpec.upto Rows.flowRowSpec).at Fi).post enc Try.prog Try.f11 false true false false) := by
  refine returnsInHanded_of_cond (C := Try.checked) (s := Rows.OpenSpec.upto Rows.flowRowSpec) (k := Rows.uptoSmall) rfl own started (by kernel_rfl) Try.func11
    (OpenSpec.witness (enc := enc) (C := Try.checked) (s := Rows.OpenSpec.upto Rows.flowRowSpec) (k := Rows.uptoSmall) rfl false ⟨#[], #[.slice none 0 0, .int .u16 0], []⟩ 8 (by kernel_rfl) (by kernel_rfl) (by kernel_rfl)
      (x := ([.nil, .lit (.int .u16 0)], [], [])) (by kernel_rfl) rfl (by kernel_rfl)) ?_
  intro W base args ds gs before hval0 hW hcnd hk _
  have hval : ∀ (j : Nat) t v, Try.f11.params[j]? = some t → args[j]? = some v → Value.okWide Try.prog W .any base t v := hval0
  have hW' := hW
  obtain ⟨p, q, hA0, hV, rfl, hfz, hnd⟩ := hW
  have hA : DataW.TrodAll enc Try.prog W 0 (fun _ => true) true Try.f11.params.toList args.toList ds p := hA0
  rw [Try.params11] at hA hval
  obtain ⟨v0, vs0, d0, ds0, p0, q0, hargs, rfl, rfl, h0, r0⟩ := trodAll_cons hA
  obtain ⟨v1, vs1, d1, ds1, p1, q1, rfl, rfl, rfl, h1, r1⟩ := trodAll_cons r0
  obtain ⟨rfl, rfl, rfl⟩ := trodAll_nil r1
  obtain rfl : args = #[v0, v1] := by cases args; simp_all
  obtain ⟨rfl, rfl⟩ := trodVars_none hV
  obtain ⟨a0, len0, cap0, rfl⟩ := okWide_slice Try.underlying31 (hval 0 31 v0 rfl rfl)
  have k0 := h0
  have lt0 : ∀ x ∈ p0, x.block < W.heap.size := by obtain ⟨m, hm⟩ := k0; exact DataW.trod_lt m _ _ _ hm
  obtain ⟨z0, w0, hcap0⟩ : ∃ zs, IsRow .u8 W a0 len0 cap0 zs ∧ cap0 ≤ 1048576 := by
    obtain ⟨fuel, hf⟩ := h0
    rcases open_ints Try.underlying31 Try.underlying5 (by kernel_rfl) hf with ⟨hcs, _⟩ | ⟨x, l, c, zs, hcs, _, hl, hm, hz, hx, hcell, hwz⟩
    · simp [Value.cells] at hcs
      obtain ⟨rfl, rfl, rfl⟩ := hcs
      exact ⟨[], .inl ⟨rfl, rfl, rfl, rfl⟩, by omega⟩
    · simp [Value.cells] at hcs
      obtain ⟨rfl, rfl, rfl⟩ := hcs
      simp only [Prod.mk.injEq] at hx
      obtain ⟨hx1, _⟩ := hx
      subst hx1
      have hcap := Nat.le_trans (bulk_slice _ _) (bulk_small hk (List.mem_append_left _ (List.mem_cons_self ..)))
      simp only [lits, List.length_map, List.length_take, List.length_drop] at hcap
      have hz2 : zs.length = cap0 := by simpa using hz
      replace hcap : cap0 ≤ 1048576 := by omega
      exact ⟨zs, .inr ⟨_, rfl, hl, hm, by simpa using hz, hcell, hwz⟩, hcap⟩
  obtain ⟨x1, rfl, rfl, rfl, wx1⟩ := open_int Try.underlying52 (hval 1 52 v1 rfl rfl) h1
  clear hA0 hval0
  refine (walk a0 len0 cap0 z0 x1 W w0 hcap0 wx1).mono fun e W' ⟨he, bel⟩ => ?_
  subst he
  exact ⟨_, rfl, _, _, _, [], _, [], hW', trodAll_mk1 (shut_bool Try.underlying4 _), (trodAll_cons_mk (Below.trod laidOut (by kernel_rfl) (of_decide_eq_true (by kernel_rfl)) k0 bel lt0) (trodAll_cons_mk (shut_int Try.underlying52 wx1) trodAll_mk0)), rfl, bel.frame _, fun h => by cases h⟩

theorem closed : joinedFacts Try.prog 11 Try.f11 (Rows.OpenSpec.upto Rows.flowRowSpec).bare Rows.flowRowUptoRow = true := by
  have h1 := mayEnter_fact
  have h2 : (Rows.flowRowUptoRow.lifted == Try.prog.liftsFinal) = true := by rw [lifts_fact]; rfl
  have h3 : (Try.prog.make == some Rows.flowRowUptoRow.make) = true := by rw [make_fact]; rfl
  have hfin : ∀ b : Bool, b = true → b = true := fun _ h => h
  unfold joinedFacts
  rw [h1, h2, h3]
  clear h1 h2 h3
  refine hfin _ ?_
  kernel_rfl

theorem over : Rows.flowRowUptoRow.holds Try.pinned (Rows.OpenSpec.upto Rows.flowRowSpec) :=
  OpenClaim.holds_of_cond 11 Try.f11 rfl rfl rfl rfl rfl rfl rfl ⟨rfl, rfl, rfl, rfl, rfl⟩ rfl rfl rfl rfl rfl (by kernel_rfl) Try.func11 closed
    (of_decide_eq_true (by kernel_rfl)) (by unfold Func.isWrapper; first | (rw [if_pos (by decide +kernel)]; kernel_rfl) | (rw [if_neg (by decide +kernel)]; exact ⟨rfl, rfl⟩))
    (fun os started H enc _ Fi => lifted os started H enc Fi)

/-- The statement. -/
theorem proved : Rows.FlowRowUptoSaid := over
#print axioms proved

end Go.Proofs.Ytcinmgifadmbeaa.FlowRowP
