/- FlowLists, where what is read is of bulk at most 1048576: the program's instructions of any code are the reference's. -/
import Derived.Test.YtcinmgifadmbeaaBulk
import Derived.JoinedCond
import Derived.Test.YtcinmgifadmbeaaFlowAw
import Derived.Test.YtcinmgifadmbeaaFlowR
import Derived.Test.YtcinmgifadmbeaaHead
import Derived.Test.YtcinmgifadmbeaaOpenG
import Derived.Deep.RegionHeld3
import Derived.Lib.SmallJoins
import Derived.ProofKit
import Derived.OpenShut
import Derived.ShutString
import Derived.ChangeOld
import Derived.Laws.StructEq
namespace Go.Proofs.Ytcinmgifadmbeaa.FlowListsP
open Go.ChangeShapes Go.WideShapes Go.ChangeAt Go.RowKit
open Go.ChangeMaps (open_string shut_string)
set_option linter.unusedVariables false

theorem own : ownKnob Try.prog.godebug = none := by kernel_rfl
theorem laidOut : laidOutB Try.prog = true := by kernel_rfl
theorem bnext {a b c : World} (h : Below a.heap.size a b) (k : Below b.heap.size b c) : Below a.heap.size a c := h.trans (k.mono h.size)
theorem walk_len (bs : List Int) : ∀ (n k : Nat), bs.length - k ≤ n → (walkAt bs k).length ≤ n := by
  intro n
  induction n with
  | zero => intro k h; rw [walkAt_end (by omega)]; simp
  | succ n ih =>
    intro k h
    by_cases hk : k < bs.length
    · by_cases h0 : decC bs k = 0
      · rw [walkAt_go hk h0, List.length_cons]
        have := ih (k + szAt bs k) (by have := (szAt_bd bs k).1; omega)
        omega
      · rw [walkAt_no hk h0]; simp
    · rw [walkAt_end hk]; simp
theorem list_len (bs : List Int) : (listL bs).length ≤ bs.length := by
  unfold listL
  split
  · rw [List.length_map]
    exact walk_len bs _ 0 (by omega)
  · simp

set_option maxRecDepth 100000 in
set_option maxHeartbeats 2000000 in
theorem walk (a0 : Option Addr) (len0 cap0 : Nat) (z0 : List Int) (w : World) (h : IsRow .u8 w a0 len0 cap0 z0) (hcap : cap0 ≤ 1048576) :
    Calls Try.prog 9 #[.slice a0 len0 cap0] w fun e w' => e = .returned (.bool true) ∧ Below w.heap.size w w' := by
  obtain ⟨xs, hlen, hby, hr, hlc, hmx⟩ := h.reads
  subst hlen
  have hmx' := hmx
  unfold maxLen at hmx'
  have gaw := fun w => Lib.hid (awake07 w)
  have hrl := fun w' (hb : Below w.heap.size w w') => Lib.hid (rlist_any a0 cap0 xs w' (by omega) hby ((Reads.below hr hb).more hb.size) hlc (by omega))
  have hrp := fun A c w' (hr' : ReadsB w' w'.heap.size A xs) (h1 : xs.length ≤ c) (h2 : c ≤ maxLen) => Lib.hid (list_any A c xs w' (by omega) hby hr' h1 (by unfold maxLen at h2; omega))
  have hll : (listL xs).length ≤ maxLen := by
    obtain ⟨_, _, _⟩ : True ∧ True ∧ True := ⟨trivial, trivial, trivial⟩
    exact Nat.le_trans (list_len xs) (by unfold maxLen; omega)
  unfold LsPost at hrl hrp
  generalize listL xs = ls at *
  generalize listE xs = code at *
  have gsame := fun A1 A2 c1 c2 w B1 B2 h1 h2 => Lib.hid (same07_any A1 A2 c1 c2 ls w B1 B2 h1 h2 hll)
  go_enter Try.func9, Try.ntmps9
  go_wp2_with (first
    | (at_builtin
       refine wpList_appB _ rfl (.tmp 8) (.tmp 9) rfl w.heap.size (.slice (some ⟨w.heap.size, 0, none⟩) 0 0) [] rfl (OwnB.lit rfl (Nat.le_refl _) (by unfold maxLen; simp)) w.heap.size a0 xs.length cap0 xs rfl (hr.alloc (Nat.le_refl _) _) rfl
         xs xs.length rfl rfl (by omega) (by simp) ?_
       intro A2 c2 w2 hown2 _ hb2 _))
  have ho := hown2.cap
  have hb2 : Below w.heap.size w w2 := ((Below.refl _ _).alloc (Nat.le_refl _) _).trans hb2
  refine (hrp A2 c2 w2 hown2.reads ho.1 ho.2).out.mono ?_
  rintro _ w3 ⟨A3, c3, rfl, hr3, hlc3, hm3, hb3⟩
  have hB3 := hb2.trans (hb3.mono hb2.size)
  clear hrp hown2 ho
  go_wp2_with fail
  refine (hrl _ hB3).out.mono ?_
  rintro _ w4 ⟨A4, c4, rfl, hr4, hlc4, hm4, hb4⟩
  have hB4 := hB3.trans (hb4.mono hB3.size)
  have hr34 := ReadsI.below hr3 hb4
  clear hrl
  go_wp2_with fail
  refine (gsame A3 A4 c3 c4 w4 _ _ hr34 hr4).out.mono ?_
  rintro _ w5 ⟨rfl, n5, rfl⟩
  go_wp2_with fail
  refine (gaw _).out.mono ?_
  rintro _ w6 ⟨rfl, hb6⟩
  go_wp2_with fail
  go_ret
  have hB5 := below_drewN hB4 n5
  exact ⟨rfl, hB5.trans (hb6.mono hB5.size)⟩

set_option maxRecDepth 100000 in
theorem lifted (os : Os) (started : os.Started) (H : Type) (enc : TypeId × Value → H) (Fi : Stop.Interp) :
    ReturnsInHanded {} Try.checked os 9 .any ((Rows.OpenSpec.upto Rows.flowListsSpec).pre6 enc Try.prog Try.f9 Rows.flowListsUptoRow.domain false) (((Rows.OpenSpec.upto Rows.flowListsSpec).at Fi).post enc Try.prog Try.f9 false true false false) := by
  refine returnsInHanded_of_cond (C := Try.checked) (s := Rows.OpenSpec.upto Rows.flowListsSpec) (k := Rows.uptoSmall) rfl own started (by kernel_rfl) Try.func9
    (OpenSpec.witness (enc := enc) (C := Try.checked) (s := Rows.OpenSpec.upto Rows.flowListsSpec) (k := Rows.uptoSmall) rfl false ⟨#[], #[.slice none 0 0], []⟩ 8 (by kernel_rfl) (by kernel_rfl) (by kernel_rfl)
      (x := ([.nil], [], [])) (by kernel_rfl) rfl (by kernel_rfl)) ?_
  intro W base args ds gs before hval0 hW hcnd hk _
  have hval : ∀ (j : Nat) t v, Try.f9.params[j]? = some t → args[j]? = some v → Value.okWide Try.prog W .any base t v := hval0
  have hW' := hW
  obtain ⟨p, q, hA0, hV, rfl, hfz, hnd⟩ := hW
  have hA : DataW.TrodAll enc Try.prog W 0 (fun _ => true) true Try.f9.params.toList args.toList ds p := hA0
  rw [Try.params9] at hA hval
  obtain ⟨v0, vs0, d0, ds0, p0, q0, hargs, rfl, rfl, h0, r0⟩ := trodAll_cons hA
  obtain ⟨rfl, rfl, rfl⟩ := trodAll_nil r0
  obtain rfl : args = #[v0] := by cases args; simp_all
  obtain ⟨rfl, rfl⟩ := trodVars_none hV
  obtain ⟨a0, len0, cap0, rfl⟩ := okWide_slice Try.underlying31 (hval 0 31 v0 rfl rfl)
  have k0 := h0
  have lt0 : ∀ x ∈ p0, x.block < W.heap.size := by obtain ⟨m, hm⟩ := k0; exact DataW.trod_lt m _ _ _ hm
  obtain ⟨z0, w0, hcap0⟩ : ∃ zs, IsRow .u8 W a0 len0 cap0 zs ∧ cap0 ≤ 1048576 := by
    obtain ⟨fuel, hf⟩ := h0
    rcases open_ints Try.underlying31 Try.underlying5 (by kernel_rfl) hf with ⟨hcs, _⟩ | ⟨x, l, c, zs, hcs, _, hl, hm, hz, hx, hcell, hwz⟩
    · simp [Value.cells] at hcs
      obtain ⟨rfl, rfl, rfl⟩ := hcs
      exact ⟨[], .inl ⟨rfl, rfl, rfl, rfl⟩, by omega⟩
    · simp [Value.cells] at hcs
      obtain ⟨rfl, rfl, rfl⟩ := hcs
      simp only [Prod.mk.injEq] at hx
      obtain ⟨hx1, _⟩ := hx
      subst hx1
      have hcap := Nat.le_trans (bulk_slice _ _) (bulk_small hk (List.mem_append_left _ (List.mem_cons_self ..)))
      simp only [lits, List.length_map, List.length_take, List.length_drop] at hcap
      have hz2 : zs.length = cap0 := by simpa using hz
      replace hcap : cap0 ≤ 1048576 := by omega
      exact ⟨zs, .inr ⟨_, rfl, hl, hm, by simpa using hz, hcell, hwz⟩, hcap⟩
  clear hA0 hval0
  refine (walk a0 len0 cap0 z0 W w0 hcap0).mono fun e W' ⟨he, bel⟩ => ?_
  subst he
  exact ⟨_, rfl, _, _, _, [], _, [], hW', trodAll_mk1 (shut_bool Try.underlying4 _), (trodAll_cons_mk (Below.trod laidOut (by kernel_rfl) (of_decide_eq_true (by kernel_rfl)) k0 bel lt0) trodAll_mk0), rfl, bel.frame _, fun h => by cases h⟩

theorem closed : joinedFacts Try.prog 9 Try.f9 (Rows.OpenSpec.upto Rows.flowListsSpec).bare Rows.flowListsUptoRow = true := by
  have h1 := mayEnter_fact
  have h2 : (Rows.flowListsUptoRow.lifted == Try.prog.liftsFinal) = true := by rw [lifts_fact]; rfl
  have h3 : (Try.prog.make == some Rows.flowListsUptoRow.make) = true := by rw [make_fact]; rfl
  have hfin : ∀ b : Bool, b = true → b = true := fun _ h => h
  unfold joinedFacts
  rw [h1, h2, h3]
  clear h1 h2 h3
  refine hfin _ ?_
  kernel_rfl

theorem over : Rows.flowListsUptoRow.holds Try.pinned (Rows.OpenSpec.upto Rows.flowListsSpec) :=
  OpenClaim.holds_of_cond 9 Try.f9 rfl rfl rfl rfl rfl rfl rfl ⟨rfl, rfl, rfl, rfl, rfl⟩ rfl rfl rfl rfl rfl (by kernel_rfl) Try.func9 closed
    (of_decide_eq_true (by kernel_rfl)) (by unfold Func.isWrapper; first | (rw [if_pos (by decide +kernel)]; kernel_rfl) | (rw [if_neg (by decide +kernel)]; exact ⟨rfl, rfl⟩))
    (fun os started H enc _ Fi => lifted os started H enc Fi)

/-- The statement. -/
theorem proved : Rows.FlowListsUptoSaid := over
#print axioms proved

end Go.Proofs.Ytcinmgifadmbeaa.FlowListsP
