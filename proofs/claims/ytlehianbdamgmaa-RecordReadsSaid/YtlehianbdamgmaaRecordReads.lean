/- RecordReads: for all bytes: the program's Read is the reference's. -/
import Derived.Test.YtlehianbdamgmaaReadP
import Derived.Test.YtlehianbdamgmaaSame18
import Derived.Test.YtlehianbdamgmaaHead
import Derived.Test.YtlehianbdamgmaaOpenG
import Derived.Deep.RegionHeld3
import Derived.Lib.SmallJoins
import Derived.ProofKit
import Derived.OpenShut
import Derived.ShutString
import Derived.ChangeOld
import Derived.Laws.StructEq
namespace Go.Proofs.Ytlehianbdamgmaa.RecordReadsP
open Go.ChangeShapes Go.WideShapes Go.ChangeAt Go.RowKit
open Go.ChangeMaps (open_string shut_string)
set_option linter.unusedVariables false

theorem own : ownKnob Try.prog.godebug = none := by kernel_rfl
theorem laidOut : laidOutB Try.prog = true := by kernel_rfl
theorem bnext {a b c : World} (h : Below a.heap.size a b) (k : Below b.heap.size b c) : Below a.heap.size a c := h.trans (k.mono h.size)

set_option maxRecDepth 100000 in
set_option maxHeartbeats 2000000 in
theorem walk (a0 : Option Addr) (len0 cap0 : Nat) (z0 : List Int) (w : World) (h : IsRow .u8 w a0 len0 cap0 z0) (hcap : cap0 * 1 ≤ 140737488351232) :
    Calls Try.prog 13 #[.slice a0 len0 cap0] w fun e w' => e = .returned (.bool true) ∧ Below w.heap.size w w' := by
  obtain ⟨xs, hlen, hby, hr, hlc, hmx⟩ := h.reads
  subst hlen
  have gaw := fun w => Lib.hid (awake18 w)
  have hrl := fun w' (hb : Below w.heap.size w w') => Lib.hid (rread_any a0 cap0 xs w' hby ((Reads.below hr hb).more hb.size) hlc hmx)
  have hrp := fun A c w' (hr' : ReadsB w' w'.heap.size A xs) (h1 : xs.length ≤ c) (h2 : c ≤ maxLen) => Lib.hid (read_any A c xs w' hby hr' h1 h2 (by omega))
  unfold RdAll RdPost at hrl hrp
  generalize rdWhat xs = rw at *
  generalize rdView xs = rv at *
  generalize rdNum xs = rn at *
  generalize rdL xs = es at *
  generalize rdC xs = code at *
  have gsame := fun A1 A2 c1 c2 w h1 h2 hl => Lib.hid (same18_any rw rv rn A1 A2 c1 c2 es w h1 h2 hl)
  go_enter Try.func13, Try.ntmps13
  go_wp2_with (first
    | (at_builtin
       refine wpList_appB _ rfl (.tmp 8) (.tmp 9) rfl w.heap.size (.slice (some ⟨w.heap.size, 0, none⟩) 0 0) [] rfl (OwnB.lit rfl (Nat.le_refl _) (by unfold maxLen; simp)) w.heap.size a0 xs.length cap0 xs rfl (hr.alloc (Nat.le_refl _) _) rfl
         xs xs.length rfl rfl (by omega) (by simp) ?_
       intro A2 c2 w2 hown2 _ hb2 _))
  have ho := hown2.cap
  have hb2 : Below w.heap.size w w2 := ((Below.refl _ _).alloc (Nat.le_refl _) _).trans hb2
  refine (hrp A2 c2 w2 hown2.reads ho.1 ho.2).out.mono ?_
  rintro _ w3 ⟨hb3, A3, c3, rfl, hr3, hlc3, hm3⟩
  have hX := Blk.new w3 64 #[.int .i64 rw, .int .i64 rv, .int .i64 rn, .slice A3 es.length c3]
  have hB3 := (hb2.trans (hb3.mono hb2.size)).alloc (by have := hb2.size; have := hb3.size; omega) (.cells #[.int .i64 rw, .int .i64 rv, .int .i64 rn, .slice A3 es.length c3] 64)
  have hrX := Reads.alloc hr3 (Nat.le_refl _) (.cells #[.int .i64 rw, .int .i64 rv, .int .i64 rn, .slice A3 es.length c3] 64)
  clear hrp hown2 hb3 ho hr3
  go_wp2_with fail
  generalize w3.alloc (.cells #[.int .i64 rw, .int .i64 rv, .int .i64 rn, .slice A3 es.length c3] 64) = W at *
  refine (hrl _ hB3).out.mono ?_
  rintro _ w4 ⟨hb4, A4, c4, rfl, hr4, hlc4, hm4⟩
  have hX4 := hX.below hb4 hX.lt
  have hB4 := hB3.trans (hb4.mono hB3.size)
  have hlX := hX.lt
  have hrX4 := Reads.below (Reads.more hrX (Nat.le_of_lt hlX)) hb4
  have hY := Blk.new w4 64 #[.int .i64 rw, .int .i64 rv, .int .i64 rn, .slice A4 es.length c4]
  have hB5 := hB4.alloc hB4.size (.cells #[.int .i64 rw, .int .i64 rv, .int .i64 rn, .slice A4 es.length c4] 64)
  have hX5 := hX4.alloc (.cells #[.int .i64 rw, .int .i64 rv, .int .i64 rn, .slice A4 es.length c4] 64)
  have r1 := Reads.more (Reads.alloc (Reads.more hrX4 hb4.size) (Nat.le_refl _) (.cells #[.int .i64 rw, .int .i64 rv, .int .i64 rn, .slice A4 es.length c4] 64)) (B' := (w4.alloc (.cells #[.int .i64 rw, .int .i64 rv, .int .i64 rn, .slice A4 es.length c4] 64)).heap.size) (by simp)
  have r2 := Reads.more (Reads.alloc hr4 (Nat.le_refl _) (.cells #[.int .i64 rw, .int .i64 rv, .int .i64 rn, .slice A4 es.length c4] 64)) (B' := (w4.alloc (.cells #[.int .i64 rw, .int .i64 rv, .int .i64 rn, .slice A4 es.length c4] 64)).heap.size) (by simp)
  have d0 : (w4.alloc (.cells #[.int .i64 rw, .int .i64 rv, .int .i64 rn, .slice A4 es.length c4] 64)).cell? ⟨w3.heap.size, 0, none⟩ = some (.int .i64 rw) := hX5.cell 0
  have d1 : (w4.alloc (.cells #[.int .i64 rw, .int .i64 rv, .int .i64 rn, .slice A4 es.length c4] 64)).cell? ⟨w3.heap.size, 1, none⟩ = some (.int .i64 rv) := hX5.cell 1
  have d2 : (w4.alloc (.cells #[.int .i64 rw, .int .i64 rv, .int .i64 rn, .slice A4 es.length c4] 64)).cell? ⟨w3.heap.size, 2, none⟩ = some (.int .i64 rn) := hX5.cell 2
  have d3 : (w4.alloc (.cells #[.int .i64 rw, .int .i64 rv, .int .i64 rn, .slice A4 es.length c4] 64)).cell? ⟨w3.heap.size, 3, none⟩ = some (.slice A3 es.length c3) := hX5.cell 3
  have hlt4 := hX4.lt
  clear hrl hb4 hr4 hrX hX hX4 hrX4
  go_wp2_with fail
  refine (gsame A3 A4 c3 c4 _ r1 r2 (by omega)).out.mono ?_
  rintro _ w5 ⟨rfl, hb5⟩
  go_wp2_with fail
  refine (gaw _).out.mono ?_
  rintro _ w6 ⟨rfl, hb6⟩
  go_wp2_with fail
  go_ret
  exact ⟨rfl, (hB5.trans (hb5.mono hB5.size)).trans (hb6.mono (by have := hB5.size; have := hb5.size; omega))⟩

set_option maxRecDepth 100000 in
theorem lifted (os : Os) (started : os.Started) (H : Type) (enc : TypeId × Value → H) :
    ReturnsInHanded {} Try.checked os 13 .any (Rows.recordReadsSpec.pre6 enc Try.prog Try.f13 Rows.recordReadsRow.domain false) (Rows.recordReadsSpec.post enc Try.prog Try.f13 false true false false) := by
  refine returnsInHanded_of_change_sized (C := Try.checked) own started (by kernel_rfl) Try.func13
    (ChangeSpec.witness6 (enc := enc) (C := Try.checked) false ⟨#[], #[.slice none 0 0], []⟩ 8 (by kernel_rfl) (by kernel_rfl) (by kernel_rfl) (by kernel_rfl)) ?_
  intro W base args ds gs before hval0 hW hcnd hsz0 _
  have hsz : (DataW.weightsEach Try.prog (Try.f13.params.toList ++ Rows.recordReadsSpec.plain.varTypes Try.prog) (ds ++ gs)).all (· ≤ reachBytes) = true := hsz0
  clear hsz0
  have hval : ∀ (j : Nat) t v, Try.f13.params[j]? = some t → args[j]? = some v → Value.okWide Try.prog W .any base t v := hval0
  have hW' := hW
  obtain ⟨p, q, hA0, hV, rfl, hfz, hnd⟩ := hW
  have hA : DataW.TrodAll enc Try.prog W 0 (fun _ => true) true Try.f13.params.toList args.toList ds p := hA0
  rw [Try.params13] at hA hval hsz
  obtain ⟨v0, vs0, d0, ds0, p0, q0, hargs, rfl, rfl, h0, r0⟩ := trodAll_cons hA
  obtain ⟨rfl, rfl, rfl⟩ := trodAll_nil r0
  obtain rfl : args = #[v0] := by cases args; simp_all
  obtain ⟨rfl, rfl⟩ := trodVars_none hV
  obtain ⟨a0, len0, cap0, rfl⟩ := okWide_slice Try.underlying36 (hval 0 36 v0 rfl rfl)
  have k0 := h0
  have lt0 : ∀ x ∈ p0, x.block < W.heap.size := by obtain ⟨m, hm⟩ := k0; exact DataW.trod_lt m _ _ _ hm
  obtain ⟨z0, w0, hcap0⟩ : ∃ zs, IsRow .u8 W a0 len0 cap0 zs ∧ cap0 * 1 ≤ 140737488351232 := by
    obtain ⟨fuel, hf⟩ := h0
    rcases open_ints Try.underlying36 Try.underlying5 (by kernel_rfl) hf with ⟨hcs, _⟩ | ⟨x, l, c, zs, hcs, _, hl, hm, hz, hx, hcell, hwz⟩
    · simp [Value.cells] at hcs
      obtain ⟨rfl, rfl, rfl⟩ := hcs
      exact ⟨[], .inl ⟨rfl, rfl, rfl, rfl⟩, by omega⟩
    · simp [Value.cells] at hcs
      obtain ⟨rfl, rfl, rfl⟩ := hcs
      simp only [Prod.mk.injEq] at hx
      obtain ⟨hx1, _⟩ := hx
      subst hx1
      have hcap := sized_slice hsz (j := 0) (t := 36) (e := 5) rfl rfl Try.underlying36
      rw [show Try.prog.bytesOf 5 = 1 from by kernel_rfl] at hcap
      simp only [lits, List.length_map, List.length_take, List.length_drop, reachBytes] at hcap
      have hz2 : zs.length = cap0 := by simpa using hz
      replace hcap : cap0 * 1 ≤ 140737488351232 := by omega
      exact ⟨zs, .inr ⟨_, rfl, hl, hm, by simpa using hz, hcell, hwz⟩, hcap⟩
  clear hA0 hval0
  refine (walk a0 len0 cap0 z0 W w0 hcap0).mono fun e W' ⟨he, bel⟩ => ?_
  subst he
  exact ⟨_, rfl, _, _, _, [], _, [], hW', trodAll_mk1 (shut_bool Try.underlying4 _), (trodAll_cons_mk (Below.trod laidOut (by kernel_rfl) (of_decide_eq_true (by kernel_rfl)) k0 bel lt0) trodAll_mk0), rfl, bel.frame _, fun h => by cases h⟩

theorem closed : joinedFacts Try.prog 13 Try.f13 Rows.recordReadsSpec Rows.recordReadsRow = true := by
  have h1 := mayEnter_fact
  have h2 : (Rows.recordReadsRow.lifted == Try.prog.liftsFinal) = true := by rw [lifts_fact]; rfl
  have h3 : (Try.prog.make == some Rows.recordReadsRow.make) = true := by rw [make_fact]; rfl
  have hfin : ∀ b : Bool, b = true → b = true := fun _ h => h
  unfold joinedFacts
  rw [h1, h2, h3]
  clear h1 h2 h3
  refine hfin _ ?_
  kernel_rfl

theorem over : Rows.recordReadsRow.holds Try.pinned (OpenSpec.ofChange Rows.recordReadsSpec) :=
  OpenClaim.holds_of_wide 13 Try.f13 rfl rfl rfl rfl rfl rfl rfl ⟨rfl, rfl, rfl, rfl, rfl⟩ rfl rfl rfl rfl rfl (by kernel_rfl) Try.func13 closed
    (of_decide_eq_true (by kernel_rfl)) (by unfold Func.isWrapper; first | (rw [if_pos (by decide +kernel)]; kernel_rfl) | (rw [if_neg (by decide +kernel)]; exact ⟨rfl, rfl⟩))
    (fun os started H enc _ => lifted os started H enc)

/-- The statement. -/
theorem proved : Rows.RecordReadsSaid := over
#print axioms proved

end Go.Proofs.Ytlehianbdamgmaa.RecordReadsP
