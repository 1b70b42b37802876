/- RecordBytes: bytes that are an entry, or a note, are its bytes. -/
import Derived.Test.YtlehianbdamgmaaReadP
import Derived.Test.YtlehianbdamgmaaBackN
import Derived.Test.YtlehianbdamgmaaHead
import Derived.Test.YtlehianbdamgmaaOpenG
import Derived.Deep.RegionHeld3
import Derived.Lib.SmallJoins
import Derived.ProofKit
import Derived.OpenShut
import Derived.ShutString
import Derived.ChangeOld
import Derived.Laws.StructEq
namespace Go.Proofs.Ytlehianbdamgmaa.RecordBytesP
open Go.ChangeShapes Go.WideShapes Go.ChangeAt Go.RowKit
open Go.ChangeMaps (open_string shut_string)
set_option linter.unusedVariables false

theorem own : ownKnob Try.prog.godebug = none := by kernel_rfl
theorem laidOut : laidOutB Try.prog = true := by kernel_rfl
theorem bnext {a b c : World} (h : Below a.heap.size a b) (k : Below b.heap.size b c) : Below a.heap.size a c := h.trans (k.mono h.size)

theorem dc_zero {xs : List Int} (hb : Bytes xs) (h : dcC xs = 0) : encO (dcE xs) = xs ∧ (dcE xs).err = 0 := by
  have e0 : dcE xs = getE xs := if_pos h
  rw [e0]
  unfold dcC at h
  split at h
  · cases h
  · rename_i h1
    split at h
    · cases h
    · rename_i h2
      have h3 : xs.length = 14 := by omega
      have h4 : (getE xs).err = 0 := by
        by_cases hh : (getE xs).err = 0
        · exact hh
        · exact absurd (.inr hh) h2
      have h5 : encO (getE xs) = encE (getE xs) := by
        unfold encO
        have : (getE xs).ok := by
          by_cases hh : (getE xs).ok
          · exact hh
          · rw [Ent.err_no hh] at h4; cases h4
        rw [if_pos this]
      refine ⟨?_, h4⟩
      rw [h5, encE_getE hb (by omega), List.take_of_length_le (by omega)]
theorem rd_zero {xs : List Int} (hb : Bytes xs) (h : rdC xs = 0) : noteO (rdWhat xs) (rdView xs) (rdNum xs) (rdL xs) = xs ∧ nErr (rdWhat xs) (rdView xs) (rdNum xs) (rdL xs) = 0 ∧ InL (rdL xs) ∧ in64 (rdView xs) ∧ in64 (rdNum xs) ∧ (rdL xs).length ≤ 4096 := by
  obtain ⟨e0, e1, e2, e3⟩ := rd_good h
  obtain ⟨h1, h2, h3, h4⟩ := rdC_inv h
  have hmn : 0 ≤ manyN xs := gfold_nn _ 0 ((hb.drop 9).take 4) (by omega)
  have hN : manyN xs = (rdN xs : Int) := by unfold rdN; omega
  rw [e0, e1, e2, e3]
  have v1 := gf_small ((hb.drop (0 + 1)).take 4) (by rw [List.length_take]; omega)
  have v2 := gf_small ((hb.drop (0 + 1 + 4)).take 4) (by rw [List.length_take]; omega)
  refine ⟨?_, h4, ents_in xs hb _ (by omega), ?_, ?_, ?_⟩
  · unfold noteO
    rw [if_pos h4]
    exact noteB_ents hb hN h3
  · unfold in64 rd1_; omega
  · unfold in64 rd2_; omega
  · rw [ents_length]; omega
set_option maxRecDepth 100000 in
set_option maxHeartbeats 2000000 in
theorem walk (a0 : Option Addr) (len0 cap0 : Nat) (z0 : List Int) (w : World) (h : IsRow .u8 w a0 len0 cap0 z0) (hcap : cap0 * 1 ≤ 140737488351232) :
    Calls Try.prog 16 #[.slice a0 len0 cap0] w fun e w' => e = .returned (.bool true) ∧ Below w.heap.size w w' := by
  obtain ⟨xs, hlen, hby, hr, hlc, hmx⟩ := h.reads
  subst hlen
  have gaw := fun w => Lib.hid (awake18 w)
  have hrp := fun w' (hb : Below w.heap.size w w') => Lib.hid (read_any a0 cap0 xs w' hby ((Reads.below hr hb).more hb.size) hlc hmx (by omega))
  have hdp := Lib.hid (rdc_any a0 cap0 xs w hby hr hlc hmx (by omega))
  have gnote : rdC xs = 0 → ∀ A c w', ReadsE w' w'.heap.size A (rdL xs) → (rdL xs).length ≤ c → c ≤ maxLen → Hid (Calls Try.prog 42 #[.agg #[.int .i64 (rdWhat xs), .int .i64 (rdView xs), .int .i64 (rdNum xs), .slice A (rdL xs).length c]] w' (NPost w' xs 0)) := fun hz A c w' h1 h2 h3 => by
    obtain ⟨e1, e2, e3, e4, e5, e6⟩ := rd_zero hby hz
    have := note_any (rdWhat xs) (rdView xs) (rdNum xs) A c (rdL xs) w' h1 e3 e4 e5 (by unfold maxLen; omega)
    rw [e1, e2] at this
    exact Lib.hid this
  have genc : dcC xs = 0 → ∀ w', Hid (Calls Try.prog 23 #[(dcE xs).val] w' (NPost w' xs 0)) := fun hz w' => by
    obtain ⟨e1, e2⟩ := dc_zero hby hz
    have hin : (dcE xs).In := by
      have e0 : dcE xs = getE xs := if_pos hz
      rw [e0]
      refine getE_in hby ?_
      unfold dcC at hz
      split at hz
      · cases hz
      · omega
    have := encode_any (dcE xs) w' hin
    unfold EPost at this
    rw [e1, e2] at this
    exact Lib.hid this
  unfold NPost at gnote genc
  unfold RdAll RdPost at hrp
  generalize rdWhat xs = rw at *
  generalize rdView xs = rv at *
  generalize rdNum xs = rn at *
  generalize rdL xs = es at *
  generalize rdC xs = code at *
  generalize dcE xs = i at *
  generalize dcC xs = dc at *
  unfold Ent.val at *
  go_enter Try.func16, Try.ntmps16
  go_wp2_with fail
  refine hdp.out.mono ?_
  rintro _ w1 ⟨rfl, hb1⟩
  have hI := Blk.new w1 33 #[.int .i64 i.view, .int .i64 i.what, .int .i64 i.a, .int .i64 i.n]
  have hU1 := hb1.alloc hb1.size (.cells #[.int .i64 i.view, .int .i64 i.what, .int .i64 i.a, .int .i64 i.n] 33)
  clear hdp
  by_cases hdc : dc = 0
  · have ge := fun w => genc hdc w
    replace hdc := Lib.hid hdc
    obtain rfl := hdc.out
    have d0 : (w1.alloc (.cells #[.int .i64 i.view, .int .i64 i.what, .int .i64 i.a, .int .i64 i.n] 33)).cell? ⟨w1.heap.size, 0, none⟩ = some (.int .i64 i.view) := hI.cell 0
    have d1 : (w1.alloc (.cells #[.int .i64 i.view, .int .i64 i.what, .int .i64 i.a, .int .i64 i.n] 33)).cell? ⟨w1.heap.size, 1, none⟩ = some (.int .i64 i.what) := hI.cell 1
    have d2 : (w1.alloc (.cells #[.int .i64 i.view, .int .i64 i.what, .int .i64 i.a, .int .i64 i.n] 33)).cell? ⟨w1.heap.size, 2, none⟩ = some (.int .i64 i.a) := hI.cell 2
    have d3 : (w1.alloc (.cells #[.int .i64 i.view, .int .i64 i.what, .int .i64 i.a, .int .i64 i.n] 33)).cell? ⟨w1.heap.size, 3, none⟩ = some (.int .i64 i.n) := hI.cell 3
    go_wp2_with fail
    clear d0 d1 d2 d3
    generalize w1.alloc (.cells #[.int .i64 i.view, .int .i64 i.what, .int .i64 i.a, .int .i64 i.n] 33) = W1 at *
    refine (ge _).out.mono ?_
    rintro _ w2 ⟨A2, c2, rfl, hr2, hc2, hm2, hb2⟩
    have hU := hU1.trans (hb2.mono hU1.size)
    have t1 := run_text xs.length c2 hr2 rfl
    have t2 := run_text xs.length cap0 (Reads.below hr hU) rfl
    clear genc ge hU1 hI
    go_wp2_with fail
    clear t1 t2 hr2
    have hr2 := (Reads.below hr hU).more hU.size
    refine (hrp _ hU).out.mono ?_
    rintro _ w3 ⟨hb3, A3, c3, rfl, hr3, hlc3, hm3⟩
    have hX := Blk.new w3 64 #[.int .i64 rw, .int .i64 rv, .int .i64 rn, .slice A3 es.length c3]
    have hB3 := (hU.trans (hb3.mono hU.size)).alloc (by have := hU.size; have := hb3.size; omega) (.cells #[.int .i64 rw, .int .i64 rv, .int .i64 rn, .slice A3 es.length c3] 64)
    have hrX := Reads.more (Reads.alloc hr3 (Nat.le_refl _) (.cells #[.int .i64 rw, .int .i64 rv, .int .i64 rn, .slice A3 es.length c3] 64)) (B' := (w3.alloc (.cells #[.int .i64 rw, .int .i64 rv, .int .i64 rn, .slice A3 es.length c3] 64)).heap.size) (by simp)
    clear hr3
    by_cases hcd : code = 0
    · have gn := gnote hcd
      replace hcd := Lib.hid hcd
      obtain rfl := hcd.out
      have hn3 : (w3.alloc (.cells #[.int .i64 rw, .int .i64 rv, .int .i64 rn, .slice A3 es.length c3] 64)).heap.size = w3.heap.size + 1 := by simp
      replace hn3 := Lib.hid hn3
      have d0 : (w3.alloc (.cells #[.int .i64 rw, .int .i64 rv, .int .i64 rn, .slice A3 es.length c3] 64)).cell? ⟨w3.heap.size, 0, none⟩ = some (.int .i64 rw) := hX.cell 0
      have d1 : (w3.alloc (.cells #[.int .i64 rw, .int .i64 rv, .int .i64 rn, .slice A3 es.length c3] 64)).cell? ⟨w3.heap.size, 1, none⟩ = some (.int .i64 rv) := hX.cell 1
      have d2 : (w3.alloc (.cells #[.int .i64 rw, .int .i64 rv, .int .i64 rn, .slice A3 es.length c3] 64)).cell? ⟨w3.heap.size, 2, none⟩ = some (.int .i64 rn) := hX.cell 2
      have d3 : (w3.alloc (.cells #[.int .i64 rw, .int .i64 rv, .int .i64 rn, .slice A3 es.length c3] 64)).cell? ⟨w3.heap.size, 3, none⟩ = some (.slice A3 es.length c3) := hX.cell 3
      go_wp2_with fail
      clear d0 d1 d2 d3
      generalize w3.alloc (.cells #[.int .i64 rw, .int .i64 rv, .int .i64 rn, .slice A3 es.length c3] 64) = W at *
      refine (gn A3 c3 W hrX hlc3 hm3).out.mono ?_
      rintro _ w4 ⟨A4, c4, rfl, hr4, hlc4, hm4, hb4⟩
      have hB4 := hB3.trans (hb4.mono hB3.size)
      have t1 := run_text xs.length c4 hr4 rfl
      have t2 := run_text xs.length cap0 (Reads.below hr hB4) rfl
      go_wp2_with fail
      refine (gaw _).out.mono ?_
      rintro _ wz ⟨rfl, hbz⟩
      go_wp2_with fail
      go_ret
      exact ⟨rfl, hB4.trans (hbz.mono hB4.size)⟩
    · have hcd' : (code == 0) = false := by simpa using hcd
      replace hcd := Lib.hid hcd
      go_wp2_with fail
      refine (gaw _).out.mono ?_
      rintro _ wz ⟨rfl, hbz⟩
      go_wp2_with fail
      go_ret
      exact ⟨rfl, hB3.trans (hbz.mono hB3.size)⟩
  · have hdc' : (dc == 0) = false := by simpa using hdc
    replace hdc := Lib.hid hdc
    clear genc
    go_wp2_with fail
    clear hI
    have hU := hU1
    clear hU1
    generalize w1.alloc (.cells #[.int .i64 i.view, .int .i64 i.what, .int .i64 i.a, .int .i64 i.n] 33) = W1 at *
    have hr2 := (Reads.below hr hU).more hU.size
    refine (hrp _ hU).out.mono ?_
    rintro _ w3 ⟨hb3, A3, c3, rfl, hr3, hlc3, hm3⟩
    have hX := Blk.new w3 64 #[.int .i64 rw, .int .i64 rv, .int .i64 rn, .slice A3 es.length c3]
    have hB3 := (hU.trans (hb3.mono hU.size)).alloc (by have := hU.size; have := hb3.size; omega) (.cells #[.int .i64 rw, .int .i64 rv, .int .i64 rn, .slice A3 es.length c3] 64)
    have hrX := Reads.more (Reads.alloc hr3 (Nat.le_refl _) (.cells #[.int .i64 rw, .int .i64 rv, .int .i64 rn, .slice A3 es.length c3] 64)) (B' := (w3.alloc (.cells #[.int .i64 rw, .int .i64 rv, .int .i64 rn, .slice A3 es.length c3] 64)).heap.size) (by simp)
    clear hr3
    by_cases hcd : code = 0
    · have gn := gnote hcd
      replace hcd := Lib.hid hcd
      obtain rfl := hcd.out
      have hn3 : (w3.alloc (.cells #[.int .i64 rw, .int .i64 rv, .int .i64 rn, .slice A3 es.length c3] 64)).heap.size = w3.heap.size + 1 := by simp
      replace hn3 := Lib.hid hn3
      have d0 : (w3.alloc (.cells #[.int .i64 rw, .int .i64 rv, .int .i64 rn, .slice A3 es.length c3] 64)).cell? ⟨w3.heap.size, 0, none⟩ = some (.int .i64 rw) := hX.cell 0
      have d1 : (w3.alloc (.cells #[.int .i64 rw, .int .i64 rv, .int .i64 rn, .slice A3 es.length c3] 64)).cell? ⟨w3.heap.size, 1, none⟩ = some (.int .i64 rv) := hX.cell 1
      have d2 : (w3.alloc (.cells #[.int .i64 rw, .int .i64 rv, .int .i64 rn, .slice A3 es.length c3] 64)).cell? ⟨w3.heap.size, 2, none⟩ = some (.int .i64 rn) := hX.cell 2
      have d3 : (w3.alloc (.cells #[.int .i64 rw, .int .i64 rv, .int .i64 rn, .slice A3 es.length c3] 64)).cell? ⟨w3.heap.size, 3, none⟩ = some (.slice A3 es.length c3) := hX.cell 3
      go_wp2_with fail
      clear d0 d1 d2 d3
      generalize w3.alloc (.cells #[.int .i64 rw, .int .i64 rv, .int .i64 rn, .slice A3 es.length c3] 64) = W at *
      refine (gn A3 c3 W hrX hlc3 hm3).out.mono ?_
      rintro _ w4 ⟨A4, c4, rfl, hr4, hlc4, hm4, hb4⟩
      have hB4 := hB3.trans (hb4.mono hB3.size)
      have t1 := run_text xs.length c4 hr4 rfl
      have t2 := run_text xs.length cap0 (Reads.below hr hB4) rfl
      go_wp2_with fail
      refine (gaw _).out.mono ?_
      rintro _ wz ⟨rfl, hbz⟩
      go_wp2_with fail
      go_ret
      exact ⟨rfl, hB4.trans (hbz.mono hB4.size)⟩
    · have hcd' : (code == 0) = false := by simpa using hcd
      replace hcd := Lib.hid hcd
      go_wp2_with fail
      refine (gaw _).out.mono ?_
      rintro _ wz ⟨rfl, hbz⟩
      go_wp2_with fail
      go_ret
      exact ⟨rfl, hB3.trans (hbz.mono hB3.size)⟩

set_option maxRecDepth 100000 in
theorem lifted (os : Os) (started : os.Started) (H : Type) (enc : TypeId × Value → H) :
    ReturnsInHanded {} Try.checked os 16 .any (Rows.recordBytesSpec.pre6 enc Try.prog Try.f16 Rows.recordBytesRow.domain false) (Rows.recordBytesSpec.post enc Try.prog Try.f16 false true false false) := by
  refine returnsInHanded_of_change_sized (C := Try.checked) own started (by kernel_rfl) Try.func16
    (ChangeSpec.witness6 (enc := enc) (C := Try.checked) false ⟨#[], #[.slice none 0 0], []⟩ 8 (by kernel_rfl) (by kernel_rfl) (by kernel_rfl) (by kernel_rfl)) ?_
  intro W base args ds gs before hval0 hW hcnd hsz0 _
  have hsz : (DataW.weightsEach Try.prog (Try.f16.params.toList ++ Rows.recordBytesSpec.plain.varTypes Try.prog) (ds ++ gs)).all (· ≤ reachBytes) = true := hsz0
  clear hsz0
  have hval : ∀ (j : Nat) t v, Try.f16.params[j]? = some t → args[j]? = some v → Value.okWide Try.prog W .any base t v := hval0
  have hW' := hW
  obtain ⟨p, q, hA0, hV, rfl, hfz, hnd⟩ := hW
  have hA : DataW.TrodAll enc Try.prog W 0 (fun _ => true) true Try.f16.params.toList args.toList ds p := hA0
  rw [Try.params16] at hA hval hsz
  obtain ⟨v0, vs0, d0, ds0, p0, q0, hargs, rfl, rfl, h0, r0⟩ := trodAll_cons hA
  obtain ⟨rfl, rfl, rfl⟩ := trodAll_nil r0
  obtain rfl : args = #[v0] := by cases args; simp_all
  obtain ⟨rfl, rfl⟩ := trodVars_none hV
  obtain ⟨a0, len0, cap0, rfl⟩ := okWide_slice Try.underlying36 (hval 0 36 v0 rfl rfl)
  have k0 := h0
  have lt0 : ∀ x ∈ p0, x.block < W.heap.size := by obtain ⟨m, hm⟩ := k0; exact DataW.trod_lt m _ _ _ hm
  obtain ⟨z0, w0, hcap0⟩ : ∃ zs, IsRow .u8 W a0 len0 cap0 zs ∧ cap0 * 1 ≤ 140737488351232 := by
    obtain ⟨fuel, hf⟩ := h0
    rcases open_ints Try.underlying36 Try.underlying5 (by kernel_rfl) hf with ⟨hcs, _⟩ | ⟨x, l, c, zs, hcs, _, hl, hm, hz, hx, hcell, hwz⟩
    · simp [Value.cells] at hcs
      obtain ⟨rfl, rfl, rfl⟩ := hcs
      exact ⟨[], .inl ⟨rfl, rfl, rfl, rfl⟩, by omega⟩
    · simp [Value.cells] at hcs
      obtain ⟨rfl, rfl, rfl⟩ := hcs
      simp only [Prod.mk.injEq] at hx
      obtain ⟨hx1, _⟩ := hx
      subst hx1
      have hcap := sized_slice hsz (j := 0) (t := 36) (e := 5) rfl rfl Try.underlying36
      rw [show Try.prog.bytesOf 5 = 1 from by kernel_rfl] at hcap
      simp only [lits, List.length_map, List.length_take, List.length_drop, reachBytes] at hcap
      have hz2 : zs.length = cap0 := by simpa using hz
      replace hcap : cap0 * 1 ≤ 140737488351232 := by omega
      exact ⟨zs, .inr ⟨_, rfl, hl, hm, by simpa using hz, hcell, hwz⟩, hcap⟩
  clear hA0 hval0
  refine (walk a0 len0 cap0 z0 W w0 hcap0).mono fun e W' ⟨he, bel⟩ => ?_
  subst he
  exact ⟨_, rfl, _, _, _, [], _, [], hW', trodAll_mk1 (shut_bool Try.underlying4 _), (trodAll_cons_mk (Below.trod laidOut (by kernel_rfl) (of_decide_eq_true (by kernel_rfl)) k0 bel lt0) trodAll_mk0), rfl, bel.frame _, fun h => by cases h⟩

theorem closed : joinedFacts Try.prog 16 Try.f16 Rows.recordBytesSpec Rows.recordBytesRow = true := by
  have h1 := mayEnter_fact
  have h2 : (Rows.recordBytesRow.lifted == Try.prog.liftsFinal) = true := by rw [lifts_fact]; rfl
  have h3 : (Try.prog.make == some Rows.recordBytesRow.make) = true := by rw [make_fact]; rfl
  have hfin : ∀ b : Bool, b = true → b = true := fun _ h => h
  unfold joinedFacts
  rw [h1, h2, h3]
  clear h1 h2 h3
  refine hfin _ ?_
  kernel_rfl

theorem over : Rows.recordBytesRow.holds Try.pinned (OpenSpec.ofChange Rows.recordBytesSpec) :=
  OpenClaim.holds_of_wide 16 Try.f16 rfl rfl rfl rfl rfl rfl rfl ⟨rfl, rfl, rfl, rfl, rfl⟩ rfl rfl rfl rfl rfl (by kernel_rfl) Try.func16 closed
    (of_decide_eq_true (by kernel_rfl)) (by unfold Func.isWrapper; first | (rw [if_pos (by decide +kernel)]; kernel_rfl) | (rw [if_neg (by decide +kernel)]; exact ⟨rfl, rfl⟩))
    (fun os started H enc _ => lifted os started H enc)

/-- The statement. -/
theorem proved : Rows.RecordBytesSaid := over
#print axioms proved

end Go.Proofs.Ytlehianbdamgmaa.RecordBytesP
