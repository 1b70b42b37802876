/- StoreBegins: a log begins with each of its beginnings, with another one that begins with it just if they are the same. -/
import Derived.Test.YtlehianbdamgmaaStoreAw
import Derived.Test.YtlehianbdamgmaaOpenE
import Derived.Test.YtlehianbdamgmaaHead
import Derived.Test.YtlehianbdamgmaaOpenG
import Derived.Deep.RegionHeld3
import Derived.Lib.SmallJoins
import Derived.ProofKit
import Derived.OpenShut
import Derived.ShutString
import Derived.ChangeOld
import Derived.Laws.StructEq
namespace Go.Proofs.Ytlehianbdamgmaa.StoreBeginsP
open Go.ChangeShapes Go.WideShapes Go.ChangeAt Go.RowKit
open Go.ChangeMaps (open_string shut_string)
set_option linter.unusedVariables false

theorem own : ownKnob Try.prog.godebug = none := by kernel_rfl
theorem laidOut : laidOutB Try.prog = true := by kernel_rfl
theorem bnext {a b c : World} (h : Below a.heap.size a b) (k : Below b.heap.size b c) : Below a.heap.size a c := h.trans (k.mono h.size)
theorem begins_len {l a : List Ent} (h : begins l a = true) : a.length ≤ l.length := by
  have h := of_decide_eq_true h
  have := congrArg List.length h
  rw [List.length_take] at this
  omega
theorem begins_both (l a : List Ent) : (begins l a && begins a l) = decide (l = a) := by
  rw [Bool.eq_iff_iff, Bool.and_eq_true, decide_eq_true_eq]
  constructor
  · intro ⟨h, k⟩
    have h1 := begins_len h
    have h2 := begins_len k
    have h3 : l.take a.length = a := of_decide_eq_true h
    rwa [List.take_of_length_le (by omega)] at h3
  · rintro rfl
    have : begins l l = true := decide_eq_true (List.take_length)
    exact ⟨this, this⟩
theorem begins_take (l : List Ent) (k : Nat) (hk : k ≤ l.length) : begins l (l.take k) = true := decide_eq_true (by rw [List.length_take, Nat.min_eq_left hk])

set_option maxRecDepth 100000 in
set_option maxHeartbeats 1000000 in
theorem walk_00 (A0 A1 : Option Addr) (n0 c0 n1 c1 : Nat) (n k : Int) (kn : Nat) (w : World) (_hn0 : 0 ≤ n) (_hn1 : n < 256) (hk : n.tmod (((n0 : Nat) : Int) + 1) = k) (hkn : k = (kn : Int)) (hk1 : kn ≤ n0) (hc0 : n0 ≤ c0) (hm0 : c0 ≤ 4398046511104)
    (g1 : ∀ w', Below w.heap.size w w' → Hid (Calls Try.prog 19 #[.slice A0 n0 c0, .slice A1 n1 c1] w' fun e w2 => e = .returned (.bool false) ∧ Below w'.heap.size w' w2)) (g2 : ∀ w', Below w.heap.size w w' → Hid (Calls Try.prog 19 #[.slice A1 n1 c1, .slice A0 n0 c0] w' fun e w2 => e = .returned (.bool false) ∧ Below w'.heap.size w' w2)) (g3 : ∀ w', Below w.heap.size w w' → Hid (Calls Try.prog 19 #[.slice A0 n0 c0, .slice A0 kn c0] w' fun e w2 => e = .returned (.bool true) ∧ Below w'.heap.size w' w2))
    (g4 : ∀ w', Below w.heap.size w w' → Hid (Calls Try.prog 20 #[.slice A0 n0 c0, .slice A1 n1 c1] w' fun e w2 => e = .returned (.bool false) ∧ ∃ n, w2 = w'.drewN n)) :
    Calls Try.prog 4 #[.slice A0 n0 c0, .slice A1 n1 c1, .int .u8 n] w fun e w' => e = .returned (.bool true) ∧ Below w.heap.size w w' := by
  subst hkn
  go_enter Try.func4, Try.ntmps4
  go_wp2_with fail
  refine (g1 _ (Below.refl _ _)).out.mono ?_
  rintro _ w1 ⟨rfl, hb1⟩
  go_wp2_with fail
  refine (g3 _ hb1).out.mono ?_
  rintro _ w3 ⟨rfl, hb3⟩
  have hb1 := bnext hb1 hb3
  go_wp2_with fail
  refine (g4 _ hb1).out.mono ?_
  rintro _ w4 ⟨rfl, nn, rfl⟩
  have hb1 := below_drewN hb1 nn
  go_wp2_with fail
  refine (g1 _ hb1).out.mono ?_
  rintro _ w5 ⟨rfl, hb5⟩
  have hb1 := bnext hb1 hb5
  go_wp2_with fail
  refine (awake19 _).mono ?_
  rintro _ wz ⟨rfl, hbz⟩
  go_wp2_with fail
  go_ret
  exact ⟨rfl, bnext hb1 hbz⟩

set_option maxRecDepth 100000 in
set_option maxHeartbeats 1000000 in
theorem walk_01 (A0 A1 : Option Addr) (n0 c0 n1 c1 : Nat) (n k : Int) (kn : Nat) (w : World) (_hn0 : 0 ≤ n) (_hn1 : n < 256) (hk : n.tmod (((n0 : Nat) : Int) + 1) = k) (hkn : k = (kn : Int)) (hk1 : kn ≤ n0) (hc0 : n0 ≤ c0) (hm0 : c0 ≤ 4398046511104)
    (g1 : ∀ w', Below w.heap.size w w' → Hid (Calls Try.prog 19 #[.slice A0 n0 c0, .slice A1 n1 c1] w' fun e w2 => e = .returned (.bool false) ∧ Below w'.heap.size w' w2)) (g2 : ∀ w', Below w.heap.size w w' → Hid (Calls Try.prog 19 #[.slice A1 n1 c1, .slice A0 n0 c0] w' fun e w2 => e = .returned (.bool true) ∧ Below w'.heap.size w' w2)) (g3 : ∀ w', Below w.heap.size w w' → Hid (Calls Try.prog 19 #[.slice A0 n0 c0, .slice A0 kn c0] w' fun e w2 => e = .returned (.bool true) ∧ Below w'.heap.size w' w2))
    (g4 : ∀ w', Below w.heap.size w w' → Hid (Calls Try.prog 20 #[.slice A0 n0 c0, .slice A1 n1 c1] w' fun e w2 => e = .returned (.bool false) ∧ ∃ n, w2 = w'.drewN n)) :
    Calls Try.prog 4 #[.slice A0 n0 c0, .slice A1 n1 c1, .int .u8 n] w fun e w' => e = .returned (.bool true) ∧ Below w.heap.size w w' := by
  subst hkn
  go_enter Try.func4, Try.ntmps4
  go_wp2_with fail
  refine (g1 _ (Below.refl _ _)).out.mono ?_
  rintro _ w1 ⟨rfl, hb1⟩
  go_wp2_with fail
  refine (g3 _ hb1).out.mono ?_
  rintro _ w3 ⟨rfl, hb3⟩
  have hb1 := bnext hb1 hb3
  go_wp2_with fail
  refine (g4 _ hb1).out.mono ?_
  rintro _ w4 ⟨rfl, nn, rfl⟩
  have hb1 := below_drewN hb1 nn
  go_wp2_with fail
  refine (g1 _ hb1).out.mono ?_
  rintro _ w5 ⟨rfl, hb5⟩
  have hb1 := bnext hb1 hb5
  go_wp2_with fail
  refine (awake19 _).mono ?_
  rintro _ wz ⟨rfl, hbz⟩
  go_wp2_with fail
  go_ret
  exact ⟨rfl, bnext hb1 hbz⟩

set_option maxRecDepth 100000 in
set_option maxHeartbeats 1000000 in
theorem walk_10 (A0 A1 : Option Addr) (n0 c0 n1 c1 : Nat) (n k : Int) (kn : Nat) (w : World) (_hn0 : 0 ≤ n) (_hn1 : n < 256) (hk : n.tmod (((n0 : Nat) : Int) + 1) = k) (hkn : k = (kn : Int)) (hk1 : kn ≤ n0) (hc0 : n0 ≤ c0) (hm0 : c0 ≤ 4398046511104)
    (g1 : ∀ w', Below w.heap.size w w' → Hid (Calls Try.prog 19 #[.slice A0 n0 c0, .slice A1 n1 c1] w' fun e w2 => e = .returned (.bool true) ∧ Below w'.heap.size w' w2)) (g2 : ∀ w', Below w.heap.size w w' → Hid (Calls Try.prog 19 #[.slice A1 n1 c1, .slice A0 n0 c0] w' fun e w2 => e = .returned (.bool false) ∧ Below w'.heap.size w' w2)) (g3 : ∀ w', Below w.heap.size w w' → Hid (Calls Try.prog 19 #[.slice A0 n0 c0, .slice A0 kn c0] w' fun e w2 => e = .returned (.bool true) ∧ Below w'.heap.size w' w2))
    (g4 : ∀ w', Below w.heap.size w w' → Hid (Calls Try.prog 20 #[.slice A0 n0 c0, .slice A1 n1 c1] w' fun e w2 => e = .returned (.bool false) ∧ ∃ n, w2 = w'.drewN n)) (hle : decide (n1 ≤ n0) = true) (hle2 : n1 ≤ n0) :
    Calls Try.prog 4 #[.slice A0 n0 c0, .slice A1 n1 c1, .int .u8 n] w fun e w' => e = .returned (.bool true) ∧ Below w.heap.size w w' := by
  subst hkn
  go_enter Try.func4, Try.ntmps4
  go_wp2_with fail
  refine (g1 _ (Below.refl _ _)).out.mono ?_
  rintro _ w1 ⟨rfl, hb1⟩
  go_wp2_with fail
  refine (g2 _ hb1).out.mono ?_
  rintro _ w2 ⟨rfl, hb2⟩
  have hb1 := bnext hb1 hb2
  go_wp2_with fail
  refine (g3 _ hb1).out.mono ?_
  rintro _ w3 ⟨rfl, hb3⟩
  have hb1 := bnext hb1 hb3
  go_wp2_with fail
  refine (g4 _ hb1).out.mono ?_
  rintro _ w4 ⟨rfl, nn, rfl⟩
  have hb1 := below_drewN hb1 nn
  go_wp2_with fail
  refine (g1 _ hb1).out.mono ?_
  rintro _ w5 ⟨rfl, hb5⟩
  have hb1 := bnext hb1 hb5
  go_wp2_with fail
  refine (awake19 _).mono ?_
  rintro _ wz ⟨rfl, hbz⟩
  go_wp2_with fail
  go_ret
  exact ⟨rfl, bnext hb1 hbz⟩

set_option maxRecDepth 100000 in
set_option maxHeartbeats 1000000 in
theorem walk_11 (A0 A1 : Option Addr) (n0 c0 n1 c1 : Nat) (n k : Int) (kn : Nat) (w : World) (_hn0 : 0 ≤ n) (_hn1 : n < 256) (hk : n.tmod (((n0 : Nat) : Int) + 1) = k) (hkn : k = (kn : Int)) (hk1 : kn ≤ n0) (hc0 : n0 ≤ c0) (hm0 : c0 ≤ 4398046511104)
    (g1 : ∀ w', Below w.heap.size w w' → Hid (Calls Try.prog 19 #[.slice A0 n0 c0, .slice A1 n1 c1] w' fun e w2 => e = .returned (.bool true) ∧ Below w'.heap.size w' w2)) (g2 : ∀ w', Below w.heap.size w w' → Hid (Calls Try.prog 19 #[.slice A1 n1 c1, .slice A0 n0 c0] w' fun e w2 => e = .returned (.bool true) ∧ Below w'.heap.size w' w2)) (g3 : ∀ w', Below w.heap.size w w' → Hid (Calls Try.prog 19 #[.slice A0 n0 c0, .slice A0 kn c0] w' fun e w2 => e = .returned (.bool true) ∧ Below w'.heap.size w' w2))
    (g4 : ∀ w', Below w.heap.size w w' → Hid (Calls Try.prog 20 #[.slice A0 n0 c0, .slice A1 n1 c1] w' fun e w2 => e = .returned (.bool true) ∧ ∃ n, w2 = w'.drewN n)) (hle : decide (n1 ≤ n0) = true) (hle2 : n1 ≤ n0) :
    Calls Try.prog 4 #[.slice A0 n0 c0, .slice A1 n1 c1, .int .u8 n] w fun e w' => e = .returned (.bool true) ∧ Below w.heap.size w w' := by
  subst hkn
  go_enter Try.func4, Try.ntmps4
  go_wp2_with fail
  refine (g1 _ (Below.refl _ _)).out.mono ?_
  rintro _ w1 ⟨rfl, hb1⟩
  go_wp2_with fail
  refine (g2 _ hb1).out.mono ?_
  rintro _ w2 ⟨rfl, hb2⟩
  have hb1 := bnext hb1 hb2
  go_wp2_with fail
  refine (g3 _ hb1).out.mono ?_
  rintro _ w3 ⟨rfl, hb3⟩
  have hb1 := bnext hb1 hb3
  go_wp2_with fail
  refine (g4 _ hb1).out.mono ?_
  rintro _ w4 ⟨rfl, nn, rfl⟩
  have hb1 := below_drewN hb1 nn
  go_wp2_with fail
  refine (g1 _ hb1).out.mono ?_
  rintro _ w5 ⟨rfl, hb5⟩
  have hb1 := bnext hb1 hb5
  go_wp2_with fail
  refine (awake19 _).mono ?_
  rintro _ wz ⟨rfl, hbz⟩
  go_wp2_with fail
  go_ret
  exact ⟨rfl, bnext hb1 hbz⟩

theorem walk (A0 : Option Addr) (n0 c0 : Nat) (l0 : List Ent) (A1 : Option Addr) (n1 c1 : Nat) (l1 : List Ent) (n : Int) (w : World) (h0 : l0.length = n0 ∧ n0 ≤ c0 ∧ c0 ≤ maxLen ∧ ReadsE w w.heap.size A0 l0 ∧ ∀ e ∈ l0, e.In) (hs0 : c0 * 32 ≤ 140737488351232) (h1 : l1.length = n1 ∧ n1 ≤ c1 ∧ c1 ≤ maxLen ∧ ReadsE w w.heap.size A1 l1 ∧ ∀ e ∈ l1, e.In) (_hs1 : c1 * 32 ≤ 140737488351232) (hn : (Lit.int .u8 n).wf = true) :
    Calls Try.prog 4 #[.slice A0 n0 c0, .slice A1 n1 c1, .int .u8 n] w fun e w' => e = .returned (.bool true) ∧ Below w.heap.size w w' := by
  obtain ⟨rfl, hc0, hm0, hr0, hi0⟩ := h0
  obtain ⟨rfl, hc1, hm1, hr1, hi1⟩ := h1
  obtain ⟨hn0, hn1⟩ := bounds_u8 hn
  have e1 := Nat.le_trans hc0 hm0
  have e2 := Nat.le_trans hc1 hm1
  have hq : 0 ≤ n.tmod ((l0.length : Int) + 1) ∧ n.tmod ((l0.length : Int) + 1) < (l0.length : Int) + 1 := ⟨Int.tmod_nonneg _ hn0, Int.tmod_lt_of_pos _ (by omega)⟩
  obtain ⟨kn, hkn⟩ := Int.eq_ofNat_of_zero_le hq.1
  have hk1 : kn ≤ l0.length := by omega
  have g1 := fun w' (hb : Below w.heap.size w w') => Lib.hid (begins_any A0 A1 c0 c1 l0 l1 w' ((hr0.below hb).more hb.size) ((hr1.below hb).more hb.size) e1 e2)
  have g2 := fun w' (hb : Below w.heap.size w w') => Lib.hid (begins_any A1 A0 c1 c0 l1 l0 w' ((hr1.below hb).more hb.size) ((hr0.below hb).more hb.size) e2 e1)
  have hrt : ReadsE w w.heap.size A0 (l0.take kn) := by
    have := Reads.take hr0 (k := kn) hk1
    unfold ReadsE
    rw [List.length_take, Nat.min_eq_left hk1]
    rw [show (cellsE l0).take (kn * 4) = cellsE (l0.take kn) from by
      have h1 : cellsE l0 = cellsE (l0.take kn) ++ cellsE (l0.drop kn) := by rw [← cellsE_append, List.take_append_drop]
      rw [h1, List.take_append_of_le_length (by rw [cellsE_length, List.length_take, Nat.min_eq_left hk1]; exact Nat.le_refl _), List.take_of_length_le (by rw [cellsE_length, List.length_take, Nat.min_eq_left hk1]; exact Nat.le_refl _)]] at this
    exact this
  have hlt : (l0.take kn).length = kn := by rw [List.length_take, Nat.min_eq_left hk1]
  have g3 := fun w' (hb : Below w.heap.size w w') => Lib.hid (begins_any A0 A0 c0 c0 l0 (l0.take kn) w' ((hr0.below hb).more hb.size) ((hrt.below hb).more hb.size) e1 (by rw [hlt]; exact Nat.le_trans hk1 e1))
  rw [begins_take l0 kn hk1, hlt] at g3
  have g4 := fun w' (hb : Below w.heap.size w w') => Lib.hid (same_any A0 A1 c0 c1 l0 l1 w' w.heap.size w.heap.size (hr0.below hb) (hr1.below hb) e1 e2)
  rw [← begins_both] at g4
  have hle := fun h : begins l0 l1 = true => begins_len h
  cases hb1 : begins l0 l1 <;> cases hb2 : begins l1 l0 <;> rw [hb1] at g1 g4 hle <;> rw [hb2] at g2 g4
  · exact walk_00 A0 A1 _ c0 _ c1 n _ kn w hn0 (by omega) rfl hkn hk1 hc0 (by omega) g1 g2 g3 g4
  · exact walk_01 A0 A1 _ c0 _ c1 n _ kn w hn0 (by omega) rfl hkn hk1 hc0 (by omega) g1 g2 g3 g4
  · exact walk_10 A0 A1 _ c0 _ c1 n _ kn w hn0 (by omega) rfl hkn hk1 hc0 (by omega) g1 g2 g3 g4 (decide_eq_true (hle rfl)) (hle rfl)
  · exact walk_11 A0 A1 _ c0 _ c1 n _ kn w hn0 (by omega) rfl hkn hk1 hc0 (by omega) g1 g2 g3 g4 (decide_eq_true (hle rfl)) (hle rfl)

set_option maxRecDepth 100000 in
theorem lifted (os : Os) (started : os.Started) (H : Type) (enc : TypeId × Value → H) :
    ReturnsInHanded {} Try.checked os 4 .any (Rows.storeBeginsSpec.pre6 enc Try.prog Try.f4 Rows.storeBeginsRow.domain false) (Rows.storeBeginsSpec.post enc Try.prog Try.f4 false true false false) := by
  refine returnsInHanded_of_change_sized (C := Try.checked) own started (by kernel_rfl) Try.func4
    (ChangeSpec.witness6 (enc := enc) (C := Try.checked) false ⟨#[], #[.slice none 0 0, .slice none 0 0, .int .u8 0], []⟩ 8 (by kernel_rfl) (by kernel_rfl) (by kernel_rfl) (by kernel_rfl)) ?_
  intro W base args ds gs before hval0 hW hcnd hsz0 _
  have hsz : (DataW.weightsEach Try.prog (Try.f4.params.toList ++ Rows.storeBeginsSpec.plain.varTypes Try.prog) (ds ++ gs)).all (· ≤ reachBytes) = true := hsz0
  clear hsz0
  have hval : ∀ (j : Nat) t v, Try.f4.params[j]? = some t → args[j]? = some v → Value.okWide Try.prog W .any base t v := hval0
  have hW' := hW
  obtain ⟨p, q, hA0, hV, rfl, hfz, hnd⟩ := hW
  have hA : DataW.TrodAll enc Try.prog W 0 (fun _ => true) true Try.f4.params.toList args.toList ds p := hA0
  rw [Try.params4] at hA hval hsz
  obtain ⟨v0, vs0, d0, ds0, p0, q0, hargs, rfl, rfl, h0, r0⟩ := trodAll_cons hA
  obtain ⟨v1, vs1, d1, ds1, p1, q1, rfl, rfl, rfl, h1, r1⟩ := trodAll_cons r0
  obtain ⟨v2, vs2, d2, ds2, p2, q2, rfl, rfl, rfl, h2, r2⟩ := trodAll_cons r1
  obtain ⟨rfl, rfl, rfl⟩ := trodAll_nil r2
  obtain rfl : args = #[v0, v1, v2] := by cases args; simp_all
  obtain ⟨rfl, rfl⟩ := trodVars_none hV
  obtain ⟨a0, len0, cap0, rfl⟩ := okWide_slice Try.underlying25 (hval 0 25 v0 rfl rfl)
  have k0 := h0
  have lt0 : ∀ x ∈ p0, x.block < W.heap.size := by obtain ⟨m, hm⟩ := k0; exact DataW.trod_lt m _ _ _ hm
  obtain ⟨fuel0, hf0⟩ := h0
  have hg0 : DataW.trod enc Try.prog W 0 (fun _ => true) true fuel0 25 [.slice a0 len0 cap0] = some (d0, p0) := by simpa [Value.cells] using hf0
  obtain ⟨os0, w0⟩ := open_entries hg0
  have hcap0 : cap0 * 32 ≤ 140737488351232 := by
    have h1 := slice_reach (P := Try.prog) Try.underlying25 hg0 hsz (j := 0) rfl rfl
    rw [show Try.prog.bytesOf 33 = 32 from by kernel_rfl] at h1
    exact h1
  obtain ⟨a1, len1, cap1, rfl⟩ := okWide_slice Try.underlying25 (hval 1 25 v1 rfl rfl)
  have k1 := h1
  have lt1 : ∀ x ∈ p1, x.block < W.heap.size := by obtain ⟨m, hm⟩ := k1; exact DataW.trod_lt m _ _ _ hm
  obtain ⟨fuel1, hf1⟩ := h1
  have hg1 : DataW.trod enc Try.prog W 0 (fun _ => true) true fuel1 25 [.slice a1 len1 cap1] = some (d1, p1) := by simpa [Value.cells] using hf1
  obtain ⟨os1, w1⟩ := open_entries hg1
  have hcap1 : cap1 * 32 ≤ 140737488351232 := by
    have h1 := slice_reach (P := Try.prog) Try.underlying25 hg1 hsz (j := 1) rfl rfl
    rw [show Try.prog.bytesOf 33 = 32 from by kernel_rfl] at h1
    exact h1
  obtain ⟨x2, rfl, rfl, rfl, wx2⟩ := open_int Try.underlying5 (hval 2 5 v2 rfl rfl) h2
  clear hA0 hval0
  refine (walk a0 len0 cap0 os0 a1 len1 cap1 os1 x2 W w0 hcap0 w1 hcap1 wx2).mono fun e W' ⟨he, bel⟩ => ?_
  subst he
  exact ⟨_, rfl, _, _, _, [], _, [], hW', trodAll_mk1 (shut_bool Try.underlying4 _), (trodAll_cons_mk (Below.trod laidOut (by kernel_rfl) (of_decide_eq_true (by kernel_rfl)) k0 bel lt0) (trodAll_cons_mk (Below.trod laidOut (by kernel_rfl) (of_decide_eq_true (by kernel_rfl)) k1 bel lt1) (trodAll_cons_mk (shut_int Try.underlying5 wx2) trodAll_mk0))), rfl, bel.frame _, fun h => by cases h⟩

theorem closed : joinedFacts Try.prog 4 Try.f4 Rows.storeBeginsSpec Rows.storeBeginsRow = true := by
  have h1 := mayEnter_fact
  have h2 : (Rows.storeBeginsRow.lifted == Try.prog.liftsFinal) = true := by rw [lifts_fact]; rfl
  have h3 : (Try.prog.make == some Rows.storeBeginsRow.make) = true := by rw [make_fact]; rfl
  have hfin : ∀ b : Bool, b = true → b = true := fun _ h => h
  unfold joinedFacts
  rw [h1, h2, h3]
  clear h1 h2 h3
  refine hfin _ ?_
  kernel_rfl

theorem over : Rows.storeBeginsRow.holds Try.pinned (OpenSpec.ofChange Rows.storeBeginsSpec) :=
  OpenClaim.holds_of_wide 4 Try.f4 rfl rfl rfl rfl rfl rfl rfl ⟨rfl, rfl, rfl, rfl, rfl⟩ rfl rfl rfl rfl rfl (by kernel_rfl) Try.func4 closed
    (of_decide_eq_true (by kernel_rfl)) (by unfold Func.isWrapper; first | (rw [if_pos (by decide +kernel)]; kernel_rfl) | (rw [if_neg (by decide +kernel)]; exact ⟨rfl, rfl⟩))
    (fun os started H enc _ => lifted os started H enc)

/-- The statement. -/
theorem proved : Rows.StoreBeginsSaid := over
#print axioms proved

end Go.Proofs.Ytlehianbdamgmaa.StoreBeginsP
