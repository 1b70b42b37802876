/- RecordBack: entries and notes as bytes are read as themselves; with a byte more, or less, they are none. -/
import Derived.Test.YtlehianbdamgmaaReadP
import Derived.Test.YtlehianbdamgmaaBackN
import Derived.Test.YtlehianbdamgmaaSame18
import Derived.Test.YtlehianbdamgmaaOpenN
import Derived.Test.YtlehianbdamgmaaHead
import Derived.Test.YtlehianbdamgmaaOpenG
import Derived.Deep.RegionHeld3
import Derived.Lib.SmallJoins
import Derived.ProofKit
import Derived.OpenShut
import Derived.ShutString
import Derived.ChangeOld
import Derived.Laws.StructEq
namespace Go.Proofs.Ytlehianbdamgmaa.RecordBackP
open Go.ChangeShapes Go.WideShapes Go.ChangeAt Go.RowKit
open Go.ChangeMaps (open_string shut_string)
set_option linter.unusedVariables false

theorem own : ownKnob Try.prog.godebug = none := by kernel_rfl
theorem laidOut : laidOutB Try.prog = true := by kernel_rfl
theorem bnext {a b c : World} (h : Below a.heap.size a b) (k : Below b.heap.size b c) : Below a.heap.size a c := h.trans (k.mono h.size)

theorem dc_back {e : Ent} (hi : e.In) (ho : e.ok) (m : Int) : (dcC (encE e) = 0 ∧ dcE (encE e) = e) ∧ dcC (encE e ++ [m]) = 4 ∧ dcC ((encE e).take 13) = 3 := by
  have hl := encE_length e
  have hg : getE (encE e) = e := by have := getE_encE hi ho []; rwa [List.append_nil] at this
  have h0 : dcC (encE e) = 0 := by
    unfold dcC
    rw [if_neg (by omega), if_neg (by rw [hg, Ent.err_yes ho]; omega)]
  refine ⟨⟨h0, ?_⟩, ?_, ?_⟩
  · unfold dcE
    rw [if_pos h0, hg]
  · unfold dcC
    rw [if_neg (by simp; omega), if_pos (.inl (by simp; omega))]
  · unfold dcC
    rw [if_pos (by rw [List.length_take]; omega)]
theorem many_app {xs ys : List Int} (h : 13 ≤ xs.length) : manyN (xs ++ ys) = manyN xs := by
  unfold manyN
  rw [List.drop_append_of_le_length (by omega), List.take_append_of_le_length (by rw [List.length_drop]; omega)]
theorem rd_back {what view n : Int} {es : List Ent} (hi : InL es) (h : nErr what view n es = 0) (m : Int) :
    (rdC (noteB what view n es) = 0 ∧ rdWhat (noteB what view n es) = what ∧ rdView (noteB what view n es) = view ∧ rdNum (noteB what view n es) = n ∧ rdL (noteB what view n es) = es) ∧
    rdC (noteB what view n es ++ [m]) = 4 ∧ rdC ((noteB what view n es).take ((noteB what view n es).length - 1)) = 3 := by
  obtain ⟨k0, k1, k2, k3⟩ := heads_noteB h
  have hz := nErr_zero h
  have hl := noteB_length what view n es
  have hN : rdN (noteB what view n es) = es.length := by unfold rdN; rw [k3]; omega
  have hE : ents (noteB what view n es) es.length = es := ents_noteB hi hz.2.2.2.2
  have hg : rdGood (noteB what view n es) := by
    unfold rdGood rd0 rd1_ rd2_
    rw [k0, k1, k2, hN, hE]
    exact ⟨hl, h⟩
  have h0 : rdC (noteB what view n es) = 0 := rdC_good (by omega) (by rw [k3]; omega) (by rw [k3]; omega) hg
  obtain ⟨r0, r1, r2, r3⟩ := rd_good h0
  refine ⟨⟨h0, by rw [r0]; exact k0, by rw [r1]; exact k1, by rw [r2]; exact k2, by rw [r3, hN, hE]⟩, ?_, ?_⟩
  · have hm : manyN (noteB what view n es ++ [m]) = es.length := by rw [many_app (by omega), k3]
    refine rdC_no (by simp; omega) (by rw [hm]; omega) (by rw [hm]; simp; omega) ?_
    rintro ⟨hh, _⟩
    unfold rdN at hh
    rw [hm] at hh
    simp at hh
    omega
  · by_cases he : es.length = 0
    · exact rdC_short (by rw [List.length_take]; omega)
    · have hm : manyN ((noteB what view n es).take ((noteB what view n es).length - 1)) = es.length := by
        have := many_app (xs := (noteB what view n es).take ((noteB what view n es).length - 1)) (ys := (noteB what view n es).drop ((noteB what view n es).length - 1)) (by rw [List.length_take]; omega)
        rw [List.take_append_drop] at this
        rw [← this, k3]
      refine rdC_less (by rw [List.length_take]; omega) (by rw [hm]; omega) ?_
      rw [hm, List.length_take]
      omega

theorem noteB_bytes (what view n : Int) (es : List Ent) : Bytes (noteB what view n es) := by
  unfold noteB
  refine ((((beN_bytes _ _).append (beN_bytes _ _)).append (beN_bytes _ _)).append (beN_bytes _ _)).append ?_
  intro x hx
  obtain ⟨e, _, he⟩ := List.mem_flatMap.1 hx
  exact encE_bytes e x he
theorem Reads.take_b {w : World} {A : Option Addr} {xs : List Int} {n B : Nat} (h : ReadsB w B A xs) (hl : xs.length = n + 1) : ReadsB w B A (xs.take n) := by
  have := Reads.take h (k := n) (by omega)
  unfold ReadsB
  rw [List.length_take, Nat.min_eq_left (by omega)]
  have e : cellsOf .u8 (xs.take n) = (cellsOf .u8 xs).take (n * 1) := by simp [cellsOf, List.map_take]
  rw [e]
  exact this

set_option maxRecDepth 100000 in
set_option maxHeartbeats 4000000 in
theorem walk_11 (e : Ent) (v : Value) (what view n : Int) (A : Option Addr) (c : Nat) (es : List Ent) (more : Int) (w : World) (hi : e.In) (hv : NoteIn w v what view n A c es) (hw : (Lit.int .u8 more).wf = true) (h1 : e.ok) (h2 : nErr what view n es = 0) : Calls Try.prog 15 #[e.val, v, .int .u8 more] w fun e w' => e = .returned (.bool true) ∧ Below w.heap.size w w' := by
  obtain ⟨rfl, i1, i2, i3, hr, hin, hlc, hm⟩ := hv
  have hmb0 := bounds_u8 hw
  have gaw := fun w => Lib.hid (awake18 w)
  have hb0 : Below w.heap.size w (w.alloc (.cells #[.int .i64 e.view, .int .i64 e.what, .int .i64 e.a, .int .i64 e.n] 33)) := (Below.refl _ _).alloc (Nat.le_refl _) _
  have hW0 := hb0.alloc hb0.size (.cells #[.int .i64 what, .int .i64 view, .int .i64 n, .slice A es.length c] 64)
  have hN := Blk.new (w.alloc (.cells #[.int .i64 e.view, .int .i64 e.what, .int .i64 e.a, .int .i64 e.n] 33)) 64 #[.int .i64 what, .int .i64 view, .int .i64 n, .slice A es.length c]
  have hE := (Blk.new w 33 #[.int .i64 e.view, .int .i64 e.what, .int .i64 e.a, .int .i64 e.n]).alloc (.cells #[.int .i64 what, .int .i64 view, .int .i64 n, .slice A es.length c] 64)
  simp only [World.size_alloc] at hN
  have genc := fun w' => Lib.hid (encode_any e w' hi)
  have gnote := fun w' (hb : Below w.heap.size w w') => Lib.hid (note_any what view n A c es w' (Reads.more (ReadsE.below hr hb) hb.size) hin i2 i3 (by omega))
  have hxl := Lib.hid (encE_length e)
  obtain ⟨⟨q0, q1⟩, q2, q3⟩ := dc_back hi h1 more
  have hbx := encE_bytes e
  have hbm : Bytes [more] := fun x hx => by rw [List.mem_singleton.1 hx]; exact ⟨by have := hmb0.1; omega, by have := hmb0.2; omega⟩
  have gd0 : ∀ A c w', ReadsB w' w'.heap.size A (encE e) → 14 ≤ c → c ≤ maxLen → Hid (Calls Try.prog 47 #[.slice A 14 c] w' fun x w'' => x = .returned (.tuple #[e.val, .int .i64 0]) ∧ Below w'.heap.size w' w'') := fun A c w' hr hc hm => by
    have := rdc_any A c (encE e) w' hbx hr (by rw [hxl.out]; exact hc) hm (by rw [hxl.out]; decide)
    rw [q0, q1, hxl.out] at this
    exact Lib.hid this
  have gd1 : ∀ A c w', ReadsB w' w'.heap.size A (encE e ++ [more]) → 15 ≤ c → c ≤ maxLen → Hid (Calls Try.prog 47 #[.slice A (15) c] w' fun x w'' => x = .returned (.tuple #[.agg #[.int .i64 0, .int .i64 0, .int .i64 0, .int .i64 0], .int .i64 4]) ∧ Below w'.heap.size w' w'') := fun A c w' hr hc hm => by
    have hl : (encE e ++ [more]).length = 15 := by rw [List.length_append, hxl.out]; rfl
    have := rdc_any A c (encE e ++ [more]) w' (hbx.append hbm) hr (by rw [hl]; exact hc) hm (by rw [hl]; decide)
    rw [q2, hl, show dcE (encE e ++ [more]) = ⟨0, 0, 0, 0⟩ from if_neg (by rw [q2]; decide)] at this
    exact Lib.hid this
  have gd2 : ∀ A c w', ReadsB w' w'.heap.size A ((encE e).take 13) → 13 ≤ c → c ≤ maxLen → Hid (Calls Try.prog 47 #[.slice A 13 c] w' fun x w'' => x = .returned (.tuple #[.agg #[.int .i64 0, .int .i64 0, .int .i64 0, .int .i64 0], .int .i64 3]) ∧ Below w'.heap.size w' w'') := fun A c w' hr hc hm => by
    have hl : ((encE e).take 13).length = 13 := by rw [List.length_take, hxl.out]; rfl
    have := rdc_any A c ((encE e).take 13) w' (hbx.take _) hr (by rw [hl]; exact hc) hm (by rw [hl]; decide)
    rw [q3, hl, show dcE ((encE e).take 13) = ⟨0, 0, 0, 0⟩ from if_neg (by rw [q3]; decide)] at this
    exact Lib.hid this
  unfold EPost at genc
  rw [Ent.err_yes h1, show encO e = encE e from if_pos h1, hxl.out] at genc
  generalize encE e = xa at *
  clear q0 q1 q2 q3 hbx hbm
  have hyl0 := noteB_length what view n es
  have hz0 := nErr_zero h2
  obtain ⟨M, hM⟩ : ∃ M, M = 12 + 14 * es.length := ⟨_, rfl⟩
  have hyl := Lib.hid (show (noteB what view n es).length = M + 1 by omega)
  have hMb : M ≤ 57356 := by omega
  obtain ⟨⟨p0, p1, p2, p3, p4⟩, p5, p6⟩ := rd_back hin h2 more
  have hby : Bytes (noteB what view n es) := noteB_bytes what view n es
  have hbm2 : Bytes [more] := fun x hx => by rw [List.mem_singleton.1 hx]; exact ⟨by have := hmb0.1; omega, by have := hmb0.2; omega⟩
  have gr0 : ∀ A c w', ReadsB w' w'.heap.size A (noteB what view n es) → M + 1 ≤ c → c ≤ maxLen → Hid (Calls Try.prog 44 #[.slice A (M + 1) c] w' (RdPost w' what view n es 0)) := fun A c w' hr hc hm => by
    have := read_any A c (noteB what view n es) w' hby hr (by rw [hyl.out]; exact hc) hm (by rw [hyl.out]; omega)
    unfold RdAll at this
    rw [p0, p1, p2, p3, p4, hyl.out] at this
    exact Lib.hid this
  have gr1 : ∀ A c w', ReadsB w' w'.heap.size A (noteB what view n es ++ [more]) → M + 2 ≤ c → c ≤ maxLen → Hid (Calls Try.prog 44 #[.slice A (M + 2) c] w' fun e w'' => Below w'.heap.size w' w'' ∧ ∃ A c, e = .returned (.tuple #[.agg #[.int .i64 0, .int .i64 0, .int .i64 0, .slice A 0 c], .int .i64 4]) ∧ True) := fun A c w' hr hc hm => by
    have hl : (noteB what view n es ++ [more]).length = M + 2 := by rw [List.length_append, hyl.out]; rfl
    obtain ⟨z0, z1, z2, z3⟩ := rd_bad (xs := noteB what view n es ++ [more]) (by rw [p5]; decide)
    have := read_any A c (noteB what view n es ++ [more]) w' (hby.append hbm2) hr (by rw [hl]; exact hc) hm (by rw [hl]; omega)
    unfold RdAll at this
    rw [z0, z1, z2, z3, p5, hl] at this
    exact Lib.hid (this.mono fun e w'' ⟨h1, A, c, h2, _⟩ => ⟨h1, A, c, h2, trivial⟩)
  have gr2 : ∀ A c w', ReadsB w' w'.heap.size A ((noteB what view n es).take M) → M ≤ c → c ≤ maxLen → Hid (Calls Try.prog 44 #[.slice A M c] w' fun e w'' => Below w'.heap.size w' w'' ∧ ∃ A c, e = .returned (.tuple #[.agg #[.int .i64 0, .int .i64 0, .int .i64 0, .slice A 0 c], .int .i64 3]) ∧ True) := fun A c w' hr hc hm => by
    rw [hyl.out, Nat.add_sub_cancel] at p6
    have hl : ((noteB what view n es).take M).length = M := by rw [List.length_take, hyl.out]; omega
    obtain ⟨z0, z1, z2, z3⟩ := rd_bad (xs := (noteB what view n es).take M) (by rw [p6]; decide)
    have := read_any A c ((noteB what view n es).take M) w' (hby.take _) hr (by rw [hl]; exact hc) hm (by rw [hl]; omega)
    unfold RdAll at this
    rw [z0, z1, z2, z3, p6, hl] at this
    exact Lib.hid (this.mono fun e w'' ⟨h1, A, c, h2, _⟩ => ⟨h1, A, c, h2, trivial⟩)
  have gsame := fun A1 A2 c1 c2 w h1 h2 hl => Lib.hid (same18_any what view n A1 A2 c1 c2 es w h1 h2 hl)
  unfold RdPost at gr0
  unfold NPost at gnote
  rw [h2, show noteO what view n es = noteB what view n es from if_pos h2, hyl.out] at gnote
  generalize noteB what view n es = bs at *
  clear p0 p1 p2 p3 p4 p5 p6 hby hbm2 hyl0 hz0 hM
  unfold Ent.val at *
  go_enter Try.func15, Try.ntmps15
  go_wp2_with fail
  refine (genc _).out.mono ?_
  rintro _ w1 ⟨A0, c0, rfl, hra, hla, hma, hba⟩
  have hU1 := bnext hW0 hba
  have hN1 := hN.below hba hN.lt
  have hE1 := hE.below hba hE.lt
  clear hba hN hE hb0
  clear hW0
  obtain ⟨a0, rfl, _, _⟩ := hra.at_ (k := 0) (by rw [hxl.out]; decide)
  go_wp2_with fail
  refine (gd0 (some a0) c0 _ hra hla hma).out.mono ?_
  rintro _ w2 ⟨rfl, hb2⟩
  have hX := Blk.new w2 33 #[.int .i64 e.view, .int .i64 e.what, .int .i64 e.a, .int .i64 e.n]
  have hT2 := hb2.alloc hb2.size (.cells #[.int .i64 e.view, .int .i64 e.what, .int .i64 e.a, .int .i64 e.n] 33)
  have hr2 := Reads.more (Reads.below hra hT2) hT2.size
  have hU2 := hU1.trans (hT2.mono hU1.size)
  have hN2 := hN1.below hT2 hN1.lt
  have hE2 := hE1.below hT2 hE1.lt
  have hs2 := hb2.size
  clear hra hU1 hN1 hE1 hT2 hb2
  have hown0 : OwnB ((w2.alloc (.cells #[.int .i64 e.view, .int .i64 e.what, .int .i64 e.a, .int .i64 e.n] 33)).alloc (.cells #[] 5)) (w2.heap.size + 1) (.slice (some ⟨w2.heap.size + 1, 0, none⟩) 0 0) [] := by
    have h := OwnB.lit (w := (w2.alloc (.cells #[.int .i64 e.view, .int .i64 e.what, .int .i64 e.a, .int .i64 e.n] 33))) (base := w2.heap.size + 1) (C := #[]) (xs := []) rfl (by simp) (by unfold maxLen; simp)
    simpa using h
  have hr0 : ReadsB ((w2.alloc (.cells #[.int .i64 e.view, .int .i64 e.what, .int .i64 e.a, .int .i64 e.n] 33)).alloc (.cells #[] 5)) (w2.heap.size + 1) (some a0) xa := by
    have h : ReadsB ((w2.alloc (.cells #[.int .i64 e.view, .int .i64 e.what, .int .i64 e.a, .int .i64 e.n] 33)).alloc (.cells #[] 5)) (w2.alloc (.cells #[.int .i64 e.view, .int .i64 e.what, .int .i64 e.a, .int .i64 e.n] 33)).heap.size (some a0) xa := Reads.alloc (hr2 : Reads _ _ _ _ _ _) (Nat.le_refl _) (.cells #[] 5)
    simpa using h
  replace hown0 := Lib.hid hown0
  replace hr0 := Lib.hid hr0
  go_wp2_with (first
    | (at_builtin
       refine wpList_appB _ rfl (.tmp 42) (.tmp 43) rfl (w2.heap.size + 1) (.slice (some ⟨w2.heap.size + 1, 0, none⟩) 0 0) [] rfl hown0.out (w2.heap.size + 1) (some a0) (14) c0 xa rfl hr0.out hxl.out.symm
         xa (14) rfl hxl.out (by omega) (by simp) ?_
       intro A7 c7 w7 hown7 _ hb7 _
       have hs7 := hb7.size
       have hR7 := Lib.hid (ReadsB.new w7 [more] #[.int .u8 more] 5 (0, 0) rfl))
    | (at_builtin
       refine wpList_appB _ rfl (.tmp 44) (.tmp 46) rfl (w2.heap.size + 1) (.slice A7 (14) c7) xa rfl (hown7.alloc _) (w7.alloc (.cells #[.int .u8 more] 5)).heap.size (some ⟨w7.heap.size, 0, none⟩) 1 1 [more] rfl hR7.out rfl
         (xa ++ [more]) (15) rfl (by have := hxl.out; simp; omega) (by omega) (by simp at hs7 ⊢; omega) ?_
       intro A8 c8 w8 hown8 _ hb8 _))
  have ho8 := hown8.cap
  have hl8 : (xa ++ [more]).length = 15 := by have := hxl.out; simp; omega
  rw [hl8] at ho8
  have hbW : Below (w2.heap.size + 1) (w2.alloc (.cells #[.int .i64 e.view, .int .i64 e.what, .int .i64 e.a, .int .i64 e.n] 33)) ((w2.alloc (.cells #[.int .i64 e.view, .int .i64 e.what, .int .i64 e.a, .int .i64 e.n] 33)).alloc (.cells #[] 5)) := (Below.refl _ _).alloc (by simp) _
  have hq8 : Below (w2.heap.size + 1) (w2.alloc (.cells #[.int .i64 e.view, .int .i64 e.what, .int .i64 e.a, .int .i64 e.n] 33)) w8 := ((hbW.trans hb7).alloc (by simp at hs7; omega) (.cells #[.int .u8 more] 5)).trans hb8
  have hr8 : ReadsB w8 w8.heap.size A8 (xa ++ [more]) := hown8.reads
  clear hown7 hown8 hb7 hb8 hR7 hs7 hl8 hown0 hr0 hbW
  refine (gd1 A8 c8 _ hr8 ho8.1 ho8.2).out.mono ?_
  rintro _ w3 ⟨rfl, hb3⟩
  have hz2 : (w2.alloc (.cells #[.int .i64 e.view, .int .i64 e.what, .int .i64 e.a, .int .i64 e.n] 33)).heap.size = w2.heap.size + 1 := by simp
  rw [← hz2] at hq8
  have hT3 := (hq8.trans (hb3.mono hq8.size)).alloc (Nat.le_trans hq8.size hb3.size) (.cells #[.int .i64 0, .int .i64 0, .int .i64 0, .int .i64 0] 33)
  clear hz2
  have hX3 := hX.below hT3 hX.lt
  have hr3 := Reads.more (Reads.below hr2 hT3) hT3.size
  have hU3 := hU2.trans (hT3.mono hU2.size)
  have hN3 := hN2.below hT3 hN2.lt
  have hE3 := hE2.below hT3 hE2.lt
  clear hr2 hU2 hN2 hE2 hT3 hb3 hq8 hr8 ho8 hX
  go_wp2_with fail
  generalize w3.alloc (.cells #[.int .i64 0, .int .i64 0, .int .i64 0, .int .i64 0] 33) = u3 at *
  have hr13 : ReadsB u3 u3.heap.size (some a0) (xa.take 13) := Reads.take_b hr3 hxl.out
  refine (gd2 (some a0) c0 _ hr13 (by omega) hma).out.mono ?_
  rintro _ w4 ⟨rfl, hb4⟩
  have hT4 := hb4.alloc hb4.size (.cells #[.int .i64 0, .int .i64 0, .int .i64 0, .int .i64 0] 33)
  have hX4 := hX3.below hT4 hX3.lt
  have hU4 := hU3.trans (hT4.mono hU3.size)
  have hN4 := hN3.below hT4 hN3.lt
  have hE4 := hE3.below hT4 hE3.lt
  clear hr3 hr13 hU3 hN3 hE3 hT4 hb4 hX3
  have x0 : (w4.alloc (.cells #[.int .i64 0, .int .i64 0, .int .i64 0, .int .i64 0] 33)).cell? ⟨w2.heap.size, 0, none⟩ = some (.int .i64 e.view) := hX4.cell 0
  have x1 : (w4.alloc (.cells #[.int .i64 0, .int .i64 0, .int .i64 0, .int .i64 0] 33)).cell? ⟨w2.heap.size, 1, none⟩ = some (.int .i64 e.what) := hX4.cell 1
  have x2 : (w4.alloc (.cells #[.int .i64 0, .int .i64 0, .int .i64 0, .int .i64 0] 33)).cell? ⟨w2.heap.size, 2, none⟩ = some (.int .i64 e.a) := hX4.cell 2
  have x3 : (w4.alloc (.cells #[.int .i64 0, .int .i64 0, .int .i64 0, .int .i64 0] 33)).cell? ⟨w2.heap.size, 3, none⟩ = some (.int .i64 e.n) := hX4.cell 3
  have y0 : (w4.alloc (.cells #[.int .i64 0, .int .i64 0, .int .i64 0, .int .i64 0] 33)).cell? ⟨w.heap.size, 0, none⟩ = some (.int .i64 e.view) := hE4.cell 0
  have y1 : (w4.alloc (.cells #[.int .i64 0, .int .i64 0, .int .i64 0, .int .i64 0] 33)).cell? ⟨w.heap.size, 1, none⟩ = some (.int .i64 e.what) := hE4.cell 1
  have y2 : (w4.alloc (.cells #[.int .i64 0, .int .i64 0, .int .i64 0, .int .i64 0] 33)).cell? ⟨w.heap.size, 2, none⟩ = some (.int .i64 e.a) := hE4.cell 2
  have y3 : (w4.alloc (.cells #[.int .i64 0, .int .i64 0, .int .i64 0, .int .i64 0] 33)).cell? ⟨w.heap.size, 3, none⟩ = some (.int .i64 e.n) := hE4.cell 3
  have d0 : (w4.alloc (.cells #[.int .i64 0, .int .i64 0, .int .i64 0, .int .i64 0] 33)).cell? ⟨w.heap.size + 1, 0, none⟩ = some (.int .i64 what) := hN4.cell 0
  have d1 : (w4.alloc (.cells #[.int .i64 0, .int .i64 0, .int .i64 0, .int .i64 0] 33)).cell? ⟨w.heap.size + 1, 1, none⟩ = some (.int .i64 view) := hN4.cell 1
  have d2 : (w4.alloc (.cells #[.int .i64 0, .int .i64 0, .int .i64 0, .int .i64 0] 33)).cell? ⟨w.heap.size + 1, 2, none⟩ = some (.int .i64 n) := hN4.cell 2
  have d3 : (w4.alloc (.cells #[.int .i64 0, .int .i64 0, .int .i64 0, .int .i64 0] 33)).cell? ⟨w.heap.size + 1, 3, none⟩ = some (.slice A es.length c) := hN4.cell 3
  go_wp2_with fail
  clear x0 x1 x2 x3 y0 y1 y2 y3 hX4 hE4
  generalize w4.alloc (.cells #[.int .i64 0, .int .i64 0, .int .i64 0, .int .i64 0] 33) = u4 at *
  refine (gnote _ hU4).out.mono ?_
  rintro _ v1 ⟨A1, c1, rfl, hrb, hlb, hmb, hbb⟩
  have hV1 := hU4.trans (hbb.mono hU4.size)
  have hN1 := hN4.below hbb hN4.lt
  clear d0 d1 d2 d3
  obtain ⟨a1, rfl, _, _⟩ := hrb.at_ (k := 0) (by have := hyl.out; omega)
  go_wp2_with fail
  refine (gr0 (some a1) c1 _ hrb hlb hmb).out.mono ?_
  rintro _ v2 ⟨hb2, A2, c2, rfl, hr2, hl2, hm2⟩
  have hY := Blk.new v2 64 #[.int .i64 what, .int .i64 view, .int .i64 n, .slice A2 es.length c2]
  have hT2 := hb2.alloc hb2.size (.cells #[.int .i64 what, .int .i64 view, .int .i64 n, .slice A2 es.length c2] 64)
  have hrb2 := Reads.more (Reads.below hrb hT2) hT2.size
  have hrY := Reads.more (Reads.alloc hr2 (Nat.le_refl _) (.cells #[.int .i64 what, .int .i64 view, .int .i64 n, .slice A2 es.length c2] 64)) (B' := (v2.alloc (.cells #[.int .i64 what, .int .i64 view, .int .i64 n, .slice A2 es.length c2] 64)).heap.size) (by simp)
  have hV2 := hV1.trans (hT2.mono hV1.size)
  have hN2 := hN1.below hT2 hN1.lt
  clear hrb hV1 hN1 hT2 hb2 hr2
  have hown0 : OwnB ((v2.alloc (.cells #[.int .i64 what, .int .i64 view, .int .i64 n, .slice A2 es.length c2] 64)).alloc (.cells #[] 5)) (v2.heap.size + 1) (.slice (some ⟨v2.heap.size + 1, 0, none⟩) 0 0) [] := by
    have h := OwnB.lit (w := (v2.alloc (.cells #[.int .i64 what, .int .i64 view, .int .i64 n, .slice A2 es.length c2] 64))) (base := v2.heap.size + 1) (C := #[]) (xs := []) rfl (by simp) (by unfold maxLen; simp)
    simpa using h
  have hr0 : ReadsB ((v2.alloc (.cells #[.int .i64 what, .int .i64 view, .int .i64 n, .slice A2 es.length c2] 64)).alloc (.cells #[] 5)) (v2.heap.size + 1) (some a1) bs := by
    have h : ReadsB ((v2.alloc (.cells #[.int .i64 what, .int .i64 view, .int .i64 n, .slice A2 es.length c2] 64)).alloc (.cells #[] 5)) (v2.alloc (.cells #[.int .i64 what, .int .i64 view, .int .i64 n, .slice A2 es.length c2] 64)).heap.size (some a1) bs := Reads.alloc hrb2 (Nat.le_refl _) (.cells #[] 5)
    simpa using h
  replace hown0 := Lib.hid hown0
  replace hr0 := Lib.hid hr0
  go_wp2_with (first
    | (at_builtin
       refine wpList_appB _ rfl (.tmp 95) (.tmp 96) rfl (v2.heap.size + 1) (.slice (some ⟨v2.heap.size + 1, 0, none⟩) 0 0) [] rfl hown0.out (v2.heap.size + 1) (some a1) (M + 1) c1 bs rfl hr0.out hyl.out.symm
         bs (M + 1) rfl hyl.out (by omega) (by simp) ?_
       intro A7 c7 w7 hown7 _ hb7 _
       have hs7 := hb7.size
       have hR7 := Lib.hid (ReadsB.new w7 [more] #[.int .u8 more] 5 (0, 0) rfl))
    | (at_builtin
       refine wpList_appB _ rfl (.tmp 97) (.tmp 99) rfl (v2.heap.size + 1) (.slice A7 (M + 1) c7) bs rfl (hown7.alloc _) (w7.alloc (.cells #[.int .u8 more] 5)).heap.size (some ⟨w7.heap.size, 0, none⟩) 1 1 [more] rfl hR7.out rfl
         (bs ++ [more]) (M + 2) rfl (by have := hyl.out; simp; omega) (by omega) (by simp at hs7 ⊢; omega) ?_
       intro A8 c8 w8 hown8 _ hb8 _))
  have ho8 := hown8.cap
  have hl8 : (bs ++ [more]).length = M + 2 := by have := hyl.out; simp; omega
  rw [hl8] at ho8
  have hbW : Below (v2.heap.size + 1) (v2.alloc (.cells #[.int .i64 what, .int .i64 view, .int .i64 n, .slice A2 es.length c2] 64)) ((v2.alloc (.cells #[.int .i64 what, .int .i64 view, .int .i64 n, .slice A2 es.length c2] 64)).alloc (.cells #[] 5)) := (Below.refl _ _).alloc (by simp) _
  have hq8 : Below (v2.heap.size + 1) (v2.alloc (.cells #[.int .i64 what, .int .i64 view, .int .i64 n, .slice A2 es.length c2] 64)) w8 := ((hbW.trans hb7).alloc (by simp at hs7; omega) (.cells #[.int .u8 more] 5)).trans hb8
  have hr8 : ReadsB w8 w8.heap.size A8 (bs ++ [more]) := hown8.reads
  clear hown7 hown8 hb7 hb8 hR7 hs7 hl8 hown0 hr0 hbW
  refine (gr1 A8 c8 _ hr8 ho8.1 ho8.2).out.mono ?_
  rintro _ v3 ⟨hb3, A3, c3, rfl, _⟩
  have hz2 : (v2.alloc (.cells #[.int .i64 what, .int .i64 view, .int .i64 n, .slice A2 es.length c2] 64)).heap.size = v2.heap.size + 1 := by simp
  rw [← hz2] at hq8
  have hT3 := (hq8.trans (hb3.mono hq8.size)).alloc (Nat.le_trans hq8.size hb3.size) (.cells #[.int .i64 0, .int .i64 0, .int .i64 0, .slice A3 0 c3] 64)
  clear hz2
  have hY3 := hY.below hT3 hY.lt
  have hrb3 := Reads.more (Reads.below hrb2 hT3) hT3.size
  have hrY3 := Reads.more (Reads.below hrY hT3) hT3.size
  have hV3 := hV2.trans (hT3.mono hV2.size)
  have hN3 := hN2.below hT3 hN2.lt
  clear hrb2 hrY hV2 hN2 hT3 hb3 hq8 hr8 ho8 hY
  go_wp2_with fail
  generalize v3.alloc (.cells #[.int .i64 0, .int .i64 0, .int .i64 0, .slice A3 0 c3] 64) = u3 at *
  have hrm : ReadsB u3 u3.heap.size (some a1) (bs.take M) := Reads.take_b hrb3 hyl.out
  refine (gr2 (some a1) c1 _ hrm (by omega) hmb).out.mono ?_
  rintro _ v4 ⟨hb4, A4, c4, rfl, _⟩
  have hT4 := hb4.alloc hb4.size (.cells #[.int .i64 0, .int .i64 0, .int .i64 0, .slice A4 0 c4] 64)
  have hY4 := hY3.below hT4 hY3.lt
  have hrY4 := Reads.more (Reads.below hrY3 hT4) hT4.size
  have hV4 := hV3.trans (hT4.mono hV3.size)
  have hN4 := hN3.below hT4 hN3.lt
  have hrN4 := Reads.more (Reads.below hr hV4) hV4.size
  have y0 : (v4.alloc (.cells #[.int .i64 0, .int .i64 0, .int .i64 0, .slice A4 0 c4] 64)).cell? ⟨v2.heap.size, 0, none⟩ = some (.int .i64 what) := hY4.cell 0
  have y1 : (v4.alloc (.cells #[.int .i64 0, .int .i64 0, .int .i64 0, .slice A4 0 c4] 64)).cell? ⟨v2.heap.size, 1, none⟩ = some (.int .i64 view) := hY4.cell 1
  have y2 : (v4.alloc (.cells #[.int .i64 0, .int .i64 0, .int .i64 0, .slice A4 0 c4] 64)).cell? ⟨v2.heap.size, 2, none⟩ = some (.int .i64 n) := hY4.cell 2
  have y3 : (v4.alloc (.cells #[.int .i64 0, .int .i64 0, .int .i64 0, .slice A4 0 c4] 64)).cell? ⟨v2.heap.size, 3, none⟩ = some (.slice A2 es.length c2) := hY4.cell 3
  have d0 : (v4.alloc (.cells #[.int .i64 0, .int .i64 0, .int .i64 0, .slice A4 0 c4] 64)).cell? ⟨w.heap.size + 1, 0, none⟩ = some (.int .i64 what) := hN4.cell 0
  have d1 : (v4.alloc (.cells #[.int .i64 0, .int .i64 0, .int .i64 0, .slice A4 0 c4] 64)).cell? ⟨w.heap.size + 1, 1, none⟩ = some (.int .i64 view) := hN4.cell 1
  have d2 : (v4.alloc (.cells #[.int .i64 0, .int .i64 0, .int .i64 0, .slice A4 0 c4] 64)).cell? ⟨w.heap.size + 1, 2, none⟩ = some (.int .i64 n) := hN4.cell 2
  have d3 : (v4.alloc (.cells #[.int .i64 0, .int .i64 0, .int .i64 0, .slice A4 0 c4] 64)).cell? ⟨w.heap.size + 1, 3, none⟩ = some (.slice A es.length c) := hN4.cell 3
  clear hrb3 hrm hrY3 hV3 hN3 hT4 hb4 hY3
  go_wp2_with fail
  refine (gsame A2 A c2 c _ hrY4 hrN4 (by omega)).out.mono ?_
  rintro _ v5 ⟨rfl, hb5⟩
  go_wp2_with fail
  go_ret
  exact ⟨rfl, hV4.trans (hb5.mono hV4.size)⟩

set_option maxRecDepth 100000 in
set_option maxHeartbeats 4000000 in
theorem walk_10 (e : Ent) (v : Value) (what view n : Int) (A : Option Addr) (c : Nat) (es : List Ent) (more : Int) (w : World) (hi : e.In) (hv : NoteIn w v what view n A c es) (hw : (Lit.int .u8 more).wf = true) (h1 : e.ok) (h2 : ¬ nErr what view n es = 0) : Calls Try.prog 15 #[e.val, v, .int .u8 more] w fun e w' => e = .returned (.bool true) ∧ Below w.heap.size w w' := by
  obtain ⟨rfl, i1, i2, i3, hr, hin, hlc, hm⟩ := hv
  have hmb0 := bounds_u8 hw
  have gaw := fun w => Lib.hid (awake18 w)
  have hb0 : Below w.heap.size w (w.alloc (.cells #[.int .i64 e.view, .int .i64 e.what, .int .i64 e.a, .int .i64 e.n] 33)) := (Below.refl _ _).alloc (Nat.le_refl _) _
  have hW0 := hb0.alloc hb0.size (.cells #[.int .i64 what, .int .i64 view, .int .i64 n, .slice A es.length c] 64)
  have hN := Blk.new (w.alloc (.cells #[.int .i64 e.view, .int .i64 e.what, .int .i64 e.a, .int .i64 e.n] 33)) 64 #[.int .i64 what, .int .i64 view, .int .i64 n, .slice A es.length c]
  have hE := (Blk.new w 33 #[.int .i64 e.view, .int .i64 e.what, .int .i64 e.a, .int .i64 e.n]).alloc (.cells #[.int .i64 what, .int .i64 view, .int .i64 n, .slice A es.length c] 64)
  simp only [World.size_alloc] at hN
  have genc := fun w' => Lib.hid (encode_any e w' hi)
  have gnote := fun w' (hb : Below w.heap.size w w') => Lib.hid (note_any what view n A c es w' (Reads.more (ReadsE.below hr hb) hb.size) hin i2 i3 (by omega))
  have hxl := Lib.hid (encE_length e)
  obtain ⟨⟨q0, q1⟩, q2, q3⟩ := dc_back hi h1 more
  have hbx := encE_bytes e
  have hbm : Bytes [more] := fun x hx => by rw [List.mem_singleton.1 hx]; exact ⟨by have := hmb0.1; omega, by have := hmb0.2; omega⟩
  have gd0 : ∀ A c w', ReadsB w' w'.heap.size A (encE e) → 14 ≤ c → c ≤ maxLen → Hid (Calls Try.prog 47 #[.slice A 14 c] w' fun x w'' => x = .returned (.tuple #[e.val, .int .i64 0]) ∧ Below w'.heap.size w' w'') := fun A c w' hr hc hm => by
    have := rdc_any A c (encE e) w' hbx hr (by rw [hxl.out]; exact hc) hm (by rw [hxl.out]; decide)
    rw [q0, q1, hxl.out] at this
    exact Lib.hid this
  have gd1 : ∀ A c w', ReadsB w' w'.heap.size A (encE e ++ [more]) → 15 ≤ c → c ≤ maxLen → Hid (Calls Try.prog 47 #[.slice A (15) c] w' fun x w'' => x = .returned (.tuple #[.agg #[.int .i64 0, .int .i64 0, .int .i64 0, .int .i64 0], .int .i64 4]) ∧ Below w'.heap.size w' w'') := fun A c w' hr hc hm => by
    have hl : (encE e ++ [more]).length = 15 := by rw [List.length_append, hxl.out]; rfl
    have := rdc_any A c (encE e ++ [more]) w' (hbx.append hbm) hr (by rw [hl]; exact hc) hm (by rw [hl]; decide)
    rw [q2, hl, show dcE (encE e ++ [more]) = ⟨0, 0, 0, 0⟩ from if_neg (by rw [q2]; decide)] at this
    exact Lib.hid this
  have gd2 : ∀ A c w', ReadsB w' w'.heap.size A ((encE e).take 13) → 13 ≤ c → c ≤ maxLen → Hid (Calls Try.prog 47 #[.slice A 13 c] w' fun x w'' => x = .returned (.tuple #[.agg #[.int .i64 0, .int .i64 0, .int .i64 0, .int .i64 0], .int .i64 3]) ∧ Below w'.heap.size w' w'') := fun A c w' hr hc hm => by
    have hl : ((encE e).take 13).length = 13 := by rw [List.length_take, hxl.out]; rfl
    have := rdc_any A c ((encE e).take 13) w' (hbx.take _) hr (by rw [hl]; exact hc) hm (by rw [hl]; decide)
    rw [q3, hl, show dcE ((encE e).take 13) = ⟨0, 0, 0, 0⟩ from if_neg (by rw [q3]; decide)] at this
    exact Lib.hid this
  unfold EPost at genc
  rw [Ent.err_yes h1, show encO e = encE e from if_pos h1, hxl.out] at genc
  generalize encE e = xa at *
  clear q0 q1 q2 q3 hbx hbm
  unfold NPost at gnote
  rw [show noteO what view n es = [] from if_neg h2] at gnote
  generalize nErr what view n es = code at *
  have c1 : (code == 0) = false := by simpa using h2
  have c2 : (code != 0) = true := by simpa using h2
  unfold Ent.val at *
  replace h2 := Lib.hid h2
  go_enter Try.func15, Try.ntmps15
  go_wp2_with fail
  refine (genc _).out.mono ?_
  rintro _ w1 ⟨A0, c0, rfl, hra, hla, hma, hba⟩
  have hU1 := bnext hW0 hba
  have hN1 := hN.below hba hN.lt
  have hE1 := hE.below hba hE.lt
  clear hba hN hE hb0
  clear hW0
  obtain ⟨a0, rfl, _, _⟩ := hra.at_ (k := 0) (by rw [hxl.out]; decide)
  go_wp2_with fail
  refine (gd0 (some a0) c0 _ hra hla hma).out.mono ?_
  rintro _ w2 ⟨rfl, hb2⟩
  have hX := Blk.new w2 33 #[.int .i64 e.view, .int .i64 e.what, .int .i64 e.a, .int .i64 e.n]
  have hT2 := hb2.alloc hb2.size (.cells #[.int .i64 e.view, .int .i64 e.what, .int .i64 e.a, .int .i64 e.n] 33)
  have hr2 := Reads.more (Reads.below hra hT2) hT2.size
  have hU2 := hU1.trans (hT2.mono hU1.size)
  have hN2 := hN1.below hT2 hN1.lt
  have hE2 := hE1.below hT2 hE1.lt
  have hs2 := hb2.size
  clear hra hU1 hN1 hE1 hT2 hb2
  have hown0 : OwnB ((w2.alloc (.cells #[.int .i64 e.view, .int .i64 e.what, .int .i64 e.a, .int .i64 e.n] 33)).alloc (.cells #[] 5)) (w2.heap.size + 1) (.slice (some ⟨w2.heap.size + 1, 0, none⟩) 0 0) [] := by
    have h := OwnB.lit (w := (w2.alloc (.cells #[.int .i64 e.view, .int .i64 e.what, .int .i64 e.a, .int .i64 e.n] 33))) (base := w2.heap.size + 1) (C := #[]) (xs := []) rfl (by simp) (by unfold maxLen; simp)
    simpa using h
  have hr0 : ReadsB ((w2.alloc (.cells #[.int .i64 e.view, .int .i64 e.what, .int .i64 e.a, .int .i64 e.n] 33)).alloc (.cells #[] 5)) (w2.heap.size + 1) (some a0) xa := by
    have h : ReadsB ((w2.alloc (.cells #[.int .i64 e.view, .int .i64 e.what, .int .i64 e.a, .int .i64 e.n] 33)).alloc (.cells #[] 5)) (w2.alloc (.cells #[.int .i64 e.view, .int .i64 e.what, .int .i64 e.a, .int .i64 e.n] 33)).heap.size (some a0) xa := Reads.alloc (hr2 : Reads _ _ _ _ _ _) (Nat.le_refl _) (.cells #[] 5)
    simpa using h
  replace hown0 := Lib.hid hown0
  replace hr0 := Lib.hid hr0
  go_wp2_with (first
    | (at_builtin
       refine wpList_appB _ rfl (.tmp 42) (.tmp 43) rfl (w2.heap.size + 1) (.slice (some ⟨w2.heap.size + 1, 0, none⟩) 0 0) [] rfl hown0.out (w2.heap.size + 1) (some a0) (14) c0 xa rfl hr0.out hxl.out.symm
         xa (14) rfl hxl.out (by omega) (by simp) ?_
       intro A7 c7 w7 hown7 _ hb7 _
       have hs7 := hb7.size
       have hR7 := Lib.hid (ReadsB.new w7 [more] #[.int .u8 more] 5 (0, 0) rfl))
    | (at_builtin
       refine wpList_appB _ rfl (.tmp 44) (.tmp 46) rfl (w2.heap.size + 1) (.slice A7 (14) c7) xa rfl (hown7.alloc _) (w7.alloc (.cells #[.int .u8 more] 5)).heap.size (some ⟨w7.heap.size, 0, none⟩) 1 1 [more] rfl hR7.out rfl
         (xa ++ [more]) (15) rfl (by have := hxl.out; simp; omega) (by omega) (by simp at hs7 ⊢; omega) ?_
       intro A8 c8 w8 hown8 _ hb8 _))
  have ho8 := hown8.cap
  have hl8 : (xa ++ [more]).length = 15 := by have := hxl.out; simp; omega
  rw [hl8] at ho8
  have hbW : Below (w2.heap.size + 1) (w2.alloc (.cells #[.int .i64 e.view, .int .i64 e.what, .int .i64 e.a, .int .i64 e.n] 33)) ((w2.alloc (.cells #[.int .i64 e.view, .int .i64 e.what, .int .i64 e.a, .int .i64 e.n] 33)).alloc (.cells #[] 5)) := (Below.refl _ _).alloc (by simp) _
  have hq8 : Below (w2.heap.size + 1) (w2.alloc (.cells #[.int .i64 e.view, .int .i64 e.what, .int .i64 e.a, .int .i64 e.n] 33)) w8 := ((hbW.trans hb7).alloc (by simp at hs7; omega) (.cells #[.int .u8 more] 5)).trans hb8
  have hr8 : ReadsB w8 w8.heap.size A8 (xa ++ [more]) := hown8.reads
  clear hown7 hown8 hb7 hb8 hR7 hs7 hl8 hown0 hr0 hbW
  refine (gd1 A8 c8 _ hr8 ho8.1 ho8.2).out.mono ?_
  rintro _ w3 ⟨rfl, hb3⟩
  have hz2 : (w2.alloc (.cells #[.int .i64 e.view, .int .i64 e.what, .int .i64 e.a, .int .i64 e.n] 33)).heap.size = w2.heap.size + 1 := by simp
  rw [← hz2] at hq8
  have hT3 := (hq8.trans (hb3.mono hq8.size)).alloc (Nat.le_trans hq8.size hb3.size) (.cells #[.int .i64 0, .int .i64 0, .int .i64 0, .int .i64 0] 33)
  clear hz2
  have hX3 := hX.below hT3 hX.lt
  have hr3 := Reads.more (Reads.below hr2 hT3) hT3.size
  have hU3 := hU2.trans (hT3.mono hU2.size)
  have hN3 := hN2.below hT3 hN2.lt
  have hE3 := hE2.below hT3 hE2.lt
  clear hr2 hU2 hN2 hE2 hT3 hb3 hq8 hr8 ho8 hX
  go_wp2_with fail
  generalize w3.alloc (.cells #[.int .i64 0, .int .i64 0, .int .i64 0, .int .i64 0] 33) = u3 at *
  have hr13 : ReadsB u3 u3.heap.size (some a0) (xa.take 13) := Reads.take_b hr3 hxl.out
  refine (gd2 (some a0) c0 _ hr13 (by omega) hma).out.mono ?_
  rintro _ w4 ⟨rfl, hb4⟩
  have hT4 := hb4.alloc hb4.size (.cells #[.int .i64 0, .int .i64 0, .int .i64 0, .int .i64 0] 33)
  have hX4 := hX3.below hT4 hX3.lt
  have hU4 := hU3.trans (hT4.mono hU3.size)
  have hN4 := hN3.below hT4 hN3.lt
  have hE4 := hE3.below hT4 hE3.lt
  clear hr3 hr13 hU3 hN3 hE3 hT4 hb4 hX3
  have x0 : (w4.alloc (.cells #[.int .i64 0, .int .i64 0, .int .i64 0, .int .i64 0] 33)).cell? ⟨w2.heap.size, 0, none⟩ = some (.int .i64 e.view) := hX4.cell 0
  have x1 : (w4.alloc (.cells #[.int .i64 0, .int .i64 0, .int .i64 0, .int .i64 0] 33)).cell? ⟨w2.heap.size, 1, none⟩ = some (.int .i64 e.what) := hX4.cell 1
  have x2 : (w4.alloc (.cells #[.int .i64 0, .int .i64 0, .int .i64 0, .int .i64 0] 33)).cell? ⟨w2.heap.size, 2, none⟩ = some (.int .i64 e.a) := hX4.cell 2
  have x3 : (w4.alloc (.cells #[.int .i64 0, .int .i64 0, .int .i64 0, .int .i64 0] 33)).cell? ⟨w2.heap.size, 3, none⟩ = some (.int .i64 e.n) := hX4.cell 3
  have y0 : (w4.alloc (.cells #[.int .i64 0, .int .i64 0, .int .i64 0, .int .i64 0] 33)).cell? ⟨w.heap.size, 0, none⟩ = some (.int .i64 e.view) := hE4.cell 0
  have y1 : (w4.alloc (.cells #[.int .i64 0, .int .i64 0, .int .i64 0, .int .i64 0] 33)).cell? ⟨w.heap.size, 1, none⟩ = some (.int .i64 e.what) := hE4.cell 1
  have y2 : (w4.alloc (.cells #[.int .i64 0, .int .i64 0, .int .i64 0, .int .i64 0] 33)).cell? ⟨w.heap.size, 2, none⟩ = some (.int .i64 e.a) := hE4.cell 2
  have y3 : (w4.alloc (.cells #[.int .i64 0, .int .i64 0, .int .i64 0, .int .i64 0] 33)).cell? ⟨w.heap.size, 3, none⟩ = some (.int .i64 e.n) := hE4.cell 3
  have d0 : (w4.alloc (.cells #[.int .i64 0, .int .i64 0, .int .i64 0, .int .i64 0] 33)).cell? ⟨w.heap.size + 1, 0, none⟩ = some (.int .i64 what) := hN4.cell 0
  have d1 : (w4.alloc (.cells #[.int .i64 0, .int .i64 0, .int .i64 0, .int .i64 0] 33)).cell? ⟨w.heap.size + 1, 1, none⟩ = some (.int .i64 view) := hN4.cell 1
  have d2 : (w4.alloc (.cells #[.int .i64 0, .int .i64 0, .int .i64 0, .int .i64 0] 33)).cell? ⟨w.heap.size + 1, 2, none⟩ = some (.int .i64 n) := hN4.cell 2
  have d3 : (w4.alloc (.cells #[.int .i64 0, .int .i64 0, .int .i64 0, .int .i64 0] 33)).cell? ⟨w.heap.size + 1, 3, none⟩ = some (.slice A es.length c) := hN4.cell 3
  go_wp2_with fail
  clear x0 x1 x2 x3 y0 y1 y2 y3 hX4 hE4
  generalize w4.alloc (.cells #[.int .i64 0, .int .i64 0, .int .i64 0, .int .i64 0] 33) = u4 at *
  refine (gnote _ hU4).out.mono ?_
  rintro _ v1 ⟨A1, c1, rfl, hrb, hlb, hmb, hbb⟩
  have hV1 := hU4.trans (hbb.mono hU4.size)
  have hN1 := hN4.below hbb hN4.lt
  clear d0 d1 d2 d3
  go_wp2_with fail
  refine (gaw _).out.mono ?_
  rintro _ v2 ⟨rfl, hb2⟩
  go_wp2_with fail
  go_ret
  exact ⟨rfl, hV1.trans (hb2.mono hV1.size)⟩

set_option maxRecDepth 100000 in
set_option maxHeartbeats 4000000 in
theorem walk_01 (e : Ent) (v : Value) (what view n : Int) (A : Option Addr) (c : Nat) (es : List Ent) (more : Int) (w : World) (hi : e.In) (hv : NoteIn w v what view n A c es) (hw : (Lit.int .u8 more).wf = true) (h1 : ¬ e.ok) (h2 : nErr what view n es = 0) : Calls Try.prog 15 #[e.val, v, .int .u8 more] w fun e w' => e = .returned (.bool true) ∧ Below w.heap.size w w' := by
  obtain ⟨rfl, i1, i2, i3, hr, hin, hlc, hm⟩ := hv
  have hmb0 := bounds_u8 hw
  have gaw := fun w => Lib.hid (awake18 w)
  have hb0 : Below w.heap.size w (w.alloc (.cells #[.int .i64 e.view, .int .i64 e.what, .int .i64 e.a, .int .i64 e.n] 33)) := (Below.refl _ _).alloc (Nat.le_refl _) _
  have hW0 := hb0.alloc hb0.size (.cells #[.int .i64 what, .int .i64 view, .int .i64 n, .slice A es.length c] 64)
  have hN := Blk.new (w.alloc (.cells #[.int .i64 e.view, .int .i64 e.what, .int .i64 e.a, .int .i64 e.n] 33)) 64 #[.int .i64 what, .int .i64 view, .int .i64 n, .slice A es.length c]
  have hE := (Blk.new w 33 #[.int .i64 e.view, .int .i64 e.what, .int .i64 e.a, .int .i64 e.n]).alloc (.cells #[.int .i64 what, .int .i64 view, .int .i64 n, .slice A es.length c] 64)
  simp only [World.size_alloc] at hN
  have genc := fun w' => Lib.hid (encode_any e w' hi)
  have gnote := fun w' (hb : Below w.heap.size w w') => Lib.hid (note_any what view n A c es w' (Reads.more (ReadsE.below hr hb) hb.size) hin i2 i3 (by omega))
  unfold EPost at genc
  rw [Ent.err_no h1, show encO e = [] from if_neg h1] at genc
  have hyl0 := noteB_length what view n es
  have hz0 := nErr_zero h2
  obtain ⟨M, hM⟩ : ∃ M, M = 12 + 14 * es.length := ⟨_, rfl⟩
  have hyl := Lib.hid (show (noteB what view n es).length = M + 1 by omega)
  have hMb : M ≤ 57356 := by omega
  obtain ⟨⟨p0, p1, p2, p3, p4⟩, p5, p6⟩ := rd_back hin h2 more
  have hby : Bytes (noteB what view n es) := noteB_bytes what view n es
  have hbm2 : Bytes [more] := fun x hx => by rw [List.mem_singleton.1 hx]; exact ⟨by have := hmb0.1; omega, by have := hmb0.2; omega⟩
  have gr0 : ∀ A c w', ReadsB w' w'.heap.size A (noteB what view n es) → M + 1 ≤ c → c ≤ maxLen → Hid (Calls Try.prog 44 #[.slice A (M + 1) c] w' (RdPost w' what view n es 0)) := fun A c w' hr hc hm => by
    have := read_any A c (noteB what view n es) w' hby hr (by rw [hyl.out]; exact hc) hm (by rw [hyl.out]; omega)
    unfold RdAll at this
    rw [p0, p1, p2, p3, p4, hyl.out] at this
    exact Lib.hid this
  have gr1 : ∀ A c w', ReadsB w' w'.heap.size A (noteB what view n es ++ [more]) → M + 2 ≤ c → c ≤ maxLen → Hid (Calls Try.prog 44 #[.slice A (M + 2) c] w' fun e w'' => Below w'.heap.size w' w'' ∧ ∃ A c, e = .returned (.tuple #[.agg #[.int .i64 0, .int .i64 0, .int .i64 0, .slice A 0 c], .int .i64 4]) ∧ True) := fun A c w' hr hc hm => by
    have hl : (noteB what view n es ++ [more]).length = M + 2 := by rw [List.length_append, hyl.out]; rfl
    obtain ⟨z0, z1, z2, z3⟩ := rd_bad (xs := noteB what view n es ++ [more]) (by rw [p5]; decide)
    have := read_any A c (noteB what view n es ++ [more]) w' (hby.append hbm2) hr (by rw [hl]; exact hc) hm (by rw [hl]; omega)
    unfold RdAll at this
    rw [z0, z1, z2, z3, p5, hl] at this
    exact Lib.hid (this.mono fun e w'' ⟨h1, A, c, h2, _⟩ => ⟨h1, A, c, h2, trivial⟩)
  have gr2 : ∀ A c w', ReadsB w' w'.heap.size A ((noteB what view n es).take M) → M ≤ c → c ≤ maxLen → Hid (Calls Try.prog 44 #[.slice A M c] w' fun e w'' => Below w'.heap.size w' w'' ∧ ∃ A c, e = .returned (.tuple #[.agg #[.int .i64 0, .int .i64 0, .int .i64 0, .slice A 0 c], .int .i64 3]) ∧ True) := fun A c w' hr hc hm => by
    rw [hyl.out, Nat.add_sub_cancel] at p6
    have hl : ((noteB what view n es).take M).length = M := by rw [List.length_take, hyl.out]; omega
    obtain ⟨z0, z1, z2, z3⟩ := rd_bad (xs := (noteB what view n es).take M) (by rw [p6]; decide)
    have := read_any A c ((noteB what view n es).take M) w' (hby.take _) hr (by rw [hl]; exact hc) hm (by rw [hl]; omega)
    unfold RdAll at this
    rw [z0, z1, z2, z3, p6, hl] at this
    exact Lib.hid (this.mono fun e w'' ⟨h1, A, c, h2, _⟩ => ⟨h1, A, c, h2, trivial⟩)
  have gsame := fun A1 A2 c1 c2 w h1 h2 hl => Lib.hid (same18_any what view n A1 A2 c1 c2 es w h1 h2 hl)
  unfold RdPost at gr0
  unfold NPost at gnote
  rw [h2, show noteO what view n es = noteB what view n es from if_pos h2, hyl.out] at gnote
  generalize noteB what view n es = bs at *
  clear p0 p1 p2 p3 p4 p5 p6 hby hbm2 hyl0 hz0 hM
  unfold Ent.val at *
  go_enter Try.func15, Try.ntmps15
  go_wp2_with fail
  refine (genc _).out.mono ?_
  rintro _ w1 ⟨A0, c0, rfl, hra, hla, hma, hba⟩
  have hU1 := bnext hW0 hba
  have hN1 := hN.below hba hN.lt
  have hE1 := hE.below hba hE.lt
  clear hba hN hE hb0
  clear hra
  have d0 : w1.cell? ⟨w.heap.size + 1, 0, none⟩ = some (.int .i64 what) := hN1.cell 0
  have d1 : w1.cell? ⟨w.heap.size + 1, 1, none⟩ = some (.int .i64 view) := hN1.cell 1
  have d2 : w1.cell? ⟨w.heap.size + 1, 2, none⟩ = some (.int .i64 n) := hN1.cell 2
  have d3 : w1.cell? ⟨w.heap.size + 1, 3, none⟩ = some (.slice A es.length c) := hN1.cell 3
  go_wp2_with fail
  have hN0 := hN1
  clear hN1
  refine (gnote _ hU1).out.mono ?_
  rintro _ v1 ⟨A1, c1, rfl, hrb, hlb, hmb, hbb⟩
  have hV1 := hU1.trans (hbb.mono hU1.size)
  have hN1 := hN0.below hbb hN0.lt
  clear d0 d1 d2 d3
  obtain ⟨a1, rfl, _, _⟩ := hrb.at_ (k := 0) (by have := hyl.out; omega)
  go_wp2_with fail
  refine (gr0 (some a1) c1 _ hrb hlb hmb).out.mono ?_
  rintro _ v2 ⟨hb2, A2, c2, rfl, hr2, hl2, hm2⟩
  have hY := Blk.new v2 64 #[.int .i64 what, .int .i64 view, .int .i64 n, .slice A2 es.length c2]
  have hT2 := hb2.alloc hb2.size (.cells #[.int .i64 what, .int .i64 view, .int .i64 n, .slice A2 es.length c2] 64)
  have hrb2 := Reads.more (Reads.below hrb hT2) hT2.size
  have hrY := Reads.more (Reads.alloc hr2 (Nat.le_refl _) (.cells #[.int .i64 what, .int .i64 view, .int .i64 n, .slice A2 es.length c2] 64)) (B' := (v2.alloc (.cells #[.int .i64 what, .int .i64 view, .int .i64 n, .slice A2 es.length c2] 64)).heap.size) (by simp)
  have hV2 := hV1.trans (hT2.mono hV1.size)
  have hN2 := hN1.below hT2 hN1.lt
  clear hrb hV1 hN1 hT2 hb2 hr2
  have hown0 : OwnB ((v2.alloc (.cells #[.int .i64 what, .int .i64 view, .int .i64 n, .slice A2 es.length c2] 64)).alloc (.cells #[] 5)) (v2.heap.size + 1) (.slice (some ⟨v2.heap.size + 1, 0, none⟩) 0 0) [] := by
    have h := OwnB.lit (w := (v2.alloc (.cells #[.int .i64 what, .int .i64 view, .int .i64 n, .slice A2 es.length c2] 64))) (base := v2.heap.size + 1) (C := #[]) (xs := []) rfl (by simp) (by unfold maxLen; simp)
    simpa using h
  have hr0 : ReadsB ((v2.alloc (.cells #[.int .i64 what, .int .i64 view, .int .i64 n, .slice A2 es.length c2] 64)).alloc (.cells #[] 5)) (v2.heap.size + 1) (some a1) bs := by
    have h : ReadsB ((v2.alloc (.cells #[.int .i64 what, .int .i64 view, .int .i64 n, .slice A2 es.length c2] 64)).alloc (.cells #[] 5)) (v2.alloc (.cells #[.int .i64 what, .int .i64 view, .int .i64 n, .slice A2 es.length c2] 64)).heap.size (some a1) bs := Reads.alloc hrb2 (Nat.le_refl _) (.cells #[] 5)
    simpa using h
  replace hown0 := Lib.hid hown0
  replace hr0 := Lib.hid hr0
  go_wp2_with (first
    | (at_builtin
       refine wpList_appB _ rfl (.tmp 95) (.tmp 96) rfl (v2.heap.size + 1) (.slice (some ⟨v2.heap.size + 1, 0, none⟩) 0 0) [] rfl hown0.out (v2.heap.size + 1) (some a1) (M + 1) c1 bs rfl hr0.out hyl.out.symm
         bs (M + 1) rfl hyl.out (by omega) (by simp) ?_
       intro A7 c7 w7 hown7 _ hb7 _
       have hs7 := hb7.size
       have hR7 := Lib.hid (ReadsB.new w7 [more] #[.int .u8 more] 5 (0, 0) rfl))
    | (at_builtin
       refine wpList_appB _ rfl (.tmp 97) (.tmp 99) rfl (v2.heap.size + 1) (.slice A7 (M + 1) c7) bs rfl (hown7.alloc _) (w7.alloc (.cells #[.int .u8 more] 5)).heap.size (some ⟨w7.heap.size, 0, none⟩) 1 1 [more] rfl hR7.out rfl
         (bs ++ [more]) (M + 2) rfl (by have := hyl.out; simp; omega) (by omega) (by simp at hs7 ⊢; omega) ?_
       intro A8 c8 w8 hown8 _ hb8 _))
  have ho8 := hown8.cap
  have hl8 : (bs ++ [more]).length = M + 2 := by have := hyl.out; simp; omega
  rw [hl8] at ho8
  have hbW : Below (v2.heap.size + 1) (v2.alloc (.cells #[.int .i64 what, .int .i64 view, .int .i64 n, .slice A2 es.length c2] 64)) ((v2.alloc (.cells #[.int .i64 what, .int .i64 view, .int .i64 n, .slice A2 es.length c2] 64)).alloc (.cells #[] 5)) := (Below.refl _ _).alloc (by simp) _
  have hq8 : Below (v2.heap.size + 1) (v2.alloc (.cells #[.int .i64 what, .int .i64 view, .int .i64 n, .slice A2 es.length c2] 64)) w8 := ((hbW.trans hb7).alloc (by simp at hs7; omega) (.cells #[.int .u8 more] 5)).trans hb8
  have hr8 : ReadsB w8 w8.heap.size A8 (bs ++ [more]) := hown8.reads
  clear hown7 hown8 hb7 hb8 hR7 hs7 hl8 hown0 hr0 hbW
  refine (gr1 A8 c8 _ hr8 ho8.1 ho8.2).out.mono ?_
  rintro _ v3 ⟨hb3, A3, c3, rfl, _⟩
  have hz2 : (v2.alloc (.cells #[.int .i64 what, .int .i64 view, .int .i64 n, .slice A2 es.length c2] 64)).heap.size = v2.heap.size + 1 := by simp
  rw [← hz2] at hq8
  have hT3 := (hq8.trans (hb3.mono hq8.size)).alloc (Nat.le_trans hq8.size hb3.size) (.cells #[.int .i64 0, .int .i64 0, .int .i64 0, .slice A3 0 c3] 64)
  clear hz2
  have hY3 := hY.below hT3 hY.lt
  have hrb3 := Reads.more (Reads.below hrb2 hT3) hT3.size
  have hrY3 := Reads.more (Reads.below hrY hT3) hT3.size
  have hV3 := hV2.trans (hT3.mono hV2.size)
  have hN3 := hN2.below hT3 hN2.lt
  clear hrb2 hrY hV2 hN2 hT3 hb3 hq8 hr8 ho8 hY
  go_wp2_with fail
  generalize v3.alloc (.cells #[.int .i64 0, .int .i64 0, .int .i64 0, .slice A3 0 c3] 64) = u3 at *
  have hrm : ReadsB u3 u3.heap.size (some a1) (bs.take M) := Reads.take_b hrb3 hyl.out
  refine (gr2 (some a1) c1 _ hrm (by omega) hmb).out.mono ?_
  rintro _ v4 ⟨hb4, A4, c4, rfl, _⟩
  have hT4 := hb4.alloc hb4.size (.cells #[.int .i64 0, .int .i64 0, .int .i64 0, .slice A4 0 c4] 64)
  have hY4 := hY3.below hT4 hY3.lt
  have hrY4 := Reads.more (Reads.below hrY3 hT4) hT4.size
  have hV4 := hV3.trans (hT4.mono hV3.size)
  have hN4 := hN3.below hT4 hN3.lt
  have hrN4 := Reads.more (Reads.below hr hV4) hV4.size
  have y0 : (v4.alloc (.cells #[.int .i64 0, .int .i64 0, .int .i64 0, .slice A4 0 c4] 64)).cell? ⟨v2.heap.size, 0, none⟩ = some (.int .i64 what) := hY4.cell 0
  have y1 : (v4.alloc (.cells #[.int .i64 0, .int .i64 0, .int .i64 0, .slice A4 0 c4] 64)).cell? ⟨v2.heap.size, 1, none⟩ = some (.int .i64 view) := hY4.cell 1
  have y2 : (v4.alloc (.cells #[.int .i64 0, .int .i64 0, .int .i64 0, .slice A4 0 c4] 64)).cell? ⟨v2.heap.size, 2, none⟩ = some (.int .i64 n) := hY4.cell 2
  have y3 : (v4.alloc (.cells #[.int .i64 0, .int .i64 0, .int .i64 0, .slice A4 0 c4] 64)).cell? ⟨v2.heap.size, 3, none⟩ = some (.slice A2 es.length c2) := hY4.cell 3
  have d0 : (v4.alloc (.cells #[.int .i64 0, .int .i64 0, .int .i64 0, .slice A4 0 c4] 64)).cell? ⟨w.heap.size + 1, 0, none⟩ = some (.int .i64 what) := hN4.cell 0
  have d1 : (v4.alloc (.cells #[.int .i64 0, .int .i64 0, .int .i64 0, .slice A4 0 c4] 64)).cell? ⟨w.heap.size + 1, 1, none⟩ = some (.int .i64 view) := hN4.cell 1
  have d2 : (v4.alloc (.cells #[.int .i64 0, .int .i64 0, .int .i64 0, .slice A4 0 c4] 64)).cell? ⟨w.heap.size + 1, 2, none⟩ = some (.int .i64 n) := hN4.cell 2
  have d3 : (v4.alloc (.cells #[.int .i64 0, .int .i64 0, .int .i64 0, .slice A4 0 c4] 64)).cell? ⟨w.heap.size + 1, 3, none⟩ = some (.slice A es.length c) := hN4.cell 3
  clear hrb3 hrm hrY3 hV3 hN3 hT4 hb4 hY3
  go_wp2_with fail
  refine (gsame A2 A c2 c _ hrY4 hrN4 (by omega)).out.mono ?_
  rintro _ v5 ⟨rfl, hb5⟩
  go_wp2_with fail
  go_ret
  exact ⟨rfl, hV4.trans (hb5.mono hV4.size)⟩

set_option maxRecDepth 100000 in
set_option maxHeartbeats 4000000 in
theorem walk_00 (e : Ent) (v : Value) (what view n : Int) (A : Option Addr) (c : Nat) (es : List Ent) (more : Int) (w : World) (hi : e.In) (hv : NoteIn w v what view n A c es) (hw : (Lit.int .u8 more).wf = true) (h1 : ¬ e.ok) (h2 : ¬ nErr what view n es = 0) : Calls Try.prog 15 #[e.val, v, .int .u8 more] w fun e w' => e = .returned (.bool true) ∧ Below w.heap.size w w' := by
  obtain ⟨rfl, i1, i2, i3, hr, hin, hlc, hm⟩ := hv
  have hmb0 := bounds_u8 hw
  have gaw := fun w => Lib.hid (awake18 w)
  have hb0 : Below w.heap.size w (w.alloc (.cells #[.int .i64 e.view, .int .i64 e.what, .int .i64 e.a, .int .i64 e.n] 33)) := (Below.refl _ _).alloc (Nat.le_refl _) _
  have hW0 := hb0.alloc hb0.size (.cells #[.int .i64 what, .int .i64 view, .int .i64 n, .slice A es.length c] 64)
  have hN := Blk.new (w.alloc (.cells #[.int .i64 e.view, .int .i64 e.what, .int .i64 e.a, .int .i64 e.n] 33)) 64 #[.int .i64 what, .int .i64 view, .int .i64 n, .slice A es.length c]
  have hE := (Blk.new w 33 #[.int .i64 e.view, .int .i64 e.what, .int .i64 e.a, .int .i64 e.n]).alloc (.cells #[.int .i64 what, .int .i64 view, .int .i64 n, .slice A es.length c] 64)
  simp only [World.size_alloc] at hN
  have genc := fun w' => Lib.hid (encode_any e w' hi)
  have gnote := fun w' (hb : Below w.heap.size w w') => Lib.hid (note_any what view n A c es w' (Reads.more (ReadsE.below hr hb) hb.size) hin i2 i3 (by omega))
  unfold EPost at genc
  rw [Ent.err_no h1, show encO e = [] from if_neg h1] at genc
  unfold NPost at gnote
  rw [show noteO what view n es = [] from if_neg h2] at gnote
  generalize nErr what view n es = code at *
  have c1 : (code == 0) = false := by simpa using h2
  have c2 : (code != 0) = true := by simpa using h2
  unfold Ent.val at *
  replace h2 := Lib.hid h2
  go_enter Try.func15, Try.ntmps15
  go_wp2_with fail
  refine (genc _).out.mono ?_
  rintro _ w1 ⟨A0, c0, rfl, hra, hla, hma, hba⟩
  have hU1 := bnext hW0 hba
  have hN1 := hN.below hba hN.lt
  have hE1 := hE.below hba hE.lt
  clear hba hN hE hb0
  clear hra
  have d0 : w1.cell? ⟨w.heap.size + 1, 0, none⟩ = some (.int .i64 what) := hN1.cell 0
  have d1 : w1.cell? ⟨w.heap.size + 1, 1, none⟩ = some (.int .i64 view) := hN1.cell 1
  have d2 : w1.cell? ⟨w.heap.size + 1, 2, none⟩ = some (.int .i64 n) := hN1.cell 2
  have d3 : w1.cell? ⟨w.heap.size + 1, 3, none⟩ = some (.slice A es.length c) := hN1.cell 3
  go_wp2_with fail
  have hN0 := hN1
  clear hN1
  refine (gnote _ hU1).out.mono ?_
  rintro _ v1 ⟨A1, c1, rfl, hrb, hlb, hmb, hbb⟩
  have hV1 := hU1.trans (hbb.mono hU1.size)
  have hN1 := hN0.below hbb hN0.lt
  clear d0 d1 d2 d3
  go_wp2_with fail
  refine (gaw _).out.mono ?_
  rintro _ v2 ⟨rfl, hb2⟩
  go_wp2_with fail
  go_ret
  exact ⟨rfl, hV1.trans (hb2.mono hV1.size)⟩

theorem walk (e : Ent) (v : Value) (what view n : Int) (A : Option Addr) (c : Nat) (es : List Ent) (more : Int) (w : World) (hi : e.In) (hv : NoteIn w v what view n A c es) (hw : (Lit.int .u8 more).wf = true) : Calls Try.prog 15 #[e.val, v, .int .u8 more] w fun e w' => e = .returned (.bool true) ∧ Below w.heap.size w w' := by
  by_cases h1 : e.ok
  · by_cases h2 : nErr what view n es = 0
    · exact walk_11 e v what view n A c es more w hi hv hw h1 h2
    · exact walk_10 e v what view n A c es more w hi hv hw h1 h2
  · by_cases h2 : nErr what view n es = 0
    · exact walk_01 e v what view n A c es more w hi hv hw h1 h2
    · exact walk_00 e v what view n A c es more w hi hv hw h1 h2

set_option maxRecDepth 100000 in
theorem lifted (os : Os) (started : os.Started) (H : Type) (enc : TypeId × Value → H) :
    ReturnsInHanded {} Try.checked os 15 .any (Rows.recordBackSpec.pre6 enc Try.prog Try.f15 Rows.recordBackRow.domain false) (Rows.recordBackSpec.post enc Try.prog Try.f15 false true false false) := by
  refine returnsInHanded_of_change (C := Try.checked) own started (by kernel_rfl) Try.func15
    (ChangeSpec.witness6 (enc := enc) (C := Try.checked) false ⟨#[], #[.agg #[.int .i64 0, .int .i64 0, .int .i64 0, .int .i64 0], .agg #[.int .i64 0, .int .i64 0, .int .i64 0, .slice none 0 0], .int .u8 0], []⟩ 8 (by kernel_rfl) (by kernel_rfl) (by kernel_rfl) (by kernel_rfl)) ?_
  intro W base args ds gs before hval0 hW hcnd _
  have hval : ∀ (j : Nat) t v, Try.f15.params[j]? = some t → args[j]? = some v → Value.okWide Try.prog W .any base t v := hval0
  have hW' := hW
  obtain ⟨p, q, hA0, hV, rfl, hfz, hnd⟩ := hW
  have hA : DataW.TrodAll enc Try.prog W 0 (fun _ => true) true Try.f15.params.toList args.toList ds p := hA0
  rw [Try.params15] at hA hval
  obtain ⟨v0, vs0, d0, ds0, p0, q0, hargs, rfl, rfl, h0, r0⟩ := trodAll_cons hA
  obtain ⟨v1, vs1, d1, ds1, p1, q1, rfl, rfl, rfl, h1, r1⟩ := trodAll_cons r0
  obtain ⟨v2, vs2, d2, ds2, p2, q2, rfl, rfl, rfl, h2, r2⟩ := trodAll_cons r1
  obtain ⟨rfl, rfl, rfl⟩ := trodAll_nil r2
  obtain rfl : args = #[v0, v1, v2] := by cases args; simp_all
  obtain ⟨rfl, rfl⟩ := trodVars_none hV
  have k0 := h0
  have lt0 : ∀ x ∈ p0, x.block < W.heap.size := by obtain ⟨m, hm⟩ := k0; exact DataW.trod_lt m _ _ _ hm
  obtain ⟨t0, ht0, w0⟩ := open_entry (hval 0 33 v0 rfl rfl) h0
  subst ht0
  have k1 := h1
  have lt1 : ∀ x ∈ p1, x.block < W.heap.size := by obtain ⟨m, hm⟩ := k1; exact DataW.trod_lt m _ _ _ hm
  obtain ⟨wh1, vi1, nn1, A1, c1, es1, w1⟩ := open_note (hval 1 64 v1 rfl rfl) h1
  obtain ⟨x2, rfl, rfl, rfl, wx2⟩ := open_int Try.underlying5 (hval 2 5 v2 rfl rfl) h2
  clear hA0 hval0
  refine (walk t0 v1 wh1 vi1 nn1 A1 c1 es1 x2 W w0 w1 wx2).mono fun e W' ⟨he, bel⟩ => ?_
  subst he
  exact ⟨_, rfl, _, _, _, [], _, [], hW', trodAll_mk1 (shut_bool Try.underlying4 _), (trodAll_cons_mk (Below.trod laidOut (by kernel_rfl) (of_decide_eq_true (by kernel_rfl)) k0 bel lt0) (trodAll_cons_mk (Below.trod laidOut (by kernel_rfl) (of_decide_eq_true (by kernel_rfl)) k1 bel lt1) (trodAll_cons_mk (shut_int Try.underlying5 wx2) trodAll_mk0))), rfl, bel.frame _, fun h => by cases h⟩

theorem closed : joinedFacts Try.prog 15 Try.f15 Rows.recordBackSpec Rows.recordBackRow = true := by
  have h1 := mayEnter_fact
  have h2 : (Rows.recordBackRow.lifted == Try.prog.liftsFinal) = true := by rw [lifts_fact]; rfl
  have h3 : (Try.prog.make == some Rows.recordBackRow.make) = true := by rw [make_fact]; rfl
  have hfin : ∀ b : Bool, b = true → b = true := fun _ h => h
  unfold joinedFacts
  rw [h1, h2, h3]
  clear h1 h2 h3
  refine hfin _ ?_
  kernel_rfl

theorem over : Rows.recordBackRow.holds Try.pinned (OpenSpec.ofChange Rows.recordBackSpec) :=
  OpenClaim.holds_of_wide 15 Try.f15 rfl rfl rfl rfl rfl rfl rfl ⟨rfl, rfl, rfl, rfl, rfl⟩ rfl rfl rfl rfl rfl (by kernel_rfl) Try.func15 closed
    (of_decide_eq_true (by kernel_rfl)) (by unfold Func.isWrapper; first | (rw [if_pos (by decide +kernel)]; kernel_rfl) | (rw [if_neg (by decide +kernel)]; exact ⟨rfl, rfl⟩))
    (fun os started H enc _ => lifted os started H enc)

/-- The statement. -/
theorem proved : Rows.RecordBackSaid := over
#print axioms proved

end Go.Proofs.Ytlehianbdamgmaa.RecordBackP
