/- OpsBack: an instruction as bytes is read as itself; bytes that are one are its bytes. -/
import Derived.Test.YtcinmgifadmbeaaBackI
import Derived.Test.YtcinmgifadmbeaaOpsAwake
import Derived.Test.YtcinmgifadmbeaaHead
import Derived.Test.YtcinmgifadmbeaaOpenG
import Derived.Deep.RegionHeld3
import Derived.Lib.SmallJoins
import Derived.ProofKit
import Derived.OpenShut
import Derived.ShutString
import Derived.ChangeOld
import Derived.Laws.StructEq
namespace Go.Proofs.Ytcinmgifadmbeaa.OpsBackP
open Go.ChangeShapes Go.WideShapes Go.ChangeAt Go.RowKit
open Go.ChangeMaps (open_string shut_string)
set_option linter.unusedVariables false

theorem own : ownKnob Try.prog.godebug = none := by kernel_rfl
theorem laidOut : laidOutB Try.prog = true := by kernel_rfl
theorem bnext {a b c : World} (h : Below a.heap.size a b) (k : Below b.heap.size b c) : Below a.heap.size a c := h.trans (k.mono h.size)
theorem in64_wf {n : Int} (h : (Lit.int .i64 n).wf = true) : in64 n := by
  simp only [Lit.wf, Bool.and_eq_true, decide_eq_true_eq] at h
  have h1 : IntKind.i64.min = -9223372036854775808 := by decide
  have h2 : IntKind.i64.max = 9223372036854775807 := by decide
  rw [h1, h2] at h
  unfold in64
  omega
theorem made_zero (n : Nat) : (madeCells (Value.int .u8 0).cells (n * 1)).toList = cellsOf .u8 (List.replicate n 0) := by
  apply List.ext_getElem?
  intro i
  by_cases hi : i < n
  · simp [madeCells, cellsOf, hi, Nat.mod_one, Value.cells]
  · simp [madeCells, cellsOf, hi, Value.cells]

set_option maxRecDepth 100000 in
set_option maxHeartbeats 4000000 in
theorem walk_11 (iat iop ia ib isz code : Int) (bs : List Int) (w : World) (hcode : ¬ code = 0)
    (h1 : ∀ w, Hid (Calls Try.prog 22 #[.agg #[.int .i64 iat, .int .i64 iop, .int .i64 ia, .int .i64 ib, .int .i64 isz]] w (BPost w bs code))) (b0 : Option Addr) (cap0 : Nat) (ys : List Int)
    (jat jop ja jb jsz code2 : Int) 
    (hd2 : ∀ V, Below w.heap.size w V → Hid (Calls Try.prog 24 #[.slice b0 ys.length cap0, .int .i64 0] V (DPost V ⟨jat, jop, ja, jb, jsz⟩ code2))) (hc2 : (code2 == 0) = false) :
    Calls Try.prog 12 #[.agg #[.int .i64 iat, .int .i64 iop, .int .i64 ia, .int .i64 ib, .int .i64 isz], .slice b0 ys.length cap0] w fun e w' => e = .returned (.bool true) ∧ Below w.heap.size w w' := by
  have hcb : (code == 0) = false := by simpa using hcode
  have gaw := fun w => Lib.hid (awake06 w)
  have hn2 : (code2 != 0) = true := by simp [bne, hc2]
  have hI := Blk.new w 28 #[.int .i64 iat, .int .i64 iop, .int .i64 ia, .int .i64 ib, .int .i64 isz]
  have hB0 : Below w.heap.size w (w.alloc (.cells #[.int .i64 iat, .int .i64 iop, .int .i64 ia, .int .i64 ib, .int .i64 isz] 28)) := (Below.refl _ _).alloc (Nat.le_refl _) _
  go_enter Try.func12, Try.ntmps12
  go_wp2_with fail
  generalize w.alloc (.cells #[.int .i64 iat, .int .i64 iop, .int .i64 ia, .int .i64 ib, .int .i64 isz] 28) = W at *
  refine (h1 _).out.mono ?_
  rintro _ w1 ⟨A1, c1, rfl, hO1, hb1⟩
  have hI1 := hI.below hb1 hI.lt
  have hB1 := bnext hB0 hb1
  have d0 : w1.cell? ⟨w.heap.size, 0, none⟩ = some (.int .i64 iat) := hI1.cell 0
  have d1 : w1.cell? ⟨w.heap.size, 1, none⟩ = some (.int .i64 iop) := hI1.cell 1
  have d2 : w1.cell? ⟨w.heap.size, 2, none⟩ = some (.int .i64 ia) := hI1.cell 2
  have d3 : w1.cell? ⟨w.heap.size, 3, none⟩ = some (.int .i64 ib) := hI1.cell 3
  have d4 : w1.cell? ⟨w.heap.size, 4, none⟩ = some (.int .i64 isz) := hI1.cell 4
  have df0 := hI1.frozen 0
  have df1 := hI1.frozen 1
  have df2 := hI1.frozen 2
  have df3 := hI1.frozen 3
  have df4 := hI1.frozen 4
  clear hI hB0 hb1
  go_wp2_with fail
  have hBB := hB1
  clear d0 d1 d2 d3 d4 df0 df1 df2 df3 df4 hI1 hB1 hO1
  generalize w1 = V at *
  refine (hd2 V hBB).out.mono ?_
  rintro _ v1 ⟨rfl, hv1⟩
  have hJ := Blk.new v1 28 #[.int .i64 jat, .int .i64 jop, .int .i64 ja, .int .i64 jb, .int .i64 jsz]
  have hV1 := (bnext hBB hv1)
  have hV2 := hV1.alloc hV1.size (.cells #[.int .i64 jat, .int .i64 jop, .int .i64 ja, .int .i64 jb, .int .i64 jsz] 28)
  clear hv1 hd2 hBB
  unfold Ins.val
  go_wp2_with fail
  refine (gaw _).out.mono ?_
  rintro _ v2 ⟨rfl, hv2⟩
  go_wp2_with fail
  go_ret
  exact ⟨rfl, bnext hV2 hv2⟩

set_option maxRecDepth 100000 in
set_option maxHeartbeats 4000000 in
theorem walk_12 (iat iop ia ib isz code : Int) (bs : List Int) (w : World) (hcode : ¬ code = 0)
    (h1 : ∀ w, Hid (Calls Try.prog 22 #[.agg #[.int .i64 iat, .int .i64 iop, .int .i64 ia, .int .i64 ib, .int .i64 isz]] w (BPost w bs code))) (b0 : Option Addr) (cap0 : Nat) (ys : List Int)
    (jat jop ja jb jsz : Int) 
    (hd2 : ∀ V, Below w.heap.size w V → Hid (Calls Try.prog 24 #[.slice b0 ys.length cap0, .int .i64 0] V (DPost V ⟨jat, jop, ja, jb, jsz⟩ 0))) (hj : ja < 0) :
    Calls Try.prog 12 #[.agg #[.int .i64 iat, .int .i64 iop, .int .i64 ia, .int .i64 ib, .int .i64 isz], .slice b0 ys.length cap0] w fun e w' => e = .returned (.bool true) ∧ Below w.heap.size w w' := by
  have hcb : (code == 0) = false := by simpa using hcode
  have gaw := fun w => Lib.hid (awake06 w)
  have hj1 : decide (ja < 0) = true := decide_eq_true hj
  have hI := Blk.new w 28 #[.int .i64 iat, .int .i64 iop, .int .i64 ia, .int .i64 ib, .int .i64 isz]
  have hB0 : Below w.heap.size w (w.alloc (.cells #[.int .i64 iat, .int .i64 iop, .int .i64 ia, .int .i64 ib, .int .i64 isz] 28)) := (Below.refl _ _).alloc (Nat.le_refl _) _
  go_enter Try.func12, Try.ntmps12
  go_wp2_with fail
  generalize w.alloc (.cells #[.int .i64 iat, .int .i64 iop, .int .i64 ia, .int .i64 ib, .int .i64 isz] 28) = W at *
  refine (h1 _).out.mono ?_
  rintro _ w1 ⟨A1, c1, rfl, hO1, hb1⟩
  have hI1 := hI.below hb1 hI.lt
  have hB1 := bnext hB0 hb1
  have d0 : w1.cell? ⟨w.heap.size, 0, none⟩ = some (.int .i64 iat) := hI1.cell 0
  have d1 : w1.cell? ⟨w.heap.size, 1, none⟩ = some (.int .i64 iop) := hI1.cell 1
  have d2 : w1.cell? ⟨w.heap.size, 2, none⟩ = some (.int .i64 ia) := hI1.cell 2
  have d3 : w1.cell? ⟨w.heap.size, 3, none⟩ = some (.int .i64 ib) := hI1.cell 3
  have d4 : w1.cell? ⟨w.heap.size, 4, none⟩ = some (.int .i64 isz) := hI1.cell 4
  have df0 := hI1.frozen 0
  have df1 := hI1.frozen 1
  have df2 := hI1.frozen 2
  have df3 := hI1.frozen 3
  have df4 := hI1.frozen 4
  clear hI hB0 hb1
  go_wp2_with fail
  have hBB := hB1
  clear d0 d1 d2 d3 d4 df0 df1 df2 df3 df4 hI1 hB1 hO1
  generalize w1 = V at *
  refine (hd2 V hBB).out.mono ?_
  rintro _ v1 ⟨rfl, hv1⟩
  have hJ := Blk.new v1 28 #[.int .i64 jat, .int .i64 jop, .int .i64 ja, .int .i64 jb, .int .i64 jsz]
  have hV1 := (bnext hBB hv1)
  have hV2 := hV1.alloc hV1.size (.cells #[.int .i64 jat, .int .i64 jop, .int .i64 ja, .int .i64 jb, .int .i64 jsz] 28)
  clear hv1 hd2 hBB
  unfold Ins.val
  go_wp2_with fail
  refine (gaw _).out.mono ?_
  rintro _ v2 ⟨rfl, hv2⟩
  go_wp2_with fail
  go_ret
  exact ⟨rfl, bnext hV2 hv2⟩

set_option maxRecDepth 100000 in
set_option maxHeartbeats 4000000 in
theorem walk_13 (iat iop ia ib isz code : Int) (bs : List Int) (w : World) (hcode : ¬ code = 0)
    (h1 : ∀ w, Hid (Calls Try.prog 22 #[.agg #[.int .i64 iat, .int .i64 iop, .int .i64 ia, .int .i64 ib, .int .i64 isz]] w (BPost w bs code))) (b0 : Option Addr) (cap0 : Nat) (ys : List Int)
    (jat jop ja jb jsz : Int) 
    (hd2 : ∀ V, Below w.heap.size w V → Hid (Calls Try.prog 24 #[.slice b0 ys.length cap0, .int .i64 0] V (DPost V ⟨jat, jop, ja, jb, jsz⟩ 0))) (hj : 4096 < ja) :
    Calls Try.prog 12 #[.agg #[.int .i64 iat, .int .i64 iop, .int .i64 ia, .int .i64 ib, .int .i64 isz], .slice b0 ys.length cap0] w fun e w' => e = .returned (.bool true) ∧ Below w.heap.size w w' := by
  have hcb : (code == 0) = false := by simpa using hcode
  have gaw := fun w => Lib.hid (awake06 w)
  have hj1 : decide (ja < 0) = false := decide_eq_false (by omega)
  have hj2 : decide (4096 < ja) = true := decide_eq_true hj
  have hI := Blk.new w 28 #[.int .i64 iat, .int .i64 iop, .int .i64 ia, .int .i64 ib, .int .i64 isz]
  have hB0 : Below w.heap.size w (w.alloc (.cells #[.int .i64 iat, .int .i64 iop, .int .i64 ia, .int .i64 ib, .int .i64 isz] 28)) := (Below.refl _ _).alloc (Nat.le_refl _) _
  go_enter Try.func12, Try.ntmps12
  go_wp2_with fail
  generalize w.alloc (.cells #[.int .i64 iat, .int .i64 iop, .int .i64 ia, .int .i64 ib, .int .i64 isz] 28) = W at *
  refine (h1 _).out.mono ?_
  rintro _ w1 ⟨A1, c1, rfl, hO1, hb1⟩
  have hI1 := hI.below hb1 hI.lt
  have hB1 := bnext hB0 hb1
  have d0 : w1.cell? ⟨w.heap.size, 0, none⟩ = some (.int .i64 iat) := hI1.cell 0
  have d1 : w1.cell? ⟨w.heap.size, 1, none⟩ = some (.int .i64 iop) := hI1.cell 1
  have d2 : w1.cell? ⟨w.heap.size, 2, none⟩ = some (.int .i64 ia) := hI1.cell 2
  have d3 : w1.cell? ⟨w.heap.size, 3, none⟩ = some (.int .i64 ib) := hI1.cell 3
  have d4 : w1.cell? ⟨w.heap.size, 4, none⟩ = some (.int .i64 isz) := hI1.cell 4
  have df0 := hI1.frozen 0
  have df1 := hI1.frozen 1
  have df2 := hI1.frozen 2
  have df3 := hI1.frozen 3
  have df4 := hI1.frozen 4
  clear hI hB0 hb1
  go_wp2_with fail
  have hBB := hB1
  clear d0 d1 d2 d3 d4 df0 df1 df2 df3 df4 hI1 hB1 hO1
  generalize w1 = V at *
  refine (hd2 V hBB).out.mono ?_
  rintro _ v1 ⟨rfl, hv1⟩
  have hJ := Blk.new v1 28 #[.int .i64 jat, .int .i64 jop, .int .i64 ja, .int .i64 jb, .int .i64 jsz]
  have hV1 := (bnext hBB hv1)
  have hV2 := hV1.alloc hV1.size (.cells #[.int .i64 jat, .int .i64 jop, .int .i64 ja, .int .i64 jb, .int .i64 jsz] 28)
  clear hv1 hd2 hBB
  unfold Ins.val
  go_wp2_with fail
  refine (gaw _).out.mono ?_
  rintro _ v2 ⟨rfl, hv2⟩
  go_wp2_with fail
  go_ret
  exact ⟨rfl, bnext hV2 hv2⟩

set_option maxRecDepth 100000 in
set_option maxHeartbeats 4000000 in
theorem walk_14 (iat iop ia ib isz code : Int) (bs : List Int) (w : World) (hcode : ¬ code = 0)
    (h1 : ∀ w, Hid (Calls Try.prog 22 #[.agg #[.int .i64 iat, .int .i64 iop, .int .i64 ia, .int .i64 ib, .int .i64 isz]] w (BPost w bs code))) (cap0 : Nat) (ys : List Int)
    (jat jop ja jb  : Int) (z : Nat) (ad : Addr) 
    (hd2 : ∀ V, Below w.heap.size w V → Hid (Calls Try.prog 24 #[.slice (some ad) ys.length cap0, .int .i64 0] V (DPost V ⟨jat, jop, ja, jb, (z : Nat)⟩ 0))) (hj : 0 ≤ ja) (hj2 : ja ≤ 4096) (hz0 : 1 ≤ z) (hz1 : z ≤ ys.length) (hyc : ys.length ≤ cap0) (hym : cap0 ≤ 140737488351232)
    (hy : ReadsB w w.heap.size (some ad) ys)
    (h2 : ∀ w, Hid (Calls Try.prog 22 #[.agg #[.int .i64 jat, .int .i64 jop, .int .i64 ja, .int .i64 jb, .int .i64 (z : Nat)]] w (BPost w (ys.take z) 0))) :
    Calls Try.prog 12 #[.agg #[.int .i64 iat, .int .i64 iop, .int .i64 ia, .int .i64 ib, .int .i64 isz], .slice (some ad) ys.length cap0] w fun e w' => e = .returned (.bool true) ∧ Below w.heap.size w w' := by
  have hcb : (code == 0) = false := by simpa using hcode
  have gaw := fun w => Lib.hid (awake06 w)
  have hk1 : decide (ja < 0) = false := decide_eq_false (by omega)
  have hk2 : decide (4096 < ja) = false := decide_eq_false (by omega)
  have hI := Blk.new w 28 #[.int .i64 iat, .int .i64 iop, .int .i64 ia, .int .i64 ib, .int .i64 isz]
  have hB0 : Below w.heap.size w (w.alloc (.cells #[.int .i64 iat, .int .i64 iop, .int .i64 ia, .int .i64 ib, .int .i64 isz] 28)) := (Below.refl _ _).alloc (Nat.le_refl _) _
  go_enter Try.func12, Try.ntmps12
  go_wp2_with fail
  generalize w.alloc (.cells #[.int .i64 iat, .int .i64 iop, .int .i64 ia, .int .i64 ib, .int .i64 isz] 28) = W at *
  refine (h1 _).out.mono ?_
  rintro _ w1 ⟨A1, c1, rfl, hO1, hb1⟩
  have hI1 := hI.below hb1 hI.lt
  have hB1 := bnext hB0 hb1
  have d0 : w1.cell? ⟨w.heap.size, 0, none⟩ = some (.int .i64 iat) := hI1.cell 0
  have d1 : w1.cell? ⟨w.heap.size, 1, none⟩ = some (.int .i64 iop) := hI1.cell 1
  have d2 : w1.cell? ⟨w.heap.size, 2, none⟩ = some (.int .i64 ia) := hI1.cell 2
  have d3 : w1.cell? ⟨w.heap.size, 3, none⟩ = some (.int .i64 ib) := hI1.cell 3
  have d4 : w1.cell? ⟨w.heap.size, 4, none⟩ = some (.int .i64 isz) := hI1.cell 4
  have df0 := hI1.frozen 0
  have df1 := hI1.frozen 1
  have df2 := hI1.frozen 2
  have df3 := hI1.frozen 3
  have df4 := hI1.frozen 4
  clear hI hB0 hb1
  go_wp2_with fail
  have hBB := hB1
  clear d0 d1 d2 d3 d4 df0 df1 df2 df3 df4 hI1 hB1 hO1
  generalize w1 = V at *
  refine (hd2 V hBB).out.mono ?_
  rintro _ v1 ⟨rfl, hv1⟩
  have hJ := Blk.new v1 28 #[.int .i64 jat, .int .i64 jop, .int .i64 ja, .int .i64 jb, .int .i64 (z : Nat)]
  have hV1 := (bnext hBB hv1)
  have hV2 := hV1.alloc hV1.size (.cells #[.int .i64 jat, .int .i64 jop, .int .i64 ja, .int .i64 jb, .int .i64 (z : Nat)] 28)
  clear hv1 hd2 hBB
  unfold Ins.val
  go_wp2_with fail
  generalize v1.alloc (.cells #[.int .i64 jat, .int .i64 jop, .int .i64 ja, .int .i64 jb, .int .i64 (z : Nat)] 28) = V2 at *
  refine (h2 _).out.mono ?_
  rintro _ v3 ⟨A3, c3, rfl, hO3, hv3⟩
  have hJ3 := hJ.below hv3 hJ.lt
  have hV3 := bnext hV2 hv3
  have hlt3 := hJ3.lt
  have j0 : v3.cell? ⟨v1.heap.size, 0, none⟩ = some (.int .i64 jat) := hJ3.cell 0
  have j1 : v3.cell? ⟨v1.heap.size, 1, none⟩ = some (.int .i64 jop) := hJ3.cell 1
  have j2 : v3.cell? ⟨v1.heap.size, 2, none⟩ = some (.int .i64 ja) := hJ3.cell 2
  have j3 : v3.cell? ⟨v1.heap.size, 3, none⟩ = some (.int .i64 jb) := hJ3.cell 3
  have j4 : v3.cell? ⟨v1.heap.size, 4, none⟩ = some (.int .i64 (z : Nat)) := hJ3.cell 4
  have jf0 := hJ3.frozen 0
  have jf1 := hJ3.frozen 1
  have jf2 := hJ3.frozen 2
  have jf3 := hJ3.frozen 3
  have jf4 := hJ3.frozen 4
  have hy3 : ReadsB v3 w.heap.size (some ad) (ys.take z) := by
    have h := Reads.take (Reads.below hy hV3) (k := z) hz1
    have hl : (ys.take z).length = z := by rw [List.length_take]; omega
    unfold ReadsB
    rw [hl]
    simpa [cellsOf, List.map_take] using h
  have hl : (ys.take z).length = z := by rw [List.length_take]; omega
  have t1 := fun m => run_text (w := v3.drewN m) z c3 (Reads.drewN (OwnB.reads hO3) m) hl.symm
  have t2 := fun m => run_text (w := v3.drewN m) z cap0 (Reads.drewN hy3 m) hl.symm
  go_wp2_with fail
  go_quiet (fail)
  go_wp2_with fail
  go_ret
  exact ⟨rfl, hV3.trans (Go.Joins.below_draws _ _ _)⟩

set_option maxRecDepth 100000 in
set_option maxHeartbeats 4000000 in
theorem walk_21 (n : Nat) (iop ia ib isz s : Int) (bs : List Int) (w : World) (hs : (s == 116) = true) (hbl : bs.length ≤ 3) (hn : n ≤ 4096)
    (h1 : ∀ w, Hid (Calls Try.prog 22 #[.agg #[.int .i64 (n : Int), .int .i64 iop, .int .i64 ia, .int .i64 ib, .int .i64 isz]] w (BPost w bs 0)))
    (gs : ∀ w, Hid (Calls Try.prog 15 #[.int .i64 iop] w fun e w' => e = .returned (.tuple #[.int .u8 s, .bool true]) ∧ Below w.heap.size w w'))
    (hd1 : ∀ A c w', ReadsB w' w'.heap.size A (List.replicate n (0 : Int) ++ bs) → (List.replicate n (0 : Int) ++ bs).length ≤ c → c ≤ maxLen → Hid (Calls Try.prog 24 #[.slice A (List.replicate n (0 : Int) ++ bs).length c, .int .i64 n] w' (DPost w' ⟨n, iop, ia, ib, bs.length⟩ 0))) (b0 : Option Addr) (cap0 : Nat) (ys : List Int)
    (jat jop ja jb jsz code2 : Int) 
    (hd2 : ∀ V, Below w.heap.size w V → Hid (Calls Try.prog 24 #[.slice b0 ys.length cap0, .int .i64 0] V (DPost V ⟨jat, jop, ja, jb, jsz⟩ code2))) (hc2 : (code2 == 0) = false) :
    Calls Try.prog 12 #[.agg #[.int .i64 n, .int .i64 iop, .int .i64 ia, .int .i64 ib, .int .i64 isz], .slice b0 ys.length cap0] w fun e w' => e = .returned (.bool true) ∧ Below w.heap.size w w' := by
  obtain ⟨i0, hi0, hz0, hz1, hz2⟩ := info_parts infoB
  have gaw := fun w => Lib.hid (awake06 w)
  have hn2 : (code2 != 0) = true := by simp [bne, hc2]
  have hI := Blk.new w 28 #[.int .i64 n, .int .i64 iop, .int .i64 ia, .int .i64 ib, .int .i64 isz]
  have hB0 : Below w.heap.size w (w.alloc (.cells #[.int .i64 n, .int .i64 iop, .int .i64 ia, .int .i64 ib, .int .i64 isz] 28)) := (Below.refl _ _).alloc (Nat.le_refl _) _
  go_enter Try.func12, Try.ntmps12
  go_wp2_with fail
  generalize w.alloc (.cells #[.int .i64 n, .int .i64 iop, .int .i64 ia, .int .i64 ib, .int .i64 isz] 28) = W at *
  refine (h1 _).out.mono ?_
  rintro _ w1 ⟨A1, c1, rfl, hO1, hb1⟩
  have hI1 := hI.below hb1 hI.lt
  have hB1 := bnext hB0 hb1
  have d0 : w1.cell? ⟨w.heap.size, 0, none⟩ = some (.int .i64 n) := hI1.cell 0
  have d1 : w1.cell? ⟨w.heap.size, 1, none⟩ = some (.int .i64 iop) := hI1.cell 1
  have d2 : w1.cell? ⟨w.heap.size, 2, none⟩ = some (.int .i64 ia) := hI1.cell 2
  have d3 : w1.cell? ⟨w.heap.size, 3, none⟩ = some (.int .i64 ib) := hI1.cell 3
  have d4 : w1.cell? ⟨w.heap.size, 4, none⟩ = some (.int .i64 isz) := hI1.cell 4
  have df0 := hI1.frozen 0
  have df1 := hI1.frozen 1
  have df2 := hI1.frozen 2
  have df3 := hI1.frozen 3
  have df4 := hI1.frozen 4
  clear hI hB0 hb1
  go_wp2_with fail
  refine (gs _).out.mono ?_
  rintro _ w4 ⟨rfl, hb4⟩
  have hI4 := hI1.below hb4 hI1.lt
  have hB4 := bnext hB1 hb4
  have hO4 := OwnB.below hO1 hb4
  have hlt4 := hI4.lt
  have e0 : w4.cell? ⟨w.heap.size, 0, none⟩ = some (.int .i64 n) := hI4.cell 0
  have e1 : w4.cell? ⟨w.heap.size, 1, none⟩ = some (.int .i64 iop) := hI4.cell 1
  have e2 : w4.cell? ⟨w.heap.size, 2, none⟩ = some (.int .i64 ia) := hI4.cell 2
  have e3 : w4.cell? ⟨w.heap.size, 3, none⟩ = some (.int .i64 ib) := hI4.cell 3
  have e4 : w4.cell? ⟨w.heap.size, 4, none⟩ = some (.int .i64 isz) := hI4.cell 4
  have ef0 := hI4.frozen 0
  have ef1 := hI4.frozen 1
  have ef2 := hI4.frozen 2
  have ef3 := hI4.frozen 3
  have ef4 := hI4.frozen 4
  clear d0 d1 d2 d3 d4 df0 df1 df2 df3 df4 hI1 hB1 hO1 hb4 h1 gs
  have hzl : (List.replicate n (0 : Int) ++ bs).length = n + bs.length := by rw [List.length_append, List.length_replicate]
  go_wp2_with (first
    | (at_make
       refine wpList_make_full _ rfl _ _ 31 rfl w4.heap.size 5 i0 _ 1 Try.underlying31 hi0 hz0 hz1 .i64 .i64 _ _ n rfl rfl rfl rfl (by rw [hz2]; omega) (by unfold maxLen; omega) (Nat.le_refl _) ?_
       intro w5 hown5 hg5
       have hb5 : Below w4.heap.size w4 w5 := grown_below hg5 (Nat.le_refl _) (fun _ h => by cases h)
       have hown5' : OwnB w5 w4.heap.size (.slice (some ⟨w4.heap.size, 0, none⟩) n n) (List.replicate n 0) := by
         unfold OwnB; rw [List.length_replicate, ← made_zero]; exact hown5
       have hO5 := OwnB.below hO4 hb5)
    | (at_builtin
       refine wpList_appB _ rfl (.tmp 35) (.tmp 36) rfl w4.heap.size (.slice (some ⟨w4.heap.size, 0, none⟩) n n) (List.replicate n 0) rfl (by first | exact hown5' | simpa using hown5') w5.heap.size A1 bs.length c1 bs rfl hO5.reads rfl
         (List.replicate n (0 : Int) ++ bs) (List.replicate n (0 : Int) ++ bs).length rfl rfl (by omega) hb5.size ?_
       intro A6 c6 w6 hown6 _ hb6 _))
  have hc6 := hown6.cap
  have hd := hd1 A6 c6 w6 hown6.reads hc6.1 hc6.2
  rw [hzl] at hd
  refine hd.out.mono ?_
  rintro _ w7 ⟨rfl, hb7⟩
  have hb47 := (hb5.trans hb6).trans (hb7.mono (Nat.le_trans hb5.size hb6.size))
  have hI7 := hI4.below hb47 hlt4
  have hB7 := bnext hB4 hb47
  have hK := Blk.new w7 28 #[.int .i64 n, .int .i64 iop, .int .i64 ia, .int .i64 ib, .int .i64 bs.length]
  have hB8 := hB7.alloc hB7.size (.cells #[.int .i64 n, .int .i64 iop, .int .i64 ia, .int .i64 ib, .int .i64 bs.length] 28)
  have hlt7 := hI7.lt
  have g0 : w7.cell? ⟨w.heap.size, 0, none⟩ = some (.int .i64 n) := hI7.cell 0
  have g1 : w7.cell? ⟨w.heap.size, 1, none⟩ = some (.int .i64 iop) := hI7.cell 1
  have g2 : w7.cell? ⟨w.heap.size, 2, none⟩ = some (.int .i64 ia) := hI7.cell 2
  have g3 : w7.cell? ⟨w.heap.size, 3, none⟩ = some (.int .i64 ib) := hI7.cell 3
  have g4 : w7.cell? ⟨w.heap.size, 4, none⟩ = some (.int .i64 isz) := hI7.cell 4
  have gf0 := hI7.frozen 0
  have gf1 := hI7.frozen 1
  have gf2 := hI7.frozen 2
  have gf3 := hI7.frozen 3
  have gf4 := hI7.frozen 4
  clear e0 e1 e2 e3 e4 ef0 ef1 ef2 ef3 ef4 hI4 hB4 hO4 hd hd1 hown5 hown5' hown6 hg5 hb5 hb6 hb7 hb47 hI7 hB7 hO5 hc6 hi0 hz0 hz1 hz2
  unfold Ins.val
  go_wp2_with fail
  have hBB := hB8
  clear g0 g1 g2 g3 g4 gf0 gf1 gf2 gf3 gf4 hK hB8
  generalize w7.alloc (.cells #[.int .i64 n, .int .i64 iop, .int .i64 ia, .int .i64 ib, .int .i64 bs.length] 28) = V at *
  refine (hd2 V hBB).out.mono ?_
  rintro _ v1 ⟨rfl, hv1⟩
  have hJ := Blk.new v1 28 #[.int .i64 jat, .int .i64 jop, .int .i64 ja, .int .i64 jb, .int .i64 jsz]
  have hV1 := (bnext hBB hv1)
  have hV2 := hV1.alloc hV1.size (.cells #[.int .i64 jat, .int .i64 jop, .int .i64 ja, .int .i64 jb, .int .i64 jsz] 28)
  clear hv1 hd2 hBB
  unfold Ins.val
  go_wp2_with fail
  refine (gaw _).out.mono ?_
  rintro _ v2 ⟨rfl, hv2⟩
  go_wp2_with fail
  go_ret
  exact ⟨rfl, bnext hV2 hv2⟩

set_option maxRecDepth 100000 in
set_option maxHeartbeats 4000000 in
theorem walk_22 (n : Nat) (iop ia ib isz s : Int) (bs : List Int) (w : World) (hs : (s == 116) = true) (hbl : bs.length ≤ 3) (hn : n ≤ 4096)
    (h1 : ∀ w, Hid (Calls Try.prog 22 #[.agg #[.int .i64 (n : Int), .int .i64 iop, .int .i64 ia, .int .i64 ib, .int .i64 isz]] w (BPost w bs 0)))
    (gs : ∀ w, Hid (Calls Try.prog 15 #[.int .i64 iop] w fun e w' => e = .returned (.tuple #[.int .u8 s, .bool true]) ∧ Below w.heap.size w w'))
    (hd1 : ∀ A c w', ReadsB w' w'.heap.size A (List.replicate n (0 : Int) ++ bs) → (List.replicate n (0 : Int) ++ bs).length ≤ c → c ≤ maxLen → Hid (Calls Try.prog 24 #[.slice A (List.replicate n (0 : Int) ++ bs).length c, .int .i64 n] w' (DPost w' ⟨n, iop, ia, ib, bs.length⟩ 0))) (b0 : Option Addr) (cap0 : Nat) (ys : List Int)
    (jat jop ja jb jsz : Int) 
    (hd2 : ∀ V, Below w.heap.size w V → Hid (Calls Try.prog 24 #[.slice b0 ys.length cap0, .int .i64 0] V (DPost V ⟨jat, jop, ja, jb, jsz⟩ 0))) (hj : ja < 0) :
    Calls Try.prog 12 #[.agg #[.int .i64 n, .int .i64 iop, .int .i64 ia, .int .i64 ib, .int .i64 isz], .slice b0 ys.length cap0] w fun e w' => e = .returned (.bool true) ∧ Below w.heap.size w w' := by
  obtain ⟨i0, hi0, hz0, hz1, hz2⟩ := info_parts infoB
  have gaw := fun w => Lib.hid (awake06 w)
  have hj1 : decide (ja < 0) = true := decide_eq_true hj
  have hI := Blk.new w 28 #[.int .i64 n, .int .i64 iop, .int .i64 ia, .int .i64 ib, .int .i64 isz]
  have hB0 : Below w.heap.size w (w.alloc (.cells #[.int .i64 n, .int .i64 iop, .int .i64 ia, .int .i64 ib, .int .i64 isz] 28)) := (Below.refl _ _).alloc (Nat.le_refl _) _
  go_enter Try.func12, Try.ntmps12
  go_wp2_with fail
  generalize w.alloc (.cells #[.int .i64 n, .int .i64 iop, .int .i64 ia, .int .i64 ib, .int .i64 isz] 28) = W at *
  refine (h1 _).out.mono ?_
  rintro _ w1 ⟨A1, c1, rfl, hO1, hb1⟩
  have hI1 := hI.below hb1 hI.lt
  have hB1 := bnext hB0 hb1
  have d0 : w1.cell? ⟨w.heap.size, 0, none⟩ = some (.int .i64 n) := hI1.cell 0
  have d1 : w1.cell? ⟨w.heap.size, 1, none⟩ = some (.int .i64 iop) := hI1.cell 1
  have d2 : w1.cell? ⟨w.heap.size, 2, none⟩ = some (.int .i64 ia) := hI1.cell 2
  have d3 : w1.cell? ⟨w.heap.size, 3, none⟩ = some (.int .i64 ib) := hI1.cell 3
  have d4 : w1.cell? ⟨w.heap.size, 4, none⟩ = some (.int .i64 isz) := hI1.cell 4
  have df0 := hI1.frozen 0
  have df1 := hI1.frozen 1
  have df2 := hI1.frozen 2
  have df3 := hI1.frozen 3
  have df4 := hI1.frozen 4
  clear hI hB0 hb1
  go_wp2_with fail
  refine (gs _).out.mono ?_
  rintro _ w4 ⟨rfl, hb4⟩
  have hI4 := hI1.below hb4 hI1.lt
  have hB4 := bnext hB1 hb4
  have hO4 := OwnB.below hO1 hb4
  have hlt4 := hI4.lt
  have e0 : w4.cell? ⟨w.heap.size, 0, none⟩ = some (.int .i64 n) := hI4.cell 0
  have e1 : w4.cell? ⟨w.heap.size, 1, none⟩ = some (.int .i64 iop) := hI4.cell 1
  have e2 : w4.cell? ⟨w.heap.size, 2, none⟩ = some (.int .i64 ia) := hI4.cell 2
  have e3 : w4.cell? ⟨w.heap.size, 3, none⟩ = some (.int .i64 ib) := hI4.cell 3
  have e4 : w4.cell? ⟨w.heap.size, 4, none⟩ = some (.int .i64 isz) := hI4.cell 4
  have ef0 := hI4.frozen 0
  have ef1 := hI4.frozen 1
  have ef2 := hI4.frozen 2
  have ef3 := hI4.frozen 3
  have ef4 := hI4.frozen 4
  clear d0 d1 d2 d3 d4 df0 df1 df2 df3 df4 hI1 hB1 hO1 hb4 h1 gs
  have hzl : (List.replicate n (0 : Int) ++ bs).length = n + bs.length := by rw [List.length_append, List.length_replicate]
  go_wp2_with (first
    | (at_make
       refine wpList_make_full _ rfl _ _ 31 rfl w4.heap.size 5 i0 _ 1 Try.underlying31 hi0 hz0 hz1 .i64 .i64 _ _ n rfl rfl rfl rfl (by rw [hz2]; omega) (by unfold maxLen; omega) (Nat.le_refl _) ?_
       intro w5 hown5 hg5
       have hb5 : Below w4.heap.size w4 w5 := grown_below hg5 (Nat.le_refl _) (fun _ h => by cases h)
       have hown5' : OwnB w5 w4.heap.size (.slice (some ⟨w4.heap.size, 0, none⟩) n n) (List.replicate n 0) := by
         unfold OwnB; rw [List.length_replicate, ← made_zero]; exact hown5
       have hO5 := OwnB.below hO4 hb5)
    | (at_builtin
       refine wpList_appB _ rfl (.tmp 35) (.tmp 36) rfl w4.heap.size (.slice (some ⟨w4.heap.size, 0, none⟩) n n) (List.replicate n 0) rfl (by first | exact hown5' | simpa using hown5') w5.heap.size A1 bs.length c1 bs rfl hO5.reads rfl
         (List.replicate n (0 : Int) ++ bs) (List.replicate n (0 : Int) ++ bs).length rfl rfl (by omega) hb5.size ?_
       intro A6 c6 w6 hown6 _ hb6 _))
  have hc6 := hown6.cap
  have hd := hd1 A6 c6 w6 hown6.reads hc6.1 hc6.2
  rw [hzl] at hd
  refine hd.out.mono ?_
  rintro _ w7 ⟨rfl, hb7⟩
  have hb47 := (hb5.trans hb6).trans (hb7.mono (Nat.le_trans hb5.size hb6.size))
  have hI7 := hI4.below hb47 hlt4
  have hB7 := bnext hB4 hb47
  have hK := Blk.new w7 28 #[.int .i64 n, .int .i64 iop, .int .i64 ia, .int .i64 ib, .int .i64 bs.length]
  have hB8 := hB7.alloc hB7.size (.cells #[.int .i64 n, .int .i64 iop, .int .i64 ia, .int .i64 ib, .int .i64 bs.length] 28)
  have hlt7 := hI7.lt
  have g0 : w7.cell? ⟨w.heap.size, 0, none⟩ = some (.int .i64 n) := hI7.cell 0
  have g1 : w7.cell? ⟨w.heap.size, 1, none⟩ = some (.int .i64 iop) := hI7.cell 1
  have g2 : w7.cell? ⟨w.heap.size, 2, none⟩ = some (.int .i64 ia) := hI7.cell 2
  have g3 : w7.cell? ⟨w.heap.size, 3, none⟩ = some (.int .i64 ib) := hI7.cell 3
  have g4 : w7.cell? ⟨w.heap.size, 4, none⟩ = some (.int .i64 isz) := hI7.cell 4
  have gf0 := hI7.frozen 0
  have gf1 := hI7.frozen 1
  have gf2 := hI7.frozen 2
  have gf3 := hI7.frozen 3
  have gf4 := hI7.frozen 4
  clear e0 e1 e2 e3 e4 ef0 ef1 ef2 ef3 ef4 hI4 hB4 hO4 hd hd1 hown5 hown5' hown6 hg5 hb5 hb6 hb7 hb47 hI7 hB7 hO5 hc6 hi0 hz0 hz1 hz2
  unfold Ins.val
  go_wp2_with fail
  have hBB := hB8
  clear g0 g1 g2 g3 g4 gf0 gf1 gf2 gf3 gf4 hK hB8
  generalize w7.alloc (.cells #[.int .i64 n, .int .i64 iop, .int .i64 ia, .int .i64 ib, .int .i64 bs.length] 28) = V at *
  refine (hd2 V hBB).out.mono ?_
  rintro _ v1 ⟨rfl, hv1⟩
  have hJ := Blk.new v1 28 #[.int .i64 jat, .int .i64 jop, .int .i64 ja, .int .i64 jb, .int .i64 jsz]
  have hV1 := (bnext hBB hv1)
  have hV2 := hV1.alloc hV1.size (.cells #[.int .i64 jat, .int .i64 jop, .int .i64 ja, .int .i64 jb, .int .i64 jsz] 28)
  clear hv1 hd2 hBB
  unfold Ins.val
  go_wp2_with fail
  refine (gaw _).out.mono ?_
  rintro _ v2 ⟨rfl, hv2⟩
  go_wp2_with fail
  go_ret
  exact ⟨rfl, bnext hV2 hv2⟩

set_option maxRecDepth 100000 in
set_option maxHeartbeats 4000000 in
theorem walk_23 (n : Nat) (iop ia ib isz s : Int) (bs : List Int) (w : World) (hs : (s == 116) = true) (hbl : bs.length ≤ 3) (hn : n ≤ 4096)
    (h1 : ∀ w, Hid (Calls Try.prog 22 #[.agg #[.int .i64 (n : Int), .int .i64 iop, .int .i64 ia, .int .i64 ib, .int .i64 isz]] w (BPost w bs 0)))
    (gs : ∀ w, Hid (Calls Try.prog 15 #[.int .i64 iop] w fun e w' => e = .returned (.tuple #[.int .u8 s, .bool true]) ∧ Below w.heap.size w w'))
    (hd1 : ∀ A c w', ReadsB w' w'.heap.size A (List.replicate n (0 : Int) ++ bs) → (List.replicate n (0 : Int) ++ bs).length ≤ c → c ≤ maxLen → Hid (Calls Try.prog 24 #[.slice A (List.replicate n (0 : Int) ++ bs).length c, .int .i64 n] w' (DPost w' ⟨n, iop, ia, ib, bs.length⟩ 0))) (b0 : Option Addr) (cap0 : Nat) (ys : List Int)
    (jat jop ja jb jsz : Int) 
    (hd2 : ∀ V, Below w.heap.size w V → Hid (Calls Try.prog 24 #[.slice b0 ys.length cap0, .int .i64 0] V (DPost V ⟨jat, jop, ja, jb, jsz⟩ 0))) (hj : 4096 < ja) :
    Calls Try.prog 12 #[.agg #[.int .i64 n, .int .i64 iop, .int .i64 ia, .int .i64 ib, .int .i64 isz], .slice b0 ys.length cap0] w fun e w' => e = .returned (.bool true) ∧ Below w.heap.size w w' := by
  obtain ⟨i0, hi0, hz0, hz1, hz2⟩ := info_parts infoB
  have gaw := fun w => Lib.hid (awake06 w)
  have hj1 : decide (ja < 0) = false := decide_eq_false (by omega)
  have hj2 : decide (4096 < ja) = true := decide_eq_true hj
  have hI := Blk.new w 28 #[.int .i64 n, .int .i64 iop, .int .i64 ia, .int .i64 ib, .int .i64 isz]
  have hB0 : Below w.heap.size w (w.alloc (.cells #[.int .i64 n, .int .i64 iop, .int .i64 ia, .int .i64 ib, .int .i64 isz] 28)) := (Below.refl _ _).alloc (Nat.le_refl _) _
  go_enter Try.func12, Try.ntmps12
  go_wp2_with fail
  generalize w.alloc (.cells #[.int .i64 n, .int .i64 iop, .int .i64 ia, .int .i64 ib, .int .i64 isz] 28) = W at *
  refine (h1 _).out.mono ?_
  rintro _ w1 ⟨A1, c1, rfl, hO1, hb1⟩
  have hI1 := hI.below hb1 hI.lt
  have hB1 := bnext hB0 hb1
  have d0 : w1.cell? ⟨w.heap.size, 0, none⟩ = some (.int .i64 n) := hI1.cell 0
  have d1 : w1.cell? ⟨w.heap.size, 1, none⟩ = some (.int .i64 iop) := hI1.cell 1
  have d2 : w1.cell? ⟨w.heap.size, 2, none⟩ = some (.int .i64 ia) := hI1.cell 2
  have d3 : w1.cell? ⟨w.heap.size, 3, none⟩ = some (.int .i64 ib) := hI1.cell 3
  have d4 : w1.cell? ⟨w.heap.size, 4, none⟩ = some (.int .i64 isz) := hI1.cell 4
  have df0 := hI1.frozen 0
  have df1 := hI1.frozen 1
  have df2 := hI1.frozen 2
  have df3 := hI1.frozen 3
  have df4 := hI1.frozen 4
  clear hI hB0 hb1
  go_wp2_with fail
  refine (gs _).out.mono ?_
  rintro _ w4 ⟨rfl, hb4⟩
  have hI4 := hI1.below hb4 hI1.lt
  have hB4 := bnext hB1 hb4
  have hO4 := OwnB.below hO1 hb4
  have hlt4 := hI4.lt
  have e0 : w4.cell? ⟨w.heap.size, 0, none⟩ = some (.int .i64 n) := hI4.cell 0
  have e1 : w4.cell? ⟨w.heap.size, 1, none⟩ = some (.int .i64 iop) := hI4.cell 1
  have e2 : w4.cell? ⟨w.heap.size, 2, none⟩ = some (.int .i64 ia) := hI4.cell 2
  have e3 : w4.cell? ⟨w.heap.size, 3, none⟩ = some (.int .i64 ib) := hI4.cell 3
  have e4 : w4.cell? ⟨w.heap.size, 4, none⟩ = some (.int .i64 isz) := hI4.cell 4
  have ef0 := hI4.frozen 0
  have ef1 := hI4.frozen 1
  have ef2 := hI4.frozen 2
  have ef3 := hI4.frozen 3
  have ef4 := hI4.frozen 4
  clear d0 d1 d2 d3 d4 df0 df1 df2 df3 df4 hI1 hB1 hO1 hb4 h1 gs
  have hzl : (List.replicate n (0 : Int) ++ bs).length = n + bs.length := by rw [List.length_append, List.length_replicate]
  go_wp2_with (first
    | (at_make
       refine wpList_make_full _ rfl _ _ 31 rfl w4.heap.size 5 i0 _ 1 Try.underlying31 hi0 hz0 hz1 .i64 .i64 _ _ n rfl rfl rfl rfl (by rw [hz2]; omega) (by unfold maxLen; omega) (Nat.le_refl _) ?_
       intro w5 hown5 hg5
       have hb5 : Below w4.heap.size w4 w5 := grown_below hg5 (Nat.le_refl _) (fun _ h => by cases h)
       have hown5' : OwnB w5 w4.heap.size (.slice (some ⟨w4.heap.size, 0, none⟩) n n) (List.replicate n 0) := by
         unfold OwnB; rw [List.length_replicate, ← made_zero]; exact hown5
       have hO5 := OwnB.below hO4 hb5)
    | (at_builtin
       refine wpList_appB _ rfl (.tmp 35) (.tmp 36) rfl w4.heap.size (.slice (some ⟨w4.heap.size, 0, none⟩) n n) (List.replicate n 0) rfl (by first | exact hown5' | simpa using hown5') w5.heap.size A1 bs.length c1 bs rfl hO5.reads rfl
         (List.replicate n (0 : Int) ++ bs) (List.replicate n (0 : Int) ++ bs).length rfl rfl (by omega) hb5.size ?_
       intro A6 c6 w6 hown6 _ hb6 _))
  have hc6 := hown6.cap
  have hd := hd1 A6 c6 w6 hown6.reads hc6.1 hc6.2
  rw [hzl] at hd
  refine hd.out.mono ?_
  rintro _ w7 ⟨rfl, hb7⟩
  have hb47 := (hb5.trans hb6).trans (hb7.mono (Nat.le_trans hb5.size hb6.size))
  have hI7 := hI4.below hb47 hlt4
  have hB7 := bnext hB4 hb47
  have hK := Blk.new w7 28 #[.int .i64 n, .int .i64 iop, .int .i64 ia, .int .i64 ib, .int .i64 bs.length]
  have hB8 := hB7.alloc hB7.size (.cells #[.int .i64 n, .int .i64 iop, .int .i64 ia, .int .i64 ib, .int .i64 bs.length] 28)
  have hlt7 := hI7.lt
  have g0 : w7.cell? ⟨w.heap.size, 0, none⟩ = some (.int .i64 n) := hI7.cell 0
  have g1 : w7.cell? ⟨w.heap.size, 1, none⟩ = some (.int .i64 iop) := hI7.cell 1
  have g2 : w7.cell? ⟨w.heap.size, 2, none⟩ = some (.int .i64 ia) := hI7.cell 2
  have g3 : w7.cell? ⟨w.heap.size, 3, none⟩ = some (.int .i64 ib) := hI7.cell 3
  have g4 : w7.cell? ⟨w.heap.size, 4, none⟩ = some (.int .i64 isz) := hI7.cell 4
  have gf0 := hI7.frozen 0
  have gf1 := hI7.frozen 1
  have gf2 := hI7.frozen 2
  have gf3 := hI7.frozen 3
  have gf4 := hI7.frozen 4
  clear e0 e1 e2 e3 e4 ef0 ef1 ef2 ef3 ef4 hI4 hB4 hO4 hd hd1 hown5 hown5' hown6 hg5 hb5 hb6 hb7 hb47 hI7 hB7 hO5 hc6 hi0 hz0 hz1 hz2
  unfold Ins.val
  go_wp2_with fail
  have hBB := hB8
  clear g0 g1 g2 g3 g4 gf0 gf1 gf2 gf3 gf4 hK hB8
  generalize w7.alloc (.cells #[.int .i64 n, .int .i64 iop, .int .i64 ia, .int .i64 ib, .int .i64 bs.length] 28) = V at *
  refine (hd2 V hBB).out.mono ?_
  rintro _ v1 ⟨rfl, hv1⟩
  have hJ := Blk.new v1 28 #[.int .i64 jat, .int .i64 jop, .int .i64 ja, .int .i64 jb, .int .i64 jsz]
  have hV1 := (bnext hBB hv1)
  have hV2 := hV1.alloc hV1.size (.cells #[.int .i64 jat, .int .i64 jop, .int .i64 ja, .int .i64 jb, .int .i64 jsz] 28)
  clear hv1 hd2 hBB
  unfold Ins.val
  go_wp2_with fail
  refine (gaw _).out.mono ?_
  rintro _ v2 ⟨rfl, hv2⟩
  go_wp2_with fail
  go_ret
  exact ⟨rfl, bnext hV2 hv2⟩

set_option maxRecDepth 100000 in
set_option maxHeartbeats 4000000 in
theorem walk_24 (n : Nat) (iop ia ib isz s : Int) (bs : List Int) (w : World) (hs : (s == 116) = true) (hbl : bs.length ≤ 3) (hn : n ≤ 4096)
    (h1 : ∀ w, Hid (Calls Try.prog 22 #[.agg #[.int .i64 (n : Int), .int .i64 iop, .int .i64 ia, .int .i64 ib, .int .i64 isz]] w (BPost w bs 0)))
    (gs : ∀ w, Hid (Calls Try.prog 15 #[.int .i64 iop] w fun e w' => e = .returned (.tuple #[.int .u8 s, .bool true]) ∧ Below w.heap.size w w'))
    (hd1 : ∀ A c w', ReadsB w' w'.heap.size A (List.replicate n (0 : Int) ++ bs) → (List.replicate n (0 : Int) ++ bs).length ≤ c → c ≤ maxLen → Hid (Calls Try.prog 24 #[.slice A (List.replicate n (0 : Int) ++ bs).length c, .int .i64 n] w' (DPost w' ⟨n, iop, ia, ib, bs.length⟩ 0))) (cap0 : Nat) (ys : List Int)
    (jat jop ja jb  : Int) (z : Nat) (ad : Addr) 
    (hd2 : ∀ V, Below w.heap.size w V → Hid (Calls Try.prog 24 #[.slice (some ad) ys.length cap0, .int .i64 0] V (DPost V ⟨jat, jop, ja, jb, (z : Nat)⟩ 0))) (hj : 0 ≤ ja) (hj2 : ja ≤ 4096) (hz0 : 1 ≤ z) (hz1 : z ≤ ys.length) (hyc : ys.length ≤ cap0) (hym : cap0 ≤ 140737488351232)
    (hy : ReadsB w w.heap.size (some ad) ys)
    (h2 : ∀ w, Hid (Calls Try.prog 22 #[.agg #[.int .i64 jat, .int .i64 jop, .int .i64 ja, .int .i64 jb, .int .i64 (z : Nat)]] w (BPost w (ys.take z) 0))) :
    Calls Try.prog 12 #[.agg #[.int .i64 n, .int .i64 iop, .int .i64 ia, .int .i64 ib, .int .i64 isz], .slice (some ad) ys.length cap0] w fun e w' => e = .returned (.bool true) ∧ Below w.heap.size w w' := by
  obtain ⟨i0, hi0, hz0, hz1, hz2⟩ := info_parts infoB
  have gaw := fun w => Lib.hid (awake06 w)
  have hk1 : decide (ja < 0) = false := decide_eq_false (by omega)
  have hk2 : decide (4096 < ja) = false := decide_eq_false (by omega)
  have hI := Blk.new w 28 #[.int .i64 n, .int .i64 iop, .int .i64 ia, .int .i64 ib, .int .i64 isz]
  have hB0 : Below w.heap.size w (w.alloc (.cells #[.int .i64 n, .int .i64 iop, .int .i64 ia, .int .i64 ib, .int .i64 isz] 28)) := (Below.refl _ _).alloc (Nat.le_refl _) _
  go_enter Try.func12, Try.ntmps12
  go_wp2_with fail
  generalize w.alloc (.cells #[.int .i64 n, .int .i64 iop, .int .i64 ia, .int .i64 ib, .int .i64 isz] 28) = W at *
  refine (h1 _).out.mono ?_
  rintro _ w1 ⟨A1, c1, rfl, hO1, hb1⟩
  have hI1 := hI.below hb1 hI.lt
  have hB1 := bnext hB0 hb1
  have d0 : w1.cell? ⟨w.heap.size, 0, none⟩ = some (.int .i64 n) := hI1.cell 0
  have d1 : w1.cell? ⟨w.heap.size, 1, none⟩ = some (.int .i64 iop) := hI1.cell 1
  have d2 : w1.cell? ⟨w.heap.size, 2, none⟩ = some (.int .i64 ia) := hI1.cell 2
  have d3 : w1.cell? ⟨w.heap.size, 3, none⟩ = some (.int .i64 ib) := hI1.cell 3
  have d4 : w1.cell? ⟨w.heap.size, 4, none⟩ = some (.int .i64 isz) := hI1.cell 4
  have df0 := hI1.frozen 0
  have df1 := hI1.frozen 1
  have df2 := hI1.frozen 2
  have df3 := hI1.frozen 3
  have df4 := hI1.frozen 4
  clear hI hB0 hb1
  go_wp2_with fail
  refine (gs _).out.mono ?_
  rintro _ w4 ⟨rfl, hb4⟩
  have hI4 := hI1.below hb4 hI1.lt
  have hB4 := bnext hB1 hb4
  have hO4 := OwnB.below hO1 hb4
  have hlt4 := hI4.lt
  have e0 : w4.cell? ⟨w.heap.size, 0, none⟩ = some (.int .i64 n) := hI4.cell 0
  have e1 : w4.cell? ⟨w.heap.size, 1, none⟩ = some (.int .i64 iop) := hI4.cell 1
  have e2 : w4.cell? ⟨w.heap.size, 2, none⟩ = some (.int .i64 ia) := hI4.cell 2
  have e3 : w4.cell? ⟨w.heap.size, 3, none⟩ = some (.int .i64 ib) := hI4.cell 3
  have e4 : w4.cell? ⟨w.heap.size, 4, none⟩ = some (.int .i64 isz) := hI4.cell 4
  have ef0 := hI4.frozen 0
  have ef1 := hI4.frozen 1
  have ef2 := hI4.frozen 2
  have ef3 := hI4.frozen 3
  have ef4 := hI4.frozen 4
  clear d0 d1 d2 d3 d4 df0 df1 df2 df3 df4 hI1 hB1 hO1 hb4 h1 gs
  have hzl : (List.replicate n (0 : Int) ++ bs).length = n + bs.length := by rw [List.length_append, List.length_replicate]
  go_wp2_with (first
    | (at_make
       refine wpList_make_full _ rfl _ _ 31 rfl w4.heap.size 5 i0 _ 1 Try.underlying31 hi0 hz0 hz1 .i64 .i64 _ _ n rfl rfl rfl rfl (by rw [hz2]; omega) (by unfold maxLen; omega) (Nat.le_refl _) ?_
       intro w5 hown5 hg5
       have hb5 : Below w4.heap.size w4 w5 := grown_below hg5 (Nat.le_refl _) (fun _ h => by cases h)
       have hown5' : OwnB w5 w4.heap.size (.slice (some ⟨w4.heap.size, 0, none⟩) n n) (List.replicate n 0) := by
         unfold OwnB; rw [List.length_replicate, ← made_zero]; exact hown5
       have hO5 := OwnB.below hO4 hb5)
    | (at_builtin
       refine wpList_appB _ rfl (.tmp 35) (.tmp 36) rfl w4.heap.size (.slice (some ⟨w4.heap.size, 0, none⟩) n n) (List.replicate n 0) rfl (by first | exact hown5' | simpa using hown5') w5.heap.size A1 bs.length c1 bs rfl hO5.reads rfl
         (List.replicate n (0 : Int) ++ bs) (List.replicate n (0 : Int) ++ bs).length rfl rfl (by omega) hb5.size ?_
       intro A6 c6 w6 hown6 _ hb6 _))
  have hc6 := hown6.cap
  have hd := hd1 A6 c6 w6 hown6.reads hc6.1 hc6.2
  rw [hzl] at hd
  refine hd.out.mono ?_
  rintro _ w7 ⟨rfl, hb7⟩
  have hb47 := (hb5.trans hb6).trans (hb7.mono (Nat.le_trans hb5.size hb6.size))
  have hI7 := hI4.below hb47 hlt4
  have hB7 := bnext hB4 hb47
  have hK := Blk.new w7 28 #[.int .i64 n, .int .i64 iop, .int .i64 ia, .int .i64 ib, .int .i64 bs.length]
  have hB8 := hB7.alloc hB7.size (.cells #[.int .i64 n, .int .i64 iop, .int .i64 ia, .int .i64 ib, .int .i64 bs.length] 28)
  have hlt7 := hI7.lt
  have g0 : w7.cell? ⟨w.heap.size, 0, none⟩ = some (.int .i64 n) := hI7.cell 0
  have g1 : w7.cell? ⟨w.heap.size, 1, none⟩ = some (.int .i64 iop) := hI7.cell 1
  have g2 : w7.cell? ⟨w.heap.size, 2, none⟩ = some (.int .i64 ia) := hI7.cell 2
  have g3 : w7.cell? ⟨w.heap.size, 3, none⟩ = some (.int .i64 ib) := hI7.cell 3
  have g4 : w7.cell? ⟨w.heap.size, 4, none⟩ = some (.int .i64 isz) := hI7.cell 4
  have gf0 := hI7.frozen 0
  have gf1 := hI7.frozen 1
  have gf2 := hI7.frozen 2
  have gf3 := hI7.frozen 3
  have gf4 := hI7.frozen 4
  clear e0 e1 e2 e3 e4 ef0 ef1 ef2 ef3 ef4 hI4 hB4 hO4 hd hd1 hown5 hown5' hown6 hg5 hb5 hb6 hb7 hb47 hI7 hB7 hO5 hc6 hi0 hz0 hz1 hz2
  unfold Ins.val
  go_wp2_with fail
  have hBB := hB8
  clear g0 g1 g2 g3 g4 gf0 gf1 gf2 gf3 gf4 hK hB8
  generalize w7.alloc (.cells #[.int .i64 n, .int .i64 iop, .int .i64 ia, .int .i64 ib, .int .i64 bs.length] 28) = V at *
  refine (hd2 V hBB).out.mono ?_
  rintro _ v1 ⟨rfl, hv1⟩
  have hJ := Blk.new v1 28 #[.int .i64 jat, .int .i64 jop, .int .i64 ja, .int .i64 jb, .int .i64 (z : Nat)]
  have hV1 := (bnext hBB hv1)
  have hV2 := hV1.alloc hV1.size (.cells #[.int .i64 jat, .int .i64 jop, .int .i64 ja, .int .i64 jb, .int .i64 (z : Nat)] 28)
  clear hv1 hd2 hBB
  unfold Ins.val
  go_wp2_with fail
  generalize v1.alloc (.cells #[.int .i64 jat, .int .i64 jop, .int .i64 ja, .int .i64 jb, .int .i64 (z : Nat)] 28) = V2 at *
  refine (h2 _).out.mono ?_
  rintro _ v3 ⟨A3, c3, rfl, hO3, hv3⟩
  have hJ3 := hJ.below hv3 hJ.lt
  have hV3 := bnext hV2 hv3
  have hlt3 := hJ3.lt
  have j0 : v3.cell? ⟨v1.heap.size, 0, none⟩ = some (.int .i64 jat) := hJ3.cell 0
  have j1 : v3.cell? ⟨v1.heap.size, 1, none⟩ = some (.int .i64 jop) := hJ3.cell 1
  have j2 : v3.cell? ⟨v1.heap.size, 2, none⟩ = some (.int .i64 ja) := hJ3.cell 2
  have j3 : v3.cell? ⟨v1.heap.size, 3, none⟩ = some (.int .i64 jb) := hJ3.cell 3
  have j4 : v3.cell? ⟨v1.heap.size, 4, none⟩ = some (.int .i64 (z : Nat)) := hJ3.cell 4
  have jf0 := hJ3.frozen 0
  have jf1 := hJ3.frozen 1
  have jf2 := hJ3.frozen 2
  have jf3 := hJ3.frozen 3
  have jf4 := hJ3.frozen 4
  have hy3 : ReadsB v3 w.heap.size (some ad) (ys.take z) := by
    have h := Reads.take (Reads.below hy hV3) (k := z) hz1
    have hl : (ys.take z).length = z := by rw [List.length_take]; omega
    unfold ReadsB
    rw [hl]
    simpa [cellsOf, List.map_take] using h
  have hl : (ys.take z).length = z := by rw [List.length_take]; omega
  have t1 := fun m => run_text (w := v3.drewN m) z c3 (Reads.drewN (OwnB.reads hO3) m) hl.symm
  have t2 := fun m => run_text (w := v3.drewN m) z cap0 (Reads.drewN hy3 m) hl.symm
  go_wp2_with fail
  go_quiet (fail)
  go_wp2_with fail
  go_ret
  exact ⟨rfl, hV3.trans (Go.Joins.below_draws _ _ _)⟩

set_option maxRecDepth 100000 in
set_option maxHeartbeats 4000000 in
theorem walk_31 (iat iop ia ib isz s : Int) (bs : List Int) (w : World) (hs : (s == 116) = false) (hbl : bs.length ≤ 3)
    (h1 : ∀ w, Hid (Calls Try.prog 22 #[.agg #[.int .i64 iat, .int .i64 iop, .int .i64 ia, .int .i64 ib, .int .i64 isz]] w (BPost w bs 0)))
    (gs : ∀ w, Hid (Calls Try.prog 15 #[.int .i64 iop] w fun e w' => e = .returned (.tuple #[.int .u8 s, .bool true]) ∧ Below w.heap.size w w'))
    (hd1 : ∀ A c w', ReadsB w' w'.heap.size A bs → bs.length ≤ c → c ≤ maxLen → Hid (Calls Try.prog 24 #[.slice A bs.length c, .int .i64 0] w' (DPost w' ⟨0, iop, ia, ib, bs.length⟩ 0))) (b0 : Option Addr) (cap0 : Nat) (ys : List Int)
    (jat jop ja jb jsz code2 : Int) 
    (hd2 : ∀ V, Below w.heap.size w V → Hid (Calls Try.prog 24 #[.slice b0 ys.length cap0, .int .i64 0] V (DPost V ⟨jat, jop, ja, jb, jsz⟩ code2))) (hc2 : (code2 == 0) = false) :
    Calls Try.prog 12 #[.agg #[.int .i64 iat, .int .i64 iop, .int .i64 ia, .int .i64 ib, .int .i64 isz], .slice b0 ys.length cap0] w fun e w' => e = .returned (.bool true) ∧ Below w.heap.size w w' := by
  obtain ⟨i0, hi0, hz0, hz1, hz2⟩ := info_parts infoB
  have gaw := fun w => Lib.hid (awake06 w)
  have hn2 : (code2 != 0) = true := by simp [bne, hc2]
  have hI := Blk.new w 28 #[.int .i64 iat, .int .i64 iop, .int .i64 ia, .int .i64 ib, .int .i64 isz]
  have hB0 : Below w.heap.size w (w.alloc (.cells #[.int .i64 iat, .int .i64 iop, .int .i64 ia, .int .i64 ib, .int .i64 isz] 28)) := (Below.refl _ _).alloc (Nat.le_refl _) _
  go_enter Try.func12, Try.ntmps12
  go_wp2_with fail
  generalize w.alloc (.cells #[.int .i64 iat, .int .i64 iop, .int .i64 ia, .int .i64 ib, .int .i64 isz] 28) = W at *
  refine (h1 _).out.mono ?_
  rintro _ w1 ⟨A1, c1, rfl, hO1, hb1⟩
  have hI1 := hI.below hb1 hI.lt
  have hB1 := bnext hB0 hb1
  have d0 : w1.cell? ⟨w.heap.size, 0, none⟩ = some (.int .i64 iat) := hI1.cell 0
  have d1 : w1.cell? ⟨w.heap.size, 1, none⟩ = some (.int .i64 iop) := hI1.cell 1
  have d2 : w1.cell? ⟨w.heap.size, 2, none⟩ = some (.int .i64 ia) := hI1.cell 2
  have d3 : w1.cell? ⟨w.heap.size, 3, none⟩ = some (.int .i64 ib) := hI1.cell 3
  have d4 : w1.cell? ⟨w.heap.size, 4, none⟩ = some (.int .i64 isz) := hI1.cell 4
  have df0 := hI1.frozen 0
  have df1 := hI1.frozen 1
  have df2 := hI1.frozen 2
  have df3 := hI1.frozen 3
  have df4 := hI1.frozen 4
  clear hI hB0 hb1
  go_wp2_with fail
  refine (gs _).out.mono ?_
  rintro _ w4 ⟨rfl, hb4⟩
  have hI4 := hI1.below hb4 hI1.lt
  have hB4 := bnext hB1 hb4
  have hO4 := OwnB.below hO1 hb4
  have hlt4 := hI4.lt
  have e0 : w4.cell? ⟨w.heap.size, 0, none⟩ = some (.int .i64 iat) := hI4.cell 0
  have e1 : w4.cell? ⟨w.heap.size, 1, none⟩ = some (.int .i64 iop) := hI4.cell 1
  have e2 : w4.cell? ⟨w.heap.size, 2, none⟩ = some (.int .i64 ia) := hI4.cell 2
  have e3 : w4.cell? ⟨w.heap.size, 3, none⟩ = some (.int .i64 ib) := hI4.cell 3
  have e4 : w4.cell? ⟨w.heap.size, 4, none⟩ = some (.int .i64 isz) := hI4.cell 4
  have ef0 := hI4.frozen 0
  have ef1 := hI4.frozen 1
  have ef2 := hI4.frozen 2
  have ef3 := hI4.frozen 3
  have ef4 := hI4.frozen 4
  clear d0 d1 d2 d3 d4 df0 df1 df2 df3 df4 hI1 hB1 hO1 hb4 h1 gs
  have hzl : bs.length = bs.length := rfl
  go_wp2_with (first
    | (at_make
       refine wpList_make_full _ rfl _ _ 31 rfl w4.heap.size 5 i0 _ 1 Try.underlying31 hi0 hz0 hz1 .i64 .i64 _ _ 0 rfl rfl rfl rfl (by rw [hz2]; omega) (by unfold maxLen; omega) (Nat.le_refl _) ?_
       intro w5 hown5 hg5
       have hb5 : Below w4.heap.size w4 w5 := grown_below hg5 (Nat.le_refl _) (fun _ h => by cases h)
       have hown5' : OwnB w5 w4.heap.size (.slice (some ⟨w4.heap.size, 0, none⟩) 0 0) [] := by
         have h := hown5; rw [made_zero 0] at h; exact h
       have hO5 := OwnB.below hO4 hb5)
    | (at_builtin
       refine wpList_appB _ rfl (.tmp 35) (.tmp 36) rfl w4.heap.size (.slice (some ⟨w4.heap.size, 0, none⟩) 0 0) [] rfl (by first | exact hown5' | simpa using hown5') w5.heap.size A1 bs.length c1 bs rfl hO5.reads rfl
         bs bs.length rfl rfl (by omega) hb5.size ?_
       intro A6 c6 w6 hown6 _ hb6 _))
  have hc6 := hown6.cap
  have hd := hd1 A6 c6 w6 hown6.reads hc6.1 hc6.2
  refine hd.out.mono ?_
  rintro _ w7 ⟨rfl, hb7⟩
  have hb47 := (hb5.trans hb6).trans (hb7.mono (Nat.le_trans hb5.size hb6.size))
  have hI7 := hI4.below hb47 hlt4
  have hB7 := bnext hB4 hb47
  have hK := Blk.new w7 28 #[.int .i64 0, .int .i64 iop, .int .i64 ia, .int .i64 ib, .int .i64 bs.length]
  have hB8 := hB7.alloc hB7.size (.cells #[.int .i64 0, .int .i64 iop, .int .i64 ia, .int .i64 ib, .int .i64 bs.length] 28)
  have hlt7 := hI7.lt
  have g0 : w7.cell? ⟨w.heap.size, 0, none⟩ = some (.int .i64 iat) := hI7.cell 0
  have g1 : w7.cell? ⟨w.heap.size, 1, none⟩ = some (.int .i64 iop) := hI7.cell 1
  have g2 : w7.cell? ⟨w.heap.size, 2, none⟩ = some (.int .i64 ia) := hI7.cell 2
  have g3 : w7.cell? ⟨w.heap.size, 3, none⟩ = some (.int .i64 ib) := hI7.cell 3
  have g4 : w7.cell? ⟨w.heap.size, 4, none⟩ = some (.int .i64 isz) := hI7.cell 4
  have gf0 := hI7.frozen 0
  have gf1 := hI7.frozen 1
  have gf2 := hI7.frozen 2
  have gf3 := hI7.frozen 3
  have gf4 := hI7.frozen 4
  clear e0 e1 e2 e3 e4 ef0 ef1 ef2 ef3 ef4 hI4 hB4 hO4 hd hd1 hown5 hown5' hown6 hg5 hb5 hb6 hb7 hb47 hI7 hB7 hO5 hc6 hi0 hz0 hz1 hz2
  unfold Ins.val
  go_wp2_with fail
  have hBB := hB8
  clear g0 g1 g2 g3 g4 gf0 gf1 gf2 gf3 gf4 hK hB8
  generalize w7.alloc (.cells #[.int .i64 0, .int .i64 iop, .int .i64 ia, .int .i64 ib, .int .i64 bs.length] 28) = V at *
  refine (hd2 V hBB).out.mono ?_
  rintro _ v1 ⟨rfl, hv1⟩
  have hJ := Blk.new v1 28 #[.int .i64 jat, .int .i64 jop, .int .i64 ja, .int .i64 jb, .int .i64 jsz]
  have hV1 := (bnext hBB hv1)
  have hV2 := hV1.alloc hV1.size (.cells #[.int .i64 jat, .int .i64 jop, .int .i64 ja, .int .i64 jb, .int .i64 jsz] 28)
  clear hv1 hd2 hBB
  unfold Ins.val
  go_wp2_with fail
  refine (gaw _).out.mono ?_
  rintro _ v2 ⟨rfl, hv2⟩
  go_wp2_with fail
  go_ret
  exact ⟨rfl, bnext hV2 hv2⟩

set_option maxRecDepth 100000 in
set_option maxHeartbeats 4000000 in
theorem walk_32 (iat iop ia ib isz s : Int) (bs : List Int) (w : World) (hs : (s == 116) = false) (hbl : bs.length ≤ 3)
    (h1 : ∀ w, Hid (Calls Try.prog 22 #[.agg #[.int .i64 iat, .int .i64 iop, .int .i64 ia, .int .i64 ib, .int .i64 isz]] w (BPost w bs 0)))
    (gs : ∀ w, Hid (Calls Try.prog 15 #[.int .i64 iop] w fun e w' => e = .returned (.tuple #[.int .u8 s, .bool true]) ∧ Below w.heap.size w w'))
    (hd1 : ∀ A c w', ReadsB w' w'.heap.size A bs → bs.length ≤ c → c ≤ maxLen → Hid (Calls Try.prog 24 #[.slice A bs.length c, .int .i64 0] w' (DPost w' ⟨0, iop, ia, ib, bs.length⟩ 0))) (b0 : Option Addr) (cap0 : Nat) (ys : List Int)
    (jat jop ja jb jsz : Int) 
    (hd2 : ∀ V, Below w.heap.size w V → Hid (Calls Try.prog 24 #[.slice b0 ys.length cap0, .int .i64 0] V (DPost V ⟨jat, jop, ja, jb, jsz⟩ 0))) (hj : ja < 0) :
    Calls Try.prog 12 #[.agg #[.int .i64 iat, .int .i64 iop, .int .i64 ia, .int .i64 ib, .int .i64 isz], .slice b0 ys.length cap0] w fun e w' => e = .returned (.bool true) ∧ Below w.heap.size w w' := by
  obtain ⟨i0, hi0, hz0, hz1, hz2⟩ := info_parts infoB
  have gaw := fun w => Lib.hid (awake06 w)
  have hj1 : decide (ja < 0) = true := decide_eq_true hj
  have hI := Blk.new w 28 #[.int .i64 iat, .int .i64 iop, .int .i64 ia, .int .i64 ib, .int .i64 isz]
  have hB0 : Below w.heap.size w (w.alloc (.cells #[.int .i64 iat, .int .i64 iop, .int .i64 ia, .int .i64 ib, .int .i64 isz] 28)) := (Below.refl _ _).alloc (Nat.le_refl _) _
  go_enter Try.func12, Try.ntmps12
  go_wp2_with fail
  generalize w.alloc (.cells #[.int .i64 iat, .int .i64 iop, .int .i64 ia, .int .i64 ib, .int .i64 isz] 28) = W at *
  refine (h1 _).out.mono ?_
  rintro _ w1 ⟨A1, c1, rfl, hO1, hb1⟩
  have hI1 := hI.below hb1 hI.lt
  have hB1 := bnext hB0 hb1
  have d0 : w1.cell? ⟨w.heap.size, 0, none⟩ = some (.int .i64 iat) := hI1.cell 0
  have d1 : w1.cell? ⟨w.heap.size, 1, none⟩ = some (.int .i64 iop) := hI1.cell 1
  have d2 : w1.cell? ⟨w.heap.size, 2, none⟩ = some (.int .i64 ia) := hI1.cell 2
  have d3 : w1.cell? ⟨w.heap.size, 3, none⟩ = some (.int .i64 ib) := hI1.cell 3
  have d4 : w1.cell? ⟨w.heap.size, 4, none⟩ = some (.int .i64 isz) := hI1.cell 4
  have df0 := hI1.frozen 0
  have df1 := hI1.frozen 1
  have df2 := hI1.frozen 2
  have df3 := hI1.frozen 3
  have df4 := hI1.frozen 4
  clear hI hB0 hb1
  go_wp2_with fail
  refine (gs _).out.mono ?_
  rintro _ w4 ⟨rfl, hb4⟩
  have hI4 := hI1.below hb4 hI1.lt
  have hB4 := bnext hB1 hb4
  have hO4 := OwnB.below hO1 hb4
  have hlt4 := hI4.lt
  have e0 : w4.cell? ⟨w.heap.size, 0, none⟩ = some (.int .i64 iat) := hI4.cell 0
  have e1 : w4.cell? ⟨w.heap.size, 1, none⟩ = some (.int .i64 iop) := hI4.cell 1
  have e2 : w4.cell? ⟨w.heap.size, 2, none⟩ = some (.int .i64 ia) := hI4.cell 2
  have e3 : w4.cell? ⟨w.heap.size, 3, none⟩ = some (.int .i64 ib) := hI4.cell 3
  have e4 : w4.cell? ⟨w.heap.size, 4, none⟩ = some (.int .i64 isz) := hI4.cell 4
  have ef0 := hI4.frozen 0
  have ef1 := hI4.frozen 1
  have ef2 := hI4.frozen 2
  have ef3 := hI4.frozen 3
  have ef4 := hI4.frozen 4
  clear d0 d1 d2 d3 d4 df0 df1 df2 df3 df4 hI1 hB1 hO1 hb4 h1 gs
  have hzl : bs.length = bs.length := rfl
  go_wp2_with (first
    | (at_make
       refine wpList_make_full _ rfl _ _ 31 rfl w4.heap.size 5 i0 _ 1 Try.underlying31 hi0 hz0 hz1 .i64 .i64 _ _ 0 rfl rfl rfl rfl (by rw [hz2]; omega) (by unfold maxLen; omega) (Nat.le_refl _) ?_
       intro w5 hown5 hg5
       have hb5 : Below w4.heap.size w4 w5 := grown_below hg5 (Nat.le_refl _) (fun _ h => by cases h)
       have hown5' : OwnB w5 w4.heap.size (.slice (some ⟨w4.heap.size, 0, none⟩) 0 0) [] := by
         have h := hown5; rw [made_zero 0] at h; exact h
       have hO5 := OwnB.below hO4 hb5)
    | (at_builtin
       refine wpList_appB _ rfl (.tmp 35) (.tmp 36) rfl w4.heap.size (.slice (some ⟨w4.heap.size, 0, none⟩) 0 0) [] rfl (by first | exact hown5' | simpa using hown5') w5.heap.size A1 bs.length c1 bs rfl hO5.reads rfl
         bs bs.length rfl rfl (by omega) hb5.size ?_
       intro A6 c6 w6 hown6 _ hb6 _))
  have hc6 := hown6.cap
  have hd := hd1 A6 c6 w6 hown6.reads hc6.1 hc6.2
  refine hd.out.mono ?_
  rintro _ w7 ⟨rfl, hb7⟩
  have hb47 := (hb5.trans hb6).trans (hb7.mono (Nat.le_trans hb5.size hb6.size))
  have hI7 := hI4.below hb47 hlt4
  have hB7 := bnext hB4 hb47
  have hK := Blk.new w7 28 #[.int .i64 0, .int .i64 iop, .int .i64 ia, .int .i64 ib, .int .i64 bs.length]
  have hB8 := hB7.alloc hB7.size (.cells #[.int .i64 0, .int .i64 iop, .int .i64 ia, .int .i64 ib, .int .i64 bs.length] 28)
  have hlt7 := hI7.lt
  have g0 : w7.cell? ⟨w.heap.size, 0, none⟩ = some (.int .i64 iat) := hI7.cell 0
  have g1 : w7.cell? ⟨w.heap.size, 1, none⟩ = some (.int .i64 iop) := hI7.cell 1
  have g2 : w7.cell? ⟨w.heap.size, 2, none⟩ = some (.int .i64 ia) := hI7.cell 2
  have g3 : w7.cell? ⟨w.heap.size, 3, none⟩ = some (.int .i64 ib) := hI7.cell 3
  have g4 : w7.cell? ⟨w.heap.size, 4, none⟩ = some (.int .i64 isz) := hI7.cell 4
  have gf0 := hI7.frozen 0
  have gf1 := hI7.frozen 1
  have gf2 := hI7.frozen 2
  have gf3 := hI7.frozen 3
  have gf4 := hI7.frozen 4
  clear e0 e1 e2 e3 e4 ef0 ef1 ef2 ef3 ef4 hI4 hB4 hO4 hd hd1 hown5 hown5' hown6 hg5 hb5 hb6 hb7 hb47 hI7 hB7 hO5 hc6 hi0 hz0 hz1 hz2
  unfold Ins.val
  go_wp2_with fail
  have hBB := hB8
  clear g0 g1 g2 g3 g4 gf0 gf1 gf2 gf3 gf4 hK hB8
  generalize w7.alloc (.cells #[.int .i64 0, .int .i64 iop, .int .i64 ia, .int .i64 ib, .int .i64 bs.length] 28) = V at *
  refine (hd2 V hBB).out.mono ?_
  rintro _ v1 ⟨rfl, hv1⟩
  have hJ := Blk.new v1 28 #[.int .i64 jat, .int .i64 jop, .int .i64 ja, .int .i64 jb, .int .i64 jsz]
  have hV1 := (bnext hBB hv1)
  have hV2 := hV1.alloc hV1.size (.cells #[.int .i64 jat, .int .i64 jop, .int .i64 ja, .int .i64 jb, .int .i64 jsz] 28)
  clear hv1 hd2 hBB
  unfold Ins.val
  go_wp2_with fail
  refine (gaw _).out.mono ?_
  rintro _ v2 ⟨rfl, hv2⟩
  go_wp2_with fail
  go_ret
  exact ⟨rfl, bnext hV2 hv2⟩

set_option maxRecDepth 100000 in
set_option maxHeartbeats 4000000 in
theorem walk_33 (iat iop ia ib isz s : Int) (bs : List Int) (w : World) (hs : (s == 116) = false) (hbl : bs.length ≤ 3)
    (h1 : ∀ w, Hid (Calls Try.prog 22 #[.agg #[.int .i64 iat, .int .i64 iop, .int .i64 ia, .int .i64 ib, .int .i64 isz]] w (BPost w bs 0)))
    (gs : ∀ w, Hid (Calls Try.prog 15 #[.int .i64 iop] w fun e w' => e = .returned (.tuple #[.int .u8 s, .bool true]) ∧ Below w.heap.size w w'))
    (hd1 : ∀ A c w', ReadsB w' w'.heap.size A bs → bs.length ≤ c → c ≤ maxLen → Hid (Calls Try.prog 24 #[.slice A bs.length c, .int .i64 0] w' (DPost w' ⟨0, iop, ia, ib, bs.length⟩ 0))) (b0 : Option Addr) (cap0 : Nat) (ys : List Int)
    (jat jop ja jb jsz : Int) 
    (hd2 : ∀ V, Below w.heap.size w V → Hid (Calls Try.prog 24 #[.slice b0 ys.length cap0, .int .i64 0] V (DPost V ⟨jat, jop, ja, jb, jsz⟩ 0))) (hj : 4096 < ja) :
    Calls Try.prog 12 #[.agg #[.int .i64 iat, .int .i64 iop, .int .i64 ia, .int .i64 ib, .int .i64 isz], .slice b0 ys.length cap0] w fun e w' => e = .returned (.bool true) ∧ Below w.heap.size w w' := by
  obtain ⟨i0, hi0, hz0, hz1, hz2⟩ := info_parts infoB
  have gaw := fun w => Lib.hid (awake06 w)
  have hj1 : decide (ja < 0) = false := decide_eq_false (by omega)
  have hj2 : decide (4096 < ja) = true := decide_eq_true hj
  have hI := Blk.new w 28 #[.int .i64 iat, .int .i64 iop, .int .i64 ia, .int .i64 ib, .int .i64 isz]
  have hB0 : Below w.heap.size w (w.alloc (.cells #[.int .i64 iat, .int .i64 iop, .int .i64 ia, .int .i64 ib, .int .i64 isz] 28)) := (Below.refl _ _).alloc (Nat.le_refl _) _
  go_enter Try.func12, Try.ntmps12
  go_wp2_with fail
  generalize w.alloc (.cells #[.int .i64 iat, .int .i64 iop, .int .i64 ia, .int .i64 ib, .int .i64 isz] 28) = W at *
  refine (h1 _).out.mono ?_
  rintro _ w1 ⟨A1, c1, rfl, hO1, hb1⟩
  have hI1 := hI.below hb1 hI.lt
  have hB1 := bnext hB0 hb1
  have d0 : w1.cell? ⟨w.heap.size, 0, none⟩ = some (.int .i64 iat) := hI1.cell 0
  have d1 : w1.cell? ⟨w.heap.size, 1, none⟩ = some (.int .i64 iop) := hI1.cell 1
  have d2 : w1.cell? ⟨w.heap.size, 2, none⟩ = some (.int .i64 ia) := hI1.cell 2
  have d3 : w1.cell? ⟨w.heap.size, 3, none⟩ = some (.int .i64 ib) := hI1.cell 3
  have d4 : w1.cell? ⟨w.heap.size, 4, none⟩ = some (.int .i64 isz) := hI1.cell 4
  have df0 := hI1.frozen 0
  have df1 := hI1.frozen 1
  have df2 := hI1.frozen 2
  have df3 := hI1.frozen 3
  have df4 := hI1.frozen 4
  clear hI hB0 hb1
  go_wp2_with fail
  refine (gs _).out.mono ?_
  rintro _ w4 ⟨rfl, hb4⟩
  have hI4 := hI1.below hb4 hI1.lt
  have hB4 := bnext hB1 hb4
  have hO4 := OwnB.below hO1 hb4
  have hlt4 := hI4.lt
  have e0 : w4.cell? ⟨w.heap.size, 0, none⟩ = some (.int .i64 iat) := hI4.cell 0
  have e1 : w4.cell? ⟨w.heap.size, 1, none⟩ = some (.int .i64 iop) := hI4.cell 1
  have e2 : w4.cell? ⟨w.heap.size, 2, none⟩ = some (.int .i64 ia) := hI4.cell 2
  have e3 : w4.cell? ⟨w.heap.size, 3, none⟩ = some (.int .i64 ib) := hI4.cell 3
  have e4 : w4.cell? ⟨w.heap.size, 4, none⟩ = some (.int .i64 isz) := hI4.cell 4
  have ef0 := hI4.frozen 0
  have ef1 := hI4.frozen 1
  have ef2 := hI4.frozen 2
  have ef3 := hI4.frozen 3
  have ef4 := hI4.frozen 4
  clear d0 d1 d2 d3 d4 df0 df1 df2 df3 df4 hI1 hB1 hO1 hb4 h1 gs
  have hzl : bs.length = bs.length := rfl
  go_wp2_with (first
    | (at_make
       refine wpList_make_full _ rfl _ _ 31 rfl w4.heap.size 5 i0 _ 1 Try.underlying31 hi0 hz0 hz1 .i64 .i64 _ _ 0 rfl rfl rfl rfl (by rw [hz2]; omega) (by unfold maxLen; omega) (Nat.le_refl _) ?_
       intro w5 hown5 hg5
       have hb5 : Below w4.heap.size w4 w5 := grown_below hg5 (Nat.le_refl _) (fun _ h => by cases h)
       have hown5' : OwnB w5 w4.heap.size (.slice (some ⟨w4.heap.size, 0, none⟩) 0 0) [] := by
         have h := hown5; rw [made_zero 0] at h; exact h
       have hO5 := OwnB.below hO4 hb5)
    | (at_builtin
       refine wpList_appB _ rfl (.tmp 35) (.tmp 36) rfl w4.heap.size (.slice (some ⟨w4.heap.size, 0, none⟩) 0 0) [] rfl (by first | exact hown5' | simpa using hown5') w5.heap.size A1 bs.length c1 bs rfl hO5.reads rfl
         bs bs.length rfl rfl (by omega) hb5.size ?_
       intro A6 c6 w6 hown6 _ hb6 _))
  have hc6 := hown6.cap
  have hd := hd1 A6 c6 w6 hown6.reads hc6.1 hc6.2
  refine hd.out.mono ?_
  rintro _ w7 ⟨rfl, hb7⟩
  have hb47 := (hb5.trans hb6).trans (hb7.mono (Nat.le_trans hb5.size hb6.size))
  have hI7 := hI4.below hb47 hlt4
  have hB7 := bnext hB4 hb47
  have hK := Blk.new w7 28 #[.int .i64 0, .int .i64 iop, .int .i64 ia, .int .i64 ib, .int .i64 bs.length]
  have hB8 := hB7.alloc hB7.size (.cells #[.int .i64 0, .int .i64 iop, .int .i64 ia, .int .i64 ib, .int .i64 bs.length] 28)
  have hlt7 := hI7.lt
  have g0 : w7.cell? ⟨w.heap.size, 0, none⟩ = some (.int .i64 iat) := hI7.cell 0
  have g1 : w7.cell? ⟨w.heap.size, 1, none⟩ = some (.int .i64 iop) := hI7.cell 1
  have g2 : w7.cell? ⟨w.heap.size, 2, none⟩ = some (.int .i64 ia) := hI7.cell 2
  have g3 : w7.cell? ⟨w.heap.size, 3, none⟩ = some (.int .i64 ib) := hI7.cell 3
  have g4 : w7.cell? ⟨w.heap.size, 4, none⟩ = some (.int .i64 isz) := hI7.cell 4
  have gf0 := hI7.frozen 0
  have gf1 := hI7.frozen 1
  have gf2 := hI7.frozen 2
  have gf3 := hI7.frozen 3
  have gf4 := hI7.frozen 4
  clear e0 e1 e2 e3 e4 ef0 ef1 ef2 ef3 ef4 hI4 hB4 hO4 hd hd1 hown5 hown5' hown6 hg5 hb5 hb6 hb7 hb47 hI7 hB7 hO5 hc6 hi0 hz0 hz1 hz2
  unfold Ins.val
  go_wp2_with fail
  have hBB := hB8
  clear g0 g1 g2 g3 g4 gf0 gf1 gf2 gf3 gf4 hK hB8
  generalize w7.alloc (.cells #[.int .i64 0, .int .i64 iop, .int .i64 ia, .int .i64 ib, .int .i64 bs.length] 28) = V at *
  refine (hd2 V hBB).out.mono ?_
  rintro _ v1 ⟨rfl, hv1⟩
  have hJ := Blk.new v1 28 #[.int .i64 jat, .int .i64 jop, .int .i64 ja, .int .i64 jb, .int .i64 jsz]
  have hV1 := (bnext hBB hv1)
  have hV2 := hV1.alloc hV1.size (.cells #[.int .i64 jat, .int .i64 jop, .int .i64 ja, .int .i64 jb, .int .i64 jsz] 28)
  clear hv1 hd2 hBB
  unfold Ins.val
  go_wp2_with fail
  refine (gaw _).out.mono ?_
  rintro _ v2 ⟨rfl, hv2⟩
  go_wp2_with fail
  go_ret
  exact ⟨rfl, bnext hV2 hv2⟩

set_option maxRecDepth 100000 in
set_option maxHeartbeats 4000000 in
theorem walk_34 (iat iop ia ib isz s : Int) (bs : List Int) (w : World) (hs : (s == 116) = false) (hbl : bs.length ≤ 3)
    (h1 : ∀ w, Hid (Calls Try.prog 22 #[.agg #[.int .i64 iat, .int .i64 iop, .int .i64 ia, .int .i64 ib, .int .i64 isz]] w (BPost w bs 0)))
    (gs : ∀ w, Hid (Calls Try.prog 15 #[.int .i64 iop] w fun e w' => e = .returned (.tuple #[.int .u8 s, .bool true]) ∧ Below w.heap.size w w'))
    (hd1 : ∀ A c w', ReadsB w' w'.heap.size A bs → bs.length ≤ c → c ≤ maxLen → Hid (Calls Try.prog 24 #[.slice A bs.length c, .int .i64 0] w' (DPost w' ⟨0, iop, ia, ib, bs.length⟩ 0))) (cap0 : Nat) (ys : List Int)
    (jat jop ja jb  : Int) (z : Nat) (ad : Addr) 
    (hd2 : ∀ V, Below w.heap.size w V → Hid (Calls Try.prog 24 #[.slice (some ad) ys.length cap0, .int .i64 0] V (DPost V ⟨jat, jop, ja, jb, (z : Nat)⟩ 0))) (hj : 0 ≤ ja) (hj2 : ja ≤ 4096) (hz0 : 1 ≤ z) (hz1 : z ≤ ys.length) (hyc : ys.length ≤ cap0) (hym : cap0 ≤ 140737488351232)
    (hy : ReadsB w w.heap.size (some ad) ys)
    (h2 : ∀ w, Hid (Calls Try.prog 22 #[.agg #[.int .i64 jat, .int .i64 jop, .int .i64 ja, .int .i64 jb, .int .i64 (z : Nat)]] w (BPost w (ys.take z) 0))) :
    Calls Try.prog 12 #[.agg #[.int .i64 iat, .int .i64 iop, .int .i64 ia, .int .i64 ib, .int .i64 isz], .slice (some ad) ys.length cap0] w fun e w' => e = .returned (.bool true) ∧ Below w.heap.size w w' := by
  obtain ⟨i0, hi0, hz0, hz1, hz2⟩ := info_parts infoB
  have gaw := fun w => Lib.hid (awake06 w)
  have hk1 : decide (ja < 0) = false := decide_eq_false (by omega)
  have hk2 : decide (4096 < ja) = false := decide_eq_false (by omega)
  have hI := Blk.new w 28 #[.int .i64 iat, .int .i64 iop, .int .i64 ia, .int .i64 ib, .int .i64 isz]
  have hB0 : Below w.heap.size w (w.alloc (.cells #[.int .i64 iat, .int .i64 iop, .int .i64 ia, .int .i64 ib, .int .i64 isz] 28)) := (Below.refl _ _).alloc (Nat.le_refl _) _
  go_enter Try.func12, Try.ntmps12
  go_wp2_with fail
  generalize w.alloc (.cells #[.int .i64 iat, .int .i64 iop, .int .i64 ia, .int .i64 ib, .int .i64 isz] 28) = W at *
  refine (h1 _).out.mono ?_
  rintro _ w1 ⟨A1, c1, rfl, hO1, hb1⟩
  have hI1 := hI.below hb1 hI.lt
  have hB1 := bnext hB0 hb1
  have d0 : w1.cell? ⟨w.heap.size, 0, none⟩ = some (.int .i64 iat) := hI1.cell 0
  have d1 : w1.cell? ⟨w.heap.size, 1, none⟩ = some (.int .i64 iop) := hI1.cell 1
  have d2 : w1.cell? ⟨w.heap.size, 2, none⟩ = some (.int .i64 ia) := hI1.cell 2
  have d3 : w1.cell? ⟨w.heap.size, 3, none⟩ = some (.int .i64 ib) := hI1.cell 3
  have d4 : w1.cell? ⟨w.heap.size, 4, none⟩ = some (.int .i64 isz) := hI1.cell 4
  have df0 := hI1.frozen 0
  have df1 := hI1.frozen 1
  have df2 := hI1.frozen 2
  have df3 := hI1.frozen 3
  have df4 := hI1.frozen 4
  clear hI hB0 hb1
  go_wp2_with fail
  refine (gs _).out.mono ?_
  rintro _ w4 ⟨rfl, hb4⟩
  have hI4 := hI1.below hb4 hI1.lt
  have hB4 := bnext hB1 hb4
  have hO4 := OwnB.below hO1 hb4
  have hlt4 := hI4.lt
  have e0 : w4.cell? ⟨w.heap.size, 0, none⟩ = some (.int .i64 iat) := hI4.cell 0
  have e1 : w4.cell? ⟨w.heap.size, 1, none⟩ = some (.int .i64 iop) := hI4.cell 1
  have e2 : w4.cell? ⟨w.heap.size, 2, none⟩ = some (.int .i64 ia) := hI4.cell 2
  have e3 : w4.cell? ⟨w.heap.size, 3, none⟩ = some (.int .i64 ib) := hI4.cell 3
  have e4 : w4.cell? ⟨w.heap.size, 4, none⟩ = some (.int .i64 isz) := hI4.cell 4
  have ef0 := hI4.frozen 0
  have ef1 := hI4.frozen 1
  have ef2 := hI4.frozen 2
  have ef3 := hI4.frozen 3
  have ef4 := hI4.frozen 4
  clear d0 d1 d2 d3 d4 df0 df1 df2 df3 df4 hI1 hB1 hO1 hb4 h1 gs
  have hzl : bs.length = bs.length := rfl
  go_wp2_with (first
    | (at_make
       refine wpList_make_full _ rfl _ _ 31 rfl w4.heap.size 5 i0 _ 1 Try.underlying31 hi0 hz0 hz1 .i64 .i64 _ _ 0 rfl rfl rfl rfl (by rw [hz2]; omega) (by unfold maxLen; omega) (Nat.le_refl _) ?_
       intro w5 hown5 hg5
       have hb5 : Below w4.heap.size w4 w5 := grown_below hg5 (Nat.le_refl _) (fun _ h => by cases h)
       have hown5' : OwnB w5 w4.heap.size (.slice (some ⟨w4.heap.size, 0, none⟩) 0 0) [] := by
         have h := hown5; rw [made_zero 0] at h; exact h
       have hO5 := OwnB.below hO4 hb5)
    | (at_builtin
       refine wpList_appB _ rfl (.tmp 35) (.tmp 36) rfl w4.heap.size (.slice (some ⟨w4.heap.size, 0, none⟩) 0 0) [] rfl (by first | exact hown5' | simpa using hown5') w5.heap.size A1 bs.length c1 bs rfl hO5.reads rfl
         bs bs.length rfl rfl (by omega) hb5.size ?_
       intro A6 c6 w6 hown6 _ hb6 _))
  have hc6 := hown6.cap
  have hd := hd1 A6 c6 w6 hown6.reads hc6.1 hc6.2
  refine hd.out.mono ?_
  rintro _ w7 ⟨rfl, hb7⟩
  have hb47 := (hb5.trans hb6).trans (hb7.mono (Nat.le_trans hb5.size hb6.size))
  have hI7 := hI4.below hb47 hlt4
  have hB7 := bnext hB4 hb47
  have hK := Blk.new w7 28 #[.int .i64 0, .int .i64 iop, .int .i64 ia, .int .i64 ib, .int .i64 bs.length]
  have hB8 := hB7.alloc hB7.size (.cells #[.int .i64 0, .int .i64 iop, .int .i64 ia, .int .i64 ib, .int .i64 bs.length] 28)
  have hlt7 := hI7.lt
  have g0 : w7.cell? ⟨w.heap.size, 0, none⟩ = some (.int .i64 iat) := hI7.cell 0
  have g1 : w7.cell? ⟨w.heap.size, 1, none⟩ = some (.int .i64 iop) := hI7.cell 1
  have g2 : w7.cell? ⟨w.heap.size, 2, none⟩ = some (.int .i64 ia) := hI7.cell 2
  have g3 : w7.cell? ⟨w.heap.size, 3, none⟩ = some (.int .i64 ib) := hI7.cell 3
  have g4 : w7.cell? ⟨w.heap.size, 4, none⟩ = some (.int .i64 isz) := hI7.cell 4
  have gf0 := hI7.frozen 0
  have gf1 := hI7.frozen 1
  have gf2 := hI7.frozen 2
  have gf3 := hI7.frozen 3
  have gf4 := hI7.frozen 4
  clear e0 e1 e2 e3 e4 ef0 ef1 ef2 ef3 ef4 hI4 hB4 hO4 hd hd1 hown5 hown5' hown6 hg5 hb5 hb6 hb7 hb47 hI7 hB7 hO5 hc6 hi0 hz0 hz1 hz2
  unfold Ins.val
  go_wp2_with fail
  have hBB := hB8
  clear g0 g1 g2 g3 g4 gf0 gf1 gf2 gf3 gf4 hK hB8
  generalize w7.alloc (.cells #[.int .i64 0, .int .i64 iop, .int .i64 ia, .int .i64 ib, .int .i64 bs.length] 28) = V at *
  refine (hd2 V hBB).out.mono ?_
  rintro _ v1 ⟨rfl, hv1⟩
  have hJ := Blk.new v1 28 #[.int .i64 jat, .int .i64 jop, .int .i64 ja, .int .i64 jb, .int .i64 (z : Nat)]
  have hV1 := (bnext hBB hv1)
  have hV2 := hV1.alloc hV1.size (.cells #[.int .i64 jat, .int .i64 jop, .int .i64 ja, .int .i64 jb, .int .i64 (z : Nat)] 28)
  clear hv1 hd2 hBB
  unfold Ins.val
  go_wp2_with fail
  generalize v1.alloc (.cells #[.int .i64 jat, .int .i64 jop, .int .i64 ja, .int .i64 jb, .int .i64 (z : Nat)] 28) = V2 at *
  refine (h2 _).out.mono ?_
  rintro _ v3 ⟨A3, c3, rfl, hO3, hv3⟩
  have hJ3 := hJ.below hv3 hJ.lt
  have hV3 := bnext hV2 hv3
  have hlt3 := hJ3.lt
  have j0 : v3.cell? ⟨v1.heap.size, 0, none⟩ = some (.int .i64 jat) := hJ3.cell 0
  have j1 : v3.cell? ⟨v1.heap.size, 1, none⟩ = some (.int .i64 jop) := hJ3.cell 1
  have j2 : v3.cell? ⟨v1.heap.size, 2, none⟩ = some (.int .i64 ja) := hJ3.cell 2
  have j3 : v3.cell? ⟨v1.heap.size, 3, none⟩ = some (.int .i64 jb) := hJ3.cell 3
  have j4 : v3.cell? ⟨v1.heap.size, 4, none⟩ = some (.int .i64 (z : Nat)) := hJ3.cell 4
  have jf0 := hJ3.frozen 0
  have jf1 := hJ3.frozen 1
  have jf2 := hJ3.frozen 2
  have jf3 := hJ3.frozen 3
  have jf4 := hJ3.frozen 4
  have hy3 : ReadsB v3 w.heap.size (some ad) (ys.take z) := by
    have h := Reads.take (Reads.below hy hV3) (k := z) hz1
    have hl : (ys.take z).length = z := by rw [List.length_take]; omega
    unfold ReadsB
    rw [hl]
    simpa [cellsOf, List.map_take] using h
  have hl : (ys.take z).length = z := by rw [List.length_take]; omega
  have t1 := fun m => run_text (w := v3.drewN m) z c3 (Reads.drewN (OwnB.reads hO3) m) hl.symm
  have t2 := fun m => run_text (w := v3.drewN m) z cap0 (Reads.drewN hy3 m) hl.symm
  go_wp2_with fail
  go_quiet (fail)
  go_wp2_with fail
  go_ret
  exact ⟨rfl, hV3.trans (Go.Joins.below_draws _ _ _)⟩

theorem walk (i : Ins) (a1 : Option Addr) (len1 cap1 : Nat) (z1 : List Int) (w : World) (hi : i.In) (h1 : IsRow .u8 w a1 len1 cap1 z1) (hcap1 : cap1 * 1 ≤ 140737488351232) :
    Calls Try.prog 12 #[i.val, .slice a1 len1 cap1] w fun e w' => e = .returned (.bool true) ∧ Below w.heap.size w w' := by
  obtain ⟨ys, rfl, by_, hy, ly, _⟩ := h1.reads
  have hd2 := fun V (hb : Below w.heap.size w V) => Lib.hid (dec_any a1 cap1 ys 0 V ((Reads.below hy hb).more hb.size) by_ ly (by omega))
  have he := fun w => Lib.hid (enc_any i hi w)
  have bpos : 1 ≤ szAt ys 0 := (szAt_bd ys 0).1
  by_cases hE : encC i = 0
  · obtain ⟨hC, _, _, _⟩ := enc_ok hE
    obtain ⟨hat0, hat1⟩ := at_ok hE
    have gs := fun w => Lib.hid (shape_any i.op w)
    rw [hC] at gs
    rw [hE] at he
    have hbl : (encB i).length ≤ 3 := by
      have hp := pn_facts (sh i.op)
      unfold encB
      rw [if_pos hE]
      simp [beN_length]
      omega
    have hbb : Bytes (encB i) := by
      unfold encB
      rw [if_pos hE]
      exact ((beN_bytes _ _).append (beN_bytes _ _)).append (beN_bytes _ _)
    have hdd : ∀ n : Nat, (n : Int) = atOf i → ∀ A c w', ReadsB w' w'.heap.size A (List.replicate n 0 ++ encB i) → (List.replicate n (0 : Int) ++ encB i).length ≤ c → c ≤ maxLen →
        Hid (Calls Try.prog 24 #[.slice A (List.replicate n (0 : Int) ++ encB i).length c, .int .i64 n] w' (DPost w' ⟨n, i.op, i.a, i.b, (encB i).length⟩ 0)) := by
      intro n hn A c w' hr h1 h2
      obtain ⟨e1, e2⟩ := back_there hi hE (List.replicate n 0) (by rw [List.length_replicate]; exact hn)
      have := dec_any A c (List.replicate n 0 ++ encB i) (atOf i) w' hr (Bytes.append (fun x hx => by rw [List.eq_of_mem_replicate hx]; omega) hbb) h1 h2
      rw [e1, e2, ← hn] at this
      exact this
    by_cases hT : sh i.op = 116
    · have hb : (sh i.op == 116) = true := by rw [hT]; rfl
      have hao : atOf i = i.at_ := if_pos hT
      obtain ⟨n, hn⟩ := Int.eq_ofNat_of_zero_le (show 0 ≤ i.at_ by omega)
      have hd1 := hdd n (by rw [hao, hn])
      generalize encB i = bs at *
      generalize sh i.op = s at *
      obtain ⟨iat, iop, ia, ib, isz⟩ := i
      simp only at hn hd1 gs
      subst hn
      have hn4 : n ≤ 4096 := by simp only at hao; omega
      by_cases hD : decC ys 0 = 0
      · have hst := dec_stands0.1 hD
        have hrm := hst.room
        obtain ⟨ad, rfl, _, _⟩ := hy.at_ (k := 0) (by omega)
        have hI := dec_is0 hst
        rw [hD] at hd2
        by_cases hj : (decI ys 0).a < 0
        · exact walk_22 n iop ia ib isz s bs w hb hbl hn4 he gs hd1 _ cap1 ys _ _ _ _ _ hd2 hj
        · by_cases hj2 : 4096 < (decI ys 0).a
          · exact walk_23 n iop ia ib isz s bs w hb hbl hn4 he gs hd1 _ cap1 ys _ _ _ _ _ hd2 hj2
          · obtain ⟨c1, c2, c3, c4⟩ := back_back by_ hst (by omega) (by omega)
            have h2 := fun w => Lib.hid (enc_any (decI ys 0) c3 w)
            rw [c1, c2] at h2
            generalize decI ys 0 = j at *
            obtain ⟨jat, jop, ja, jb, jsz⟩ := j
            simp only at c4
            subst c4
            exact walk_24 n iop ia ib isz s bs w hb hbl hn4 he gs hd1 cap1 ys jat jop ja jb (szAt ys 0) ad hd2 (by simp only at hj; omega) (by simp only at hj2; omega) bpos (by omega) ly (by omega) hy h2
      · have hz := dec_zero0 (fun h => hD (dec_stands0.2 h))
        generalize decC ys 0 = code2 at *
        exact walk_21 n iop ia ib isz s bs w hb hbl hn4 he gs hd1 _ cap1 ys _ _ _ _ _ code2 hd2 (by simpa using hD)
    · have hb : (sh i.op == 116) = false := by simpa using hT
      have hao : atOf i = 0 := if_neg hT
      have hd1 := hdd 0 (by rw [hao]; rfl)
      generalize encB i = bs at *
      generalize sh i.op = s at *
      obtain ⟨iat, iop, ia, ib, isz⟩ := i
      simp only at hd1 gs
      by_cases hD : decC ys 0 = 0
      · have hst := dec_stands0.1 hD
        have hrm := hst.room
        obtain ⟨ad, rfl, _, _⟩ := hy.at_ (k := 0) (by omega)
        have hI := dec_is0 hst
        rw [hD] at hd2
        by_cases hj : (decI ys 0).a < 0
        · exact walk_32 iat iop ia ib isz s bs w hb hbl he gs hd1 _ cap1 ys _ _ _ _ _ hd2 hj
        · by_cases hj2 : 4096 < (decI ys 0).a
          · exact walk_33 iat iop ia ib isz s bs w hb hbl he gs hd1 _ cap1 ys _ _ _ _ _ hd2 hj2
          · obtain ⟨c1, c2, c3, c4⟩ := back_back by_ hst (by omega) (by omega)
            have h2 := fun w => Lib.hid (enc_any (decI ys 0) c3 w)
            rw [c1, c2] at h2
            generalize decI ys 0 = j at *
            obtain ⟨jat, jop, ja, jb, jsz⟩ := j
            simp only at c4
            subst c4
            exact walk_34 iat iop ia ib isz s bs w hb hbl he gs hd1 cap1 ys jat jop ja jb (szAt ys 0) ad hd2 (by simp only at hj; omega) (by simp only at hj2; omega) bpos (by omega) ly (by omega) hy h2
      · have hz := dec_zero0 (fun h => hD (dec_stands0.2 h))
        generalize decC ys 0 = code2 at *
        exact walk_31 iat iop ia ib isz s bs w hb hbl he gs hd1 _ cap1 ys _ _ _ _ _ code2 hd2 (by simpa using hD)
  · generalize encB i = bs at *
    generalize encC i = code at *
    obtain ⟨iat, iop, ia, ib, isz⟩ := i
    by_cases hD : decC ys 0 = 0
    · have hst := dec_stands0.1 hD
      have hrm := hst.room
      obtain ⟨ad, rfl, _, _⟩ := hy.at_ (k := 0) (by omega)
      have hI := dec_is0 hst
      rw [hD] at hd2
      by_cases hj : (decI ys 0).a < 0
      · exact walk_12 iat iop ia ib isz code bs w hE he _ cap1 ys _ _ _ _ _ hd2 hj
      · by_cases hj2 : 4096 < (decI ys 0).a
        · exact walk_13 iat iop ia ib isz code bs w hE he _ cap1 ys _ _ _ _ _ hd2 hj2
        · obtain ⟨c1, c2, c3, c4⟩ := back_back by_ hst (by omega) (by omega)
          have h2 := fun w => Lib.hid (enc_any (decI ys 0) c3 w)
          rw [c1, c2] at h2
          generalize decI ys 0 = j at *
          obtain ⟨jat, jop, ja, jb, jsz⟩ := j
          simp only at c4
          subst c4
          exact walk_14 iat iop ia ib isz code bs w hE he cap1 ys jat jop ja jb (szAt ys 0) ad hd2 (by simp only at hj; omega) (by simp only at hj2; omega) bpos (by omega) ly (by omega) hy h2
    · have hz := dec_zero0 (fun h => hD (dec_stands0.2 h))
      generalize decC ys 0 = code2 at *
      exact walk_11 iat iop ia ib isz code bs w hE he _ cap1 ys _ _ _ _ _ code2 hd2 (by simpa using hD)

set_option maxRecDepth 100000 in
theorem lifted (os : Os) (started : os.Started) (H : Type) (enc : TypeId × Value → H) :
    ReturnsInHanded {} Try.checked os 12 .any (Rows.opsBackSpec.pre6 enc Try.prog Try.f12 Rows.opsBackRow.domain false) (Rows.opsBackSpec.post enc Try.prog Try.f12 false true false false) := by
  refine returnsInHanded_of_change_sized (C := Try.checked) own started (by kernel_rfl) Try.func12
    (ChangeSpec.witness6 (enc := enc) (C := Try.checked) false ⟨#[], #[.agg #[.int .i64 0, .int .i64 0, .int .i64 0, .int .i64 0, .int .i64 0], .slice none 0 0], []⟩ 8 (by kernel_rfl) (by kernel_rfl) (by kernel_rfl) (by kernel_rfl)) ?_
  intro W base args ds gs before hval0 hW hcnd hsz0 _
  have hsz : (DataW.weightsEach Try.prog (Try.f12.params.toList ++ Rows.opsBackSpec.plain.varTypes Try.prog) (ds ++ gs)).all (· ≤ reachBytes) = true := hsz0
  clear hsz0
  have hval : ∀ (j : Nat) t v, Try.f12.params[j]? = some t → args[j]? = some v → Value.okWide Try.prog W .any base t v := hval0
  have hW' := hW
  obtain ⟨p, q, hA0, hV, rfl, hfz, hnd⟩ := hW
  have hA : DataW.TrodAll enc Try.prog W 0 (fun _ => true) true Try.f12.params.toList args.toList ds p := hA0
  rw [Try.params12] at hA hval hsz
  obtain ⟨v0, vs0, d0, ds0, p0, q0, hargs, rfl, rfl, h0, r0⟩ := trodAll_cons hA
  obtain ⟨v1, vs1, d1, ds1, p1, q1, rfl, rfl, rfl, h1, r1⟩ := trodAll_cons r0
  obtain ⟨rfl, rfl, rfl⟩ := trodAll_nil r1
  obtain rfl : args = #[v0, v1] := by cases args; simp_all
  obtain ⟨rfl, rfl⟩ := trodVars_none hV
  have k0 := h0
  have lt0 : ∀ x ∈ p0, x.block < W.heap.size := by obtain ⟨m, hm⟩ := k0; exact DataW.trod_lt m _ _ _ hm
  obtain ⟨t0, ht0, w0⟩ : ∃ t : Ins, v0 = t.val ∧ t.In := by
    obtain ⟨c0, c1, c2, c3, c4, y0, y1, y2, y3, y4, n, hv, hd, hp, t0, t1, t2, t3, t4⟩ := open_agg5 Try.underlying28 (by kernel_rfl) (by kernel_rfl) (hval 0 28 v0 rfl rfl) h0
    obtain ⟨n0, q0, _, s0⟩ := DataW.trod_int Try.underlying3 t0
    obtain ⟨n1, q1, _, s1⟩ := DataW.trod_int Try.underlying3 t1
    obtain ⟨n2, q2, _, s2⟩ := DataW.trod_int Try.underlying3 t2
    obtain ⟨n3, q3, _, s3⟩ := DataW.trod_int Try.underlying3 t3
    obtain ⟨n4, q4, _, s4⟩ := DataW.trod_int Try.underlying3 t4
    simp only [List.cons.injEq, and_true] at q0 q1 q2 q3 q4
    subst q0 q1 q2 q3 q4
    exact ⟨⟨n0, n1, n2, n3, n4⟩, hv, ⟨in64_wf s0, in64_wf s1, in64_wf s2, in64_wf s3, in64_wf s4⟩⟩
  subst ht0
  obtain ⟨a1, len1, cap1, rfl⟩ := okWide_slice Try.underlying31 (hval 1 31 v1 rfl rfl)
  have k1 := h1
  have lt1 : ∀ x ∈ p1, x.block < W.heap.size := by obtain ⟨m, hm⟩ := k1; exact DataW.trod_lt m _ _ _ hm
  obtain ⟨z1, w1, hcap1⟩ : ∃ zs, IsRow .u8 W a1 len1 cap1 zs ∧ cap1 * 1 ≤ 140737488351232 := by
    obtain ⟨fuel, hf⟩ := h1
    rcases open_ints Try.underlying31 Try.underlying5 (by kernel_rfl) hf with ⟨hcs, _⟩ | ⟨x, l, c, zs, hcs, _, hl, hm, hz, hx, hcell, hwz⟩
    · simp [Value.cells] at hcs
      obtain ⟨rfl, rfl, rfl⟩ := hcs
      exact ⟨[], .inl ⟨rfl, rfl, rfl, rfl⟩, by omega⟩
    · simp [Value.cells] at hcs
      obtain ⟨rfl, rfl, rfl⟩ := hcs
      simp only [Prod.mk.injEq] at hx
      obtain ⟨hx1, _⟩ := hx
      subst hx1
      have hcap := sized_slice hsz (j := 1) (t := 31) (e := 5) rfl rfl Try.underlying31
      rw [show Try.prog.bytesOf 5 = 1 from by kernel_rfl] at hcap
      simp only [lits, List.length_map, List.length_take, List.length_drop, reachBytes] at hcap
      have hz2 : zs.length = cap1 := by simpa using hz
      replace hcap : cap1 * 1 ≤ 140737488351232 := by omega
      exact ⟨zs, .inr ⟨_, rfl, hl, hm, by simpa using hz, hcell, hwz⟩, hcap⟩
  clear hA0 hval0
  refine (walk t0 a1 len1 cap1 z1 W w0 w1 hcap1).mono fun e W' ⟨he, bel⟩ => ?_
  subst he
  exact ⟨_, rfl, _, _, _, [], _, [], hW', trodAll_mk1 (shut_bool Try.underlying4 _), (trodAll_cons_mk (Below.trod laidOut (by kernel_rfl) (of_decide_eq_true (by kernel_rfl)) k0 bel lt0) (trodAll_cons_mk (Below.trod laidOut (by kernel_rfl) (of_decide_eq_true (by kernel_rfl)) k1 bel lt1) trodAll_mk0)), rfl, bel.frame _, fun h => by cases h⟩

theorem closed : joinedFacts Try.prog 12 Try.f12 Rows.opsBackSpec Rows.opsBackRow = true := by
  have h1 := mayEnter_fact
  have h2 : (Rows.opsBackRow.lifted == Try.prog.liftsFinal) = true := by rw [lifts_fact]; rfl
  have h3 : (Try.prog.make == some Rows.opsBackRow.make) = true := by rw [make_fact]; rfl
  have hfin : ∀ b : Bool, b = true → b = true := fun _ h => h
  unfold joinedFacts
  rw [h1, h2, h3]
  clear h1 h2 h3
  refine hfin _ ?_
  kernel_rfl

theorem over : Rows.opsBackRow.holds Try.pinned (OpenSpec.ofChange Rows.opsBackSpec) :=
  OpenClaim.holds_of_wide 12 Try.f12 rfl rfl rfl rfl rfl rfl rfl ⟨rfl, rfl, rfl, rfl, rfl⟩ rfl rfl rfl rfl rfl (by kernel_rfl) Try.func12 closed
    (of_decide_eq_true (by kernel_rfl)) (by unfold Func.isWrapper; first | (rw [if_pos (by decide +kernel)]; kernel_rfl) | (rw [if_neg (by decide +kernel)]; exact ⟨rfl, rfl⟩))
    (fun os started H enc _ => lifted os started H enc)

/-- The statement. -/
theorem proved : Rows.OpsBackSaid := over
#print axioms proved

end Go.Proofs.Ytcinmgifadmbeaa.OpsBackP
