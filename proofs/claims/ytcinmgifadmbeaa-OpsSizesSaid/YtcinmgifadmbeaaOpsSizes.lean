/- OpsSizes: an instruction has as many bytes as its shape says, and what is read of it does not hang on what stands behind. -/
import Derived.Test.YtcinmgifadmbeaaDecP
import Derived.Test.YtcinmgifadmbeaaOpsAwake
import Derived.Test.YtcinmgifadmbeaaHead
import Derived.Test.YtcinmgifadmbeaaOpenG
import Derived.Deep.RegionHeld3
import Derived.Lib.SmallJoins
import Derived.ProofKit
import Derived.OpenShut
import Derived.ShutString
import Derived.ChangeOld
import Derived.Laws.StructEq
namespace Go.Proofs.Ytcinmgifadmbeaa.OpsSizesP
open Go.ChangeShapes Go.WideShapes Go.ChangeAt Go.RowKit
open Go.ChangeMaps (open_string shut_string)
set_option linter.unusedVariables false

theorem own : ownKnob Try.prog.godebug = none := by kernel_rfl
theorem laidOut : laidOutB Try.prog = true := by kernel_rfl
theorem bnext {a b c : World} (h : Below a.heap.size a b) (k : Below b.heap.size b c) : Below a.heap.size a c := h.trans (k.mono h.size)

set_option maxRecDepth 100000 in
set_option maxHeartbeats 2000000 in
theorem walk_none (a0 : Option Addr) (cap0 : Nat) (xs : List Int) (a1 : Option Addr) (cap1 : Nat) (ys : List Int) (w : World) (hx : ReadsB w w.heap.size a0 xs) (bx : Bytes xs) (lx : xs.length ≤ cap0) (hy : ReadsB w w.heap.size a1 ys) (by_ : Bytes ys) (ly : ys.length ≤ cap1) (hcap0 : cap0 ≤ 140737488351232) (hc : ¬ decC xs 0 = 0) : Calls Try.prog 8 #[.slice a0 xs.length cap0, .slice a1 ys.length cap1] w fun e w' => e = .returned (.bool true) ∧ Below w.heap.size w w' := by
  have gaw := fun w => Lib.hid (awake06 w)
  have hd := Lib.hid (dec_any a0 cap0 xs 0 w hx bx lx (by omega))
  have hi : decI xs 0 = zeroI := by unfold decI; rw [if_neg hc]
  rw [hi] at hd
  clear hi
  generalize decC xs 0 = code at *
  have b0 : (code == 0) = false := by simpa using hc
  have b1 : (code != 0) = true := by simpa using hc
  unfold DPost Ins.val zeroI at hd
  go_enter Try.func8, Try.ntmps8
  go_wp2_with fail
  refine hd.out.mono ?_
  rintro _ w1 ⟨rfl, hb1⟩
  go_wp2_with fail
  refine (gaw _).out.mono ?_
  rintro _ w2 ⟨rfl, hb2⟩
  go_wp2_with fail
  go_ret
  exact ⟨rfl, bnext (hb1.alloc hb1.size _) hb2⟩

set_option maxRecDepth 100000 in
set_option maxHeartbeats 2000000 in
theorem walk_d (a0 : Option Addr) (cap0 : Nat) (xs : List Int) (a1 : Option Addr) (cap1 : Nat) (ys : List Int) (w : World) (hx : ReadsB w w.heap.size a0 xs) (bx : Bytes xs) (lx : xs.length ≤ cap0) (hy : ReadsB w w.heap.size a1 ys) (by_ : Bytes ys) (ly : ys.length ≤ cap1) (hcap0 : cap0 ≤ 140737488351232) (s : Int) (hs : sh (opAt xs 0) = s) (hs45 : s = 45) (hc : Stands xs 0) (hn : szAt xs 0 = 1) (hsum : 1 + ys.length ≤ 140737488355328) : Calls Try.prog 8 #[.slice a0 xs.length cap0, .slice a1 ys.length cap1] w fun e w' => e = .returned (.bool true) ∧ Below w.heap.size w w' := by
  have hroom0 := hc.room
  obtain ⟨ad, rfl, had, _⟩ := hx.at_ (k := 0) (by omega)
  have hd := Lib.hid (dec_any (some ad) cap0 xs 0 w hx bx lx (by omega))
  have hroom := hc.room
  rw [hn] at hroom
  have hcode : decC xs 0 = 0 := dec_stands0.2 hc
  have hst := hc.code
  have hfull : ∀ zs, zs = xs.take 1 ++ ys → decC zs 0 = 0 ∧ decI zs 0 = decI xs 0 := by
    rintro zs rfl
    have hl : (xs.take 1).length = 1 := by rw [List.length_take]; omega
    obtain ⟨h1, h2, h3, h4, h5⟩ := stands_move (zs := xs.take 1 ++ ys) (j := 0) hc (by rw [List.length_append, hl, hn]; omega) (by rw [hn, List.drop_zero, List.drop_zero, List.take_append_of_le_length (by omega), List.take_take, Nat.min_self])
    exact ⟨dec_stands0.2 h1, by rw [dec_is0 h1, dec_is0 hc, h2, h3, h4, h5]⟩
  have hsho := decC_short0 hc (n := 0) (by omega)
  have hz0 : ¬ Stands (xs.take 0) 0 := fun h => by have := dec_stands0.2 h; omega
  have hsi := dec_zero0 hz0
  have hopx : (decI xs 0).op = opAt xs 0 := by rw [dec_is0 hc]
  have hszx : (decI xs 0).size = 1 := by rw [dec_is0 hc]; show ((szAt xs 0 : Nat) : Int) = _; rw [hn]; rfl
  have gs := fun w => Lib.hid (shape_any (opAt xs 0) w)
  rw [hs, hst] at gs
  have hlt : (xs.take 1).length = 1 := by rw [List.length_take]; omega
  have hls : (xs.take 0).length = 0 := by rw [List.length_take]; omega
  have hxt := Lib.hid (show ∀ w', Below w.heap.size w w' → ReadsB w' w'.heap.size (some ad) (xs.take 1) from fun w' hb => by
    have h := Reads.take ((Reads.below hx hb).more hb.size) (k := 1) (by omega)
    unfold ReadsB
    rw [hlt]
    simpa [cellsOf, List.map_take] using h)
  have hxs := Lib.hid (show ∀ w', Below w.heap.size w w' → ReadsB w' w'.heap.size (some ad) (xs.take 0) from fun w' hb => by
    have h := Reads.take ((Reads.below hx hb).more hb.size) (k := 0) (by omega)
    unfold ReadsB
    rw [hls]
    simpa [cellsOf, List.map_take] using h)
  rw [hcode] at hd
  obtain ⟨i, hi⟩ : ∃ i, i = decI xs 0 := ⟨_, rfl⟩
  rw [← hi] at hd hfull hopx hszx
  obtain ⟨op, hop⟩ : ∃ op, op = opAt xs 0 := ⟨_, rfl⟩
  rw [← hop] at gs hopx hst
  have hc0 : 1 ≤ cap0 := by omega
  have bt : Bytes (xs.take 1) := bx.take _
  have bs1 : Bytes (xs.take 0) := bx.take _
  have hdf := fun A c zs w' (hzs : zs = xs.take 1 ++ ys) (hr : ReadsB w' w'.heap.size A zs) (h1 : zs.length ≤ c) (h2 : c ≤ maxLen) => (dec_any A c zs 0 w' hr (by rw [hzs]; exact bt.append by_) h1 h2)
  have hds := fun w' (hb : Below w.heap.size w w') => Lib.hid (dec_any (some ad) cap0 (xs.take 0) 0 w' (hxs.out w' hb) bs1 (by omega) (by omega))
  rw [hsho, hsi, hls] at hds
  obtain ⟨zs, hzs⟩ : ∃ zs, zs = xs.take 1 ++ ys := ⟨_, rfl⟩
  have hzl : zs.length = 1 + ys.length := by rw [hzs, List.length_append, hlt]
  have hdf' := fun A c w' (hr : ReadsB w' w'.heap.size A zs) (h1 : zs.length ≤ c) (h2 : c ≤ maxLen) => Lib.hid (hdf A c zs w' hzs hr h1 h2)
  rw [(hfull zs hzs).1, (hfull zs hzs).2] at hdf'
  clear hfull hsho hz0 hsi hdf hi hop hs hcode hxs
  obtain ⟨iat, iop, ia, ib, isz⟩ := i
  simp only at hopx hszx
  subst hopx hszx
  unfold DPost Ins.val at *
  unfold zeroI at *
  simp only at *
  have hrest := Lib.hid hzs
  have e45 : (s == 45) = true := by rw [hs45]; rfl
  have h98 : (s == 98) = false := by rw [hs45]; rfl
  have h117 : (s == 117) = false := by rw [hs45]; rfl
  have lx' := Lib.hid lx
  clear hzs lx
  go_enter Try.func8, Try.ntmps8
  go_wp2_with fail
  refine hd.out.mono ?_
  rintro _ w1 ⟨rfl, hb1⟩
  have hI := Blk.new w1 28 #[.int .i64 iat, .int .i64 iop, .int .i64 ia, .int .i64 ib, .int .i64 1]
  have hB1 := hb1.alloc hb1.size (.cells #[.int .i64 iat, .int .i64 iop, .int .i64 ia, .int .i64 ib, .int .i64 1] 28)
  go_wp2_with fail
  generalize w1.alloc (.cells #[.int .i64 iat, .int .i64 iop, .int .i64 ia, .int .i64 ib, .int .i64 1] 28) = W at *
  refine (gs _).out.mono ?_
  rintro _ w2 ⟨rfl, hb2⟩
  have hI2 := hI.below hb2 hI.lt
  have hB2 := hB1.trans (hb2.mono hB1.size)
  have d0 : w2.cell? ⟨w1.heap.size, 0, none⟩ = some (.int .i64 iat) := hI2.cell 0
  have d1 : w2.cell? ⟨w1.heap.size, 1, none⟩ = some (.int .i64 iop) := hI2.cell 1
  have d2 : w2.cell? ⟨w1.heap.size, 2, none⟩ = some (.int .i64 ia) := hI2.cell 2
  have d3 : w2.cell? ⟨w1.heap.size, 3, none⟩ = some (.int .i64 ib) := hI2.cell 3
  have d4 : w2.cell? ⟨w1.heap.size, 4, none⟩ = some (.int .i64 1) := hI2.cell 4
  have df0 := hI2.frozen 0
  have df1 := hI2.frozen 1
  have df2 := hI2.frozen 2
  have df3 := hI2.frozen 3
  have df4 := hI2.frozen 4
  have hy2 := (Reads.below hy hB2).more hB2.size
  go_wp2_with (first
    | (at_builtin
       refine wpList_appB _ rfl (.tmp 52) (.tmp 55) rfl w2.heap.size (.slice (some ⟨w2.heap.size, 0, none⟩) 0 0) [] rfl (OwnB.lit rfl (Nat.le_refl _) (by unfold maxLen; simp)) w2.heap.size (some ad) 1 cap0 (xs.take 1) rfl ((hxt.out w2 hB2).alloc (Nat.le_refl _) _) hlt.symm
         (xs.take 1) 1 rfl hlt (by omega) (by simp) ?_
       intro A3 c3 w3 hown3 _ hb3 _
       have hy3 := Reads.below hy2 (((Below.refl w2.heap.size w2).alloc (Nat.le_refl _) _).trans hb3))
    | (at_builtin
       refine wpList_appB _ rfl (.tmp 56) (.tmp 57) rfl w2.heap.size (.slice A3 1 c3) (xs.take 1) rfl hown3 w2.heap.size a1 ys.length cap1 ys rfl hy3 rfl
         zs zs.length hrest.out.symm rfl (by omega) (by have := hb3.size; simp at this; omega) ?_
       intro A4 c4 w4 hown4 _ hb4 _))
  have hc4 := hown4.cap
  have hb24 : Below w2.heap.size w2 w4 := (((Below.refl w2.heap.size w2).alloc (Nat.le_refl _) _).trans hb3).trans hb4
  rw [hzl] at hdf' hc4
  refine (hdf' A4 c4 w4 hown4.reads hc4.1 hc4.2).out.mono ?_
  rintro _ w5 ⟨rfl, hb5⟩
  have hb25 := bnext hb24 hb5
  have hI5 := hI2.below hb25 hI2.lt
  have hB5 := bnext hB2 hb25
  have hK := Blk.new w5 28 #[.int .i64 iat, .int .i64 iop, .int .i64 ia, .int .i64 ib, .int .i64 1]
  have hI6 := hI5.alloc (.cells #[.int .i64 iat, .int .i64 iop, .int .i64 ia, .int .i64 ib, .int .i64 1] 28)
  have hB6 := hB5.alloc hB5.size (.cells #[.int .i64 iat, .int .i64 iop, .int .i64 ia, .int .i64 ib, .int .i64 1] 28)
  clear hdf' hown3 hown4 hb3 hb4 hb5 hb24 hy2 hy3 hc4 hI2 hb25 gs hd hxt hI5 hB5
  go_wp2_with fail
  generalize w5.alloc (.cells #[.int .i64 iat, .int .i64 iop, .int .i64 ia, .int .i64 ib, .int .i64 1] 28) = W6 at *
  refine (hds _ hB6).out.mono ?_
  rintro _ w7 ⟨rfl, hb7⟩
  have hI7 := hI6.below hb7 hI6.lt
  have hK7 := hK.below hb7 hK.lt
  have hB7 := bnext hB6 hb7
  have hl7 := hI7.lt
  have hm7 := hK7.lt
  have d0 : w7.cell? ⟨w1.heap.size, 0, none⟩ = some (.int .i64 iat) := hI7.cell 0
  have d1 : w7.cell? ⟨w1.heap.size, 1, none⟩ = some (.int .i64 iop) := hI7.cell 1
  have d2 : w7.cell? ⟨w1.heap.size, 2, none⟩ = some (.int .i64 ia) := hI7.cell 2
  have d3 : w7.cell? ⟨w1.heap.size, 3, none⟩ = some (.int .i64 ib) := hI7.cell 3
  have d4 : w7.cell? ⟨w1.heap.size, 4, none⟩ = some (.int .i64 1) := hI7.cell 4
  have df0 := hI7.frozen 0
  have df1 := hI7.frozen 1
  have df2 := hI7.frozen 2
  have df3 := hI7.frozen 3
  have df4 := hI7.frozen 4
  have k0 : w7.cell? ⟨w5.heap.size, 0, none⟩ = some (.int .i64 iat) := hK7.cell 0
  have k1 : w7.cell? ⟨w5.heap.size, 1, none⟩ = some (.int .i64 iop) := hK7.cell 1
  have k2 : w7.cell? ⟨w5.heap.size, 2, none⟩ = some (.int .i64 ia) := hK7.cell 2
  have k3 : w7.cell? ⟨w5.heap.size, 3, none⟩ = some (.int .i64 ib) := hK7.cell 3
  have k4 : w7.cell? ⟨w5.heap.size, 4, none⟩ = some (.int .i64 1) := hK7.cell 4
  have kf0 := hK7.frozen 0
  have kf1 := hK7.frozen 1
  have kf2 := hK7.frozen 2
  have kf3 := hK7.frozen 3
  have kf4 := hK7.frozen 4
  go_wp2_with fail
  go_ret
  exact ⟨rfl, hB7.alloc hB7.size _⟩

set_option maxRecDepth 100000 in
set_option maxHeartbeats 2000000 in
theorem walk_b (a0 : Option Addr) (cap0 : Nat) (xs : List Int) (a1 : Option Addr) (cap1 : Nat) (ys : List Int) (w : World) (hx : ReadsB w w.heap.size a0 xs) (bx : Bytes xs) (lx : xs.length ≤ cap0) (hy : ReadsB w w.heap.size a1 ys) (by_ : Bytes ys) (ly : ys.length ≤ cap1) (hcap0 : cap0 ≤ 140737488351232) (s : Int) (hs : sh (opAt xs 0) = s) (hs98 : s = 98) (hc : Stands xs 0) (hn : szAt xs 0 = 2) (hsum : 2 + ys.length ≤ 140737488355328) : Calls Try.prog 8 #[.slice a0 xs.length cap0, .slice a1 ys.length cap1] w fun e w' => e = .returned (.bool true) ∧ Below w.heap.size w w' := by
  have hroom0 := hc.room
  obtain ⟨ad, rfl, had, _⟩ := hx.at_ (k := 0) (by omega)
  have hd := Lib.hid (dec_any (some ad) cap0 xs 0 w hx bx lx (by omega))
  have hroom := hc.room
  rw [hn] at hroom
  have hcode : decC xs 0 = 0 := dec_stands0.2 hc
  have hst := hc.code
  have hfull : ∀ zs, zs = xs.take 2 ++ ys → decC zs 0 = 0 ∧ decI zs 0 = decI xs 0 := by
    rintro zs rfl
    have hl : (xs.take 2).length = 2 := by rw [List.length_take]; omega
    obtain ⟨h1, h2, h3, h4, h5⟩ := stands_move (zs := xs.take 2 ++ ys) (j := 0) hc (by rw [List.length_append, hl, hn]; omega) (by rw [hn, List.drop_zero, List.drop_zero, List.take_append_of_le_length (by omega), List.take_take, Nat.min_self])
    exact ⟨dec_stands0.2 h1, by rw [dec_is0 h1, dec_is0 hc, h2, h3, h4, h5]⟩
  have hsho := decC_short0 hc (n := 1) (by omega)
  have hz0 : ¬ Stands (xs.take 1) 0 := fun h => by have := dec_stands0.2 h; omega
  have hsi := dec_zero0 hz0
  have hopx : (decI xs 0).op = opAt xs 0 := by rw [dec_is0 hc]
  have hszx : (decI xs 0).size = 2 := by rw [dec_is0 hc]; show ((szAt xs 0 : Nat) : Int) = _; rw [hn]; rfl
  have gs := fun w => Lib.hid (shape_any (opAt xs 0) w)
  rw [hs, hst] at gs
  have hlt : (xs.take 2).length = 2 := by rw [List.length_take]; omega
  have hls : (xs.take 1).length = 1 := by rw [List.length_take]; omega
  have hxt := Lib.hid (show ∀ w', Below w.heap.size w w' → ReadsB w' w'.heap.size (some ad) (xs.take 2) from fun w' hb => by
    have h := Reads.take ((Reads.below hx hb).more hb.size) (k := 2) (by omega)
    unfold ReadsB
    rw [hlt]
    simpa [cellsOf, List.map_take] using h)
  have hxs := Lib.hid (show ∀ w', Below w.heap.size w w' → ReadsB w' w'.heap.size (some ad) (xs.take 1) from fun w' hb => by
    have h := Reads.take ((Reads.below hx hb).more hb.size) (k := 1) (by omega)
    unfold ReadsB
    rw [hls]
    simpa [cellsOf, List.map_take] using h)
  rw [hcode] at hd
  obtain ⟨i, hi⟩ : ∃ i, i = decI xs 0 := ⟨_, rfl⟩
  rw [← hi] at hd hfull hopx hszx
  obtain ⟨op, hop⟩ : ∃ op, op = opAt xs 0 := ⟨_, rfl⟩
  rw [← hop] at gs hopx hst
  have hc0 : 2 ≤ cap0 := by omega
  have bt : Bytes (xs.take 2) := bx.take _
  have bs1 : Bytes (xs.take 1) := bx.take _
  have hdf := fun A c zs w' (hzs : zs = xs.take 2 ++ ys) (hr : ReadsB w' w'.heap.size A zs) (h1 : zs.length ≤ c) (h2 : c ≤ maxLen) => (dec_any A c zs 0 w' hr (by rw [hzs]; exact bt.append by_) h1 h2)
  have hds := fun w' (hb : Below w.heap.size w w') => Lib.hid (dec_any (some ad) cap0 (xs.take 1) 0 w' (hxs.out w' hb) bs1 (by omega) (by omega))
  rw [hsho, hsi, hls] at hds
  obtain ⟨zs, hzs⟩ : ∃ zs, zs = xs.take 2 ++ ys := ⟨_, rfl⟩
  have hzl : zs.length = 2 + ys.length := by rw [hzs, List.length_append, hlt]
  have hdf' := fun A c w' (hr : ReadsB w' w'.heap.size A zs) (h1 : zs.length ≤ c) (h2 : c ≤ maxLen) => Lib.hid (hdf A c zs w' hzs hr h1 h2)
  rw [(hfull zs hzs).1, (hfull zs hzs).2] at hdf'
  clear hfull hsho hz0 hsi hdf hi hop hs hcode hxs
  obtain ⟨iat, iop, ia, ib, isz⟩ := i
  simp only at hopx hszx
  subst hopx hszx
  unfold DPost Ins.val at *
  unfold zeroI at *
  simp only at *
  have hrest := Lib.hid hzs
  have e45 : (s == 45) = false := by rw [hs98]; rfl
  have e98 : (s == 98) = true := by rw [hs98]; rfl
  have lx' := Lib.hid lx
  clear hzs lx
  go_enter Try.func8, Try.ntmps8
  go_wp2_with fail
  refine hd.out.mono ?_
  rintro _ w1 ⟨rfl, hb1⟩
  have hI := Blk.new w1 28 #[.int .i64 iat, .int .i64 iop, .int .i64 ia, .int .i64 ib, .int .i64 2]
  have hB1 := hb1.alloc hb1.size (.cells #[.int .i64 iat, .int .i64 iop, .int .i64 ia, .int .i64 ib, .int .i64 2] 28)
  go_wp2_with fail
  generalize w1.alloc (.cells #[.int .i64 iat, .int .i64 iop, .int .i64 ia, .int .i64 ib, .int .i64 2] 28) = W at *
  refine (gs _).out.mono ?_
  rintro _ w2 ⟨rfl, hb2⟩
  have hI2 := hI.below hb2 hI.lt
  have hB2 := hB1.trans (hb2.mono hB1.size)
  have d0 : w2.cell? ⟨w1.heap.size, 0, none⟩ = some (.int .i64 iat) := hI2.cell 0
  have d1 : w2.cell? ⟨w1.heap.size, 1, none⟩ = some (.int .i64 iop) := hI2.cell 1
  have d2 : w2.cell? ⟨w1.heap.size, 2, none⟩ = some (.int .i64 ia) := hI2.cell 2
  have d3 : w2.cell? ⟨w1.heap.size, 3, none⟩ = some (.int .i64 ib) := hI2.cell 3
  have d4 : w2.cell? ⟨w1.heap.size, 4, none⟩ = some (.int .i64 2) := hI2.cell 4
  have df0 := hI2.frozen 0
  have df1 := hI2.frozen 1
  have df2 := hI2.frozen 2
  have df3 := hI2.frozen 3
  have df4 := hI2.frozen 4
  have hy2 := (Reads.below hy hB2).more hB2.size
  go_wp2_with (first
    | (at_builtin
       refine wpList_appB _ rfl (.tmp 52) (.tmp 55) rfl w2.heap.size (.slice (some ⟨w2.heap.size, 0, none⟩) 0 0) [] rfl (OwnB.lit rfl (Nat.le_refl _) (by unfold maxLen; simp)) w2.heap.size (some ad) 2 cap0 (xs.take 2) rfl ((hxt.out w2 hB2).alloc (Nat.le_refl _) _) hlt.symm
         (xs.take 2) 2 rfl hlt (by omega) (by simp) ?_
       intro A3 c3 w3 hown3 _ hb3 _
       have hy3 := Reads.below hy2 (((Below.refl w2.heap.size w2).alloc (Nat.le_refl _) _).trans hb3))
    | (at_builtin
       refine wpList_appB _ rfl (.tmp 56) (.tmp 57) rfl w2.heap.size (.slice A3 2 c3) (xs.take 2) rfl hown3 w2.heap.size a1 ys.length cap1 ys rfl hy3 rfl
         zs zs.length hrest.out.symm rfl (by omega) (by have := hb3.size; simp at this; omega) ?_
       intro A4 c4 w4 hown4 _ hb4 _))
  have hc4 := hown4.cap
  have hb24 : Below w2.heap.size w2 w4 := (((Below.refl w2.heap.size w2).alloc (Nat.le_refl _) _).trans hb3).trans hb4
  rw [hzl] at hdf' hc4
  refine (hdf' A4 c4 w4 hown4.reads hc4.1 hc4.2).out.mono ?_
  rintro _ w5 ⟨rfl, hb5⟩
  have hb25 := bnext hb24 hb5
  have hI5 := hI2.below hb25 hI2.lt
  have hB5 := bnext hB2 hb25
  have hK := Blk.new w5 28 #[.int .i64 iat, .int .i64 iop, .int .i64 ia, .int .i64 ib, .int .i64 2]
  have hI6 := hI5.alloc (.cells #[.int .i64 iat, .int .i64 iop, .int .i64 ia, .int .i64 ib, .int .i64 2] 28)
  have hB6 := hB5.alloc hB5.size (.cells #[.int .i64 iat, .int .i64 iop, .int .i64 ia, .int .i64 ib, .int .i64 2] 28)
  clear hdf' hown3 hown4 hb3 hb4 hb5 hb24 hy2 hy3 hc4 hI2 hb25 gs hd hxt hI5 hB5
  go_wp2_with fail
  generalize w5.alloc (.cells #[.int .i64 iat, .int .i64 iop, .int .i64 ia, .int .i64 ib, .int .i64 2] 28) = W6 at *
  refine (hds _ hB6).out.mono ?_
  rintro _ w7 ⟨rfl, hb7⟩
  have hI7 := hI6.below hb7 hI6.lt
  have hK7 := hK.below hb7 hK.lt
  have hB7 := bnext hB6 hb7
  have hl7 := hI7.lt
  have hm7 := hK7.lt
  have d0 : w7.cell? ⟨w1.heap.size, 0, none⟩ = some (.int .i64 iat) := hI7.cell 0
  have d1 : w7.cell? ⟨w1.heap.size, 1, none⟩ = some (.int .i64 iop) := hI7.cell 1
  have d2 : w7.cell? ⟨w1.heap.size, 2, none⟩ = some (.int .i64 ia) := hI7.cell 2
  have d3 : w7.cell? ⟨w1.heap.size, 3, none⟩ = some (.int .i64 ib) := hI7.cell 3
  have d4 : w7.cell? ⟨w1.heap.size, 4, none⟩ = some (.int .i64 2) := hI7.cell 4
  have df0 := hI7.frozen 0
  have df1 := hI7.frozen 1
  have df2 := hI7.frozen 2
  have df3 := hI7.frozen 3
  have df4 := hI7.frozen 4
  have k0 : w7.cell? ⟨w5.heap.size, 0, none⟩ = some (.int .i64 iat) := hK7.cell 0
  have k1 : w7.cell? ⟨w5.heap.size, 1, none⟩ = some (.int .i64 iop) := hK7.cell 1
  have k2 : w7.cell? ⟨w5.heap.size, 2, none⟩ = some (.int .i64 ia) := hK7.cell 2
  have k3 : w7.cell? ⟨w5.heap.size, 3, none⟩ = some (.int .i64 ib) := hK7.cell 3
  have k4 : w7.cell? ⟨w5.heap.size, 4, none⟩ = some (.int .i64 2) := hK7.cell 4
  have kf0 := hK7.frozen 0
  have kf1 := hK7.frozen 1
  have kf2 := hK7.frozen 2
  have kf3 := hK7.frozen 3
  have kf4 := hK7.frozen 4
  go_wp2_with fail
  go_ret
  exact ⟨rfl, hB7.alloc hB7.size _⟩

set_option maxRecDepth 100000 in
set_option maxHeartbeats 2000000 in
theorem walk_u (a0 : Option Addr) (cap0 : Nat) (xs : List Int) (a1 : Option Addr) (cap1 : Nat) (ys : List Int) (w : World) (hx : ReadsB w w.heap.size a0 xs) (bx : Bytes xs) (lx : xs.length ≤ cap0) (hy : ReadsB w w.heap.size a1 ys) (by_ : Bytes ys) (ly : ys.length ≤ cap1) (hcap0 : cap0 ≤ 140737488351232) (s : Int) (hs : sh (opAt xs 0) = s) (hs117 : s = 117) (hc : Stands xs 0) (hn : szAt xs 0 = 2) (hsum : 2 + ys.length ≤ 140737488355328) : Calls Try.prog 8 #[.slice a0 xs.length cap0, .slice a1 ys.length cap1] w fun e w' => e = .returned (.bool true) ∧ Below w.heap.size w w' := by
  have hroom0 := hc.room
  obtain ⟨ad, rfl, had, _⟩ := hx.at_ (k := 0) (by omega)
  have hd := Lib.hid (dec_any (some ad) cap0 xs 0 w hx bx lx (by omega))
  have hroom := hc.room
  rw [hn] at hroom
  have hcode : decC xs 0 = 0 := dec_stands0.2 hc
  have hst := hc.code
  have hfull : ∀ zs, zs = xs.take 2 ++ ys → decC zs 0 = 0 ∧ decI zs 0 = decI xs 0 := by
    rintro zs rfl
    have hl : (xs.take 2).length = 2 := by rw [List.length_take]; omega
    obtain ⟨h1, h2, h3, h4, h5⟩ := stands_move (zs := xs.take 2 ++ ys) (j := 0) hc (by rw [List.length_append, hl, hn]; omega) (by rw [hn, List.drop_zero, List.drop_zero, List.take_append_of_le_length (by omega), List.take_take, Nat.min_self])
    exact ⟨dec_stands0.2 h1, by rw [dec_is0 h1, dec_is0 hc, h2, h3, h4, h5]⟩
  have hsho := decC_short0 hc (n := 1) (by omega)
  have hz0 : ¬ Stands (xs.take 1) 0 := fun h => by have := dec_stands0.2 h; omega
  have hsi := dec_zero0 hz0
  have hopx : (decI xs 0).op = opAt xs 0 := by rw [dec_is0 hc]
  have hszx : (decI xs 0).size = 2 := by rw [dec_is0 hc]; show ((szAt xs 0 : Nat) : Int) = _; rw [hn]; rfl
  have gs := fun w => Lib.hid (shape_any (opAt xs 0) w)
  rw [hs, hst] at gs
  have hlt : (xs.take 2).length = 2 := by rw [List.length_take]; omega
  have hls : (xs.take 1).length = 1 := by rw [List.length_take]; omega
  have hxt := Lib.hid (show ∀ w', Below w.heap.size w w' → ReadsB w' w'.heap.size (some ad) (xs.take 2) from fun w' hb => by
    have h := Reads.take ((Reads.below hx hb).more hb.size) (k := 2) (by omega)
    unfold ReadsB
    rw [hlt]
    simpa [cellsOf, List.map_take] using h)
  have hxs := Lib.hid (show ∀ w', Below w.heap.size w w' → ReadsB w' w'.heap.size (some ad) (xs.take 1) from fun w' hb => by
    have h := Reads.take ((Reads.below hx hb).more hb.size) (k := 1) (by omega)
    unfold ReadsB
    rw [hls]
    simpa [cellsOf, List.map_take] using h)
  rw [hcode] at hd
  obtain ⟨i, hi⟩ : ∃ i, i = decI xs 0 := ⟨_, rfl⟩
  rw [← hi] at hd hfull hopx hszx
  obtain ⟨op, hop⟩ : ∃ op, op = opAt xs 0 := ⟨_, rfl⟩
  rw [← hop] at gs hopx hst
  have hc0 : 2 ≤ cap0 := by omega
  have bt : Bytes (xs.take 2) := bx.take _
  have bs1 : Bytes (xs.take 1) := bx.take _
  have hdf := fun A c zs w' (hzs : zs = xs.take 2 ++ ys) (hr : ReadsB w' w'.heap.size A zs) (h1 : zs.length ≤ c) (h2 : c ≤ maxLen) => (dec_any A c zs 0 w' hr (by rw [hzs]; exact bt.append by_) h1 h2)
  have hds := fun w' (hb : Below w.heap.size w w') => Lib.hid (dec_any (some ad) cap0 (xs.take 1) 0 w' (hxs.out w' hb) bs1 (by omega) (by omega))
  rw [hsho, hsi, hls] at hds
  obtain ⟨zs, hzs⟩ : ∃ zs, zs = xs.take 2 ++ ys := ⟨_, rfl⟩
  have hzl : zs.length = 2 + ys.length := by rw [hzs, List.length_append, hlt]
  have hdf' := fun A c w' (hr : ReadsB w' w'.heap.size A zs) (h1 : zs.length ≤ c) (h2 : c ≤ maxLen) => Lib.hid (hdf A c zs w' hzs hr h1 h2)
  rw [(hfull zs hzs).1, (hfull zs hzs).2] at hdf'
  clear hfull hsho hz0 hsi hdf hi hop hs hcode hxs
  obtain ⟨iat, iop, ia, ib, isz⟩ := i
  simp only at hopx hszx
  subst hopx hszx
  unfold DPost Ins.val at *
  unfold zeroI at *
  simp only at *
  have hrest := Lib.hid hzs
  have e45 : (s == 45) = false := by rw [hs117]; rfl
  have e98 : (s == 98) = false := by rw [hs117]; rfl
  have e117 : (s == 117) = true := by rw [hs117]; rfl
  have lx' := Lib.hid lx
  clear hzs lx
  go_enter Try.func8, Try.ntmps8
  go_wp2_with fail
  refine hd.out.mono ?_
  rintro _ w1 ⟨rfl, hb1⟩
  have hI := Blk.new w1 28 #[.int .i64 iat, .int .i64 iop, .int .i64 ia, .int .i64 ib, .int .i64 2]
  have hB1 := hb1.alloc hb1.size (.cells #[.int .i64 iat, .int .i64 iop, .int .i64 ia, .int .i64 ib, .int .i64 2] 28)
  go_wp2_with fail
  generalize w1.alloc (.cells #[.int .i64 iat, .int .i64 iop, .int .i64 ia, .int .i64 ib, .int .i64 2] 28) = W at *
  refine (gs _).out.mono ?_
  rintro _ w2 ⟨rfl, hb2⟩
  have hI2 := hI.below hb2 hI.lt
  have hB2 := hB1.trans (hb2.mono hB1.size)
  have d0 : w2.cell? ⟨w1.heap.size, 0, none⟩ = some (.int .i64 iat) := hI2.cell 0
  have d1 : w2.cell? ⟨w1.heap.size, 1, none⟩ = some (.int .i64 iop) := hI2.cell 1
  have d2 : w2.cell? ⟨w1.heap.size, 2, none⟩ = some (.int .i64 ia) := hI2.cell 2
  have d3 : w2.cell? ⟨w1.heap.size, 3, none⟩ = some (.int .i64 ib) := hI2.cell 3
  have d4 : w2.cell? ⟨w1.heap.size, 4, none⟩ = some (.int .i64 2) := hI2.cell 4
  have df0 := hI2.frozen 0
  have df1 := hI2.frozen 1
  have df2 := hI2.frozen 2
  have df3 := hI2.frozen 3
  have df4 := hI2.frozen 4
  have hy2 := (Reads.below hy hB2).more hB2.size
  go_wp2_with (first
    | (at_builtin
       refine wpList_appB _ rfl (.tmp 52) (.tmp 55) rfl w2.heap.size (.slice (some ⟨w2.heap.size, 0, none⟩) 0 0) [] rfl (OwnB.lit rfl (Nat.le_refl _) (by unfold maxLen; simp)) w2.heap.size (some ad) 2 cap0 (xs.take 2) rfl ((hxt.out w2 hB2).alloc (Nat.le_refl _) _) hlt.symm
         (xs.take 2) 2 rfl hlt (by omega) (by simp) ?_
       intro A3 c3 w3 hown3 _ hb3 _
       have hy3 := Reads.below hy2 (((Below.refl w2.heap.size w2).alloc (Nat.le_refl _) _).trans hb3))
    | (at_builtin
       refine wpList_appB _ rfl (.tmp 56) (.tmp 57) rfl w2.heap.size (.slice A3 2 c3) (xs.take 2) rfl hown3 w2.heap.size a1 ys.length cap1 ys rfl hy3 rfl
         zs zs.length hrest.out.symm rfl (by omega) (by have := hb3.size; simp at this; omega) ?_
       intro A4 c4 w4 hown4 _ hb4 _))
  have hc4 := hown4.cap
  have hb24 : Below w2.heap.size w2 w4 := (((Below.refl w2.heap.size w2).alloc (Nat.le_refl _) _).trans hb3).trans hb4
  rw [hzl] at hdf' hc4
  refine (hdf' A4 c4 w4 hown4.reads hc4.1 hc4.2).out.mono ?_
  rintro _ w5 ⟨rfl, hb5⟩
  have hb25 := bnext hb24 hb5
  have hI5 := hI2.below hb25 hI2.lt
  have hB5 := bnext hB2 hb25
  have hK := Blk.new w5 28 #[.int .i64 iat, .int .i64 iop, .int .i64 ia, .int .i64 ib, .int .i64 2]
  have hI6 := hI5.alloc (.cells #[.int .i64 iat, .int .i64 iop, .int .i64 ia, .int .i64 ib, .int .i64 2] 28)
  have hB6 := hB5.alloc hB5.size (.cells #[.int .i64 iat, .int .i64 iop, .int .i64 ia, .int .i64 ib, .int .i64 2] 28)
  clear hdf' hown3 hown4 hb3 hb4 hb5 hb24 hy2 hy3 hc4 hI2 hb25 gs hd hxt hI5 hB5
  go_wp2_with fail
  generalize w5.alloc (.cells #[.int .i64 iat, .int .i64 iop, .int .i64 ia, .int .i64 ib, .int .i64 2] 28) = W6 at *
  refine (hds _ hB6).out.mono ?_
  rintro _ w7 ⟨rfl, hb7⟩
  have hI7 := hI6.below hb7 hI6.lt
  have hK7 := hK.below hb7 hK.lt
  have hB7 := bnext hB6 hb7
  have hl7 := hI7.lt
  have hm7 := hK7.lt
  have d0 : w7.cell? ⟨w1.heap.size, 0, none⟩ = some (.int .i64 iat) := hI7.cell 0
  have d1 : w7.cell? ⟨w1.heap.size, 1, none⟩ = some (.int .i64 iop) := hI7.cell 1
  have d2 : w7.cell? ⟨w1.heap.size, 2, none⟩ = some (.int .i64 ia) := hI7.cell 2
  have d3 : w7.cell? ⟨w1.heap.size, 3, none⟩ = some (.int .i64 ib) := hI7.cell 3
  have d4 : w7.cell? ⟨w1.heap.size, 4, none⟩ = some (.int .i64 2) := hI7.cell 4
  have df0 := hI7.frozen 0
  have df1 := hI7.frozen 1
  have df2 := hI7.frozen 2
  have df3 := hI7.frozen 3
  have df4 := hI7.frozen 4
  have k0 : w7.cell? ⟨w5.heap.size, 0, none⟩ = some (.int .i64 iat) := hK7.cell 0
  have k1 : w7.cell? ⟨w5.heap.size, 1, none⟩ = some (.int .i64 iop) := hK7.cell 1
  have k2 : w7.cell? ⟨w5.heap.size, 2, none⟩ = some (.int .i64 ia) := hK7.cell 2
  have k3 : w7.cell? ⟨w5.heap.size, 3, none⟩ = some (.int .i64 ib) := hK7.cell 3
  have k4 : w7.cell? ⟨w5.heap.size, 4, none⟩ = some (.int .i64 2) := hK7.cell 4
  have kf0 := hK7.frozen 0
  have kf1 := hK7.frozen 1
  have kf2 := hK7.frozen 2
  have kf3 := hK7.frozen 3
  have kf4 := hK7.frozen 4
  go_wp2_with fail
  go_ret
  exact ⟨rfl, hB7.alloc hB7.size _⟩

set_option maxRecDepth 100000 in
set_option maxHeartbeats 2000000 in
theorem walk_x (a0 : Option Addr) (cap0 : Nat) (xs : List Int) (a1 : Option Addr) (cap1 : Nat) (ys : List Int) (w : World) (hx : ReadsB w w.heap.size a0 xs) (bx : Bytes xs) (lx : xs.length ≤ cap0) (hy : ReadsB w w.heap.size a1 ys) (by_ : Bytes ys) (ly : ys.length ≤ cap1) (hcap0 : cap0 ≤ 140737488351232) (s : Int) (hs : sh (opAt xs 0) = s) (h45 : ¬ s = 45) (h98 : ¬ s = 98) (h117 : ¬ s = 117) (hc : Stands xs 0) (hn : szAt xs 0 = 3) (hsum : 3 + ys.length ≤ 140737488355328) : Calls Try.prog 8 #[.slice a0 xs.length cap0, .slice a1 ys.length cap1] w fun e w' => e = .returned (.bool true) ∧ Below w.heap.size w w' := by
  have hroom0 := hc.room
  obtain ⟨ad, rfl, had, _⟩ := hx.at_ (k := 0) (by omega)
  have hd := Lib.hid (dec_any (some ad) cap0 xs 0 w hx bx lx (by omega))
  have hroom := hc.room
  rw [hn] at hroom
  have hcode : decC xs 0 = 0 := dec_stands0.2 hc
  have hst := hc.code
  have hfull : ∀ zs, zs = xs.take 3 ++ ys → decC zs 0 = 0 ∧ decI zs 0 = decI xs 0 := by
    rintro zs rfl
    have hl : (xs.take 3).length = 3 := by rw [List.length_take]; omega
    obtain ⟨h1, h2, h3, h4, h5⟩ := stands_move (zs := xs.take 3 ++ ys) (j := 0) hc (by rw [List.length_append, hl, hn]; omega) (by rw [hn, List.drop_zero, List.drop_zero, List.take_append_of_le_length (by omega), List.take_take, Nat.min_self])
    exact ⟨dec_stands0.2 h1, by rw [dec_is0 h1, dec_is0 hc, h2, h3, h4, h5]⟩
  have hsho := decC_short0 hc (n := 2) (by omega)
  have hz0 : ¬ Stands (xs.take 2) 0 := fun h => by have := dec_stands0.2 h; omega
  have hsi := dec_zero0 hz0
  have hopx : (decI xs 0).op = opAt xs 0 := by rw [dec_is0 hc]
  have hszx : (decI xs 0).size = 3 := by rw [dec_is0 hc]; show ((szAt xs 0 : Nat) : Int) = _; rw [hn]; rfl
  have gs := fun w => Lib.hid (shape_any (opAt xs 0) w)
  rw [hs, hst] at gs
  have hlt : (xs.take 3).length = 3 := by rw [List.length_take]; omega
  have hls : (xs.take 2).length = 2 := by rw [List.length_take]; omega
  have hxt := Lib.hid (show ∀ w', Below w.heap.size w w' → ReadsB w' w'.heap.size (some ad) (xs.take 3) from fun w' hb => by
    have h := Reads.take ((Reads.below hx hb).more hb.size) (k := 3) (by omega)
    unfold ReadsB
    rw [hlt]
    simpa [cellsOf, List.map_take] using h)
  have hxs := Lib.hid (show ∀ w', Below w.heap.size w w' → ReadsB w' w'.heap.size (some ad) (xs.take 2) from fun w' hb => by
    have h := Reads.take ((Reads.below hx hb).more hb.size) (k := 2) (by omega)
    unfold ReadsB
    rw [hls]
    simpa [cellsOf, List.map_take] using h)
  rw [hcode] at hd
  obtain ⟨i, hi⟩ : ∃ i, i = decI xs 0 := ⟨_, rfl⟩
  rw [← hi] at hd hfull hopx hszx
  obtain ⟨op, hop⟩ : ∃ op, op = opAt xs 0 := ⟨_, rfl⟩
  rw [← hop] at gs hopx hst
  have hc0 : 3 ≤ cap0 := by omega
  have bt : Bytes (xs.take 3) := bx.take _
  have bs1 : Bytes (xs.take 2) := bx.take _
  have hdf := fun A c zs w' (hzs : zs = xs.take 3 ++ ys) (hr : ReadsB w' w'.heap.size A zs) (h1 : zs.length ≤ c) (h2 : c ≤ maxLen) => (dec_any A c zs 0 w' hr (by rw [hzs]; exact bt.append by_) h1 h2)
  have hds := fun w' (hb : Below w.heap.size w w') => Lib.hid (dec_any (some ad) cap0 (xs.take 2) 0 w' (hxs.out w' hb) bs1 (by omega) (by omega))
  rw [hsho, hsi, hls] at hds
  obtain ⟨zs, hzs⟩ : ∃ zs, zs = xs.take 3 ++ ys := ⟨_, rfl⟩
  have hzl : zs.length = 3 + ys.length := by rw [hzs, List.length_append, hlt]
  have hdf' := fun A c w' (hr : ReadsB w' w'.heap.size A zs) (h1 : zs.length ≤ c) (h2 : c ≤ maxLen) => Lib.hid (hdf A c zs w' hzs hr h1 h2)
  rw [(hfull zs hzs).1, (hfull zs hzs).2] at hdf'
  clear hfull hsho hz0 hsi hdf hi hop hs hcode hxs
  obtain ⟨iat, iop, ia, ib, isz⟩ := i
  simp only at hopx hszx
  subst hopx hszx
  unfold DPost Ins.val at *
  unfold zeroI at *
  simp only at *
  have hrest := Lib.hid hzs
  have e45 : (s == 45) = false := by simpa using h45
  have e98 : (s == 98) = false := by simpa using h98
  have e117 : (s == 117) = false := by simpa using h117
  have lx' := Lib.hid lx
  clear hzs lx
  go_enter Try.func8, Try.ntmps8
  go_wp2_with fail
  refine hd.out.mono ?_
  rintro _ w1 ⟨rfl, hb1⟩
  have hI := Blk.new w1 28 #[.int .i64 iat, .int .i64 iop, .int .i64 ia, .int .i64 ib, .int .i64 3]
  have hB1 := hb1.alloc hb1.size (.cells #[.int .i64 iat, .int .i64 iop, .int .i64 ia, .int .i64 ib, .int .i64 3] 28)
  go_wp2_with fail
  generalize w1.alloc (.cells #[.int .i64 iat, .int .i64 iop, .int .i64 ia, .int .i64 ib, .int .i64 3] 28) = W at *
  refine (gs _).out.mono ?_
  rintro _ w2 ⟨rfl, hb2⟩
  have hI2 := hI.below hb2 hI.lt
  have hB2 := hB1.trans (hb2.mono hB1.size)
  have d0 : w2.cell? ⟨w1.heap.size, 0, none⟩ = some (.int .i64 iat) := hI2.cell 0
  have d1 : w2.cell? ⟨w1.heap.size, 1, none⟩ = some (.int .i64 iop) := hI2.cell 1
  have d2 : w2.cell? ⟨w1.heap.size, 2, none⟩ = some (.int .i64 ia) := hI2.cell 2
  have d3 : w2.cell? ⟨w1.heap.size, 3, none⟩ = some (.int .i64 ib) := hI2.cell 3
  have d4 : w2.cell? ⟨w1.heap.size, 4, none⟩ = some (.int .i64 3) := hI2.cell 4
  have df0 := hI2.frozen 0
  have df1 := hI2.frozen 1
  have df2 := hI2.frozen 2
  have df3 := hI2.frozen 3
  have df4 := hI2.frozen 4
  have hy2 := (Reads.below hy hB2).more hB2.size
  go_wp2_with (first
    | (at_builtin
       refine wpList_appB _ rfl (.tmp 52) (.tmp 55) rfl w2.heap.size (.slice (some ⟨w2.heap.size, 0, none⟩) 0 0) [] rfl (OwnB.lit rfl (Nat.le_refl _) (by unfold maxLen; simp)) w2.heap.size (some ad) 3 cap0 (xs.take 3) rfl ((hxt.out w2 hB2).alloc (Nat.le_refl _) _) hlt.symm
         (xs.take 3) 3 rfl hlt (by omega) (by simp) ?_
       intro A3 c3 w3 hown3 _ hb3 _
       have hy3 := Reads.below hy2 (((Below.refl w2.heap.size w2).alloc (Nat.le_refl _) _).trans hb3))
    | (at_builtin
       refine wpList_appB _ rfl (.tmp 56) (.tmp 57) rfl w2.heap.size (.slice A3 3 c3) (xs.take 3) rfl hown3 w2.heap.size a1 ys.length cap1 ys rfl hy3 rfl
         zs zs.length hrest.out.symm rfl (by omega) (by have := hb3.size; simp at this; omega) ?_
       intro A4 c4 w4 hown4 _ hb4 _))
  have hc4 := hown4.cap
  have hb24 : Below w2.heap.size w2 w4 := (((Below.refl w2.heap.size w2).alloc (Nat.le_refl _) _).trans hb3).trans hb4
  rw [hzl] at hdf' hc4
  refine (hdf' A4 c4 w4 hown4.reads hc4.1 hc4.2).out.mono ?_
  rintro _ w5 ⟨rfl, hb5⟩
  have hb25 := bnext hb24 hb5
  have hI5 := hI2.below hb25 hI2.lt
  have hB5 := bnext hB2 hb25
  have hK := Blk.new w5 28 #[.int .i64 iat, .int .i64 iop, .int .i64 ia, .int .i64 ib, .int .i64 3]
  have hI6 := hI5.alloc (.cells #[.int .i64 iat, .int .i64 iop, .int .i64 ia, .int .i64 ib, .int .i64 3] 28)
  have hB6 := hB5.alloc hB5.size (.cells #[.int .i64 iat, .int .i64 iop, .int .i64 ia, .int .i64 ib, .int .i64 3] 28)
  clear hdf' hown3 hown4 hb3 hb4 hb5 hb24 hy2 hy3 hc4 hI2 hb25 gs hd hxt hI5 hB5
  go_wp2_with fail
  generalize w5.alloc (.cells #[.int .i64 iat, .int .i64 iop, .int .i64 ia, .int .i64 ib, .int .i64 3] 28) = W6 at *
  refine (hds _ hB6).out.mono ?_
  rintro _ w7 ⟨rfl, hb7⟩
  have hI7 := hI6.below hb7 hI6.lt
  have hK7 := hK.below hb7 hK.lt
  have hB7 := bnext hB6 hb7
  have hl7 := hI7.lt
  have hm7 := hK7.lt
  have d0 : w7.cell? ⟨w1.heap.size, 0, none⟩ = some (.int .i64 iat) := hI7.cell 0
  have d1 : w7.cell? ⟨w1.heap.size, 1, none⟩ = some (.int .i64 iop) := hI7.cell 1
  have d2 : w7.cell? ⟨w1.heap.size, 2, none⟩ = some (.int .i64 ia) := hI7.cell 2
  have d3 : w7.cell? ⟨w1.heap.size, 3, none⟩ = some (.int .i64 ib) := hI7.cell 3
  have d4 : w7.cell? ⟨w1.heap.size, 4, none⟩ = some (.int .i64 3) := hI7.cell 4
  have df0 := hI7.frozen 0
  have df1 := hI7.frozen 1
  have df2 := hI7.frozen 2
  have df3 := hI7.frozen 3
  have df4 := hI7.frozen 4
  have k0 : w7.cell? ⟨w5.heap.size, 0, none⟩ = some (.int .i64 iat) := hK7.cell 0
  have k1 : w7.cell? ⟨w5.heap.size, 1, none⟩ = some (.int .i64 iop) := hK7.cell 1
  have k2 : w7.cell? ⟨w5.heap.size, 2, none⟩ = some (.int .i64 ia) := hK7.cell 2
  have k3 : w7.cell? ⟨w5.heap.size, 3, none⟩ = some (.int .i64 ib) := hK7.cell 3
  have k4 : w7.cell? ⟨w5.heap.size, 4, none⟩ = some (.int .i64 3) := hK7.cell 4
  have kf0 := hK7.frozen 0
  have kf1 := hK7.frozen 1
  have kf2 := hK7.frozen 2
  have kf3 := hK7.frozen 3
  have kf4 := hK7.frozen 4
  go_wp2_with fail
  go_ret
  exact ⟨rfl, hB7.alloc hB7.size _⟩

theorem walk (a0 : Option Addr) (len0 cap0 : Nat) (z0 : List Int) (a1 : Option Addr) (len1 cap1 : Nat) (z1 : List Int) (w : World) (h0 : IsRow .u8 w a0 len0 cap0 z0) (hcap0 : cap0 * 1 ≤ 140737488351232) (h1 : IsRow .u8 w a1 len1 cap1 z1) (hcap1 : cap1 * 1 ≤ 140737488351232) :
    Calls Try.prog 8 #[.slice a0 len0 cap0, .slice a1 len1 cap1] w fun e w' => e = .returned (.bool true) ∧ Below w.heap.size w w' := by
  obtain ⟨xs, rfl, bx, hx, lx, _⟩ := h0.reads
  obtain ⟨ys, rfl, by_, hy, ly, _⟩ := h1.reads
  by_cases hc : decC xs 0 = 0
  · have hst := dec_stands0.1 hc
    have hz := szAt_int xs 0
    rcases sh_some hst.code with h | h | h | h | h | h | h
    · exact walk_d a0 cap0 xs a1 cap1 ys w hx bx lx hy by_ ly (by omega) 45 h rfl hst (by rw [h] at hz; exact Int.ofNat.inj hz) (by omega)
    · exact walk_b a0 cap0 xs a1 cap1 ys w hx bx lx hy by_ ly (by omega) 98 h rfl hst (by rw [h] at hz; exact Int.ofNat.inj hz) (by omega)
    · exact walk_u a0 cap0 xs a1 cap1 ys w hx bx lx hy by_ ly (by omega) 117 h rfl hst (by rw [h] at hz; exact Int.ofNat.inj hz) (by omega)
    all_goals exact walk_x a0 cap0 xs a1 cap1 ys w hx bx lx hy by_ ly (by omega) _ h (by decide) (by decide) (by decide) hst (by rw [h] at hz; exact Int.ofNat.inj hz) (by omega)
  · exact walk_none a0 cap0 xs a1 cap1 ys w hx bx lx hy by_ ly (by omega) hc

set_option maxRecDepth 100000 in
theorem lifted (os : Os) (started : os.Started) (H : Type) (enc : TypeId × Value → H) :
    ReturnsInHanded {} Try.checked os 8 .any (Rows.opsSizesSpec.pre6 enc Try.prog Try.f8 Rows.opsSizesRow.domain false) (Rows.opsSizesSpec.post enc Try.prog Try.f8 false true false false) := by
  refine returnsInHanded_of_change_sized (C := Try.checked) own started (by kernel_rfl) Try.func8
    (ChangeSpec.witness6 (enc := enc) (C := Try.checked) false ⟨#[], #[.slice none 0 0, .slice none 0 0], []⟩ 8 (by kernel_rfl) (by kernel_rfl) (by kernel_rfl) (by kernel_rfl)) ?_
  intro W base args ds gs before hval0 hW hcnd hsz0 _
  have hsz : (DataW.weightsEach Try.prog (Try.f8.params.toList ++ Rows.opsSizesSpec.plain.varTypes Try.prog) (ds ++ gs)).all (· ≤ reachBytes) = true := hsz0
  clear hsz0
  have hval : ∀ (j : Nat) t v, Try.f8.params[j]? = some t → args[j]? = some v → Value.okWide Try.prog W .any base t v := hval0
  have hW' := hW
  obtain ⟨p, q, hA0, hV, rfl, hfz, hnd⟩ := hW
  have hA : DataW.TrodAll enc Try.prog W 0 (fun _ => true) true Try.f8.params.toList args.toList ds p := hA0
  rw [Try.params8] at hA hval hsz
  obtain ⟨v0, vs0, d0, ds0, p0, q0, hargs, rfl, rfl, h0, r0⟩ := trodAll_cons hA
  obtain ⟨v1, vs1, d1, ds1, p1, q1, rfl, rfl, rfl, h1, r1⟩ := trodAll_cons r0
  obtain ⟨rfl, rfl, rfl⟩ := trodAll_nil r1
  obtain rfl : args = #[v0, v1] := by cases args; simp_all
  obtain ⟨rfl, rfl⟩ := trodVars_none hV
  obtain ⟨a0, len0, cap0, rfl⟩ := okWide_slice Try.underlying31 (hval 0 31 v0 rfl rfl)
  have k0 := h0
  have lt0 : ∀ x ∈ p0, x.block < W.heap.size := by obtain ⟨m, hm⟩ := k0; exact DataW.trod_lt m _ _ _ hm
  obtain ⟨z0, w0, hcap0⟩ : ∃ zs, IsRow .u8 W a0 len0 cap0 zs ∧ cap0 * 1 ≤ 140737488351232 := by
    obtain ⟨fuel, hf⟩ := h0
    rcases open_ints Try.underlying31 Try.underlying5 (by kernel_rfl) hf with ⟨hcs, _⟩ | ⟨x, l, c, zs, hcs, _, hl, hm, hz, hx, hcell, hwz⟩
    · simp [Value.cells] at hcs
      obtain ⟨rfl, rfl, rfl⟩ := hcs
      exact ⟨[], .inl ⟨rfl, rfl, rfl, rfl⟩, by omega⟩
    · simp [Value.cells] at hcs
      obtain ⟨rfl, rfl, rfl⟩ := hcs
      simp only [Prod.mk.injEq] at hx
      obtain ⟨hx1, _⟩ := hx
      subst hx1
      have hcap := sized_slice hsz (j := 0) (t := 31) (e := 5) rfl rfl Try.underlying31
      rw [show Try.prog.bytesOf 5 = 1 from by kernel_rfl] at hcap
      simp only [lits, List.length_map, List.length_take, List.length_drop, reachBytes] at hcap
      have hz2 : zs.length = cap0 := by simpa using hz
      replace hcap : cap0 * 1 ≤ 140737488351232 := by omega
      exact ⟨zs, .inr ⟨_, rfl, hl, hm, by simpa using hz, hcell, hwz⟩, hcap⟩
  obtain ⟨a1, len1, cap1, rfl⟩ := okWide_slice Try.underlying31 (hval 1 31 v1 rfl rfl)
  have k1 := h1
  have lt1 : ∀ x ∈ p1, x.block < W.heap.size := by obtain ⟨m, hm⟩ := k1; exact DataW.trod_lt m _ _ _ hm
  obtain ⟨z1, w1, hcap1⟩ : ∃ zs, IsRow .u8 W a1 len1 cap1 zs ∧ cap1 * 1 ≤ 140737488351232 := by
    obtain ⟨fuel, hf⟩ := h1
    rcases open_ints Try.underlying31 Try.underlying5 (by kernel_rfl) hf with ⟨hcs, _⟩ | ⟨x, l, c, zs, hcs, _, hl, hm, hz, hx, hcell, hwz⟩
    · simp [Value.cells] at hcs
      obtain ⟨rfl, rfl, rfl⟩ := hcs
      exact ⟨[], .inl ⟨rfl, rfl, rfl, rfl⟩, by omega⟩
    · simp [Value.cells] at hcs
      obtain ⟨rfl, rfl, rfl⟩ := hcs
      simp only [Prod.mk.injEq] at hx
      obtain ⟨hx1, _⟩ := hx
      subst hx1
      have hcap := sized_slice hsz (j := 1) (t := 31) (e := 5) rfl rfl Try.underlying31
      rw [show Try.prog.bytesOf 5 = 1 from by kernel_rfl] at hcap
      simp only [lits, List.length_map, List.length_take, List.length_drop, reachBytes] at hcap
      have hz2 : zs.length = cap1 := by simpa using hz
      replace hcap : cap1 * 1 ≤ 140737488351232 := by omega
      exact ⟨zs, .inr ⟨_, rfl, hl, hm, by simpa using hz, hcell, hwz⟩, hcap⟩
  clear hA0 hval0
  refine (walk a0 len0 cap0 z0 a1 len1 cap1 z1 W w0 hcap0 w1 hcap1).mono fun e W' ⟨he, bel⟩ => ?_
  subst he
  exact ⟨_, rfl, _, _, _, [], _, [], hW', trodAll_mk1 (shut_bool Try.underlying4 _), (trodAll_cons_mk (Below.trod laidOut (by kernel_rfl) (of_decide_eq_true (by kernel_rfl)) k0 bel lt0) (trodAll_cons_mk (Below.trod laidOut (by kernel_rfl) (of_decide_eq_true (by kernel_rfl)) k1 bel lt1) trodAll_mk0)), rfl, bel.frame _, fun h => by cases h⟩

theorem closed : joinedFacts Try.prog 8 Try.f8 Rows.opsSizesSpec Rows.opsSizesRow = true := by
  have h1 := mayEnter_fact
  have h2 : (Rows.opsSizesRow.lifted == Try.prog.liftsFinal) = true := by rw [lifts_fact]; rfl
  have h3 : (Try.prog.make == some Rows.opsSizesRow.make) = true := by rw [make_fact]; rfl
  have hfin : ∀ b : Bool, b = true → b = true := fun _ h => h
  unfold joinedFacts
  rw [h1, h2, h3]
  clear h1 h2 h3
  refine hfin _ ?_
  kernel_rfl

theorem over : Rows.opsSizesRow.holds Try.pinned (OpenSpec.ofChange Rows.opsSizesSpec) :=
  OpenClaim.holds_of_wide 8 Try.f8 rfl rfl rfl rfl rfl rfl rfl ⟨rfl, rfl, rfl, rfl, rfl⟩ rfl rfl rfl rfl rfl (by kernel_rfl) Try.func8 closed
    (of_decide_eq_true (by kernel_rfl)) (by unfold Func.isWrapper; first | (rw [if_pos (by decide +kernel)]; kernel_rfl) | (rw [if_neg (by decide +kernel)]; exact ⟨rfl, rfl⟩))
    (fun os started H enc _ => lifted os started H enc)

/-- The statement. -/
theorem proved : Rows.OpsSizesSaid := over
#print axioms proved

end Go.Proofs.Ytcinmgifadmbeaa.OpsSizesP
