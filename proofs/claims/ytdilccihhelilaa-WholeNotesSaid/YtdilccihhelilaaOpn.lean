/- What is in a frame: the program's. -/
import Derived.Test.YtdilccihhelilaaErr
import Derived.Test.YtdilccihhelilaaWrap
import Derived.Test.YtdilccihhelilaaRead
import Derived.Test.YtdilccihhelilaaQuietS
import Derived.Lib.SmallJoins
namespace Go.Proofs.Ytdilccihhelilaa
open Go.RowKit
set_option linter.unusedVariables false
set_option linter.unusedSimpArgs false

/-- A part of bytes that are read. -/
theorem sub_reads {w : World} {B k n c : Nat} {ad : Addr} {bs : List Int} (hr : ReadsB w B (some ad) bs) (hk : k + n ≤ bs.length) (hc : bs.length ≤ c) :
    ReadsB w B (if c = k then some ad else some (ad.add k)) ((bs.drop k).take n) := by
  have h1 := (Reads.cut hr (k := k) (cap := c) (by omega) hc).take (k := n) (by omega)
  have hl : ((bs.drop k).take n).length = n := by rw [List.length_take, List.length_drop]; omega
  unfold ReadsB
  rw [hl]
  have hx : cellsOf .u8 ((bs.drop k).take n) = List.take (n * 1) (List.drop (k * 1) (cellsOf .u8 bs)) := by simp [cellsOf, List.map_take, List.map_drop]
  rw [hx]
  simpa only [Nat.mul_one, Option.map_some] using h1
/-- The length that a frame's head tells. -/
def hdN (xs : List Int) : Int := gfold 0 (xs.take 4)
/-- The sum that stands behind a frame of n bytes. -/
def tlN (xs : List Int) (n : Nat) : Int := xs.getD (n + 4) 0 + xs.getD (n + 5) 0 * 256 + xs.getD (n + 6) 0 * 65536 + xs.getD (n + 7) 0 * 16777216
def opC (xs : List Int) : Int := if xs.length < 4 then 3 else if 1048576 < hdN xs then 2 else if (xs.length : Int) < hdN xs + 8 then 3 else if tlN xs (hdN xs).toNat ≠ sumB (xs.take ((hdN xs).toNat + 4)) then 30 else 0
def opK (xs : List Int) : Int := if opC xs = 30 ∨ opC xs = 0 then hdN xs + 8 else 0
def opB (xs : List Int) : List Int := if opC xs = 0 then (xs.drop 4).take (hdN xs).toNat else []
/-- What 'open' comes to. -/
def FPost (w : World) (bs : List Int) (k : Int) (v : Value) (e : Ending) (w' : World) : Prop :=
  ∃ A c, e = .returned (.tuple #[.slice A bs.length c, .int .i64 k, v]) ∧ OwnB w' w.heap.size (.slice A bs.length c) bs ∧ Below w.heap.size w w'

theorem le_join {y0 y1 y2 y3 : Int} (h0 : 0 ≤ y0 ∧ y0 < 256) (h1 : 0 ≤ y1 ∧ y1 < 256) (h2 : 0 ≤ y2 ∧ y2 < 256) (h3 : 0 ≤ y3 ∧ y3 < 256) :
    bits BinOp.or IntKind.u32 (bits BinOp.or IntKind.u32 (bits BinOp.or IntKind.u32 (y0 % 4294967296) (y1 % 4294967296 * 256 % 4294967296)) (y2 % 4294967296 * 65536 % 4294967296)) (y3 % 4294967296 * 16777216 % 4294967296) = y0 + y1 * 256 + y2 * 65536 + y3 * 16777216 := by
  rw [show y0 % 4294967296 = y0 by omega, show y1 % 4294967296 * 256 % 4294967296 = y1 * 256 by omega, show y2 % 4294967296 * 65536 % 4294967296 = y2 * 65536 by omega, show y3 % 4294967296 * 16777216 % 4294967296 = y3 * 16777216 by omega]
  rw [u32_or y0 (y1 * 256) h0.1 (by omega) (by omega) (by omega), Nat.or_comm, nat_join 8 (y1 * 256).toNat y0.toNat (by omega) (by omega)]
  rw [u32_or _ (y2 * 65536) (by omega) (by omega) (by omega) (by omega), Nat.or_comm, nat_join 16 (y2 * 65536).toNat _ (by omega) (by omega)]
  rw [u32_or _ (y3 * 16777216) (by omega) (by omega) (by omega) (by omega), Nat.or_comm, nat_join 24 (y3 * 16777216).toNat _ (by omega) (by omega)]
  omega
set_option maxRecDepth 100000 in
set_option maxHeartbeats 2000000 in
theorem open_tiny (A : Option Addr) (c0 : Nat) (xs : List Int) (w : World) (hr : ReadsB w w.heap.size A xs) (hb : Bytes xs) (hc : xs.length ≤ c0) (hm : c0 ≤ maxLen) (hs : xs.length < 4) : Calls Try.prog 51 #[.slice A xs.length c0] w (FPost w [] 0 (.iface 128 (.agg #[.int .i64 0, .iface 28 (.int .i64 3)]))) := by
  have hmin : (if (4 : Int) < xs.length then (4 : Int) else xs.length) = xs.length := if_neg (by omega)
  unfold maxLen at hm
  go_enter Try.func51, Try.ntmps51
  go_wp2_with fail
  refine (newReader_any A _ xs.length xs w _ hr rfl (by omega)).mono ?_
  rintro _ w1 ⟨g, rfl, hg, hR, hb1⟩
  have hu := Lib.hid (ruint_short g 0 4 xs w1 hR (by decide) (by decide) (by omega))
  go_wp2_with fail
  refine hu.out.mono ?_
  rintro _ w2 ⟨rfl, m, rfl⟩
  go_wp2_with fail
  refine bodyPost_ret (v := .tuple #[.slice none 0 0, .int .i64 0, (.iface 128 (.agg #[.int .i64 0, .iface 28 (.int .i64 3)]))]) (by simp [results, Try.results51, go_sem]) rfl ?_
  exact ⟨none, 0, rfl, OwnB.nil _ _, hb1.trans (Go.Joins.below_draws _ _ _)⟩
theorem hdN_bd {xs : List Int} (hb : Bytes xs) : 0 ≤ hdN xs ∧ hdN xs < 4294967296 := by
  have h0 := gfold_nn (xs.take 4) 0 (hb.take 4) (by omega)
  have h1 := (gfold_bd (xs.take 4) 0 1 (hb.take 4) (by omega) (by omega)).2
  have h2 := pow_mono256 (show (xs.take 4).length ≤ 4 by rw [List.length_take]; omega)
  have h3 : (256 : Int) ^ 4 = 4294967296 := by decide
  unfold hdN
  omega
theorem errs0 (w : World) : (Instr.index 109 (.agg #[.int .i64 3, .int .i64 2, .int .i64 30]) (.int .i64 0)).run Try.prog w = .ok (.int .i64 3) w := by kernel_rfl
theorem errs1 (w : World) : (Instr.index 109 (.agg #[.int .i64 3, .int .i64 2, .int .i64 30]) (.int .i64 1)).run Try.prog w = .ok (.int .i64 2) w := by kernel_rfl
theorem errs2 (w : World) : (Instr.index 109 (.agg #[.int .i64 3, .int .i64 2, .int .i64 30]) (.int .i64 2)).run Try.prog w = .ok (.int .i64 30) w := by kernel_rfl
set_option maxRecDepth 100000 in
set_option maxHeartbeats 2000000 in
theorem open_long (A : Option Addr) (c0 : Nat) (xs : List Int) (w : World) (hr : ReadsB w w.heap.size A xs) (hb : Bytes xs) (hc : xs.length ≤ c0) (hm : c0 ≤ maxLen) (hs : 4 ≤ xs.length) (hn : 1048576 < hdN xs) : Calls Try.prog 51 #[.slice A xs.length c0] w (FPost w [] 0 (.iface 128 (.agg #[.int .i64 0, .iface 28 (.int .i64 2)]))) := by
  have hmin : (if (4 : Int) < xs.length then (4 : Int) else xs.length) = 4 := by split <;> omega
  obtain ⟨hN0, hN1⟩ := hdN_bd hb
  obtain ⟨ad, rfl, had, _⟩ := hr.at_ (k := 0) (by omega)
  have hl4 : (xs.take 4).length = 4 := by rw [List.length_take]; omega
  have hr4 : ReadsB w w.heap.size (some ad) (xs.take 4) := by
    have h := sub_reads (k := 0) (n := 4) (c := c0) hr (by omega) hc
    rw [List.drop_zero] at h
    rw [if_neg (by omega)] at h
    exact h
  have hrd := Lib.hid (newReader_any (some ad) c0 4 (xs.take 4) w _ hr4 hl4.symm (by omega))
  have hud := fun g w1 (hR : Rd w1 g (xs.take 4) 0) (hg : w.heap.size ≤ g) (hb1 : Below w.heap.size w w1) => Lib.hid ((ruint_yes g 0 4 (xs.take 4) w1 (hb.take 4) hR (by decide) (by decide) (by omega)).mono
    (R' := fun e w' => e = .returned (.tuple #[.int .u64 (hdN xs), .int .i64 0]) ∧ Below w.heap.size w w') (by
      rintro _ w2 ⟨rfl, _, hg2⟩
      refine ⟨?_, hb1.trans (grown_below hg2 hb1.size (fun k h => by injection h with h; omega))⟩
      rw [List.drop_zero, List.take_take]
      rfl))
  unfold maxLen at hm
  obtain ⟨N, hN⟩ : ∃ N, N = hdN xs := ⟨_, rfl⟩
  rw [← hN] at hN0 hN1 hud
  rw [← hN] at hn
  have b1 : decide (1048576 < N) = true := decide_eq_true hn
  clear hN
  go_enter Try.func51, Try.ntmps51
  go_wp2_with fail
  refine hrd.out.mono ?_
  rintro _ w1 ⟨g, rfl, hg, hR, hb1⟩
  have hu := hud g w1 hR hg hb1
  clear hud hR hrd
  go_wp2_with fail
  refine hu.out.mono ?_
  clear hu
  rintro _ w2 ⟨rfl, hb2⟩
  go_wp2_with fail
  refine bodyPost_ret (v := .tuple #[.slice none 0 0, .int .i64 0, (.iface 128 (.agg #[.int .i64 0, .iface 28 (.int .i64 2)]))]) (by simp [results, Try.results51, go_sem]) rfl ?_
  exact ⟨none, 0, rfl, OwnB.nil _ _, hb2⟩
set_option maxRecDepth 100000 in
set_option maxHeartbeats 2000000 in
theorem open_short (A : Option Addr) (c0 : Nat) (xs : List Int) (w : World) (hr : ReadsB w w.heap.size A xs) (hb : Bytes xs) (hc : xs.length ≤ c0) (hm : c0 ≤ maxLen) (hs : 4 ≤ xs.length) (hn : hdN xs ≤ 1048576) (hl : (xs.length : Int) < hdN xs + 8) : Calls Try.prog 51 #[.slice A xs.length c0] w (FPost w [] 0 (.iface 128 (.agg #[.int .i64 0, .iface 28 (.int .i64 3)]))) := by
  have hmin : (if (4 : Int) < xs.length then (4 : Int) else xs.length) = 4 := by split <;> omega
  obtain ⟨hN0, hN1⟩ := hdN_bd hb
  obtain ⟨ad, rfl, had, _⟩ := hr.at_ (k := 0) (by omega)
  have hl4 : (xs.take 4).length = 4 := by rw [List.length_take]; omega
  have hr4 : ReadsB w w.heap.size (some ad) (xs.take 4) := by
    have h := sub_reads (k := 0) (n := 4) (c := c0) hr (by omega) hc
    rw [List.drop_zero] at h
    rw [if_neg (by omega)] at h
    exact h
  have hrd := Lib.hid (newReader_any (some ad) c0 4 (xs.take 4) w _ hr4 hl4.symm (by omega))
  have hud := fun g w1 (hR : Rd w1 g (xs.take 4) 0) (hg : w.heap.size ≤ g) (hb1 : Below w.heap.size w w1) => Lib.hid ((ruint_yes g 0 4 (xs.take 4) w1 (hb.take 4) hR (by decide) (by decide) (by omega)).mono
    (R' := fun e w' => e = .returned (.tuple #[.int .u64 (hdN xs), .int .i64 0]) ∧ Below w.heap.size w w') (by
      rintro _ w2 ⟨rfl, _, hg2⟩
      refine ⟨?_, hb1.trans (grown_below hg2 hb1.size (fun k h => by injection h with h; omega))⟩
      rw [List.drop_zero, List.take_take]
      rfl))
  unfold maxLen at hm
  obtain ⟨N, hN⟩ : ∃ N, N = hdN xs := ⟨_, rfl⟩
  rw [← hN] at hN0 hN1 hud
  rw [← hN] at hn hl
  have b1 : decide (1048576 < N) = false := decide_eq_false (by omega)
  have b2 : decide ((xs.length : Int) < 4 + N + 4) = true := decide_eq_true (by omega)
  have q0 : wrap64 N = N := IntWalk.wrap64_in _ (by omega)
  have q1 : wrap64 (4 + N) = 4 + N := IntWalk.wrap64_in _ (by omega)
  have q2 : wrap64 (4 + N + 4) = 4 + N + 4 := IntWalk.wrap64_in _ (by omega)
  clear hN
  go_enter Try.func51, Try.ntmps51
  go_wp2_with fail
  refine hrd.out.mono ?_
  rintro _ w1 ⟨g, rfl, hg, hR, hb1⟩
  have hu := hud g w1 hR hg hb1
  clear hud hR hrd
  go_wp2_with fail
  refine hu.out.mono ?_
  clear hu
  rintro _ w2 ⟨rfl, hb2⟩
  go_wp2_with fail
  refine bodyPost_ret (v := .tuple #[.slice none 0 0, .int .i64 0, (.iface 128 (.agg #[.int .i64 0, .iface 28 (.int .i64 3)]))]) (by simp [results, Try.results51, go_sem]) rfl ?_
  exact ⟨none, 0, rfl, OwnB.nil _ _, hb2⟩
set_option maxRecDepth 100000 in
set_option maxHeartbeats 2000000 in
theorem open_bad (A : Option Addr) (c0 : Nat) (xs : List Int) (w : World) (hr : ReadsB w w.heap.size A xs) (hb : Bytes xs) (hc : xs.length ≤ c0) (hm : c0 ≤ maxLen) (hs : 4 ≤ xs.length) (hn : hdN xs ≤ 1048576) (hl : hdN xs + 8 ≤ (xs.length : Int)) (ht : tlN xs (hdN xs).toNat ≠ sumB (xs.take ((hdN xs).toNat + 4))) :
    Calls Try.prog 51 #[.slice A xs.length c0] w (FPost w [] (hdN xs + 8) (.iface 128 (.agg #[.int .i64 (hdN xs + 8), .iface 28 (.int .i64 30)]))) := by
  have hmin : (if (4 : Int) < xs.length then (4 : Int) else xs.length) = 4 := by split <;> omega
  obtain ⟨hN0, hN1⟩ := hdN_bd hb
  obtain ⟨ad, rfl, had, _⟩ := hr.at_ (k := 0) (by omega)
  have hl4 : (xs.take 4).length = 4 := by rw [List.length_take]; omega
  have hr4 : ReadsB w w.heap.size (some ad) (xs.take 4) := by
    have h := sub_reads (k := 0) (n := 4) (c := c0) hr (by omega) hc
    rw [List.drop_zero] at h
    rw [if_neg (by omega)] at h
    exact h
  have hrd := Lib.hid (newReader_any (some ad) c0 4 (xs.take 4) w _ hr4 hl4.symm (by omega))
  have hud := fun g w1 (hR : Rd w1 g (xs.take 4) 0) (hg : w.heap.size ≤ g) (hb1 : Below w.heap.size w w1) => Lib.hid ((ruint_yes g 0 4 (xs.take 4) w1 (hb.take 4) hR (by decide) (by decide) (by omega)).mono
    (R' := fun e w' => e = .returned (.tuple #[.int .u64 (hdN xs), .int .i64 0]) ∧ Below w.heap.size w w') (by
      rintro _ w2 ⟨rfl, _, hg2⟩
      refine ⟨?_, hb1.trans (grown_below hg2 hb1.size (fun k h => by injection h with h; omega))⟩
      rw [List.drop_zero, List.take_take]
      rfl))
  unfold maxLen at hm
  obtain ⟨N, hN⟩ : ∃ N, N = hdN xs := ⟨_, rfl⟩
  rw [← hN] at hN0 hN1 hud
  rw [← hN] at hn hl ht
  have b1 : decide (1048576 < N) = false := decide_eq_false (by omega)
  have b2 : decide ((xs.length : Int) < 4 + N + 4) = false := decide_eq_false (by omega)
  obtain ⟨e, he⟩ : ∃ e : Nat, (4 + N).toNat = e := ⟨_, rfl⟩
  have he4 : (4 + N + 4).toNat = e + 4 := by omega
  have hee : e + 4 ≤ xs.length := by omega
  have heN : N.toNat + 4 = e := by omega
  have hne0 : ¬ c0 = e := by omega
  have hE : e + 4 - e = 4 := by omega
  have hlt : (xs.take e).length = e := by rw [List.length_take]; omega
  have hby := fun i => hb.at_ i
  have hce : ∀ i, i < 4 → w.cell? ((ad.add e).add i) = some (.int .u8 (xs.getD (e + i) 0)) := fun i hi => by
    obtain ⟨ad', h1, _, h3⟩ := hr.at_ (k := e + i) (by omega)
    injection h1 with h1
    subst h1
    rw [add_of_add]
    exact h3
  obtain ⟨a8, ha8⟩ : ∃ a, ad.add e = a := ⟨_, rfl⟩
  have hb8 : ∀ i, (a8.add i).block < w.heap.size := fun i => by rw [block_of_add, ← ha8, block_of_add]; exact had
  have hrt : ReadsB w w.heap.size (some ad) (xs.take e) := by
    have h := sub_reads (k := 0) (n := e) (c := c0) hr (by omega) hc
    rw [List.drop_zero] at h
    rw [if_neg (by omega)] at h
    exact h
  rw [ha8] at hce
  have gsum := fun w' (h : Below w.heap.size w w') => Lib.hid (sum_any (some ad) c0 (xs.take e) w' (hb.take e) ((Reads.below hrt h).more h.size) (by unfold maxLen; omega))
  rw [hlt] at gsum
  rw [heN] at ht
  generalize sumB (xs.take e) = S at *
  have x0 := hce 0 (by omega)
  have x1 := hce 1 (by omega)
  have x2 := hce 2 (by omega)
  have x3 := hce 3 (by omega)
  have t0 := hby (e + 0)
  have t1 := hby (e + 1)
  have t2 := hby (e + 2)
  have t3 := hby (e + 3)
  have htl : tlN xs N.toNat = xs.getD (e + 0) 0 + xs.getD (e + 1) 0 * 256 + xs.getD (e + 2) 0 * 65536 + xs.getD (e + 3) 0 * 16777216 := by
    unfold tlN
    rw [show N.toNat + 4 = e + 0 by omega, show N.toNat + 5 = e + 1 by omega, show N.toNat + 6 = e + 2 by omega, show N.toNat + 7 = e + 3 by omega]
  generalize xs.getD (e + 0) 0 = y0 at *
  generalize xs.getD (e + 1) 0 = y1 at *
  generalize xs.getD (e + 2) 0 = y2 at *
  generalize xs.getD (e + 3) 0 = y3 at *
  have hle := le_join t0 t1 t2 t3
  rw [← htl] at hle
  obtain ⟨TL, hTL⟩ : ∃ z, z = tlN xs N.toNat := ⟨_, rfl⟩
  rw [← hTL] at hle ht
  clear t0 t1 t2 t3 htl hTL hby hce
  have q0 : wrap64 N = N := IntWalk.wrap64_in _ (by omega)
  have q1 : wrap64 (4 + N) = 4 + N := IntWalk.wrap64_in _ (by omega)
  have q2 : wrap64 (4 + N + 4) = 4 + N + 4 := IntWalk.wrap64_in _ (by omega)
  have b5 : (TL != S) = true := by simpa using ht
  rw [← hN, show N + 8 = 4 + N + 4 by omega]
  clear hN
  go_enter Try.func51, Try.ntmps51
  go_wp2_with fail
  refine hrd.out.mono ?_
  rintro _ w1 ⟨g, rfl, hg, hR, hb1⟩
  have hu := hud g w1 hR hg hb1
  clear hud hR hrd
  go_wp2_with fail
  refine hu.out.mono ?_
  clear hu
  rintro _ w2 ⟨rfl, hb2⟩
  go_wp2_with fail
  have hw2 := hb2.size
  have k0 : ∀ z : Of (InB w2), z.w.cell? a8 = some (.int .u8 y0) := fun z => old_cell z (by have h : a8.block < w.heap.size := hb8 0; omega) ((hb2.cell (p := a8) (hb8 0)).trans x0)
  have k1 : ∀ z : Of (InB w2), z.w.cell? (a8.add 1) = some (.int .u8 y1) := fun z => old_cell z (by have := hb8 1; omega) ((hb2.cell (hb8 1)).trans x1)
  have k2 : ∀ z : Of (InB w2), z.w.cell? (a8.add 2) = some (.int .u8 y2) := fun z => old_cell z (by have := hb8 2; omega) ((hb2.cell (hb8 2)).trans x2)
  have k3 : ∀ z : Of (InB w2), z.w.cell? (a8.add 3) = some (.int .u8 y3) := fun z => old_cell z (by have := hb8 3; omega) ((hb2.cell (hb8 3)).trans x3)
  have gs2 : ∀ z : Of (InB w2), Hid (Calls Try.prog 50 #[.slice (some ad) e c0] z.w fun e w' => e = .returned (.int .u32 S) ∧ Below z.w.heap.size z.w w') := fun z => gsum z.w (hb2.trans (z.ok.mono hw2))
  have k1' : ∀ z : Of (InB w2), z.w.cell? { block := a8.block, off := a8.off + 1 } = some (.int .u8 y1) := k1
  have k2' : ∀ z : Of (InB w2), z.w.cell? { block := a8.block, off := a8.off + 2 } = some (.int .u8 y2) := k2
  have k3' : ∀ z : Of (InB w2), z.w.cell? { block := a8.block, off := a8.off + 3 } = some (.int .u8 y3) := k3
  refine wp_region_old (by kernel_rfl) (by kernel_rfl) fun hne => ?_
  repeat (any_goals (first | go_big_quiet_step (first | (go_at_call 50; exact old_of (gs2 _).out)) | quiet_step (first | (go_at_call 50; exact old_of (gs2 _).out))))
  refine wpQuiet_nil ?_
  rintro w5 ⟨z5, hz5⟩
  have hH5 := of_old z5 hz5
  clear hz5 z5
  go_wp2_with fail
  refine bodyPost_ret (v := .tuple #[.slice none 0 0, .int .i64 (4 + N + 4), (.iface 128 (.agg #[.int .i64 (4 + N + 4), .iface 28 (.int .i64 30)]))]) (by simp [results, Try.results51, go_sem]) rfl ?_
  exact ⟨none, 0, rfl, OwnB.nil _ _, hb2.trans (hH5.mono hb2.size)⟩
set_option maxRecDepth 100000 in
set_option maxHeartbeats 2000000 in
theorem open_ok (A : Option Addr) (c0 : Nat) (xs : List Int) (w : World) (hr : ReadsB w w.heap.size A xs) (hb : Bytes xs) (hc : xs.length ≤ c0) (hm : c0 ≤ maxLen) (hs : 4 ≤ xs.length) (hn : hdN xs ≤ 1048576) (hl : hdN xs + 8 ≤ (xs.length : Int)) (ht : tlN xs (hdN xs).toNat = sumB (xs.take ((hdN xs).toNat + 4))) :
    Calls Try.prog 51 #[.slice A xs.length c0] w (FPost w ((xs.drop 4).take (hdN xs).toNat) (hdN xs + 8) .nilIface) := by
  have hmin : (if (4 : Int) < xs.length then (4 : Int) else xs.length) = 4 := by split <;> omega
  obtain ⟨hN0, hN1⟩ := hdN_bd hb
  obtain ⟨ad, rfl, had, _⟩ := hr.at_ (k := 0) (by omega)
  have hl4 : (xs.take 4).length = 4 := by rw [List.length_take]; omega
  have hr4 : ReadsB w w.heap.size (some ad) (xs.take 4) := by
    have h := sub_reads (k := 0) (n := 4) (c := c0) hr (by omega) hc
    rw [List.drop_zero] at h
    rw [if_neg (by omega)] at h
    exact h
  have hrd := Lib.hid (newReader_any (some ad) c0 4 (xs.take 4) w _ hr4 hl4.symm (by omega))
  have hud := fun g w1 (hR : Rd w1 g (xs.take 4) 0) (hg : w.heap.size ≤ g) (hb1 : Below w.heap.size w w1) => Lib.hid ((ruint_yes g 0 4 (xs.take 4) w1 (hb.take 4) hR (by decide) (by decide) (by omega)).mono
    (R' := fun e w' => e = .returned (.tuple #[.int .u64 (hdN xs), .int .i64 0]) ∧ Below w.heap.size w w') (by
      rintro _ w2 ⟨rfl, _, hg2⟩
      refine ⟨?_, hb1.trans (grown_below hg2 hb1.size (fun k h => by injection h with h; omega))⟩
      rw [List.drop_zero, List.take_take]
      rfl))
  unfold maxLen at hm
  obtain ⟨N, hN⟩ : ∃ N, N = hdN xs := ⟨_, rfl⟩
  rw [← hN] at hN0 hN1 hud
  rw [← hN] at hn hl ht
  have b1 : decide (1048576 < N) = false := decide_eq_false (by omega)
  have b2 : decide ((xs.length : Int) < 4 + N + 4) = false := decide_eq_false (by omega)
  obtain ⟨e, he⟩ : ∃ e : Nat, (4 + N).toNat = e := ⟨_, rfl⟩
  have he4 : (4 + N + 4).toNat = e + 4 := by omega
  have hee : e + 4 ≤ xs.length := by omega
  have heN : N.toNat + 4 = e := by omega
  have hne0 : ¬ c0 = e := by omega
  have hE : e + 4 - e = 4 := by omega
  have hlt : (xs.take e).length = e := by rw [List.length_take]; omega
  have hby := fun i => hb.at_ i
  have hce : ∀ i, i < 4 → w.cell? ((ad.add e).add i) = some (.int .u8 (xs.getD (e + i) 0)) := fun i hi => by
    obtain ⟨ad', h1, _, h3⟩ := hr.at_ (k := e + i) (by omega)
    injection h1 with h1
    subst h1
    rw [add_of_add]
    exact h3
  obtain ⟨a8, ha8⟩ : ∃ a, ad.add e = a := ⟨_, rfl⟩
  have hb8 : ∀ i, (a8.add i).block < w.heap.size := fun i => by rw [block_of_add, ← ha8, block_of_add]; exact had
  have hrt : ReadsB w w.heap.size (some ad) (xs.take e) := by
    have h := sub_reads (k := 0) (n := e) (c := c0) hr (by omega) hc
    rw [List.drop_zero] at h
    rw [if_neg (by omega)] at h
    exact h
  rw [ha8] at hce
  have gsum := fun w' (h : Below w.heap.size w w') => Lib.hid (sum_any (some ad) c0 (xs.take e) w' (hb.take e) ((Reads.below hrt h).more h.size) (by unfold maxLen; omega))
  rw [hlt] at gsum
  rw [heN] at ht
  generalize sumB (xs.take e) = S at *
  have x0 := hce 0 (by omega)
  have x1 := hce 1 (by omega)
  have x2 := hce 2 (by omega)
  have x3 := hce 3 (by omega)
  have t0 := hby (e + 0)
  have t1 := hby (e + 1)
  have t2 := hby (e + 2)
  have t3 := hby (e + 3)
  have htl : tlN xs N.toNat = xs.getD (e + 0) 0 + xs.getD (e + 1) 0 * 256 + xs.getD (e + 2) 0 * 65536 + xs.getD (e + 3) 0 * 16777216 := by
    unfold tlN
    rw [show N.toNat + 4 = e + 0 by omega, show N.toNat + 5 = e + 1 by omega, show N.toNat + 6 = e + 2 by omega, show N.toNat + 7 = e + 3 by omega]
  generalize xs.getD (e + 0) 0 = y0 at *
  generalize xs.getD (e + 1) 0 = y1 at *
  generalize xs.getD (e + 2) 0 = y2 at *
  generalize xs.getD (e + 3) 0 = y3 at *
  have hle := le_join t0 t1 t2 t3
  rw [← htl] at hle
  obtain ⟨TL, hTL⟩ : ∃ z, z = tlN xs N.toNat := ⟨_, rfl⟩
  rw [← hTL] at hle ht
  clear t0 t1 t2 t3 htl hTL hby hce
  have q0 : wrap64 N = N := IntWalk.wrap64_in _ (by omega)
  have q1 : wrap64 (4 + N) = 4 + N := IntWalk.wrap64_in _ (by omega)
  have q2 : wrap64 (4 + N + 4) = 4 + N + 4 := IntWalk.wrap64_in _ (by omega)
  have b5 : (TL != S) = false := by simpa using ht
  rw [← hN, show N + 8 = 4 + N + 4 by omega, show N.toNat = e - 4 by omega]
  clear hN
  have hne4 : ¬ c0 = 4 := by omega
  have hle4 : 4 ≤ e := by omega
  have hlec : e ≤ c0 := by omega
  have hrb : ReadsB w w.heap.size (some (ad.add 4)) ((xs.drop 4).take (e - 4)) := by
    have h := sub_reads (k := 4) (n := e - 4) (c := c0) hr (by omega) hc
    rw [if_neg hne4] at h
    exact h
  have hrl : ((xs.drop 4).take (e - 4)).length = e - 4 := by rw [List.length_take, List.length_drop]; omega
  generalize (xs.drop 4).take (e - 4) = bs at *
  go_enter Try.func51, Try.ntmps51
  go_wp2_with fail
  refine hrd.out.mono ?_
  rintro _ w1 ⟨g, rfl, hg, hR, hb1⟩
  have hu := hud g w1 hR hg hb1
  clear hud hR hrd
  go_wp2_with fail
  refine hu.out.mono ?_
  clear hu
  rintro _ w2 ⟨rfl, hb2⟩
  go_wp2_with fail
  have hw2 := hb2.size
  have k0 : ∀ z : Of (InB w2), z.w.cell? a8 = some (.int .u8 y0) := fun z => old_cell z (by have h : a8.block < w.heap.size := hb8 0; omega) ((hb2.cell (p := a8) (hb8 0)).trans x0)
  have k1 : ∀ z : Of (InB w2), z.w.cell? (a8.add 1) = some (.int .u8 y1) := fun z => old_cell z (by have := hb8 1; omega) ((hb2.cell (hb8 1)).trans x1)
  have k2 : ∀ z : Of (InB w2), z.w.cell? (a8.add 2) = some (.int .u8 y2) := fun z => old_cell z (by have := hb8 2; omega) ((hb2.cell (hb8 2)).trans x2)
  have k3 : ∀ z : Of (InB w2), z.w.cell? (a8.add 3) = some (.int .u8 y3) := fun z => old_cell z (by have := hb8 3; omega) ((hb2.cell (hb8 3)).trans x3)
  have gs2 : ∀ z : Of (InB w2), Hid (Calls Try.prog 50 #[.slice (some ad) e c0] z.w fun e w' => e = .returned (.int .u32 S) ∧ Below z.w.heap.size z.w w') := fun z => gsum z.w (hb2.trans (z.ok.mono hw2))
  have k1' : ∀ z : Of (InB w2), z.w.cell? { block := a8.block, off := a8.off + 1 } = some (.int .u8 y1) := k1
  have k2' : ∀ z : Of (InB w2), z.w.cell? { block := a8.block, off := a8.off + 2 } = some (.int .u8 y2) := k2
  have k3' : ∀ z : Of (InB w2), z.w.cell? { block := a8.block, off := a8.off + 3 } = some (.int .u8 y3) := k3
  refine wp_region_old (by kernel_rfl) (by kernel_rfl) fun hne => ?_
  repeat (any_goals (first | go_big_quiet_step (first | (go_at_call 50; exact old_of (gs2 _).out)) | quiet_step (first | (go_at_call 50; exact old_of (gs2 _).out))))
  refine wpQuiet_nil ?_
  rintro w5 ⟨z5, hz5⟩
  have hH5 := of_old z5 hz5
  clear hz5 z5
  have hB5 := hb2.trans (hH5.mono hb2.size)
  go_wp2_with (first
    | (at_builtin
       refine wpList_appB _ rfl (.const (.slice none 0 0)) (.tmp 87) rfl w5.heap.size (.slice none 0 0) [] rfl (OwnB.nil _ _) w.heap.size (some (ad.add 4)) (e - 4) (c0 - 4) bs rfl (Reads.below hrb hB5) hrl.symm
         bs (e - 4) rfl hrl (by omega) (Nat.le_refl _) ?_
       intro A6 c6 w6 hown6 _ hb6 _))
  refine bodyPost_ret (v := .tuple #[.slice A6 (e - 4) c6, .int .i64 (4 + N + 4), .nilIface]) (by simp [results, Try.results51, go_sem]) rfl ?_
  refine ⟨A6, c6, by rw [hrl], ?_, hB5.trans (hb6.mono hB5.size)⟩
  rw [hrl]
  exact hown6.base_ hB5.size
set_option maxRecDepth 100000 in
set_option maxHeartbeats 2000000 in
theorem opn_2 (k : Int) (A : Option Addr) (n c0 : Nat) (w : World) (h : Calls Try.prog 51 #[.slice A n c0] w (FPost w [] k (.iface 128 (.agg #[.int .i64 k, .iface 28 (.int .i64 2)])))) :
    Calls Try.prog 40 #[.slice A n c0] w (FPost w [] k (.int .i64 2)) := by
  replace h := Lib.hid h
  have i0 := errs0
  have i1 := errs1
  have i2 := errs2
  go_enter Try.func40, Try.ntmps40
  go_wp2_with fail
  refine h.out.mono ?_
  rintro _ w1 ⟨A1, c1, rfl, hO1, hb1⟩
  have hB0 := hb1
  go_wp2_with fail
  refine wp_loop_rounds 2 ?_
  rw [rounds_succ]
  go_wp2_with (first | (go_at_call 27; refine (errIs_flaw _ _ _ _).mono ?_; rintro _ v ⟨rfl, hv⟩))
  have hB1 := hB0.trans (hv.mono hB0.size)
  clear hv hB0
  generalize v = v1 at *
  rw [rounds_succ]
  go_wp2_with (first | (go_at_call 27; refine (errIs_flaw _ _ _ _).mono ?_; rintro _ v ⟨rfl, hv⟩))
  have hB2 := hB1.trans (hv.mono hB1.size)
  refine bodyPost_ret (v := .tuple #[.slice none 0 0, .int .i64 k, .int .i64 2]) (by simp [results, Try.results40, go_sem]) rfl ?_
  exact ⟨none, 0, rfl, OwnB.nil _ _, hB2⟩
set_option maxRecDepth 100000 in
set_option maxHeartbeats 2000000 in
theorem opn_30 (k : Int) (A : Option Addr) (n c0 : Nat) (w : World) (h : Calls Try.prog 51 #[.slice A n c0] w (FPost w [] k (.iface 128 (.agg #[.int .i64 k, .iface 28 (.int .i64 30)])))) :
    Calls Try.prog 40 #[.slice A n c0] w (FPost w [] k (.int .i64 30)) := by
  replace h := Lib.hid h
  have i0 := errs0
  have i1 := errs1
  have i2 := errs2
  go_enter Try.func40, Try.ntmps40
  go_wp2_with fail
  refine h.out.mono ?_
  rintro _ w1 ⟨A1, c1, rfl, hO1, hb1⟩
  have hB0 := hb1
  go_wp2_with fail
  refine wp_loop_rounds 3 ?_
  rw [rounds_succ]
  go_wp2_with (first | (go_at_call 27; refine (errIs_flaw _ _ _ _).mono ?_; rintro _ v ⟨rfl, hv⟩))
  have hB1 := hB0.trans (hv.mono hB0.size)
  clear hv hB0
  generalize v = v1 at *
  rw [rounds_succ]
  go_wp2_with (first | (go_at_call 27; refine (errIs_flaw _ _ _ _).mono ?_; rintro _ v ⟨rfl, hv⟩))
  have hB2 := hB1.trans (hv.mono hB1.size)
  clear hv hB1
  generalize v = v2 at *
  rw [rounds_succ]
  go_wp2_with (first | (go_at_call 27; refine (errIs_flaw _ _ _ _).mono ?_; rintro _ v ⟨rfl, hv⟩))
  have hB3 := hB2.trans (hv.mono hB2.size)
  refine bodyPost_ret (v := .tuple #[.slice none 0 0, .int .i64 k, .int .i64 30]) (by simp [results, Try.results40, go_sem]) rfl ?_
  exact ⟨none, 0, rfl, OwnB.nil _ _, hB3⟩
set_option maxRecDepth 100000 in
set_option maxHeartbeats 2000000 in
theorem opn_0 (k : Int) (bs : List Int) (A : Option Addr) (n c0 : Nat) (w : World) (h : Calls Try.prog 51 #[.slice A n c0] w (FPost w bs k .nilIface)) :
    Calls Try.prog 40 #[.slice A n c0] w (FPost w bs k (.int .i64 0)) := by
  replace h := Lib.hid h
  have i0 := errs0
  have i1 := errs1
  have i2 := errs2
  go_enter Try.func40, Try.ntmps40
  go_wp2_with fail
  refine h.out.mono ?_
  rintro _ w1 ⟨A1, c1, rfl, hO1, hb1⟩
  have hB0 := hb1
  go_wp2_with fail
  refine wp_loop_rounds 4 ?_
  rw [rounds_succ]
  go_wp2_with (first | (go_at_call 27; refine (errIs_nil _ _).mono ?_; rintro _ _ ⟨rfl, rfl⟩))
  rw [rounds_succ]
  go_wp2_with (first | (go_at_call 27; refine (errIs_nil _ _).mono ?_; rintro _ _ ⟨rfl, rfl⟩))
  rw [rounds_succ]
  go_wp2_with (first | (go_at_call 27; refine (errIs_nil _ _).mono ?_; rintro _ _ ⟨rfl, rfl⟩))
  rw [rounds_succ]
  go_wp2
  refine bodyPost_ret (v := .tuple #[.slice A1 bs.length c1, .int .i64 k, .int .i64 0]) (by simp [results, Try.results40, go_sem]) rfl ?_
  exact ⟨A1, c1, rfl, hO1, hb1⟩
set_option maxRecDepth 100000 in
set_option maxHeartbeats 2000000 in
theorem opn_3 (k : Int) (A : Option Addr) (n c0 : Nat) (w : World) (h : Calls Try.prog 51 #[.slice A n c0] w (FPost w [] k (.iface 128 (.agg #[.int .i64 k, .iface 28 (.int .i64 3)])))) :
    Calls Try.prog 40 #[.slice A n c0] w (FPost w [] k (.int .i64 3)) := by
  replace h := Lib.hid h
  have i0 := errs0
  have i1 := errs1
  have i2 := errs2
  go_enter Try.func40, Try.ntmps40
  go_wp2_with fail
  refine h.out.mono ?_
  rintro _ w1 ⟨A1, c1, rfl, hO1, hb1⟩
  have hB0 := hb1
  go_wp2_with fail
  refine wp_loop_rounds 1 ?_
  rw [rounds_succ]
  go_wp2_with (first | (go_at_call 27; refine (errIs_flaw _ _ _ _).mono ?_; rintro _ v ⟨rfl, hv⟩))
  have hB1 := hB0.trans (hv.mono hB0.size)
  refine bodyPost_ret (v := .tuple #[.slice none 0 0, .int .i64 k, .int .i64 3]) (by simp [results, Try.results40, go_sem]) rfl ?_
  exact ⟨none, 0, rfl, OwnB.nil _ _, hB1⟩
theorem opn_any (A : Option Addr) (c0 : Nat) (xs : List Int) (w : World) (hr : ReadsB w w.heap.size A xs) (hb : Bytes xs) (hc : xs.length ≤ c0) (hm : c0 ≤ maxLen) : Calls Try.prog 40 #[.slice A xs.length c0] w (FPost w (opB xs) (opK xs) (.int .i64 (opC xs))) := by
  by_cases h1 : xs.length < 4
  · have e : opC xs = 3 := by unfold opC; rw [if_pos h1]
    have ek : opK xs = 0 := by unfold opK; rw [e, if_neg (by omega)]
    have eb : opB xs = [] := by unfold opB; rw [e, if_neg (by omega)]
    rw [e, ek, eb]
    exact opn_3 0 A _ c0 w (open_tiny A c0 xs w hr hb hc hm h1)
  · by_cases h2 : 1048576 < hdN xs
    · have e : opC xs = 2 := by unfold opC; rw [if_neg h1, if_pos h2]
      have ek : opK xs = 0 := by unfold opK; rw [e, if_neg (by omega)]
      have eb : opB xs = [] := by unfold opB; rw [e, if_neg (by omega)]
      rw [e, ek, eb]
      exact opn_2 0 A _ c0 w (open_long A c0 xs w hr hb hc hm (by omega) h2)
    · by_cases h3 : (xs.length : Int) < hdN xs + 8
      · have e : opC xs = 3 := by unfold opC; rw [if_neg h1, if_neg h2, if_pos h3]
        have ek : opK xs = 0 := by unfold opK; rw [e, if_neg (by omega)]
        have eb : opB xs = [] := by unfold opB; rw [e, if_neg (by omega)]
        rw [e, ek, eb]
        exact opn_3 0 A _ c0 w (open_short A c0 xs w hr hb hc hm (by omega) (by omega) h3)
      · by_cases h4 : tlN xs (hdN xs).toNat = sumB (xs.take ((hdN xs).toNat + 4))
        · have e : opC xs = 0 := by unfold opC; rw [if_neg h1, if_neg h2, if_neg h3, if_neg (fun k => k h4)]
          have ek : opK xs = hdN xs + 8 := by unfold opK; rw [e, if_pos (.inr rfl)]
          have eb : opB xs = (xs.drop 4).take (hdN xs).toNat := by unfold opB; rw [e, if_pos rfl]
          rw [e, ek, eb]
          exact opn_0 _ _ A _ c0 w (open_ok A c0 xs w hr hb hc hm (by omega) (by omega) (by omega) h4)
        · have e : opC xs = 30 := by unfold opC; rw [if_neg h1, if_neg h2, if_neg h3, if_pos h4]
          have ek : opK xs = hdN xs + 8 := by unfold opK; rw [e, if_pos (.inl rfl)]
          have eb : opB xs = [] := by unfold opB; rw [e, if_neg (by omega)]
          rw [e, ek, eb]
          exact opn_30 _ A _ c0 w (open_bad A c0 xs w hr hb hc hm (by omega) (by omega) (by omega) h4)
end Go.Proofs.Ytdilccihhelilaa
