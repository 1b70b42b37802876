/- ops.Decode where a code is there. -/
import Derived.Test.YtcinmgifadmbeaaPartR
import Derived.Test.YtcinmgifadmbeaaEnc
namespace Go.Proofs.Ytcinmgifadmbeaa
open Go.RowKit
set_option linter.unusedVariables false
/-- The shape of the code at a place. -/
noncomputable def shAt (bs : List Int) (k : Nat) : Int := sh (bs.getD k 0)
def zeroI : Ins := ⟨0, 0, 0, 0, 0⟩
noncomputable def decC (bs : List Int) (at_ : Int) : Int :=
  if at_ < 0 ∨ (bs.length : Int) < at_ then 1 else if at_ = bs.length then 3 else if isC (bs.getD at_.toNat 0) = false then 60 else if (bs.length : Int) - at_ < 1 + pn0 (shAt bs at_.toNat) + pn1 (shAt bs at_.toNat) then 3 else 0
/-- A with the place added, for what leads somewhere. -/
def leads (s at_ a : Int) : Int := if s = 116 then wrap64 (a + at_) else a
noncomputable def decI (bs : List Int) (at_ : Int) : Ins :=
  if decC bs at_ = 0 then
    ⟨at_, bs.getD at_.toNat 0, leads (shAt bs at_.toNat) at_ (rdP (pn0 (shAt bs at_.toNat)) (ps0 (shAt bs at_.toNat)) ((bs.drop (at_.toNat + 1)).take (pn0 (shAt bs at_.toNat)).toNat)),
      rdP (pn1 (shAt bs at_.toNat)) (ps1 (shAt bs at_.toNat)) ((bs.drop (at_.toNat + 1 + (pn0 (shAt bs at_.toNat)).toNat)).take (pn1 (shAt bs at_.toNat)).toNat), 1 + pn0 (shAt bs at_.toNat) + pn1 (shAt bs at_.toNat)⟩
  else zeroI
/-- What a call that tells an instruction comes to. -/
def DPost (w : World) (i : Ins) (code : Int) (e : Ending) (w' : World) : Prop := e = .returned (.tuple #[i.val, .int .i64 code]) ∧ Below w.heap.size w w'

theorem sub_reads {w : World} {B k n c : Nat} {ad : Addr} {bs : List Int} (hr : ReadsB w B (some ad) bs) (hk : k + n ≤ bs.length) (hc : bs.length ≤ c) :
    ReadsB w B (if c = k then some ad else some (ad.add k)) ((bs.drop k).take n) := by
  have h1 := (Reads.cut hr (k := k) (cap := c) (by omega) hc).take (k := n) (by omega)
  have hl : ((bs.drop k).take n).length = n := by rw [List.length_take, List.length_drop]; omega
  unfold ReadsB
  rw [hl]
  have hx : cellsOf .u8 ((bs.drop k).take n) = List.take (n * 1) (List.drop (k * 1) (cellsOf .u8 bs)) := by simp [cellsOf, List.map_take, List.map_drop]
  rw [hx]
  simpa only [Nat.mul_one, Option.map_some] using h1
theorem Rd.setCell {w : World} {g k r i : Nat} {xs : List Int} {t : TypeId} {cs : Array Value} (h : Rd w g xs k) (hB : Blk w r t cs) (ht : 5 ≠ t) (hne : g ≠ r) (u : Value) : Rd (w.setCell ⟨r, i, none⟩ u) g xs k := by
  obtain ⟨A, c, h1, h2, h3⟩ := h
  exact ⟨A, c, h1.far (p := ⟨r, i, none⟩) hne u, own_setCell h2 hB ht u, h3⟩
theorem w64_1 {a : Nat} (h : a ≤ 2) : wrap64 (1 + (a : Int)) = 1 + a := IntWalk.wrap64_in _ (by omega)
theorem w64_2 {a b : Nat} (h : a ≤ 2) (h1 : b ≤ 1) : wrap64 (1 + (a : Int) + b) = 1 + a + b := IntWalk.wrap64_in _ (by omega)
theorem w64_3 {L : Nat} {K : Int} (h : L ≤ 9223372036854775807) (h0 : 0 ≤ K) (h1 : K < L) : wrap64 ((L : Int) - K) = L - K := IntWalk.wrap64_in _ (by omega)
theorem w64_5 {L : Nat} {K : Int} (h : L ≤ 9223372036854775807) (h0 : 0 ≤ K) (h1 : K < L) : wrap64 (K + 1) = K + 1 := IntWalk.wrap64_in _ (by omega)
theorem w64_6 {L a b : Nat} {K : Int} (h : L ≤ 9223372036854775807) (h0 : 0 ≤ K) (h1 : K + 1 + a + b ≤ L) : wrap64 (K + (1 + a + b)) = K + (1 + a + b) := IntWalk.wrap64_in _ (by omega)
set_option maxRecDepth 100000 in
set_option maxHeartbeats 1000000 in
theorem dec_short (ad : Addr) (c0 L n0 n1 : Nat) (K : Int) (s0 s1 : Bool) (op s : Int) (w : World) (hlo : ad.block < w.heap.size) (hcell : w.cell? (ad.add K.toNat) = some (.int .u8 op)) (hop : 0 ≤ op ∧ op < 256) (hK0 : 0 ≤ K) (hk : K < L) (hm : L ≤ 9223372036854775807) (hn0 : n0 ≤ 2) (hn1 : n1 ≤ 1)
    (gs : ∀ w, Hid (Calls Try.prog 15 #[.int .i64 op] w fun e w' => e = .returned (.tuple #[.int .u8 s, .bool true]) ∧ Below w.heap.size w w'))
    (gp : ∀ w, Hid (Calls Try.prog 39 #[.int .u8 s] w fun e w' => e = .returned (.agg #[.int .i64 n0, .bool s0, .int .i64 n1, .bool s1]) ∧ Below w.heap.size w w'))
    (hs : (L : Int) - K < 1 + n0 + n1) :
    Calls Try.prog 24 #[.slice (some ad) L c0, .int .i64 K] w (DPost w zeroI 3) := by
  have b4 : decide ((L : Int) - K < 1 + n0 + n1) = true := decide_eq_true hs
  have hI0 := Blk.new (w.alloc (.cells #[.int .i64 0, .int .i64 0, .int .i64 0, .int .i64 0, .int .i64 0] 28)) 28 #[.int .i64 K, .int .i64 op, .int .i64 0, .int .i64 0, .int .i64 0]
  have hZa := (Blk.new w 28 #[.int .i64 0, .int .i64 0, .int .i64 0, .int .i64 0, .int .i64 0]).alloc (.cells #[.int .i64 K, .int .i64 op, .int .i64 0, .int .i64 0, .int .i64 0] 28)
  have hba : Below w.heap.size w ((w.alloc (.cells #[.int .i64 0, .int .i64 0, .int .i64 0, .int .i64 0, .int .i64 0] 28)).alloc (.cells #[.int .i64 K, .int .i64 op, .int .i64 0, .int .i64 0, .int .i64 0] 28)) := ((Below.refl w.heap.size w).alloc (Nat.le_refl _) _).alloc (by simp) _
  have hcell' : (w.alloc (.cells #[.int .i64 0, .int .i64 0, .int .i64 0, .int .i64 0, .int .i64 0] 28)).cell? (ad.add K.toNat) = some (.int .u8 op) := (((Below.refl w.heap.size w).alloc (Nat.le_refl _) _).cell (p := ad.add K.toNat) (by rw [block_of_add]; exact hlo)).trans hcell
  have hsz : (w.alloc (.cells #[.int .i64 0, .int .i64 0, .int .i64 0, .int .i64 0, .int .i64 0] 28)).heap.size = w.heap.size + 1 := by simp
  rw [hsz] at hI0
  have hw8 : IntKind.i64.wrap op = op := by rw [IntKind.wrap_i64]; omega
  have b1 : decide (K < 0) = false := decide_eq_false (by omega)
  have b2 : decide ((L : Int) < K) = false := decide_eq_false (by omega)
  have b3 : (K == (L : Int)) = false := by simpa using (show ¬ K = L by omega)
  go_enter Try.func24, Try.ntmps24
  go_wp2_with fail
  generalize (w.alloc (.cells #[.int .i64 0, .int .i64 0, .int .i64 0, .int .i64 0, .int .i64 0] 28)).alloc (.cells #[.int .i64 K, .int .i64 op, .int .i64 0, .int .i64 0, .int .i64 0] 28) = W at *
  refine (gs _).out.mono ?_
  rintro _ w1 ⟨rfl, hb1⟩
  go_wp2_with fail
  refine (gp _).out.mono ?_
  rintro _ w2 ⟨rfl, hb2⟩
  have hI1 := (hI0.below hb1 hI0.lt).below hb2 (by have := hb1.size; have := hI0.lt; omega)
  have hZ1 := (hZa.below hb1 hZa.lt).below hb2 (by have := hb1.size; have := hZa.lt; omega)
  have hB2 := (hba.trans (hb1.mono hba.size)).trans (hb2.mono (Nat.le_trans hba.size hb1.size))
  have d4 : w2.cell? ⟨w.heap.size + 1, 4, none⟩ = some (.int .i64 0) := hI1.cell 4
  have df4 := hI1.frozen 4
  have z0 : w2.cell? ⟨w.heap.size, 0, none⟩ = some (.int .i64 0) := hZ1.cell 0
  have z1 : w2.cell? ⟨w.heap.size, 1, none⟩ = some (.int .i64 0) := hZ1.cell 1
  have z2 : w2.cell? ⟨w.heap.size, 2, none⟩ = some (.int .i64 0) := hZ1.cell 2
  have z3 : w2.cell? ⟨w.heap.size, 3, none⟩ = some (.int .i64 0) := hZ1.cell 3
  have z4 : w2.cell? ⟨w.heap.size, 4, none⟩ = some (.int .i64 0) := hZ1.cell 4
  have zf0 := hZ1.frozen 0
  have zf1 := hZ1.frozen 1
  have zf2 := hZ1.frozen 2
  have zf3 := hZ1.frozen 3
  have zf4 := hZ1.frozen 4
  have hltI := hI1.lt
  have hltZ := hZ1.lt
  have hI2 := Lib.hid hI1
  have hZ2 := Lib.hid hZ1
  have hB3 := Lib.hid hB2
  clear hI0 hZa hba hb1 hb2 hcell' hI1 hZ1 hB2 hcell hsz hw8 gs gp hlo
  have q1 := w64_1 hn0
  have q2 := w64_2 hn0 hn1
  have q3 := w64_3 hm hK0 hk
  go_wp2_with fail
  have hT1 : Turned (fun i => i = w.heap.size + 1) w2 (w2.setCell ⟨w.heap.size + 1, 4, none⟩ (.int .i64 (1 + n0 + n1))) := (Turned.of_below (F := fun i => i = w.heap.size + 1) (Below.refl _ _)).setCell (.inl rfl) _
  have hZ3 := hZ2.out.turned hT1 (by omega)
  have hZf : Blk (((((((w2.setCell ⟨w.heap.size + 1, 4, none⟩ (.int .i64 (1 + n0 + n1))).setCell ⟨w.heap.size, 0, none⟩ (.int .i64 0)).setCell ⟨w.heap.size, 1, none⟩ (.int .i64 0)).setCell ⟨w.heap.size, 2, none⟩ (.int .i64 0)).setCell ⟨w.heap.size, 3, none⟩ (.int .i64 0)).setCell ⟨w.heap.size, 4, none⟩ (.int .i64 0)).alloc (.cells #[.int .i64 n0, .bool s0, .int .i64 n1, .bool s1] 81)) w.heap.size 28 #[.int .i64 0, .int .i64 0, .int .i64 0, .int .i64 0, .int .i64 0] := (((((hZ3.set_ 0 _).set_ 1 _).set_ 2 _).set_ 3 _).set_ 4 _).alloc _
  have hTf : Turned (fun _ => False) w ((((((w2.setCell ⟨w.heap.size + 1, 4, none⟩ (.int .i64 (1 + n0 + n1))).setCell ⟨w.heap.size, 0, none⟩ (.int .i64 0)).setCell ⟨w.heap.size, 1, none⟩ (.int .i64 0)).setCell ⟨w.heap.size, 2, none⟩ (.int .i64 0)).setCell ⟨w.heap.size, 3, none⟩ (.int .i64 0)).setCell ⟨w.heap.size, 4, none⟩ (.int .i64 0)) :=
    ((((((Turned.of_below (F := fun _ => False) hB3.out).setCell (.inr (Nat.le_succ _)) _).setCell (.inr (Nat.le_refl _)) _).setCell (.inr (Nat.le_refl _)) _).setCell (.inr (Nat.le_refl _)) _).setCell (.inr (Nat.le_refl _)) _).setCell (.inr (Nat.le_refl _)) _
  have hBs := hTf.below (Nat.le_refl _) (fun _ h => h.elim)
  have hBf : Below w.heap.size w (((((((w2.setCell ⟨w.heap.size + 1, 4, none⟩ (.int .i64 (1 + n0 + n1))).setCell ⟨w.heap.size, 0, none⟩ (.int .i64 0)).setCell ⟨w.heap.size, 1, none⟩ (.int .i64 0)).setCell ⟨w.heap.size, 2, none⟩ (.int .i64 0)).setCell ⟨w.heap.size, 3, none⟩ (.int .i64 0)).setCell ⟨w.heap.size, 4, none⟩ (.int .i64 0)).alloc (.cells #[.int .i64 n0, .bool s0, .int .i64 n1, .bool s1] 81)) := hBs.alloc hBs.size _
  clear hZ3 hT1 hTf hBs d4 df4 z0 z1 z2 z3 z4 zf0 zf1 zf2 zf3 zf4
  generalize (((((((w2.setCell ⟨w.heap.size + 1, 4, none⟩ (.int .i64 (1 + n0 + n1))).setCell ⟨w.heap.size, 0, none⟩ (.int .i64 0)).setCell ⟨w.heap.size, 1, none⟩ (.int .i64 0)).setCell ⟨w.heap.size, 2, none⟩ (.int .i64 0)).setCell ⟨w.heap.size, 3, none⟩ (.int .i64 0)).setCell ⟨w.heap.size, 4, none⟩ (.int .i64 0)).alloc (.cells #[.int .i64 n0, .bool s0, .int .i64 n1, .bool s1] 81)) = Wf at *
  have f0 : Wf.cell? ⟨w.heap.size, 0, none⟩ = some (.int .i64 0) := hZf.cell 0
  have f1 : Wf.cell? ⟨w.heap.size, 1, none⟩ = some (.int .i64 0) := hZf.cell 1
  have f2 : Wf.cell? ⟨w.heap.size, 2, none⟩ = some (.int .i64 0) := hZf.cell 2
  have f3 : Wf.cell? ⟨w.heap.size, 3, none⟩ = some (.int .i64 0) := hZf.cell 3
  have f4 : Wf.cell? ⟨w.heap.size, 4, none⟩ = some (.int .i64 0) := hZf.cell 4
  have ff0 := hZf.frozen 0
  have ff1 := hZf.frozen 1
  have ff2 := hZf.frozen 2
  have ff3 := hZf.frozen 3
  have ff4 := hZf.frozen 4
  refine bodyPost_ret (v := .tuple #[.agg #[.int .i64 0, .int .i64 0, .int .i64 0, .int .i64 0, .int .i64 0], .int .i64 3]) (by simp [results, Try.results24, go_sem, f0, f1, f2, f3, f4]) rfl ?_
  exact ⟨rfl, hBf⟩


set_option maxRecDepth 100000 in
set_option maxHeartbeats 2000000 in
theorem dec_long (ad : Addr) (c0 k n0 n1 : Nat) (K : Int) (hK : Hid (K = (k : Int))) (s0 s1 : Bool) (op s : Int) (bs : List Int) (w : World) (hr : ReadsB w w.heap.size (some ad) bs) (hb : Bytes bs) (hlo : ad.block < w.heap.size) (hcell : w.cell? (ad.add K.toNat) = some (.int .u8 op)) (hop : 0 ≤ op ∧ op < 256) (L : Nat) (hL : bs.length = L) (hK0 : 0 ≤ K) (hk : K < L) (hc0 : L ≤ c0) (hm : L ≤ 9223372036854775807) (hm0 : c0 ≤ 9223372036854775807) (hn0 : n0 ≤ 2) (hn1 : n1 ≤ 1)
    (gs : ∀ w, Hid (Calls Try.prog 15 #[.int .i64 op] w fun e w' => e = .returned (.tuple #[.int .u8 s, .bool true]) ∧ Below w.heap.size w w'))
    (gp : ∀ w, Hid (Calls Try.prog 39 #[.int .u8 s] w fun e w' => e = .returned (.agg #[.int .i64 n0, .bool s0, .int .i64 n1, .bool s1]) ∧ Below w.heap.size w w'))
    (hs : K + 1 + n0 + n1 ≤ L) (I : Ins) (hI : Hid (I = ⟨K, op, leads s K (rdP n0 s0 ((bs.drop (k + 1)).take n0)), rdP n1 s1 ((bs.drop (k + 1 + n0)).take n1), 1 + n0 + n1⟩)) :
    Calls Try.prog 24 #[.slice (some ad) L c0, .int .i64 K] w (DPost w I 0) := by
  have b4 : decide ((L : Int) - K < 1 + n0 + n1) = false := decide_eq_false (by omega)
  have hr0 := Lib.hid hr
  have hc0' := Lib.hid hc0
  have hm0' := Lib.hid hm0
  have hL' := Lib.hid hL
  have q6' := Lib.hid (w64_6 hm hK0 hs)
  have hs' := Lib.hid hs
  clear hr hc0 hm0 hL hs
  have hI0 := Blk.new (w.alloc (.cells #[.int .i64 0, .int .i64 0, .int .i64 0, .int .i64 0, .int .i64 0] 28)) 28 #[.int .i64 K, .int .i64 op, .int .i64 0, .int .i64 0, .int .i64 0]
  have hZa := (Blk.new w 28 #[.int .i64 0, .int .i64 0, .int .i64 0, .int .i64 0, .int .i64 0]).alloc (.cells #[.int .i64 K, .int .i64 op, .int .i64 0, .int .i64 0, .int .i64 0] 28)
  have hba : Below w.heap.size w ((w.alloc (.cells #[.int .i64 0, .int .i64 0, .int .i64 0, .int .i64 0, .int .i64 0] 28)).alloc (.cells #[.int .i64 K, .int .i64 op, .int .i64 0, .int .i64 0, .int .i64 0] 28)) := ((Below.refl w.heap.size w).alloc (Nat.le_refl _) _).alloc (by simp) _
  have hcell' : (w.alloc (.cells #[.int .i64 0, .int .i64 0, .int .i64 0, .int .i64 0, .int .i64 0] 28)).cell? (ad.add K.toNat) = some (.int .u8 op) := (((Below.refl w.heap.size w).alloc (Nat.le_refl _) _).cell (p := ad.add K.toNat) (by rw [block_of_add]; exact hlo)).trans hcell
  have hsz : (w.alloc (.cells #[.int .i64 0, .int .i64 0, .int .i64 0, .int .i64 0, .int .i64 0] 28)).heap.size = w.heap.size + 1 := by simp
  rw [hsz] at hI0
  have hw8 : IntKind.i64.wrap op = op := by rw [IntKind.wrap_i64]; omega
  have b1 : decide (K < 0) = false := decide_eq_false (by omega)
  have b2 : decide ((L : Int) < K) = false := decide_eq_false (by omega)
  have b3 : (K == (L : Int)) = false := by simpa using (show ¬ K = L by omega)
  go_enter Try.func24, Try.ntmps24
  go_wp2_with fail
  generalize (w.alloc (.cells #[.int .i64 0, .int .i64 0, .int .i64 0, .int .i64 0, .int .i64 0] 28)).alloc (.cells #[.int .i64 K, .int .i64 op, .int .i64 0, .int .i64 0, .int .i64 0] 28) = W at *
  refine (gs _).out.mono ?_
  rintro _ w1 ⟨rfl, hb1⟩
  go_wp2_with fail
  refine (gp _).out.mono ?_
  rintro _ w2 ⟨rfl, hb2⟩
  have hI1 := (hI0.below hb1 hI0.lt).below hb2 (by have := hb1.size; have := hI0.lt; omega)
  have hZ1 := (hZa.below hb1 hZa.lt).below hb2 (by have := hb1.size; have := hZa.lt; omega)
  have hB2 := (hba.trans (hb1.mono hba.size)).trans (hb2.mono (Nat.le_trans hba.size hb1.size))
  have d4 : w2.cell? ⟨w.heap.size + 1, 4, none⟩ = some (.int .i64 0) := hI1.cell 4
  have df4 := hI1.frozen 4
  have z0 : w2.cell? ⟨w.heap.size, 0, none⟩ = some (.int .i64 0) := hZ1.cell 0
  have z1 : w2.cell? ⟨w.heap.size, 1, none⟩ = some (.int .i64 0) := hZ1.cell 1
  have z2 : w2.cell? ⟨w.heap.size, 2, none⟩ = some (.int .i64 0) := hZ1.cell 2
  have z3 : w2.cell? ⟨w.heap.size, 3, none⟩ = some (.int .i64 0) := hZ1.cell 3
  have z4 : w2.cell? ⟨w.heap.size, 4, none⟩ = some (.int .i64 0) := hZ1.cell 4
  have zf0 := hZ1.frozen 0
  have zf1 := hZ1.frozen 1
  have zf2 := hZ1.frozen 2
  have zf3 := hZ1.frozen 3
  have zf4 := hZ1.frozen 4
  have hltI := hI1.lt
  have hltZ := hZ1.lt
  have hI2 := Lib.hid hI1
  have hZ2 := Lib.hid hZ1
  have hB3 := Lib.hid hB2
  clear hI0 hZa hba hb1 hb2 hcell' hI1 hZ1 hB2 hcell hsz hw8 gs gp hlo
  have q1 := w64_1 hn0
  have q2 := w64_2 hn0 hn1
  have q3 := w64_3 hm hK0 hk
  have q5 := w64_5 hm hK0 hk
  have q6 := q6'.out
  obtain ⟨k1, hk1⟩ : ∃ n : Nat, (K + 1).toNat = n := ⟨_, rfl⟩
  obtain ⟨k2, hk2⟩ : ∃ n : Nat, (K + (1 + n0 + n1)).toNat = n := ⟨_, rfl⟩
  have hs := hs'.out
  have hc0 := hc0'.out
  have p1 : k2 = k1 + (n0 + n1) := by omega
  have p2 : k1 + (n0 + n1) - k1 = n0 + n1 := by omega
  subst p1

  obtain ⟨xs, hxs0⟩ : ∃ xs, xs = (bs.drop k1).take (n0 + n1) := ⟨_, rfl⟩
  have hxl : Hid (xs.length = n0 + n1) := by
    have := hL'.out
    show xs.length = _
    rw [hxs0, List.length_take, List.length_drop]
    omega
  have hxs := Lib.hid hxs0
  clear hxs0
  by_cases hck : c0 = k1
  · subst hck
    go_wp2_with fail
    clear q1 q2 q3 q5 q6 d4 df4 z0 z1 z2 z3 z4 zf0 zf1 zf2 zf3 zf4
    have hT1 : Turned (fun i => i = w.heap.size + 1) w2 (w2.setCell ⟨w.heap.size + 1, 4, none⟩ (.int .i64 (1 + n0 + n1))) := (Turned.of_below (F := fun i => i = w.heap.size + 1) (Below.refl _ _)).setCell (.inl rfl) _
    have hI4 : Blk ((w2.setCell ⟨w.heap.size + 1, 4, none⟩ (.int .i64 (1 + n0 + n1))).alloc (.cells #[.int .i64 n0, .bool s0, .int .i64 n1, .bool s1] 81)) (w.heap.size + 1) 28 #[.int .i64 K, .int .i64 op, .int .i64 0, .int .i64 0, .int .i64 (1 + n0 + n1)] := (hI2.out.set_ 4 _).alloc _
    have hZ4 := (hZ2.out.turned hT1 (by omega)).alloc (.cells #[.int .i64 n0, .bool s0, .int .i64 n1, .bool s1] 81)
    have hP4 := Blk.new (w2.setCell ⟨w.heap.size + 1, 4, none⟩ (.int .i64 (1 + n0 + n1))) 81 #[.int .i64 n0, .bool s0, .int .i64 n1, .bool s1]
    have hB4s := ((Turned.of_below (F := fun _ => False) hB3.out).setCell (p := ⟨w.heap.size + 1, 4, none⟩) (.inr (Nat.le_succ _)) (.int .i64 (1 + n0 + n1))).below (Nat.le_refl _) (fun _ h => h.elim)
    have hB4 := hB4s.alloc hB4s.size (.cells #[.int .i64 n0, .bool s0, .int .i64 n1, .bool s1] 81)
    have hrS : ReadsB ((w2.setCell ⟨w.heap.size + 1, 4, none⟩ (.int .i64 (1 + n0 + n1))).alloc (.cells #[.int .i64 n0, .bool s0, .int .i64 n1, .bool s1] 81)) w.heap.size (some ad) xs := by
      have h1 := sub_reads (Reads.below hr0.out hB4) (k := c0) (n := n0 + n1) (c := c0) (by have := hL'.out; omega) (by have := hL'.out; omega)
      rw [if_pos rfl] at h1
      rw [hxs.out]
      exact h1
    have hxB : Bytes xs := by rw [hxs.out]; exact (hb.drop _).take _
    clear hT1 hB4s hI2 hZ2 hB3 hr0 
    have hVs : ((w2.setCell ⟨w.heap.size + 1, 4, none⟩ (.int .i64 (1 + n0 + n1))).alloc (.cells #[.int .i64 n0, .bool s0, .int .i64 n1, .bool s1] 81)).heap.size = w2.heap.size + 1 := by simp
    have hPs : (w2.setCell ⟨w.heap.size + 1, 4, none⟩ (.int .i64 (1 + n0 + n1))).heap.size = w2.heap.size := by simp
    rw [hPs] at hP4
    generalize ((w2.setCell ⟨w.heap.size + 1, 4, none⟩ (.int .i64 (1 + n0 + n1))).alloc (.cells #[.int .i64 n0, .bool s0, .int .i64 n1, .bool s1] 81)) = V at *
    refine (newReader_any _ _ (n0 + n1) xs _ _ hrS hxl.out.symm (by have := hxl.out; omega)).mono ?_
    rintro _ v1 ⟨g, rfl, hg, hR, hb3⟩
    have hI5 := hI4.below hb3 hI4.lt
    have hZ5 := hZ4.below hb3 hZ4.lt
    have hP5 := hP4.below hb3 hP4.lt
    have hB5 := hB4.trans (hb3.mono hB4.size)
    have hr1 := Lib.hid (read_any g 0 n0 s0 xs v1 hxB hR hn0 (by have := hxl.out; omega))
    have pf0 : v1.cell? ⟨w2.heap.size, 0, none⟩ = some (.int .i64 n0) := hP5.cell 0
    have pf1 : v1.cell? ⟨w2.heap.size, 1, none⟩ = some (.bool s0) := hP5.cell 1
    clear hI4 hZ4 hP4 hB4 hrS hb3
    go_wp2_with fail
    refine hr1.out.mono ?_
    rintro _ v2 ⟨rfl, hR2, hT2⟩
    have hgI : ¬ w.heap.size + 1 = g := by omega
    have hI6 := hI5.turned hT2 hgI
    have hZ6 := hZ5.turned hT2 (by omega)
    have hP6 := hP5.turned hT2 (by omega)
    have hB6 := hB5.trans (hT2.below hB5.size fun j hj => by subst hj; omega)
    have hI6s := hI6.set_ 2 (.int .i64 (rdP n0 s0 ((xs.drop 0).take n0)))
    have hZ6s := hZ6.far (p := ⟨w.heap.size + 1, 2, none⟩) (by show ¬ w.heap.size = w.heap.size + 1; omega) (.int .i64 (rdP n0 s0 ((xs.drop 0).take n0)))
    have hB6s := hB6.setCell (p := ⟨w.heap.size + 1, 2, none⟩) (Nat.le_succ _) (.int .i64 (rdP n0 s0 ((xs.drop 0).take n0)))
    have hR2s := hR2.setCell (i := 2) hI6 (by decide) (fun h => hgI h.symm) (.int .i64 (rdP n0 s0 ((xs.drop 0).take n0)))
    have hr2 := Lib.hid (read_any g (0 + n0) n1 s1 xs _ hxB hR2s (by omega) (by have := hxl.out; omega))
    have d2 : v2.cell? ⟨w.heap.size + 1, 2, none⟩ = some (.int .i64 0) := hI6.cell 2
    have df2 := hI6.frozen 2
    have pg2 : v2.cell? ⟨w2.heap.size, 2, none⟩ = some (.int .i64 n1) := hP6.cell 2
    have pg3 : v2.cell? ⟨w2.heap.size, 3, none⟩ = some (.bool s1) := hP6.cell 3
    have hI7 : Blk (v2.setCell ⟨w.heap.size + 1, 2, none⟩ (.int .i64 (rdP n0 s0 ((xs.drop 0).take n0)))) (w.heap.size + 1) 28 #[.int .i64 K, .int .i64 op, .int .i64 (rdP n0 s0 ((xs.drop 0).take n0)), .int .i64 0, .int .i64 (1 + n0 + n1)] := hI6s
    clear pf0 pf1 hI6s hI6 hZ6 hP6 hB6 hR2 hT2 hR2s hI5 hZ5 hP5 hB5 hr1 hR
    obtain ⟨x0, hx0⟩ : ∃ x, x = rdP n0 s0 ((xs.drop 0).take n0) := ⟨_, rfl⟩
    rw [← hx0] at hI7 hZ6s hB6s hr2
    have hx0' := Lib.hid hx0
    rw [← hx0]
    clear hx0
    go_wp2_with fail
    clear pg2 pg3 d2 df2
    generalize v2.setCell ⟨w.heap.size + 1, 2, none⟩ (.int .i64 x0) = V3 at *
    refine hr2.out.mono ?_
    rintro _ v3 ⟨rfl, hR3, hT3⟩
    have hI8 := hI7.turned hT3 hgI
    have hZ8 := hZ6s.turned hT3 (by omega)
    have hB8 := hB6s.trans (hT3.below hB6s.size fun j hj => by subst hj; omega)
    clear hI7 hZ6s hB6s hR3 hT3 hr2
    obtain ⟨x1, hx1⟩ : ∃ x, x = rdP n1 s1 ((xs.drop (0 + n0)).take n1) := ⟨_, rfl⟩
    have hx1' := Lib.hid hx1
    rw [← hx1]
    clear hx1
    have e0 : v3.cell? ⟨w.heap.size + 1, 0, none⟩ = some (.int .i64 K) := hI8.cell 0
    have e1 : v3.cell? ⟨w.heap.size + 1, 1, none⟩ = some (.int .i64 op) := hI8.cell 1
    have e2 : v3.cell? ⟨w.heap.size + 1, 2, none⟩ = some (.int .i64 x0) := hI8.cell 2
    have e3 : v3.cell? ⟨w.heap.size + 1, 3, none⟩ = some (.int .i64 0) := hI8.cell 3
    have e4 : v3.cell? ⟨w.heap.size + 1, 4, none⟩ = some (.int .i64 (1 + n0 + n1)) := hI8.cell 4
    have ef2 := hI8.frozen 2
    have ef3 := hI8.frozen 3
    have z0 : v3.cell? ⟨w.heap.size, 0, none⟩ = some (.int .i64 0) := hZ8.cell 0
    have z1 : v3.cell? ⟨w.heap.size, 1, none⟩ = some (.int .i64 0) := hZ8.cell 1
    have z2 : v3.cell? ⟨w.heap.size, 2, none⟩ = some (.int .i64 0) := hZ8.cell 2
    have z3 : v3.cell? ⟨w.heap.size, 3, none⟩ = some (.int .i64 0) := hZ8.cell 3
    have z4 : v3.cell? ⟨w.heap.size, 4, none⟩ = some (.int .i64 0) := hZ8.cell 4
    have zf0 := hZ8.frozen 0
    have zf1 := hZ8.frozen 1
    have zf2 := hZ8.frozen 2
    have zf3 := hZ8.frozen 3
    have zf4 := hZ8.frozen 4
    have hlt8 : w.heap.size + 1 < v3.heap.size := hI8.lt
    have hIv : I = ⟨K, op, leads s K x0, x1, 1 + n0 + n1⟩ := by
      rw [hI.out, hx0'.out, hx1'.out, hxs.out]
      have hkk : k + 1 = c0 := by have := hK.out; omega
      rw [hkk, Nat.zero_add, List.drop_zero, List.take_take, Nat.min_eq_left (by omega), List.drop_take, List.drop_drop, List.take_take, Nat.min_eq_left (by omega)]
    replace hIv := Lib.hid hIv
    by_cases hT : s = 116
    · subst hT
      have hA : leads 116 K x0 = wrap64 (x0 + K) := if_pos rfl
      replace hA := Lib.hid hA
      obtain ⟨A, hAe⟩ : ∃ A, A = wrap64 (x0 + K) := ⟨_, rfl⟩
      have hAw : wrap64 (x0 + K) = A := hAe.symm
      replace hAe := Lib.hid hAe
      go_wp2_with fail
      have hne : ¬ w.heap.size = (⟨w.heap.size + 1, 0, none⟩ : Addr).block := by show ¬ w.heap.size = w.heap.size + 1; omega
      have hZf : Blk (((((((v3.setCell ⟨w.heap.size + 1, 3, none⟩ (.int .i64 x1)).setCell ⟨w.heap.size + 1, 2, none⟩ (.int .i64 A)).setCell ⟨w.heap.size, 0, none⟩ (.int .i64 K)).setCell ⟨w.heap.size, 1, none⟩ (.int .i64 op)).setCell ⟨w.heap.size, 2, none⟩ (.int .i64 A)).setCell ⟨w.heap.size, 3, none⟩ (.int .i64 x1)).setCell ⟨w.heap.size, 4, none⟩ (.int .i64 (1 + n0 + n1))) w.heap.size 28 #[.int .i64 K, .int .i64 op, .int .i64 A, .int .i64 x1, .int .i64 (1 + n0 + n1)] := (((((((hZ8.far (p := ⟨w.heap.size + 1, 3, none⟩) hne (.int .i64 x1)).far (p := ⟨w.heap.size + 1, 2, none⟩) hne (.int .i64 A)).set_ 0 (.int .i64 K)).set_ 1 (.int .i64 op)).set_ 2 (.int .i64 A)).set_ 3 (.int .i64 x1)).set_ 4 (.int .i64 (1 + n0 + n1)))
      have hBf : Below w.heap.size w (((((((v3.setCell ⟨w.heap.size + 1, 3, none⟩ (.int .i64 x1)).setCell ⟨w.heap.size + 1, 2, none⟩ (.int .i64 A)).setCell ⟨w.heap.size, 0, none⟩ (.int .i64 K)).setCell ⟨w.heap.size, 1, none⟩ (.int .i64 op)).setCell ⟨w.heap.size, 2, none⟩ (.int .i64 A)).setCell ⟨w.heap.size, 3, none⟩ (.int .i64 x1)).setCell ⟨w.heap.size, 4, none⟩ (.int .i64 (1 + n0 + n1))) := (((((((hB8.setCell (p := ⟨w.heap.size + 1, 3, none⟩) (Nat.le_succ _) (.int .i64 x1)).setCell (p := ⟨w.heap.size + 1, 2, none⟩) (Nat.le_succ _) (.int .i64 A)).setCell (p := ⟨w.heap.size, 0, none⟩) (Nat.le_refl _) (.int .i64 K)).setCell (p := ⟨w.heap.size, 1, none⟩) (Nat.le_refl _) (.int .i64 op)).setCell (p := ⟨w.heap.size, 2, none⟩) (Nat.le_refl _) (.int .i64 A)).setCell (p := ⟨w.heap.size, 3, none⟩) (Nat.le_refl _) (.int .i64 x1)).setCell (p := ⟨w.heap.size, 4, none⟩) (Nat.le_refl _) (.int .i64 (1 + n0 + n1)))
      clear e0 e1 e2 e3 e4 ef2 ef3 z0 z1 z2 z3 z4 zf0 zf1 zf2 zf3 zf4 hB8 hI8 hZ8
      generalize (((((((v3.setCell ⟨w.heap.size + 1, 3, none⟩ (.int .i64 x1)).setCell ⟨w.heap.size + 1, 2, none⟩ (.int .i64 A)).setCell ⟨w.heap.size, 0, none⟩ (.int .i64 K)).setCell ⟨w.heap.size, 1, none⟩ (.int .i64 op)).setCell ⟨w.heap.size, 2, none⟩ (.int .i64 A)).setCell ⟨w.heap.size, 3, none⟩ (.int .i64 x1)).setCell ⟨w.heap.size, 4, none⟩ (.int .i64 (1 + n0 + n1))) = Wf at *
      have f0 : Wf.cell? ⟨w.heap.size, 0, none⟩ = some (.int .i64 K) := hZf.cell 0
      have f1 : Wf.cell? ⟨w.heap.size, 1, none⟩ = some (.int .i64 op) := hZf.cell 1
      have f2 : Wf.cell? ⟨w.heap.size, 2, none⟩ = some (.int .i64 A) := hZf.cell 2
      have f3 : Wf.cell? ⟨w.heap.size, 3, none⟩ = some (.int .i64 x1) := hZf.cell 3
      have f4 : Wf.cell? ⟨w.heap.size, 4, none⟩ = some (.int .i64 (1 + n0 + n1)) := hZf.cell 4
      have ff0 := hZf.frozen 0
      have ff1 := hZf.frozen 1
      have ff2 := hZf.frozen 2
      have ff3 := hZf.frozen 3
      have ff4 := hZf.frozen 4
      refine bodyPost_ret (v := .tuple #[.agg #[.int .i64 K, .int .i64 op, .int .i64 A, .int .i64 x1, .int .i64 (1 + n0 + n1)], .int .i64 0]) (by simp [results, Try.results24, go_sem, f0, f1, f2, f3, f4]) rfl ?_
      refine ⟨?_, hBf⟩
      rw [hIv.out, hA.out, ← hAe.out]
      rfl
    · have hTb : (s == 116) = false := by simpa using hT
      go_wp2_with fail
      have hA : leads s K x0 = x0 := if_neg hT
      have hne : ¬ w.heap.size = (⟨w.heap.size + 1, 0, none⟩ : Addr).block := by show ¬ w.heap.size = w.heap.size + 1; omega
      have hZf : Blk ((((((v3.setCell ⟨w.heap.size + 1, 3, none⟩ (.int .i64 x1)).setCell ⟨w.heap.size, 0, none⟩ (.int .i64 K)).setCell ⟨w.heap.size, 1, none⟩ (.int .i64 op)).setCell ⟨w.heap.size, 2, none⟩ (.int .i64 x0)).setCell ⟨w.heap.size, 3, none⟩ (.int .i64 x1)).setCell ⟨w.heap.size, 4, none⟩ (.int .i64 (1 + n0 + n1))) w.heap.size 28 #[.int .i64 K, .int .i64 op, .int .i64 x0, .int .i64 x1, .int .i64 (1 + n0 + n1)] := ((((((hZ8.far (p := ⟨w.heap.size + 1, 3, none⟩) hne (.int .i64 x1)).set_ 0 (.int .i64 K)).set_ 1 (.int .i64 op)).set_ 2 (.int .i64 x0)).set_ 3 (.int .i64 x1)).set_ 4 (.int .i64 (1 + n0 + n1)))
      have hBf : Below w.heap.size w ((((((v3.setCell ⟨w.heap.size + 1, 3, none⟩ (.int .i64 x1)).setCell ⟨w.heap.size, 0, none⟩ (.int .i64 K)).setCell ⟨w.heap.size, 1, none⟩ (.int .i64 op)).setCell ⟨w.heap.size, 2, none⟩ (.int .i64 x0)).setCell ⟨w.heap.size, 3, none⟩ (.int .i64 x1)).setCell ⟨w.heap.size, 4, none⟩ (.int .i64 (1 + n0 + n1))) := ((((((hB8.setCell (p := ⟨w.heap.size + 1, 3, none⟩) (Nat.le_succ _) (.int .i64 x1)).setCell (p := ⟨w.heap.size, 0, none⟩) (Nat.le_refl _) (.int .i64 K)).setCell (p := ⟨w.heap.size, 1, none⟩) (Nat.le_refl _) (.int .i64 op)).setCell (p := ⟨w.heap.size, 2, none⟩) (Nat.le_refl _) (.int .i64 x0)).setCell (p := ⟨w.heap.size, 3, none⟩) (Nat.le_refl _) (.int .i64 x1)).setCell (p := ⟨w.heap.size, 4, none⟩) (Nat.le_refl _) (.int .i64 (1 + n0 + n1)))
      clear e0 e1 e2 e3 e4 ef2 ef3 z0 z1 z2 z3 z4 zf0 zf1 zf2 zf3 zf4 hB8 hI8 hZ8
      generalize ((((((v3.setCell ⟨w.heap.size + 1, 3, none⟩ (.int .i64 x1)).setCell ⟨w.heap.size, 0, none⟩ (.int .i64 K)).setCell ⟨w.heap.size, 1, none⟩ (.int .i64 op)).setCell ⟨w.heap.size, 2, none⟩ (.int .i64 x0)).setCell ⟨w.heap.size, 3, none⟩ (.int .i64 x1)).setCell ⟨w.heap.size, 4, none⟩ (.int .i64 (1 + n0 + n1))) = Wf at *
      have f0 : Wf.cell? ⟨w.heap.size, 0, none⟩ = some (.int .i64 K) := hZf.cell 0
      have f1 : Wf.cell? ⟨w.heap.size, 1, none⟩ = some (.int .i64 op) := hZf.cell 1
      have f2 : Wf.cell? ⟨w.heap.size, 2, none⟩ = some (.int .i64 x0) := hZf.cell 2
      have f3 : Wf.cell? ⟨w.heap.size, 3, none⟩ = some (.int .i64 x1) := hZf.cell 3
      have f4 : Wf.cell? ⟨w.heap.size, 4, none⟩ = some (.int .i64 (1 + n0 + n1)) := hZf.cell 4
      have ff0 := hZf.frozen 0
      have ff1 := hZf.frozen 1
      have ff2 := hZf.frozen 2
      have ff3 := hZf.frozen 3
      have ff4 := hZf.frozen 4
      refine bodyPost_ret (v := .tuple #[.agg #[.int .i64 K, .int .i64 op, .int .i64 x0, .int .i64 x1, .int .i64 (1 + n0 + n1)], .int .i64 0]) (by simp [results, Try.results24, go_sem, f0, f1, f2, f3, f4]) rfl ?_
      refine ⟨?_, hBf⟩
      rw [hIv.out, hA]
      rfl
  · have hck' : ¬ k1 = c0 := fun h => hck h.symm
    go_wp2_with fail
    clear q1 q2 q3 q5 q6 d4 df4 z0 z1 z2 z3 z4 zf0 zf1 zf2 zf3 zf4
    have hT1 : Turned (fun i => i = w.heap.size + 1) w2 (w2.setCell ⟨w.heap.size + 1, 4, none⟩ (.int .i64 (1 + n0 + n1))) := (Turned.of_below (F := fun i => i = w.heap.size + 1) (Below.refl _ _)).setCell (.inl rfl) _
    have hI4 : Blk ((w2.setCell ⟨w.heap.size + 1, 4, none⟩ (.int .i64 (1 + n0 + n1))).alloc (.cells #[.int .i64 n0, .bool s0, .int .i64 n1, .bool s1] 81)) (w.heap.size + 1) 28 #[.int .i64 K, .int .i64 op, .int .i64 0, .int .i64 0, .int .i64 (1 + n0 + n1)] := (hI2.out.set_ 4 _).alloc _
    have hZ4 := (hZ2.out.turned hT1 (by omega)).alloc (.cells #[.int .i64 n0, .bool s0, .int .i64 n1, .bool s1] 81)
    have hP4 := Blk.new (w2.setCell ⟨w.heap.size + 1, 4, none⟩ (.int .i64 (1 + n0 + n1))) 81 #[.int .i64 n0, .bool s0, .int .i64 n1, .bool s1]
    have hB4s := ((Turned.of_below (F := fun _ => False) hB3.out).setCell (p := ⟨w.heap.size + 1, 4, none⟩) (.inr (Nat.le_succ _)) (.int .i64 (1 + n0 + n1))).below (Nat.le_refl _) (fun _ h => h.elim)
    have hB4 := hB4s.alloc hB4s.size (.cells #[.int .i64 n0, .bool s0, .int .i64 n1, .bool s1] 81)
    have hrS : ReadsB ((w2.setCell ⟨w.heap.size + 1, 4, none⟩ (.int .i64 (1 + n0 + n1))).alloc (.cells #[.int .i64 n0, .bool s0, .int .i64 n1, .bool s1] 81)) w.heap.size (some (ad.add k1)) xs := by
      have h1 := sub_reads (Reads.below hr0.out hB4) (k := k1) (n := n0 + n1) (c := c0) (by have := hL'.out; omega) (by have := hL'.out; omega)
      rw [if_neg hck] at h1
      rw [hxs.out]
      exact h1
    have hxB : Bytes xs := by rw [hxs.out]; exact (hb.drop _).take _
    clear hT1 hB4s hI2 hZ2 hB3 hr0 
    have hVs : ((w2.setCell ⟨w.heap.size + 1, 4, none⟩ (.int .i64 (1 + n0 + n1))).alloc (.cells #[.int .i64 n0, .bool s0, .int .i64 n1, .bool s1] 81)).heap.size = w2.heap.size + 1 := by simp
    have hPs : (w2.setCell ⟨w.heap.size + 1, 4, none⟩ (.int .i64 (1 + n0 + n1))).heap.size = w2.heap.size := by simp
    rw [hPs] at hP4
    generalize ((w2.setCell ⟨w.heap.size + 1, 4, none⟩ (.int .i64 (1 + n0 + n1))).alloc (.cells #[.int .i64 n0, .bool s0, .int .i64 n1, .bool s1] 81)) = V at *
    refine (newReader_any _ _ (n0 + n1) xs _ _ hrS hxl.out.symm (by have := hxl.out; omega)).mono ?_
    rintro _ v1 ⟨g, rfl, hg, hR, hb3⟩
    have hI5 := hI4.below hb3 hI4.lt
    have hZ5 := hZ4.below hb3 hZ4.lt
    have hP5 := hP4.below hb3 hP4.lt
    have hB5 := hB4.trans (hb3.mono hB4.size)
    have hr1 := Lib.hid (read_any g 0 n0 s0 xs v1 hxB hR hn0 (by have := hxl.out; omega))
    have pf0 : v1.cell? ⟨w2.heap.size, 0, none⟩ = some (.int .i64 n0) := hP5.cell 0
    have pf1 : v1.cell? ⟨w2.heap.size, 1, none⟩ = some (.bool s0) := hP5.cell 1
    clear hI4 hZ4 hP4 hB4 hrS hb3
    go_wp2_with fail
    refine hr1.out.mono ?_
    rintro _ v2 ⟨rfl, hR2, hT2⟩
    have hgI : ¬ w.heap.size + 1 = g := by omega
    have hI6 := hI5.turned hT2 hgI
    have hZ6 := hZ5.turned hT2 (by omega)
    have hP6 := hP5.turned hT2 (by omega)
    have hB6 := hB5.trans (hT2.below hB5.size fun j hj => by subst hj; omega)
    have hI6s := hI6.set_ 2 (.int .i64 (rdP n0 s0 ((xs.drop 0).take n0)))
    have hZ6s := hZ6.far (p := ⟨w.heap.size + 1, 2, none⟩) (by show ¬ w.heap.size = w.heap.size + 1; omega) (.int .i64 (rdP n0 s0 ((xs.drop 0).take n0)))
    have hB6s := hB6.setCell (p := ⟨w.heap.size + 1, 2, none⟩) (Nat.le_succ _) (.int .i64 (rdP n0 s0 ((xs.drop 0).take n0)))
    have hR2s := hR2.setCell (i := 2) hI6 (by decide) (fun h => hgI h.symm) (.int .i64 (rdP n0 s0 ((xs.drop 0).take n0)))
    have hr2 := Lib.hid (read_any g (0 + n0) n1 s1 xs _ hxB hR2s (by omega) (by have := hxl.out; omega))
    have d2 : v2.cell? ⟨w.heap.size + 1, 2, none⟩ = some (.int .i64 0) := hI6.cell 2
    have df2 := hI6.frozen 2
    have pg2 : v2.cell? ⟨w2.heap.size, 2, none⟩ = some (.int .i64 n1) := hP6.cell 2
    have pg3 : v2.cell? ⟨w2.heap.size, 3, none⟩ = some (.bool s1) := hP6.cell 3
    have hI7 : Blk (v2.setCell ⟨w.heap.size + 1, 2, none⟩ (.int .i64 (rdP n0 s0 ((xs.drop 0).take n0)))) (w.heap.size + 1) 28 #[.int .i64 K, .int .i64 op, .int .i64 (rdP n0 s0 ((xs.drop 0).take n0)), .int .i64 0, .int .i64 (1 + n0 + n1)] := hI6s
    clear pf0 pf1 hI6s hI6 hZ6 hP6 hB6 hR2 hT2 hR2s hI5 hZ5 hP5 hB5 hr1 hR
    obtain ⟨x0, hx0⟩ : ∃ x, x = rdP n0 s0 ((xs.drop 0).take n0) := ⟨_, rfl⟩
    rw [← hx0] at hI7 hZ6s hB6s hr2
    have hx0' := Lib.hid hx0
    rw [← hx0]
    clear hx0
    go_wp2_with fail
    clear pg2 pg3 d2 df2
    generalize v2.setCell ⟨w.heap.size + 1, 2, none⟩ (.int .i64 x0) = V3 at *
    refine hr2.out.mono ?_
    rintro _ v3 ⟨rfl, hR3, hT3⟩
    have hI8 := hI7.turned hT3 hgI
    have hZ8 := hZ6s.turned hT3 (by omega)
    have hB8 := hB6s.trans (hT3.below hB6s.size fun j hj => by subst hj; omega)
    clear hI7 hZ6s hB6s hR3 hT3 hr2
    obtain ⟨x1, hx1⟩ : ∃ x, x = rdP n1 s1 ((xs.drop (0 + n0)).take n1) := ⟨_, rfl⟩
    have hx1' := Lib.hid hx1
    rw [← hx1]
    clear hx1
    have e0 : v3.cell? ⟨w.heap.size + 1, 0, none⟩ = some (.int .i64 K) := hI8.cell 0
    have e1 : v3.cell? ⟨w.heap.size + 1, 1, none⟩ = some (.int .i64 op) := hI8.cell 1
    have e2 : v3.cell? ⟨w.heap.size + 1, 2, none⟩ = some (.int .i64 x0) := hI8.cell 2
    have e3 : v3.cell? ⟨w.heap.size + 1, 3, none⟩ = some (.int .i64 0) := hI8.cell 3
    have e4 : v3.cell? ⟨w.heap.size + 1, 4, none⟩ = some (.int .i64 (1 + n0 + n1)) := hI8.cell 4
    have ef2 := hI8.frozen 2
    have ef3 := hI8.frozen 3
    have z0 : v3.cell? ⟨w.heap.size, 0, none⟩ = some (.int .i64 0) := hZ8.cell 0
    have z1 : v3.cell? ⟨w.heap.size, 1, none⟩ = some (.int .i64 0) := hZ8.cell 1
    have z2 : v3.cell? ⟨w.heap.size, 2, none⟩ = some (.int .i64 0) := hZ8.cell 2
    have z3 : v3.cell? ⟨w.heap.size, 3, none⟩ = some (.int .i64 0) := hZ8.cell 3
    have z4 : v3.cell? ⟨w.heap.size, 4, none⟩ = some (.int .i64 0) := hZ8.cell 4
    have zf0 := hZ8.frozen 0
    have zf1 := hZ8.frozen 1
    have zf2 := hZ8.frozen 2
    have zf3 := hZ8.frozen 3
    have zf4 := hZ8.frozen 4
    have hlt8 : w.heap.size + 1 < v3.heap.size := hI8.lt
    have hIv : I = ⟨K, op, leads s K x0, x1, 1 + n0 + n1⟩ := by
      rw [hI.out, hx0'.out, hx1'.out, hxs.out]
      have hkk : k + 1 = k1 := by have := hK.out; omega
      rw [hkk, Nat.zero_add, List.drop_zero, List.take_take, Nat.min_eq_left (by omega), List.drop_take, List.drop_drop, List.take_take, Nat.min_eq_left (by omega)]
    replace hIv := Lib.hid hIv
    by_cases hT : s = 116
    · subst hT
      have hA : leads 116 K x0 = wrap64 (x0 + K) := if_pos rfl
      replace hA := Lib.hid hA
      obtain ⟨A, hAe⟩ : ∃ A, A = wrap64 (x0 + K) := ⟨_, rfl⟩
      have hAw : wrap64 (x0 + K) = A := hAe.symm
      replace hAe := Lib.hid hAe
      go_wp2_with fail
      have hne : ¬ w.heap.size = (⟨w.heap.size + 1, 0, none⟩ : Addr).block := by show ¬ w.heap.size = w.heap.size + 1; omega
      have hZf : Blk (((((((v3.setCell ⟨w.heap.size + 1, 3, none⟩ (.int .i64 x1)).setCell ⟨w.heap.size + 1, 2, none⟩ (.int .i64 A)).setCell ⟨w.heap.size, 0, none⟩ (.int .i64 K)).setCell ⟨w.heap.size, 1, none⟩ (.int .i64 op)).setCell ⟨w.heap.size, 2, none⟩ (.int .i64 A)).setCell ⟨w.heap.size, 3, none⟩ (.int .i64 x1)).setCell ⟨w.heap.size, 4, none⟩ (.int .i64 (1 + n0 + n1))) w.heap.size 28 #[.int .i64 K, .int .i64 op, .int .i64 A, .int .i64 x1, .int .i64 (1 + n0 + n1)] := (((((((hZ8.far (p := ⟨w.heap.size + 1, 3, none⟩) hne (.int .i64 x1)).far (p := ⟨w.heap.size + 1, 2, none⟩) hne (.int .i64 A)).set_ 0 (.int .i64 K)).set_ 1 (.int .i64 op)).set_ 2 (.int .i64 A)).set_ 3 (.int .i64 x1)).set_ 4 (.int .i64 (1 + n0 + n1)))
      have hBf : Below w.heap.size w (((((((v3.setCell ⟨w.heap.size + 1, 3, none⟩ (.int .i64 x1)).setCell ⟨w.heap.size + 1, 2, none⟩ (.int .i64 A)).setCell ⟨w.heap.size, 0, none⟩ (.int .i64 K)).setCell ⟨w.heap.size, 1, none⟩ (.int .i64 op)).setCell ⟨w.heap.size, 2, none⟩ (.int .i64 A)).setCell ⟨w.heap.size, 3, none⟩ (.int .i64 x1)).setCell ⟨w.heap.size, 4, none⟩ (.int .i64 (1 + n0 + n1))) := (((((((hB8.setCell (p := ⟨w.heap.size + 1, 3, none⟩) (Nat.le_succ _) (.int .i64 x1)).setCell (p := ⟨w.heap.size + 1, 2, none⟩) (Nat.le_succ _) (.int .i64 A)).setCell (p := ⟨w.heap.size, 0, none⟩) (Nat.le_refl _) (.int .i64 K)).setCell (p := ⟨w.heap.size, 1, none⟩) (Nat.le_refl _) (.int .i64 op)).setCell (p := ⟨w.heap.size, 2, none⟩) (Nat.le_refl _) (.int .i64 A)).setCell (p := ⟨w.heap.size, 3, none⟩) (Nat.le_refl _) (.int .i64 x1)).setCell (p := ⟨w.heap.size, 4, none⟩) (Nat.le_refl _) (.int .i64 (1 + n0 + n1)))
      clear e0 e1 e2 e3 e4 ef2 ef3 z0 z1 z2 z3 z4 zf0 zf1 zf2 zf3 zf4 hB8 hI8 hZ8
      generalize (((((((v3.setCell ⟨w.heap.size + 1, 3, none⟩ (.int .i64 x1)).setCell ⟨w.heap.size + 1, 2, none⟩ (.int .i64 A)).setCell ⟨w.heap.size, 0, none⟩ (.int .i64 K)).setCell ⟨w.heap.size, 1, none⟩ (.int .i64 op)).setCell ⟨w.heap.size, 2, none⟩ (.int .i64 A)).setCell ⟨w.heap.size, 3, none⟩ (.int .i64 x1)).setCell ⟨w.heap.size, 4, none⟩ (.int .i64 (1 + n0 + n1))) = Wf at *
      have f0 : Wf.cell? ⟨w.heap.size, 0, none⟩ = some (.int .i64 K) := hZf.cell 0
      have f1 : Wf.cell? ⟨w.heap.size, 1, none⟩ = some (.int .i64 op) := hZf.cell 1
      have f2 : Wf.cell? ⟨w.heap.size, 2, none⟩ = some (.int .i64 A) := hZf.cell 2
      have f3 : Wf.cell? ⟨w.heap.size, 3, none⟩ = some (.int .i64 x1) := hZf.cell 3
      have f4 : Wf.cell? ⟨w.heap.size, 4, none⟩ = some (.int .i64 (1 + n0 + n1)) := hZf.cell 4
      have ff0 := hZf.frozen 0
      have ff1 := hZf.frozen 1
      have ff2 := hZf.frozen 2
      have ff3 := hZf.frozen 3
      have ff4 := hZf.frozen 4
      refine bodyPost_ret (v := .tuple #[.agg #[.int .i64 K, .int .i64 op, .int .i64 A, .int .i64 x1, .int .i64 (1 + n0 + n1)], .int .i64 0]) (by simp [results, Try.results24, go_sem, f0, f1, f2, f3, f4]) rfl ?_
      refine ⟨?_, hBf⟩
      rw [hIv.out, hA.out, ← hAe.out]
      rfl
    · have hTb : (s == 116) = false := by simpa using hT
      go_wp2_with fail
      have hA : leads s K x0 = x0 := if_neg hT
      have hne : ¬ w.heap.size = (⟨w.heap.size + 1, 0, none⟩ : Addr).block := by show ¬ w.heap.size = w.heap.size + 1; omega
      have hZf : Blk ((((((v3.setCell ⟨w.heap.size + 1, 3, none⟩ (.int .i64 x1)).setCell ⟨w.heap.size, 0, none⟩ (.int .i64 K)).setCell ⟨w.heap.size, 1, none⟩ (.int .i64 op)).setCell ⟨w.heap.size, 2, none⟩ (.int .i64 x0)).setCell ⟨w.heap.size, 3, none⟩ (.int .i64 x1)).setCell ⟨w.heap.size, 4, none⟩ (.int .i64 (1 + n0 + n1))) w.heap.size 28 #[.int .i64 K, .int .i64 op, .int .i64 x0, .int .i64 x1, .int .i64 (1 + n0 + n1)] := ((((((hZ8.far (p := ⟨w.heap.size + 1, 3, none⟩) hne (.int .i64 x1)).set_ 0 (.int .i64 K)).set_ 1 (.int .i64 op)).set_ 2 (.int .i64 x0)).set_ 3 (.int .i64 x1)).set_ 4 (.int .i64 (1 + n0 + n1)))
      have hBf : Below w.heap.size w ((((((v3.setCell ⟨w.heap.size + 1, 3, none⟩ (.int .i64 x1)).setCell ⟨w.heap.size, 0, none⟩ (.int .i64 K)).setCell ⟨w.heap.size, 1, none⟩ (.int .i64 op)).setCell ⟨w.heap.size, 2, none⟩ (.int .i64 x0)).setCell ⟨w.heap.size, 3, none⟩ (.int .i64 x1)).setCell ⟨w.heap.size, 4, none⟩ (.int .i64 (1 + n0 + n1))) := ((((((hB8.setCell (p := ⟨w.heap.size + 1, 3, none⟩) (Nat.le_succ _) (.int .i64 x1)).setCell (p := ⟨w.heap.size, 0, none⟩) (Nat.le_refl _) (.int .i64 K)).setCell (p := ⟨w.heap.size, 1, none⟩) (Nat.le_refl _) (.int .i64 op)).setCell (p := ⟨w.heap.size, 2, none⟩) (Nat.le_refl _) (.int .i64 x0)).setCell (p := ⟨w.heap.size, 3, none⟩) (Nat.le_refl _) (.int .i64 x1)).setCell (p := ⟨w.heap.size, 4, none⟩) (Nat.le_refl _) (.int .i64 (1 + n0 + n1)))
      clear e0 e1 e2 e3 e4 ef2 ef3 z0 z1 z2 z3 z4 zf0 zf1 zf2 zf3 zf4 hB8 hI8 hZ8
      generalize ((((((v3.setCell ⟨w.heap.size + 1, 3, none⟩ (.int .i64 x1)).setCell ⟨w.heap.size, 0, none⟩ (.int .i64 K)).setCell ⟨w.heap.size, 1, none⟩ (.int .i64 op)).setCell ⟨w.heap.size, 2, none⟩ (.int .i64 x0)).setCell ⟨w.heap.size, 3, none⟩ (.int .i64 x1)).setCell ⟨w.heap.size, 4, none⟩ (.int .i64 (1 + n0 + n1))) = Wf at *
      have f0 : Wf.cell? ⟨w.heap.size, 0, none⟩ = some (.int .i64 K) := hZf.cell 0
      have f1 : Wf.cell? ⟨w.heap.size, 1, none⟩ = some (.int .i64 op) := hZf.cell 1
      have f2 : Wf.cell? ⟨w.heap.size, 2, none⟩ = some (.int .i64 x0) := hZf.cell 2
      have f3 : Wf.cell? ⟨w.heap.size, 3, none⟩ = some (.int .i64 x1) := hZf.cell 3
      have f4 : Wf.cell? ⟨w.heap.size, 4, none⟩ = some (.int .i64 (1 + n0 + n1)) := hZf.cell 4
      have ff0 := hZf.frozen 0
      have ff1 := hZf.frozen 1
      have ff2 := hZf.frozen 2
      have ff3 := hZf.frozen 3
      have ff4 := hZf.frozen 4
      refine bodyPost_ret (v := .tuple #[.agg #[.int .i64 K, .int .i64 op, .int .i64 x0, .int .i64 x1, .int .i64 (1 + n0 + n1)], .int .i64 0]) (by simp [results, Try.results24, go_sem, f0, f1, f2, f3, f4]) rfl ?_
      refine ⟨?_, hBf⟩
      rw [hIv.out, hA]
      rfl
end Go.Proofs.Ytcinmgifadmbeaa
