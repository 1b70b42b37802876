/- WireWrites: for every limit and every script of calls: the program's writer and the reference's answer and hold the same. -/
import Derived.Test.YtahmhkabipcfiaaWMake
import Derived.Test.YtahmhkabipcfiaaRead
import Derived.Test.YtahmhkabipcfiaaHead
import Derived.Deep.RegionHeldLaw
import Derived.Lib.SlBytesConst
namespace Go.Proofs.Ytahmhkabipcfiaa
open Go.RowKit
set_option linter.unusedVariables false

/-- A call of a script: its cells. -/
structure Call where
  what : Int
  n : Int
  x : Int
  y : Int
  bs : List Int
/-- At this place of memory stands this call, its bytes below B. -/
def CallAt (w : World) (B : Nat) (ad : Addr) (o : Call) : Prop :=
  ∃ A len cap, w.cell? ad = some (.int .i64 o.what) ∧ w.cell? (ad.add 1) = some (.int .i64 o.n) ∧ w.cell? (ad.add 2) = some (.int .u64 o.x) ∧ w.cell? (ad.add 3) = some (.int .i64 o.y) ∧
    w.cell? (ad.add 4) = some (.slice A len cap) ∧ ReadsB w B A o.bs ∧ len = o.bs.length ∧ len ≤ cap ∧ cap ≤ maxLen
/-- A script. -/
def Script (w : World) (B : Nat) (A : Option Addr) (os : List Call) : Prop :=
  ∀ k o, os[k]? = some o → ∃ ad, A = some ad ∧ ad.block < B ∧ CallAt w B (ad.add (k * 5)) o

/-- A writer and the reference's writer, apart from each other, in a world that has only grown; all their blocks are D's. -/
def Both (w0 w : World) (D : Nat → Prop) (g1 g2 : Nat) (most : Int) (xs ys : List Int) : Prop :=
  ∃ F G b1 b2, Wr w F b1 g1 most xs ∧ RWr w G b2 g2 most ys ∧ (∀ i, F i → ¬ G i) ∧ (∀ i, F i → D i) ∧ (∀ i, G i → D i) ∧ (∀ i, D i → w0.heap.size ≤ i ∧ i < w.heap.size) ∧ Below w0.heap.size w0 w
section
variable {w0 w w' : World} {D : Nat → Prop} {g1 g2 : Nat} {most : Int} {xs ys : List Int}
theorem Both.below (h : Both w0 w D g1 g2 most xs ys) (k : Below w.heap.size w w') : Both w0 w' D g1 g2 most xs ys := by
  obtain ⟨F, G, b1, b2, h1, h2, h3, h4, h5, h6, h7⟩ := h
  exact ⟨F, G, b1, b2, h1.below k, h2.below k, h3, h4, h5, fun i hi => ⟨(h6 i hi).1, by have := (h6 i hi).2; have := k.size; omega⟩, h7.trans (k.mono h7.size)⟩
theorem Both.bel (h : Both w0 w D g1 g2 most xs ys) : Below w0.heap.size w0 w := by
  obtain ⟨F, G, b1, b2, h1, h2, h3, h4, h5, h6, h7⟩ := h
  exact h7
theorem Both.own (h : Both w0 w D g1 g2 most xs ys) : ∀ i, D i → w0.heap.size ≤ i ∧ i < w.heap.size := by
  obtain ⟨F, G, b1, b2, h1, h2, h3, h4, h5, h6, h7⟩ := h
  exact h6
theorem Grow.own {D : Nat → Prop} (h : ∀ i, D i → w0.heap.size ≤ i ∧ i < w.heap.size) (hs : w0.heap.size ≤ w.heap.size) (hs2 : w.heap.size ≤ w'.heap.size) : ∀ i, Grow D w w' i → w0.heap.size ≤ i ∧ i < w'.heap.size := fun i hi => by
  rcases hi with hi | hi
  · have := h i hi; omega
  · omega
theorem Both.stepW {f : FuncId} {args : Array Value} {code : Int} {xs' : List Int} (h : Both w0 w D g1 g2 most xs ys)
    (hc : ∀ F b, Wr w F b g1 most xs → Calls Try.prog f args w (WPost w F b g1 most code xs')) :
    Calls Try.prog f args w fun e w' => e = .returned (.int .i64 code) ∧ Both w0 w' (Grow D w w') g1 g2 most xs' ys ∧ Turned D w w' := by
  obtain ⟨F, G, b1, b2, h1, h2, h3, h4, h5, h6, h7⟩ := h
  refine (hc F b1 h1).mono fun e w' ⟨he, hW, hT⟩ => ⟨he, ⟨Grow F w w', G, b1, b2, hW, h2.turned hT (fun i hG hF => h3 i hF hG), fun i hi hG => ?_, fun i hi => hi.elim (fun h => .inl (h4 i h)) .inr, fun i hi => .inl (h5 i hi),
    Grow.own h6 h7.size hT.size, h7.trans (hT.below h7.size fun k hk => (h6 k (h4 k hk)).1)⟩, hT.mono fun k _ hk => h4 k hk⟩
  rcases hi with hi | hi
  · exact h3 i hi hG
  · have := (h2.lt i hG).2; omega
theorem Both.stepR {f : FuncId} {args : Array Value} {code : Int} {ys' : List Int} (h : Both w0 w D g1 g2 most xs ys)
    (hc : ∀ F b, RWr w F b g2 most ys → Calls Try.prog f args w (RWPost w F b g2 most code ys')) :
    Calls Try.prog f args w fun e w' => e = .returned (.int .i64 code) ∧ Both w0 w' (Grow D w w') g1 g2 most xs ys' ∧ Turned D w w' := by
  obtain ⟨F, G, b1, b2, h1, h2, h3, h4, h5, h6, h7⟩ := h
  refine (hc G b2 h2).mono fun e w' ⟨he, hW, hT⟩ => ⟨he, ⟨F, Grow G w w', b1, b2, h1.turned hT h3, hW, fun i hi hG => ?_, fun i hi => .inl (h4 i hi), fun i hi => hi.elim (fun h => .inl (h5 i h)) .inr,
    Grow.own h6 h7.size hT.size, h7.trans (hT.below h7.size fun k hk => (h6 k (h5 k hk)).1)⟩, hT.mono fun k _ hk => h5 k hk⟩
  rcases hG with hG | hG
  · exact h3 i hi hG
  · have := (h1.lt i hi).2; omega
end

/-- What is held while the two writers are asked. -/
def Hold (w4 : World) (F : Nat → Prop) (b1 g1 : Nat) (most : Int) (zs : List Int) (A3 : Option Addr) (w : World) : Prop :=
  Wr w F b1 g1 most zs ∧ ReadsB w w4.heap.size A3 zs ∧ Below w4.heap.size w4 w
section
variable {w4 w : World} {F : Nat → Prop} {b1 g1 g2 : Nat} {most : Int} {zs : List Int} {A3 : Option Addr}
theorem Hold.wr (h : Hold w4 F b1 g1 most zs A3 w) : Wr w F b1 g1 most zs := h.1
theorem Hold.out {c3 : Nat} (h : Hold w4 F b1 g1 most zs A3 w) (hc : w.cell? ⟨g2, 0, none⟩ = some (.slice A3 zs.length c3)) (hg2 : g2 < w4.heap.size) :
    Calls Try.prog 18 #[.pointer (some ⟨g1, 0, none⟩)] w fun e w' => ∃ A c, e = .returned (.slice A zs.length c) ∧ w'.cell? ⟨g2, 0, none⟩ = some (.slice A3 zs.length c3) ∧ Hold w4 F b1 g1 most zs A3 w' ∧
      (convert 31 9 (.slice A zs.length c)).run Try.prog w' = .ok (.string (strOfNums zs)) w' ∧ (convert 31 9 (.slice A3 zs.length c3)).run Try.prog w' = .ok (.string (strOfNums zs)) w' := by
  refine (out_any F b1 g1 most zs w h.1).mono fun e w' ⟨A, c, he, hO, hb⟩ => ⟨A, c, he, ?_, ⟨h.1.below hb, h.2.1.below (hb.mono h.2.2.size) , h.2.2.trans (hb.mono h.2.2.size)⟩, run_text _ _ hO.reads rfl, run_text _ _ (Reads.below (h.2.1.more h.2.2.size) hb) rfl⟩
  rw [hb.cell (p := ⟨g2, 0, none⟩) (by have := h.2.2.size; show g2 < w.heap.size; omega)]
  exact hc
end

set_option maxRecDepth 100000 in
set_option maxHeartbeats 1000000 in
theorem awake_wire (w : World) : Calls Try.prog 19 #[] w fun e w' => e = .returned (.bool true) ∧ Below w.heap.size w w' := by
  have kc := fun (w : World) (C : Array Value) (n c : Nat) => Lib.run_convert_bytes_const (P := Try.prog) w 31 5 C n c Try.underlying31 Try.underlying5
  go_enter Try.func19, Try.ntmps19
  go_wp2_with fail
  refine (newReader_any _ 2 2 [1, 2] _ _ (ReadsB.new _ _ _ _ _ rfl) rfl (by simp)).mono ?_
  rintro e w1 ⟨g, rfl, hg, hR, hb1⟩
  go_wp2_with fail
  refine (ruint_yes g 0 2 [1, 2] w1 (by unfold Bytes; decide) hR (by decide) (by decide) (by decide)).mono ?_
  rintro e w2 ⟨rfl, hR2, hg2⟩
  have e : gfold 0 (List.take (2 : Int).toNat (List.drop 0 [1, 2])) = 258 := by decide
  rw [e]
  go_wp2_with fail
  go_ret
  have hs := hb1.size
  simp at hs hg
  refine ⟨rfl, (((Below.refl _ _).alloc (Nat.le_refl _) _).trans (hb1.mono (by simp))).trans (grown_below hg2 (by omega) (fun k hk => by injection hk with hk; omega))⟩

set_option maxRecDepth 100000 in
set_option maxHeartbeats 2000000 in
theorem walk_ww (most : Int) (A : Option Addr) (c : Nat) (os : List Call) (w : World) (hS : Script w w.heap.size A os) (hm : os.length ≤ maxLen) (hY : ∀ o ∈ os, -9223372036854775808 ≤ o.y ∧ o.y < 9223372036854775808) (h0 : 0 ≤ most) (h1 : most ≤ 1048576) :
    Calls Try.prog 3 #[.int .i64 most, .slice A os.length c] w fun e w' => e = .returned (.bool true) ∧ Below w.heap.size w w' := by
  unfold maxLen at hm
  go_enter Try.func3, Try.ntmps3
  go_wp2_with fail
  refine (newW_ok most w h0 h1).mono ?_
  rintro e w1 ⟨rfl, hW1, hb1⟩
  go_wp2_with fail
  refine (rnewW_ok most w1 h0 h1).mono ?_
  rintro e w2 ⟨rfl, hR2, hb2⟩
  have hBo : Both w w2 (Made w w2) w.heap.size w1.heap.size most [] [] := ⟨_, _, _, _, hW1.below hb2, hR2, fun i hi hj => by have := hi.2; have := hj.1; omega, fun i hi => ⟨hi.1, by have := hi.2; have := hb2.size; omega⟩, fun i hi => ⟨by have := hi.1; have := hb1.size; omega, hi.2⟩, fun i hi => hi, hb1.trans (hb2.mono hb1.size)⟩
  clear hW1 hR2 hb1 hb2
  generalize w.heap.size = g1 at hBo ⊢
  generalize w1.heap.size = g2 at hBo ⊢
  go_wp2_with fail
  go_loopw [9] (fun i wr => ∃ (k : Nat) (xs : List Int) (D : Nat → Prop), k ≤ os.length ∧ i = .int .i64 k ∧ Both w wr D g1 g2 most xs xs) (fun i _ => os.length - (intOf i).toNat)
  case atStart => exact ⟨0, [], _, by omega, rfl, hBo⟩
  case round =>
    obtain ⟨k, xs, D, hk, rfl, hBr⟩ := hrel
    by_cases hlt : k < os.length
    · obtain ⟨ad, rfl, hlo, hC⟩ := hS k os[k] (List.getElem?_eq_getElem hlt)
      obtain ⟨hy0, hy1⟩ := hY os[k] (List.getElem_mem hlt)
      generalize os[k] = o at *
      obtain ⟨A2, len, cap, c0, c1, c2, c3, c4, hrb, hlen, hcap, hmx⟩ := hC
      have hbel := hBr.bel
      have hpb : (ad.add (k * 5)).block < w.heap.size := by rw [block_of_add]; exact hlo
      replace c0 := (hbel.cell (p := ad.add (k * 5)) hpb).trans c0
      replace c1 : wr.cell? { block := (ad.add (k * 5)).block, off := (ad.add (k * 5)).off + 1 } = some (.int .i64 o.n) := (hbel.cell (p := ⟨_, _, none⟩) hpb).trans c1
      replace c2 : wr.cell? { block := (ad.add (k * 5)).block, off := (ad.add (k * 5)).off + 2 } = some (.int .u64 o.x) := (hbel.cell (p := ⟨_, _, none⟩) hpb).trans c2
      replace c3 : wr.cell? { block := (ad.add (k * 5)).block, off := (ad.add (k * 5)).off + 3 } = some (.int .i64 o.y) := (hbel.cell (p := ⟨_, _, none⟩) hpb).trans c3
      replace c4 : wr.cell? { block := (ad.add (k * 5)).block, off := (ad.add (k * 5)).off + 4 } = some (.slice A2 len cap) := (hbel.cell (p := ⟨_, _, none⟩) hpb).trans c4
      replace hlen := Lib.hid hlen
      have hBa := hBr.below ((Below.refl _ _).alloc (Nat.le_refl _) (.cells #[.int .i64 o.what, .int .i64 o.n, .int .u64 o.x, .int .i64 o.y, .slice A2 len cap] 33))
      have hL := Blk.new wr 33 #[.int .i64 o.what, .int .i64 o.n, .int .u64 o.x, .int .i64 o.y, .slice A2 len cap]
      have hnD : ¬ D wr.heap.size := fun h => by have := (hBr.own _ h).2; omega
      go_wp2_with fail
      · refine (hBa.stepW fun F b hW => wuint_any F b g1 most xs o.n o.x _ hW).mono ?_
        rintro e w3 ⟨rfl, hB3, hT3⟩
        have hL3 := hL.turned hT3 hnD
        have d1 : w3.cell? ⟨wr.heap.size, 1, none⟩ = some (.int .i64 o.n) := hL3.cell 1
        have d2 : w3.cell? ⟨wr.heap.size, 2, none⟩ = some (.int .u64 o.x) := hL3.cell 2
        clear c0 c1 c2 c3 c4
        go_wp2_with fail
        refine (hB3.stepR fun F b hW => ruint_any F b g2 most xs o.n o.x _ hW).mono ?_
        rintro e w4 ⟨rfl, hB4, hT4⟩
        generalize putCode o.n (fitsU o.n o.x) (↑xs.length) most = code at *
        generalize putNew o.n o.x (fitsU o.n o.x) most xs = zs at *
        go_wp2_with fail
        have hB4' := Lib.hid hB4
        obtain ⟨F, G, b1, b2, hW, hR, hFG, hFD, hGD, hD, hB⟩ := hB4
        have hlenc := fun m => len_any F b1 g1 most zs (w4.drewN m) (hW.drewN_' m)
        have hlend := Lib.hid (len_any F b1 g1 most zs w4.drew hW.drew_)
        have houtc := Lib.hid (out_any F b1 g1 most zs w4.drew hW.drew_)
        replace hlenc := Lib.hid hlenc
        obtain ⟨A3, c3, hRB, hRO, _⟩ := hR
        have r0 : w4.cell? ⟨g2, 0, none⟩ = some (.slice A3 zs.length c3) := hRB.cell 0
        have ht0 := run_text (w := w4.drew) zs.length c3 hRO.reads rfl
        have hHold : Hold w4 F b1 g1 most zs A3 w4.drew := ⟨hW.drew_, hRO.reads, ⟨rfl, rfl, rfl, Nat.le_refl _, fun _ _ => rfl⟩⟩
        have r0' : w4.drew.cell? ⟨g2, 0, none⟩ = some (.slice A3 zs.length c3) := r0
        have hg2 : g2 < w4.heap.size := hRB.lt
        by_cases h100 : (k : Int) < 100
        · go_region_held_law (fun w' => w'.cell? ⟨g2, 0, none⟩ = some (.slice A3 zs.length c3) ∧ Hold w4 F b1 g1 most zs A3 w' ∧ (convert 31 9 (.slice A3 zs.length c3)).run Try.prog w' = .ok (.string (strOfNums zs)) w')
            (first | (exact ⟨r0', hHold, ht0⟩) | assumption | (exact ⟨by assumption, by assumption, by assumption⟩))
            (first
              | (go_at_call 17; refine (len_any F b1 g1 most zs _ (Hold.wr (by assumption))).mono ?_; rintro e w5 ⟨rfl, rfl⟩)
              | (go_at_call 18; refine (Hold.out (by assumption) (by assumption) hg2).mono ?_; rintro e w5 ⟨A5, c5, rfl, r5, hH5, ht5, ht6⟩))
          go_wp2_with fail
          exact ⟨⟨k + 1, zs, _, by omega, by go_num, hB4'.out.below hH5.2.2⟩, by simp [intOf]; omega⟩
        · go_quiet ((go_at_call 17; exact quiet_left (hlenc.out _)))
          go_wp2_with fail
          exact ⟨⟨k + 1, zs, _, by omega, by go_num, hB4'.out.below (below_drewN (Below.refl _ _) _)⟩, by simp [intOf]; omega⟩
      · refine (hBa.stepW fun F b hW => wint_any F b g1 most xs o.n o.y _ hW).mono ?_
        rintro e w3 ⟨rfl, hB3, hT3⟩
        have hL3 := hL.turned hT3 hnD
        have d1 : w3.cell? ⟨wr.heap.size, 1, none⟩ = some (.int .i64 o.n) := hL3.cell 1
        have d2 : w3.cell? ⟨wr.heap.size, 3, none⟩ = some (.int .i64 o.y) := hL3.cell 3
        clear c0 c1 c2 c3 c4
        go_wp2_with fail
        refine (hB3.stepR fun F b hW => rwint_any F b g2 most xs o.n o.y _ hW hy0 hy1).mono ?_
        rintro e w4 ⟨rfl, hB4, hT4⟩
        generalize putCode o.n (fitsI o.n o.y) (↑xs.length) most = code at *
        generalize putNew o.n o.y (fitsI o.n o.y) most xs = zs at *
        go_wp2_with fail
        have hB4' := Lib.hid hB4
        obtain ⟨F, G, b1, b2, hW, hR, hFG, hFD, hGD, hD, hB⟩ := hB4
        have hlenc := fun m => len_any F b1 g1 most zs (w4.drewN m) (hW.drewN_' m)
        have hlend := Lib.hid (len_any F b1 g1 most zs w4.drew hW.drew_)
        have houtc := Lib.hid (out_any F b1 g1 most zs w4.drew hW.drew_)
        replace hlenc := Lib.hid hlenc
        obtain ⟨A3, c3, hRB, hRO, _⟩ := hR
        have r0 : w4.cell? ⟨g2, 0, none⟩ = some (.slice A3 zs.length c3) := hRB.cell 0
        have ht0 := run_text (w := w4.drew) zs.length c3 hRO.reads rfl
        have hHold : Hold w4 F b1 g1 most zs A3 w4.drew := ⟨hW.drew_, hRO.reads, ⟨rfl, rfl, rfl, Nat.le_refl _, fun _ _ => rfl⟩⟩
        have r0' : w4.drew.cell? ⟨g2, 0, none⟩ = some (.slice A3 zs.length c3) := r0
        have hg2 : g2 < w4.heap.size := hRB.lt
        by_cases h100 : (k : Int) < 100
        · go_region_held_law (fun w' => w'.cell? ⟨g2, 0, none⟩ = some (.slice A3 zs.length c3) ∧ Hold w4 F b1 g1 most zs A3 w' ∧ (convert 31 9 (.slice A3 zs.length c3)).run Try.prog w' = .ok (.string (strOfNums zs)) w')
            (first | (exact ⟨r0', hHold, ht0⟩) | assumption | (exact ⟨by assumption, by assumption, by assumption⟩))
            (first
              | (go_at_call 17; refine (len_any F b1 g1 most zs _ (Hold.wr (by assumption))).mono ?_; rintro e w5 ⟨rfl, rfl⟩)
              | (go_at_call 18; refine (Hold.out (by assumption) (by assumption) hg2).mono ?_; rintro e w5 ⟨A5, c5, rfl, r5, hH5, ht5, ht6⟩))
          go_wp2_with fail
          exact ⟨⟨k + 1, zs, _, by omega, by go_num, hB4'.out.below hH5.2.2⟩, by simp [intOf]; omega⟩
        · go_quiet ((go_at_call 17; exact quiet_left (hlenc.out _)))
          go_wp2_with fail
          exact ⟨⟨k + 1, zs, _, by omega, by go_num, hB4'.out.below (below_drewN (Below.refl _ _) _)⟩, by simp [intOf]; omega⟩
      · refine (hBa.stepW fun F b hW => wbytes_any F b g1 most xs A2 len cap o.bs _ _ hW (hrb.below hBa.bel) hlen.out (by omega)).mono ?_
        rintro e w3 ⟨rfl, hB3, hT3⟩
        have hL3 := hL.turned hT3 hnD
        have d2 : w3.cell? ⟨wr.heap.size, 4, none⟩ = some (.slice A2 len cap) := hL3.cell 4
        clear c0 c1 c2 c3 c4
        go_wp2_with fail
        refine (hB3.stepR fun F b hW => rwbytes_any F b g2 most xs A2 len cap o.bs _ _ hW (hrb.below hB3.bel) hlen.out (by omega)).mono ?_
        rintro e w4 ⟨rfl, hB4, hT4⟩
        generalize bytesCode (len : Int) (↑xs.length) most = code at *
        generalize bytesNew o.bs most xs = zs at *
        go_wp2_with fail
        have hB4' := Lib.hid hB4
        obtain ⟨F, G, b1, b2, hW, hR, hFG, hFD, hGD, hD, hB⟩ := hB4
        have hlenc := fun m => len_any F b1 g1 most zs (w4.drewN m) (hW.drewN_' m)
        have hlend := Lib.hid (len_any F b1 g1 most zs w4.drew hW.drew_)
        have houtc := Lib.hid (out_any F b1 g1 most zs w4.drew hW.drew_)
        replace hlenc := Lib.hid hlenc
        obtain ⟨A3, c3, hRB, hRO, _⟩ := hR
        have r0 : w4.cell? ⟨g2, 0, none⟩ = some (.slice A3 zs.length c3) := hRB.cell 0
        have ht0 := run_text (w := w4.drew) zs.length c3 hRO.reads rfl
        have hHold : Hold w4 F b1 g1 most zs A3 w4.drew := ⟨hW.drew_, hRO.reads, ⟨rfl, rfl, rfl, Nat.le_refl _, fun _ _ => rfl⟩⟩
        have r0' : w4.drew.cell? ⟨g2, 0, none⟩ = some (.slice A3 zs.length c3) := r0
        have hg2 : g2 < w4.heap.size := hRB.lt
        by_cases h100 : (k : Int) < 100
        · go_region_held_law (fun w' => w'.cell? ⟨g2, 0, none⟩ = some (.slice A3 zs.length c3) ∧ Hold w4 F b1 g1 most zs A3 w' ∧ (convert 31 9 (.slice A3 zs.length c3)).run Try.prog w' = .ok (.string (strOfNums zs)) w')
            (first | (exact ⟨r0', hHold, ht0⟩) | assumption | (exact ⟨by assumption, by assumption, by assumption⟩))
            (first
              | (go_at_call 17; refine (len_any F b1 g1 most zs _ (Hold.wr (by assumption))).mono ?_; rintro e w5 ⟨rfl, rfl⟩)
              | (go_at_call 18; refine (Hold.out (by assumption) (by assumption) hg2).mono ?_; rintro e w5 ⟨A5, c5, rfl, r5, hH5, ht5, ht6⟩))
          go_wp2_with fail
          exact ⟨⟨k + 1, zs, _, by omega, by go_num, hB4'.out.below hH5.2.2⟩, by simp [intOf]; omega⟩
        · go_quiet ((go_at_call 17; exact quiet_left (hlenc.out _)))
          go_wp2_with fail
          exact ⟨⟨k + 1, zs, _, by omega, by go_num, hB4'.out.below (below_drewN (Below.refl _ _) _)⟩, by simp [intOf]; omega⟩
    · go_wp2_with fail
      refine (awake_wire _).mono ?_
      rintro e w3 ⟨rfl, hb3⟩
      go_wp2_with fail
      go_ret
      exact ⟨rfl, hBr.bel.trans (hb3.mono hBr.bel.size)⟩
end Go.Proofs.Ytahmhkabipcfiaa
