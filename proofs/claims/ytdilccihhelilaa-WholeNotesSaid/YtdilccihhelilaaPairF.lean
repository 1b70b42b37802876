/- The statements' own helpers over an end. -/
import Derived.Test.YtdilccihhelilaaPairE
namespace Go.Proofs.Ytdilccihhelilaa
open Go.RowKit
set_option linter.unusedVariables false
set_option linter.unusedSimpArgs false

set_option maxRecDepth 100000 in
set_option maxHeartbeats 2000000 in
theorem awake20 (w : World) : Calls Try.prog 17 #[] w fun e w' => e = .returned (.bool true) ∧ Below w.heap.size w w' := by
  have g1 := Lib.hid (pnew_any w)
  go_enter Try.func17, Try.ntmps17
  go_wp2_with fail
  refine g1.out.mono ?_
  rintro _ w1 ⟨rfl, hH1, hb1⟩
  have hb2 := b0 w1 (.cells #[.int .u8 1] 5)
  have hR := ReadsB.new w1 [1] #[.int .u8 1] 5 (0, 0) rfl
  have hH2 := hH1.below hb2
  have hFl := fun k hk => (hH1.lt k hk).1
  have gs := send_any _ _ _ _ [] 1 0 _ (some ⟨w1.heap.size, 0, none⟩) 1 [1] (w1.alloc (.cells #[.int .u8 1] 5)) hH2 hR (fun ad e _ hF => by injection e with e; subst e; exact absurd (hFl _ hF) (Nat.lt_irrefl _)) (fun n hn => by rw [List.mem_singleton.1 hn]; omega) (by simp) (by simp) (fun v hv => absurd hv (by simp)) (by omega) (by omega) (by omega) (by omega)
  have hFw : ∀ k, (k = w.heap.size ∨ k = w.heap.size + 1) → w.heap.size ≤ k := fun k hk => by omega
  simp only [List.length_singleton] at gs
  replace gs := Lib.hid gs
  clear hH1 hH2 hR
  go_wp2_with fail
  refine gs.out.mono ?_
  rintro _ w3 ⟨A3, c3, u, F3, rfl, _, _, _, hH3, hT3⟩
  have gk := Lib.hid (kept_any _ _ _ _ _ _ _ _ _ w3 hH3)
  have hb3 : Below w.heap.size w w3 := (hb1.trans (hb2.mono hb1.size)).trans (hT3.below (by have := hb1.size; have := hb2.size; omega) (fun k hk => hFw k hk))
  go_wp2_with fail
  refine gk.out.mono ?_
  rintro _ _ ⟨rfl, rfl⟩
  go_wp2_with fail
  go_ret
  exact ⟨by simp, hb3⟩

set_option maxRecDepth 100000 in
set_option maxHeartbeats 2000000 in
theorem rows_any (A1 A2 : Option Addr) (c1 c2 n : Nat) (vs1 vs2 : List Value) (xss : List (List Int)) (w : World) (B1 B2 : Nat) (h1 : Reads w B1 1 A1 n vs1) (h2 : Reads w B2 1 A2 n vs2) (o1 : OBs w vs1 xss) (o2 : OBs w vs2 xss) (hn : xss.length = n) (hl : n ≤ 1048576) :
    Calls Try.prog 16 #[.slice A1 n c1, .slice A2 n c2] w fun e w' => e = .returned (.bool true) ∧ Below w.heap.size w w' := by
  replace h1 := Lib.hid h1
  replace h2 := Lib.hid h2
  replace o1 := Lib.hid o1
  replace o2 := Lib.hid o2
  replace hn := Lib.hid hn
  go_enter Try.func16, Try.ntmps16
  go_wp2_with fail
  go_loopw [5] (fun i wr => ∃ k : Nat, k ≤ n ∧ i = .int .i64 k ∧ (∀ p, wr.cell? p = w.cell? p) ∧ Below w.heap.size w wr) (fun i _ => n - (intOf i).toNat)
  case atStart => exact ⟨0, Nat.zero_le _, rfl, fun _ => rfl, Below.refl _ _⟩
  case round =>
    obtain ⟨k, hk, rfl, hC, hB⟩ := hrel
    replace hC := Lib.hid hC
    by_cases hlt : k < n
    · have b1 : decide ((k : Int) < (n : Int)) = true := decide_eq_true (by omega)
      have b2 : decide (k < n) = true := decide_eq_true hlt
      have hkx : k < xss.length := by rw [hn.out]; exact hlt
      obtain ⟨u1, e1, q1⟩ := o1.out.at_ (List.getElem?_eq_getElem hkx)
      obtain ⟨u2, e2, q2⟩ := o2.out.at_ (List.getElem?_eq_getElem hkx)
      obtain ⟨ad1, v1, rfl, _, f1, t1⟩ := Reads.at_ h1.out hlt
      obtain ⟨ad2, v2, rfl, _, f2, t2⟩ := Reads.at_ h2.out hlt
      rw [e1] at f1
      rw [e2] at f2
      injection f1 with f1
      injection f2 with f2
      subst f1
      subst f2
      obtain ⟨P1, d1, rfl, _, _, r1⟩ := own_form q1
      obtain ⟨P2, d2, rfl, _, _, r2⟩ := own_form q2
      have r1' : ReadsB wr w.heap.size P1 xss[k] := Reads.below r1 hB
      have r2' : ReadsB wr w.heap.size P2 xss[k] := Reads.below r2 hB
      generalize xss[k] = x at *
      have s1 : wr.cell? (ad1.add k) = some (.slice P1 x.length d1) := (hC.out _).trans t1
      have s2 : wr.cell? (ad2.add k) = some (.slice P2 x.length d2) := (hC.out _).trans t2
      have k1 := run_text (w := wr) x.length d1 r1' rfl
      have k2 := run_text (w := wr) x.length d2 r2' rfl
      have k3 := run_text (w := wr.drew) x.length d1 (Reads.drew r1') rfl
      have k4 := run_text (w := wr.drew) x.length d2 (Reads.drew r2') rfl
      generalize strOfNums x = str at *
      clear r1 r2 r1' r2' q1 q2 t1 t2 e1 e2
      go_wp2_with fail
      go_region
      go_wp2_with fail
      exact ⟨⟨k + 1, by omega, by go_num, fun p => hC.out p, hB.drew⟩, by simp [intOf]; omega⟩
    · obtain rfl : k = n := by omega
      have b1 : decide ((k : Int) < (k : Int)) = false := decide_eq_false (by omega)
      have b2 : decide (k < k) = false := decide_eq_false (by omega)
      go_wp2_with fail
      go_ret
      exact ⟨rfl, hB⟩
end Go.Proofs.Ytdilccihhelilaa
