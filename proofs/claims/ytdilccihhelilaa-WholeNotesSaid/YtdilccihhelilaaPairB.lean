/- An end: Send. -/
import Derived.Test.YtdilccihhelilaaPairA
import Derived.Deep.RegionHeldLaw
namespace Go.Proofs.Ytdilccihhelilaa
open Go.RowKit
set_option linter.unusedVariables false
set_option linter.unusedSimpArgs false
attribute [-go_sem] Builtin.append_

theorem infoR : (Try.prog.info? 27).map (fun i => (i.zero, i.size, i.bytes)) = some (some (.slice none 0 0), 1, 24) := by kernel_rfl
theorem own_other {w w' : World} {base base' : Nat} {e e' : TypeId} {size size' n n' : Nat} {v v' : Value} {xs xs' : List Value} (h : w.ownsRow base e size v n xs) (h' : w.ownsRow base' e' size' v' n' xs') (hne : e ≠ e') (hg : w.grownBy w' v'.ownBlock) : w'.ownsRow base e size v n xs := by
  refine World.ownsRow.kept h hg ?_
  rcases h.2 with ⟨rfl, _⟩ | ⟨g, cap, cur, rfl, _, hh, _⟩
  · exact .inl rfl
  · rcases h'.2 with ⟨rfl, _⟩ | ⟨g', cap', cur', rfl, _, hh', _⟩
    · exact .inr (by simp [Value.ownBlock])
    · refine .inr fun e => ?_
      have : g = g' := by simpa [Value.ownBlock] using e
      subst this
      rw [hh] at hh'
      injection hh' with hh'
      injection hh' with _ ht
      exact hne ht
theorem own_cell {w : World} {g i : Nat} {t e : TypeId} {size n : Nat} {cs : Array Value} {v : Value} {xs : List Value} {base : Nat} (h : w.ownsRow base e size v n xs) (hB : Blk w g t cs) (ht : e ≠ t) (u : Value) :
    (w.setCell ⟨g, i, none⟩ u).ownsRow base e size v n xs :=
  World.ownsRow.kept (row := some g) h ⟨rfl, rfl, rfl, by simp [World.setCell], fun k _ hne => Below.heap_setCell w _ u k (fun e => hne (by rw [e]))⟩ (.inr (own_blk_ne h hB ht))
/-- What becomes of an end when a row of its own has grown and is stored. -/
theorem he_push {F : Nat → Prop} {w wa w2 : World} {g m cnt c2 n2 : Nat} {kv : List Value} {u : Value} {first got : Int} {ev : Int → Option Value} {A A2 : Option Addr} {c : Nat} (hn2 : kv.length + 1 = n2)
    (hB : Blk w g 47 #[.bool true, .slice A kv.length c, .int .i64 first, .int .i64 got, .map (some m)]) (hO : w.ownsRow 0 27 1 (.slice A kv.length c) kv.length kv) (hA : ∀ ad, A = some ad → F ad.block ∧ ad.block ≠ g ∧ ad.block ≠ m) (hM : MapI w m cnt ev) (hFg : F g) (hFm : F m) (hF : ∀ k, F k → k < w.heap.size ∧ NoB w k)
    (ha : Below w.heap.size w wa) (hown2 : w2.ownsRow 0 27 1 (.slice A2 n2 c2) n2 (kv ++ [u])) (hg2 : wa.grownBy w2 (Value.slice A kv.length c).ownBlock)
    (hat : (Value.slice A2 n2 c2).ownBlock = (Value.slice A kv.length c).ownBlock ∨ (Value.slice A2 n2 c2).ownBlock = some wa.heap.size) :
    ∃ F', (∀ k, k < w.heap.size → F' k → F k) ∧ HE (w2.setCell ⟨g, 1, none⟩ (.slice A2 n2 c2)) F' g m cnt true (kv ++ [u]) first got ev ∧ Turned F w (w2.setCell ⟨g, 1, none⟩ (.slice A2 n2 c2)) := by
  subst hn2
  have hgv := own_blk_ne hO hB (by decide)
  have hB2 := Blk.grown (hB.below ha hB.lt) hg2 hgv.symm
  have hAo : ∀ i, (Value.slice A kv.length c).ownBlock = some i → F i := fun i hv => by
    rcases hO.2 with ⟨h', _⟩ | ⟨g', cap', cur, h', hb, hg, _⟩
    · rw [h'] at hv; simp [Value.ownBlock] at hv
    · have hA' := h'
      injection hA' with hA'
      rw [h'] at hv
      have : g' = i := by simpa [Value.ownBlock] using hv
      subst this
      exact (hA _ hA').1
  have hT2 : Turned F w w2 := (Turned.of_below ha).trans (Turned.of_grown (F := fun k => (Value.slice A kv.length c).ownBlock = some k) hg2 (fun k h => h)) (fun i hi hv => hAo i hv)
  have hsz : (w2.setCell ⟨g, 1, none⟩ (.slice A2 (kv.length + 1) c2)).heap.size = w2.heap.size := by simp [World.setCell]
  have hT3 : Turned F w (w2.setCell ⟨g, 1, none⟩ (.slice A2 (kv.length + 1) c2)) := hT2.setCell (.inl hFg) _
  have hs2 := hT2.size
  have hsa := ha.size
  have hl : (kv ++ [u]).length = kv.length + 1 := by simp
  have hgm : g ≠ m := fun e => by
    obtain ⟨D, ⟨es, clock, hb, _⟩, _⟩ := hM
    unfold Blk at hB
    rw [e] at hB
    rw [hB] at hb
    cases hb
  have hM2 : MapI w2 m cnt ev := (hM.below ha).kept hg2 (fun e => by
    rcases hO.2 with ⟨h', _⟩ | ⟨g', cap', cur, h', hb, hg, _⟩
    · rw [h'] at e; simp [Value.ownBlock] at e
    · rw [h'] at e
      have : m = g' := by simpa [Value.ownBlock] using e
      subst this
      obtain ⟨D, ⟨es, clock, hbb, _⟩, _⟩ := hM
      rw [hg] at hbb
      cases hbb)
  have hO3 : (w2.setCell ⟨g, 1, none⟩ (.slice A2 (kv.length + 1) c2)).ownsRow 0 27 1 (.slice A2 (kv.length + 1) c2) (kv.length + 1) (kv ++ [u]) :=
    World.ownsRow.kept (row := some g) hown2 ⟨rfl, rfl, rfl, by simp [World.setCell], fun k _ hne => Below.heap_setCell w2 _ _ k (fun e => hne (by rw [e]))⟩ (.inr (own_blk_ne hown2 hB2 (by decide)))
  have hA2 : ∀ ad, A2 = some ad → (Value.slice A2 (kv.length + 1) c2).ownBlock = some ad.block := fun ad e => by
    subst e
    rcases hown2.2 with ⟨h', _⟩ | ⟨g', cap', cur, h', hb, hg, _⟩
    · cases h'
    · injection h' with h'
      injection h' with h'
      subst h'
      rfl
  have hRM : (Value.slice A2 (kv.length + 1) c2).ownBlock ≠ some m := fun e => by
    rcases hown2.2 with ⟨h', _⟩ | ⟨g', cap', cur, h', hb, hg, _⟩
    · rw [h'] at e; simp [Value.ownBlock] at e
    · rw [h'] at e
      have : g' = m := by simpa [Value.ownBlock] using e
      subst this
      obtain ⟨D, ⟨es, clock, hbb, _⟩, _⟩ := hM2
      rw [hg] at hbb
      cases hbb
  refine ⟨fun k => k = g ∨ k = m ∨ (Value.slice A2 (kv.length + 1) c2).ownBlock = some k, fun k hk hF' => ?_, ⟨A2, c2, by rw [hl]; exact hB2.set_ 1 _, fun _ => by rw [hl]; exact hO3, by rw [hl]; exact own_cap hO3, by rw [hl]; exact own_reads hO3, fun ad e => ⟨.inr (.inr (hA2 ad e)), fun e' => own_blk_ne hown2 hB2 (by decide) (e' ▸ hA2 ad e), fun e' => hRM (e' ▸ hA2 ad e)⟩, hM2.setCell (Ne.symm hgm) _, .inl rfl, .inr (.inl rfl), fun k hk => ?_⟩, hT3⟩
  · rcases hF' with rfl | rfl | h
    · exact hFg
    · exact hFm
    · rcases hat with h' | h'
      · exact hAo k (h' ▸ h)
      · rw [h'] at h
        injection h with h
        omega
  · rcases hk with rfl | rfl | hk
    · exact ⟨(hB2.set_ 1 _).lt, (hB2.set_ 1 _).noB (by decide)⟩
    · have := hM2.setCell (p := ⟨g, 1, none⟩) (Ne.symm hgm) (.slice A2 (kv.length + 1) c2)
      exact ⟨this.lt, this.noB⟩
    · refine ⟨by rw [hsz]; exact (hown2.lt _ hk).2, ?_⟩
      rcases hO3.2 with ⟨h', _⟩ | ⟨g', cap', cur', h', hb, hg, _⟩
      · rw [h'] at hk; simp [Value.ownBlock] at hk
      · rw [h'] at hk
        have : g' = k := by simpa [Value.ownBlock] using hk
        subst this
        exact Blk.noB (t := 27) hg (by decide)

set_option maxRecDepth 100000 in
set_option maxHeartbeats 1000000 in
theorem send_long (F : Nat → Prop) (g m cnt : Nat) (own : Bool) (kv : List Value) (first got : Int) (ev : Int → Option Value) (A : Option Addr) (n c : Nat) (w : World) (h : HE w F g m cnt own kv first got ev) (hl : 1048568 < n) :
    Calls Try.prog 10 #[.pointer (some ⟨g, 0, none⟩), .slice A n c] w fun e w' => e = .returned (.tuple #[.slice none 0 0, .int .i64 2]) ∧ w = w' := by
  obtain ⟨c0, c2, c3, c4⟩ := h.cell3
  have b1 : decide ((1048568 : Int) < (n : Int)) = true := decide_eq_true (by omega)
  have b2 : decide (1048568 < n) = true := decide_eq_true hl
  go_enter Try.func10, Try.ntmps10
  go_wp2_with fail
  refine (pnone_no g w c0).mono ?_
  rintro _ _ ⟨rfl, rfl⟩
  go_wp2_with fail
  go_ret2
  exact ⟨rfl, rfl⟩
set_option maxRecDepth 100000 in
set_option maxHeartbeats 4000000 in
theorem send_any (F : Nat → Prop) (g m cnt : Nat) (kv : List Value) (first got : Int) (ev : Int → Option Value) (A : Option Addr) (c : Nat) (xs : List Int) (w : World) (h : HE w F g m cnt true kv first got ev)
    (hr : ReadsB w w.heap.size A xs) (hAF : ∀ ad, A = some ad → 0 < xs.length → ¬ F ad.block) (hb : Bytes xs) (hl : xs.length ≤ 1048568) (hk : kv.length < 4096) (h1 : ∀ v ∈ kv, v.oneCell' = true) (hf0 : 0 ≤ first) (hf1 : first ≤ 4000000000) (hg0 : 0 ≤ got) (hg1 : got < 4294967296) :
    Calls Try.prog 10 #[.pointer (some ⟨g, 0, none⟩), .slice A xs.length c] w fun e w' => ∃ A' c' u F', e = .returned (.tuple #[.slice A' (xs.length + 16) c', .int .i64 0]) ∧ OwnB w' w.heap.size (.slice A' (xs.length + 16) c') (FR (first + kv.length) got xs) ∧ OwnB w' 0 u xs ∧
      (∀ k, k < w.heap.size → F' k → F k) ∧ HE w' F' g m cnt true (kv ++ [u]) first got ev ∧ Turned F w w' := by
  have h0 := h
  obtain ⟨AK, cK, hB, hO, hc, hR, hA, hM, hFg, hFm, hF⟩ := h
  replace hO := hO rfl
  have c0 : w.cell? ⟨g, 0, none⟩ = some (.bool true) := hB.cell 0
  have c1 : w.cell? ⟨g, 1, none⟩ = some (.slice AK kv.length cK) := hB.cell 1
  have b1 : decide ((1048568 : Int) < (xs.length : Int)) = false := decide_eq_false (by omega)
  have b2 : decide (1048568 < xs.length) = false := decide_eq_false (by omega)
  have b3 : decide ((4096 : Int) ≤ (kv.length : Int)) = false := decide_eq_false (by omega)
  have b4 : decide (4096 ≤ kv.length) = false := decide_eq_false (by omega)
  obtain ⟨i0, hi0, hz0, hz1, hz2⟩ := info_parts infoB
  obtain ⟨A5, c5, w5, hrun5, hown5, hg5, hat5⟩ := run_append_any (P := Try.prog) w.drew w.heap.size 27 27 5 i0 _ 1 1 Try.underlying27 hi0 hz0 hz1 hz2 rfl (by omega) (.slice none 0 0) 0 [] (World.ownsRow_nil _ _ _ _)
    w.heap.size A xs.length c (cellsOf .u8 xs) hr cellsOf_one (by unfold maxLen; omega) (by omega) (Nat.le_refl _)
  simp only [Nat.zero_add, List.nil_append] at hrun5 hown5 hat5
  have hb5 : Below w.heap.size w w5 := (Below.refl _ _).drew.trans ⟨hg5.os, hg5.tape, hg5.output, hg5.size, fun i hi => hg5.block i hi (by simp [Value.ownBlock])⟩
  have q1 := old2 c1 hb5
  have q1a : (w5.alloc (.cells #[.slice A5 xs.length c5] 27)).cell? ⟨g, 1, none⟩ = some (.slice AK kv.length cK) := old1 q1
  have hba := ba hb5 (.cells #[.slice A5 xs.length c5] 27)
  obtain ⟨j0, hj0, hy0, hy1, hy2⟩ := info_parts infoR
  have hR1 : Reads (w5.alloc (.cells #[.slice A5 xs.length c5] 27)) (w5.heap.size + 1) 1 (some ⟨w5.heap.size, 0, none⟩) 1 [.slice A5 xs.length c5] := by
    have := Reads.new w5 #[.slice A5 xs.length c5] 27 (0, 0) 1 1 rfl
    simpa using this
  have hOa := own_below hO hba
  have hbz := hba.size
  obtain ⟨A6, c6, w6, hrun6, hown6, hg6, hat6⟩ := run_append_any (P := Try.prog) (w5.alloc (.cells #[.slice A5 xs.length c5] 27)) 0 26 26 27 j0 _ 1 24 Try.underlying26 hj0 hy0 hy1 hy2 rfl (by omega) (.slice AK kv.length cK) kv.length kv hOa
    (w5.heap.size + 1) (some ⟨w5.heap.size, 0, none⟩) 1 1 [.slice A5 xs.length c5] hR1 (fun u hu => by rw [List.mem_singleton.1 hu]; rfl) (by unfold maxLen; omega) (by omega) (Nat.zero_le _)
  obtain ⟨F', hF', hHE, hTF⟩ := he_push (u := .slice A5 xs.length c5) rfl hB hO hA hM hFg hFm hF hba hown6 hg6 hat6
  have hgv := own_blk_ne hO hB (by decide)
  have hB6 := Blk.grown (hB.below hba hB.lt) hg6 hgv.symm
  have p1 : w6.cell? ⟨g, 1, none⟩ = some (.slice AK kv.length cK) := hB6.cell 1
  have p2 : w6.frozen? ⟨g, 1, none⟩ = false := hB6.frozen 1
  have hF6 : ∀ k, F k → NoB w k := fun k hk => (hF k hk).2
  have hP5 : OwnB w5 0 (.slice A5 xs.length c5) xs := own_base hown5 (Nat.zero_le _)
  have hPa : OwnB (w5.alloc (.cells #[.slice A5 xs.length c5] 27)) 0 (.slice A5 xs.length c5) xs := hP5.alloc _
  have hP6 : OwnB w6 0 (.slice A5 xs.length c5) xs := own_other hPa hOa (by decide) hg6
  have hP7 : OwnB (w6.setCell ⟨g, 1, none⟩ (.slice A6 (kv.length + 1) c6)) 0 (.slice A5 xs.length c5) xs := own_cell hP6 hB6 (by decide) _
  have hr7 : ReadsB (w6.setCell ⟨g, 1, none⟩ (.slice A6 (kv.length + 1) c6)) (w6.setCell ⟨g, 1, none⟩ (.slice A6 (kv.length + 1) c6)).heap.size A xs := by
    rcases Nat.eq_zero_or_pos xs.length with h | h
    · have e : xs = [] := List.eq_nil_of_length_eq_zero h
      subst e
      exact ⟨rfl, fun hn => absurd hn (by simp)⟩
    · exact reads_turned hr hTF (fun ad e => hAF ad e h)
  have d2 : (w6.setCell ⟨g, 1, none⟩ (.slice A6 (kv.length + 1) c6)).cell? ⟨g, 2, none⟩ = some (.int .i64 first) := hHE.cell3.2.1
  have d3 : (w6.setCell ⟨g, 1, none⟩ (.slice A6 (kv.length + 1) c6)).cell? ⟨g, 3, none⟩ = some (.int .i64 got) := hHE.cell3.2.2.1
  have d1 : (w6.setCell ⟨g, 1, none⟩ (.slice A6 (kv.length + 1) c6)).cell? ⟨g, 1, none⟩ = some (.slice A6 (kv.length + 1) c6) := by
    obtain ⟨A', c', e, _⟩ := hHE.cell1
    exact (hB6.set_ 1 _).cell 1
  replace hr7 := Lib.hid hr7
  replace hP7 := Lib.hid hP7
  replace hHE := Lib.hid hHE
  replace hTF := Lib.hid hTF
  replace d1 := Lib.hid d1
  replace d2 := Lib.hid d2
  replace d3 := Lib.hid d3
  clear h0 hR hA hM hFm hF hr hAF hown5 hown6 hg5 hg6 hat5 hat6 hR1 hOa hB6 hPa hP5 hP6 hgv hba hbz hF6 hb5 hB hO
  go_enter Try.func10, Try.ntmps10
  go_wp2_with fail
  refine (pnone_no g w c0).mono ?_
  rintro _ _ ⟨rfl, rfl⟩
  go_wp2_with fail
  go_region
  have hlk : (kv ++ [Value.slice A5 xs.length c5]).length = kv.length + 1 := by simp
  generalize w6.setCell ⟨g, 1, none⟩ (.slice A6 (kv.length + 1) c6) = W7 at *
  have e1 := d1.out
  have e2 := d2.out
  have hr8 : ReadsB W7.drew W7.drew.heap.size A xs := hr7.out
  have e3 : W7.drew.cell? ⟨g, 3, none⟩ = some (.int .i64 got) := d3.out
  clear c0 c1 p1 p2 q1 q1a hrun5 hrun6 b1 b2 b3 b4
  have gw := Lib.hid (pwrap_any g (first + kv.length) got A c xs W7.drew e3 (by omega) (by omega) hg0 hg1 hl hr8 hb)
  have hw1 : IntKind.i64.wrap (first + ((kv.length : Int) + 1)) = first + ((kv.length : Int) + 1) := by rw [IntKind.wrap_i64]; omega
  have hw2 : IntKind.i64.wrap (first + ((kv.length : Int) + 1) - 1) = first + (kv.length : Int) := by rw [IntKind.wrap_i64]; omega
  clear hr8 e3 hlk
  go_wp2_with fail
  go_region_held_law (fun w' => w'.cell? ⟨g, 1, none⟩ = some (.slice A6 (kv.length + 1) c6) ∧ w'.cell? ⟨g, 2, none⟩ = some (.int .i64 first)) (go_keep)
    ((go_at_call 25
      refine gw.out.mono ?_
      rintro _ w8 ⟨A8, c8, rfl, hO8, hb8⟩
      have y1 : w8.cell? ⟨g, 1, none⟩ = some (.slice A6 (kv.length + 1) c6) := old2 (w := W7.drew) e1 hb8
      have y2 : w8.cell? ⟨g, 2, none⟩ = some (.int .i64 first) := old2 (w := W7.drew) e2 hb8))
  have hb9 : Below W7.heap.size W7 w8 := (Below.refl _ _).drew.trans hb8
  have hT8 : Turned F w w8 := hTF.out.trans (Turned.of_below (F := F) hb9) (fun _ _ h => h)
  have hsz : w.heap.size ≤ W7.heap.size := hTF.out.size
  have hHE8 := hHE.out.below hb9
  have hP8 : OwnB w8 0 (.slice A5 xs.length c5) xs := hP7.out.below hb9
  replace hHE8 := Lib.hid hHE8
  replace hT8 := Lib.hid hT8
  have hO9 := Lib.hid (hO8.base_ (show w.heap.size ≤ W7.drew.heap.size from hsz))
  clear y1 y2 e1 e2 hw1 hw2 hO8
  go_wp2_with fail
  go_ret2
  exact ⟨A8, c8, _, F', rfl, hO9.out, hP8, hF', hHE8.out, hT8.out⟩
end Go.Proofs.Ytdilccihhelilaa
