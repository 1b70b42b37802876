/- Monitors: Back. -/
import Derived.Test.YtpfgdgelnehjpaaLockO
namespace Go.Proofs.Ytpfgdgelnehjpaa
open Go.RowKit
set_option linter.unusedVariables false
set_option linter.unusedSimpArgs false
attribute [-go_sem] Builtin.append_

/-- Where one that was told stands, if all is told, and the monitor is free. -/
def badK (row : List Kp) (t : Int) : Bool := row.any (fun k => decide (k.t = t) && !k.told)
def atK (row : List Kp) (t : Int) : Option Nat := row.findIdx? (fun k => decide (k.t = t))
def atZ (o : Option Nat) : Int := match o with | some j => j | none => -1
def backI (m : Mon) (t : Int) : Option Nat := if badK m.row t = true ∨ 0 < m.cnt then none else atK m.row t
def backM (m : Mon) (t : Int) (i : Nat) : Mon := ⟨t, match m.row[i]? with | some k => k.n | none => 0, m.row.take i ++ m.row.drop (i + 1)⟩
def backS (s : Int → Mon) (r t : Int) : Int → Mon := match backI (s r) t with | none => s | some i => setS s r (backM (s r) t i)
theorem run_appNone (w : World) (ty : TypeId) (ad : Addr) (n : Nat) (Y : Option Addr) (c : Nat) :
    (Builtin.append_ #[93, 93] ty #[.slice (some ad) n n, .slice Y 0 c]).run Try.prog w = .ok (.slice (some ad) n n) w := by
  obtain ⟨i0, hi0, hz0, hz1, hz2⟩ := info_parts infoK
  cases Y <;> simp [Builtin.append_, run_underlying Try.underlying93, sizeOf, typeInfo, hi0, Builtin.lenOf, Builtin.firstCells, storeCells, loadCells, loadCellsFrom]
theorem ReadsK.front {w : World} {B : Nat} {A : Option Addr} {l m : List Kp} (h : ReadsK w B A (l ++ m)) : ReadsK w B A l := by
  have h1 := Reads.take (k := l.length) h (by simp)
  rwa [cellsK_append, List.take_left' (cellsK_length l)] at h1
theorem cellsK_drop (l : List Kp) (k : Nat) : cellsK (l.drop k) = (cellsK l).drop (k * 3) := by
  rcases Nat.lt_or_ge l.length k with h | h
  · rw [List.drop_eq_nil_of_le (by omega), List.drop_eq_nil_of_le (by rw [cellsK_length]; omega)]; rfl
  · have e : cellsK l = cellsK (l.take k) ++ cellsK (l.drop k) := by rw [← cellsK_append, List.take_append_drop]
    have hl : (cellsK (l.take k)).length = k * 3 := by rw [cellsK_length, List.length_take]; congr 1; omega
    rw [e, List.drop_left' hl]
theorem badK_next {row : List Kp} {k : Nat} {x : Kp} (t : Int) (h : row[k]? = some x) : badK (row.take (k + 1)) t = (badK (row.take k) t || (decide (x.t = t) && !x.told)) := by
  unfold badK
  rw [takeK_next h]; simp
theorem atK_next {row : List Kp} {k : Nat} {x : Kp} (t : Int) (h : row[k]? = some x) : atK (row.take (k + 1)) t = if (atK (row.take k) t).isSome then atK (row.take k) t else if x.t = t then some k else none := by
  have hk : k < row.length := (List.getElem?_eq_some_iff.1 h).1
  have hl : (row.take k).length = k := by rw [List.length_take]; omega
  unfold atK
  rw [takeK_next h, List.findIdx?_append, hl]
  cases h1 : (row.take k).findIdx? (fun k => decide (k.t = t)) with
  | some n => simp
  | none => by_cases e : x.t = t <;> simp [List.findIdx?_cons, e]
theorem badK_short {row : List Kp} {k : Nat} {t : Int} (h : badK (row.take k) t = true) : badK row t = true := by
  have e : badK row t = (badK (row.take k) t || badK (row.drop k) t) := by unfold badK; rw [← List.any_append, List.take_append_drop]
  rw [e, h]; rfl
theorem atZ_lt (o : Option Nat) : (o = none ∧ atZ o = -1) ∨ ∃ j, o = some j ∧ atZ o = (j : Int) := by
  cases o with
  | none => exact .inl ⟨rfl, rfl⟩
  | some j => exact .inr ⟨j, rfl, rfl⟩

set_option maxRecDepth 100000 in
set_option maxHeartbeats 4000000 in
theorem back_any (p b n : Nat) (s : Int → Mon) (r t : Int) (hx : fit64 r) (w : World) (h : LS w p b n s) (hn : n < 4398046511104) :
    Calls Try.prog 31 #[.pointer (some ⟨p, 0, none⟩), .int .i64 r, .int .i64 t] w fun e w' => e = .returned (.tuple #[.bool (backI (s r) t).isSome, .int .i64 0]) ∧ LS w' p b (n + 1) (backS s r t) ∧ w.grownBy w' (some b) := by
  have hnone := Lib.hid (none_any p b n s w h)
  obtain ⟨⟨f, hM, hH⟩, hB, hbd⟩ := id h
  obtain ⟨A, c, hv, hr, hlc, hmc, hkt⟩ := hH r
  have hmb := hbd r
  have c0 : w.cell? ⟨p, 0, none⟩ = some (.map (some b)) := hB.cell 0
  have hrun := hM.look (T := 87) (E := 95) Try.underlying87 (zeroM_run w) hx
  rw [hv] at hrun
  unfold Mon.v at hrun
  clear hv hbd hH
  have hbS : ∀ o, backI (s r) t = o → backS s r t = match o with | none => s | some i => setS s r (backM (s r) t i) := fun o ho => by unfold backS; rw [ho]
  generalize s r = m at *
  obtain ⟨own, cnt, row⟩ := m
  obtain ⟨hb1, hb2, hb3⟩ := hmb
  dsimp only at hrun hr hlc hb1 hb2 hb3
  have hBx := Blk.new w 95 #[.int .i64 own, .int .i64 cnt, .slice A row.length c]
  have hW := b0 w (.cells #[.int .i64 own, .int .i64 cnt, .slice A row.length c] 95)
  replace hbS := Lib.hid hbS
  go_enter Try.func31, Try.ntmps31
  go_wp2_with fail
  refine hnone.out.mono ?_
  rintro _ w1 ⟨rfl, rfl⟩
  go_wp2_with fail
  generalize hU : w.alloc (.cells #[.int .i64 own, .int .i64 cnt, .slice A row.length c] 95) = U at *
  go_loopw [9, 23] (fun a i wr => ∃ k : Nat, k ≤ row.length ∧ i = .int .i64 k ∧ a = .int .i64 (atZ (atK (row.take k) t)) ∧ badK (row.take k) t = false ∧ Below U.heap.size U wr) (fun a i _ => row.length - (intOf i).toNat)
  case atStart => exact ⟨0, Nat.zero_le _, rfl, rfl, rfl, Below.refl _ _⟩
  case round =>
    obtain ⟨k, hk, rfl, rfl, hbad, hq0⟩ := hrel
    have hq : Below w.heap.size w wr := hW.trans (hq0.mono hW.size)
    by_cases hlt : k < row.length
    · obtain ⟨x, hxk⟩ := kp_at hlt
      have hbn := badK_next t hxk
      have han := atK_next t hxk
      obtain ⟨ad, rfl, _, e1⟩ := (ReadsK.below hr hq).at_ hxk
      obtain ⟨a0, a1, a2⟩ := e1
      have hq3 := hq0.alloc hq0.size (.cells #[.int .i64 x.t, .int .i64 x.n, .bool x.told] 99)
      rw [hbad] at hbn
      replace hxk := Lib.hid hxk
      by_cases ht : x.t = t
      · rw [ht] at a0 hq3 hbn han
        replace ht := Lib.hid ht
        cases htd : x.told with
        | false =>
          have hbt : badK row t = true := badK_short (k := k + 1) (by rw [hbn]; simp [htd])
          have hbk : Hid (backI ⟨own, cnt, row⟩ t = none) := Lib.hid (by unfold backI; rw [if_pos (.inl hbt)])
          have hbs : Hid (backS s r t = s) := Lib.hid (hbS.out _ hbk.out)
          replace hq := hW.trans (hq3.mono hW.size)
          rw [htd] at a2 hq
          clear hbn han hbad hbt hq3 hq0
          replace htd := Lib.hid htd
          go_wp2_with fail
          go_ret2
          exact ⟨by rw [hbk.out]; rfl, by rw [hbs.out]; exact (h.below hq).more (Nat.le_succ _), only_of_below hq _⟩
        | true =>
          rw [htd] at a2 hq3 hbn
          have hb4 : badK (row.take (k + 1)) t = false := by rw [hbn]; simp
          replace hb4 := Lib.hid hb4
          replace htd := Lib.hid htd
          clear hbn
          rcases atZ_lt (atK (row.take k) t) with ⟨o, z⟩ | ⟨j, o, z⟩
          · have ha4 : Hid ((k : Int) = atZ (atK (row.take (k + 1)) t)) := Lib.hid (by rw [han, o]; simp [atZ])
            rw [z]
            clear han o z hbad
            go_wp2_with fail
            exact ⟨⟨k + 1, by omega, by go_num, by rw [← ha4.out], hb4.out, hq3⟩, by simp [intOf]; omega⟩
          · have ha4 : Hid ((j : Int) = atZ (atK (row.take (k + 1)) t)) := Lib.hid (by rw [han, o]; simp [atZ])
            rw [z]
            clear han o z hbad
            go_wp2_with fail
            exact ⟨⟨k + 1, by omega, by go_num, by rw [← ha4.out], hb4.out, hq3⟩, by simp [intOf]; omega⟩
      · have hb4 : Hid (badK (row.take (k + 1)) t = false) := Lib.hid (by rw [hbn]; simp [ht])
        have ha4 : Hid (atZ (atK (row.take k) t) = atZ (atK (row.take (k + 1)) t)) := Lib.hid (by
          rw [han]
          cases ho : atK (row.take k) t <;> simp [ht])
        clear han hbn hbad
        generalize atZ (atK (row.take k) t) = z at *
        go_wp2_with fail
        exact ⟨⟨k + 1, by omega, by go_num, by rw [← ha4.out], hb4.out, hq3⟩, by simp [intOf]; omega⟩
    · obtain rfl : k = row.length := by omega
      rw [List.take_length] at hbad ⊢
      have hBw : Blk wr w.heap.size 95 #[.int .i64 own, .int .i64 cnt, .slice A row.length c] := hBx.below hq0 hBx.lt
      have e1 : wr.cell? ⟨w.heap.size, 1, none⟩ = some (.int .i64 cnt) := hBw.cell 1
      have e0 : wr.cell? ⟨w.heap.size, 0, none⟩ = some (.int .i64 own) := hBw.cell 0
      have e2 : wr.cell? ⟨w.heap.size, 2, none⟩ = some (.slice A row.length c) := hBw.cell 2
      have f0 := hBw.frozen 0
      have f1 := hBw.frozen 1
      have f2 := hBw.frozen 2
      rcases atZ_lt (atK row t) with ⟨o, z⟩ | ⟨j, o, z⟩
      · have hbk : Hid (backI ⟨own, cnt, row⟩ t = none) := Lib.hid (by unfold backI; rw [o]; simp)
        have hbs : Hid (backS s r t = s) := Lib.hid (hbS.out _ hbk.out)
        rw [z]
        clear z o hbad
        go_wp2_with fail
        go_ret2
        exact ⟨by rw [hbk.out]; rfl, by rw [hbs.out]; exact (h.below hq).more (Nat.le_succ _), only_of_below hq _⟩
      · rw [z]
        by_cases hc : 0 < cnt
        · have hbk : Hid (backI ⟨own, cnt, row⟩ t = none) := Lib.hid (by unfold backI; rw [if_pos (.inr hc)])
          have hbs : Hid (backS s r t = s) := Lib.hid (hbS.out _ hbk.out)
          clear z o hbad
          go_wp2_with fail
          go_ret2
          exact ⟨by rw [hbk.out]; rfl, by rw [hbs.out]; exact (h.below hq).more (Nat.le_succ _), only_of_below hq _⟩
        · have hbk : Hid (backI ⟨own, cnt, row⟩ t = some j) := Lib.hid (by unfold backI; rw [if_neg (by rw [hbad]; simp; omega), o])
          have hj : j < row.length := by
            have h' := o
            unfold atK at h'
            rw [List.findIdx?_eq_some_iff_getElem] at h'
            exact h'.1
          obtain ⟨y, hy⟩ := kp_at hj
          obtain ⟨ad, rfl, _, g1⟩ := (ReadsK.below hr hq).at_ hy
          obtain ⟨a0, a1, a2⟩ := g1
          have hyn := hb3 y (List.mem_of_getElem? hy)
          have hbs : Hid (backS s r t = setS s r ⟨t, y.n, row.take j ++ row.drop (j + 1)⟩) := Lib.hid (by
            rw [hbS.out _ hbk.out]
            dsimp only
            unfold backM
            dsimp only
            rw [hy])
          replace hy := Lib.hid hy
          clear z o hbad
          go_wp2_with fail
          go_region
          all_goals
            go_wp2_with fail
            have hq2 : Below w.heap.size w ((wr.setCell ⟨w.heap.size, 0, none⟩ (.int .i64 t)).setCell ⟨w.heap.size, 1, none⟩ (.int .i64 y.n)).drew := ((hq.setCell (p := ⟨w.heap.size, 0, none⟩) (Nat.le_refl _) (.int .i64 t)).setCell (p := ⟨w.heap.size, 1, none⟩) (Nat.le_refl _) (.int .i64 y.n)).drew
            have hB2 : Blk ((wr.setCell ⟨w.heap.size, 0, none⟩ (.int .i64 t)).setCell ⟨w.heap.size, 1, none⟩ (.int .i64 y.n)).drew w.heap.size 95 #[.int .i64 t, .int .i64 y.n, .slice (some ad) row.length c] := (hBw.set_ 0 (.int .i64 t)).set_ 1 (.int .i64 y.n)
            generalize ((wr.setCell ⟨w.heap.size, 0, none⟩ (.int .i64 t)).setCell ⟨w.heap.size, 1, none⟩ (.int .i64 y.n)).drew = W2 at *
            clear e0 e1 e2 f0 f1 f2 a0 a1 a2 hBw
            have d0 : W2.cell? ⟨w.heap.size, 0, none⟩ = some (.int .i64 t) := hB2.cell 0
            have d1 : W2.cell? ⟨w.heap.size, 1, none⟩ = some (.int .i64 y.n) := hB2.cell 1
            have d2 : W2.cell? ⟨w.heap.size, 2, none⟩ = some (.slice (some ad) row.length c) := hB2.cell 2
            have fd2 := hB2.frozen 2
            have hr2 : ReadsK W2 W2.heap.size (some ad) row := Reads.more (Reads.below hr hq2) hq2.size
            by_cases hlen : row.length = j + 1
            · have hrun3 := fun Y c' => run_appNone W2.drew 93 ad j Y c'
              have hrow : row.take j ++ row.drop (j + 1) = row.take j := by rw [List.drop_eq_nil_of_le (by omega), List.append_nil]
              have hltk : (row.take j).length = j := by rw [List.length_take]; omega
              rw [hrow] at hbs
              have hq3 := (hq2.setCell (p := ⟨w.heap.size, 2, none⟩) (Nat.le_refl _) (.slice (some ad) j j)).drew
              have hset := set_any p b n s r hx t y.n (row.take j) (some ad) j _ (h.below hq3) ⟨by dsimp only; omega, by dsimp only; rw [hltk]; omega, fun k hk => by have := hb3 k (List.mem_of_mem_take hk); omega⟩
                (Reads.more (Reads.below (ReadsK.front (m := row.drop j) (by rw [List.take_append_drop]; exact hr)) hq3) hq3.size) (by rw [hltk]; exact Nat.le_refl _) (by unfold maxLen at hmc ⊢; omega) (hkt.below hq3) (by omega)
              rw [hltk] at hset
              replace hset := Lib.hid hset
              replace hq3 := Lib.hid hq3
              clear hrow hltk hr2 hr
              go_wp2_with fail
              go_region
              all_goals go_wp2_with fail
              all_goals
                refine hset.out.mono ?_
                rintro _ w3 ⟨rfl, hL, hg⟩
                go_wp2_with fail
                go_ret2
                exact ⟨by rw [hbk.out]; rfl, by rw [hbs.out]; exact hL, only_trans (only_of_below hq3.out _) hg⟩
            · have hltk : (row.take j).length = j := by rw [List.length_take]; omega
              have hltd : (row.drop (j + 1)).length = row.length - (j + 1) := by rw [List.length_drop]
              have hcj : ¬ c = j + 1 := by omega
              have hRx : ReadsK W2.drew W2.drew.heap.size (some ad) (row.take j) := ReadsK.front (m := row.drop j) (by rw [List.take_append_drop]; exact hr2)
              have hRy : ReadsK W2.drew W2.heap.size (some (ad.add ((j + 1) * 3))) (row.drop (j + 1)) := by
                have h3 := Reads.cut (k := j + 1) (cap := c) (hr2 : Reads W2 W2.heap.size 3 (some ad) row.length (cellsK row)) (by omega) hlc
                rw [if_neg hcj] at h3
                unfold ReadsK
                rw [hltd, cellsK_drop]
                exact h3
              obtain ⟨A2, c2, w3, hrun3, hown3, hb3'⟩ := run_appFull W2.drew 93 (some ad) (row.take j) (row.drop (j + 1)) hRx W2.heap.size (some (ad.add ((j + 1) * 3))) (c - (j + 1)) hRy (by rw [hltd]; omega) (by rw [hltk, hltd]; omega)
              have hl3 : (row.take j ++ row.drop (j + 1)).length = row.length - 1 := by rw [List.length_append, hltk, hltd]; omega
              rw [hltk, hltd, hl3] at hrun3
              rw [hl3] at hown3
              have hB3 : Blk w3 w.heap.size 95 #[.int .i64 t, .int .i64 y.n, .slice (some ad) row.length c] := Blk.below hB2.drew hb3' hB2.lt
              have g0 : w3.cell? ⟨w.heap.size, 0, none⟩ = some (.int .i64 t) := hB3.cell 0
              have g1 : w3.cell? ⟨w.heap.size, 1, none⟩ = some (.int .i64 y.n) := hB3.cell 1
              have g2 : w3.cell? ⟨w.heap.size, 2, none⟩ = some (.slice (some ad) row.length c) := hB3.cell 2
              have fg2 := hB3.frozen 2
              have hq3 := ((hq2.drew).trans (hb3'.mono hq2.drew.size)).setCell (p := ⟨w.heap.size, 2, none⟩) (Nat.le_refl _) (.slice A2 (row.length - 1) c2)
              have ho5 := ownK_setCell (i := 2) hown3 hB3 (by decide) (.slice A2 (row.length - 1) c2)
              have hcap5 := ho5.cap
              rw [hl3] at hcap5
              have hset := set_any p b n s r hx t y.n (row.take j ++ row.drop (j + 1)) A2 c2 _ (h.below hq3) ⟨by dsimp only; omega, by dsimp only; rw [hl3]; omega, fun k hk => by
                rcases List.mem_append.1 hk with hk | hk
                · have := hb3 k (List.mem_of_mem_take hk); omega
                · have := hb3 k (List.mem_of_mem_drop hk); omega⟩ ho5.reads (by rw [hl3]; exact hcap5.1) hcap5.2 ho5.ty (by omega)
              rw [hl3] at hset
              replace hset := Lib.hid hset
              replace hq3 := Lib.hid hq3
              replace hown3 := Lib.hid hown3
              clear hltk hltd hr2 hr hRx hRy ho5 hcap5 hl3
              go_wp2_with fail
              go_region
              all_goals go_wp2_with fail
              all_goals
                refine hset.out.mono ?_
                rintro _ w4 ⟨rfl, hL, hg⟩
                go_wp2_with fail
                go_ret2
                exact ⟨by rw [hbk.out]; rfl, by rw [hbs.out]; exact hL, only_trans (only_of_below hq3.out _) hg⟩
end Go.Proofs.Ytpfgdgelnehjpaa
