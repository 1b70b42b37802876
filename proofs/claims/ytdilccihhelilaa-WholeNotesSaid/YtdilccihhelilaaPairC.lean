/- An end: Tick. -/
import Derived.Test.YtdilccihhelilaaPairB
import Derived.Deep.CutBlock
namespace Go.Proofs.Ytdilccihhelilaa
open Go.RowKit
set_option linter.unusedVariables false
set_option linter.unusedSimpArgs false

/-- The frames of what is kept. -/
def tks (first got : Int) : List (List Int) → List (List Int)
  | [] => []
  | x :: xs => FR first got x :: tks (first + 1) got xs
theorem tks_snoc (got : Int) (x : List Int) : ∀ (l : List (List Int)) (first : Int), tks first got (l ++ [x]) = tks first got l ++ [FR (first + l.length) got x]
  | [], first => by simp [tks]
  | y :: l, first => by
    rw [List.cons_append, tks, tks, tks_snoc got x l, List.cons_append, List.length_cons]
    congr 3
    congr 1
    push_cast
    omega
theorem tks_len (got : Int) : ∀ (l : List (List Int)) (first : Int), (tks first got l).length = l.length
  | [], _ => rfl
  | _ :: l, first => by rw [tks, List.length_cons, List.length_cons, tks_len got l]
theorem tks_at (got : Int) : ∀ (l : List (List Int)) (first : Int) (k : Nat) (x : List Int), l[k]? = some x → (tks first got l)[k]? = some (FR (first + k) got x)
  | y :: l, first, 0, x, h => by
    simp only [List.getElem?_cons_zero, Option.some.injEq] at h
    subst h
    simp [tks]
  | y :: l, first, k + 1, x, h => by
    rw [List.getElem?_cons_succ] at h
    rw [tks, List.getElem?_cons_succ, tks_at got l (first + 1) k x h]
    congr 2
    push_cast
    omega
  | [], _, _, _, h => by simp at h
set_option maxRecDepth 100000 in
set_option maxHeartbeats 2000000 in
theorem tick_any (F : Nat → Prop) (g m cnt : Nat) (own : Bool) (kv : List Value) (first got : Int) (ev : Int → Option Value) (w : World) (xss : List (List Int)) (h : HE w F g m cnt own kv first got ev) (hkv : OBs w kv xss)
    (hx : ∀ x ∈ xss, x.length ≤ 1048568 ∧ Bytes x) (hf0 : 0 ≤ first) (hf1 : first ≤ 4000000000) (hg0 : 0 ≤ got) (hg1 : got < 4294967296) :
    Calls Try.prog 15 #[.pointer (some ⟨g, 0, none⟩)] w fun e w' => ∃ A c vs, e = .returned (.slice A vs.length c) ∧ w'.ownsRow w.heap.size 27 1 (.slice A vs.length c) vs.length vs ∧ OBs w' vs (tks first got (xss.take 64)) ∧ Below w.heap.size w w' := by
  obtain ⟨c0, c2, c3, c4⟩ := h.cell3
  obtain ⟨AK, cK, c1, ⟨hcK, hmK⟩, hR⟩ := h.cell1
  have hlen := hkv.len
  obtain ⟨n, hn⟩ : ∃ n, n = min kv.length 64 := ⟨_, rfl⟩
  obtain ⟨i0, hi0, hz0, hz1, hz2⟩ := info_parts infoR
  rw [hlen] at hn c1 hcK hR
  have hone := hkv.one
  have hnn : n ≤ xss.length := by omega
  have hn64 : n ≤ 64 := by omega
  have hEND : tks first got (xss.take 64) = tks first got (xss.take n) := by
    congr 1
    rcases Nat.lt_or_ge 64 xss.length with h1 | h1
    · rw [show n = 64 by omega]
    · rw [show n = xss.length by omega, List.take_of_length_le h1, List.take_length]
  replace hEND := Lib.hid hEND
  replace hR := Lib.hid hR
  replace hkv := Lib.hid hkv
  replace hx := Lib.hid hx
  replace hlen := Lib.hid hlen
  replace hn := Lib.hid hn
  go_enter Try.func15, Try.ntmps15
  go_wp2_with fail
  refine (pnone_no g w c0).mono ?_
  rintro _ _ ⟨rfl, rfl⟩
  go_wp2_with fail
  go_upto_region 5 with fail
  go_cut [21, 22, 23] from 11 to 23 (fun s l i wx => s = .slice AK n cK ∧ l = .int .i64 n ∧ i = .int .i64 0 ∧ wx = w.drew)
  case first =>
    go_region
    go_wp2_with fail
    all_goals
      go_meet
      case rel =>
        have := hn.out
        refine ⟨?_, ?_, ?_, ?_⟩ <;> first | rfl | (congr 1; omega) | (congr 2; omega)
  case rest =>
    obtain ⟨rfl, rfl, rfl, rfl⟩ := hcut
    go_wp2_with fail
    go_loopw [4, 23] (fun l i wr => ∃ (k : Nat) (A : Option Addr) (c : Nat) (vs : List Value), k ≤ n ∧ i = .int .i64 k ∧ vs.length = k ∧ l = .slice A k c ∧ wr.ownsRow w.heap.size 27 1 (.slice A k c) k vs ∧ OBs wr vs (tks first got (xss.take k)) ∧ Below w.heap.size w wr) (fun _ i _ => n - (intOf i).toNat)
    case atStart => exact ⟨0, none, 0, [], Nat.zero_le _, rfl, rfl, rfl, World.ownsRow_nil _ _ _ _, trivial, (Below.refl _ _).drew⟩
    case round =>
      obtain ⟨k, A, c, vs, hk, rfl, hvl, rfl, hO, hV, hB⟩ := hrel
      by_cases hlt : k < n
      · have b1 : decide ((k : Int) < (n : Int)) = true := decide_eq_true (by omega)
        have b2 : decide (k < n) = true := decide_eq_true hlt
        have hkx : k < xss.length := by omega
        obtain ⟨v, hvk, hvo⟩ := hkv.out.at_ (List.getElem?_eq_getElem hkx)
        obtain ⟨vA, vc, rfl, hvc, hvm, hvr⟩ := own_form hvo
        have hvr' : ReadsB w w.heap.size vA xss[k] := hvr
        obtain ⟨ad, u, rfl, hadb, hu, hcell⟩ := Reads.at_ (hR.out) hkx
        rw [hvk] at hu
        injection hu with hu
        subst hu
        have hxk := hx.out xss[k] (List.getElem_mem hkx)
        have hcl := World.block_lt_of_cell? w _ hcell
        have k0 : wr.cell? (ad.add k) = some (.slice vA xss[k].length vc) := old2 hcell hB
        have k2 : wr.cell? ⟨g, 2, none⟩ = some (.int .i64 first) := old2 c2 hB
        have k3 : wr.cell? ⟨g, 3, none⟩ = some (.int .i64 got) := old2 c3 hB
        have hw1 : IntKind.i64.wrap (first + (k : Int)) = first + (k : Int) := by rw [IntKind.wrap_i64]; omega
        have gw := pwrap_any g (first + k) got vA vc xss[k] wr k3 (by omega) (by omega) hg0 hg1 hxk.1 ((Reads.below hvr' hB).more hB.size) hxk.2
        have htk : tks first got (xss.take (k + 1)) = tks first got (xss.take k) ++ [FR (first + k) got xss[k]] := by
          rw [← List.take_append_getElem hkx, tks_snoc, List.length_take, Nat.min_eq_left (by omega)]
        replace htk := Lib.hid htk
        have hll : (tks first got (xss.take k)).length = k := by rw [tks_len, List.length_take]; omega
        generalize FR (first + k) got xss[k] = fr at *
        generalize xss[k].length = L at *
        replace gw := Lib.hid gw
        clear hvr hvr' hcell hvo hvk hxk c0 c2 c3 c4 c1
        go_wp2_with fail
        refine gw.out.mono ?_
        rintro _ w3 ⟨A3, c3, rfl, hO3, hb3⟩
        have hO4 := World.ownsRow.alloc (own_below hO hb3) (.cells #[.slice A3 (L + 16) c3] 27)
        have hR1 : Reads (w3.alloc (.cells #[.slice A3 (L + 16) c3] 27)) (w3.heap.size + 1) 1 (some ⟨w3.heap.size, 0, none⟩) 1 [.slice A3 (L + 16) c3] := by
          have := Reads.new w3 #[.slice A3 (L + 16) c3] 27 (0, 0) 1 1 rfl
          simpa using this
        have hB3 := bn hB hb3
        have hP4 : OwnB (w3.alloc (.cells #[.slice A3 (L + 16) c3] 27)) 0 (.slice A3 (L + 16) c3) fr := (hO3.base_ (Nat.zero_le _)).alloc _
        have hV4 : OBs (w3.alloc (.cells #[.slice A3 (L + 16) c3] 27)) vs (tks first got (xss.take k)) := hV.keep fun v x h => (h.below hb3).alloc _
        have hBz := (ba hB3 (.cells #[.slice A3 (L + 16) c3] 27)).size
        replace hV4 := Lib.hid hV4
        replace hV := Lib.hid hV
        go_wp2_with (first
          | (at_builtin
             refine wpList_app (P := Try.prog) _ rfl (.tmp 28) (.tmp 38) 26 rfl w.heap.size 27 i0 _ 1 24 Try.underlying26 hi0 hz0 hz1 hz2 rfl (by omega) (.slice A k c) k vs rfl hO4 (w3.heap.size + 1) (some ⟨w3.heap.size, 0, none⟩) 1 1 [.slice A3 (L + 16) c3] rfl hR1
               (fun u hu => by rw [List.mem_singleton.1 hu]; rfl) (by unfold maxLen; omega) (by omega) hBz ?_
             intro A5 c5 w5 hown5 hg5 hat5))
        have hB5 : Below w.heap.size w w5 := (ba hB3 _).grown hg5 hBz (fun q e => (hO4.lt q e).1)
        have hP5 : OwnB w5 0 (.slice A3 (L + 16) c3) fr := own_other hP4 hO4 (by decide) hg5
        have hV5 : OBs w5 vs (tks first got (xss.take k)) := hV4.out.keep fun v x h => own_other h hO4 (by decide) hg5
        exact ⟨⟨k + 1, A5, c5, vs ++ [.slice A3 (L + 16) c3], by omega, by go_num, by simp [hvl], rfl, hown5, by rw [htk.out]; exact hV5.append ⟨hP5, trivial⟩, hB5⟩, by simp [intOf]; omega⟩
      · obtain rfl : k = n := by omega
        subst hvl
        have b1 : decide ((vs.length : Int) < (vs.length : Int)) = false := decide_eq_false (by omega)
        have b2 : decide (vs.length < vs.length) = false := decide_eq_false (by omega)
        go_wp2_with fail
        go_ret
        exact ⟨A, c, vs, rfl, hO, by rw [hEND.out]; exact hV, hB⟩
end Go.Proofs.Ytdilccihhelilaa
