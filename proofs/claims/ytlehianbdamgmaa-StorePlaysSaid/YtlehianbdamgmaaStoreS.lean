/- A log's Set, At, From. -/
import Derived.Test.YtlehianbdamgmaaStoreA
namespace Go.Proofs.Ytlehianbdamgmaa
open Go.RowKit
set_option linter.unusedVariables false

def setNew (l new : List Ent) : List Ent := if checkL new = 0 then new else l
theorem checkL_len {l : List Ent} (h : checkL l = 0) : l.length ≤ 4096 := by
  unfold checkL at h
  split at h
  · cases h
  · omega

set_option maxRecDepth 100000 in
set_option maxHeartbeats 2000000 in
theorem set_any (g : Nat) (l new : List Ent) (A2 : Option Addr) (c2 : Nat) (w : World) (F : Nat → Prop) (base : Nat) (h : St w F base g l) (hr2 : ReadsE w w.heap.size A2 new) (hi : InL new) (hm2 : new.length ≤ maxLen) :
    Calls Try.prog 31 #[.pointer (some ⟨g, 0, none⟩), .slice A2 new.length c2] w (SPost w F base g (checkL new) (setNew l new)) := by
  obtain ⟨A, c, c0, c1, f0, hlt, hr, hc, hm⟩ := h.cells
  have hn := fun w h => Lib.hid (none_any g true w h)
  have hck := Lib.hid (scheck_any A2 c2 new w hr2 hi hm2)
  by_cases h0 : checkL new = 0
  · have hs : setNew l new = new := if_pos h0
    have h4 := checkL_len h0
    rw [hs, h0]
    rw [h0] at hck
    clear h0
    go_enter Try.func31, Try.ntmps31
    go_wp2_with fail
    refine (hn _ (by assumption)).out.mono ?_
    rintro _ _ ⟨rfl, rfl⟩
    go_wp2_with fail
    refine hck.out.mono ?_
    rintro _ w1 ⟨rfl, hb1⟩
    have hS1 := h.below hb1
    obtain ⟨A', c', hB, hO, hl4, hbg, hFg, hFv, hFw⟩ := hS1
    have q0 : w1.cell? ⟨g, 0, none⟩ = some (.slice A' l.length c') := hB.cell 0
    have hr3 := Lib.hid ((hr2.below hb1).more hb1.size)
    have hn0 : ([] : List Ent) ++ new = new := rfl
    go_wp2_with (first
      | (at_builtin
         refine wpList_appE w1 rfl (.const (.slice none 0 0)) (.tmp 13) rfl w1.heap.size (.slice none 0 0) [] rfl (OwnE.nil _ _) w1.heap.size A2 new.length c2 new rfl hr3.out rfl new new.length rfl rfl (by omega) (Nat.le_refl _) ?_
         intro A3 c3 w3 hown3 hg3 hb3 hat3
         have hB3 : Blk w3 g 53 #[.slice A' l.length c', .bool true] := hB.below hb3 hB.lt
         have c03 : w3.cell? ⟨g, 0, none⟩ = some (.slice A' l.length c') := hB3.cell 0
         have f03 := hB3.frozen 0))
    go_ret
    refine ⟨rfl, h.from_ hb1 (st_push hB hO hbg hFg hFv hFw (Below.refl _ _) hown3 (by have := hFw g hFg; omega) (.inl rfl) hg3 (hat3.elim (fun h => .inr (.inr (by rw [h]; rfl))) fun h => .inr (.inl h)) rfl h4)⟩
  · have hs : setNew l new = l := if_neg h0
    have b0 : (checkL new == 0) = false := beq_eq_false_iff_ne.2 h0
    rw [hs]
    generalize checkL new = cn at *
    clear h0
    go_enter Try.func31, Try.ntmps31
    go_wp2_with fail
    refine (hn _ (by assumption)).out.mono ?_
    rintro _ _ ⟨rfl, rfl⟩
    go_wp2_with fail
    refine hck.out.mono ?_
    rintro _ w1 ⟨rfl, hb1⟩
    go_wp2_with fail
    go_ret
    exact ⟨rfl, h.grow hb1⟩

def zeroE : Ent := ⟨0, 0, 0, 0⟩
/-- What At answers. -/
def atV (l : List Ent) (i : Int) : Ent := if 0 ≤ i then (l[i.toNat]?).getD zeroE else zeroE
def atC (l : List Ent) (i : Int) : Int := if 0 ≤ i ∧ i < l.length then 0 else 1
theorem atV_in {l : List Ent} {k : Nat} {x : Ent} (hx : l[k]? = some x) : atV l k = x ∧ atC l k = 0 := by
  have := (List.getElem?_eq_some_iff.1 hx).1
  constructor
  · unfold atV; rw [if_pos (by omega), Int.toNat_natCast, hx]; rfl
  · unfold atC; rw [if_pos (by omega)]
theorem atV_out {l : List Ent} {i : Int} (h : ¬ (0 ≤ i ∧ i < l.length)) : atV l i = zeroE ∧ atC l i = 1 := by
  constructor
  · unfold atV
    split
    · rw [List.getElem?_eq_none (by omega)]; rfl
    · rfl
  · exact if_neg h

set_option maxRecDepth 100000 in
set_option maxHeartbeats 2000000 in
theorem at_any (g : Nat) (l : List Ent) (i : Int) (w : World) (F : Nat → Prop) (base : Nat) (h : St w F base g l) :
    Calls Try.prog 34 #[.pointer (some ⟨g, 0, none⟩), .int .i64 i] w fun e w' => e = .returned (.tuple #[(atV l i).val, .int .i64 (atC l i)]) ∧ Below w.heap.size w w' := by
  have hba : Below w.heap.size w (w.alloc (.cells #[.int .i64 0, .int .i64 0, .int .i64 0, .int .i64 0] 33)) := (Below.refl _ _).alloc (Nat.le_refl _) _
  have hl4 := h.len
  have hn := fun w h => Lib.hid (none_any g true w h)
  obtain ⟨Ab, cb, k0, k1, kf, klt, kr, kc, km⟩ := h.cells
  have c0 := (hba.cell (p := ⟨g, 0, none⟩) klt).trans k0
  have c1 := (hba.cell (p := ⟨g, 1, none⟩) klt).trans k1
  by_cases hin : 0 ≤ i ∧ i < l.length
  · obtain ⟨k, rfl⟩ := Int.eq_ofNat_of_zero_le hin.1
    have hk : k < l.length := by omega
    obtain ⟨x, hx⟩ := ent_at hk
    obtain ⟨e1, e2⟩ := atV_in hx
    rw [e1, e2]
    obtain ⟨ad, rfl, hB, ex⟩ := kr.at_ hx
    have hB' : (ad.add (k * 4)).block < w.heap.size := by rw [block_of_add]; exact hB
    obtain ⟨a0, a1, a2, a3⟩ := ex.alloc hB' (.cells #[.int .i64 0, .int .i64 0, .int .i64 0, .int .i64 0] 33)
    have b1 : decide ((k : Int) < 0) = false := decide_eq_false (by omega)
    have b2 : decide ((l.length : Int) ≤ (k : Int)) = false := decide_eq_false (by omega)
    have b3 : decide (l.length ≤ k) = false := decide_eq_false (by omega)
    clear e1 e2 hin hx
    go_enter Try.func34, Try.ntmps34
    go_wp2_with fail
    refine (hn _ (by assumption)).out.mono ?_
    rintro _ _ ⟨rfl, rfl⟩
    go_wp2_with fail
    refine bodyPost_ret (v := .tuple #[.agg #[.int .i64 x.view, .int .i64 x.what, .int .i64 x.a, .int .i64 x.n], .int .i64 0]) (by simp [results, Try.results34, go_sem]) rfl ⟨rfl, ?_⟩
    exact (Below.refl _ _).alloc (Nat.le_refl _) _
  · obtain ⟨e1, e2⟩ := atV_out hin
    rw [e1, e2]
    by_cases h0 : i < 0
    · have b1 : decide (i < 0) = true := decide_eq_true h0
      clear e1 e2 hin
      go_enter Try.func34, Try.ntmps34
      go_wp2_with fail
      refine (hn _ (by assumption)).out.mono ?_
      rintro _ _ ⟨rfl, rfl⟩
      go_wp2_with fail
      refine bodyPost_ret (v := .tuple #[.agg #[.int .i64 0, .int .i64 0, .int .i64 0, .int .i64 0], .int .i64 1]) (by simp [results, Try.results34, go_sem]) rfl ⟨rfl, ?_⟩
      exact (Below.refl _ _).alloc (Nat.le_refl _) _
    · have b1 : decide (i < 0) = false := decide_eq_false h0
      have b2 : decide ((l.length : Int) ≤ i) = true := decide_eq_true (by omega)
      clear e1 e2 hin
      go_enter Try.func34, Try.ntmps34
      go_wp2_with fail
      refine (hn _ (by assumption)).out.mono ?_
      rintro _ _ ⟨rfl, rfl⟩
      go_wp2_with fail
      refine bodyPost_ret (v := .tuple #[.agg #[.int .i64 0, .int .i64 0, .int .i64 0, .int .i64 0], .int .i64 1]) (by simp [results, Try.results34, go_sem]) rfl ⟨rfl, ?_⟩
      exact (Below.refl _ _).alloc (Nat.le_refl _) _

def fromL (l : List Ent) (i : Int) : List Ent := l.drop i.toNat
/-- What a list that is handed out comes to. -/
def LPost (w : World) (l : List Ent) (e : Ending) (w' : World) : Prop := ∃ A c, e = .returned (.slice A l.length c) ∧ OwnE w' w.heap.size (.slice A l.length c) l ∧ Below w.heap.size w w'
theorem cellsE_drop (l : List Ent) (k : Nat) : (cellsE l).drop (k * 4) = cellsE (l.drop k) := by
  rcases Nat.lt_or_ge l.length k with h | h
  · rw [List.drop_eq_nil_of_le (by rw [cellsE_length]; omega), List.drop_eq_nil_of_le (by omega)]; rfl
  · have h1 : cellsE l = cellsE (l.take k) ++ cellsE (l.drop k) := by rw [← cellsE_append, List.take_append_drop]
    rw [h1, List.drop_left' (by rw [cellsE_length, List.length_take, Nat.min_eq_left h])]
theorem ReadsE.cut {w : World} {B : Nat} {A : Option Addr} {l : List Ent} (h : ReadsE w B A l) {k cap : Nat} (hk : k ≤ l.length) (hc : l.length ≤ cap) : ReadsE w B (if cap = k then A else A.map (·.add (k * 4))) (l.drop k) := by
  have := Reads.cut h hk hc
  unfold ReadsE
  rw [List.length_drop, ← cellsE_drop]
  exact this

set_option maxRecDepth 100000 in
set_option maxHeartbeats 2000000 in
theorem from_any (g : Nat) (l : List Ent) (i : Int) (w : World) (F : Nat → Prop) (base : Nat) (h : St w F base g l) :
    Calls Try.prog 33 #[.pointer (some ⟨g, 0, none⟩), .int .i64 i] w (LPost w (fromL l i)) := by
  have hl4 := h.len
  have hn := fun w h => Lib.hid (none_any g true w h)
  obtain ⟨A, c, c0, c1, f0, klt, kr, kc, km⟩ := h.cells
  unfold maxLen at km
  by_cases hin : (l.length : Int) ≤ i
  · have b2 : decide ((l.length : Int) ≤ i) = true := decide_eq_true hin
    have e : fromL l i = [] := List.drop_eq_nil_of_le (by omega)
    rw [e]
    clear e hin
    go_enter Try.func33, Try.ntmps33
    go_wp2_with fail
    refine (hn _ (by assumption)).out.mono ?_
    rintro _ _ ⟨rfl, rfl⟩
    go_wp2_with fail
    go_ret
    exact ⟨none, 0, rfl, OwnE.nil _ _, Below.refl _ _⟩
  · have b2 : decide ((l.length : Int) ≤ i) = false := decide_eq_false hin
    by_cases hneg : i < 0
    · have e : fromL l i = l := by unfold fromL; rw [show i.toNat = 0 from by omega]; rfl
      have b3 : decide (i < 0) = true := decide_eq_true hneg
      rw [e]
      replace kr := Lib.hid kr
      clear e hin
      go_enter Try.func33, Try.ntmps33
      go_wp2_with fail
      refine (hn _ (by assumption)).out.mono ?_
      rintro _ _ ⟨rfl, rfl⟩
      go_wp2_with (first
        | (at_builtin
           refine wpList_appE w rfl (.const (.slice none 0 0)) (.tmp 22) rfl w.heap.size (.slice none 0 0) [] rfl (OwnE.nil _ _) w.heap.size A l.length c l rfl kr.out rfl l l.length rfl rfl (by omega) (Nat.le_refl _) ?_
           intro A3 c3 w3 hown3 hg3 hb3 hat3))
      go_ret
      exact ⟨A3, c3, rfl, hown3, hb3⟩
    · obtain ⟨k, rfl⟩ := Int.eq_ofNat_of_zero_le (show 0 ≤ i by omega)
      have hkl : k < l.length := by omega
      have e : fromL l k = l.drop k := by unfold fromL; rw [Int.toNat_natCast]
      have b3 : decide ((k : Int) < 0) = false := decide_eq_false hneg
      have hr2 := kr.cut (cap := c) (Nat.le_of_lt hkl) kc
      rw [if_neg (by omega)] at hr2
      replace hr2 := Lib.hid hr2
      have hlen : (l.drop k).length = l.length - k := List.length_drop
      have hlen' : (l.drop k).length ≤ 4096 := by omega
      rw [e]
      generalize l.drop k = zs at *
      replace hlen := Lib.hid hlen
      clear e hin
      go_enter Try.func33, Try.ntmps33
      go_wp2_with fail
      refine (hn _ (by assumption)).out.mono ?_
      rintro _ _ ⟨rfl, rfl⟩
      go_wp2_with (first
        | (at_builtin
           refine wpList_appE w rfl (.const (.slice none 0 0)) (.tmp 22) rfl w.heap.size (.slice none 0 0) [] rfl (OwnE.nil _ _) w.heap.size (Option.map (fun x => x.add (k * 4)) A) (l.length - k) (c - k) zs rfl hr2.out hlen.out.symm zs zs.length rfl rfl (by omega) (Nat.le_refl _) ?_
           intro A3 c3 w3 hown3 hg3 hb3 hat3))
      go_ret
      exact ⟨A3, c3, rfl, hown3, hb3⟩
