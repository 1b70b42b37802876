/- Where instructions begin, and lead. -/
import Derived.Test.YtcinmgifadmbeaaFlowL
import Derived.Test.YtcinmgifadmbeaaMapI
import Derived.Test.YtcinmgifadmbeaaTabR
namespace Go.Proofs.Ytcinmgifadmbeaa
open Go.RowKit
set_option linter.unusedVariables false
set_option linter.unusedSimpArgs false

/-- Which instruction begins at a place. -/
def idxI (l : List Ins) (x : Int) : Option Nat := l.findIdx? (fun i => i.at_ == x)
def atN (l : List Ins) (x : Int) : Int := match idxI l x with | some n => n | none => -1
/-- Where an instruction leads; does it? -/
noncomputable def ldB (i : Ins) : Bool := sh i.op == 116
noncomputable def ldA (i : Ins) : Int := if ldB i = true then i.a else 0
def idxV (l : List Ins) (x : Int) : Option Value := (idxI l x).map fun (n : Nat) => Value.int .i64 (n : Int)
theorem idxI_next (l : List Ins) (i : Ins) (x : Int) : idxI (l ++ [i]) x = if (idxI l x).isSome then idxI l x else if i.at_ = x then some l.length else none := by
  unfold idxI
  rw [List.findIdx?_append]
  cases h : l.findIdx? (fun i => i.at_ == x) with
  | some n => simp
  | none =>
    by_cases e : i.at_ = x
    · simp [List.findIdx?_cons, e]
    · simp [List.findIdx?_cons, e]
/-- All places fit. -/
def AtsIn (l : List Ins) : Prop := ∀ i ∈ l, fit64 i.at_
theorem zeroI_run (w : World) : (zeroValue 3).run Try.prog w = .ok (.int .i64 0) w := by kernel_rfl

set_option maxRecDepth 100000 in
set_option maxHeartbeats 4000000 in
theorem leads_any (i : Ins) (w : World) : Calls Try.prog 30 #[i.val] w fun e w' => e = .returned (.tuple #[.int .i64 (ldA i), .bool (ldB i)]) ∧ Below w.heap.size w w' := by
  have hsh := fun w => Lib.hid (shape_any i.op w)
  obtain ⟨at_, op, a, b, size⟩ := i
  unfold Ins.val ldA ldB
  have hb : Below w.heap.size w (w.alloc (.cells #[.int .i64 at_, .int .i64 op, .int .i64 a, .int .i64 b, .int .i64 size] 28)) := (Below.refl _ _).alloc (Nat.le_refl _) _
  have hB := Blk.new w 28 #[.int .i64 at_, .int .i64 op, .int .i64 a, .int .i64 b, .int .i64 size]
  dsimp only at hsh
  generalize sh op = s at *
  generalize isC op = ok at *
  by_cases h : s = 116
  · subst h
    go_enter Try.func30, Try.ntmps30
    go_wp2_with fail
    refine (hsh _).out.mono ?_
    rintro _ w1 ⟨rfl, hb1⟩
    have hB1 := hB.below hb1 hB.lt
    have c2 : w1.cell? ⟨w.heap.size, 2, none⟩ = some (.int .i64 a) := hB1.cell 2
    go_wp2_with fail
    go_ret2
    exact ⟨rfl, hb.trans (hb1.mono hb.size)⟩
  · have b1 : (s == 116) = false := by simpa using h
    go_enter Try.func30, Try.ntmps30
    go_wp2_with fail
    refine (hsh _).out.mono ?_
    rintro _ w1 ⟨rfl, hb1⟩
    go_wp2_with fail
    go_ret2
    exact ⟨by simp [b1], hb.trans (hb1.mono hb.size)⟩
set_option maxRecDepth 100000 in
set_option maxHeartbeats 4000000 in
theorem rleads_any (i : Ins) (w : World) : Calls Try.prog 50 #[i.val] w fun e w' => e = .returned (.tuple #[.int .i64 (ldA i), .bool (ldB i)]) ∧ Below w.heap.size w w' := by
  have hsh := fun w => Lib.hid (rshape_any i.op w)
  obtain ⟨at_, op, a, b, size⟩ := i
  unfold Ins.val ldA ldB
  have hb : Below w.heap.size w (w.alloc (.cells #[.int .i64 at_, .int .i64 op, .int .i64 a, .int .i64 b, .int .i64 size] 28)) := (Below.refl _ _).alloc (Nat.le_refl _) _
  have hB := Blk.new w 28 #[.int .i64 at_, .int .i64 op, .int .i64 a, .int .i64 b, .int .i64 size]
  dsimp only at hsh
  generalize sh op = s at *
  generalize isC op = ok at *
  by_cases h : s = 116
  · subst h
    go_enter Try.func50, Try.ntmps50
    go_wp2_with fail
    refine (hsh _).out.mono ?_
    rintro _ w1 ⟨rfl, hb1⟩
    have hB1 := hB.below hb1 hB.lt
    have c2 : w1.cell? ⟨w.heap.size, 2, none⟩ = some (.int .i64 a) := hB1.cell 2
    go_wp2_with fail
    go_ret2
    exact ⟨rfl, hb.trans (hb1.mono hb.size)⟩
  · have b1 : (s == 116) = false := by simpa using h
    have b2 : (s != 116) = true := by simpa using h
    go_enter Try.func50, Try.ntmps50
    go_wp2_with fail
    refine (hsh _).out.mono ?_
    rintro _ w1 ⟨rfl, hb1⟩
    go_wp2_with fail
    go_ret2
    exact ⟨by simp [b1], hb.trans (hb1.mono hb.size)⟩

set_option maxRecDepth 100000 in
set_option maxHeartbeats 4000000 in
theorem places_any (A : Option Addr) (c : Nat) (l : List Ins) (w : World) (hr : ReadsI w w.heap.size A l) (hi : AtsIn l) (hl : l.length ≤ 4398046511104) :
    Calls Try.prog 47 #[.slice A l.length c] w fun e w' => e = .returned (.map (some w.heap.size)) ∧ MapI w' w.heap.size l.length (idxV l) ∧ Below w.heap.size w w' := by
  have hmm := @run_makeMap Try.prog
  go_enter Try.func47, Try.ntmps47
  go_wp2_with fail
  go_loopw [11] (fun i wr => ∃ k : Nat, k ≤ l.length ∧ i = .int .i64 k ∧ MapI wr w.heap.size k (idxV (l.take k)) ∧ Below w.heap.size w wr) (fun i _ => l.length - (intOf i).toNat)
  case atStart => exact ⟨0, Nat.zero_le _, rfl, MapI.made w, (Below.refl _ _).alloc (Nat.le_refl _) _⟩
  case round =>
    obtain ⟨k, hk, rfl, hM, hB⟩ := hrel
    by_cases hlt : k < l.length
    · obtain ⟨x, hx⟩ := ins_at hlt
      obtain ⟨ad, rfl, had, e1⟩ := (ReadsI.below hr hB).at_ hx
      have hfit : fit64 x.at_ := hi x (List.mem_of_getElem? hx)
      obtain ⟨a0, a1, a2, a3, a4⟩ := e1
      have hM1 := hM.alloc (.cells #[.int .i64 x.at_, .int .i64 x.op, .int .i64 x.a, .int .i64 x.b, .int .i64 x.size] 28)
      have hB1 := hB.alloc hB.size (.cells #[.int .i64 x.at_, .int .i64 x.op, .int .i64 x.a, .int .i64 x.b, .int .i64 x.size] 28)
      have hrun := hM1.look_ok (T := 95) (E := 3) Try.underlying95 (zeroI_run _) hfit
      have hln : (l.take k).length = k := by rw [List.length_take]; omega
      have hstep := fun y => idxI_next (l.take k) x y
      rw [← takeI_next hx, hln] at hstep
      cases hf : idxI (l.take k) x.at_ with
      | some n =>
        have hv : idxV (l.take k) x.at_ = some (.int .i64 n) := by unfold idxV; rw [hf]; rfl
        rw [hv] at hrun
        simp only [Option.getD_some, Option.isSome_some] at hrun
        have hsame : ∀ y, idxV (l.take k) y = idxV (l.take (k + 1)) y := fun y => by
          unfold idxV
          rw [hstep y]
          by_cases e : x.at_ = y
          · subst e; rw [hf]; rfl
          · cases idxI (l.take k) y <;> simp [e]
        replace hsame := Lib.hid hsame
        clear hstep hv hf hx
        go_wp2_with fail
        exact ⟨⟨k + 1, by omega, by go_num, (hM1.more (Nat.le_succ _)).congr hsame.out, hB1⟩, by simp [intOf]; omega⟩
      | none =>
        have hv : idxV (l.take k) x.at_ = none := by unfold idxV; rw [hf]; rfl
        rw [hv] at hrun
        simp only [Option.getD_none, Option.isSome_none] at hrun
        have hsame : ∀ y, (if y = x.at_ then some (Value.int .i64 k) else idxV (l.take k) y) = idxV (l.take (k + 1)) y := fun y => by
          unfold idxV
          rw [hstep y]
          by_cases e : y = x.at_
          · subst e; rw [hf]; simp
          · have e' : ¬ x.at_ = y := fun h => e h.symm
            rw [if_neg e]
            cases idxI (l.take k) y <;> simp [e']
        replace hsame := Lib.hid hsame
        replace hfit := Lib.hid hfit
        replace hM1 := Lib.hid hM1
        clear hstep hv hf hx
        go_wp2_with (first
          | (at_mapUpdate
             refine wpList_setI _ rfl (.tmp 25) (.tmp 27) (.tmp 28) 95 3 rfl Try.underlying95 w.heap.size k (idxV (l.take k)) rfl hM1.out (by unfold maxLen; omega) x.at_ hfit.out (.int .i64 k) rfl rfl ?_
             intro w3 hM3 hg3))
        exact ⟨⟨k + 1, by omega, by go_num, hM3.congr hsame.out, hB1.grown hg3 hB1.size (fun j e => by injection e with e; omega)⟩, by simp [intOf]; omega⟩
    · obtain rfl : k = l.length := by omega
      rw [List.take_length] at hM
      go_wp2_with fail
      go_ret
      exact ⟨rfl, hM, hB⟩

set_option maxRecDepth 100000 in
set_option maxHeartbeats 4000000 in
theorem at07_any (A : Option Addr) (c : Nat) (l : List Ins) (x : Int) (w : World) (hr : ReadsI w w.heap.size A l) (hi : AtsIn l) (hl : l.length ≤ 4398046511104) (hx : fit64 x) :
    Calls Try.prog 31 #[.slice A l.length c, .int .i64 x] w fun e w' => e = .returned (.int .i64 (atN l x)) ∧ Below w.heap.size w w' := by
  have hp := Lib.hid (places_any A c l w hr hi hl)
  cases hf : idxI l x with
  | some n =>
    have ha : atN l x = n := by unfold atN; rw [hf]
    have hv : idxV l x = some (.int .i64 n) := by unfold idxV; rw [hf]; rfl
    rw [ha]
    replace hv := Lib.hid hv
    clear ha hf
    go_enter Try.func31, Try.ntmps31
    go_wp2_with fail
    refine hp.out.mono ?_
    rintro _ w1 ⟨rfl, hM, hb1⟩
    have hrun := hM.look_ok (T := 95) (E := 3) Try.underlying95 (zeroI_run _) hx
    rw [hv.out] at hrun
    simp only [Option.getD_some, Option.isSome_some] at hrun
    go_wp2_with fail
    go_ret
    exact ⟨rfl, hb1⟩
  | none =>
    have ha : atN l x = -1 := by unfold atN; rw [hf]
    have hv : idxV l x = none := by unfold idxV; rw [hf]; rfl
    rw [ha]
    replace hv := Lib.hid hv
    clear ha hf
    go_enter Try.func31, Try.ntmps31
    go_wp2_with fail
    refine hp.out.mono ?_
    rintro _ w1 ⟨rfl, hM, hb1⟩
    have hrun := hM.look_ok (T := 95) (E := 3) Try.underlying95 (zeroI_run _) hx
    rw [hv.out] at hrun
    simp only [Option.getD_none, Option.isSome_none] at hrun
    go_wp2_with fail
    go_ret
    exact ⟨rfl, hb1⟩
end Go.Proofs.Ytcinmgifadmbeaa
