/- What a heap that nobody made answers. -/
import Derived.Test.YtpfgdgelnehjpaaRows
import Derived.Test.YtpfgdgelnehjpaaMem
import Derived.Lib.Hide
import Derived.WalkKit
import Derived.Outline
import Derived.WalkSpells
import Derived.WalkLawsBesides
namespace Go.Proofs.Ytpfgdgelnehjpaa
open Go.RowKit
set_option linter.unusedVariables false
theorem old1 {w : World} {o : Obj} {p : Addr} {u : Value} (h : w.cell? p = some u) : (w.alloc o).cell? p = some u := (World.cell?_alloc_lt w o p (block_of_cell h)).trans h
theorem old2 {w w' : World} {p : Addr} {u : Value} (h : w.cell? p = some u) (hb : Below w.heap.size w w') : w'.cell? p = some u := (hb.cell (block_of_cell h)).trans h
theorem bn {a b c : World} (h : Below a.heap.size a b) (k : Below b.heap.size b c) : Below a.heap.size a c := h.trans (k.mono h.size)
theorem ba {a b : World} (h : Below a.heap.size a b) (o : Obj) : Below a.heap.size a (b.alloc o) := h.alloc h.size o
theorem b0 (a : World) (o : Obj) : Below a.heap.size a (a.alloc o) := (Below.refl _ _).alloc (Nat.le_refl _) o

set_option maxRecDepth 100000 in
set_option maxHeartbeats 1000000 in
theorem none_nil  (w : World)  :
    Calls Try.prog 38 #[.pointer none] w fun e w' => e = .returned (.bool true) ∧ w = w' := by
  go_enter Try.func38, Try.ntmps38
  go_wp2_with fail
  exact bodyPost_ret (v := .bool true) (by simp [results, Try.results38, go_sem] <;> rfl) rfl ⟨rfl, rfl⟩

set_option maxRecDepth 100000 in
set_option maxHeartbeats 1000000 in
theorem none_zero (g : Nat) (w : World) (h : w.cell? ⟨g, 3, none⟩ = some (.bool false)) :
    Calls Try.prog 38 #[.pointer (some ⟨g, 0, none⟩)] w fun e w' => e = .returned (.bool true) ∧ w = w' := by
  go_enter Try.func38, Try.ntmps38
  go_wp2_with fail
  exact bodyPost_ret (v := .bool true) (by simp [results, Try.results38, go_sem] <;> rfl) rfl ⟨rfl, rfl⟩

set_option maxRecDepth 100000 in
set_option maxHeartbeats 1000000 in
theorem data_nil (r : Int) (w : World)  :
    Calls Try.prog 47 #[.pointer none, .int .i64 r] w fun e w' => e = .returned (.tuple #[.slice none 0 0, .int .i64 7]) ∧ w = w' := by
  go_enter Try.func47, Try.ntmps47
  go_wp2_with fail
  refine (none_nil _).mono ?_
  rintro _ w1 ⟨rfl, rfl⟩
  go_wp2_with fail
  exact bodyPost_ret (v := .tuple #[.slice none 0 0, .int .i64 7]) (by simp [results, Try.results47, go_sem] <;> rfl) rfl ⟨rfl, rfl⟩

set_option maxRecDepth 100000 in
set_option maxHeartbeats 1000000 in
theorem data_zero (g : Nat) (r : Int) (w : World) (h : w.cell? ⟨g, 3, none⟩ = some (.bool false)) :
    Calls Try.prog 47 #[.pointer (some ⟨g, 0, none⟩), .int .i64 r] w fun e w' => e = .returned (.tuple #[.slice none 0 0, .int .i64 7]) ∧ w = w' := by
  go_enter Try.func47, Try.ntmps47
  go_wp2_with fail
  refine (none_zero g _ (by first | exact h | exact old1 h | exact old1 (old1 h) | exact old1 (old1 (old1 h)) | exact old2 h (by assumption) | exact old2 (old1 h) (by assumption) | exact old1 (old2 h (by assumption)) | exact old1 (old2 (old1 h) (by assumption)))).mono ?_
  rintro _ w1 ⟨rfl, rfl⟩
  go_wp2_with fail
  exact bodyPost_ret (v := .tuple #[.slice none 0 0, .int .i64 7]) (by simp [results, Try.results47, go_sem] <;> rfl) rfl ⟨rfl, rfl⟩

set_option maxRecDepth 100000 in
set_option maxHeartbeats 1000000 in
theorem make_nil  (w : World)  :
    Calls Try.prog 13 #[.pointer none, .agg #[.int .i64 0, .string .empty, .int .i64 0, .int .i64 0, .int .i64 0], .slice none 0 0] w fun e w' => e = .returned (.tuple #[.int .i64 0, .int .i64 7]) ∧ Below w.heap.size w w' := by
  go_enter Try.func13, Try.ntmps13
  go_wp2_with fail
  refine (none_nil _).mono ?_
  rintro _ w1 ⟨rfl, rfl⟩
  go_wp2_with fail
  exact bodyPost_ret (v := .tuple #[.int .i64 0, .int .i64 7]) (by simp [results, Try.results13, go_sem] <;> rfl) rfl ⟨rfl, by first | exact Below.refl _ _ | exact b0 _ _ | exact ba (b0 _ _) _ | exact ba (ba (b0 _ _) _) _⟩

set_option maxRecDepth 100000 in
set_option maxHeartbeats 1000000 in
theorem array_zero (g : Nat) (w : World) (h : w.cell? ⟨g, 3, none⟩ = some (.bool false)) :
    Calls Try.prog 14 #[.pointer (some ⟨g, 0, none⟩), .agg #[.int .i64 0, .string .empty, .int .i64 0, .int .i64 0, .int .i64 0], .agg #[.int .i64 0, .string .empty, .int .i64 0, .int .i64 0, .int .i64 0], .int .i64 1] w fun e w' => e = .returned (.tuple #[.int .i64 0, .int .i64 7]) ∧ Below w.heap.size w w' := by
  go_enter Try.func14, Try.ntmps14
  go_wp2_with fail
  refine (none_zero g _ (by first | exact h | exact old1 h | exact old1 (old1 h) | exact old1 (old1 (old1 h)) | exact old2 h (by assumption) | exact old2 (old1 h) (by assumption) | exact old1 (old2 h (by assumption)) | exact old1 (old2 (old1 h) (by assumption)))).mono ?_
  rintro _ w1 ⟨rfl, rfl⟩
  go_wp2_with fail
  exact bodyPost_ret (v := .tuple #[.int .i64 0, .int .i64 7]) (by simp [results, Try.results14, go_sem] <;> rfl) rfl ⟨rfl, by first | exact Below.refl _ _ | exact b0 _ _ | exact ba (b0 _ _) _ | exact ba (ba (b0 _ _) _) _⟩

set_option maxRecDepth 100000 in
set_option maxHeartbeats 1000000 in
theorem get_nil (r i : Int) (w : World)  :
    Calls Try.prog 25 #[.pointer none, .int .i64 r, .int .i64 i] w fun e w' => e = .returned (.tuple #[.agg #[.int .i64 0, .int .i64 0, .int .i64 0], .int .i64 7]) ∧ Below w.heap.size w w' := by
  go_enter Try.func25, Try.ntmps25
  go_wp2_with fail
  refine (data_nil r _).mono ?_
  rintro _ w1 ⟨rfl, rfl⟩
  go_wp2_with fail
  exact bodyPost_ret (v := .tuple #[.agg #[.int .i64 0, .int .i64 0, .int .i64 0], .int .i64 7]) (by simp [results, Try.results25, go_sem] <;> rfl) rfl ⟨rfl, by first | exact Below.refl _ _ | exact b0 _ _ | exact ba (b0 _ _) _ | exact hb1⟩

set_option maxRecDepth 100000 in
set_option maxHeartbeats 1000000 in
theorem get_zero (g : Nat) (r i : Int) (w : World) (h : w.cell? ⟨g, 3, none⟩ = some (.bool false)) :
    Calls Try.prog 25 #[.pointer (some ⟨g, 0, none⟩), .int .i64 r, .int .i64 i] w fun e w' => e = .returned (.tuple #[.agg #[.int .i64 0, .int .i64 0, .int .i64 0], .int .i64 7]) ∧ Below w.heap.size w w' := by
  go_enter Try.func25, Try.ntmps25
  go_wp2_with fail
  refine (data_zero g r _ (by first | exact h | exact old1 h | exact old1 (old1 h) | exact old1 (old1 (old1 h)) | exact old2 h (by assumption) | exact old2 (old1 h) (by assumption) | exact old1 (old2 h (by assumption)) | exact old1 (old2 (old1 h) (by assumption)))).mono ?_
  rintro _ w1 ⟨rfl, rfl⟩
  go_wp2_with fail
  exact bodyPost_ret (v := .tuple #[.agg #[.int .i64 0, .int .i64 0, .int .i64 0], .int .i64 7]) (by simp [results, Try.results25, go_sem] <;> rfl) rfl ⟨rfl, by first | exact Below.refl _ _ | exact b0 _ _ | exact ba (b0 _ _) _ | exact hb1⟩

set_option maxRecDepth 100000 in
set_option maxHeartbeats 1000000 in
theorem type_zero (g : Nat) (r : Int) (w : World) (h : w.cell? ⟨g, 3, none⟩ = some (.bool false)) :
    Calls Try.prog 34 #[.pointer (some ⟨g, 0, none⟩), .int .i64 r] w fun e w' => e = .returned (.tuple #[.agg #[.int .i64 0, .string .empty, .int .i64 0, .int .i64 0, .int .i64 0], .int .i64 7]) ∧ Below w.heap.size w w' := by
  go_enter Try.func34, Try.ntmps34
  go_wp2_with fail
  refine (data_zero g r _ (by first | exact h | exact old1 h | exact old1 (old1 h) | exact old1 (old1 (old1 h)) | exact old2 h (by assumption) | exact old2 (old1 h) (by assumption) | exact old1 (old2 h (by assumption)) | exact old1 (old2 (old1 h) (by assumption)))).mono ?_
  rintro _ w1 ⟨rfl, rfl⟩
  go_wp2_with fail
  exact bodyPost_ret (v := .tuple #[.agg #[.int .i64 0, .string .empty, .int .i64 0, .int .i64 0, .int .i64 0], .int .i64 7]) (by simp [results, Try.results34, go_sem] <;> rfl) rfl ⟨rfl, by first | exact Below.refl _ _ | exact b0 _ _ | exact ba (b0 _ _) _ | exact hb1⟩

set_option maxRecDepth 100000 in
set_option maxHeartbeats 1000000 in
theorem set_zero (g : Nat) (r i x y z : Int) (w : World) (h : w.cell? ⟨g, 3, none⟩ = some (.bool false)) :
    Calls Try.prog 26 #[.pointer (some ⟨g, 0, none⟩), .int .i64 r, .int .i64 i, .agg #[.int .i64 x, .int .i64 y, .int .i64 z]] w fun e w' => e = .returned (.int .i64 7) ∧ Below w.heap.size w w' := by
  go_enter Try.func26, Try.ntmps26
  go_wp2_with fail
  refine (get_zero g r i _ (by first | exact h | exact old1 h | exact old1 (old1 h) | exact old1 (old1 (old1 h)) | exact old2 h (by assumption) | exact old2 (old1 h) (by assumption) | exact old1 (old2 h (by assumption)) | exact old1 (old2 (old1 h) (by assumption)))).mono ?_
  rintro _ w1 ⟨rfl, hb1⟩
  go_wp2_with fail
  exact bodyPost_ret (v := .int .i64 7) (by simp [results, Try.results26, go_sem] <;> rfl) rfl ⟨rfl, by first | exact hb1 | exact bn (b0 _ _) hb1 | exact ba hb1 _ | exact ba (bn (b0 _ _) hb1) _⟩

set_option maxRecDepth 100000 in
set_option maxHeartbeats 1000000 in
theorem len_nil (r : Int) (w : World)  :
    Calls Try.prog 35 #[.pointer none, .int .i64 r] w fun e w' => e = .returned (.int .i64 0) ∧ Below w.heap.size w w' := by
  go_enter Try.func35, Try.ntmps35
  go_wp2_with fail
  refine (data_nil r _).mono ?_
  rintro _ w1 ⟨rfl, rfl⟩
  go_wp2_with fail
  exact bodyPost_ret (v := .int .i64 0) (by simp [results, Try.results35, go_sem] <;> rfl) rfl ⟨rfl, Below.refl _ _⟩

set_option maxRecDepth 100000 in
set_option maxHeartbeats 1000000 in
theorem count_zero (g : Nat) (w : World) (h : w.cell? ⟨g, 3, none⟩ = some (.bool false)) :
    Calls Try.prog 15 #[.pointer (some ⟨g, 0, none⟩)] w fun e w' => e = .returned (.int .i64 0) ∧ Below w.heap.size w w' := by
  go_enter Try.func15, Try.ntmps15
  go_wp2_with fail
  refine (none_zero g _ (by first | exact h | exact old1 h | exact old1 (old1 h) | exact old1 (old1 (old1 h)) | exact old2 h (by assumption) | exact old2 (old1 h) (by assumption) | exact old1 (old2 h (by assumption)) | exact old1 (old2 (old1 h) (by assumption)))).mono ?_
  rintro _ w1 ⟨rfl, rfl⟩
  go_wp2_with fail
  exact bodyPost_ret (v := .int .i64 0) (by simp [results, Try.results15, go_sem] <;> rfl) rfl ⟨rfl, Below.refl _ _⟩

set_option maxRecDepth 100000 in
set_option maxHeartbeats 1000000 in
theorem copy_nil  (w : World)  :
    Calls Try.prog 36 #[.pointer none] w fun e w' => e = .returned (.pointer none) ∧ Below w.heap.size w w' := by
  go_enter Try.func36, Try.ntmps36
  go_wp2_with fail
  refine (none_nil _).mono ?_
  rintro _ w1 ⟨rfl, rfl⟩
  go_wp2_with fail
  exact bodyPost_ret (v := .pointer none) (by simp [results, Try.results36, go_sem] <;> rfl) rfl ⟨rfl, by first | exact Below.refl _ _ | exact b0 _ _⟩

set_option maxRecDepth 100000 in
set_option maxHeartbeats 1000000 in
theorem all_zero (g : Nat) (w : World) (h : w.cell? ⟨g, 3, none⟩ = some (.bool false)) :
    Calls Try.prog 24 #[.pointer (some ⟨g, 0, none⟩)] w fun e w' => e = .returned (.slice none 0 0) ∧ Below w.heap.size w w' := by
  go_enter Try.func24, Try.ntmps24
  go_wp2_with fail
  refine (count_zero g _ h).mono ?_
  rintro _ w1 ⟨rfl, hb1⟩
  go_wp2_with fail
  refine wp_loop_once ?_
  go_wp2_with fail
  go_ret
  exact ⟨rfl, hb1⟩
end Go.Proofs.Ytpfgdgelnehjpaa
