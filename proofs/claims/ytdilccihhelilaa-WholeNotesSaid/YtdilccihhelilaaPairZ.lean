/- What an end that nobody made answers. -/
import Derived.Test.YtdilccihhelilaaRows
import Derived.Test.YtdilccihhelilaaMem
import Derived.Lib.Hide
import Derived.WalkKit
import Derived.Outline
import Derived.WalkSpells
import Derived.WalkLawsBesides
namespace Go.Proofs.Ytdilccihhelilaa
open Go.RowKit
set_option linter.unusedVariables false
theorem old1 {w : World} {o : Obj} {p : Addr} {u : Value} (h : w.cell? p = some u) : (w.alloc o).cell? p = some u := (World.cell?_alloc_lt w o p (block_of_cell h)).trans h
theorem old2 {w w' : World} {p : Addr} {u : Value} (h : w.cell? p = some u) (hb : Below w.heap.size w w') : w'.cell? p = some u := (hb.cell (block_of_cell h)).trans h
theorem bn {a b c : World} (h : Below a.heap.size a b) (k : Below b.heap.size b c) : Below a.heap.size a c := h.trans (k.mono h.size)
theorem ba {a b : World} (h : Below a.heap.size a b) (o : Obj) : Below a.heap.size a (b.alloc o) := h.alloc h.size o
theorem b0 (a : World) (o : Obj) : Below a.heap.size a (a.alloc o) := (Below.refl _ _).alloc (Nat.le_refl _) o

set_option maxRecDepth 100000 in
set_option maxHeartbeats 1000000 in
theorem none_nil  (w : World)  :
    Calls Try.prog 24 #[.pointer none] w fun e w' => e = .returned (.bool true) ∧ w = w' := by
  go_enter Try.func24, Try.ntmps24
  go_wp2_with fail
  exact bodyPost_ret (v := .bool true) (by simp [results, Try.results24, go_sem] <;> rfl) rfl ⟨rfl, rfl⟩

set_option maxRecDepth 100000 in
set_option maxHeartbeats 1000000 in
theorem none_zero (g : Nat) (w : World) (h : w.cell? ⟨g, 0, none⟩ = some (.bool false)) :
    Calls Try.prog 24 #[.pointer (some ⟨g, 0, none⟩)] w fun e w' => e = .returned (.bool true) ∧ w = w' := by
  go_enter Try.func24, Try.ntmps24
  go_wp2_with fail
  exact bodyPost_ret (v := .bool true) (by simp [results, Try.results24, go_sem] <;> rfl) rfl ⟨rfl, rfl⟩

set_option maxRecDepth 100000 in
set_option maxHeartbeats 1000000 in
theorem send_nil (v : Value) (w : World)  :
    Calls Try.prog 10 #[.pointer none, v] w fun e w' => e = .returned (.tuple #[.slice none 0 0, .int .i64 7]) ∧ Below w.heap.size w w' := by
  go_enter Try.func10, Try.ntmps10
  go_wp2_with fail
  refine (none_nil _).mono ?_
  rintro _ w1 ⟨rfl, rfl⟩
  go_wp2_with fail
  exact bodyPost_ret (v := .tuple #[.slice none 0 0, .int .i64 7]) (by simp [results, Try.results10, go_sem] <;> rfl) rfl ⟨rfl, Below.refl _ _⟩

set_option maxRecDepth 100000 in
set_option maxHeartbeats 1000000 in
theorem take_zero (g : Nat) (v : Value) (w : World) (h : w.cell? ⟨g, 0, none⟩ = some (.bool false)) :
    Calls Try.prog 11 #[.pointer (some ⟨g, 0, none⟩), v] w fun e w' => e = .returned (.tuple #[.slice none 0 0, .slice none 0 0, .int .i64 7]) ∧ Below w.heap.size w w' := by
  go_enter Try.func11, Try.ntmps11
  go_wp2_with fail
  refine (none_zero g _ (by first | exact h | exact old1 h | exact old1 (old1 h) | exact old1 (old1 (old1 h)) | exact old2 h (by assumption) | exact old2 (old1 h) (by assumption) | exact old1 (old2 h (by assumption)) | exact old1 (old2 (old1 h) (by assumption)))).mono ?_
  rintro _ w1 ⟨rfl, rfl⟩
  go_wp2_with fail
  exact bodyPost_ret (v := .tuple #[.slice none 0 0, .slice none 0 0, .int .i64 7]) (by simp [results, Try.results11, go_sem] <;> rfl) rfl ⟨rfl, Below.refl _ _⟩

set_option maxRecDepth 100000 in
set_option maxHeartbeats 1000000 in
theorem tick_nil  (w : World)  :
    Calls Try.prog 15 #[.pointer none] w fun e w' => e = .returned (.slice none 0 0) ∧ Below w.heap.size w w' := by
  go_enter Try.func15, Try.ntmps15
  go_wp2_with fail
  refine (none_nil _).mono ?_
  rintro _ w1 ⟨rfl, rfl⟩
  go_wp2_with fail
  exact bodyPost_ret (v := .slice none 0 0) (by simp [results, Try.results15, go_sem] <;> rfl) rfl ⟨rfl, Below.refl _ _⟩

set_option maxRecDepth 100000 in
set_option maxHeartbeats 1000000 in
theorem kept_zero (g : Nat) (w : World) (h : w.cell? ⟨g, 0, none⟩ = some (.bool false)) :
    Calls Try.prog 14 #[.pointer (some ⟨g, 0, none⟩)] w fun e w' => e = .returned (.int .i64 0) ∧ Below w.heap.size w w' := by
  go_enter Try.func14, Try.ntmps14
  go_wp2_with fail
  refine (none_zero g _ (by first | exact h | exact old1 h | exact old1 (old1 h) | exact old1 (old1 (old1 h)) | exact old2 h (by assumption) | exact old2 (old1 h) (by assumption) | exact old1 (old2 h (by assumption)) | exact old1 (old2 (old1 h) (by assumption)))).mono ?_
  rintro _ w1 ⟨rfl, rfl⟩
  go_wp2_with fail
  exact bodyPost_ret (v := .int .i64 0) (by simp [results, Try.results14, go_sem] <;> rfl) rfl ⟨rfl, Below.refl _ _⟩

set_option maxRecDepth 100000 in
set_option maxHeartbeats 1000000 in
theorem got_nil  (w : World)  :
    Calls Try.prog 13 #[.pointer none] w fun e w' => e = .returned (.int .i64 0) ∧ Below w.heap.size w w' := by
  go_enter Try.func13, Try.ntmps13
  go_wp2_with fail
  refine (none_nil _).mono ?_
  rintro _ w1 ⟨rfl, rfl⟩
  go_wp2_with fail
  exact bodyPost_ret (v := .int .i64 0) (by simp [results, Try.results13, go_sem] <;> rfl) rfl ⟨rfl, Below.refl _ _⟩
end Go.Proofs.Ytdilccihhelilaa
