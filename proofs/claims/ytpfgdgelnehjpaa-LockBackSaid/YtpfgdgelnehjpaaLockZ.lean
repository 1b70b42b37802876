/- What monitors that nobody made answer. -/
import Derived.Test.YtpfgdgelnehjpaaRows
import Derived.Test.YtpfgdgelnehjpaaMem
import Derived.Lib.Hide
import Derived.WalkKit
import Derived.Outline
import Derived.WalkSpells
import Derived.WalkLawsBesides
namespace Go.Proofs.Ytpfgdgelnehjpaa
open Go.RowKit
set_option linter.unusedVariables false
theorem old1 {w : World} {o : Obj} {p : Addr} {u : Value} (h : w.cell? p = some u) : (w.alloc o).cell? p = some u := (World.cell?_alloc_lt w o p (block_of_cell h)).trans h
theorem old2 {w w' : World} {p : Addr} {u : Value} (h : w.cell? p = some u) (hb : Below w.heap.size w w') : w'.cell? p = some u := (hb.cell (block_of_cell h)).trans h
theorem bn {a b c : World} (h : Below a.heap.size a b) (k : Below b.heap.size b c) : Below a.heap.size a c := h.trans (k.mono h.size)
theorem ba {a b : World} (h : Below a.heap.size a b) (o : Obj) : Below a.heap.size a (b.alloc o) := h.alloc h.size o
theorem b0 (a : World) (o : Obj) : Below a.heap.size a (a.alloc o) := (Below.refl _ _).alloc (Nat.le_refl _) o

set_option maxRecDepth 100000 in
set_option maxHeartbeats 1000000 in
theorem none_nil  (w : World)  :
    Calls Try.prog 43 #[.pointer none] w fun e w' => e = .returned (.bool true) ∧ w = w' := by
  have km : ∀ w, (binOp .eql 87 (.map none) (.map none)).run Try.prog w = .ok (.bool true) w := fun w => by kernel_rfl
  go_enter Try.func43, Try.ntmps43
  go_wp2_with fail
  exact bodyPost_ret (v := .bool true) (by simp [results, Try.results43, go_sem] <;> rfl) rfl ⟨rfl, rfl⟩

set_option maxRecDepth 100000 in
set_option maxHeartbeats 1000000 in
theorem none_zero (g : Nat) (w : World) (h : w.cell? ⟨g, 0, none⟩ = some (.map none)) :
    Calls Try.prog 43 #[.pointer (some ⟨g, 0, none⟩)] w fun e w' => e = .returned (.bool true) ∧ w = w' := by
  have km : ∀ w, (binOp .eql 87 (.map none) (.map none)).run Try.prog w = .ok (.bool true) w := fun w => by kernel_rfl
  go_enter Try.func43, Try.ntmps43
  go_wp2_with fail
  exact bodyPost_ret (v := .bool true) (by simp [results, Try.results43, go_sem] <;> rfl) rfl ⟨rfl, rfl⟩

set_option maxRecDepth 100000 in
set_option maxHeartbeats 1000000 in
theorem owned_nil (r t : Int) (w : World)  :
    Calls Try.prog 44 #[.pointer none, .int .i64 r, .int .i64 t] w fun e w' => e = .returned (.tuple #[.agg #[.int .i64 0, .int .i64 0, .slice none 0 0], .int .i64 7]) ∧ Below w.heap.size w w' := by
  have km : ∀ w, (binOp .eql 87 (.map none) (.map none)).run Try.prog w = .ok (.bool true) w := fun w => by kernel_rfl
  go_enter Try.func44, Try.ntmps44
  go_wp2_with fail
  refine (none_nil _).mono ?_
  rintro _ w1 ⟨rfl, rfl⟩
  go_wp2_with fail
  exact bodyPost_ret (v := .tuple #[.agg #[.int .i64 0, .int .i64 0, .slice none 0 0], .int .i64 7]) (by simp [results, Try.results44, go_sem] <;> rfl) rfl ⟨rfl, b0 _ _⟩

set_option maxRecDepth 100000 in
set_option maxHeartbeats 1000000 in
theorem owned_zero (g : Nat) (r t : Int) (w : World) (h : w.cell? ⟨g, 0, none⟩ = some (.map none)) :
    Calls Try.prog 44 #[.pointer (some ⟨g, 0, none⟩), .int .i64 r, .int .i64 t] w fun e w' => e = .returned (.tuple #[.agg #[.int .i64 0, .int .i64 0, .slice none 0 0], .int .i64 7]) ∧ Below w.heap.size w w' := by
  have km : ∀ w, (binOp .eql 87 (.map none) (.map none)).run Try.prog w = .ok (.bool true) w := fun w => by kernel_rfl
  go_enter Try.func44, Try.ntmps44
  go_wp2_with fail
  refine (none_zero g _ (by first | exact h | exact old1 h | exact old1 (old1 h) | exact old1 (old1 (old1 h)) | exact old2 h (by assumption) | exact old2 (old1 h) (by assumption) | exact old1 (old2 h (by assumption)) | exact old1 (old2 (old1 h) (by assumption)))).mono ?_
  rintro _ w1 ⟨rfl, rfl⟩
  go_wp2_with fail
  exact bodyPost_ret (v := .tuple #[.agg #[.int .i64 0, .int .i64 0, .slice none 0 0], .int .i64 7]) (by simp [results, Try.results44, go_sem] <;> rfl) rfl ⟨rfl, b0 _ _⟩

set_option maxRecDepth 100000 in
set_option maxHeartbeats 1000000 in
theorem enter_nil (r t : Int) (w : World)  :
    Calls Try.prog 18 #[.pointer none, .int .i64 r, .int .i64 t] w fun e w' => e = .returned (.tuple #[.bool false, .int .i64 7]) ∧ Below w.heap.size w w' := by
  have km : ∀ w, (binOp .eql 87 (.map none) (.map none)).run Try.prog w = .ok (.bool true) w := fun w => by kernel_rfl
  go_enter Try.func18, Try.ntmps18
  go_wp2_with fail
  refine (none_nil _).mono ?_
  rintro _ w1 ⟨rfl, rfl⟩
  go_wp2_with fail
  exact bodyPost_ret (v := .tuple #[.bool false, .int .i64 7]) (by simp [results, Try.results18, go_sem] <;> rfl) rfl ⟨rfl, Below.refl _ _⟩

set_option maxRecDepth 100000 in
set_option maxHeartbeats 1000000 in
theorem tell_zero (g : Nat) (r t : Int) (w : World) (h : w.cell? ⟨g, 0, none⟩ = some (.map none)) :
    Calls Try.prog 22 #[.pointer (some ⟨g, 0, none⟩), .int .i64 r, .int .i64 t, .bool true] w fun e w' => e = .returned (.tuple #[.slice none 0 0, .int .i64 7]) ∧ Below w.heap.size w w' := by
  have km : ∀ w, (binOp .eql 87 (.map none) (.map none)).run Try.prog w = .ok (.bool true) w := fun w => by kernel_rfl
  go_enter Try.func22, Try.ntmps22
  go_wp2_with fail
  refine (owned_zero g r t _ (by first | exact h | exact old1 h | exact old1 (old1 h) | exact old1 (old1 (old1 h)) | exact old2 h (by assumption) | exact old2 (old1 h) (by assumption) | exact old1 (old2 h (by assumption)) | exact old1 (old2 (old1 h) (by assumption)))).mono ?_
  rintro _ w1 ⟨rfl, hb1⟩
  go_wp2_with fail
  exact bodyPost_ret (v := .tuple #[.slice none 0 0, .int .i64 7]) (by simp [results, Try.results22, go_sem] <;> rfl) rfl ⟨rfl, ba (bn (b0 _ _) hb1) _⟩

set_option maxRecDepth 100000 in
set_option maxHeartbeats 1000000 in
theorem back_nil (r t : Int) (w : World)  :
    Calls Try.prog 31 #[.pointer none, .int .i64 r, .int .i64 t] w fun e w' => e = .returned (.tuple #[.bool false, .int .i64 7]) ∧ Below w.heap.size w w' := by
  have km : ∀ w, (binOp .eql 87 (.map none) (.map none)).run Try.prog w = .ok (.bool true) w := fun w => by kernel_rfl
  go_enter Try.func31, Try.ntmps31
  go_wp2_with fail
  refine (none_nil _).mono ?_
  rintro _ w1 ⟨rfl, rfl⟩
  go_wp2_with fail
  exact bodyPost_ret (v := .tuple #[.bool false, .int .i64 7]) (by simp [results, Try.results31, go_sem] <;> rfl) rfl ⟨rfl, Below.refl _ _⟩

set_option maxRecDepth 100000 in
set_option maxHeartbeats 1000000 in
theorem owner_zero (g : Nat) (r : Int) (w : World) (h : w.cell? ⟨g, 0, none⟩ = some (.map none)) :
    Calls Try.prog 32 #[.pointer (some ⟨g, 0, none⟩), .int .i64 r] w fun e w' => e = .returned (.tuple #[.int .i64 (-1), .int .i64 0]) ∧ Below w.heap.size w w' := by
  have km : ∀ w, (binOp .eql 87 (.map none) (.map none)).run Try.prog w = .ok (.bool true) w := fun w => by kernel_rfl
  go_enter Try.func32, Try.ntmps32
  go_wp2_with fail
  refine (none_zero g _ (by first | exact h | exact old1 h | exact old1 (old1 h) | exact old1 (old1 (old1 h)) | exact old2 h (by assumption) | exact old2 (old1 h) (by assumption) | exact old1 (old2 h (by assumption)) | exact old1 (old2 (old1 h) (by assumption)))).mono ?_
  rintro _ w1 ⟨rfl, rfl⟩
  go_wp2_with fail
  exact bodyPost_ret (v := .tuple #[.int .i64 (-1), .int .i64 0]) (by simp [results, Try.results32, go_sem] <;> rfl) rfl ⟨rfl, Below.refl _ _⟩

set_option maxRecDepth 100000 in
set_option maxHeartbeats 1000000 in
theorem exit_nil (r t : Int) (w : World)  :
    Calls Try.prog 30 #[.pointer none, .int .i64 r, .int .i64 t] w fun e w' => e = .returned (.int .i64 7) ∧ Below w.heap.size w w' := by
  have km : ∀ w, (binOp .eql 87 (.map none) (.map none)).run Try.prog w = .ok (.bool true) w := fun w => by kernel_rfl
  go_enter Try.func30, Try.ntmps30
  go_wp2_with fail
  refine (owned_nil r t _).mono ?_
  rintro _ w1 ⟨rfl, hb1⟩
  go_wp2_with fail
  exact bodyPost_ret (v := .int .i64 7) (by simp [results, Try.results30, go_sem] <;> rfl) rfl ⟨rfl, ba hb1 _⟩

set_option maxRecDepth 100000 in
set_option maxHeartbeats 1000000 in
theorem wait_zero (g : Nat) (r t : Int) (w : World) (h : w.cell? ⟨g, 0, none⟩ = some (.map none)) :
    Calls Try.prog 19 #[.pointer (some ⟨g, 0, none⟩), .int .i64 r, .int .i64 t] w fun e w' => e = .returned (.int .i64 7) ∧ Below w.heap.size w w' := by
  have km : ∀ w, (binOp .eql 87 (.map none) (.map none)).run Try.prog w = .ok (.bool true) w := fun w => by kernel_rfl
  go_enter Try.func19, Try.ntmps19
  go_wp2_with fail
  refine (owned_zero g r t _ (by first | exact h | exact old1 h | exact old1 (old1 h) | exact old1 (old1 (old1 h)) | exact old2 h (by assumption) | exact old2 (old1 h) (by assumption) | exact old1 (old2 h (by assumption)) | exact old1 (old2 (old1 h) (by assumption)))).mono ?_
  rintro _ w1 ⟨rfl, hb1⟩
  go_wp2_with fail
  exact bodyPost_ret (v := .int .i64 7) (by simp [results, Try.results19, go_sem] <;> rfl) rfl ⟨rfl, ba hb1 _⟩

set_option maxRecDepth 100000 in
set_option maxHeartbeats 1000000 in
theorem waits_nil (r : Int) (w : World)  :
    Calls Try.prog 21 #[.pointer none, .int .i64 r] w fun e w' => e = .returned (.slice none 0 0) ∧ Below w.heap.size w w' := by
  have km : ∀ w, (binOp .eql 87 (.map none) (.map none)).run Try.prog w = .ok (.bool true) w := fun w => by kernel_rfl
  go_enter Try.func21, Try.ntmps21
  go_wp2_with fail
  refine (none_nil _).mono ?_
  rintro _ w1 ⟨rfl, rfl⟩
  go_wp2_with fail
  exact bodyPost_ret (v := .slice none 0 0) (by simp [results, Try.results21, go_sem] <;> rfl) rfl ⟨rfl, b0 _ _⟩

set_option maxRecDepth 100000 in
set_option maxHeartbeats 1000000 in
theorem free_zero (g : Nat) (r t : Int) (w : World) (h : w.cell? ⟨g, 0, none⟩ = some (.map none)) :
    Calls Try.prog 33 #[.pointer (some ⟨g, 0, none⟩), .int .i64 r, .int .i64 t] w fun e w' => e = .returned (.bool false) ∧ Below w.heap.size w w' := by
  have km : ∀ w, (binOp .eql 87 (.map none) (.map none)).run Try.prog w = .ok (.bool true) w := fun w => by kernel_rfl
  go_enter Try.func33, Try.ntmps33
  go_wp2_with fail
  refine (owner_zero g r _ (by first | exact h | exact old1 h | exact old1 (old1 h) | exact old1 (old1 (old1 h)) | exact old2 h (by assumption) | exact old2 (old1 h) (by assumption) | exact old1 (old2 h (by assumption)) | exact old1 (old2 (old1 h) (by assumption)))).mono ?_
  rintro _ w1 ⟨rfl, hb1⟩
  go_wp2_with fail
  refine (none_zero g _ (old2 h hb1)).mono ?_
  rintro _ w2 ⟨rfl, rfl⟩
  go_wp2_with fail
  exact bodyPost_ret (v := .bool false) (by simp [results, Try.results33, go_sem] <;> rfl) rfl ⟨rfl, hb1⟩

set_option maxRecDepth 100000 in
set_option maxHeartbeats 1000000 in
theorem copy_nil  (w : World)  :
    Calls Try.prog 37 #[.pointer none] w fun e w' => e = .returned (.pointer none) ∧ Below w.heap.size w w' := by
  have km : ∀ w, (binOp .eql 87 (.map none) (.map none)).run Try.prog w = .ok (.bool true) w := fun w => by kernel_rfl
  go_enter Try.func37, Try.ntmps37
  go_wp2_with fail
  refine (none_nil _).mono ?_
  rintro _ w1 ⟨rfl, rfl⟩
  go_wp2_with fail
  exact bodyPost_ret (v := .pointer none) (by simp [results, Try.results37, go_sem] <;> rfl) rfl ⟨rfl, Below.refl _ _⟩
end Go.Proofs.Ytpfgdgelnehjpaa
