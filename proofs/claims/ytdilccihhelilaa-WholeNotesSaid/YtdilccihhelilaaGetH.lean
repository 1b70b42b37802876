/- The entry of bytes: the program's and the reference's. -/
import Derived.Test.YtdilccihhelilaaRecH
import Derived.Test.YtdilccihhelilaaRead
namespace Go.Proofs.Ytdilccihhelilaa
open Go.RowKit
set_option linter.unusedVariables false

theorem gfold_lin : ∀ (cs : List Int) (x : Int), gfold x cs = x * 256 ^ cs.length + gfold 0 cs
  | [], x => by simp [gfold]
  | c :: cs, x => by
    rw [gfold_cons, gfold_cons, gfold_lin cs (x * 256 + c), gfold_lin cs (0 * 256 + c), List.length_cons, Int.pow_succ]
    rw [Int.zero_mul, Int.zero_add, Int.add_mul, Int.mul_comm (256 ^ cs.length) 256, ← Int.mul_assoc, Int.add_assoc]
theorem sval_wrap {ys : List Int} (hb : Bytes ys) (hl : ys.length = 8) : wrap64 (gfold 0 ys) = sval ys := by
  match ys, hl with
  | c :: cs, hl =>
    have hc := hb c (by simp)
    have hcl : cs.length = 7 := by simpa using hl
    have h1 := gfold_bd cs 0 1 (fun x hx => hb x (List.mem_cons_of_mem _ hx)) (by omega) (by omega)
    have h2 := gfold_nn cs 0 (fun x hx => hb x (List.mem_cons_of_mem _ hx)) (by omega)
    have e7 : (256 : Int) ^ 7 = 72057594037927936 := by decide
    rw [hcl, e7] at h1
    show wrap64 (gfold 0 (c :: cs)) = gfold (sbyte c) cs
    rw [gfold_cons, gfold_lin cs (0 * 256 + c), gfold_lin cs (sbyte c), hcl, e7]
    generalize gfold 0 cs = G at *
    unfold wrap64 sbyte
    omega
/-- The entry that 14 bytes make. -/
def getE (xs : List Int) : Ent := ⟨gfold 0 (xs.take 4), gfold 0 ((xs.drop 4).take 1), gfold 0 ((xs.drop 5).take 1), sval ((xs.drop 6).take 8)⟩
theorem sizes0 (w : World) : (Instr.index 63 (.agg #[.int .i64 4, .int .i64 1, .int .i64 1]) (.int .i64 0)).run Try.prog w = .ok (.int .i64 4) w := by kernel_rfl
theorem sizes1 (w : World) : (Instr.index 63 (.agg #[.int .i64 4, .int .i64 1, .int .i64 1]) (.int .i64 1)).run Try.prog w = .ok (.int .i64 1) w := by kernel_rfl
theorem sizes2 (w : World) : (Instr.index 63 (.agg #[.int .i64 4, .int .i64 1, .int .i64 1]) (.int .i64 2)).run Try.prog w = .ok (.int .i64 1) w := by kernel_rfl
theorem ptrs0 (a b c : Option Addr) (w : World) : (Instr.index 101 (.agg #[.pointer a, .pointer b, .pointer c]) (.int .i64 0)).run Try.prog w = .ok (.pointer a) w := by kernel_rfl
theorem ptrs1 (a b c : Option Addr) (w : World) : (Instr.index 101 (.agg #[.pointer a, .pointer b, .pointer c]) (.int .i64 1)).run Try.prog w = .ok (.pointer b) w := by kernel_rfl
theorem ptrs2 (a b c : Option Addr) (w : World) : (Instr.index 101 (.agg #[.pointer a, .pointer b, .pointer c]) (.int .i64 2)).run Try.prog w = .ok (.pointer c) w := by kernel_rfl
theorem gf_small {ys : List Int} (hb : Bytes ys) (hl : ys.length ≤ 4) : 0 ≤ gfold 0 ys ∧ gfold 0 ys < 4294967296 := by
  have h0 := gfold_nn ys 0 hb (by omega)
  have h1 := (gfold_bd ys 0 1 hb (by omega) (by omega)).2
  have h2 := pow_mono256 hl
  have h3 : (256 : Int) ^ 4 = 4294967296 := by decide
  omega

end Go.Proofs.Ytdilccihhelilaa
