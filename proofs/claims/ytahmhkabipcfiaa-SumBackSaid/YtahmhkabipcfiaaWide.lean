/- An append of bytes whose sum may pass 2^47 by a little. -/
import Derived.Test.YtahmhkabipcfiaaBytes
import Derived.Deep.DeepAppendWide
namespace Go.Proofs.Ytahmhkabipcfiaa
open Go.RowKit
set_option linter.unusedVariables false

set_option maxRecDepth 100000 in
theorem wpList_appBW {ops : Array Oper} {rest : List Oper} {o : Oper} {a : Act} {Q : Exit → Act → World → Prop} (w : World) (hgd : o.guard = none) (s x : Operand)
    (ho : o.op = .call { callee := .builtin .append, args := #[s, x], argTypes := #[31, 31] })
    (base : Nat) (v : Value) (xs : List Int) (hs : a.eval s = v) (hown : OwnB w base v xs)
    (B : Nat) (A : Option Addr) (m c : Nat) (ys : List Int) (hx : a.eval x = .slice A m c) (hr : ReadsB w B A ys) (hm : m = ys.length)
    (zs : List Int) (n' : Nat) (hz : xs ++ ys = zs) (hn : zs.length = n')
    (hb0 : xs.length ≤ 140737488355328) (hb : n' + n' / 4 + 192 ≤ 281474976710656) (hbase : base ≤ w.heap.size)
    (h : ∀ A' c' w', OwnB w' base (.slice A' n' c') zs → Below base w w' → wpList Try.prog ops Q rest (a.put o.dst (.slice A' n' c')) w') : wpList Try.prog ops Q (o :: rest) a w := by
  rcases A with _ | ad
  · have hy : ys = [] := by
      rcases Nat.eq_zero_or_pos ys.length with h0 | h0
      · exact List.eq_nil_of_length_eq_zero h0
      · obtain ⟨_, h1, _⟩ := hr.2 h0; cases h1
    subst hy
    exact wpList_appB w hgd s x ho base v xs hs hown B none m c [] hx hr hm zs n' hz hn (by subst hz; subst hn; simpa using hb0) hbase fun A' c' w' h1 _ h3 _ => h A' c' w' h1 h3
  · subst hm
    subst hz
    rw [List.length_append] at hn
    subst hn
    obtain ⟨i0, hi0, hz0, hz1, hz2⟩ := info_parts infoB
    have hcells : ∀ j u, (cellsOf .u8 ys)[j]? = some u → w.cell? (ad.add j) = some u := by
      intro j u hu
      rcases Nat.eq_zero_or_pos ys.length with h0 | h0
      · rw [List.getElem?_eq_none (by rw [cellsOf_length]; omega)] at hu; cases hu
      · obtain ⟨ad', h1, _, h3⟩ := hr.2 h0
        injection h1 with h1
        subst h1
        exact h3 j u hu
    refine wpList_append_own_wide (P := Try.prog) w hgd s x 31 ho base 5 i0 _ 1 1 Try.underlying31 hi0 hz0 hz1 hz2 rfl (by omega) v xs.length (cellsOf .u8 xs) hs hown ad ys.length c (cellsOf .u8 ys) hx (by rw [cellsOf_length]; omega) hcells cellsOf_one
      (by unfold maxLen; omega) (by omega) hbase fun v' w' h1 h2 _ => ?_
    obtain ⟨A', c', rfl, _, _, _⟩ := own_form h1
    refine h A' c' w' ?_ (own_grown_below hown h2 hbase)
    unfold OwnB
    rw [List.length_append]
    unfold cellsOf at h1 ⊢
    rw [List.map_append]
    exact h1
end Go.Proofs.Ytahmhkabipcfiaa
