/- Monitors: rows of those that wait, the map, the state. -/
import Derived.Test.YtpfgdgelnehjpaaMem
import Derived.Test.YtpfgdgelnehjpaaMapI
import Derived.Test.YtpfgdgelnehjpaaLockZ
import Derived.ArgAppend
import Derived.BigQuiet
namespace Go.Proofs.Ytpfgdgelnehjpaa
open Go.RowKit
set_option linter.unusedVariables false
set_option linter.unusedSimpArgs false

/-- One that waits, or waited. -/
structure Kp where
  t : Int
  n : Int
  told : Bool
def Kp.cells (i : Kp) : List Value := [.int .i64 i.t, .int .i64 i.n, .bool i.told]
def cellsK (l : List Kp) : List Value := l.flatMap Kp.cells
theorem cellsK_cons (e : Kp) (l : List Kp) : cellsK (e :: l) = e.cells ++ cellsK l := rfl
theorem cellsK_append (l m : List Kp) : cellsK (l ++ m) = cellsK l ++ cellsK m := List.flatMap_append
theorem cellsK_length (l : List Kp) : (cellsK l).length = l.length * 3 := by
  induction l with
  | nil => rfl
  | cons e l ih => rw [cellsK_cons, List.length_append, ih]; simp [Kp.cells]; omega
theorem cellsK_get : ∀ {l : List Kp} {k : Nat} {e : Kp}, l[k]? = some e → ∀ j, j < 3 → (cellsK l)[k * 3 + j]? = e.cells[j]?
  | [], k, e, h, _, _ => by simp at h
  | x :: l, 0, e, h, j, hj => by
    simp at h
    subst h
    rw [cellsK_cons, List.getElem?_append_left (by simp [Kp.cells]; omega)]
    simp
  | x :: l, k + 1, e, h, j, hj => by
    rw [cellsK_cons, List.getElem?_append_right (by simp [Kp.cells]; omega), show (k + 1) * 3 + j - x.cells.length = k * 3 + j from by simp [Kp.cells]; omega]
    exact cellsK_get (by simpa using h) j hj
theorem cellsK_one (l : List Kp) : ∀ u ∈ cellsK l, u.oneCell' = true := by
  intro u hu
  simp only [cellsK, List.mem_flatMap, Kp.cells] at hu
  obtain ⟨e, _, he⟩ := hu
  simp only [List.mem_cons, List.not_mem_nil, or_false] at he
  rcases he with rfl | rfl | rfl <;> rfl

/-- At this place of memory stands this one. -/
structure KpAt (w : World) (ad : Addr) (e : Kp) : Prop where
  c0 : w.cell? ad = some (.int .i64 e.t)
  c1 : w.cell? ⟨ad.block, ad.off + 1, none⟩ = some (.int .i64 e.n)
  c2 : w.cell? ⟨ad.block, ad.off + 2, none⟩ = some (.bool e.told)

/-- A slice of those that wait that reads as l. -/
def ReadsK (w : World) (B : Nat) (A : Option Addr) (l : List Kp) : Prop := Reads w B 3 A l.length (cellsK l)
theorem ReadsK.at_ {w : World} {B : Nat} {A : Option Addr} {l : List Kp} {k : Nat} {e : Kp} (h : ReadsK w B A l) (hk : l[k]? = some e) :
    ∃ ad, A = some ad ∧ ad.block < B ∧ KpAt w (ad.add (k * 3)) e := by
  have hlt : k < l.length := (List.getElem?_eq_some_iff.1 hk).1
  obtain ⟨ad, hA, hb, hc⟩ := h.2 (by omega)
  have hg := cellsK_get hk
  refine ⟨ad, hA, hb, ⟨hc (k * 3) _ (hg 0 (by omega)), ?_, ?_⟩⟩
  · have := hc (k * 3 + 1) _ (hg 1 (by omega)); rwa [← add_of_add] at this
  · have := hc (k * 3 + 2) _ (hg 2 (by omega)); rwa [← add_of_add] at this
theorem ReadsK.nil_ (w : World) (B : Nat) : ReadsK w B none [] := Reads.none_
theorem ReadsK.drewN {w : World} {B : Nat} {A : Option Addr} {l : List Kp} (h : ReadsK w B A l) (n : Nat) : ReadsK (w.drewN n) B A l := Reads.drewN h n
theorem ReadsK.below {w w' : World} {B : Nat} {A : Option Addr} {l : List Kp} (h : ReadsK w B A l) (hb : Below B w w') : ReadsK w' B A l := Reads.below h hb
theorem takeK_next {l : List Kp} {k : Nat} {x : Kp} (h : l[k]? = some x) : l.take (k + 1) = l.take k ++ [x] := by
  rw [List.take_add_one, h]; rfl
theorem kp_at {l : List Kp} {k : Nat} (h : k < l.length) : ∃ x, l[k]? = some x := ⟨l[k], List.getElem?_eq_getElem h⟩
/-- Two those that wait are the same, or where they first differ. -/
theorem infoK : (Try.prog.info? 99).map (fun i => (i.zero, i.size, i.bytes)) = some (some (.agg #[.int .i64 0, .int .i64 0, .bool false]), 3, 24) := by kernel_rfl
/-- A slice value of the call's own that reads as those that wait l. -/
def OwnK (w : World) (base : Nat) (v : Value) (l : List Kp) : Prop := w.ownsRow base 99 3 v l.length (cellsK l)
section
variable {w w' : World} {base : Nat} {v : Value} {l : List Kp}
theorem OwnK.below (h : OwnK w base v l) (hb : Below w.heap.size w w') : OwnK w' base v l := own_below h hb
theorem OwnK.base_ {b : Nat} (h : OwnK w base v l) (hb : b ≤ base) : OwnK w b v l := own_base h hb
theorem OwnK.alloc (h : OwnK w base v l) (o : Obj) : OwnK (w.alloc o) base v l := World.ownsRow.alloc h o
theorem OwnK.reads {A : Option Addr} {n c : Nat} (h : OwnK w base (.slice A n c) l) : ReadsK w w.heap.size A l := by
  obtain ⟨A', c', hv, _, _, hr⟩ := own_form h
  injection hv with h1
  subst h1
  exact hr
theorem OwnK.form (h : OwnK w base v l) : ∃ A c, v = .slice A l.length c ∧ l.length ≤ c ∧ c ≤ maxLen ∧ ReadsK w w.heap.size A l := own_form h
theorem OwnK.cap {A : Option Addr} {n c : Nat} (h : OwnK w base (.slice A n c) l) : l.length ≤ c ∧ c ≤ maxLen := own_cap h
theorem OwnK.nil (w : World) (base : Nat) : OwnK w base (.slice none 0 0) [] := World.ownsRow_nil _ _ _ _
theorem ReadsK.one (w : World) (i : Kp) : ReadsK (w.alloc (.cells #[.int .i64 i.t, .int .i64 i.n, .bool i.told] 99)) (w.heap.size + 1) (some ⟨w.heap.size, 0, none⟩) [i] := by
  have := Reads.new w #[.int .i64 i.t, .int .i64 i.n, .bool i.told] 99 (0, 0) 1 3 rfl
  simpa [ReadsK, cellsK, Kp.cells] using this
end
theorem wpList_appK {ops : Array Oper} {rest : List Oper} {o : Oper} {a : Act} {Q : Exit → Act → World → Prop} (w : World) (hgd : o.guard = none) (s x : Operand)
    (ho : o.op = .call { callee := .builtin .append, args := #[s, x], argTypes := #[93, 93] })
    (base : Nat) (v : Value) (xs : List Kp) (hs : a.eval s = v) (hown : OwnK w base v xs)
    (B : Nat) (A : Option Addr) (m c : Nat) (ys : List Kp) (hx : a.eval x = .slice A m c) (hr : ReadsK w B A ys) (hm : m = ys.length)
    (zs : List Kp) (n' : Nat) (hz : xs ++ ys = zs) (hn : zs.length = n')
    (hb : n' ≤ 5864062014805) (hbase : base ≤ w.heap.size)
    (h : ∀ A' c' w', OwnK w' base (.slice A' n' c') zs → w.grownBy w' v.ownBlock → Below base w w' →
      ((Value.slice A' n' c').ownBlock = v.ownBlock ∨ (Value.slice A' n' c').ownBlock = some w.heap.size) → wpList Try.prog ops Q rest (a.put o.dst (.slice A' n' c')) w') : wpList Try.prog ops Q (o :: rest) a w := by
  subst hm
  subst hz
  rw [List.length_append] at hn
  subst hn
  obtain ⟨i0, hi0, hz0, hz1, hz2⟩ := info_parts infoK
  refine wpList_app (P := Try.prog) w hgd s x 93 ho base 99 i0 _ 3 24 Try.underlying93 hi0 hz0 hz1 hz2 rfl (by omega) v xs.length (cellsK xs) hs hown B A ys.length c (cellsK ys) hx hr (cellsK_one ys)
    (by unfold maxLen; omega) (by omega) hbase fun A' c' w' h1 h2 h3 => h A' c' w' ?_ h2 (own_grown_below hown h2 hbase) h3
  unfold OwnK
  rw [List.length_append, cellsK_append]
  exact h1
theorem ownK_setCell {w : World} {g i : Nat} {t : TypeId} {cs : Array Value} {v : Value} {xs : List Kp} {base : Nat} (h : OwnK w base v xs) (hB : Blk w g t cs) (ht : 99 ≠ t) (u : Value) :
    OwnK (w.setCell ⟨g, i, none⟩ u) base v xs :=
  World.ownsRow.kept (row := some g) h ⟨rfl, rfl, rfl, by simp [World.setCell], fun k _ hne => Below.heap_setCell w _ u k (fun e => hne (by rw [e]))⟩ (.inr (own_blk_ne h hB ht))

set_option maxRecDepth 100000 in
/-- append onto a slice that is full: a new row. -/
theorem run_appFull (w : World) (ty : TypeId) (A : Option Addr) (xs ys : List Kp) (hA : ReadsK w w.heap.size A xs) (B : Nat) (Y : Option Addr) (c : Nat) (hY : ReadsK w B Y ys) (hpos : 0 < ys.length) (hb : xs.length + ys.length ≤ 5864062014805) :
    ∃ A' c' w', (Builtin.append_ #[93, 93] ty #[.slice A xs.length xs.length, .slice Y ys.length c]).run Try.prog w = .ok (.slice A' (xs ++ ys).length c') w' ∧ OwnK w' w.heap.size (.slice A' (xs ++ ys).length c') (xs ++ ys) ∧ Below w.heap.size w w' := by
  obtain ⟨i0, hi0, hz0, hz1, hz2⟩ := info_parts infoK
  obtain ⟨ad, rfl, _, hcy⟩ := hY.2 hpos
  have hm : xs.length + ys.length ≤ maxLen := by unfold maxLen; omega
  have h63 : (xs.length + ys.length) * 24 ≤ 140737488355328 := by omega
  have hfin : ∀ (v' : Value) (w' : World), w'.ownsRow w.heap.size 99 3 v' (xs.length + ys.length) (cellsK xs ++ cellsK ys) → w.grownBy w' none →
      ∃ A' c', v' = .slice A' (xs ++ ys).length c' ∧ OwnK w' w.heap.size (.slice A' (xs ++ ys).length c') (xs ++ ys) ∧ Below w.heap.size w w' := by
    intro v' w' h1 h2
    have h3 : OwnK w' w.heap.size v' (xs ++ ys) := by unfold OwnK; rw [List.length_append, cellsK_append]; exact h1
    obtain ⟨A', c', rfl, _, _, _⟩ := h3.form
    exact ⟨A', c', rfl, h3, ⟨h2.os, h2.tape, h2.output, h2.size, fun i hi => h2.block i hi (by simp)⟩⟩
  cases A with
  | some b =>
    obtain ⟨v', w', hr, h1, h2⟩ := run_append_arg_grows (P := Try.prog) w 93 ty 99 i0 _ 3 24 Try.underlying93 hi0 hz0 hz1 hz2 rfl (by omega) b xs.length xs.length (cellsK xs) (cellsK_length xs)
      (fun j u hj => by
        have hp : 0 < xs.length := by have := (List.getElem?_eq_some_iff.1 hj).1; rw [cellsK_length] at this; omega
        obtain ⟨ad', e, _, hc⟩ := hA.2 hp
        have e' : b = ad' := Option.some.inj e
        subst e'
        exact hc j u hj) ad ys.length c (cellsK ys) (cellsK_length ys) hcy (by omega) hm h63
    obtain ⟨A', c', rfl, r⟩ := hfin v' w' h1 h2
    exact ⟨A', c', w', hr, r⟩
  | none =>
    have h0 : xs = [] := by
      cases xs with
      | nil => rfl
      | cons x xs => obtain ⟨_, e, _⟩ := hA.2 (by simp); cases e
    subst h0
    obtain ⟨v', w', hr, h1, h2, _⟩ := run_append_own (P := Try.prog) w w.heap.size 93 ty 99 i0 _ 3 24 Try.underlying93 hi0 hz0 hz1 hz2 rfl (by omega) (.slice none 0 0) 0 [] (World.ownsRow_nil w _ 99 3) ad ys.length c (cellsK ys) (cellsK_length ys) hcy (cellsK_one ys) (by unfold maxLen; omega) (by simpa using h63) (Nat.le_refl _)
    obtain ⟨A', c', rfl, r⟩ := hfin v' w' (by simpa [cellsK] using h1) h2
    exact ⟨A', c', w', hr, r⟩

theorem step_appFull {ops : Array Oper} {o : Oper} {a : Act} {K : Act → World → Prop} {Q : Exit → Act → World → Prop} {E0 : Prop} (w : World) (hgd : o.guard = none) (s x : Operand)
    (ho : o.op = .call { callee := .builtin .append, args := #[s, x], argTypes := #[93, 93] })
    (A : Option Addr) (xs : List Kp) (l1 l2 : Nat) (hs : a.eval s = .slice A l1 l2) (e1 : l1 = xs.length) (e2 : l2 = xs.length) (hA : ReadsK w w.heap.size A xs) (B : Nat) (Y : Option Addr) (m c : Nat) (ys : List Kp) (hx : a.eval x = .slice Y m c) (hm : m = ys.length) (hY : ReadsK w B Y ys) (hpos : 0 < ys.length)
    (hb : xs.length + ys.length ≤ 5864062014805) (zs : List Kp) (n' : Nat) (hz : xs ++ ys = zs) (hn : zs.length = n')
    (h : ∀ A' c' w', OwnK w' w.heap.size (.slice A' n' c') zs → Below w.heap.size w w' → K (a.put o.dst (.slice A' n' c')) w') :
    if Region.wanted o (yielded ops a.tmps) = true then Oper.wp Try.prog o a w K Q else E0 := by
  have hw : Region.wanted o (yielded ops a.tmps) = true := by simp [Region.wanted, hgd]
  rw [if_pos hw]
  subst e1
  subst e2
  subst hm
  subst hz
  subst hn
  obtain ⟨A', c', w', hrun, r1, r2⟩ := run_appFull w o.type A xs ys hA B Y c hY hpos hb
  unfold Oper.wp
  simp only [execOp, ho, resolve, invoke, builtin, Sem.run_bind, Sem.run_pure, Result.andThen_ok, List.map_toArray, List.map_cons, List.map_nil, hs, hx, hrun]
  exact h A' c' w' r1 r2

/-- A monitor. -/
structure Mon where
  own : Int
  cnt : Int
  row : List Kp
def mon0 : Mon := ⟨0, 0, []⟩
def Mon.v (m : Mon) (A : Option Addr) (c : Nat) : Value := .agg #[.int .i64 m.own, .int .i64 m.cnt, .slice A m.row.length c]
def zeroMV : Value := .agg #[.int .i64 0, .int .i64 0, .slice none 0 0]
/-- The block of a row is of its type. -/
def KTy (w : World) (A : Option Addr) : Prop := ∀ ad, A = some ad → ∃ cs fz, w.heap[ad.block]? = some (.cells cs 99 fz)
theorem KTy.none_ (w : World) : KTy w none := fun ad h => by cases h
theorem KTy.below {w w' : World} {A : Option Addr} (h : KTy w A) (hb : Below w.heap.size w w') : KTy w' A := fun ad e => by
  obtain ⟨cs, fz, hh⟩ := h ad e
  exact ⟨cs, fz, (hb.block _ (Array.getElem?_eq_some_iff.1 hh).1).trans hh⟩
theorem KTy.grown {w w' : World} {A : Option Addr} {g : Nat} {o : Obj} (h : KTy w A) (hg : w.grownBy w' (some g)) (ho : w.heap[g]? = some o) (hc : ∀ cs fz, o ≠ .cells cs 99 fz) : KTy w' A := fun ad e => by
  obtain ⟨cs, fz, hh⟩ := h ad e
  refine ⟨cs, fz, (hg.block _ (Array.getElem?_eq_some_iff.1 hh).1 fun e' => ?_).trans hh⟩
  injection e' with e'
  rw [e', ho] at hh
  injection hh with hh
  exact hc _ _ hh
theorem OwnK.ty {w : World} {base : Nat} {A : Option Addr} {n c : Nat} {l : List Kp} (h : OwnK w base (.slice A n c) l) : KTy w A := fun ad e => by
  subst e
  rcases h.2 with ⟨h1, _⟩ | ⟨g, cap, cur, h1, _, h3, _⟩
  · cases h1
  · injection h1 with h1
    injection h1 with h1
    subst h1
    exact ⟨_, _, h3⟩
theorem KTy.add {w : World} {ad : Addr} (h : KTy w (some ad)) (n : Nat) : KTy w (some (ad.add n)) := fun a e => by
  injection e with e
  subst e
  rw [block_of_add]
  exact h ad rfl
def Holds (w : World) (v : Value) (m : Mon) : Prop := ∃ A c, v = m.v A c ∧ ReadsK w w.heap.size A m.row ∧ m.row.length ≤ c ∧ c ≤ maxLen ∧ KTy w A
theorem Holds.zero (w : World) : Holds w zeroMV mon0 := ⟨none, 0, rfl, ReadsK.nil_ _ _, Nat.le_refl _, Nat.zero_le _, KTy.none_ _⟩
theorem Holds.below {w w' : World} {v : Value} {m : Mon} (h : Holds w v m) (hb : Below w.heap.size w w') : Holds w' v m := by
  obtain ⟨A, c, e, hr, h1, h2, h3⟩ := h
  exact ⟨A, c, e, Reads.more (Reads.below hr hb) hb.size, h1, h2, h3.below hb⟩
/-- The kinds of numbers that a monitor holds. -/
structure Mon.Bd (m : Mon) (n : Nat) : Prop where
  cnt : 0 ≤ m.cnt ∧ m.cnt ≤ n
  len : m.row.length ≤ n
  kept : ∀ k ∈ m.row, 0 ≤ k.n ∧ k.n ≤ n
theorem Mon.Bd.more {m : Mon} {n n' : Nat} (h : m.Bd n) (hn : n ≤ n') : m.Bd n' :=
  ⟨by have := h.cnt; omega, by have := h.len; omega, fun k hk => by have := h.kept k hk; omega⟩
theorem mon0_bd (n : Nat) : mon0.Bd n := ⟨⟨Int.le_refl _, by simp [mon0]⟩, by simp [mon0], fun k hk => by cases hk⟩
/-- Monitors that are kept. -/
structure LS (w : World) (p b n : Nat) (s : Int → Mon) : Prop where
  ex : ∃ f, MapI w b n f ∧ ∀ r, Holds w ((f r).getD zeroMV) (s r)
  blk : Blk w p 89 #[.map (some b)]
  bd : ∀ r, (s r).Bd n
theorem LS.below {w w' : World} {p b n : Nat} {s : Int → Mon} (h : LS w p b n s) (hb : Below w.heap.size w w') : LS w' p b n s := by
  obtain ⟨⟨f, hM, hH⟩, hB, hbd⟩ := h
  exact ⟨⟨f, hM.below hb, fun r => (hH r).below hb⟩, hB.below hb hB.lt, hbd⟩
theorem LS.more {w : World} {p b n n' : Nat} {s : Int → Mon} (h : LS w p b n s) (hn : n ≤ n') : LS w p b n' s := by
  obtain ⟨⟨f, hM, hH⟩, hB, hbd⟩ := h
  exact ⟨⟨f, hM.more hn, hH⟩, hB, fun r => (hbd r).more hn⟩
theorem MapI.isMap {w : World} {b n : Nat} {f : Int → Option Value} (h : MapI w b n f) : ∃ es clock, w.heap[b]? = some (.map es clock) := by
  obtain ⟨D, ⟨es, clock, hb, r⟩, h2⟩ := h
  exact ⟨es, clock, hb⟩
theorem Reads.turned_map {w w' : World} {size n b m : Nat} {A : Option Addr} {xs : List Value} {f : Int → Option Value} (h : Reads w w.heap.size size A n xs) (hs : 0 < size) (hM : MapI w b m f) (hg : w.grownBy w' (some b)) :
    Reads w' w'.heap.size size A n xs := by
  refine ⟨h.1, fun hn => ?_⟩
  obtain ⟨ad, e, hb, hc⟩ := h.2 hn
  have hl : 0 < xs.length := by rw [h.1]; exact Nat.mul_pos hn hs
  have h0 := hc 0 _ (List.getElem?_eq_getElem hl)
  have hne : ad.block ≠ b := by
    rintro rfl
    obtain ⟨es, clock, hm⟩ := hM.isMap
    have := block_of_add ad 0
    simp [World.cell?, this, hm] at h0
  refine ⟨ad, e, Nat.lt_of_lt_of_le hb hg.size, fun j u hu => ?_⟩
  rw [← hc j u hu]
  have hblk : w'.heap[(ad.add j).block]? = w.heap[(ad.add j).block]? := by rw [block_of_add]; exact hg.block _ hb (by simp; exact hne)
  simp only [World.cell?, hblk]
def updM (s : Int → Mon) (r : Int) (m : Mon) : Int → Mon := fun x => if x = r then m else s x
theorem Holds.turned {w w' : World} {v : Value} {m : Mon} {b n : Nat} {f : Int → Option Value} (h : Holds w v m) (hM : MapI w b n f) (hg : w.grownBy w' (some b)) : Holds w' v m := by
  obtain ⟨A, c, e, hr, h1, h2, h3⟩ := h
  obtain ⟨es, clock, hm⟩ := hM.isMap
  exact ⟨A, c, e, Reads.turned_map hr (by omega) hM hg, h1, h2, h3.grown hg hm (fun cs fz e => by cases e)⟩
theorem LS.set_ {w w' : World} {p b n : Nat} {s : Int → Mon} {f : Int → Option Value} {r : Int} {u : Value} {m : Mon} (hM : MapI w b n f) (hH : ∀ r, Holds w ((f r).getD zeroMV) (s r)) (hB : Blk w p 89 #[.map (some b)]) (hbd : ∀ r, (s r).Bd n)
    (hu : Holds w u m) (hm : m.Bd (n + 1)) (hM' : MapI w' b (n + 1) (fun z => if z = r then some u else f z)) (hg : w.grownBy w' (some b)) (hpb : p ≠ b) : LS w' p b (n + 1) (updM s r m) := by
  refine ⟨⟨_, hM', fun x => ?_⟩, hB.grown hg (by simpa using hpb), fun x => ?_⟩
  · unfold updM
    by_cases e : x = r
    · rw [if_pos e, if_pos e]; exact hu.turned hM hg
    · rw [if_neg e, if_neg e]; exact (hH x).turned hM hg
  · unfold updM
    by_cases e : x = r
    · rw [if_pos e]; exact hm
    · rw [if_neg e]; exact (hbd x).more (Nat.le_succ _)
theorem LS.del_ {w w' : World} {p b n : Nat} {s : Int → Mon} {f : Int → Option Value} {r : Int} (hM : MapI w b n f) (hH : ∀ r, Holds w ((f r).getD zeroMV) (s r)) (hB : Blk w p 89 #[.map (some b)]) (hbd : ∀ r, (s r).Bd n)
    (hM' : MapI w' b n (fun z => if z = r then none else f z)) (hg : w.grownBy w' (some b)) (hpb : p ≠ b) : LS w' p b n (updM s r mon0) := by
  refine ⟨⟨_, hM', fun x => ?_⟩, hB.grown hg (by simpa using hpb), fun x => ?_⟩
  · unfold updM
    by_cases e : x = r
    · rw [if_pos e, if_pos e]; exact Holds.zero _
    · rw [if_neg e, if_neg e]; exact (hH x).turned hM hg
  · unfold updM
    by_cases e : x = r
    · rw [if_pos e]; exact mon0_bd _
    · rw [if_neg e]; exact hbd x
theorem LS.ne {w : World} {p b n : Nat} {f : Int → Option Value} (hM : MapI w b n f) (hB : Blk w p 89 #[.map (some b)]) : p ≠ b := by
  rintro rfl
  obtain ⟨es, clock, hm⟩ := hM.isMap
  have : w.heap[p]? = some (.cells #[.map (some p)] 89) := hB
  rw [hm] at this
  cases this
theorem zeroM_run (w : World) : (zeroValue 95).run Try.prog w = .ok zeroMV w := by kernel_rfl
theorem mapEq_run (b : Nat) (w : World) : (binOp .eql 87 (.map (some b)) (.map none)).run Try.prog w = .ok (.bool false) w := by kernel_rfl
end Go.Proofs.Ytpfgdgelnehjpaa
