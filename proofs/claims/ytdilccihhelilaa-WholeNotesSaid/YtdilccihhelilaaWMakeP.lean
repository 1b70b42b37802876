/- Writers are made; what was written. (The program alone.) -/
import Derived.Test.YtdilccihhelilaaWrite2
namespace Go.Proofs.Ytdilccihhelilaa
open Go.RowKit
set_option linter.unusedVariables false

def Made (w w' : World) : Nat → Prop := fun k => w.heap.size ≤ k ∧ k < w'.heap.size

set_option maxHeartbeats 400000 in
theorem newW_ok (most : Int) (w : World) (h0 : 0 ≤ most) (h : most ≤ 1048576) :
    Calls Try.prog 20 #[.int .i64 most] w fun e w' => e = .returned (.tuple #[.pointer (some ⟨w.heap.size, 0, none⟩), .int .i64 0]) ∧
      Wr w' (Made w w') w.heap.size w.heap.size most [] ∧ Below w.heap.size w w' := by
  go_enter Try.func20, Try.ntmps20
  go_wp2_with fail
  go_ret2
  refine ⟨rfl, ⟨none, 0, Blk.new _ _ _, OwnB.nil _ _, by simpa using h0, h, Nat.le_refl _, ⟨Nat.le_refl _, by simp⟩, fun k hk => by simp [Value.ownBlock] at hk, fun k hk => hk⟩, (Below.refl _ _).alloc (Nat.le_refl _) _⟩
section
variable {w w' : World} {F G : Nat → Prop} {base g : Nat} {most : Int} {xs : List Int}
theorem Wr.turned (h : Wr w F base g most xs) (k : Turned G w w') (hd : ∀ i, F i → ¬ G i) : Wr w' F base g most xs := by
  obtain ⟨A, c, hB, hO, hlm, hm, hbg, hFg, hFv, hFw⟩ := h
  refine ⟨A, c, hB.turned k (hd g hFg), own_turned hO k (fun i hi => hd i (hFv i hi)), hlm, hm, hbg, hFg, hFv, fun i hi => ?_⟩
  have := hFw i hi
  have := k.size
  omega
theorem Wr.below (h : Wr w F base g most xs) (k : Below w.heap.size w w') : Wr w' F base g most xs :=
  h.turned (G := fun _ => False) (Turned.of_below k) (fun _ _ h => h)
theorem Wr.drew_ (h : Wr w F base g most xs) : Wr w.drew F base g most xs := h.below ⟨rfl, rfl, rfl, Nat.le_refl _, fun _ _ => rfl⟩
theorem Wr.drewN_' (h : Wr w F base g most xs) (m : Nat) : Wr (w.drewN m) F base g most xs := h.below ((Below.refl _ _).trans ⟨rfl, rfl, rfl, Nat.le_refl _, fun _ _ => rfl⟩)
theorem Wr.lt (h : Wr w F base g most xs) (k : Nat) (hk : F k) : base ≤ k ∧ k < w.heap.size := by
  obtain ⟨A, c, hB, hO, hlm, hm, hbg, hFg, hFv, hFw⟩ := h
  exact hFw k hk
theorem Wr.len (h : Wr w F base g most xs) : (xs.length : Int) ≤ most ∧ most ≤ 1048576 := by
  obtain ⟨A, c, hB, hO, hlm, hm, _⟩ := h
  exact ⟨hlm, hm⟩
end

set_option maxRecDepth 100000 in
set_option maxHeartbeats 400000 in
theorem out_any (F : Nat → Prop) (base g : Nat) (most : Int) (xs : List Int) (w : World) (hW : Wr w F base g most xs) :
    Calls Try.prog 23 #[.pointer (some ⟨g, 0, none⟩)] w fun e w' => ∃ A c, e = .returned (.slice A xs.length c) ∧ OwnB w' w.heap.size (.slice A xs.length c) xs ∧ Below w.heap.size w w' := by
  obtain ⟨A1, c1, hB, hO, hlm, hm, hbg, hFg, hFv, hFw⟩ := hW
  have c0 : w.cell? ⟨g, 0, none⟩ = some (.slice A1 xs.length c1) := hB.cell 0
  have c2 : w.cell? ⟨g, 2, none⟩ = some (.bool true) := hB.cell 2
  go_enter Try.func23, Try.ntmps23
  go_wp2_with fail
  refine (wnone_no g w c2).mono ?_
  rintro e w' ⟨rfl, rfl⟩
  go_wp2_with (first
    | (at_builtin
       refine wpList_appB _ rfl (.const (.slice none 0 0)) (.tmp 8) rfl w.heap.size (.slice none 0 0) [] rfl (OwnB.nil _ _) w.heap.size A1 xs.length c1 xs rfl hO.reads rfl
         xs xs.length rfl rfl (by omega) (Nat.le_refl _) ?_
       intro A2 c2 w2 hown2 _ hb2 _))
  go_ret
  exact ⟨A2, c2, rfl, hown2, hb2⟩

end Go.Proofs.Ytdilccihhelilaa
