/- Three closed facts of this seat's program that hang on the text of its head; no condition. Written by a program of this work (wip/headgen.py). -/
import Derived.Test.YtcinmgifadmbeaaRows
import Derived.JoinedOf
namespace Go.Proofs.Ytcinmgifadmbeaa
/-! The head's words, as numbers: the first, the second, the third, the rest. -/
def headA : List Char := List.map Char.ofNat [104, 97, 114, 110, 101, 115, 115]
def headB : List Char := List.map Char.ofNat [
  101, 55, 52, 48, 55, 99, 101, 52, 54, 51, 101, 48, 101, 101, 55, 98, 49, 100, 51, 53, 101, 101, 97, 99, 100, 98, 102, 100, 50, 99, 49, 57, 49, 101,
  99, 97, 50, 49, 102, 57, 52, 102, 99, 100, 101, 57, 53, 50, 54, 97, 56, 48, 102, 102, 99, 98, 101, 101, 100, 56, 49, 56, 49, 51]
def headC : List Char := List.map Char.ofNat [99, 117, 116]
def headR : List Char := List.map Char.ofNat [
  97, 116, 32, 117, 110, 100, 101, 114, 115, 116, 117, 100, 121, 47, 117, 110, 100, 101, 114, 115, 116, 117, 100, 121, 108, 97, 119, 48, 54, 46, 79,
  112, 115, 67, 111, 100, 101, 115, 32, 117, 110, 100, 101, 114, 115, 116, 117, 100, 121, 47, 117, 110, 100, 101, 114, 115, 116, 117, 100, 121, 108,
  97, 119, 48, 54, 46, 79, 112, 115, 80, 108, 97, 105, 110, 32, 117, 110, 100, 101, 114, 115, 116, 117, 100, 121, 47, 117, 110, 100, 101, 114, 115,
  116, 117, 100, 121, 108, 97, 119, 48, 54, 46, 79, 112, 115, 84, 119, 105, 99, 101, 32, 117, 110, 100, 101, 114, 115, 116, 117, 100, 121, 47, 117,
  110, 100, 101, 114, 115, 116, 117, 100, 121, 108, 97, 119, 48, 54, 46, 79, 112, 115, 69, 110, 99, 111, 100, 101, 115, 32, 117, 110, 100, 101, 114,
  115, 116, 117, 100, 121, 47, 117, 110, 100, 101, 114, 115, 116, 117, 100, 121, 108, 97, 119, 48, 54, 46, 79, 112, 115, 68, 101, 99, 111, 100, 101,
  115, 32, 117, 110, 100, 101, 114, 115, 116, 117, 100, 121, 47, 117, 110, 100, 101, 114, 115, 116, 117, 100, 121, 108, 97, 119, 48, 54, 46, 79, 112,
  115, 83, 105, 122, 101, 115, 32, 117, 110, 100, 101, 114, 115, 116, 117, 100, 121, 47, 117, 110, 100, 101, 114, 115, 116, 117, 100, 121, 108, 97,
  119, 48, 55, 46, 70, 108, 111, 119, 76, 105, 115, 116, 115, 32, 117, 110, 100, 101, 114, 115, 116, 117, 100, 121, 47, 117, 110, 100, 101, 114, 115,
  116, 117, 100, 121, 108, 97, 119, 48, 55, 46, 70, 108, 111, 119, 74, 111, 105, 110, 115, 32, 117, 110, 100, 101, 114, 115, 116, 117, 100, 121, 47,
  117, 110, 100, 101, 114, 115, 116, 117, 100, 121, 108, 97, 119, 48, 55, 46, 70, 108, 111, 119, 82, 111, 119, 32, 117, 110, 100, 101, 114, 115, 116,
  117, 100, 121, 47, 117, 110, 100, 101, 114, 115, 116, 117, 100, 121, 108, 97, 119, 48, 54, 46, 79, 112, 115, 66, 97, 99, 107, 32, 117, 110, 100, 101,
  114, 115, 116, 117, 100, 121, 47, 117, 110, 100, 101, 114, 115, 116, 117, 100, 121, 108, 97, 119, 48, 55, 46, 70, 108, 111, 119, 67, 104, 101, 99,
  107, 115, 32, 117, 110, 100, 101, 114, 115, 116, 117, 100, 121, 47, 117, 110, 100, 101, 114, 115, 116, 117, 100, 121, 108, 97, 119, 48, 55, 46, 70,
  108, 111, 119, 82, 105, 103, 104, 116]
theorem head_text : Try.prog.initOrder = String.ofList (headA ++ Char.ofNat 32 :: (headB ++ Char.ofNat 32 :: (headC ++ Char.ofNat 32 :: headR))) := by kernel_rfl
theorem words_cons (l r : List Char) (h : l.all (fun c => c != Char.ofNat 32) = true) : wordsSigns (l ++ Char.ofNat 32 :: r) = l :: wordsSigns r := by
  induction l with
  | nil => rfl
  | cons c t ih =>
    simp only [List.all_cons, Bool.and_eq_true] at h
    have hc : c ≠ Char.ofNat 32 := by simpa using h.1
    have h2 := ih h.2
    rw [List.cons_append, wordsSigns, h2]
    exact hc
theorem head_words : behindMainWord (wordsSigns Try.prog.initOrder.toList) = headC :: wordsSigns headR := by
  rw [head_text, String.toList_ofList, words_cons headA _ (by kernel_rfl), words_cons headB _ (by kernel_rfl), words_cons headC _ (by kernel_rfl)]
  have h : ((headA == "harness".toList || headA == "ownmain".toList) && isSumSigns headB) = true := by kernel_rfl
  simp only [behindMainWord, h, if_true]
theorem make_of (P : Program) (c : List Char) (r : List (List Char)) (h : behindMainWord (wordsSigns P.initOrder.toList) = c :: r)
    (h1 : (c == "gc".toList || c == "spec".toList) = false) (h2 : (c == "cut".toList) = true) : P.make = some .cut := by
  unfold Program.make
  rw [h]
  simp only [h1, h2, Bool.true_or, if_true, Bool.false_eq_true, if_false]
theorem lifts_of (P : Program) (c : List Char) (r : List (List Char)) (h : behindMainWord (wordsSigns P.initOrder.toList) = c :: r)
    (h1 : (c == "carried".toList) = false) (h2 : stripLifts liftWords (c :: r) = ([], c :: r)) : P.liftsFinal = false := by
  unfold Program.liftsFinal Program.headLifts
  rw [h, h2]
  have e : (some c == some "carried".toList) = false := by
    rw [← h1]; rfl
  have hi : ∀ b : Bool, (if b = true then ([] : List String) else []).contains "finals" = false := by intro b; cases b <;> rfl
  have ho : ∀ a b c : Bool, a = false → c = false → (a && b || c) = false := by intro a b c h1 h2; rw [h1, h2]; rfl
  exact ho _ _ _ e (hi _)
theorem mayEnter_of (P : Program) (c : List Char) (r : List (List Char)) (h : behindMainWord (wordsSigns P.initOrder.toList) = c :: r)
    (h2 : stripLifts liftWords (c :: r) = ([], c :: r)) (h3 : P.laysLater = false) (h4 : P.bearsReflect = false) (h5 : P.doorFits [] = true) (h6 : (c == "cut".toList) = true) : P.mayEnter = true := by
  unfold Program.mayEnter
  rw [h]
  have e : (some c == some "cut".toList) = true := by
    rw [← h6]; rfl
  simp only [h2, h3, h4, h5, List.head?_cons, e, Bool.not_false, Bool.or_true, Bool.and_true, List.contains_nil]
theorem head_strip : stripLifts liftWords (headC :: wordsSigns headR) = ([], headC :: wordsSigns headR) := by
  generalize wordsSigns headR = R
  kernel_rfl
theorem make_fact : Try.prog.make = some .cut := make_of _ _ _ head_words (by kernel_rfl) (by kernel_rfl)
theorem lifts_fact : Try.prog.liftsFinal = false := lifts_of _ _ _ head_words (by kernel_rfl) head_strip
theorem mayEnter_fact : Try.prog.mayEnter = true := mayEnter_of _ _ _ head_words head_strip (by kernel_rfl) (by kernel_rfl) (by kernel_rfl) (by kernel_rfl)
end Go.Proofs.Ytcinmgifadmbeaa
