/- Three closed facts of this seat's program that hang on the text of its head; no condition. Written by a program of this work (wip/headgen.py). -/
import Derived.Test.YtpfgdgelnehjpaaRows
import Derived.JoinedOf
namespace Go.Proofs.Ytpfgdgelnehjpaa
/-! The head's words, as numbers: the first, the second, the third, the rest. -/
def headA : List Char := List.map Char.ofNat [104, 97, 114, 110, 101, 115, 115]
def headB : List Char := List.map Char.ofNat [
  55, 55, 99, 52, 99, 49, 52, 52, 51, 99, 57, 56, 98, 98, 52, 54, 51, 57, 51, 53, 50, 98, 100, 53, 99, 50, 101, 50, 55, 97, 54, 53, 100, 53, 53, 49,
  54, 100, 51, 98, 53, 100, 54, 100, 56, 100, 51, 50, 97, 56, 102, 52, 56, 56, 101, 98, 102, 49, 100, 102, 55, 102, 48, 51]
def headC : List Char := List.map Char.ofNat [99, 117, 116]
def headR : List Char := List.map Char.ofNat [
  97, 116, 32, 117, 110, 100, 101, 114, 115, 116, 117, 100, 121, 47, 117, 110, 100, 101, 114, 115, 116, 117, 100, 121, 108, 97, 119, 49, 52, 46, 72,
  101, 97, 112, 70, 117, 108, 108, 32, 117, 110, 100, 101, 114, 115, 116, 117, 100, 121, 47, 117, 110, 100, 101, 114, 115, 116, 117, 100, 121, 108, 97,
  119, 49, 53, 46, 76, 111, 99, 107, 82, 111, 119, 32, 117, 110, 100, 101, 114, 115, 116, 117, 100, 121, 47, 117, 110, 100, 101, 114, 115, 116, 117,
  100, 121, 108, 97, 119, 49, 52, 46, 72, 101, 97, 112, 83, 101, 116, 115, 32, 117, 110, 100, 101, 114, 115, 116, 117, 100, 121, 47, 117, 110, 100,
  101, 114, 115, 116, 117, 100, 121, 108, 97, 119, 49, 52, 46, 72, 101, 97, 112, 80, 108, 97, 121, 115, 32, 117, 110, 100, 101, 114, 115, 116, 117,
  100, 121, 47, 117, 110, 100, 101, 114, 115, 116, 117, 100, 121, 108, 97, 119, 49, 53, 46, 76, 111, 99, 107, 79, 110, 101, 32, 117, 110, 100, 101,
  114, 115, 116, 117, 100, 121, 47, 117, 110, 100, 101, 114, 115, 116, 117, 100, 121, 108, 97, 119, 49, 53, 46, 76, 111, 99, 107, 66, 97, 99, 107, 32,
  117, 110, 100, 101, 114, 115, 116, 117, 100, 121, 47, 117, 110, 100, 101, 114, 115, 116, 117, 100, 121, 108, 97, 119, 49, 52, 46, 72, 101, 97, 112,
  90, 101, 114, 111, 32, 117, 110, 100, 101, 114, 115, 116, 117, 100, 121, 47, 117, 110, 100, 101, 114, 115, 116, 117, 100, 121, 108, 97, 119, 49, 52,
  46, 72, 101, 97, 112, 67, 111, 112, 105, 101, 115, 32, 117, 110, 100, 101, 114, 115, 116, 117, 100, 121, 47, 117, 110, 100, 101, 114, 115, 116, 117,
  100, 121, 108, 97, 119, 49, 53, 46, 76, 111, 99, 107, 90, 101, 114, 111]
theorem head_text : Try.prog.initOrder = String.ofList (headA ++ Char.ofNat 32 :: (headB ++ Char.ofNat 32 :: (headC ++ Char.ofNat 32 :: headR))) := by kernel_rfl
theorem words_cons (l r : List Char) (h : l.all (fun c => c != Char.ofNat 32) = true) : wordsSigns (l ++ Char.ofNat 32 :: r) = l :: wordsSigns r := by
  induction l with
  | nil => rfl
  | cons c t ih =>
    simp only [List.all_cons, Bool.and_eq_true] at h
    have hc : c ≠ Char.ofNat 32 := by simpa using h.1
    have h2 := ih h.2
    rw [List.cons_append, wordsSigns, h2]
    exact hc
theorem head_words : behindMainWord (wordsSigns Try.prog.initOrder.toList) = headC :: wordsSigns headR := by
  rw [head_text, String.toList_ofList, words_cons headA _ (by kernel_rfl), words_cons headB _ (by kernel_rfl), words_cons headC _ (by kernel_rfl)]
  have h : ((headA == "harness".toList || headA == "ownmain".toList) && isSumSigns headB) = true := by kernel_rfl
  simp only [behindMainWord, h, if_true]
theorem make_of (P : Program) (c : List Char) (r : List (List Char)) (h : behindMainWord (wordsSigns P.initOrder.toList) = c :: r)
    (h1 : (c == "gc".toList || c == "spec".toList) = false) (h2 : (c == "cut".toList) = true) : P.make = some .cut := by
  unfold Program.make
  rw [h]
  simp only [h1, h2, Bool.true_or, if_true, Bool.false_eq_true, if_false]
theorem lifts_of (P : Program) (c : List Char) (r : List (List Char)) (h : behindMainWord (wordsSigns P.initOrder.toList) = c :: r)
    (h1 : (c == "carried".toList) = false) (h2 : stripLifts liftWords (c :: r) = ([], c :: r)) : P.liftsFinal = false := by
  unfold Program.liftsFinal Program.headLifts
  rw [h, h2]
  have e : (some c == some "carried".toList) = false := by
    rw [← h1]; rfl
  have hi : ∀ b : Bool, (if b = true then ([] : List String) else []).contains "finals" = false := by intro b; cases b <;> rfl
  have ho : ∀ a b c : Bool, a = false → c = false → (a && b || c) = false := by intro a b c h1 h2; rw [h1, h2]; rfl
  exact ho _ _ _ e (hi _)
theorem mayEnter_of (P : Program) (c : List Char) (r : List (List Char)) (h : behindMainWord (wordsSigns P.initOrder.toList) = c :: r)
    (h2 : stripLifts liftWords (c :: r) = ([], c :: r)) (h3 : P.laysLater = false) (h4 : P.bearsReflect = false) (h5 : P.doorFits [] = true) (h6 : (c == "cut".toList) = true) : P.mayEnter = true := by
  unfold Program.mayEnter
  rw [h]
  have e : (some c == some "cut".toList) = true := by
    rw [← h6]; rfl
  simp only [h2, h3, h4, h5, List.head?_cons, e, Bool.not_false, Bool.or_true, Bool.and_true, List.contains_nil]
theorem head_strip : stripLifts liftWords (headC :: wordsSigns headR) = ([], headC :: wordsSigns headR) := by
  generalize wordsSigns headR = R
  kernel_rfl
theorem make_fact : Try.prog.make = some .cut := make_of _ _ _ head_words (by kernel_rfl) (by kernel_rfl)
theorem lifts_fact : Try.prog.liftsFinal = false := lifts_of _ _ _ head_words (by kernel_rfl) head_strip
theorem mayEnter_fact : Try.prog.mayEnter = true := mayEnter_of _ _ _ head_words head_strip (by kernel_rfl) (by kernel_rfl) (by kernel_rfl) (by kernel_rfl)
end Go.Proofs.Ytpfgdgelnehjpaa
