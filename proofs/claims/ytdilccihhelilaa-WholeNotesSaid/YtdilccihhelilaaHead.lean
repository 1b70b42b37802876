/- Three closed facts of this seat's program that hang on the text of its head; no condition. Written by a program of this work (wip/headgen.py). -/
import Derived.Test.YtdilccihhelilaaRows
import Derived.JoinedOf
namespace Go.Proofs.Ytdilccihhelilaa
/-! The head's words, as numbers: the first, the second, the third, the rest. -/
def headA : List Char := List.map Char.ofNat [104, 97, 114, 110, 101, 115, 115]
def headB : List Char := List.map Char.ofNat [
  100, 51, 49, 102, 99, 55, 51, 97, 57, 97, 102, 49, 51, 100, 101, 57, 54, 48, 56, 49, 49, 49, 99, 97, 101, 99, 99, 53, 50, 102, 55, 56, 101, 53, 99,
  54, 97, 98, 100, 54, 54, 102, 57, 50, 52, 53, 97, 53, 55, 55, 102, 48, 98, 99, 54, 52, 53, 48, 52, 101, 97, 51, 97, 54]
def headC : List Char := List.map Char.ofNat [99, 117, 116]
def headR : List Char := List.map Char.ofNat [
  97, 116, 32, 117, 110, 100, 101, 114, 115, 116, 117, 100, 121, 47, 117, 110, 100, 101, 114, 115, 116, 117, 100, 121, 116, 111, 112, 46, 87, 104, 111,
  108, 101, 78, 111, 116, 101, 115, 32, 117, 110, 100, 101, 114, 115, 116, 117, 100, 121, 47, 117, 110, 100, 101, 114, 115, 116, 117, 100, 121, 108,
  97, 119, 50, 48, 46, 80, 97, 105, 114, 90, 101, 114, 111, 32, 117, 110, 100, 101, 114, 115, 116, 117, 100, 121, 47, 117, 110, 100, 101, 114, 115,
  116, 117, 100, 121, 108, 97, 119, 50, 48, 46, 80, 97, 105, 114, 79, 114, 100, 101, 114, 32, 117, 110, 100, 101, 114, 115, 116, 117, 100, 121, 47,
  117, 110, 100, 101, 114, 115, 116, 117, 100, 121, 108, 97, 119, 50, 48, 46, 80, 97, 105, 114, 65, 108, 108, 32, 117, 110, 100, 101, 114, 115, 116,
  117, 100, 121, 47, 117, 110, 100, 101, 114, 115, 116, 117, 100, 121, 108, 97, 119, 50, 48, 46, 80, 97, 105, 114, 70, 111, 114, 103, 101, 100]
theorem head_text : Try.prog.initOrder = String.ofList (headA ++ Char.ofNat 32 :: (headB ++ Char.ofNat 32 :: (headC ++ Char.ofNat 32 :: headR))) := by kernel_rfl
theorem words_cons (l r : List Char) (h : l.all (fun c => c != Char.ofNat 32) = true) : wordsSigns (l ++ Char.ofNat 32 :: r) = l :: wordsSigns r := by
  induction l with
  | nil => rfl
  | cons c t ih =>
    simp only [List.all_cons, Bool.and_eq_true] at h
    have hc : c ≠ Char.ofNat 32 := by simpa using h.1
    have h2 := ih h.2
    rw [List.cons_append, wordsSigns, h2]
    exact hc
theorem head_words : behindMainWord (wordsSigns Try.prog.initOrder.toList) = headC :: wordsSigns headR := by
  rw [head_text, String.toList_ofList, words_cons headA _ (by kernel_rfl), words_cons headB _ (by kernel_rfl), words_cons headC _ (by kernel_rfl)]
  have h : ((headA == "harness".toList || headA == "ownmain".toList) && isSumSigns headB) = true := by kernel_rfl
  simp only [behindMainWord, h, if_true]
theorem make_of (P : Program) (c : List Char) (r : List (List Char)) (h : behindMainWord (wordsSigns P.initOrder.toList) = c :: r)
    (h1 : (c == "gc".toList || c == "spec".toList) = false) (h2 : (c == "cut".toList) = true) : P.make = some .cut := by
  unfold Program.make
  rw [h]
  simp only [h1, h2, Bool.true_or, if_true, Bool.false_eq_true, if_false]
theorem lifts_of (P : Program) (c : List Char) (r : List (List Char)) (h : behindMainWord (wordsSigns P.initOrder.toList) = c :: r)
    (h1 : (c == "carried".toList) = false) (h2 : stripLifts liftWords (c :: r) = ([], c :: r)) : P.liftsFinal = false := by
  unfold Program.liftsFinal Program.headLifts
  rw [h, h2]
  have e : (some c == some "carried".toList) = false := by
    rw [← h1]; rfl
  have hi : ∀ b : Bool, (if b = true then ([] : List String) else []).contains "finals" = false := by intro b; cases b <;> rfl
  have ho : ∀ a b c : Bool, a = false → c = false → (a && b || c) = false := by intro a b c h1 h2; rw [h1, h2]; rfl
  exact ho _ _ _ e (hi _)
theorem mayEnter_of (P : Program) (c : List Char) (r : List (List Char)) (h : behindMainWord (wordsSigns P.initOrder.toList) = c :: r)
    (h2 : stripLifts liftWords (c :: r) = ([], c :: r)) (h3 : P.laysLater = false) (h4 : P.bearsReflect = false) (h5 : P.doorFits [] = true) (h6 : (c == "cut".toList) = true) : P.mayEnter = true := by
  unfold Program.mayEnter
  rw [h]
  have e : (some c == some "cut".toList) = true := by
    rw [← h6]; rfl
  simp only [h2, h3, h4, h5, List.head?_cons, e, Bool.not_false, Bool.or_true, Bool.and_true, List.contains_nil]
theorem head_strip : stripLifts liftWords (headC :: wordsSigns headR) = ([], headC :: wordsSigns headR) := by
  generalize wordsSigns headR = R
  kernel_rfl
theorem make_fact : Try.prog.make = some .cut := make_of _ _ _ head_words (by kernel_rfl) (by kernel_rfl)
theorem lifts_fact : Try.prog.liftsFinal = false := lifts_of _ _ _ head_words (by kernel_rfl) head_strip
theorem mayEnter_fact : Try.prog.mayEnter = true := mayEnter_of _ _ _ head_words head_strip (by kernel_rfl) (by kernel_rfl) (by kernel_rfl) (by kernel_rfl)
end Go.Proofs.Ytdilccihhelilaa
