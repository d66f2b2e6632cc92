/- The words at the head of the translation, read without running over the text of the roots: three closed facts of the program. -/
import Derived.Test.YthpldilmeoggkaaB
import Derived.ProofKit
namespace Go.Proofs.Ythpldilmeoggkaa
open Go.RowKit

theorem wordsSigns_word (r : List Char) : ∀ w : List Char, w.all (fun c => c != ' ') = true → wordsSigns (w ++ ' ' :: r) = w :: wordsSigns r
  | [], _ => rfl
  | c :: w, h => by
    rw [List.all_cons, Bool.and_eq_true] at h
    have hc : c ≠ ' ' := by simpa using h.1
    rw [List.cons_append, wordsSigns.eq_3 _ _ (fun e => hc e), wordsSigns_word r w h.2]
set_option maxRecDepth 100000 in
theorem initList : Try.prog.initOrder.toList = ['h', 'a', 'r', 'n', 'e', 's', 's'] ++ ' ' :: (['3', 'a', '2', '3', 'c', 'e', '5', 'f', 'f', '9', '7', 'b', '0', '9', '6', '9', '3', '5', '8', 'b', '3', '4', '3', 'a', '6', 'f', 'c', '9', 'b', '8', '6', 'b', '4', 'd', '4', 'b', '3', '0', '0', 'd', 'c', '4', 'b', '9', '0', 'd', 'c', '6', '6', '7', '0', '5', '1', '1', 'd', '7', 'd', '7', 'e', 'd', '3', '2', 'd', 'b'] ++ ' ' :: (['c', 'u', 't'] ++ ' ' :: ['a', 't', ' ', 'l', 'o', 'o', 'p', '.', 'e', 'x', 'a', 'm', 'p', 'l', 'e', '/', 'd', 'e', 'p', 'o', 's', 'i', 't', 'a', 'r', 'y', '/', 'l', 'a', 'w', 's', '.', 'F', 'n', 'I', 'n', 'd', 'e', 'x', 'T', 'w', 'i', 'c', 'e', ' ', 'l', 'o', 'o', 'p', '.', 'e', 'x', 'a', 'm', 'p', 'l', 'e', '/', 'd', 'e', 'p', 'o', 's', 'i', 't', 'a', 'r', 'y', '/', 'l', 'a', 'w', 's', '.', 'F', 'n', 'M', 'e', 'r', 'g', 'e', 'T', 'h', 'r', 'e', 'e', ' ', 'l', 'o', 'o', 'p', '.', 'e', 'x', 'a', 'm', 'p', 'l', 'e', '/', 'd', 'e', 'p', 'o', 's', 'i', 't', 'a', 'r', 'y', '/', 'l', 'a', 'w', 's', '.', 'F', 'n', 'E', 'x', 'a', 'c', 't', 'I', 'n', 'd', 'e', 'x', 'P', 'u', 't', ' ', 'l', 'o', 'o', 'p', '.', 'e', 'x', 'a', 'm', 'p', 'l', 'e', '/', 'd', 'e', 'p', 'o', 's', 'i', 't', 'a', 'r', 'y', '/', 'l', 'a', 'w', 's', '.', 'F', 'n', 'I', 'n', 'd', 'e', 'x', 'P', 'u', 't', ' ', 'l', 'o', 'o', 'p', '.', 'e', 'x', 'a', 'm', 'p', 'l', 'e', '/', 'd', 'e', 'p', 'o', 's', 'i', 't', 'a', 'r', 'y', '/', 'l', 'a', 'w', 's', '.', 'F', 'n', 'E', 'x', 'a', 'c', 't', 'S', 'n', 'a', 'p', 'S', 'a', 'm', 'e'])) := by
  rw [show Try.prog.initOrder = String.ofList ['h', 'a', 'r', 'n', 'e', 's', 's', ' ', '3', 'a', '2', '3', 'c', 'e', '5', 'f', 'f', '9', '7', 'b', '0', '9', '6', '9', '3', '5', '8', 'b', '3', '4', '3', 'a', '6', 'f', 'c', '9', 'b', '8', '6', 'b', '4', 'd', '4', 'b', '3', '0', '0', 'd', 'c', '4', 'b', '9', '0', 'd', 'c', '6', '6', '7', '0', '5', '1', '1', 'd', '7', 'd', '7', 'e', 'd', '3', '2', 'd', 'b', ' ', 'c', 'u', 't', ' ', 'a', 't', ' ', 'l', 'o', 'o', 'p', '.', 'e', 'x', 'a', 'm', 'p', 'l', 'e', '/', 'd', 'e', 'p', 'o', 's', 'i', 't', 'a', 'r', 'y', '/', 'l', 'a', 'w', 's', '.', 'F', 'n', 'I', 'n', 'd', 'e', 'x', 'T', 'w', 'i', 'c', 'e', ' ', 'l', 'o', 'o', 'p', '.', 'e', 'x', 'a', 'm', 'p', 'l', 'e', '/', 'd', 'e', 'p', 'o', 's', 'i', 't', 'a', 'r', 'y', '/', 'l', 'a', 'w', 's', '.', 'F', 'n', 'M', 'e', 'r', 'g', 'e', 'T', 'h', 'r', 'e', 'e', ' ', 'l', 'o', 'o', 'p', '.', 'e', 'x', 'a', 'm', 'p', 'l', 'e', '/', 'd', 'e', 'p', 'o', 's', 'i', 't', 'a', 'r', 'y', '/', 'l', 'a', 'w', 's', '.', 'F', 'n', 'E', 'x', 'a', 'c', 't', 'I', 'n', 'd', 'e', 'x', 'P', 'u', 't', ' ', 'l', 'o', 'o', 'p', '.', 'e', 'x', 'a', 'm', 'p', 'l', 'e', '/', 'd', 'e', 'p', 'o', 's', 'i', 't', 'a', 'r', 'y', '/', 'l', 'a', 'w', 's', '.', 'F', 'n', 'I', 'n', 'd', 'e', 'x', 'P', 'u', 't', ' ', 'l', 'o', 'o', 'p', '.', 'e', 'x', 'a', 'm', 'p', 'l', 'e', '/', 'd', 'e', 'p', 'o', 's', 'i', 't', 'a', 'r', 'y', '/', 'l', 'a', 'w', 's', '.', 'F', 'n', 'E', 'x', 'a', 'c', 't', 'S', 'n', 'a', 'p', 'S', 'a', 'm', 'e'] from by kernel_rfl, String.toList_ofList]
  rfl
theorem wordsIs : behindMainWord (wordsSigns Try.prog.initOrder.toList) = ['c', 'u', 't'] :: wordsSigns ['a', 't', ' ', 'l', 'o', 'o', 'p', '.', 'e', 'x', 'a', 'm', 'p', 'l', 'e', '/', 'd', 'e', 'p', 'o', 's', 'i', 't', 'a', 'r', 'y', '/', 'l', 'a', 'w', 's', '.', 'F', 'n', 'I', 'n', 'd', 'e', 'x', 'T', 'w', 'i', 'c', 'e', ' ', 'l', 'o', 'o', 'p', '.', 'e', 'x', 'a', 'm', 'p', 'l', 'e', '/', 'd', 'e', 'p', 'o', 's', 'i', 't', 'a', 'r', 'y', '/', 'l', 'a', 'w', 's', '.', 'F', 'n', 'M', 'e', 'r', 'g', 'e', 'T', 'h', 'r', 'e', 'e', ' ', 'l', 'o', 'o', 'p', '.', 'e', 'x', 'a', 'm', 'p', 'l', 'e', '/', 'd', 'e', 'p', 'o', 's', 'i', 't', 'a', 'r', 'y', '/', 'l', 'a', 'w', 's', '.', 'F', 'n', 'E', 'x', 'a', 'c', 't', 'I', 'n', 'd', 'e', 'x', 'P', 'u', 't', ' ', 'l', 'o', 'o', 'p', '.', 'e', 'x', 'a', 'm', 'p', 'l', 'e', '/', 'd', 'e', 'p', 'o', 's', 'i', 't', 'a', 'r', 'y', '/', 'l', 'a', 'w', 's', '.', 'F', 'n', 'I', 'n', 'd', 'e', 'x', 'P', 'u', 't', ' ', 'l', 'o', 'o', 'p', '.', 'e', 'x', 'a', 'm', 'p', 'l', 'e', '/', 'd', 'e', 'p', 'o', 's', 'i', 't', 'a', 'r', 'y', '/', 'l', 'a', 'w', 's', '.', 'F', 'n', 'E', 'x', 'a', 'c', 't', 'S', 'n', 'a', 'p', 'S', 'a', 'm', 'e'] := by
  rw [initList, wordsSigns_word _ _ (by decide), wordsSigns_word _ _ (by decide), wordsSigns_word _ _ (by decide)]
  kernel_rfl
theorem mayEnter_of {P : Program} {ws : List (List Char)} (h : behindMainWord (wordsSigns P.initOrder.toList) = ['c', 'u', 't'] :: ws) (hl : P.laysLater = false) (hb : P.bearsReflect = false) (hd : P.doorFits [] = true) : P.mayEnter = true := by
  unfold Program.mayEnter
  rw [h]
  have hs : stripLifts liftWords (['c', 'u', 't'] :: ws) = ([], ['c', 'u', 't'] :: ws) := by simp [stripLifts, liftWords]
  simp [hs, hl, hb, hd]
theorem liftsFinal_of {P : Program} {ws : List (List Char)} (h : behindMainWord (wordsSigns P.initOrder.toList) = ['c', 'u', 't'] :: ws) : P.liftsFinal = false := by
  unfold Program.liftsFinal Program.headLifts
  rw [h]
  have hs : stripLifts liftWords (['c', 'u', 't'] :: ws) = ([], ['c', 'u', 't'] :: ws) := by simp [stripLifts, liftWords]
  simp [hs]
theorem make_of {P : Program} {ws : List (List Char)} (h : behindMainWord (wordsSigns P.initOrder.toList) = ['c', 'u', 't'] :: ws) : P.make = some .cut := by
  unfold Program.make
  rw [h]
  simp
theorem mayEnter_is : Try.prog.mayEnter = true := mayEnter_of wordsIs (by kernel_rfl) (by kernel_rfl) (by kernel_rfl)
theorem liftsFinal_is : Try.prog.liftsFinal = false := liftsFinal_of wordsIs
theorem make_is : Try.prog.make = some .cut := make_of wordsIs
end Go.Proofs.Ythpldilmeoggkaa
