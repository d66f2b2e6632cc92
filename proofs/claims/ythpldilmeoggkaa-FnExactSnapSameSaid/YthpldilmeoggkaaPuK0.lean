/- What the exact laws' helpers come to, plainly: copies, equality of a thing with itself, sizes. -/
import Derived.Test.YthpldilmeoggkaaPu
namespace Go.Proofs.Ythpldilmeoggkaa.Q
open Go.RowKit Go.Proofs.YthpldilmeoggkaaW.PrintWords
set_option linter.unusedVariables false
set_option linter.unusedSimpArgs false
theorem set_mid {α : Type} (a b : List α) (x y : α) (i : Nat) (h : i = a.length) : (a ++ x :: b).set i y = a ++ y :: b := by subst h; simp [List.set_append]
theorem get_mid {α : Type} (a b : List α) (x z : α) (i : Nat) (h : i = a.length) : (a ++ x :: b).getD i z = x := by subst h; simp [List.getD]
theorem toNat_nat (i : Nat) : ((i : Int)).toNat = i := Int.toNat_natCast i
/-- One more has been copied. -/
theorem copy_step {α β : Type} (f : α → β) (z : β) (xs : List α) (i : Nat) (h : i < xs.length) : ((xs.take i).map f ++ List.replicate (xs.length - i) z).set i (f xs[i]) = (xs.take (i + 1)).map f ++ List.replicate (xs.length - (i + 1)) z := by
  have hl : ((xs.take i).map f).length = i := by rw [List.length_map, List.length_take]; omega
  rw [show xs.length - i = (xs.length - (i + 1)) + 1 from by omega, List.replicate_succ, set_mid _ _ _ _ _ hl.symm, List.take_succ_eq_append_getElem h, List.map_append]
  simp
theorem copy_end {α β : Type} (f : α → β) (z : β) (xs : List α) : (xs.take xs.length).map f ++ List.replicate (xs.length - xs.length) z = xs.map f := by simp
theorem copy_len {α β : Type} (f : α → β) (z : β) (xs : List α) (i : Nat) (h : i ≤ xs.length) : ((xs.take i).map f ++ List.replicate (xs.length - i) z).length = xs.length := by simp; omega
theorem wrap_sub (a : Int) (n : Nat) (h0 : 0 ≤ a) (h1 : a ≤ 1048576) (hn : n ≤ 9223372036854775807) : wrap64 (a - (n : Int)) = a - n := by unfold wrap64; omega
end Go.Proofs.Ythpldilmeoggkaa.Q
