/- What the exact laws' helpers over Int come to, plainly. -/
import Derived.Test.YthpldilmeoggkaaPuK0
import Derived.Test.YthpldilmeoggkaaQx3
import Derived.Test.YthpldilmeoggkaaQx6
import Derived.Test.YthpldilmeoggkaaQx2
namespace Go.Proofs.Ythpldilmeoggkaa.Q
open Go.RowKit Go.Proofs.YthpldilmeoggkaaW.PrintWords
set_option linter.unusedVariables false
set_option linter.unusedSimpArgs false
theorem toIntS_ev (xs : List Int) (h : xs.length ≤ 1048576) : Ev (fun k => laws_toIntS.f k xs) (xs) := by
  unfold laws_toIntS.f
  refine ev_pos (nat_0 _) (ev_pos (by rw [toNat_nat]; omega) ?_)
  rw [toNat_nat]
  have key := downTo (P := fun i => Ev (fun k => laws_toIntS.l0 k xs ((xs.take i).map (fun x => x) ++ List.replicate (xs.length - i) 0) (i : Int)) (xs.map (fun x => x))) (n := xs.length) ?_ ?_ 0 (Nat.zero_le _)
  · simpa using key
  · refine Ev.step (fun _ => laws_toIntS.l0.eq_2 ..) (ev_neg (nat_ge (Nat.le_refl _)) ?_)
    rw [copy_end]
    exact ev_some
  · intro i hi ih
    have hl := copy_len (fun x => x) 0 xs i (by omega)
    have hs := copy_step (fun x => x) 0 xs i hi
    refine Ev.step (fun _ => laws_toIntS.l0.eq_2 ..) (ev_pos (nat_lt hi) (ev_pos (nat_0 i) ((ev_pos (by rw [hl]; exact nat_lt hi) ?_))))
    rw [wrap_up i xs.length hi (by omega), toNat_nat]
    have hr : rd xs (i : Int) = (fun x => x) xs[i] := by simp [rd, hi]
    rw [hr, hs]
    exact ih
theorem eqIntS_self (xs : List Int) (hl : xs.length ≤ 9223372036854775807) : Ev (fun k => laws_eqIntS.f k xs xs) true := by
  unfold laws_eqIntS.f
  refine ev_pos rfl ?_
  refine downTo (P := fun i => Ev (fun k => laws_eqIntS.l0 k xs xs (i : Int)) true) (n := xs.length) ?_ ?_ 0 (Nat.zero_le _)
  · exact Ev.step (fun _ => laws_eqIntS.l0.eq_2 ..) (ev_neg (nat_ge (Nat.le_refl _)) ev_some)
  · intro i hi ih
    refine Ev.step (fun _ => laws_eqIntS.l0.eq_2 ..) (ev_pos (nat_lt hi) (ev_pos (nat_0 i) (ev_pos (nat_lt hi) (ev_pos rfl ?_))))
    rw [wrap_up i xs.length hi hl]
    exact ih
theorem szIntS_ev (xs : List Int) (hl : xs.length ≤ 9223372036854775807) (left : Int) (h0 : 0 ≤ left) (h1 : left ≤ 1048576) : ∃ r, Ev (fun _ => laws_szIntS.f xs left) r ∧ r ≤ left ∧ (0 ≤ r → xs.length ≤ 1048576 ∧ True) := by
  unfold laws_szIntS.f
  have w := wrap_sub left xs.length h0 h1 hl
  rw [w]
  by_cases g : left - (xs.length : Int) < 0
  · exact ⟨-1, ev_pos g ev_some, by omega, by omega⟩
  · exact ⟨_, ev_neg g ev_some, by omega, fun _ => ⟨by omega, trivial⟩⟩
end Go.Proofs.Ythpldilmeoggkaa.Q
