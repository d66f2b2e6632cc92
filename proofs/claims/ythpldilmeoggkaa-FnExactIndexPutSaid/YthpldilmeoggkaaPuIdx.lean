/- Indexes, plainly: what both sides' checks and puts come to. -/
import Derived.Test.YthpldilmeoggkaaPu
import Derived.Test.YthpldilmeoggkaaBSpot
import Derived.Test.YthpldilmeoggkaaQx11
import Derived.Test.YthpldilmeoggkaaQx10
namespace Go.Proofs.Ythpldilmeoggkaa.Q
open Go.RowKit Go.Proofs.YthpldilmeoggkaaW.PrintWords
set_option linter.unusedVariables false
set_option linter.unusedSimpArgs false

def spotB (a b : Int) : Bool := decide (0 ≤ a ∧ a < 999999999989 ∧ 1 ≤ b ∧ b ≤ 99)
theorem implSpotOk_eq (a b : Int) : impl_spotOk.f a b = some (spotB a b) := by
  unfold impl_spotOk.f impl_name_in.f spotB
  by_cases h1 : 0 ≤ a
  · by_cases h2 : a < 999999999989
    · by_cases h3 : 1 ≤ b <;> simp [h1, h2, h3]
    · simp [h1, h2]
  · simp [h1]
theorem rdSpot (xs : List Spot) (i : Nat) : rd_T25 xs (i : Int) = atSpot xs i := rfl
def idxAt (l : List Spot) (i : Nat) : Bool := spotB (atSpot l i).f0 (atSpot l i).f1 && (decide (i = 0) || decide ((atSpot l (i - 1)).f0 < (atSpot l i).f0))
def idxOk (l : List Spot) : Bool := allFrom (idxAt l) 0 l.length
theorem idxAt_eq (l : List Spot) (i : Nat) : idxAt l i = (spotB (atSpot l i).f0 (atSpot l i).f1 && (decide (i = 0) || decide ((atSpot l (i - 1)).f0 < (atSpot l i).f0))) := rfl
theorem implIndexOk_ev (l : List Spot) (hl : l.length ≤ 9223372036854775807) : Ev (fun k => impl_IndexOk.f k l) (idxOk l) := by
  unfold impl_IndexOk.f idxOk
  refine downTo (P := fun i => Ev (fun k => impl_IndexOk.l0 k l l (l.length : Int) (i : Int)) (allFrom (idxAt l) i l.length)) (n := l.length) ?_ ?_ 0 (Nat.zero_le _)
  · refine Ev.step (fun _ => impl_IndexOk.l0.eq_2 ..) ?_
    rw [allFrom_ge (Nat.le_refl _)]
    exact ev_neg (nat_ge (Nat.le_refl _)) ev_some
  · intro i hi ih
    refine Ev.step (fun _ => impl_IndexOk.l0.eq_2 ..) ?_
    rw [allFrom_lt hi, idxAt_eq]
    simp only [if_pos (nat_lt hi), if_pos (nat_0 i), rdSpot, implSpotOk_eq, Option.bind_some, wrap_up i _ hi hl]
    cases hb : spotB (atSpot l i).f0 (atSpot l i).f1
    · simp only [Bool.false_and]
      exact ev_neg (by simp) ev_some
    · simp only [if_true, Bool.true_and]
      by_cases h0 : i = 0
      · subst h0
        simpa using ih
      · simp only [if_pos (show (i : Int) > 0 from by omega), wrap_down i (by omega) (by omega), if_pos (nat_0 (i - 1)), if_pos (nat_lt (show i - 1 < l.length from by omega)), rdSpot, h0, decide_false, Bool.false_or]
        by_cases h1 : (atSpot l (i - 1)).f0 < (atSpot l i).f0
        · simp only [if_neg (show ¬ (atSpot l i).f0 ≤ (atSpot l (i - 1)).f0 from by omega), h1, decide_true, Bool.true_and]
          exact ih
        · simp only [if_pos (show (atSpot l i).f0 ≤ (atSpot l (i - 1)).f0 from by omega), h1, decide_false, Bool.false_and]
          exact ev_some
end Go.Proofs.Ythpldilmeoggkaa.Q
