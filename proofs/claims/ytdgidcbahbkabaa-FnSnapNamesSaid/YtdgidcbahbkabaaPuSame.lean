/- The reference's SnapSame, plainly. -/
import Derived.Test.YtdgidcbahbkabaaHSnapSame
import Derived.Test.YtdgidcbahbkabaaQx16
namespace Go.Proofs.Ytdgidcbahbkabaa.Q
open Go.RowKit Go.Proofs.YtdgidcbahbkabaaW.PrintWords
set_option linter.unusedVariables false
set_option linter.unusedSimpArgs false
theorem rdListedAt (xs : List Listed) (i : Nat) : rd_T40 xs (i : Int) = atListed xs i := rfl
theorem ints_same (xs ys : List Int) (h : xs.length = ys.length) : decide (xs = ys) = allFrom (fun i => decide (xs.getD i 0 = ys.getD i 0)) 0 xs.length := by
  rw [Bool.eq_iff_iff, allFrom_iff, decide_eq_true_iff]
  constructor
  · rintro rfl j _ _
    simp
  · intro hh
    refine List.ext_getElem h fun j h1 h2 => ?_
    have := hh j (Nat.zero_le _) h1
    simpa [h1, h2] using this
def smL (xs : List Listed) : Prop := ∀ x ∈ xs, x.f1.length ≤ 9223372036854775807
theorem specSame_ev (a b : Int) (xs ys : List Listed) (hl : xs.length ≤ 9223372036854775807) (hx : smL xs) (hy : smL ys) : Ev (fun k => spec_SnapSame.f k a xs b ys) (sameLs xs ys) := by
  unfold spec_SnapSame.f sameLs
  refine Ev.bind (a := decide (xs.length = ys.length) && allFrom (fun i => sameL1 (atListed xs i) (atListed ys i)) 0 xs.length) ?_ ev_some
  unfold spec_l12Same.f
  by_cases hlen : xs.length = ys.length
  · rw [decide_eq_true hlen, Bool.true_and]
    refine ev_pos (by omega) ?_
    refine downTo (P := fun i => Ev (fun k => spec_l12Same.l0 k (i : Int) a xs b ys) (allFrom (fun i => sameL1 (atListed xs i) (atListed ys i)) i xs.length)) (n := xs.length) ?_ ?_ 0 (Nat.zero_le _)
    · refine Ev.step (fun _ => spec_l12Same.l0.eq_2 ..) (ev_neg (nat_ge (Nat.le_refl _)) ?_)
      rw [allFrom_ge (Nat.le_refl _)]
      exact ev_some
    · intro i hi ih
      have hi2 : i < ys.length := by omega
      refine Ev.step (fun _ => spec_l12Same.l0.eq_2 ..) (ev_pos (nat_lt hi) (ev_pos (nat_0 i) (ev_pos (nat_lt hi2) ?_)))
      rw [allFrom_lt hi]
      simp only [rdListedAt]
      have hxi : (atListed xs i).f1.length ≤ 9223372036854775807 := by rw [atListed_get hi]; exact hx _ (List.getElem_mem _)
      by_cases h0 : (atListed xs i).f0.toList = (atListed ys i).f0.toList
      · refine ev_pos h0 (Ev.step (fun _ => spec_l12Same.j1.eq_2 ..) ?_)
        by_cases h1 : (atListed xs i).f1.length = (atListed ys i).f1.length
        · refine ev_neg (by simp [h1]) ?_
          have hs : sameL1 (atListed xs i) (atListed ys i) = allFrom (fun j => decide ((atListed xs i).f1.getD j 0 = (atListed ys i).f1.getD j 0)) 0 (atListed xs i).f1.length := by
            unfold sameL1
            rw [decide_eq_true h0, Bool.true_and, ints_same _ _ h1]
          rw [hs]
          refine downTo (P := fun j => Ev (fun k => spec_l12Same.l1 k (i : Int) (j : Int) a xs b ys) (allFrom (fun j => decide ((atListed xs i).f1.getD j 0 = (atListed ys i).f1.getD j 0)) j (atListed xs i).f1.length && allFrom (fun i => sameL1 (atListed xs i) (atListed ys i)) (i + 1) xs.length)) (n := (atListed xs i).f1.length) ?_ ?_ 0 (Nat.zero_le _)
          · refine Ev.step (fun _ => spec_l12Same.l1.eq_2 ..) (ev_pos (nat_0 i) (ev_pos (nat_lt hi) (ev_neg (nat_ge (Nat.le_refl _)) ?_)))
            rw [allFrom_ge (Nat.le_refl _), Bool.true_and, wrap_up i xs.length hi hl]
            exact ih
          · intro j hj ihj
            refine Ev.step (fun _ => spec_l12Same.l1.eq_2 ..) (ev_pos (nat_0 i) (ev_pos (nat_lt hi) (ev_pos (nat_lt hj) (ev_pos (nat_0 j) (ev_pos (nat_lt hi2) (ev_pos (nat_lt (show j < (atListed ys i).f1.length from by omega)) ?_))))))
            rw [allFrom_lt hj]
            simp only [rdListedAt, rdInt]
            by_cases he : (atListed xs i).f1.getD j 0 = (atListed ys i).f1.getD j 0
            · refine ev_pos he ?_
              rw [decide_eq_true he, Bool.true_and, wrap_up j _ hj hxi]
              exact ihj
            · refine ev_neg he ?_
              rw [decide_eq_false he, Bool.false_and, Bool.false_and]
              exact ev_some
        · refine ev_pos (by simp; omega) ?_
          have hs : sameL1 (atListed xs i) (atListed ys i) = false := by
            unfold sameL1
            rw [decide_eq_false (fun h : (atListed xs i).f1 = (atListed ys i).f1 => h1 (by rw [h])), Bool.and_false]
          rw [hs, Bool.false_and]
          exact ev_some
      · refine ev_neg h0 (Ev.step (fun _ => spec_l12Same.j1.eq_2 ..) (ev_pos rfl ?_))
        have hs : sameL1 (atListed xs i) (atListed ys i) = false := by
          unfold sameL1
          rw [decide_eq_false h0, Bool.false_and]
        rw [hs, Bool.false_and]
        exact ev_some
  · rw [decide_eq_false hlen, Bool.false_and]
    exact ev_neg (by omega) ev_some
end Go.Proofs.Ytdgidcbahbkabaa.Q
