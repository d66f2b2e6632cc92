/- The laws' ways to say that numbers and snapshots are the same, plainly. -/
import Derived.Test.YtdgidcbahbkabaaPuSame
import Derived.Test.YtdgidcbahbkabaaQx12
import Derived.Test.YtdgidcbahbkabaaQx17
namespace Go.Proofs.Ytdgidcbahbkabaa.Q
open Go.RowKit Go.Proofs.YtdgidcbahbkabaaW.PrintWords
set_option linter.unusedVariables false
set_option linter.unusedSimpArgs false
theorem ldInts_ev (xs ys : List Int) (hx : xs.length ≤ 9223372036854775807) : Ev (fun k => laws_ldInts.f k xs ys) (decide (xs = ys)) := by
  unfold laws_ldInts.f
  by_cases hl : xs.length = ys.length
  · refine ev_pos (by omega) ?_
    rw [ints_same _ _ hl]
    refine downTo (P := fun i => Ev (fun k => laws_ldInts.l0 k xs ys (i : Int)) (allFrom (fun i => decide (xs.getD i 0 = ys.getD i 0)) i xs.length)) (n := xs.length) ?_ ?_ 0 (Nat.zero_le _)
    · refine Ev.step (fun _ => laws_ldInts.l0.eq_2 ..) ?_
      rw [allFrom_ge (Nat.le_refl _)]
      exact ev_neg (nat_ge (Nat.le_refl _)) ev_some
    · intro i hi ih
      refine Ev.step (fun _ => laws_ldInts.l0.eq_2 ..) (ev_pos (nat_lt hi) (ev_pos (nat_0 i) (ev_pos (nat_lt (by omega)) ?_)))
      rw [allFrom_lt hi, wrap_up i xs.length hi hx]
      simp only [rdInt]
      by_cases he : xs.getD i 0 = ys.getD i 0
      · refine ev_pos he ?_
        rw [decide_eq_true he, Bool.true_and]
        exact ih
      · refine ev_neg he ?_
        rw [decide_eq_false he, Bool.false_and]
        exact ev_some
  · rw [decide_eq_false (fun h => hl (by rw [h]))]
    exact ev_neg (by omega) ev_some
theorem ldSnap_ev (a : Int) (xs ys : List Listed) (hl : xs.length ≤ 9223372036854775807) (hx : smL xs) : Ev (fun k => laws_ldSnap.f k a xs a ys) (sameLs xs ys) := by
  unfold laws_ldSnap.f sameLs
  refine ev_pos rfl (Ev.step (fun _ => laws_ldSnap.j0.eq_2 ..) ?_)
  by_cases hlen : xs.length = ys.length
  · rw [decide_eq_true hlen, Bool.true_and]
    refine ev_neg (by simp [hlen]) ?_
    refine downTo (P := fun i => Ev (fun k => laws_ldSnap.l0 k (i : Int) a xs a ys) (allFrom (fun i => sameL1 (atListed xs i) (atListed ys i)) i xs.length)) (n := xs.length) ?_ ?_ 0 (Nat.zero_le _)
    · refine Ev.step (fun _ => laws_ldSnap.l0.eq_2 ..) (ev_neg (nat_ge (Nat.le_refl _)) ?_)
      rw [allFrom_ge (Nat.le_refl _)]
      exact ev_some
    · intro i hi ih
      refine Ev.step (fun _ => laws_ldSnap.l0.eq_2 ..) (ev_pos (nat_lt hi) (ev_pos (nat_0 i) (ev_pos (nat_lt (by omega)) ?_)))
      rw [allFrom_lt hi, wrap_up i xs.length hi hl]
      simp only [rdListedAt]
      have hxi : (atListed xs i).f1.length ≤ 9223372036854775807 := by rw [atListed_get hi]; exact hx _ (List.getElem_mem _)
      unfold sameL1 at *
      by_cases h0 : (atListed xs i).f0.toList = (atListed ys i).f0.toList
      · rw [decide_eq_true h0, Bool.true_and]
        refine ev_pos h0 (Ev.bind (ldInts_ev _ _ hxi) ?_)
        by_cases h1 : (atListed xs i).f1 = (atListed ys i).f1
        · rw [decide_eq_true h1, Bool.true_and]
          exact ev_pos rfl ih
        · rw [decide_eq_false h1, Bool.false_and]
          exact ev_neg (by simp) ev_some
      · rw [decide_eq_false h0, Bool.false_and, Bool.false_and]
        exact ev_neg h0 ev_some
  · rw [decide_eq_false hlen, Bool.false_and]
    exact ev_pos (by simp; omega) ev_some
theorem sameLs_iff {xs ys : List Listed} : sameLs xs ys = true ↔ xs.length = ys.length ∧ ∀ i, i < xs.length → (atListed xs i).f0.toList = (atListed ys i).f0.toList ∧ (atListed xs i).f1 = (atListed ys i).f1 := by
  unfold sameLs sameL1
  simp only [Bool.and_eq_true, decide_eq_true_eq, allFrom_iff]
  exact ⟨fun ⟨h1, h2⟩ => ⟨h1, fun i hi => h2 i (Nat.zero_le _) hi⟩, fun ⟨h1, h2⟩ => ⟨h1, fun i _ hi => h2 i hi⟩⟩
theorem sameLs_refl (xs : List Listed) : sameLs xs xs = true := sameLs_iff.2 ⟨rfl, fun _ _ => ⟨rfl, rfl⟩⟩
theorem sameLs_comm (xs ys : List Listed) : sameLs xs ys = sameLs ys xs := by
  rw [Bool.eq_iff_iff, sameLs_iff, sameLs_iff]
  exact ⟨fun ⟨h1, h2⟩ => ⟨h1.symm, fun i hi => ⟨(h2 i (by omega)).1.symm, (h2 i (by omega)).2.symm⟩⟩, fun ⟨h1, h2⟩ => ⟨h1.symm, fun i hi => ⟨(h2 i (by omega)).1.symm, (h2 i (by omega)).2.symm⟩⟩⟩
end Go.Proofs.Ytdgidcbahbkabaa.Q
