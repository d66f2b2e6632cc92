/- FnIndexPut, plainly: what is put is found, all else as it was. -/
import Derived.Test.YthpldilmeoggkaaPuSpec
import Derived.Test.YthpldilmeoggkaaQx17
namespace Go.Proofs.Ythpldilmeoggkaa.Pure
open Go.RowKit Go.Proofs.Ythpldilmeoggkaa.Q Go.Proofs.YthpldilmeoggkaaW.PrintWords Go.Proofs.YthpldilmeoggkaaW.PrintLast
set_option linter.unusedVariables false
set_option linter.unusedSimpArgs false
theorem bne_self (b : Bool) : ¬ (b != b) = true := by simp
theorem FnIndexPut : laws_FnIndexPut.Pure := by
  intro l0 hm _ hw
  unfold maxLen at hm
  apply Ev.rounds
  unfold laws_FnIndexPut.f
  by_cases hlen : (l0.length : Int) > 1048576
  · exact ev_pos hlen ev_some
  obtain ⟨xs, a, b, e1, hx⟩ := drawIndexPut_ev l0 (bytes_in hw) (by omega)
  refine ev_neg hlen (Ev.bind e1 (Ev.bind (specIndexPut_ev xs a b (by omega)) (ev_bindc (implIndexPut_eq xs a b (by omega)) (ev_neg (bne_self _) (Ev.bind (ldIndex_ev _ _ (by have := specPut_len xs ⟨a, b⟩; omega)) (ev_pos (by simp) ?_))))))
  by_cases h : idxOk xs = true ∧ spotB a b = true
  · have hp : specPut xs ⟨a, b⟩ = (putL xs ⟨a, b⟩, true) := by unfold specPut; rw [if_pos h]
    rw [hp]
    obtain ⟨h1, h2⟩ := h
    have ha := (idxOk_iff.1 h1).1
    have hyl := putL_len xs ⟨a, b⟩
    have hy := idxOk_put (s := ⟨a, b⟩) h1 h2
    have hya := putL_asc ha ⟨a, b⟩
    have hag : putL (putL xs ⟨a, b⟩) ⟨a, b⟩ = putL xs ⟨a, b⟩ := by
      refine asc_ext (putL_asc hya _) hya fun y => ?_
      rw [putL_mem hya, putL_mem ha]
      constructor
      · rintro (rfl | ⟨h, _⟩)
        · exact .inl rfl
        · exact h
      · rintro (rfl | ⟨h, hn⟩)
        · exact .inl rfl
        · exact .inr ⟨.inr ⟨h, hn⟩, hn⟩
    refine Ev.step (fun _ => laws_FnIndexPut.j0.eq_2 ..) (ev_neg (by simp) ?_)
    refine downTo (P := fun i => Ev (fun k => laws_FnIndexPut.l0 k xs (putL xs ⟨a, b⟩) (i : Int) a b) true) (n := 14) ?_ ?_ 0 (by omega)
    · refine Ev.step (fun _ => laws_FnIndexPut.l0.eq_2 ..) (ev_neg (by omega) ?_)
      have hp2 : specPut (putL xs ⟨a, b⟩) ⟨a, b⟩ = (putL xs ⟨a, b⟩, true) := by unfold specPut; rw [if_pos ⟨hy, h2⟩, hag]
      refine ev_bindc (implIndexPut_eq _ a b (by omega)) ?_
      rw [hp2]
      refine ev_pos rfl (Ev.bind (ldIndex_ev _ _ (by simp only; omega)) (ev_pos (by simp) (Ev.bind (implIndexOk_ev _ (by omega)) ?_)))
      rw [hy]
      exact ev_some
    · intro i hi ih
      refine Ev.step (fun _ => laws_FnIndexPut.l0.eq_2 ..) (ev_pos (by omega) (ev_bindc (implFind_eq xs _ (by omega)) ?_))
      have hf := look_put ha ⟨a, b⟩ (i : Int)
      rw [wrap_up i 14 hi (by omega), if_pos h1]
      by_cases hia : (i : Int) = a
      · refine ev_pos hia (ev_bindc (implFind_eq _ _ (by omega)) ?_)
        rw [if_pos hy, hf, if_pos hia]
        exact ev_pos rfl ih
      · refine ev_neg hia (ev_bindc (implFind_eq _ _ (by omega)) ?_)
        rw [if_pos hy, hf, if_neg hia]
        exact ev_pos rfl ih
  · have hp : specPut xs ⟨a, b⟩ = ([], false) := by unfold specPut; rw [if_neg h]
    rw [hp]
    refine Ev.step (fun _ => laws_FnIndexPut.j0.eq_2 ..) (ev_pos (by simp) (ev_pos (by simp) (Ev.bind (ldIndex_ev _ _ (by simp)) ?_)))
    simp only [decide_true]
    exact ev_some
end Go.Proofs.Ythpldilmeoggkaa.Pure
