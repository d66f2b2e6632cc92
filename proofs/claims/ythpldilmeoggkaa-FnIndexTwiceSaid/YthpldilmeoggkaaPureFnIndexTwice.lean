/- FnIndexTwice, plainly: a name that is put twice is where it was put last, and two names are put in either order. -/
import Derived.Test.YthpldilmeoggkaaPuSpec
import Derived.Test.YthpldilmeoggkaaQx18
namespace Go.Proofs.Ythpldilmeoggkaa.Pure
open Go.RowKit Go.Proofs.Ythpldilmeoggkaa.Q Go.Proofs.YthpldilmeoggkaaW.PrintWords Go.Proofs.YthpldilmeoggkaaW.PrintLast
set_option linter.unusedVariables false
set_option linter.unusedSimpArgs false
theorem bne_self (b : Bool) : ¬ (b != b) = true := by simp
theorem put_again {l : List Spot} (h : Asc l) {s a : Spot} (he : a.f0 = s.f0) : putL (putL l s) a = putL l a := by
  have h1 := putL_asc h s
  refine asc_ext (putL_asc h1 a) (putL_asc h a) fun y => ?_
  rw [putL_mem h1, putL_mem h, putL_mem h]
  constructor
  · rintro (rfl | ⟨rfl | h, hn⟩)
    · exact .inl rfl
    · exact absurd he.symm hn
    · exact .inr ⟨h.1, hn⟩
  · rintro (rfl | ⟨h, hn⟩)
    · exact .inl rfl
    · exact .inr ⟨.inr ⟨h, by rwa [← he]⟩, hn⟩
theorem put_swap {l : List Spot} (h : Asc l) {s b : Spot} (hn : b.f0 ≠ s.f0) : putL (putL l s) b = putL (putL l b) s := by
  have h1 := putL_asc h s
  have h2 := putL_asc h b
  refine asc_ext (putL_asc h1 b) (putL_asc h2 s) fun y => ?_
  rw [putL_mem h1, putL_mem h, putL_mem h2, putL_mem h]
  constructor
  · rintro (rfl | ⟨rfl | h, hm⟩)
    · exact .inr ⟨.inl rfl, hn⟩
    · exact .inl rfl
    · exact .inr ⟨.inr ⟨h.1, hm⟩, h.2⟩
  · rintro (rfl | ⟨rfl | h, hm⟩)
    · exact .inr ⟨.inl rfl, fun e => hn e.symm⟩
    · exact .inl rfl
    · exact .inr ⟨.inr ⟨h.1, hm⟩, h.2⟩
theorem specPut_yes {l : List Spot} (h1 : idxOk l = true) {s : Spot} (h2 : spotB s.f0 s.f1 = true) : specPut l s = (putL l s, true) := by unfold specPut; rw [if_pos ⟨h1, h2⟩]
theorem FnIndexTwice : laws_FnIndexTwice.Pure := by
  intro l0 l1 hm _ hw hm1 _ hw1
  unfold maxLen at hm hm1
  apply Ev.rounds
  unfold laws_FnIndexTwice.f
  by_cases hlen : (l0.length : Int) > 1048576
  · exact ev_pos hlen (Ev.step (fun _ => laws_FnIndexTwice.j0.eq_2 ..) (ev_pos rfl ev_some))
  refine ev_neg hlen (Ev.step (fun _ => laws_FnIndexTwice.j0.eq_2 ..) ?_)
  by_cases hlen1 : (l1.length : Int) > 1048576
  · exact ev_pos (by simpa using hlen1) ev_some
  obtain ⟨xs, a, b, e1, hx⟩ := drawIndexPut_ev l0 (bytes_in hw) (by (try dsimp only); omega)
  refine ev_neg (by simpa using hlen1) (Ev.bind e1 (Ev.bind (specIndexPut_ev xs a b (by (try dsimp only); omega)) (ev_bindc (implIndexPut_eq xs a b (by (try dsimp only); omega)) (ev_neg (bne_self _) (Ev.bind (ldIndex_ev _ _ (by have := specPut_len xs ⟨a, b⟩; omega)) (ev_pos (by simp) ?_))))))
  by_cases h : idxOk xs = true ∧ spotB a b = true
  · obtain ⟨h1, h2⟩ := h
    have hp := specPut_yes h1 (s := ⟨a, b⟩) h2
    rw [hp]
    have ha := (idxOk_iff.1 h1).1
    have hl := putL_len xs ⟨a, b⟩
    have hy := idxOk_put (s := ⟨a, b⟩) h1 h2
    refine Ev.step (fun _ => laws_FnIndexTwice.j1.eq_2 ..) (ev_neg (by simp) ?_)
    obtain ⟨p9, h9⟩ : ∃ p9, 1 + ((l1.length : Int) % 9) = p9 := ⟨_, rfl⟩
    obtain ⟨n13, h13⟩ : ∃ n13, (l1.length : Int) % 13 = n13 := ⟨_, rfl⟩
    have s9 : spotB a p9 = true := by
      unfold spotB at h2 ⊢
      rw [decide_eq_true_iff] at h2 ⊢
      omega
    have s13 : spotB n13 8 = true := by
      unfold spotB
      rw [decide_eq_true_iff]
      omega
    rw [h9, h13]
    have hv := putL_len xs ⟨n13, 8⟩
    have hvo := idxOk_put (s := ⟨n13, 8⟩) h1 s13
    refine ev_bindc (implIndexPut_eq _ a p9 (by (try dsimp only); omega)) (ev_bindc (implIndexPut_eq _ a p9 (by (try dsimp only); omega)) (ev_bindc (implIndexPut_eq _ n13 8 (by (try dsimp only); omega)) (ev_bindc (implIndexPut_eq _ n13 8 (by (try dsimp only); omega)) ?_)))
    simp only [specPut_yes hy (s := ⟨a, p9⟩) s9, specPut_yes h1 (s := ⟨a, p9⟩) s9, specPut_yes hy (s := ⟨n13, 8⟩) s13, specPut_yes h1 (s := ⟨n13, 8⟩) s13]
    refine ev_bindc (implIndexPut_eq _ a b (by (try dsimp only); omega)) ?_
    have hq := putL_len (putL xs ⟨a, b⟩) ⟨a, p9⟩
    have hq2 := putL_len (putL xs ⟨a, b⟩) ⟨n13, 8⟩
    simp only [specPut_yes hvo (s := ⟨a, b⟩) h2]
    refine Ev.bind (ldIndex_ev _ _ (by (try dsimp only); omega)) (ev_pos (by rw [decide_eq_true_iff]; exact put_again ha rfl) ?_)
    by_cases hn : n13 = a
    · exact ev_pos hn ev_some
    · refine ev_neg hn (Ev.bind (ldIndex_ev _ _ (by (try dsimp only); omega)) ?_)
      rw [decide_eq_true (put_swap ha (s := ⟨a, b⟩) (b := ⟨n13, 8⟩) hn)]
      exact ev_some
  · have hp : specPut xs ⟨a, b⟩ = ([], false) := by unfold specPut; rw [if_neg h]
    rw [hp]
    refine Ev.step (fun _ => laws_FnIndexTwice.j1.eq_2 ..) (ev_pos (by simp) (ev_pos (by simp) (Ev.bind (ldIndex_ev _ _ (by simp)) ?_)))
    simp only [decide_true]
    exact ev_some
end Go.Proofs.Ythpldilmeoggkaa.Pure
