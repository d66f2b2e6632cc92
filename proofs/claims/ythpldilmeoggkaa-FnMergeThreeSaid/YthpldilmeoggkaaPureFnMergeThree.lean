/- FnMergeThree, plainly: of three indexes it does not matter which are merged first. -/
import Derived.Test.YthpldilmeoggkaaPuSpec
import Derived.Test.YthpldilmeoggkaaQx22
namespace Go.Proofs.Ythpldilmeoggkaa.Pure
open Go.RowKit Go.Proofs.Ythpldilmeoggkaa.Q Go.Proofs.YthpldilmeoggkaaW.PrintWords Go.Proofs.YthpldilmeoggkaaW.PrintLast
set_option linter.unusedVariables false
set_option linter.unusedSimpArgs false
theorem merge_ok {a b : List Spot} (ha : idxOk a = true) (hb : idxOk b = true) : idxOk (putAll b a) = true := by
  obtain ⟨a1, a2⟩ := idxOk_iff.1 ha
  obtain ⟨b1, b2⟩ := idxOk_iff.1 hb
  refine idxOk_iff.2 ⟨putAll_asc a b1, fun x hx => ?_⟩
  rcases (putAll_mem a b1 a1 x).1 hx with h | ⟨h, _⟩
  · exact a2 x h
  · exact b2 x h
theorem merge_three {a b c : List Spot} (ha : Asc a) (hb : Asc b) (hc : Asc c) : putAll c (putAll b a) = putAll (putAll c b) a := by
  have h1 := putAll_asc a hb
  have h2 := putAll_asc b hc
  refine asc_ext (putAll_asc _ hc) (putAll_asc _ h2) fun y => ?_
  rw [putAll_mem _ hc h1, putAll_mem a hb ha, putAll_mem a h2 ha, putAll_mem b hc hb]
  constructor
  · rintro ((h | ⟨h, hn⟩) | ⟨h, hn⟩)
    · exact .inl h
    · exact .inr ⟨.inl h, hn⟩
    · refine .inr ⟨.inr ⟨h, fun x hx e => ?_⟩, fun x hx => hn x ((putAll_mem a hb ha x).2 (.inl hx))⟩
      by_cases hm : ∃ z ∈ a, x.f0 = z.f0
      · obtain ⟨z, hz, he⟩ := hm
        exact hn z ((putAll_mem a hb ha z).2 (.inl hz)) (e.trans he)
      · exact hn x ((putAll_mem a hb ha x).2 (.inr ⟨hx, fun z hz he => hm ⟨z, hz, he⟩⟩)) e
  · rintro (h | ⟨h | ⟨h, hm⟩, hn⟩)
    · exact .inl (.inl h)
    · exact .inl (.inr ⟨h, hn⟩)
    · refine .inr ⟨h, fun x hx => ?_⟩
      rcases (putAll_mem a hb ha x).1 hx with hx | ⟨hx, _⟩
      · exact hn x hx
      · exact hm x hx
theorem merge_self {a : List Spot} (ha : Asc a) : putAll a a = a := by
  refine asc_ext (putAll_asc _ ha) ha fun y => ?_
  rw [putAll_mem _ ha ha]
  constructor
  · rintro (h | ⟨h, _⟩) <;> exact h
  · exact .inl
theorem FnMergeThree : laws_FnMergeThree.Pure := by
  intro l0 l1 hm _ hw hm1 _ hw1
  unfold maxLen at hm hm1
  apply Ev.rounds
  unfold laws_FnMergeThree.f
  by_cases hlen : (l0.length : Int) > 1048576
  · exact ev_pos hlen (Ev.step (fun _ => laws_FnMergeThree.j0.eq_2 ..) (ev_pos rfl ev_some))
  refine ev_neg hlen (Ev.step (fun _ => laws_FnMergeThree.j0.eq_2 ..) ?_)
  by_cases hlen1 : (l1.length : Int) > 1048576
  · exact ev_pos (by simpa using hlen1) ev_some
  obtain ⟨a, b, e1, ha, hb⟩ := drawIndexMerge_ev l0 (bytes_in hw) (by (try dsimp only); omega)
  have hml := specMerge_len a b
  refine ev_neg (by simpa using hlen1) (Ev.bind e1 (ev_bindc (implMerge_eq a b (by (try dsimp only); omega) (by (try dsimp only); omega)) (Ev.bind (specMerge_ev a b (by (try dsimp only); omega) (by (try dsimp only); omega)) (Ev.bind (ldIndex_ev _ _ (by (try dsimp only); omega)) (ev_pos (by simp) (Ev.bind (specIndexOk_ev a (by (try dsimp only); omega)) ?_))))))
  have no : Ev (fun k => laws_FnMergeThree.j1 k l1 a b (specMerge a b) true) true := by
    refine Ev.step (fun _ => laws_FnMergeThree.j1.eq_2 ..) (ev_pos rfl (Ev.bind (specMerge_ev a b (by (try dsimp only); omega) (by (try dsimp only); omega)) (Ev.bind (ldIndex_ev _ _ (by (try dsimp only); omega)) ?_)))
    simp only [decide_true]
    exact ev_some
  cases h1 : idxOk a
  · exact ev_neg (by simp) no
  refine ev_pos rfl (Ev.bind (specIndexOk_ev b (by (try dsimp only); omega)) ?_)
  cases h2 : idxOk b
  · exact no
  have hs : specMerge a b = putAll b a := by unfold specMerge; rw [if_pos ⟨h1, h2⟩]
  have hmo := merge_ok h1 h2
  rw [hs] at hml ⊢
  refine Ev.step (fun _ => laws_FnMergeThree.j1.eq_2 ..) (ev_neg (by simp) ?_)
  obtain ⟨c, e2, hc⟩ := drawIndexOk_ev l1 (bytes_in hw1) (by (try dsimp only); omega)
  refine Ev.bind e2 (Ev.bind (implIndexOk_ev c (by (try dsimp only); omega)) ?_)
  cases h3 : idxOk c
  · refine ev_neg (by simp) (ev_bindc (implMerge_eq _ _ (by (try dsimp only); omega) (by simp)) ?_)
    have : specMerge (putAll b a) [] = putAll b a := by
      unfold specMerge
      rw [if_pos ⟨hmo, rfl⟩]
      exact putAll_same (l := []) (by simpa using (idxOk_iff.1 hmo).1)
    rw [this]
    refine Ev.bind (ldIndex_ev _ _ (by (try dsimp only); omega)) ?_
    simp only [decide_true]
    exact ev_some
  · have hbc := merge_ok h2 h3
    have l1' := putAll_len b c
    have l2' := putAll_len (putAll b a) c
    have s1 : specMerge (putAll b a) c = putAll c (putAll b a) := by unfold specMerge; rw [if_pos ⟨hmo, h3⟩]
    have s2 : specMerge b c = putAll c b := by unfold specMerge; rw [if_pos ⟨h2, h3⟩]
    have s3 : specMerge a (putAll c b) = putAll (putAll c b) a := by unfold specMerge; rw [if_pos ⟨h1, hbc⟩]
    have s4 : specMerge a a = a := by unfold specMerge; rw [if_pos ⟨h1, h1⟩, merge_self (idxOk_iff.1 h1).1]
    have s5 : specMerge [] a = a := by unfold specMerge; rw [if_pos ⟨rfl, h1⟩]; rfl
    refine ev_pos rfl (ev_bindc (implMerge_eq _ _ (by (try dsimp only); omega) (by (try dsimp only); omega)) (ev_bindc (implMerge_eq _ _ (by (try dsimp only); omega) (by (try dsimp only); omega)) ?_))
    rw [s2]
    refine ev_bindc (implMerge_eq _ _ (by (try dsimp only); omega) (by (try dsimp only); omega)) ?_
    rw [s1, s3]
    refine Ev.bind (ldIndex_ev _ _ (by (try dsimp only); omega)) (ev_pos (by rw [decide_eq_true_iff]; exact merge_three (idxOk_iff.1 h1).1 (idxOk_iff.1 h2).1 (idxOk_iff.1 h3).1) (ev_bindc (implMerge_eq _ _ (by (try dsimp only); omega) (by (try dsimp only); omega)) ?_))
    rw [s4]
    refine Ev.bind (ldIndex_ev _ _ (by (try dsimp only); omega)) (ev_pos (by simp) (ev_bindc (implMerge_eq _ _ (by simp) (by (try dsimp only); omega)) ?_))
    rw [s5]
    refine Ev.bind (ldIndex_ev _ _ (by (try dsimp only); omega)) ?_
    simp only [decide_true]
    exact ev_some
end Go.Proofs.Ythpldilmeoggkaa.Pure
