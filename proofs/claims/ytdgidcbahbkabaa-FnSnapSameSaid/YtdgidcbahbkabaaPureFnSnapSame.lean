/- FnSnapSame, plainly. -/
import Derived.Test.YtdgidcbahbkabaaPuLdSnap
import Derived.Test.YtdgidcbahbkabaaPuSnap
import Derived.Test.YtdgidcbahbkabaaQx23
namespace Go.Proofs.Ytdgidcbahbkabaa.Pure
open Go.RowKit Go.Proofs.Ytdgidcbahbkabaa.Q Go.Proofs.YtdgidcbahbkabaaW.PrintWords Go.Proofs.YtdgidcbahbkabaaW.PrintLast
set_option linter.unusedVariables false
set_option linter.unusedSimpArgs false
theorem smL_ofB {key : Int} {t : List TFile} (h : treeOkB t = true) : smL (ofB key t) := fun x hx => by
  have := (ofB_sm (key := key) h).2 x hx
  omega
theorem drawSnapSame_ev (l : List Int) (hb : ∀ b ∈ l, 0 ≤ b ∧ b < 256) (hl : l.length ≤ 1048576) : ∃ a xs b ys, Ev (fun k => spec_DrawSnapSame.f k l) (a, xs, b, ys) ∧ xs.length ≤ 6 ∧ ys.length ≤ 6 ∧ smL xs ∧ smL ys := by
  obtain ⟨s, e0, hs⟩ := open_code l hb (by omega)
  obtain ⟨t, u, p, e1, ht, hu, _, _⟩ := two_ev hs 0 (by omega) (by omega)
  unfold spec_DrawSnapSame.f
  have e2 := specTree_ev t (by omega)
  have e3 := specTree_ev u (by omega)
  cases h1 : treeOkB t
  · rw [h1] at e2
    exact ⟨1, [], 2, [], ev_bindc e0 (Ev.bind e1 (Ev.bind e2 (ev_neg (by simp) (Ev.step (fun _ => spec_DrawSnapSame.j0.eq_2 ..) (ev_pos rfl ev_some))))), by simp, by simp, fun x hx => by simp at hx, fun x hx => by simp at hx⟩
  · rw [h1] at e2
    cases h2 : treeOkB u
    · rw [h2] at e3
      exact ⟨1, [], 2, [], ev_bindc e0 (Ev.bind e1 (Ev.bind e2 (ev_pos rfl (Ev.bind e3 (Ev.step (fun _ => spec_DrawSnapSame.j0.eq_2 ..) (ev_pos rfl ev_some)))))), by simp, by simp, fun x hx => by simp at hx, fun x hx => by simp at hx⟩
    · rw [h2] at e3
      have e4 := specL12Of_ev 1 7 t (by omega) (fun f hf => by have := tree_sizes h1 f hf; omega)
      have e5 := specL12Of_ev 2 7 u (by omega) (fun f hf => by have := tree_sizes h2 f hf; omega)
      exact ⟨1, ofB 7 t, 2, ofB 7 u, ev_bindc e0 (Ev.bind e1 (Ev.bind e2 (ev_pos rfl (Ev.bind e3 (Ev.step (fun _ => spec_DrawSnapSame.j0.eq_2 ..) (ev_neg (by simp) (Ev.bind e4 (Ev.bind e5 ev_some)))))))), (ofB_sm h1).1, (ofB_sm h2).1, smL_ofB h1, smL_ofB h2⟩
theorem FnSnapSame : laws_FnSnapSame.Pure := by
  intro l0 hm _ hw
  unfold maxLen at hm
  apply Ev.rounds
  unfold laws_FnSnapSame.f
  by_cases hlen : (l0.length : Int) > 1048576
  · exact ev_pos hlen ev_some
  obtain ⟨a, xs, b, ys, e1, hx, hy, sx, sy⟩ := drawSnapSame_ev l0 (bytes_in hw) (by omega)
  refine ev_neg hlen (Ev.bind e1 (ev_bindc rfl (Ev.bind (specSame_ev a b xs ys (by omega) sx sy) (ev_neg (by simp) (Ev.bind (ldSnap_ev a xs ys (by omega) sx) (ev_pos (by simp) (ev_bindc rfl (ev_pos (sameLs_refl xs) (ev_bindc rfl ?_)))))))))
  rw [sameLs_comm ys xs]
  simp only [beq_self_eq_true]
  exact ev_some
end Go.Proofs.Ytdgidcbahbkabaa.Pure
