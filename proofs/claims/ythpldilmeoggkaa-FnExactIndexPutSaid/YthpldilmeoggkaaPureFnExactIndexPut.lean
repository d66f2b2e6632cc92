/- FnExactIndexPut, plainly. -/
import Derived.Test.YthpldilmeoggkaaPuSpec
import Derived.Test.YthpldilmeoggkaaPuKSpot
import Derived.Test.YthpldilmeoggkaaQx14
namespace Go.Proofs.Ythpldilmeoggkaa.Pure
open Go.RowKit Go.Proofs.Ythpldilmeoggkaa.Q Go.Proofs.YthpldilmeoggkaaW.PrintWords Go.Proofs.YthpldilmeoggkaaW.PrintLast
set_option linter.unusedVariables false
set_option linter.unusedSimpArgs false
theorem bne_self2 (b : Bool) : (b != b) = false := by simp
theorem exactIndexPut_pure (l : List S38) (hw : l.length ≤ 9223372036854775807 ∧ ∀ x ∈ l, wdSpot x) (s : S38) (hs : wdSpot s) : ∃ k, laws_FnExactIndexPut.f k l s.f0 s.f1 = some true := by
  apply Ev.rounds
  unfold laws_FnExactIndexPut.f
  obtain ⟨r, e0, _, ho⟩ := szSpotS_ev l hw.1 hw.2 1048576 (by omega) (by omega)
  refine Ev.bind e0 ?_
  by_cases hr : r < 0
  · exact ev_pos hr ev_some
  obtain ⟨hl, hok⟩ := ho (by omega)
  obtain ⟨xs, hxs⟩ : ∃ xs, l.map cvSpot = xs := ⟨_, rfl⟩
  have e1 := toSpotS_ev l hl hok
  rw [hxs] at e1
  have hxl : xs.length ≤ 1048576 := by rw [← hxs, List.length_map]; exact hl
  have sm : ∀ zs : List Spot, ∀ x ∈ zs, smSpot x := fun _ _ _ => trivial
  have hP := specPut_len xs ⟨s.f0, s.f1⟩
  obtain ⟨P, hPe⟩ : ∃ P, specPut xs ⟨s.f0, s.f1⟩ = P := ⟨_, rfl⟩
  have e2 := specIndexPut_ev xs s.f0 s.f1 (by omega)
  have e3 := implIndexPut_eq xs s.f0 s.f1 (by omega)
  rw [hPe] at e2 e3 hP
  have eS := eqSpotS_self P.1 (by omega) (sm _)
  have eX := eqSpotS_self xs (by omega) (sm _)
  refine ev_neg hr (Ev.bind e1 (ev_bindc (toSpot_eq s) (Ev.bind e2 (Ev.bind e1 (ev_bindc (toSpot_eq s) (ev_bindc e3 (Ev.bind eS (ev_pos rfl ?_))))))))
  rw [bne_self2]
  refine Ev.step (fun _ => laws_FnExactIndexPut.j0.eq_2 ..) (ev_neg (by simp) (Ev.bind e1 (Ev.bind eX (ev_pos rfl (Ev.bind (markSpotS_ev xs 1 (by omega) (by omega) (by omega)) (ev_neg (by simp only; omega) (Ev.bind eS (ev_pos rfl ?_))))))))
  rw [bne_self2]
  have eM := markSpotS_ev P.1 1 (by omega) (by omega) (by omega)
  have eH := heldSpotS_ev P.1.length 1 (by omega) (by omega) (by omega)
  refine Ev.step (fun _ => laws_FnExactIndexPut.j1.eq_2 ..) (ev_neg (by simp) (Ev.bind eM (Ev.bind eH (ev_neg (by omega) (ev_pos rfl (Ev.bind e1 (ev_bindc (toSpot_eq s) (ev_bindc e3 (Ev.bind eS (ev_pos rfl ?_))))))))))
  rw [bne_self2]
  exact Ev.step (fun _ => laws_FnExactIndexPut.j2.eq_2 ..) (ev_neg (by simp) (Ev.bind eH (ev_neg (by omega) (ev_pos rfl ev_some))))
end Go.Proofs.Ythpldilmeoggkaa.Pure
