/- FnExactSnapSame, plainly. -/
import Derived.Test.YthpldilmeoggkaaPuSame
import Derived.Test.YthpldilmeoggkaaPuKSnap
import Derived.Test.YthpldilmeoggkaaQx7
namespace Go.Proofs.Ythpldilmeoggkaa.Pure
open Go.RowKit Go.Proofs.Ythpldilmeoggkaa.Q Go.Proofs.YthpldilmeoggkaaW.PrintWords Go.Proofs.YthpldilmeoggkaaW.PrintLast
set_option linter.unusedVariables false
set_option linter.unusedSimpArgs false
theorem smL_cv (l : List S83) (h : ∀ x ∈ l, okListed x) : smL (l.map cvListed) := fun y hy => by
  obtain ⟨z, hz, rfl⟩ := List.mem_map.1 hy
  have := (h z hz).2
  simp only [cvListed]; omega
theorem exactSnapSame_pure (x : S47) (hx : wdSnap x) (y : S47) (hy : wdSnap y) : ∃ k, laws_FnExactSnapSame.f k x.f0 x.f1 y.f0 y.f1 = some true := by
  apply Ev.rounds
  unfold laws_FnExactSnapSame.f
  obtain ⟨r, e0, rl, ho⟩ := szSnap_ev x hx 1048576 (by omega) (by omega)
  refine Ev.bind e0 ?_
  by_cases hr : r < 0
  · exact ev_pos hr ev_some
  obtain ⟨r2, e1, _, ho2⟩ := szSnap_ev y hy r (by omega) rl
  refine ev_neg hr (Ev.bind e1 ?_)
  by_cases hr2 : r2 < 0
  · exact ev_pos hr2 ev_some
  have okx := ho (by omega)
  have oky := ho2 (by omega)
  have tx := toSnap_ev x okx
  have ty := toSnap_ev y oky
  have smx := sm_cvSnap x okx
  have smy := sm_cvSnap y oky
  have ex := eqSnap_self _ smx
  have ey := eqSnap_self _ smy
  have hs := specSame_ev (cvSnap x).f0 (cvSnap y).f0 (cvSnap x).f1 (cvSnap y).f1 smx.1 (smL_cv _ okx.2) (smL_cv _ oky.2)
  refine ev_neg hr2 (Ev.bind tx (Ev.bind ty (Ev.bind hs (Ev.bind tx (Ev.bind ty (ev_bindc rfl (ev_neg (by simp) (Ev.bind tx (Ev.bind ex (ev_pos rfl (Ev.bind ty (Ev.bind ey (ev_pos rfl ev_some)))))))))))))
end Go.Proofs.Ythpldilmeoggkaa.Pure
