/- FnExactSnapSame: for all arguments the program's SnapSame returns what the reference's returns, and leaves its arguments as they were. -/
import Derived.Test.YthpldilmeoggkaaPureFnExactSnapSame
import Derived.Test.YthpldilmeoggkaaOpSnap
namespace Go.Proofs.Ythpldilmeoggkaa
open Go.ChangeShapes Go.WideShapes Go.ChangeAt Go.RowKit Go.Proofs.Ythpldilmeoggkaa.Q Go.Proofs.Ythpldilmeoggkaa.Pure Go.Proofs.YthpldilmeoggkaaW.PrintWords
set_option linter.unusedVariables false
theorem exactSnapSame_walk (w : World) (x0 : S47) (A0_1 : Option Addr) (c0_1 : Nat) (hC0_1 : Kd.C k83 w A0_1 x0.f1.length x0.f1) (hc0_1 : x0.f1.length ≤ c0_1) (hw0 : wdSnap x0) (x1 : S47) (A1_1 : Option Addr) (c1_1 : Nat) (hC1_1 : Kd.C k83 w A1_1 x1.f1.length x1.f1) (hc1_1 : x1.f1.length ≤ c1_1) (hw1 : wdSnap x1) :
    Calls Try.prog 7 #[.agg #[.int .i64 x0.f0, .slice A0_1 x0.f1.length c0_1], .agg #[.int .i64 x1.f0, .slice A1_1 x1.f1.length c1_1]] w fun e w' => e = .returned (.bool true) ∧ Upd [] w w' := by
  obtain ⟨k, h⟩ := exactSnapSame_pure x0 hw0 x1 hw1
  exact (laws_FnExactSnapSame.calls k x0.f0 A0_1 c0_1 x0.f1 x1.f0 A1_1 c1_1 x1.f1 true w hC0_1 hc0_1 hC1_1 hc1_1 h).mono fun e w' ⟨h1, h2⟩ => ⟨h1, Upd.of_below h2 []⟩

set_option maxRecDepth 100000 in
theorem exactSnapSame_lifted (os : Os) (started : os.Started) (H : Type) (enc : TypeId × Value → H) :
    ReturnsInHanded {} Try.checked os 7 .any (Rows.fnExactSnapSameSpec.pre6 enc Try.prog Try.f7 Rows.fnExactSnapSameRow.domain false) (Rows.fnExactSnapSameSpec.post enc Try.prog Try.f7 false true false false) := by
  refine returnsInHanded_of_change (C := Try.checked) own_knob started (by kernel_rfl) Try.func7
    (ChangeSpec.witness6 (enc := enc) (C := Try.checked) false ⟨#[], #[.agg #[.int .i64 0, .slice none 0 0], .agg #[.int .i64 0, .slice none 0 0]], []⟩ 8 (by kernel_rfl) (by kernel_rfl) (by kernel_rfl) (by kernel_rfl)) ?_
  intro W base args ds gs before hval0 hW hcnd _
  have hval : ∀ (j : Nat) t v, Try.f7.params[j]? = some t → args[j]? = some v → Value.okWide Try.prog W .any base t v := hval0
  have hW' := hW
  obtain ⟨p, q, hA0, hV, rfl, hfz, hnd⟩ := hW
  have hA1 : DataW.TrodAll enc Try.prog W 0 (fun _ => true) true Try.f7.params.toList args.toList ds p := hA0
  have hA := hA1
  rw [Try.params7] at hA hval
  obtain ⟨v0, v1, d0, d1, p0, p1, rfl, rfl, rfl, h0, h1⟩ := trodAll_two hA
  obtain ⟨rfl, rfl⟩ := trodVars_none hV
  obtain ⟨x0, A0_1, c0_1, rfl, hc0_1, hC0_1, hw0⟩ := openTopSnap (hval 0 47 v0 rfl rfl) h0
  obtain ⟨x1, A1_1, c1_1, rfl, hc1_1, hC1_1, hw1⟩ := openTopSnap (hval 1 47 v1 rfl rfl) h1
  clear hA0 hval0
  simp only [List.append_nil] at hW'
  refine (exactSnapSame_walk W x0 A0_1 c0_1 hC0_1 hc0_1 hw0 x1 A1_1 c1_1 hC1_1 hc1_1 hw1).mono fun e W' ⟨he, hu⟩ => ?_
  subst he
  exact ⟨_, rfl, law_post laid_out (by rw [Try.params7]; decide +kernel) rfl Try.underlying4 rfl hW' hA1 rfl hu⟩

theorem exactSnapSame_closed : joinedFacts Try.prog 7 Try.f7 Rows.fnExactSnapSameSpec Rows.fnExactSnapSameRow = true := by
  simp only [joinedFacts, Bool.and_eq_true]
  and_intros
  all_goals (first | with_reducible exact mayEnter_is | (rw [liftsFinal_is]; rfl) | (rw [make_is]; rfl) | kernel_rfl)
theorem exactSnapSame_holds : Rows.FnExactSnapSameSaid :=
  OpenClaim.holds_of_wide 7 Try.f7 rfl rfl rfl rfl rfl rfl rfl ⟨rfl, rfl, rfl, rfl, rfl⟩ rfl rfl rfl rfl rfl (by kernel_rfl) Try.func7 exactSnapSame_closed
    (of_decide_eq_true (by kernel_rfl)) (by unfold Func.isWrapper; first | (rw [if_pos (by decide +kernel)]; kernel_rfl) | (rw [if_neg (by decide +kernel)]; exact ⟨rfl, rfl⟩))
    (fun os started H enc _ => exactSnapSame_lifted os started H enc)
end Go.Proofs.Ythpldilmeoggkaa
