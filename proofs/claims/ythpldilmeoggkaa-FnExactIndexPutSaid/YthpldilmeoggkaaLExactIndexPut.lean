/- FnExactIndexPut: for all arguments the program's IndexPut returns what the reference's returns, leaves its arguments as they were and hands back memory of its own. -/
import Derived.Test.YthpldilmeoggkaaPureFnExactIndexPut
import Derived.Test.YthpldilmeoggkaaOpSpot
namespace Go.Proofs.Ythpldilmeoggkaa
open Go.ChangeShapes Go.WideShapes Go.ChangeAt Go.RowKit Go.Proofs.Ythpldilmeoggkaa.Q Go.Proofs.Ythpldilmeoggkaa.Pure Go.Proofs.YthpldilmeoggkaaW.PrintWords
set_option linter.unusedVariables false
theorem exactIndexPut_walk (w : World) (A0 : Option Addr) (c0 : Nat) (x0 : List S38) (hC0 : Kd.C k38 w A0 x0.length x0) (hc0 : x0.length ≤ c0) (hw0 : x0.length ≤ 9223372036854775807 ∧ ∀ x ∈ x0, wdSpot x) (x1 : S38) (hw1 : wdSpot x1) :
    Calls Try.prog 5 #[.slice A0 x0.length c0, .agg #[.int .i64 x1.f0, .int .i64 x1.f1]] w fun e w' => e = .returned (.bool true) ∧ Upd [] w w' := by
  obtain ⟨k, h⟩ := exactIndexPut_pure x0 hw0 x1 hw1
  exact (laws_FnExactIndexPut.calls k A0 c0 x0 x1.f0 x1.f1 true w hC0 hc0 h).mono fun e w' ⟨h1, h2⟩ => ⟨h1, Upd.of_below h2 []⟩

set_option maxRecDepth 100000 in
theorem exactIndexPut_lifted (os : Os) (started : os.Started) (H : Type) (enc : TypeId × Value → H) :
    ReturnsInHanded {} Try.checked os 5 .any (Rows.fnExactIndexPutSpec.pre6 enc Try.prog Try.f5 Rows.fnExactIndexPutRow.domain false) (Rows.fnExactIndexPutSpec.post enc Try.prog Try.f5 false true false false) := by
  refine returnsInHanded_of_change (C := Try.checked) own_knob started (by kernel_rfl) Try.func5
    (ChangeSpec.witness6 (enc := enc) (C := Try.checked) false ⟨#[], #[.slice none 0 0, .agg #[.int .i64 0, .int .i64 0]], []⟩ 8 (by kernel_rfl) (by kernel_rfl) (by kernel_rfl) (by kernel_rfl)) ?_
  intro W base args ds gs before hval0 hW hcnd _
  have hval : ∀ (j : Nat) t v, Try.f5.params[j]? = some t → args[j]? = some v → Value.okWide Try.prog W .any base t v := hval0
  have hW' := hW
  obtain ⟨p, q, hA0, hV, rfl, hfz, hnd⟩ := hW
  have hA1 : DataW.TrodAll enc Try.prog W 0 (fun _ => true) true Try.f5.params.toList args.toList ds p := hA0
  have hA := hA1
  rw [Try.params5] at hA hval
  obtain ⟨v0, v1, d0, d1, p0, p1, rfl, rfl, rfl, h0, h1⟩ := trodAll_two hA
  obtain ⟨rfl, rfl⟩ := trodVars_none hV
  obtain ⟨A0, x0, c0, rfl, hc0, hC0, hw0⟩ := open_row Try.underlying37 (by kernel_rfl) opensSpot (hval 0 37 v0 rfl rfl) h0
  obtain ⟨x1, rfl, hw1⟩ := openTopSpot (hval 1 38 v1 rfl rfl) h1
  clear hA0 hval0
  simp only [List.append_nil] at hW'
  refine (exactIndexPut_walk W A0 c0 x0 hC0 hc0 hw0 x1 hw1).mono fun e W' ⟨he, hu⟩ => ?_
  subst he
  exact ⟨_, rfl, law_post laid_out (by rw [Try.params5]; decide +kernel) rfl Try.underlying4 rfl hW' hA1 rfl hu⟩

theorem exactIndexPut_closed : joinedFacts Try.prog 5 Try.f5 Rows.fnExactIndexPutSpec Rows.fnExactIndexPutRow = true := by
  simp only [joinedFacts, Bool.and_eq_true]
  and_intros
  all_goals (first | with_reducible exact mayEnter_is | (rw [liftsFinal_is]; rfl) | (rw [make_is]; rfl) | kernel_rfl)
theorem exactIndexPut_holds : Rows.FnExactIndexPutSaid :=
  OpenClaim.holds_of_wide 5 Try.f5 rfl rfl rfl rfl rfl rfl rfl ⟨rfl, rfl, rfl, rfl, rfl⟩ rfl rfl rfl rfl rfl (by kernel_rfl) Try.func5 exactIndexPut_closed
    (of_decide_eq_true (by kernel_rfl)) (by unfold Func.isWrapper; first | (rw [if_pos (by decide +kernel)]; kernel_rfl) | (rw [if_neg (by decide +kernel)]; exact ⟨rfl, rfl⟩))
    (fun os started H enc _ => exactIndexPut_lifted os started H enc)
end Go.Proofs.Ythpldilmeoggkaa
