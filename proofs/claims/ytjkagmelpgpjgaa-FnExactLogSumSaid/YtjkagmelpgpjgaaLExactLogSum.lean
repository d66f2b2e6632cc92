/- FnExactLogSum: for all arguments the program answers as the reference does, and leaves its arguments as they were. -/
import Derived.Test.YtjkagmelpgpjgaaLo
import Derived.Test.YtjkagmelpgpjgaaOHead
namespace Go.Proofs.Ytjkagmelpgpjgaa
open Go.ChangeShapes Go.WideShapes Go.ChangeAt Go.RowKit
set_option linter.unusedVariables false
set_option linter.unusedSimpArgs false

set_option maxRecDepth 100000 in
set_option maxHeartbeats 1000000 in
theorem exactLogSum_walk (w : World) (A0 : Option Addr) (c0 : Nat) (x0 : List Head) (hx0 : Sl w A0 (x0.flatMap encHead)) (hc0 : x0.length ≤ c0) (hm0 : c0 ≤ maxLen) :
    Calls Try.prog 6 #[.slice A0 x0.length c0] w fun e w' => e = .returned (.bool true) ∧ Upd [] w w' := by
  have hl0 : x0.length ≤ maxLen := Nat.le_trans hc0 hm0
  go_enter Try.func6, Try.ntmps6
  have UU : Upd [] w w := Upd.refl _ _
  go_wp2_with fail
  refine (szHeadS_any _ _ _ _ _ (by omega) (by omega) hl0).mono ?_
  rintro e w1 ⟨r0, rfl, ra0, rb0, uw1⟩
  replace UU := UU.trans uw1
  by_cases hr0 : r0 < 0
  · go_wp2
    go_ret
    exact ⟨rfl, UU⟩
  · have hn0 : x0.length ≤ 1048576 := by have := rb0 (by omega); omega
    go_wp2_with fail
    refine (toHeadS_any _ _ _ _ (hx0.grow UU) hn0).mono ?_
    rintro e w2 ⟨Bs0, rfl, os0, uw2⟩
    replace UU := UU.trans uw2
    go_wp2_with fail
    refine (specLogSum_any _ _ _ _ os0.sl hl0).mono ?_
    rintro e w3 ⟨rfl, uw3⟩
    replace os0 := os0.grow uw3
    replace UU := UU.trans uw3
    go_wp2_with fail
    refine (toHeadS_any _ _ _ _ (hx0.grow UU) hn0).mono ?_
    rintro e w4 ⟨Bx0, rfl, ox0, uw4⟩
    replace os0 := os0.grow uw4
    replace UU := UU.trans uw4
    go_wp2_with fail
    refine (implLogSum_any _ _ _ _ ox0.sl hl0).mono ?_
    rintro e w5 ⟨rfl, uw5⟩
    replace os0 := os0.grow uw5
    replace ox0 := ox0.grow uw5
    replace UU := UU.trans uw5
    generalize logSum x0 = V
    have hV : (V != V) = false := by simp
    go_wp2_with fail
    refine (toHeadS_any _ _ _ _ (hx0.grow UU) hn0).mono ?_
    rintro e w6 ⟨By0, rfl, oy0, uw6⟩
    replace os0 := os0.grow uw6
    replace ox0 := ox0.grow uw6
    replace UU := UU.trans uw6
    go_wp2_with fail
    refine (eqHeadS_any _ _ _ _ _ _ _ ox0.sl oy0.sl hl0).mono ?_
    rintro e w7 ⟨rfl, uw7⟩
    replace os0 := os0.grow uw7
    replace ox0 := ox0.grow uw7
    replace oy0 := oy0.grow uw7
    replace UU := UU.trans uw7
    rw [same_iff.2 rfl]
    go_wp2
    go_ret
    exact ⟨rfl, UU⟩

set_option maxRecDepth 100000 in
theorem exactLogSum_lifted (os : Os) (started : os.Started) (H : Type) (enc : TypeId × Value → H) :
    ReturnsInHanded {} Try.checked os 6 .any (Rows.fnExactLogSumSpec.pre6 enc Try.prog Try.f6 Rows.fnExactLogSumRow.domain false) (Rows.fnExactLogSumSpec.post enc Try.prog Try.f6 false true false false) := by
  refine returnsInHanded_of_change (C := Try.checked) own_knob started (by kernel_rfl) Try.func6
    (ChangeSpec.witness6 (enc := enc) (C := Try.checked) false ⟨#[], #[.slice none 0 0], []⟩ 8 (by kernel_rfl) (by kernel_rfl) (by kernel_rfl) (by kernel_rfl)) ?_
  intro W base args ds gs before hval0 hW hcnd _
  have hval : ∀ (j : Nat) t v, Try.f6.params[j]? = some t → args[j]? = some v → Value.okWide Try.prog W .any base t v := hval0
  have hW' := hW
  obtain ⟨p, q, hA0, hV, rfl, hfz, hnd⟩ := hW
  have hA1 : DataW.TrodAll enc Try.prog W 0 (fun _ => true) true Try.f6.params.toList args.toList ds p := hA0
  have hA := hA1
  rw [Try.params6] at hA hval
  obtain ⟨v0, d0, rfl, rfl, h0⟩ := trodAll_one hA
  obtain ⟨rfl, rfl⟩ := trodVars_none hV
  obtain ⟨A0, x0, c0, rfl, hc0, hm0, hs0⟩ := openHeadS (hval 0 29 v0 rfl rfl) h0
  clear hA0 hval0
  simp only [List.append_nil] at hW'
  refine (exactLogSum_walk W A0 c0 x0 hs0 hc0 hm0).mono fun e W' ⟨he, hu⟩ => ?_
  subst he
  exact ⟨_, rfl, law_post laid_out (by rw [Try.params6]; decide +kernel) rfl Try.underlying4 rfl hW' hA1 rfl hu⟩

theorem exactLogSum_closed : joinedFacts Try.prog 6 Try.f6 Rows.fnExactLogSumSpec Rows.fnExactLogSumRow = true := by
  simp only [joinedFacts, Bool.and_eq_true]
  and_intros
  all_goals (first | with_reducible exact mayEnter_is | (rw [liftsFinal_is]; rfl) | (rw [make_is]; rfl) | kernel_rfl)
theorem exactLogSum_holds : Rows.FnExactLogSumSaid :=
  OpenClaim.holds_of_wide 6 Try.f6 rfl rfl rfl rfl rfl rfl rfl ⟨rfl, rfl, rfl, rfl, rfl⟩ rfl rfl rfl rfl rfl (by kernel_rfl) Try.func6 exactLogSum_closed
    (of_decide_eq_true (by kernel_rfl)) (by unfold Func.isWrapper; first | (rw [if_pos (by decide +kernel)]; kernel_rfl) | (rw [if_neg (by decide +kernel)]; exact ⟨rfl, rfl⟩))
    (fun os started H enc _ => exactLogSum_lifted os started H enc)
end Go.Proofs.Ytjkagmelpgpjgaa
