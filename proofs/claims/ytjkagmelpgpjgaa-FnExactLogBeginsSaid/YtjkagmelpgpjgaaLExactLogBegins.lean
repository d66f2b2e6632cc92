/- FnExactLogBegins: for all arguments the program answers as the reference does, and leaves its arguments as they were. -/
import Derived.Test.YtjkagmelpgpjgaaLo
import Derived.Test.YtjkagmelpgpjgaaOHead
namespace Go.Proofs.Ytjkagmelpgpjgaa
open Go.ChangeShapes Go.WideShapes Go.ChangeAt Go.RowKit
set_option linter.unusedVariables false
set_option linter.unusedSimpArgs false

set_option maxRecDepth 100000 in
set_option maxHeartbeats 1000000 in
theorem exactLogBegins_walk (w : World) (A0 : Option Addr) (c0 : Nat) (x0 : List Head) (hx0 : Sl w A0 (x0.flatMap encHead)) (hc0 : x0.length ≤ c0) (hm0 : c0 ≤ maxLen) (A1 : Option Addr) (c1 : Nat) (x1 : List Head) (hx1 : Sl w A1 (x1.flatMap encHead)) (hc1 : x1.length ≤ c1) (hm1 : c1 ≤ maxLen) :
    Calls Try.prog 8 #[.slice A0 x0.length c0, .slice A1 x1.length c1] w fun e w' => e = .returned (.bool true) ∧ Upd [] w w' := by
  have hl0 : x0.length ≤ maxLen := Nat.le_trans hc0 hm0
  have hl1 : x1.length ≤ maxLen := Nat.le_trans hc1 hm1
  go_enter Try.func8, Try.ntmps8
  have UU : Upd [] w w := Upd.refl _ _
  go_wp2_with fail
  refine (szHeadS_any _ _ _ _ _ (by omega) (by omega) hl0).mono ?_
  rintro e w1 ⟨r0, rfl, ra0, rb0, uw1⟩
  replace UU := UU.trans uw1
  by_cases hr0 : r0 < 0
  · go_wp2
    go_ret
    exact ⟨rfl, UU⟩
  · have hn0 : x0.length ≤ 1048576 := by have := rb0 (by omega); omega
    go_wp2_with fail
    refine (szHeadS_any _ _ _ _ _ (by omega) (by omega) hl1).mono ?_
    rintro e w2 ⟨r1, rfl, ra1, rb1, uw2⟩
    replace UU := UU.trans uw2
    by_cases hr1 : r1 < 0
    · go_wp2
      go_ret
      exact ⟨rfl, UU⟩
    · have hn1 : x1.length ≤ 1048576 := by have := rb1 (by omega); omega
      go_wp2_with fail
      refine (toHeadS_any _ _ _ _ (hx0.grow UU) hn0).mono ?_
      rintro e w3 ⟨Bs0, rfl, os0, uw3⟩
      replace UU := UU.trans uw3
      go_wp2_with fail
      refine (toHeadS_any _ _ _ _ (hx1.grow UU) hn1).mono ?_
      rintro e w4 ⟨Bs1, rfl, os1, uw4⟩
      replace os0 := os0.grow uw4
      replace UU := UU.trans uw4
      go_wp2_with fail
      refine (specLogBegins_any _ _ _ _ _ _ _ os0.sl os1.sl hl0 hl1).mono ?_
      rintro e w5 ⟨rfl, uw5⟩
      replace os0 := os0.grow uw5
      replace os1 := os1.grow uw5
      replace UU := UU.trans uw5
      go_wp2_with fail
      refine (toHeadS_any _ _ _ _ (hx0.grow UU) hn0).mono ?_
      rintro e w6 ⟨Bx0, rfl, ox0, uw6⟩
      replace os0 := os0.grow uw6
      replace os1 := os1.grow uw6
      replace UU := UU.trans uw6
      go_wp2_with fail
      refine (toHeadS_any _ _ _ _ (hx1.grow UU) hn1).mono ?_
      rintro e w7 ⟨Bx1, rfl, ox1, uw7⟩
      replace os0 := os0.grow uw7
      replace os1 := os1.grow uw7
      replace ox0 := ox0.grow uw7
      replace UU := UU.trans uw7
      go_wp2_with fail
      refine (implLogBegins_any _ _ _ _ _ _ _ ox0.sl ox1.sl hl0 hl1).mono ?_
      rintro e w8 ⟨rfl, uw8⟩
      replace os0 := os0.grow uw8
      replace os1 := os1.grow uw8
      replace ox0 := ox0.grow uw8
      replace ox1 := ox1.grow uw8
      replace UU := UU.trans uw8
      generalize lgBegins x0 x1 = V
      cases V
      all_goals
        go_wp2_with fail
        refine (toHeadS_any _ _ _ _ (hx0.grow UU) hn0).mono ?_
        rintro e w9 ⟨By0, rfl, oy0, uw9⟩
        replace os0 := os0.grow uw9
        replace os1 := os1.grow uw9
        replace ox0 := ox0.grow uw9
        replace ox1 := ox1.grow uw9
        replace UU := UU.trans uw9
        go_wp2_with fail
        refine (eqHeadS_any _ _ _ _ _ _ _ ox0.sl oy0.sl hl0).mono ?_
        rintro e w10 ⟨rfl, uw10⟩
        replace os0 := os0.grow uw10
        replace os1 := os1.grow uw10
        replace ox0 := ox0.grow uw10
        replace ox1 := ox1.grow uw10
        replace oy0 := oy0.grow uw10
        replace UU := UU.trans uw10
        rw [same_iff.2 rfl]
        go_wp2_with fail
        refine (toHeadS_any _ _ _ _ (hx1.grow UU) hn1).mono ?_
        rintro e w11 ⟨By1, rfl, oy1, uw11⟩
        replace os0 := os0.grow uw11
        replace os1 := os1.grow uw11
        replace ox0 := ox0.grow uw11
        replace ox1 := ox1.grow uw11
        replace oy0 := oy0.grow uw11
        replace UU := UU.trans uw11
        go_wp2_with fail
        refine (eqHeadS_any _ _ _ _ _ _ _ ox1.sl oy1.sl hl1).mono ?_
        rintro e w12 ⟨rfl, uw12⟩
        replace os0 := os0.grow uw12
        replace os1 := os1.grow uw12
        replace ox0 := ox0.grow uw12
        replace ox1 := ox1.grow uw12
        replace oy0 := oy0.grow uw12
        replace oy1 := oy1.grow uw12
        replace UU := UU.trans uw12
        rw [same_iff.2 rfl]
        go_wp2
        go_ret
        exact ⟨rfl, UU⟩

set_option maxRecDepth 100000 in
theorem exactLogBegins_lifted (os : Os) (started : os.Started) (H : Type) (enc : TypeId × Value → H) :
    ReturnsInHanded {} Try.checked os 8 .any (Rows.fnExactLogBeginsSpec.pre6 enc Try.prog Try.f8 Rows.fnExactLogBeginsRow.domain false) (Rows.fnExactLogBeginsSpec.post enc Try.prog Try.f8 false true false false) := by
  refine returnsInHanded_of_change (C := Try.checked) own_knob started (by kernel_rfl) Try.func8
    (ChangeSpec.witness6 (enc := enc) (C := Try.checked) false ⟨#[], #[.slice none 0 0, .slice none 0 0], []⟩ 8 (by kernel_rfl) (by kernel_rfl) (by kernel_rfl) (by kernel_rfl)) ?_
  intro W base args ds gs before hval0 hW hcnd _
  have hval : ∀ (j : Nat) t v, Try.f8.params[j]? = some t → args[j]? = some v → Value.okWide Try.prog W .any base t v := hval0
  have hW' := hW
  obtain ⟨p, q, hA0, hV, rfl, hfz, hnd⟩ := hW
  have hA1 : DataW.TrodAll enc Try.prog W 0 (fun _ => true) true Try.f8.params.toList args.toList ds p := hA0
  have hA := hA1
  rw [Try.params8] at hA hval
  obtain ⟨v0, v1, d0, d1, p0, p1, rfl, rfl, rfl, h0, h1⟩ := trodAll_two hA
  obtain ⟨rfl, rfl⟩ := trodVars_none hV
  obtain ⟨A0, x0, c0, rfl, hc0, hm0, hs0⟩ := openHeadS (hval 0 29 v0 rfl rfl) h0
  obtain ⟨A1, x1, c1, rfl, hc1, hm1, hs1⟩ := openHeadS (hval 1 29 v1 rfl rfl) h1
  clear hA0 hval0
  simp only [List.append_nil] at hW'
  refine (exactLogBegins_walk W A0 c0 x0 hs0 hc0 hm0 A1 c1 x1 hs1 hc1 hm1).mono fun e W' ⟨he, hu⟩ => ?_
  subst he
  exact ⟨_, rfl, law_post laid_out (by rw [Try.params8]; decide +kernel) rfl Try.underlying4 rfl hW' hA1 rfl hu⟩

theorem exactLogBegins_closed : joinedFacts Try.prog 8 Try.f8 Rows.fnExactLogBeginsSpec Rows.fnExactLogBeginsRow = true := by
  simp only [joinedFacts, Bool.and_eq_true]
  and_intros
  all_goals (first | with_reducible exact mayEnter_is | (rw [liftsFinal_is]; rfl) | (rw [make_is]; rfl) | kernel_rfl)
theorem exactLogBegins_holds : Rows.FnExactLogBeginsSaid :=
  OpenClaim.holds_of_wide 8 Try.f8 rfl rfl rfl rfl rfl rfl rfl ⟨rfl, rfl, rfl, rfl, rfl⟩ rfl rfl rfl rfl rfl (by kernel_rfl) Try.func8 exactLogBegins_closed
    (of_decide_eq_true (by kernel_rfl)) (by unfold Func.isWrapper; first | (rw [if_pos (by decide +kernel)]; kernel_rfl) | (rw [if_neg (by decide +kernel)]; exact ⟨rfl, rfl⟩))
    (fun os started H enc _ => exactLogBegins_lifted os started H enc)
end Go.Proofs.Ytjkagmelpgpjgaa
