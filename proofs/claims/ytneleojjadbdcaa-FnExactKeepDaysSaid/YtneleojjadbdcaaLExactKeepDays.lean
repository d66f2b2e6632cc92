/- FnExactKeepDays: for all arguments the program's KeepDays returns what the reference's returns, leaves its arguments as they were and hands back memory of its own. -/
import Derived.Test.YtneleojjadbdcaaKp
import Derived.Test.YtneleojjadbdcaaOStamp
namespace Go.Proofs.Ytneleojjadbdcaa
open Go.ChangeShapes Go.WideShapes Go.ChangeAt Go.RowKit
set_option linter.unusedVariables false
set_option linter.unusedSimpArgs false

set_option maxRecDepth 100000 in
set_option maxHeartbeats 2000000 in
theorem exactKeepDays_walk (w : World) (A0 : Option Addr) (c0 : Nat) (x0 : List Stamp) (hx0 : Sl w A0 (x0.flatMap encStamp)) (hc0 : x0.length ≤ c0) (hm0 : c0 ≤ maxLen) (span : Int) (hspan : -9223372036854775808 ≤ span ∧ span ≤ 9223372036854775807) (many : Int) (hmany : -9223372036854775808 ≤ many ∧ many ≤ 9223372036854775807) :
    Calls Try.prog 10 #[.slice A0 x0.length c0, .int .i64 span, .int .i64 many] w fun e w' => e = .returned (.bool true) ∧ Upd [] w w' := by
  go_enter Try.func10, Try.ntmps10
  have UU : Upd [] w w := Upd.refl _ _
  go_wp2_with fail
  refine (szStampS_any _ _ _ _ _ (by omega) (by omega) (Nat.le_trans hc0 hm0)).mono ?_
  rintro e w1 ⟨r0, rfl, ra0, rb0, uw1⟩
  have sw1 := uw1.size
  replace UU := UU.trans uw1
  by_cases hr0 : r0 < 0
  · go_wp2
    go_ret
    exact ⟨rfl, UU⟩
  · have hn0 : x0.length ≤ 1048576 := by have := rb0 (by omega); omega
    have hrl : (keepDays x0 span many).length ≤ 12 := keepDays_len x0 span many
    go_wp2_with fail
    refine (toStampS_any _ _ _ _ (hx0.grow UU) hn0).mono ?_
    rintro e w2 ⟨Bs0, rfl, os0, uw2⟩
    have sw2 := uw2.size
    replace UU := UU.trans uw2
    have qs0 := os0.lt
    go_wp2_with fail
    refine (specKeepDays_any _ _ _ span many _ os0.sl (by unfold maxLen; omega) hspan.2).mono ?_
    rintro e w3 ⟨BW, dW, rfl, oW, uw3⟩
    replace os0 := os0.grow uw3
    have sw3 := uw3.size
    replace UU := UU.trans uw3
    have qW := oW.lt
    go_wp2_with fail
    refine (toStampS_any _ _ _ _ (hx0.grow UU) hn0).mono ?_
    rintro e w4 ⟨Bx0, rfl, ox0, uw4⟩
    replace os0 := os0.grow uw4
    replace oW := oW.grow uw4
    have sw4 := uw4.size
    replace UU := UU.trans uw4
    have qx0 := ox0.lt
    go_wp2_with fail
    refine (implKeepDays_any _ _ _ span many _ ox0.sl (by unfold maxLen; omega) hspan.2).mono ?_
    rintro e w5 ⟨BG, dG, rfl, oG, uw5⟩
    replace os0 := os0.grow uw5
    replace oW := oW.grow uw5
    replace ox0 := ox0.grow uw5
    have sw5 := uw5.size
    replace UU := UU.trans uw5
    have qG := oG.lt
    go_wp2_with fail
    refine (eqIntS_any _ _ _ _ _ _ _ oG.sl oW.sl (by unfold maxLen; omega)).mono ?_
    rintro e w6 ⟨rfl, uw6⟩
    replace os0 := os0.grow uw6
    replace oW := oW.grow uw6
    replace ox0 := ox0.grow uw6
    replace oG := oG.grow uw6
    have sw6 := uw6.size
    replace UU := UU.trans uw6
    rw [same_iff.2 rfl]
    go_wp2_with fail
    refine (toStampS_any _ _ _ _ (hx0.grow UU) hn0).mono ?_
    rintro e w7 ⟨By0, rfl, oy0, uw7⟩
    replace os0 := os0.grow uw7
    replace oW := oW.grow uw7
    replace ox0 := ox0.grow uw7
    replace oG := oG.grow uw7
    have sw7 := uw7.size
    replace UU := UU.trans uw7
    have qy0 := oy0.lt
    go_wp2_with fail
    refine (eqStampS_any _ _ _ _ _ _ _ ox0.sl oy0.sl (by unfold maxLen; omega)).mono ?_
    rintro e w8 ⟨rfl, uw8⟩
    replace os0 := os0.grow uw8
    replace oW := oW.grow uw8
    replace ox0 := ox0.grow uw8
    replace oG := oG.grow uw8
    replace oy0 := oy0.grow uw8
    have sw8 := uw8.size
    replace UU := UU.trans uw8
    rw [same_iff.2 rfl]
    go_wp2_with fail
    refine (markStampS_any _ _ _ _ _ _ ox0 (by omega) (by omega) (by omega)).mono ?_
    rintro e w9 ⟨rfl, ok0, uw9⟩
    have mw9 : ∀ z, z ∈ (Bx0.map (·.block)).toList → ∃ a, Bx0 = some a ∧ z = a.block := fun z hz => by
      cases Bx0 with
      | none => simp at hz
      | some a => exact ⟨a, rfl, by simpa using hz⟩
    replace os0 := os0.upd uw9 (fun a ha hz => by obtain ⟨a2, h2, h3⟩ := mw9 _ hz; have h4 := qs0 a ha; have h5 := qx0 a2 h2; omega)
    replace oW := oW.upd uw9 (fun a ha hz => by obtain ⟨a2, h2, h3⟩ := mw9 _ hz; have h4 := qW a ha; have h5 := qx0 a2 h2; omega)
    replace oG := oG.upd uw9 (fun a ha hz => by obtain ⟨a2, h2, h3⟩ := mw9 _ hz; have h4 := qG a ha; have h5 := qx0 a2 h2; omega)
    replace oy0 := oy0.upd uw9 (fun a ha hz => by obtain ⟨a2, h2, h3⟩ := mw9 _ hz; have h4 := qy0 a ha; have h5 := qx0 a2 h2; omega)
    have sw9 := uw9.size
    replace UU := UU.then uw9 (fun z hz hlt => by obtain ⟨a2, h2, h3⟩ := mw9 _ hz; have h5 := qx0 a2 h2; have := UU.size; omega)
    have qk0 := qx0
    go_wp2_with fail
    refine (eqIntS_any _ _ _ _ _ _ _ oG.sl oW.sl (by unfold maxLen; omega)).mono ?_
    rintro e w10 ⟨rfl, uw10⟩
    replace os0 := os0.grow uw10
    replace oW := oW.grow uw10
    replace oG := oG.grow uw10
    replace oy0 := oy0.grow uw10
    replace ok0 := ok0.grow uw10
    have sw10 := uw10.size
    replace UU := UU.trans uw10
    rw [same_iff.2 rfl]
    go_wp2_with fail
    refine (markIntS_any _ _ _ _ _ _ oG (by omega) (by omega) (by omega)).mono ?_
    rintro e w11 ⟨rfl, oM, uw11⟩
    have mw11 : ∀ z, z ∈ (BG.map (·.block)).toList → ∃ a, BG = some a ∧ z = a.block := fun z hz => by
      cases BG with
      | none => simp at hz
      | some a => exact ⟨a, rfl, by simpa using hz⟩
    replace os0 := os0.upd uw11 (fun a ha hz => by obtain ⟨a2, h2, h3⟩ := mw11 _ hz; have h4 := qs0 a ha; have h5 := qG a2 h2; omega)
    replace oW := oW.upd uw11 (fun a ha hz => by obtain ⟨a2, h2, h3⟩ := mw11 _ hz; have h4 := qW a ha; have h5 := qG a2 h2; omega)
    replace oy0 := oy0.upd uw11 (fun a ha hz => by obtain ⟨a2, h2, h3⟩ := mw11 _ hz; have h4 := qy0 a ha; have h5 := qG a2 h2; omega)
    replace ok0 := ok0.upd uw11 (fun a ha hz => by obtain ⟨a2, h2, h3⟩ := mw11 _ hz; have h4 := qk0 a ha; have h5 := qG a2 h2; omega)
    have sw11 := uw11.size
    replace UU := UU.then uw11 (fun z hz hlt => by obtain ⟨a2, h2, h3⟩ := mw11 _ hz; have h5 := qG a2 h2; have := UU.size; omega)
    have qM := qG
    go_wp2_with fail
    refine (heldIntS_any _ _ _ _ _ oM.sl (by omega) (by omega) (by omega)).mono ?_
    rintro e w12 ⟨rfl, uw12⟩
    replace os0 := os0.grow uw12
    replace oW := oW.grow uw12
    replace oy0 := oy0.grow uw12
    replace ok0 := ok0.grow uw12
    replace oM := oM.grow uw12
    have sw12 := uw12.size
    replace UU := UU.trans uw12
    go_wp2_with fail
    refine (toStampS_any _ _ _ _ (hx0.grow UU) hn0).mono ?_
    rintro e w13 ⟨Bz0, rfl, oz0, uw13⟩
    replace os0 := os0.grow uw13
    replace oW := oW.grow uw13
    replace oy0 := oy0.grow uw13
    replace ok0 := ok0.grow uw13
    replace oM := oM.grow uw13
    have sw13 := uw13.size
    replace UU := UU.trans uw13
    have qz0 := oz0.lt
    go_wp2_with fail
    refine (implKeepDays_any _ _ _ span many _ oz0.sl (by unfold maxLen; omega) hspan.2).mono ?_
    rintro e w14 ⟨BH, dH, rfl, oH, uw14⟩
    replace os0 := os0.grow uw14
    replace oW := oW.grow uw14
    replace oy0 := oy0.grow uw14
    replace ok0 := ok0.grow uw14
    replace oM := oM.grow uw14
    replace oz0 := oz0.grow uw14
    have sw14 := uw14.size
    replace UU := UU.trans uw14
    have qH := oH.lt
    go_wp2_with fail
    refine (eqIntS_any _ _ _ _ _ _ _ oH.sl oW.sl (by unfold maxLen; omega)).mono ?_
    rintro e w15 ⟨rfl, uw15⟩
    replace os0 := os0.grow uw15
    replace oW := oW.grow uw15
    replace oy0 := oy0.grow uw15
    replace ok0 := ok0.grow uw15
    replace oM := oM.grow uw15
    replace oz0 := oz0.grow uw15
    replace oH := oH.grow uw15
    have sw15 := uw15.size
    replace UU := UU.trans uw15
    rw [same_iff.2 rfl]
    go_wp2_with fail
    refine (heldIntS_any _ _ _ _ _ oM.sl (by omega) (by omega) (by omega)).mono ?_
    rintro e w16 ⟨rfl, uw16⟩
    replace os0 := os0.grow uw16
    replace oW := oW.grow uw16
    replace oy0 := oy0.grow uw16
    replace ok0 := ok0.grow uw16
    replace oM := oM.grow uw16
    replace oz0 := oz0.grow uw16
    replace oH := oH.grow uw16
    have sw16 := uw16.size
    replace UU := UU.trans uw16
    go_wp2
    go_ret
    exact ⟨rfl, UU⟩

set_option maxRecDepth 100000 in
theorem exactKeepDays_lifted (os : Os) (started : os.Started) (H : Type) (enc : TypeId × Value → H) :
    ReturnsInHanded {} Try.checked os 10 .any (Rows.fnExactKeepDaysSpec.pre6 enc Try.prog Try.f10 Rows.fnExactKeepDaysRow.domain false) (Rows.fnExactKeepDaysSpec.post enc Try.prog Try.f10 false true false false) := by
  refine returnsInHanded_of_change (C := Try.checked) own_knob started (by kernel_rfl) Try.func10
    (ChangeSpec.witness6 (enc := enc) (C := Try.checked) false ⟨#[], #[.slice none 0 0, .int .i64 0, .int .i64 0], []⟩ 8 (by kernel_rfl) (by kernel_rfl) (by kernel_rfl) (by kernel_rfl)) ?_
  intro W base args ds gs before hval0 hW hcnd _
  have hval : ∀ (j : Nat) t v, Try.f10.params[j]? = some t → args[j]? = some v → Value.okWide Try.prog W .any base t v := hval0
  have hW' := hW
  obtain ⟨p, q, hA0, hV, rfl, hfz, hnd⟩ := hW
  have hA1 : DataW.TrodAll enc Try.prog W 0 (fun _ => true) true Try.f10.params.toList args.toList ds p := hA0
  have hA := hA1
  rw [Try.params10] at hA hval
  obtain ⟨v0, v1, v2, d0, d1, d2, p0, p1, p2, rfl, rfl, rfl, h0, h1, h2⟩ := trodAll_three hA
  obtain ⟨rfl, rfl⟩ := trodVars_none hV
  obtain ⟨A0, x0, c0, rfl, hc0, hm0, hs0⟩ := openStampS (hval 0 22 v0 rfl rfl) h0
  obtain ⟨x1, rfl, hb1⟩ := open_i64 (hval 1 3 v1 rfl rfl) h1
  obtain ⟨x2, rfl, hb2⟩ := open_i64 (hval 2 3 v2 rfl rfl) h2
  clear hA0 hval0
  simp only [List.append_nil] at hW'
  refine (exactKeepDays_walk W A0 c0 x0 hs0 hc0 hm0 x1 hb1 x2 hb2).mono fun e W' ⟨he, hu⟩ => ?_
  subst he
  exact ⟨_, rfl, law_post laid_out (by rw [Try.params10]; decide +kernel) rfl Try.underlying4 rfl hW' hA1 rfl hu⟩

theorem exactKeepDays_holds : Rows.FnExactKeepDaysSaid :=
  OpenClaim.holds_of_wide 10 Try.f10 rfl rfl rfl rfl rfl rfl rfl ⟨rfl, rfl, rfl, rfl, rfl⟩ rfl rfl rfl rfl rfl (by kernel_rfl) Try.func10 (by kernel_rfl)
    (of_decide_eq_true (by kernel_rfl)) (by unfold Func.isWrapper; first | (rw [if_pos (by decide +kernel)]; kernel_rfl) | (rw [if_neg (by decide +kernel)]; exact ⟨rfl, rfl⟩))
    (fun os started H enc _ => exactKeepDays_lifted os started H enc)
end Go.Proofs.Ytneleojjadbdcaa
