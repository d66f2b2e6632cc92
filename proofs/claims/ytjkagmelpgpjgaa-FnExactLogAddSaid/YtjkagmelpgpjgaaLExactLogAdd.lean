/- FnExactLogAdd: for all arguments the program's LogAdd returns what the reference's returns, leaves its arguments as they were and hands back memory of its own. -/
import Derived.Test.YtjkagmelpgpjgaaLo
import Derived.Test.YtjkagmelpgpjgaaOHead
namespace Go.Proofs.Ytjkagmelpgpjgaa
open Go.ChangeShapes Go.WideShapes Go.ChangeAt Go.RowKit
set_option linter.unusedVariables false
set_option linter.unusedSimpArgs false

set_option maxRecDepth 100000 in
set_option maxHeartbeats 2000000 in
theorem exactLogAdd_walk (w : World) (A0 : Option Addr) (c0 : Nat) (x0 : List Head) (hx0 : Sl w A0 (x0.flatMap encHead)) (hc0 : x0.length ≤ c0) (hm0 : c0 ≤ maxLen) (h : Head) :
    Calls Try.prog 9 #[.slice A0 x0.length c0, .agg #[.int .i64 h.by_, .int .i64 h.snap]] w fun e w' => e = .returned (.bool true) ∧ Upd [] w w' := by
  go_enter Try.func9, Try.ntmps9
  have UU : Upd [] w (w.alloc (.cells #[.int .i64 h.by_, .int .i64 h.snap] 37)) := (Upd.refl _ _).alloc _
  have bc0 : (w.alloc (.cells #[.int .i64 h.by_, .int .i64 h.snap] 37)).cell? ⟨w.heap.size, 0, none⟩ = some (.int .i64 h.by_) := by rw [cell_of_row _ _ _ _ _ _ (heap_alloc_new w _)]; rfl
  have bc1 : (w.alloc (.cells #[.int .i64 h.by_, .int .i64 h.snap] 37)).cell? ⟨w.heap.size, 1, none⟩ = some (.int .i64 h.snap) := by rw [cell_of_row _ _ _ _ _ _ (heap_alloc_new w _)]; rfl
  go_wp2_with fail
  refine (szHeadS_any _ _ _ _ _ (by omega) (by omega) (Nat.le_trans hc0 hm0)).mono ?_
  rintro e w1 ⟨r0, rfl, ra0, rb0, uw1⟩
  have sw1 := uw1.size
  rw [World.size_alloc] at sw1
  replace bc0 := uw1.cell bc0 (by simp)
  replace bc1 := uw1.cell bc1 (by simp)
  replace UU := UU.trans uw1
  by_cases hr0 : r0 < 0
  · go_wp2
    go_ret
    exact ⟨rfl, UU⟩
  · have hn0 : x0.length ≤ 1048576 := by have := rb0 (by omega); omega
    have hrl : (lgAdd x0 h).length ≤ 9 := lgAdd_len x0 h
    go_wp2_with fail
    go_cut [6, 7] (fun v u wx => ∃ B d, v = .slice B (lgAdd x0 h).length d ∧ u = .bool (lgAddOk x0 h) ∧ Own wx w1.heap.size 27 2 B (lgAdd x0 h).length d ((lgAdd x0 h).flatMap encHead) ∧ Upd [] w1 wx)
    case first =>
      go_region_with (first
        | (go_at_call 25; refine (toHeadS_any _ _ _ _ ?_ hn0).mono ?_; exact (hx0.grow UU).grow (Upd.refl _ _).drew; rintro e va ⟨Bv, rfl, ov, uva⟩; have b0 := uva.cell (p := ⟨w.heap.size, 0, none⟩) bc0 (by simp); have b1 := uva.cell (p := ⟨w.heap.size, 1, none⟩) bc1 (by simp); have ua : Upd [] w1 va := (Upd.refl [] w1).drew.trans uva)
        | (go_at_call 36; refine (toHead_any h _).mono ?_; rintro e vb ⟨rfl, uvb⟩; have ub := ua.trans uvb)
        | (go_at_call 35; refine (specLogAdd_any _ _ _ h _ (ov.sl.grow uvb) (by unfold maxLen; omega)).mono ?_; rintro e vc ⟨Bc, dc, rfl, oc, uvc⟩; have uc := ub.trans uvc))
      all_goals
        go_wp2
        go_meet
        case rel => exact ⟨Bc, dc, rfl, rfl, oc.base_le ub.size, uc⟩
    case rest =>
      obtain ⟨BW, dW, rfl, rfl, oW, uw2⟩ := hcut
      generalize wc = w2 at *
      have sw2 := uw2.size
      replace bc0 := uw2.cell bc0 (by simp)
      replace bc1 := uw2.cell bc1 (by simp)
      replace UU := UU.trans uw2
      have qW := oW.lt
      go_wp2_with fail
      refine (toHeadS_any _ _ _ _ (hx0.grow UU) hn0).mono ?_
      rintro e w3 ⟨Bx0, rfl, ox0, uw3⟩
      replace oW := oW.grow uw3
      have sw3 := uw3.size
      replace bc0 := uw3.cell bc0 (by simp)
      replace bc1 := uw3.cell bc1 (by simp)
      replace UU := UU.trans uw3
      have qx0 := ox0.lt
      go_wp2_with fail
      refine (toHead_any _ _).mono ?_
      rintro e w4 ⟨rfl, uw4⟩
      replace oW := oW.grow uw4
      replace ox0 := ox0.grow uw4
      have sw4 := uw4.size
      replace bc0 := uw4.cell bc0 (by simp)
      replace bc1 := uw4.cell bc1 (by simp)
      replace UU := UU.trans uw4
      go_wp2_with fail
      refine (implLogAdd_any _ _ _ h _ ox0.sl (by unfold maxLen; omega)).mono ?_
      rintro e w5 ⟨BG, dG, rfl, oG, uw5⟩
      replace oW := oW.grow uw5
      replace ox0 := ox0.grow uw5
      have sw5 := uw5.size
      replace bc0 := uw5.cell bc0 (by simp)
      replace bc1 := uw5.cell bc1 (by simp)
      replace UU := UU.trans uw5
      have qG := oG.lt
      go_wp2_with fail
      refine (eqHeadS_any _ _ _ _ _ _ _ oG.sl oW.sl (by unfold maxLen; omega)).mono ?_
      rintro e w6 ⟨rfl, uw6⟩
      replace oW := oW.grow uw6
      replace ox0 := ox0.grow uw6
      replace oG := oG.grow uw6
      have sw6 := uw6.size
      replace bc0 := uw6.cell bc0 (by simp)
      replace bc1 := uw6.cell bc1 (by simp)
      replace UU := UU.trans uw6
      rw [same_iff.2 rfl]
      go_wp2_with fail
      refine (toHeadS_any _ _ _ _ (hx0.grow UU) hn0).mono ?_
      rintro e w7 ⟨By0, rfl, oy0, uw7⟩
      replace oW := oW.grow uw7
      replace ox0 := ox0.grow uw7
      replace oG := oG.grow uw7
      have sw7 := uw7.size
      replace bc0 := uw7.cell bc0 (by simp)
      replace bc1 := uw7.cell bc1 (by simp)
      replace UU := UU.trans uw7
      have qy0 := oy0.lt
      go_wp2_with fail
      refine (eqHeadS_any _ _ _ _ _ _ _ ox0.sl oy0.sl (by unfold maxLen; omega)).mono ?_
      rintro e w8 ⟨rfl, uw8⟩
      replace oW := oW.grow uw8
      replace ox0 := ox0.grow uw8
      replace oG := oG.grow uw8
      replace oy0 := oy0.grow uw8
      have sw8 := uw8.size
      replace bc0 := uw8.cell bc0 (by simp)
      replace bc1 := uw8.cell bc1 (by simp)
      replace UU := UU.trans uw8
      rw [same_iff.2 rfl]
      go_wp2_with fail
      refine (markHeadS_any _ _ _ _ _ _ ox0 (by omega) (by omega) (by omega)).mono ?_
      rintro e w9 ⟨rfl, ok0, uw9⟩
      have mw9 : ∀ z, z ∈ (Bx0.map (·.block)).toList → ∃ a, Bx0 = some a ∧ z = a.block := fun z hz => by
        cases Bx0 with
        | none => simp at hz
        | some a => exact ⟨a, rfl, by simpa using hz⟩
      replace oW := oW.upd uw9 (fun a ha hz => by obtain ⟨a2, h2, h3⟩ := mw9 _ hz; have h4 := qW a ha; have h5 := qx0 a2 h2; omega)
      replace oG := oG.upd uw9 (fun a ha hz => by obtain ⟨a2, h2, h3⟩ := mw9 _ hz; have h4 := qG a ha; have h5 := qx0 a2 h2; omega)
      replace oy0 := oy0.upd uw9 (fun a ha hz => by obtain ⟨a2, h2, h3⟩ := mw9 _ hz; have h4 := qy0 a ha; have h5 := qx0 a2 h2; omega)
      have sw9 := uw9.size
      replace bc0 := uw9.cell bc0 (fun hz => by obtain ⟨a2, h2, h3⟩ := mw9 _ hz; have h5 := qx0 a2 h2; simp only [] at h3; omega)
      replace bc1 := uw9.cell bc1 (fun hz => by obtain ⟨a2, h2, h3⟩ := mw9 _ hz; have h5 := qx0 a2 h2; simp only [] at h3; omega)
      replace UU := UU.then uw9 (fun z hz hlt => by obtain ⟨a2, h2, h3⟩ := mw9 _ hz; have h5 := qx0 a2 h2; have := UU.size; omega)
      have qk0 := qx0
      go_wp2_with fail
      refine (eqHeadS_any _ _ _ _ _ _ _ oG.sl oW.sl (by unfold maxLen; omega)).mono ?_
      rintro e w10 ⟨rfl, uw10⟩
      replace oW := oW.grow uw10
      replace oG := oG.grow uw10
      replace oy0 := oy0.grow uw10
      replace ok0 := ok0.grow uw10
      have sw10 := uw10.size
      replace bc0 := uw10.cell bc0 (by simp)
      replace bc1 := uw10.cell bc1 (by simp)
      replace UU := UU.trans uw10
      rw [same_iff.2 rfl]
      go_wp2_with fail
      refine (markHeadS_any _ _ _ _ _ _ oG (by omega) (by omega) (by omega)).mono ?_
      rintro e w11 ⟨rfl, oM, uw11⟩
      have mw11 : ∀ z, z ∈ (BG.map (·.block)).toList → ∃ a, BG = some a ∧ z = a.block := fun z hz => by
        cases BG with
        | none => simp at hz
        | some a => exact ⟨a, rfl, by simpa using hz⟩
      replace oW := oW.upd uw11 (fun a ha hz => by obtain ⟨a2, h2, h3⟩ := mw11 _ hz; have h4 := qW a ha; have h5 := qG a2 h2; omega)
      replace oy0 := oy0.upd uw11 (fun a ha hz => by obtain ⟨a2, h2, h3⟩ := mw11 _ hz; have h4 := qy0 a ha; have h5 := qG a2 h2; omega)
      replace ok0 := ok0.upd uw11 (fun a ha hz => by obtain ⟨a2, h2, h3⟩ := mw11 _ hz; have h4 := qk0 a ha; have h5 := qG a2 h2; omega)
      have sw11 := uw11.size
      replace bc0 := uw11.cell bc0 (fun hz => by obtain ⟨a2, h2, h3⟩ := mw11 _ hz; have h5 := qG a2 h2; simp only [] at h3; omega)
      replace bc1 := uw11.cell bc1 (fun hz => by obtain ⟨a2, h2, h3⟩ := mw11 _ hz; have h5 := qG a2 h2; simp only [] at h3; omega)
      replace UU := UU.then uw11 (fun z hz hlt => by obtain ⟨a2, h2, h3⟩ := mw11 _ hz; have h5 := qG a2 h2; have := UU.size; omega)
      have qM := qG
      go_wp2_with fail
      refine (heldHeadS_any _ _ _ _ _ oM.sl (by omega) (by omega) (by omega)).mono ?_
      rintro e w12 ⟨rfl, uw12⟩
      replace oW := oW.grow uw12
      replace oy0 := oy0.grow uw12
      replace ok0 := ok0.grow uw12
      replace oM := oM.grow uw12
      have sw12 := uw12.size
      replace bc0 := uw12.cell bc0 (by simp)
      replace bc1 := uw12.cell bc1 (by simp)
      replace UU := UU.trans uw12
      go_wp2_with fail
      go_cut [14, 15] (fun v u wx => ∃ B d, v = .slice B (lgAdd x0 h).length d ∧ u = .bool (lgAddOk x0 h) ∧ Own wx w12.heap.size 27 2 B (lgAdd x0 h).length d ((lgAdd x0 h).flatMap encHead) ∧ Upd [] w12 wx)
      case first =>
        go_region_with (first
          | (go_at_call 25; refine (toHeadS_any _ _ _ _ ?_ hn0).mono ?_; exact (hx0.grow UU).grow (Upd.refl _ _).drew; rintro e va ⟨Bv, rfl, ov, uva⟩; have b0 := uva.cell (p := ⟨w.heap.size, 0, none⟩) bc0 (by simp); have b1 := uva.cell (p := ⟨w.heap.size, 1, none⟩) bc1 (by simp); have ua : Upd [] w12 va := (Upd.refl [] w12).drew.trans uva)
          | (go_at_call 36; refine (toHead_any h _).mono ?_; rintro e vb ⟨rfl, uvb⟩; have ub := ua.trans uvb)
          | (go_at_call 37; refine (implLogAdd_any _ _ _ h _ (ov.sl.grow uvb) (by unfold maxLen; omega)).mono ?_; rintro e vc ⟨Bc, dc, rfl, oc, uvc⟩; have uc := ub.trans uvc))
        all_goals
          go_wp2
          go_meet
          case rel => exact ⟨Bc, dc, rfl, rfl, oc.base_le ub.size, uc⟩
      case rest =>
        obtain ⟨BH, dH, rfl, rfl, oH, uw13⟩ := hcut
        generalize wc = w13 at *
        replace oW := oW.grow uw13
        replace oy0 := oy0.grow uw13
        replace ok0 := ok0.grow uw13
        replace oM := oM.grow uw13
        have sw13 := uw13.size
        replace bc0 := uw13.cell bc0 (by simp)
        replace bc1 := uw13.cell bc1 (by simp)
        replace UU := UU.trans uw13
        have qH := oH.lt
        go_wp2_with fail
        refine (eqHeadS_any _ _ _ _ _ _ _ oH.sl oW.sl (by unfold maxLen; omega)).mono ?_
        rintro e w14 ⟨rfl, uw14⟩
        replace oW := oW.grow uw14
        replace oy0 := oy0.grow uw14
        replace ok0 := ok0.grow uw14
        replace oM := oM.grow uw14
        replace oH := oH.grow uw14
        have sw14 := uw14.size
        replace bc0 := uw14.cell bc0 (by simp)
        replace bc1 := uw14.cell bc1 (by simp)
        replace UU := UU.trans uw14
        rw [same_iff.2 rfl]
        go_wp2_with fail
        refine (heldHeadS_any _ _ _ _ _ oM.sl (by omega) (by omega) (by omega)).mono ?_
        rintro e w15 ⟨rfl, uw15⟩
        replace oW := oW.grow uw15
        replace oy0 := oy0.grow uw15
        replace ok0 := ok0.grow uw15
        replace oM := oM.grow uw15
        replace oH := oH.grow uw15
        have sw15 := uw15.size
        replace bc0 := uw15.cell bc0 (by simp)
        replace bc1 := uw15.cell bc1 (by simp)
        replace UU := UU.trans uw15
        go_wp2
        go_ret
        exact ⟨rfl, UU⟩

set_option maxRecDepth 100000 in
theorem exactLogAdd_lifted (os : Os) (started : os.Started) (H : Type) (enc : TypeId × Value → H) :
    ReturnsInHanded {} Try.checked os 9 .any (Rows.fnExactLogAddSpec.pre6 enc Try.prog Try.f9 Rows.fnExactLogAddRow.domain false) (Rows.fnExactLogAddSpec.post enc Try.prog Try.f9 false true false false) := by
  refine returnsInHanded_of_change (C := Try.checked) own_knob started (by kernel_rfl) Try.func9
    (ChangeSpec.witness6 (enc := enc) (C := Try.checked) false ⟨#[], #[.slice none 0 0, .agg #[.int .i64 0, .int .i64 0]], []⟩ 8 (by kernel_rfl) (by kernel_rfl) (by kernel_rfl) (by kernel_rfl)) ?_
  intro W base args ds gs before hval0 hW hcnd _
  have hval : ∀ (j : Nat) t v, Try.f9.params[j]? = some t → args[j]? = some v → Value.okWide Try.prog W .any base t v := hval0
  have hW' := hW
  obtain ⟨p, q, hA0, hV, rfl, hfz, hnd⟩ := hW
  have hA1 : DataW.TrodAll enc Try.prog W 0 (fun _ => true) true Try.f9.params.toList args.toList ds p := hA0
  have hA := hA1
  rw [Try.params9] at hA hval
  obtain ⟨v0, v1, d0, d1, p0, p1, rfl, rfl, rfl, h0, h1⟩ := trodAll_two hA
  obtain ⟨rfl, rfl⟩ := trodVars_none hV
  obtain ⟨A0, x0, c0, rfl, hc0, hm0, hs0⟩ := openHeadS (hval 0 29 v0 rfl rfl) h0
  obtain ⟨x1, rfl⟩ := openHead (hval 1 37 v1 rfl rfl) h1
  clear hA0 hval0
  simp only [List.append_nil] at hW'
  refine (exactLogAdd_walk W A0 c0 x0 hs0 hc0 hm0 x1).mono fun e W' ⟨he, hu⟩ => ?_
  subst he
  exact ⟨_, rfl, law_post laid_out (by rw [Try.params9]; decide +kernel) rfl Try.underlying4 rfl hW' hA1 rfl hu⟩

theorem exactLogAdd_closed : joinedFacts Try.prog 9 Try.f9 Rows.fnExactLogAddSpec Rows.fnExactLogAddRow = true := by
  simp only [joinedFacts, Bool.and_eq_true]
  and_intros
  all_goals (first | with_reducible exact mayEnter_is | (rw [liftsFinal_is]; rfl) | (rw [make_is]; rfl) | kernel_rfl)
theorem exactLogAdd_holds : Rows.FnExactLogAddSaid :=
  OpenClaim.holds_of_wide 9 Try.f9 rfl rfl rfl rfl rfl rfl rfl ⟨rfl, rfl, rfl, rfl, rfl⟩ rfl rfl rfl rfl rfl (by kernel_rfl) Try.func9 exactLogAdd_closed
    (of_decide_eq_true (by kernel_rfl)) (by unfold Func.isWrapper; first | (rw [if_pos (by decide +kernel)]; kernel_rfl) | (rw [if_neg (by decide +kernel)]; exact ⟨rfl, rfl⟩))
    (fun os started H enc _ => exactLogAdd_lifted os started H enc)
end Go.Proofs.Ytjkagmelpgpjgaa
