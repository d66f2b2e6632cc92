/- FnKeepWeeks: every last snapshot of a week is the last of its day; so weeks keep no more than days. -/
import Derived.Test.YtneleojjadbdcaaKpP
import Derived.Test.YtneleojjadbdcaaDrSt
import Derived.Test.YtneleojjadbdcaaR
namespace Go.Proofs.Ytneleojjadbdcaa
open Go.ChangeShapes Go.WideShapes Go.ChangeAt Go.RowKit
set_option linter.unusedVariables false
set_option linter.unusedSimpArgs false

set_option maxRecDepth 100000 in
set_option maxHeartbeats 1000000 in
theorem keepWeeks_walk (w : World) (A : Option Addr) (c : Nat) (bs : List Int) (hx : Sl w A (bs.map (.int .u8))) (hc : bs.length ≤ c) (hcm : c ≤ maxLen) (hb : ∀ b ∈ bs, 0 ≤ b ∧ b < 256) :
    Calls Try.prog 8 #[.slice A bs.length c] w fun e w' => e = .returned (.bool true) ∧ Upd [] w w' := by
  by_cases g1 : 1048576 < bs.length
  · go_enter Try.func8, Try.ntmps8
    go_wp2
    all_goals
      go_ret
      exact ⟨rfl, Upd.refl _ _⟩
  · go_enter Try.func8, Try.ntmps8
    go_wp2_with fail
    refine (drawKeepDays_any A c bs _ hx hc hcm hb).mono ?_
    rintro e w1 ⟨L, lc, xs, span, many, rfl, o1, l1, sa, sb, ma, mb, u1⟩
    go_wp2_with fail
    refine (implKeepDays_any _ _ _ span many _ o1.sl (by unfold maxLen; omega) (by omega)).mono ?_
    rintro e w2 ⟨K, kc, rfl, o2, u2⟩
    have l2 := keepDays_len xs span many
    go_wp2_with fail
    refine (specKeepDays_any _ _ _ span many _ (o1.sl.grow u2) (by unfold maxLen; omega) (by omega)).mono ?_
    rintro e w3 ⟨K2, kc2, rfl, o3, u3⟩
    go_wp2_with fail
    refine (ldInts_any _ _ _ _ _ _ _ (o2.sl.grow u3) o3.sl (by unfold maxLen; omega)).mono ?_
    rintro e w4 ⟨rfl, u4⟩
    rw [same_iff.2 rfl]
    go_wp2_with fail
    have U4 := ((u1.trans u2).trans u3).trans u4
    have p1 := o1.sl.grow ((u2.trans u3).trans u4)
    have p2 := o2.sl.grow (u3.trans u4)
    refine (specStampsOk_any _ _ _ _ p1 (by unfold maxLen; omega)).mono ?_
    rintro e w5 ⟨rfl, u5⟩
    have U5 := U4.trans u5
    cases hs : stOk xs
    · go_wp2_with fail
      refine (specKeepDays_any _ _ _ span many _ (p1.grow u5) (by unfold maxLen; omega) (by omega)).mono ?_
      rintro e w6 ⟨K3, kc3, rfl, o6, u6⟩
      go_wp2_with fail
      refine (ldInts_any _ _ _ _ _ _ _ (p2.grow (u5.trans u6)) o6.sl (by unfold maxLen; omega)).mono ?_
      rintro e w7 ⟨rfl, u7⟩
      rw [same_iff.2 rfl]
      go_wp2
      go_ret
      exact ⟨rfl, (U5.trans u6).trans u7⟩
    · by_cases h1 : span < 1
      · have hb : decide (span < 1) = true := decide_eq_true h1
        go_wp2_with fail
        refine (specKeepDays_any _ _ _ span many _ (p1.grow u5) (by unfold maxLen; omega) (by omega)).mono ?_
        rintro e w6 ⟨K3, kc3, rfl, o6, u6⟩
        go_wp2_with fail
        refine (ldInts_any _ _ _ _ _ _ _ (p2.grow (u5.trans u6)) o6.sl (by unfold maxLen; omega)).mono ?_
        rintro e w7 ⟨rfl, u7⟩
        rw [same_iff.2 rfl]
        go_wp2
        go_ret
        exact ⟨rfl, (U5.trans u6).trans u7⟩
      · have hb : decide (span < 1) = false := decide_eq_false h1
        go_wp2_with fail
        refine (implKeepDays_any _ _ _ 1 _ _ (p1.grow u5) (by unfold maxLen; omega) (by omega)).mono ?_
        rintro e w6 ⟨D, dc, rfl, o6, u6⟩
        rw [keepDays_all hs (by omega)] at o6
        have q6 : (keepDays xs 1 xs.length).length = (per xs 1).length := by rw [keepDays_all hs (by omega)]
        rw [q6]
        go_wp2_with fail
        refine (implKeepDays_any _ _ _ 7 _ _ (p1.grow (u5.trans u6)) (by unfold maxLen; omega) (by omega)).mono ?_
        rintro e w7 ⟨W, wc, rfl, o7, u7⟩
        rw [keepDays_all hs (by omega)] at o7
        have q7 : (keepDays xs 7 xs.length).length = (per xs 7).length := by rw [keepDays_all hs (by omega)]
        rw [q7]
        have p6 := o6.sl.grow u7
        have p7 := o7.sl
        have U7 := (U5.trans u6).trans u7
        obtain ⟨n1, n2⟩ := weeks_le_days xs
        have hsub : ∀ n ∈ per xs 7, n ∈ per xs 1 := fun n => weeks_in_days
        clear q6 q7 o6 o7
        generalize per xs 1 = ds at *
        generalize per xs 7 = ws at *
        have f1 : decide ((ws.length : Int) ≤ (ds.length : Int)) = true := decide_eq_true (by omega)
        have f2 : decide ((ds.length : Int) ≤ (xs.length : Int)) = true := decide_eq_true (by omega)
        go_wp2_with fail
        go_loopw [9] (fun i wr => ∃ k : Nat, i = .int .i64 k ∧ k ≤ ws.length ∧ Upd [] w7 wr) (fun i _ => ws.length - (intOf i).toNat)
        case atStart => exact ⟨0, rfl, by omega, Upd.refl _ _⟩
        case round =>
          obtain ⟨k, rfl, hk, hu⟩ := hrel
          by_cases hlt : k < ws.length
          · obtain ⟨b, o, rfl, hcell⟩ := (p7.grow hu).int hlt
            go_wp2_with fail
            refine (ldIn_any _ _ ds ws[k] _ (p6.grow hu) (by unfold maxLen; omega)).mono ?_
            rintro e v1 ⟨rfl, z1⟩
            rw [has_iff.2 (hsub _ (List.getElem_mem hlt))]
            go_wp2
            refine ⟨⟨k + 1, by go_num, by omega, hu.trans z1⟩, by simp only [intOf]; omega⟩
          · obtain rfl : k = ws.length := by omega
            clear hk hlt
            go_wp2
            go_ret
            exact ⟨rfl, U7.trans hu⟩

set_option maxRecDepth 100000 in
theorem keepWeeks_lifted (os : Os) (started : os.Started) (H : Type) (enc : TypeId × Value → H) :
    ReturnsInHanded {} Try.checked os 8 .any (Rows.fnKeepWeeksSpec.pre6 enc Try.prog Try.f8 Rows.fnKeepWeeksRow.domain false) (Rows.fnKeepWeeksSpec.post enc Try.prog Try.f8 false true false false) := by
  refine returnsInHanded_of_change (C := Try.checked) own_knob started (by kernel_rfl) Try.func8
    (ChangeSpec.witness6 (enc := enc) (C := Try.checked) false ⟨#[], #[.slice none 0 0], []⟩ 8 (by kernel_rfl) (by kernel_rfl) (by kernel_rfl) (by kernel_rfl)) ?_
  intro W base args ds gs before hval0 hW hcnd _
  have hval : ∀ (j : Nat) t v, Try.f8.params[j]? = some t → args[j]? = some v → Value.okWide Try.prog W .any base t v := hval0
  have hW' := hW
  obtain ⟨p, q, hA0, hV, rfl, hfz, hnd⟩ := hW
  have hA1 : DataW.TrodAll enc Try.prog W 0 (fun _ => true) true Try.f8.params.toList args.toList ds p := hA0
  have hA := hA1
  rw [Try.params8] at hA hval
  obtain ⟨v0, d0, rfl, rfl, h0⟩ := trodAll_one hA
  obtain ⟨rfl, rfl⟩ := trodVars_none hV
  obtain ⟨A0, x0, c0, rfl, hc0, hm0, hs0, hb0⟩ := open_bytes (hval 0 29 v0 rfl rfl) h0
  clear hA0 hval0
  simp only [List.append_nil] at hW'
  refine (keepWeeks_walk W A0 c0 x0 hs0 hc0 hm0 hb0).mono fun e W' ⟨he, hu⟩ => ?_
  subst he
  exact ⟨_, rfl, law_post laid_out (by rw [Try.params8]; decide +kernel) rfl Try.underlying4 rfl hW' hA1 rfl hu⟩

theorem keepWeeks_holds : Rows.FnKeepWeeksSaid :=
  OpenClaim.holds_of_wide 8 Try.f8 rfl rfl rfl rfl rfl rfl rfl ⟨rfl, rfl, rfl, rfl, rfl⟩ rfl rfl rfl rfl rfl (by kernel_rfl) Try.func8 (by kernel_rfl)
    (of_decide_eq_true (by kernel_rfl)) (by unfold Func.isWrapper; first | (rw [if_pos (by decide +kernel)]; kernel_rfl) | (rw [if_neg (by decide +kernel)]; exact ⟨rfl, rfl⟩))
    (fun os started H enc _ => keepWeeks_lifted os started H enc)
end Go.Proofs.Ytneleojjadbdcaa
