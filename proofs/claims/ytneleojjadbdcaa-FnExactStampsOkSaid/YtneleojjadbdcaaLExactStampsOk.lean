/- FnExactStampsOk: for every history the program's StampsOk answers as the reference's, and leaves its argument as it was. -/
import Derived.Test.YtneleojjadbdcaaSt
import Derived.Test.YtneleojjadbdcaaR
namespace Go.Proofs.Ytneleojjadbdcaa
open Go.ChangeShapes Go.WideShapes Go.ChangeAt Go.RowKit
set_option linter.unusedVariables false
set_option linter.unusedSimpArgs false

set_option maxHeartbeats 1000000 in
theorem exactStampsOk_walk (A : Option Addr) (c : Nat) (xs : List Stamp) (w : World) (hx : Sl w A (xs.flatMap encStamp)) (hlx : xs.length ≤ maxLen) :
    Calls Try.prog 3 #[.slice A xs.length c] w fun e w' => e = .returned (.bool true) ∧ Upd [] w w' := by
  go_enter Try.func3, Try.ntmps3
  go_wp2_with fail
  refine (szStampS_any _ _ _ _ _ (by omega) (by omega) hlx).mono ?_
  rintro e w1 ⟨r, rfl, hr1, hr2, hu1⟩
  by_cases hr : r < 0
  · go_wp2
    go_ret
    exact ⟨rfl, hu1⟩
  · have hn : xs.length ≤ 1048576 := by have := hr2 (by omega); omega
    go_wp2_with fail
    refine (toStampS_any _ _ _ _ (hx.grow hu1) hn).mono ?_
    rintro e w2 ⟨B1, rfl, hB1, hu2⟩
    go_wp2_with fail
    refine (specStampsOk_any _ _ _ _ hB1.sl hlx).mono ?_
    rintro e w3 ⟨rfl, hu3⟩
    have U3 := (hu1.trans hu2).trans hu3
    go_wp2_with fail
    refine (toStampS_any _ _ _ _ (hx.grow U3) hn).mono ?_
    rintro e w4 ⟨B2, rfl, hB2, hu4⟩
    go_wp2_with fail
    refine (implStampsOk_any _ _ _ _ hB2.sl hlx).mono ?_
    rintro e w5 ⟨rfl, hu5⟩
    have U5 := (U3.trans hu4).trans hu5
    cases hs : stOk xs
    all_goals
      go_wp2_with fail
      refine (toStampS_any _ _ _ _ (hx.grow U5) hn).mono ?_
      rintro e w6 ⟨B3, rfl, hB3, hu6⟩
      go_wp2_with fail
      refine (eqStampS_any _ _ _ _ _ _ _ (hB2.sl.grow (hu5.trans hu6)) hB3.sl hlx).mono ?_
      rintro e w7 ⟨rfl, hu7⟩
      rw [same_iff.2 rfl]
      go_wp2
      go_ret
      exact ⟨rfl, (U5.trans hu6).trans hu7⟩

theorem open_stamps {H : Type} {enc : TypeId × Value → H} {w : World} {sp : Nat → Bool} {r : Reach} {b0 : Nat} {v : Value} {d : DataW H} {ps : List MemPlace}
    (hval : Value.okWide Try.prog w r b0 22 v) (h : DataW.Trod enc Try.prog w 0 sp true 22 v d ps) : ∃ (A : Option Addr) (xs : List Stamp) (c : Nat), v = .slice A xs.length c ∧ xs.length ≤ c ∧ c ≤ maxLen ∧ Sl w A (xs.flatMap encStamp) := by
  refine open_sl encStamp 2 (fun _ => rfl) (by omega) Try.underlying22 (by kernel_rfl) (fun cs m y hy hl => ?_) hval h
  have hf := trod_fields Try.underlying50 (by kernel_rfl) hl hy
  obtain ⟨v0, y0, n0, hv0, ht0⟩ := hf 0 _ rfl
  obtain ⟨v1, y1, n1, hv1, ht1⟩ := hf 1 _ rfl
  obtain ⟨i0, e0, _, _⟩ := DataW.trod_int Try.underlying3 ht0
  obtain ⟨i1, e1, _, _⟩ := DataW.trod_int Try.underlying3 ht1
  cases e0; cases e1
  match cs, hl, hv0, hv1 with
  | [u, v], _, hv0, hv1 =>
    cases hv0; cases hv1
    exact ⟨⟨i0, i1⟩, rfl⟩

set_option maxRecDepth 100000 in
theorem exactStampsOk_lifted (os : Os) (started : os.Started) (H : Type) (enc : TypeId × Value → H) :
    ReturnsInHanded {} Try.checked os 3 .any (Rows.fnExactStampsOkSpec.pre6 enc Try.prog Try.f3 Rows.fnExactStampsOkRow.domain false) (Rows.fnExactStampsOkSpec.post enc Try.prog Try.f3 false true false false) := by
  refine returnsInHanded_of_change (C := Try.checked) own_knob started (by kernel_rfl) Try.func3
    (ChangeSpec.witness6 (enc := enc) (C := Try.checked) false ⟨#[], #[.slice none 0 0], []⟩ 8 (by kernel_rfl) (by kernel_rfl) (by kernel_rfl) (by kernel_rfl)) ?_
  intro W base args ds gs before hval0 hW hcnd _
  have hval : ∀ (j : Nat) t v, Try.f3.params[j]? = some t → args[j]? = some v → Value.okWide Try.prog W .any base t v := hval0
  have hW' := hW
  obtain ⟨p, q, hA0, hV, rfl, hfz, hnd⟩ := hW
  have hA1 : DataW.TrodAll enc Try.prog W 0 (fun _ => true) true Try.f3.params.toList args.toList ds p := hA0
  have hA := hA1
  rw [Try.params3] at hA hval
  obtain ⟨v0, d0, rfl, rfl, h0⟩ := trodAll_one hA
  obtain ⟨rfl, rfl⟩ := trodVars_none hV
  obtain ⟨A, xs, c, rfl, hc1, hc2, hx⟩ := open_stamps (hval 0 22 v0 rfl rfl) h0
  clear hA0 hval0
  simp only [List.append_nil] at hW'
  refine (exactStampsOk_walk A c xs W hx (Nat.le_trans hc1 hc2)).mono fun e W' ⟨he, hu⟩ => ?_
  subst he
  exact ⟨_, rfl, law_post laid_out (by rw [Try.params3]; decide +kernel) rfl Try.underlying4 rfl hW' hA1 rfl hu⟩

theorem exactStampsOk_holds : Rows.FnExactStampsOkSaid :=
  OpenClaim.holds_of_wide 3 Try.f3 rfl rfl rfl rfl rfl rfl rfl ⟨rfl, rfl, rfl, rfl, rfl⟩ rfl rfl rfl rfl rfl (by kernel_rfl) Try.func3 (by kernel_rfl)
    (of_decide_eq_true (by kernel_rfl)) (by unfold Func.isWrapper; first | (rw [if_pos (by decide +kernel)]; kernel_rfl) | (rw [if_neg (by decide +kernel)]; exact ⟨rfl, rfl⟩))
    (fun os started H enc _ => exactStampsOk_lifted os started H enc)
end Go.Proofs.Ytneleojjadbdcaa
