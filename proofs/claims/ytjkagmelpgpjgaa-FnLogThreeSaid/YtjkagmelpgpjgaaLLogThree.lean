/- FnLogThree: a log that begins a drawn one begins it with one more head behind it too. -/
import Derived.Test.YtjkagmelpgpjgaaLgQ
import Derived.Test.YtjkagmelpgpjgaaDrLg2
import Derived.Test.YtjkagmelpgpjgaaLo
import Derived.Test.YtjkagmelpgpjgaaKMem
namespace Go.Proofs.Ytjkagmelpgpjgaa
open Go.ChangeShapes Go.WideShapes Go.ChangeAt Go.RowKit
set_option linter.unusedVariables false
set_option linter.unusedSimpArgs false
attribute [-go_sem] run_neq_struct run_eql_struct run_eqGuard_agg run_equalIn_agg
attribute [local go_sem] neqHead guardHead neqMem eqMem guardMem eqHeadOp max_eq min_eq

set_option maxRecDepth 100000 in
set_option maxHeartbeats 2000000 in
theorem logThree_walk (w : World) (A : Option Addr) (c : Nat) (bs : List Int) (hx : Sl w A (bs.map (.int .u8))) (hc : bs.length ≤ c) (hcm : c ≤ maxLen) (hb : ∀ b ∈ bs, 0 ≤ b ∧ b < 256)
    (B : Option Addr) (d : Nat) (ms : List Int) (hx2 : Sl w B (ms.map (.int .u8))) (hc2 : ms.length ≤ d) (hcm2 : d ≤ maxLen) (hb2 : ∀ b ∈ ms, 0 ≤ b ∧ b < 256) :
    Calls Try.prog 15 #[.slice A bs.length c, .slice B ms.length d] w fun e w' => e = .returned (.bool true) ∧ Upd [] w w' := by
  by_cases hlen : 1048576 < bs.length ∨ 1048576 < ms.length
  · go_enter Try.func15, Try.ntmps15
    go_wp2
    all_goals
      go_ret
      exact ⟨rfl, Upd.refl _ _⟩
  · obtain ⟨g1, g2⟩ : bs.length ≤ 1048576 ∧ ms.length ≤ 1048576 := by omega
    go_enter Try.func15, Try.ntmps15
    go_wp2_with fail
    refine (drawLogBegins_any A c bs _ hx hc hcm hb).mono ?_
    rintro e w1 ⟨P, Q, pc, qc, xs, ys, rfl, o1, l1, o2, l2, u1⟩
    go_wp2_with fail
    refine (implLogBegins_any _ _ _ _ _ _ _ o1.sl o2.sl (by unfold maxLen; omega) (by unfold maxLen; omega)).mono ?_
    rintro e w2 ⟨rfl, u2⟩
    go_wp2_with fail
    refine (specLogBegins_any _ _ _ _ _ _ _ (o1.sl.grow u2) (o2.sl.grow u2) (by unfold maxLen; omega) (by unfold maxLen; omega)).mono ?_
    rintro e w3 ⟨rfl, u3⟩
    have U3 := (u1.trans u2).trans u3
    have p3 := (o1.sl.grow u2).grow u3
    have q3 := (o2.sl.grow u2).grow u3
    have hq : (lgBegins xs ys != lgBegins xs ys) = false := by simp
    go_wp2_with fail
    refine (specLogOk_any _ _ _ _ p3 (by unfold maxLen; omega)).mono ?_
    rintro e w4 ⟨rfl, u4⟩
    have U4 := U3.trans u4
    cases hs : lgOk xs
    · go_wp2_with fail
      refine (specLogBegins_any _ _ _ _ _ _ _ (p3.grow u4) (q3.grow u4) (by unfold maxLen; omega) (by unfold maxLen; omega)).mono ?_
      rintro e w5 ⟨rfl, u5⟩
      go_wp2
      go_ret
      exact ⟨ret_bool (by simp), U4.trans u5⟩
    · go_wp2_with fail
      refine (specLogOk_any _ _ _ _ (q3.grow u4) (by unfold maxLen; omega)).mono ?_
      rintro e w5 ⟨rfl, u5⟩
      have U5 := U4.trans u5
      have p5 := (p3.grow u4).grow u5
      have q5 := (q3.grow u4).grow u5
      cases ht : lgOk ys
      · go_wp2_with fail
        refine (specLogBegins_any _ _ _ _ _ _ _ p5 q5 (by unfold maxLen; omega) (by unfold maxLen; omega)).mono ?_
        rintro e w6 ⟨rfl, u6⟩
        go_wp2
        go_ret
        exact ⟨ret_bool (by simp), U5.trans u6⟩
      · have hbg := lgBegins_ok hs ht
        cases hbe : begins xs ys
        · have hbe1 : lgBegins xs ys = false := hbg.trans hbe
          clear hbg
          go_wp2
          go_ret
          exact ⟨rfl, U5⟩
        · have hbe1 : lgBegins xs ys = true := hbg.trans hbe
          clear hbg
          go_wp2_with fail
          refine (implLogAdd_any Q qc ys ⟨1 + (ms.length : Int) % 2, 1 + (ms.length : Int) % 20⟩ _ q5 (by unfold maxLen; omega)).mono ?_
          rintro e w6 ⟨C, cc, rfl, o6, u6⟩
          obtain ⟨h, hh⟩ : ∃ h : Head, Head.mk (1 + (ms.length : Int) % 2) (1 + (ms.length : Int) % 20) = h := ⟨_, rfl⟩
          rw [hh] at o6 ⊢
          have U6 := U5.trans u6
          cases hk : lgAddOk ys h
          · go_wp2
            go_ret
            exact ⟨rfl, U6⟩
          · obtain ⟨-, -, h9, hadd, hok⟩ := lgAdd_yes hk
            rw [hadd] at o6 ⊢
            have hl6 : (ys ++ [h]).length ≤ 10 := by simp; omega
            have hb1 : lgBegins xs (ys ++ [h]) = true := (lgBegins_ok hs hok).trans (begins_app hbe _)
            have hf1 : lgFork xs (ys ++ [h]) = -1 := (lgFork_ok hs hok).trans (begins_fork (begins_app hbe _))
            clear hadd hh
            generalize ys ++ [h] = zs at *
            go_wp2_with fail
            refine (implLogBegins_any _ _ _ _ _ _ _ (p5.grow u6) o6.sl (by unfold maxLen; omega) (by unfold maxLen; omega)).mono ?_
            rintro e w7 ⟨rfl, u7⟩
            rw [hb1]
            go_wp2_with fail
            refine (implLogFork_any _ _ _ _ _ _ _ ((p5.grow u6).grow u7) (o6.sl.grow u7) (by unfold maxLen; omega) (by unfold maxLen; omega)).mono ?_
            rintro e w8 ⟨rfl, u8⟩
            rw [hf1]
            go_wp2
            go_ret
            exact ⟨rfl, (U6.trans u7).trans u8⟩

set_option maxRecDepth 100000 in
theorem logThree_lifted (os : Os) (started : os.Started) (H : Type) (enc : TypeId × Value → H) :
    ReturnsInHanded {} Try.checked os 15 .any (Rows.fnLogThreeSpec.pre6 enc Try.prog Try.f15 Rows.fnLogThreeRow.domain false) (Rows.fnLogThreeSpec.post enc Try.prog Try.f15 false true false false) := by
  refine returnsInHanded_of_change (C := Try.checked) own_knob started (by kernel_rfl) Try.func15
    (ChangeSpec.witness6 (enc := enc) (C := Try.checked) false ⟨#[], #[.slice none 0 0, .slice none 0 0], []⟩ 8 (by kernel_rfl) (by kernel_rfl) (by kernel_rfl) (by kernel_rfl)) ?_
  intro W base args ds gs before hval0 hW hcnd _
  have hval : ∀ (j : Nat) t v, Try.f15.params[j]? = some t → args[j]? = some v → Value.okWide Try.prog W .any base t v := hval0
  have hW' := hW
  obtain ⟨p, q, hA0, hV, rfl, hfz, hnd⟩ := hW
  have hA1 : DataW.TrodAll enc Try.prog W 0 (fun _ => true) true Try.f15.params.toList args.toList ds p := hA0
  have hA := hA1
  rw [Try.params15] at hA hval
  obtain ⟨v0, v1, d0, d1, p0, p1, rfl, rfl, rfl, h0, h1⟩ := trodAll_two hA
  obtain ⟨rfl, rfl⟩ := trodVars_none hV
  obtain ⟨A0, x0, c0, rfl, hc0, hm0, hs0, hb0⟩ := open_bytes (hval 0 22 v0 rfl rfl) h0
  obtain ⟨A1, x1, c1, rfl, hc1, hm1, hs1, hb1⟩ := open_bytes (hval 1 22 v1 rfl rfl) h1
  clear hA0 hval0
  simp only [List.append_nil] at hW'
  refine (logThree_walk W A0 c0 x0 hs0 hc0 hm0 hb0 A1 c1 x1 hs1 hc1 hm1 hb1).mono fun e W' ⟨he, hu⟩ => ?_
  subst he
  exact ⟨_, rfl, law_post laid_out (by rw [Try.params15]; decide +kernel) rfl Try.underlying4 rfl hW' hA1 rfl hu⟩

theorem logThree_closed : joinedFacts Try.prog 15 Try.f15 Rows.fnLogThreeSpec Rows.fnLogThreeRow = true := by
  simp only [joinedFacts, Bool.and_eq_true]
  and_intros
  all_goals (first | with_reducible exact mayEnter_is | (rw [liftsFinal_is]; rfl) | (rw [make_is]; rfl) | kernel_rfl)
theorem logThree_holds : Rows.FnLogThreeSaid :=
  OpenClaim.holds_of_wide 15 Try.f15 rfl rfl rfl rfl rfl rfl rfl ⟨rfl, rfl, rfl, rfl, rfl⟩ rfl rfl rfl rfl rfl (by kernel_rfl) Try.func15 logThree_closed
    (of_decide_eq_true (by kernel_rfl)) (by unfold Func.isWrapper; first | (rw [if_pos (by decide +kernel)]; kernel_rfl) | (rw [if_neg (by decide +kernel)]; exact ⟨rfl, rfl⟩))
    (fun os started H enc _ => logThree_lifted os started H enc)
end Go.Proofs.Ytjkagmelpgpjgaa
