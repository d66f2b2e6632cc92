/- FnSeeTwo: whoever has seen one of two drawn logs is well at the other just if that begins with it. -/
import Derived.Test.YtjkagmelpgpjgaaLgQ
import Derived.Test.YtjkagmelpgpjgaaDrLg2
import Derived.Test.YtjkagmelpgpjgaaLo
import Derived.Test.YtjkagmelpgpjgaaKMem
namespace Go.Proofs.Ytjkagmelpgpjgaa
open Go.ChangeShapes Go.WideShapes Go.ChangeAt Go.RowKit
set_option linter.unusedVariables false
set_option linter.unusedSimpArgs false
attribute [-go_sem] run_neq_struct run_eql_struct run_eqGuard_agg run_equalIn_agg
attribute [local go_sem] neqHead guardHead neqMem eqMem guardMem eqHeadOp max_eq min_eq

set_option maxRecDepth 100000 in
set_option maxHeartbeats 2000000 in
theorem seeTwo_walk (w : World) (A : Option Addr) (c : Nat) (bs : List Int) (hx : Sl w A (bs.map (.int .u8))) (hc : bs.length ≤ c) (hcm : c ≤ maxLen) (hb : ∀ b ∈ bs, 0 ≤ b ∧ b < 256) :
    Calls Try.prog 17 #[.slice A bs.length c] w fun e w' => e = .returned (.bool true) ∧ Upd [] w w' := by
  by_cases hlen : 1048576 < bs.length
  · go_enter Try.func17, Try.ntmps17
    go_wp2
    all_goals
      go_ret
      exact ⟨rfl, Upd.refl _ _⟩
  · have g1 : bs.length ≤ 1048576 := by omega
    go_enter Try.func17, Try.ntmps17
    go_wp2_with fail
    refine (drawLogFork_any A c bs _ hx hc hcm hb).mono ?_
    rintro e w1 ⟨P, Q, pc, qc, xs, ys, rfl, o1, l1, o2, l2, u1⟩
    go_wp2_with fail
    refine (implLogFork_any _ _ _ _ _ _ _ o1.sl o2.sl (by unfold maxLen; omega) (by unfold maxLen; omega)).mono ?_
    rintro e w2 ⟨rfl, u2⟩
    go_wp2_with fail
    refine (specLogFork_any _ _ _ _ _ _ _ (o1.sl.grow u2) (o2.sl.grow u2) (by unfold maxLen; omega) (by unfold maxLen; omega)).mono ?_
    rintro e w3 ⟨rfl, u3⟩
    have U3 := (u1.trans u2).trans u3
    have p3 := (o1.sl.grow u2).grow u3
    have q3 := (o2.sl.grow u2).grow u3
    have hq : (lgFork xs ys != lgFork xs ys) = false := by simp
    go_wp2_with fail
    refine (specLogOk_any _ _ _ _ p3 (by unfold maxLen; omega)).mono ?_
    rintro e w4 ⟨rfl, u4⟩
    have U4 := U3.trans u4
    cases hs : lgOk xs
    · go_wp2_with fail
      refine (specLogFork_any _ _ _ _ _ _ _ (p3.grow u4) (q3.grow u4) (by unfold maxLen; omega) (by unfold maxLen; omega)).mono ?_
      rintro e w5 ⟨rfl, u5⟩
      go_wp2
      go_ret
      exact ⟨ret_bool (by simp), U4.trans u5⟩
    · go_wp2_with fail
      refine (specLogOk_any _ _ _ _ (q3.grow u4) (by unfold maxLen; omega)).mono ?_
      rintro e w5 ⟨rfl, u5⟩
      have U5 := U4.trans u5
      have p5 := (p3.grow u4).grow u5
      have q5 := (q3.grow u4).grow u5
      cases ht : lgOk ys
      · go_wp2_with fail
        refine (specLogFork_any _ _ _ _ _ _ _ p5 q5 (by unfold maxLen; omega) (by unfold maxLen; omega)).mono ?_
        rintro e w6 ⟨rfl, u6⟩
        go_wp2
        go_ret
        exact ⟨ret_bool (by simp), U5.trans u6⟩
      · have hcap1 := o1.cap.1
        have hcap2 := o2.cap.1
        have hf := lgFork_ok hs ht
        have hbg := lgBegins_ok hs ht
        have hw : see ⟨0, 0⟩ xs = (⟨xs.length, lgSum xs⟩, 0) := by rw [see_of hs (by simp)]; simp [sumTo]
        obtain ⟨⟨⟨L, S⟩, n⟩, hsee⟩ : ∃ r, see ⟨xs.length, lgSum xs⟩ ys = r := ⟨_, rfl⟩
        have hkept := see_kept hs ht
        rw [hsee] at hkept
        have hc1 := implMemorySee_any ⟨0, 0⟩ P pc xs w5 p5 hcap1 (by unfold maxLen; omega)
        unfold RetSee at hc1
        rw [hw] at hc1
        dsimp only [encMem] at hc1
        go_wp2_with fail
        refine hc1.mono ?_
        rintro e w6 ⟨rfl, u6⟩
        have ua := (Upd.refl [] w6).alloc (.cells #[.int .i64 xs.length, .int .i64 (lgSum xs)] 47)
        have hc2 := implMemorySee_any ⟨xs.length, lgSum xs⟩ Q qc ys _ ((q5.grow u6).grow ua) hcap2 (by unfold maxLen; omega)
        unfold RetSee at hc2
        rw [hsee] at hc2
        dsimp only [encMem] at hc2
        go_wp2_with fail
        refine hc2.mono ?_
        rintro e w7 ⟨rfl, u7⟩
        have ub := (Upd.refl [] w7).alloc (.cells #[.int .i64 L, .int .i64 S] 47)
        have U7 := (((U5.trans u6).trans ua).trans u7).trans ub
        have p7 := ((p5.grow u6).grow ua).grow (u7.trans ub)
        have q7 := ((q5.grow u6).grow ua).grow (u7.trans ub)
        cases hbe : begins xs ys
        · have hn : n = 1 ∨ n = 2 := by
            have h := hkept
            rw [hbe] at h
            by_cases hl : ys.length < xs.length
            · rw [if_pos hl] at h; exact .inl h
            · rw [if_neg hl, if_neg (by simp)] at h; exact .inr h
          have hb0 : (n == 0) = false := by rcases hn with rfl | rfl <;> rfl
          have hb1 : (n != 0) = true := by rcases hn with rfl | rfl <;> rfl
          have hbe1 : lgBegins xs ys = false := hbg.trans hbe
          clear hn hkept hsee hbg hf
          by_cases hneg : fk xs ys < 0
          · have hb2 : decide (fk xs ys < 0) = true := decide_eq_true hneg
            go_wp2_with fail
            refine (implLogBegins_any _ _ _ _ _ _ _ p7 q7 (by unfold maxLen; omega) (by unfold maxLen; omega)).mono ?_
            rintro e w8 ⟨rfl, u8⟩
            rw [hbe1]
            go_wp2
            go_ret
            exact ⟨rfl, U7.trans u8⟩
          · have hb2 : decide (fk xs ys < 0) = false := decide_eq_false hneg
            go_wp2_with fail
            refine (implLogBegins_any _ _ _ _ _ _ _ p7 q7 (by unfold maxLen; omega) (by unfold maxLen; omega)).mono ?_
            rintro e w8 ⟨rfl, u8⟩
            rw [hbe1]
            go_wp2
            go_ret
            exact ⟨rfl, U7.trans u8⟩
        · have hle := (begins_iff.1 hbe).length_le
          have hn : n = 0 := by rw [if_neg (by omega), if_pos hbe] at hkept; exact hkept
          subst hn
          have hb2 : decide (fk xs ys < 0) = true := decide_eq_true (by rw [begins_fork hbe]; omega)
          have hbe1 : lgBegins xs ys = true := hbg.trans hbe
          clear hkept hsee hbg hf
          go_wp2_with fail
          refine (implLogBegins_any _ _ _ _ _ _ _ p7 q7 (by unfold maxLen; omega) (by unfold maxLen; omega)).mono ?_
          rintro e w8 ⟨rfl, u8⟩
          rw [hbe1]
          go_wp2
          go_ret
          exact ⟨rfl, U7.trans u8⟩

set_option maxRecDepth 100000 in
theorem seeTwo_lifted (os : Os) (started : os.Started) (H : Type) (enc : TypeId × Value → H) :
    ReturnsInHanded {} Try.checked os 17 .any (Rows.fnSeeTwoSpec.pre6 enc Try.prog Try.f17 Rows.fnSeeTwoRow.domain false) (Rows.fnSeeTwoSpec.post enc Try.prog Try.f17 false true false false) := by
  refine returnsInHanded_of_change (C := Try.checked) own_knob started (by kernel_rfl) Try.func17
    (ChangeSpec.witness6 (enc := enc) (C := Try.checked) false ⟨#[], #[.slice none 0 0], []⟩ 8 (by kernel_rfl) (by kernel_rfl) (by kernel_rfl) (by kernel_rfl)) ?_
  intro W base args ds gs before hval0 hW hcnd _
  have hval : ∀ (j : Nat) t v, Try.f17.params[j]? = some t → args[j]? = some v → Value.okWide Try.prog W .any base t v := hval0
  have hW' := hW
  obtain ⟨p, q, hA0, hV, rfl, hfz, hnd⟩ := hW
  have hA1 : DataW.TrodAll enc Try.prog W 0 (fun _ => true) true Try.f17.params.toList args.toList ds p := hA0
  have hA := hA1
  rw [Try.params17] at hA hval
  obtain ⟨v0, d0, rfl, rfl, h0⟩ := trodAll_one hA
  obtain ⟨rfl, rfl⟩ := trodVars_none hV
  obtain ⟨A0, x0, c0, rfl, hc0, hm0, hs0, hb0⟩ := open_bytes (hval 0 22 v0 rfl rfl) h0
  clear hA0 hval0
  simp only [List.append_nil] at hW'
  refine (seeTwo_walk W A0 c0 x0 hs0 hc0 hm0 hb0).mono fun e W' ⟨he, hu⟩ => ?_
  subst he
  exact ⟨_, rfl, law_post laid_out (by rw [Try.params17]; decide +kernel) rfl Try.underlying4 rfl hW' hA1 rfl hu⟩

theorem seeTwo_closed : joinedFacts Try.prog 17 Try.f17 Rows.fnSeeTwoSpec Rows.fnSeeTwoRow = true := by
  simp only [joinedFacts, Bool.and_eq_true]
  and_intros
  all_goals (first | with_reducible exact mayEnter_is | (rw [liftsFinal_is]; rfl) | (rw [make_is]; rfl) | kernel_rfl)
theorem seeTwo_holds : Rows.FnSeeTwoSaid :=
  OpenClaim.holds_of_wide 17 Try.f17 rfl rfl rfl rfl rfl rfl rfl ⟨rfl, rfl, rfl, rfl, rfl⟩ rfl rfl rfl rfl rfl (by kernel_rfl) Try.func17 seeTwo_closed
    (of_decide_eq_true (by kernel_rfl)) (by unfold Func.isWrapper; first | (rw [if_pos (by decide +kernel)]; kernel_rfl) | (rw [if_neg (by decide +kernel)]; exact ⟨rfl, rfl⟩))
    (fun os started H enc _ => seeTwo_lifted os started H enc)
end Go.Proofs.Ytjkagmelpgpjgaa
