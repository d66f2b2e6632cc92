/- FnLogFork: where two drawn logs fork. -/
import Derived.Test.YtjkagmelpgpjgaaLgQ
import Derived.Test.YtjkagmelpgpjgaaDrLg2
import Derived.Test.YtjkagmelpgpjgaaLo
import Derived.Test.YtjkagmelpgpjgaaKMem
namespace Go.Proofs.Ytjkagmelpgpjgaa
open Go.ChangeShapes Go.WideShapes Go.ChangeAt Go.RowKit
set_option linter.unusedVariables false
set_option linter.unusedSimpArgs false
attribute [-go_sem] run_neq_struct run_eql_struct run_eqGuard_agg run_equalIn_agg
attribute [local go_sem] neqHead guardHead neqMem eqMem guardMem eqHeadOp max_eq min_eq

set_option maxRecDepth 100000 in
set_option maxHeartbeats 2000000 in
theorem logForkLaw_walk (w : World) (A : Option Addr) (c : Nat) (bs : List Int) (hx : Sl w A (bs.map (.int .u8))) (hc : bs.length ≤ c) (hcm : c ≤ maxLen) (hb : ∀ b ∈ bs, 0 ≤ b ∧ b < 256) :
    Calls Try.prog 10 #[.slice A bs.length c] w fun e w' => e = .returned (.bool true) ∧ Upd [] w w' := by
  by_cases hlen : 1048576 < bs.length
  · go_enter Try.func10, Try.ntmps10
    go_wp2
    all_goals
      go_ret
      exact ⟨rfl, Upd.refl _ _⟩
  · have g1 : bs.length ≤ 1048576 := by omega
    go_enter Try.func10, Try.ntmps10
    go_wp2_with fail
    refine (drawLogFork_any A c bs _ hx hc hcm hb).mono ?_
    rintro e w1 ⟨P, Q, pc, qc, xs, ys, rfl, o1, l1, o2, l2, u1⟩
    go_wp2_with fail
    refine (implLogFork_any _ _ _ _ _ _ _ o1.sl o2.sl (by unfold maxLen; omega) (by unfold maxLen; omega)).mono ?_
    rintro e w2 ⟨rfl, u2⟩
    go_wp2_with fail
    refine (specLogFork_any _ _ _ _ _ _ _ (o1.sl.grow u2) (o2.sl.grow u2) (by unfold maxLen; omega) (by unfold maxLen; omega)).mono ?_
    rintro e w3 ⟨rfl, u3⟩
    have U3 := (u1.trans u2).trans u3
    have p3 := (o1.sl.grow u2).grow u3
    have q3 := (o2.sl.grow u2).grow u3
    have hq : (lgFork xs ys != lgFork xs ys) = false := by simp
    go_wp2_with fail
    refine (specLogOk_any _ _ _ _ p3 (by unfold maxLen; omega)).mono ?_
    rintro e w4 ⟨rfl, u4⟩
    have U4 := U3.trans u4
    cases hs : lgOk xs
    · go_wp2_with fail
      refine (specLogFork_any _ _ _ _ _ _ _ (p3.grow u4) (q3.grow u4) (by unfold maxLen; omega) (by unfold maxLen; omega)).mono ?_
      rintro e w5 ⟨rfl, u5⟩
      go_wp2
      go_ret
      exact ⟨ret_bool (by simp), U4.trans u5⟩
    · go_wp2_with fail
      refine (specLogOk_any _ _ _ _ (q3.grow u4) (by unfold maxLen; omega)).mono ?_
      rintro e w5 ⟨rfl, u5⟩
      have U5 := U4.trans u5
      have p5 := (p3.grow u4).grow u5
      have q5 := (q3.grow u4).grow u5
      cases ht : lgOk ys
      · go_wp2_with fail
        refine (specLogFork_any _ _ _ _ _ _ _ p5 q5 (by unfold maxLen; omega) (by unfold maxLen; omega)).mono ?_
        rintro e w6 ⟨rfl, u6⟩
        go_wp2
        go_ret
        exact ⟨ret_bool (by simp), U5.trans u6⟩
      · have hcap1 := o1.cap.1
        have hcap2 := o2.cap.1
        have hf := lgFork_ok hs ht
        have hf2 := lgFork_ok ht hs
        have hbg := lgBegins_ok hs ht
        have hbg2 := lgBegins_ok ht hs
        by_cases hn : fk xs ys < 0
        · obtain ⟨h1, h2⟩ := fk_neg hn
          have hf1 : lgFork xs ys = -1 := hf.trans h1
          clear hf hf2 hn h1
          cases hbe : begins xs ys
          · have hbe2 : lgBegins ys xs = true := hbg2.trans (h2.resolve_left (by rw [hbe]; simp))
            have hbe1 : lgBegins xs ys = false := hbg.trans hbe
            clear hbg hbg2
            go_wp2_with fail
            refine (implLogBegins_any _ _ _ _ _ _ _ p5 q5 (by unfold maxLen; omega) (by unfold maxLen; omega)).mono ?_
            rintro e w6 ⟨rfl, u6⟩
            rw [hbe1]
            go_wp2_with fail
            refine (implLogBegins_any _ _ _ _ _ _ _ (q5.grow u6) (p5.grow u6) (by unfold maxLen; omega) (by unfold maxLen; omega)).mono ?_
            rintro e w7 ⟨rfl, u7⟩
            rw [hbe2]
            go_wp2
            go_ret
            exact ⟨rfl, (U5.trans u6).trans u7⟩
          · have hbe1 : lgBegins xs ys = true := hbg.trans hbe
            clear hbg hbg2
            go_wp2_with fail
            refine (implLogBegins_any _ _ _ _ _ _ _ p5 q5 (by unfold maxLen; omega) (by unfold maxLen; omega)).mono ?_
            rintro e w6 ⟨rfl, u6⟩
            rw [hbe1]
            go_wp2
            go_ret
            exact ⟨rfl, U5.trans u6⟩
        · obtain ⟨k, h1, h2, h3, h4, h5, h6⟩ := fk_pos (show 0 ≤ fk xs ys by omega)
          have hf1 : lgFork xs ys = k := hf.trans h3
          have hf3 : lgFork ys xs = k := hf2.trans h6
          have hsm : same (atHead xs k) (atHead ys k) = false := same_not.2 (by rw [atHead_get h1, atHead_get h2]; exact h5)
          have htx : (xs.take k).length = k := by rw [List.length_take]; omega
          have hty : (ys.take k).length = k := by rw [List.length_take]; omega
          have hld := fun g : Later w5 => ldLog_any P Q pc qc (xs.take k) (ys.take k) g.world ((p5.head_take k).grow g.upd) ((q5.head_take k).grow g.upd) (by rw [htx]; unfold maxLen; omega)
          rw [htx, hty, same_iff.2 h4] at hld
          have hfk := fun g : Later w5 => implLogFork_any Q P qc pc ys xs g.world (q5.grow g.upd) (p5.grow g.upd) (by unfold maxLen; omega) (by unfold maxLen; omega)
          rw [hf3] at hfk
          clear hf hf2 h3 h4 h5 h6 htx hty hf3 hbg hbg2
          obtain ⟨b1, a1, rfl, c1, c2⟩ := p5.head h1
          obtain ⟨b2, a2, rfl, e1, e2⟩ := q5.head h2
          have dc1 := fun g : Later w5 => g.cell c1
          have dc2 := fun g : Later w5 => g.cell c2
          have de1 := fun g : Later w5 => g.cell e1
          have de2 := fun g : Later w5 => g.cell e2
          have i1 : k ≤ pc := by omega
          have i2 : k ≤ qc := by omega
          have i3 : (k : Int) ≤ pc := by omega
          have i4 : (k : Int) ≤ qc := by omega
          have hnn : decide ((k : Int) < 0) = false := decide_eq_false (by omega)
          go_wp2
          refine wp_region_calm (by kernel_rfl) (by kernel_rfl) ?_
          repeat (any_goals (first | go_big_quiet_step ((first | (go_at_call 32; exact Calls.calm (hld _)) | (go_at_call 28; exact Calls.calm (hfk _)))) | quiet_step ((first | (go_at_call 32; exact Calls.calm (hld _)) | (go_at_call 28; exact Calls.calm (hfk _))))))
          refine wpQuiet_nil ?_
          rintro _ ⟨g, rfl⟩
          have hg := g.upd
          go_wp2
          go_ret
          exact ⟨rfl, U5.trans hg⟩

set_option maxRecDepth 100000 in
theorem logForkLaw_lifted (os : Os) (started : os.Started) (H : Type) (enc : TypeId × Value → H) :
    ReturnsInHanded {} Try.checked os 10 .any (Rows.fnLogForkSpec.pre6 enc Try.prog Try.f10 Rows.fnLogForkRow.domain false) (Rows.fnLogForkSpec.post enc Try.prog Try.f10 false true false false) := by
  refine returnsInHanded_of_change (C := Try.checked) own_knob started (by kernel_rfl) Try.func10
    (ChangeSpec.witness6 (enc := enc) (C := Try.checked) false ⟨#[], #[.slice none 0 0], []⟩ 8 (by kernel_rfl) (by kernel_rfl) (by kernel_rfl) (by kernel_rfl)) ?_
  intro W base args ds gs before hval0 hW hcnd _
  have hval : ∀ (j : Nat) t v, Try.f10.params[j]? = some t → args[j]? = some v → Value.okWide Try.prog W .any base t v := hval0
  have hW' := hW
  obtain ⟨p, q, hA0, hV, rfl, hfz, hnd⟩ := hW
  have hA1 : DataW.TrodAll enc Try.prog W 0 (fun _ => true) true Try.f10.params.toList args.toList ds p := hA0
  have hA := hA1
  rw [Try.params10] at hA hval
  obtain ⟨v0, d0, rfl, rfl, h0⟩ := trodAll_one hA
  obtain ⟨rfl, rfl⟩ := trodVars_none hV
  obtain ⟨A0, x0, c0, rfl, hc0, hm0, hs0, hb0⟩ := open_bytes (hval 0 22 v0 rfl rfl) h0
  clear hA0 hval0
  simp only [List.append_nil] at hW'
  refine (logForkLaw_walk W A0 c0 x0 hs0 hc0 hm0 hb0).mono fun e W' ⟨he, hu⟩ => ?_
  subst he
  exact ⟨_, rfl, law_post laid_out (by rw [Try.params10]; decide +kernel) rfl Try.underlying4 rfl hW' hA1 rfl hu⟩

theorem logForkLaw_closed : joinedFacts Try.prog 10 Try.f10 Rows.fnLogForkSpec Rows.fnLogForkRow = true := by
  simp only [joinedFacts, Bool.and_eq_true]
  and_intros
  all_goals (first | with_reducible exact mayEnter_is | (rw [liftsFinal_is]; rfl) | (rw [make_is]; rfl) | kernel_rfl)
theorem logForkLaw_holds : Rows.FnLogForkSaid :=
  OpenClaim.holds_of_wide 10 Try.f10 rfl rfl rfl rfl rfl rfl rfl ⟨rfl, rfl, rfl, rfl, rfl⟩ rfl rfl rfl rfl rfl (by kernel_rfl) Try.func10 logForkLaw_closed
    (of_decide_eq_true (by kernel_rfl)) (by unfold Func.isWrapper; first | (rw [if_pos (by decide +kernel)]; kernel_rfl) | (rw [if_neg (by decide +kernel)]; exact ⟨rfl, rfl⟩))
    (fun os started H enc _ => logForkLaw_lifted os started H enc)
end Go.Proofs.Ytjkagmelpgpjgaa
