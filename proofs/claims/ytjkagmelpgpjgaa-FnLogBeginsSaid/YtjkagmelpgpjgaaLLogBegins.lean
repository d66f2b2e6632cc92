/- FnLogBegins: one drawn log is the beginning of another one, if that has all of it first. -/
import Derived.Test.YtjkagmelpgpjgaaLgQ
import Derived.Test.YtjkagmelpgpjgaaDrLg2
import Derived.Test.YtjkagmelpgpjgaaLo
import Derived.Test.YtjkagmelpgpjgaaKMem
namespace Go.Proofs.Ytjkagmelpgpjgaa
open Go.ChangeShapes Go.WideShapes Go.ChangeAt Go.RowKit
set_option linter.unusedVariables false
set_option linter.unusedSimpArgs false
attribute [-go_sem] run_neq_struct run_eql_struct run_eqGuard_agg run_equalIn_agg
attribute [local go_sem] neqHead guardHead neqMem eqMem guardMem eqHeadOp max_eq min_eq

set_option maxRecDepth 100000 in
set_option maxHeartbeats 2000000 in
theorem logBeginsLaw_walk (w : World) (A : Option Addr) (c : Nat) (bs : List Int) (hx : Sl w A (bs.map (.int .u8))) (hc : bs.length ≤ c) (hcm : c ≤ maxLen) (hb : ∀ b ∈ bs, 0 ≤ b ∧ b < 256) :
    Calls Try.prog 11 #[.slice A bs.length c] w fun e w' => e = .returned (.bool true) ∧ Upd [] w w' := by
  by_cases hlen : 1048576 < bs.length
  · go_enter Try.func11, Try.ntmps11
    go_wp2
    all_goals
      go_ret
      exact ⟨rfl, Upd.refl _ _⟩
  · have g1 : bs.length ≤ 1048576 := by omega
    go_enter Try.func11, Try.ntmps11
    go_wp2_with fail
    refine (drawLogBegins_any A c bs _ hx hc hcm hb).mono ?_
    rintro e w1 ⟨P, Q, pc, qc, xs, ys, rfl, o1, l1, o2, l2, u1⟩
    go_wp2_with fail
    refine (implLogBegins_any _ _ _ _ _ _ _ o1.sl o2.sl (by unfold maxLen; omega) (by unfold maxLen; omega)).mono ?_
    rintro e w2 ⟨rfl, u2⟩
    go_wp2_with fail
    refine (specLogBegins_any _ _ _ _ _ _ _ (o1.sl.grow u2) (o2.sl.grow u2) (by unfold maxLen; omega) (by unfold maxLen; omega)).mono ?_
    rintro e w3 ⟨rfl, u3⟩
    have U3 := (u1.trans u2).trans u3
    have p3 := (o1.sl.grow u2).grow u3
    have q3 := (o2.sl.grow u2).grow u3
    have hq : (lgBegins xs ys != lgBegins xs ys) = false := by simp
    go_wp2_with fail
    refine (specLogOk_any _ _ _ _ p3 (by unfold maxLen; omega)).mono ?_
    rintro e w4 ⟨rfl, u4⟩
    have U4 := U3.trans u4
    cases hs : lgOk xs
    · go_wp2_with fail
      refine (specLogBegins_any _ _ _ _ _ _ _ (p3.grow u4) (q3.grow u4) (by unfold maxLen; omega) (by unfold maxLen; omega)).mono ?_
      rintro e w5 ⟨rfl, u5⟩
      go_wp2
      go_ret
      exact ⟨ret_bool (by simp), U4.trans u5⟩
    · go_wp2_with fail
      refine (specLogOk_any _ _ _ _ (q3.grow u4) (by unfold maxLen; omega)).mono ?_
      rintro e w5 ⟨rfl, u5⟩
      have U5 := U4.trans u5
      have p5 := (p3.grow u4).grow u5
      have q5 := (q3.grow u4).grow u5
      cases ht : lgOk ys
      · go_wp2_with fail
        refine (specLogBegins_any _ _ _ _ _ _ _ p5 q5 (by unfold maxLen; omega) (by unfold maxLen; omega)).mono ?_
        rintro e w6 ⟨rfl, u6⟩
        go_wp2
        go_ret
        exact ⟨ret_bool (by simp), U5.trans u6⟩
      · have hcap := o2.cap.1
        have hbg := lgBegins_ok hs ht
        have hbg2 := lgBegins_ok ht hs
        have hcan : (decide ((xs.length : Int) ≤ (ys.length : Int)) && same (ys.take (min xs.length ys.length)) xs) = begins xs ys := by
          by_cases h : xs.length ≤ ys.length
          · rw [decide_eq_true (by omega), Bool.true_and, Nat.min_eq_left h]
            unfold begins
            rw [Bool.eq_iff_iff, same_iff, decide_eq_true_iff]
            exact eq_comm
          · rw [decide_eq_false (by omega), Bool.false_and, begins_len (by omega)]
        have hboth := begins_both xs ys
        have hnil : lgBegins [] xs = true := by rw [lgBegins_ok (by decide) hs, begins_nil]
        have HC := Lib.hid hcan
        have HB := Lib.hid hboth
        clear hcan hboth
        rw [hbg] at hq
        cases hbe : begins xs ys
        · have hsm : same xs ys = false := by have := HB.out; rw [hbe] at this; simpa using this.symm
          have hbg3 : lgBegins xs ys = false := hbg.trans hbe
          clear hbg
          by_cases h : xs.length ≤ ys.length
          · have hst := q5.head_take xs.length
            have htl : (ys.take xs.length).length = xs.length := by rw [List.length_take]; omega
            have hcan1 : same (ys.take xs.length) xs = false := by have := HC.out; rw [decide_eq_true (by omega), Bool.true_and, Nat.min_eq_left h] at this; rw [this, hbe]
            have hcap2 : xs.length ≤ qc := by omega
            have hb1 : decide ((xs.length : Int) ≤ (ys.length : Int)) = true := decide_eq_true (by omega)
            go_wp2_with fail
            have cl := ldLog_any Q P qc pc (ys.take xs.length) xs w5 hst p5 (by rw [htl]; unfold maxLen; omega)
            rw [htl, hcan1] at cl
            rw [show (min (xs.length : Int) (ys.length : Int)).toNat = xs.length from by omega]
            refine cl.mono ?_
            rintro e w6 ⟨rfl, u6⟩
            go_wp2_with fail
            refine (ldLog_any _ _ _ _ _ _ _ (p5.grow u6) (q5.grow u6) (by unfold maxLen; omega)).mono ?_
            rintro e w7 ⟨rfl, u7⟩
            rw [hsm]
            go_wp2_with fail
            refine (nilBegins_any P pc xs _ ((p5.grow u6).grow u7) hs).mono ?_
            rintro e w8 ⟨rfl, u8⟩
            go_wp2
            go_ret
            exact ⟨rfl, ((U5.trans u6).trans u7).trans u8⟩
          · have hb1 : decide ((xs.length : Int) ≤ (ys.length : Int)) = false := decide_eq_false (by omega)
            go_wp2_with fail
            refine (ldLog_any _ _ _ _ _ _ _ p5 q5 (by unfold maxLen; omega)).mono ?_
            rintro e w7 ⟨rfl, u7⟩
            rw [hsm]
            go_wp2_with fail
            refine (nilBegins_any P pc xs _ (p5.grow u7) hs).mono ?_
            rintro e w8 ⟨rfl, u8⟩
            go_wp2
            go_ret
            exact ⟨rfl, (U5.trans u7).trans u8⟩
        · have h : xs.length ≤ ys.length := (begins_iff.1 hbe).length_le
          have hst := q5.head_take xs.length
          have htl : (ys.take xs.length).length = xs.length := by rw [List.length_take]; omega
          have hcan1 : same (ys.take xs.length) xs = true := by have := HC.out; rw [decide_eq_true (by omega), Bool.true_and, Nat.min_eq_left h] at this; rw [this, hbe]
          have hcap2 : xs.length ≤ qc := by omega
          have hb1 : decide ((xs.length : Int) ≤ (ys.length : Int)) = true := decide_eq_true (by omega)
          have hbs : begins ys xs = same xs ys := by have := HB.out; rwa [hbe, Bool.true_and] at this
          have hbg3 : lgBegins xs ys = true := hbg.trans hbe
          have hbg4 : lgBegins ys xs = same xs ys := hbg2.trans hbs
          have heq : (same xs ys == same xs ys) = true := by simp
          clear hbg hbg2 hbs
          go_wp2_with fail
          have cl := ldLog_any Q P qc pc (ys.take xs.length) xs w5 hst p5 (by rw [htl]; unfold maxLen; omega)
          rw [htl, hcan1] at cl
          rw [show (min (xs.length : Int) (ys.length : Int)).toNat = xs.length from by omega]
          refine cl.mono ?_
          rintro e w6 ⟨rfl, u6⟩
          go_wp2_with fail
          refine (implLogBegins_any _ _ _ _ _ _ _ (q5.grow u6) (p5.grow u6) (by unfold maxLen; omega) (by unfold maxLen; omega)).mono ?_
          rintro e w7 ⟨rfl, u7⟩
          rw [hbg4]
          go_wp2_with fail
          refine (ldLog_any _ _ _ _ _ _ _ ((p5.grow u6).grow u7) ((q5.grow u6).grow u7) (by unfold maxLen; omega)).mono ?_
          rintro e w8 ⟨rfl, u8⟩
          go_wp2_with fail
          refine (nilBegins_any P pc xs _ (((p5.grow u6).grow u7).grow u8) hs).mono ?_
          rintro e w9 ⟨rfl, u9⟩
          go_wp2
          go_ret
          exact ⟨rfl, (((U5.trans u6).trans u7).trans u8).trans u9⟩

set_option maxRecDepth 100000 in
theorem logBeginsLaw_lifted (os : Os) (started : os.Started) (H : Type) (enc : TypeId × Value → H) :
    ReturnsInHanded {} Try.checked os 11 .any (Rows.fnLogBeginsSpec.pre6 enc Try.prog Try.f11 Rows.fnLogBeginsRow.domain false) (Rows.fnLogBeginsSpec.post enc Try.prog Try.f11 false true false false) := by
  refine returnsInHanded_of_change (C := Try.checked) own_knob started (by kernel_rfl) Try.func11
    (ChangeSpec.witness6 (enc := enc) (C := Try.checked) false ⟨#[], #[.slice none 0 0], []⟩ 8 (by kernel_rfl) (by kernel_rfl) (by kernel_rfl) (by kernel_rfl)) ?_
  intro W base args ds gs before hval0 hW hcnd _
  have hval : ∀ (j : Nat) t v, Try.f11.params[j]? = some t → args[j]? = some v → Value.okWide Try.prog W .any base t v := hval0
  have hW' := hW
  obtain ⟨p, q, hA0, hV, rfl, hfz, hnd⟩ := hW
  have hA1 : DataW.TrodAll enc Try.prog W 0 (fun _ => true) true Try.f11.params.toList args.toList ds p := hA0
  have hA := hA1
  rw [Try.params11] at hA hval
  obtain ⟨v0, d0, rfl, rfl, h0⟩ := trodAll_one hA
  obtain ⟨rfl, rfl⟩ := trodVars_none hV
  obtain ⟨A0, x0, c0, rfl, hc0, hm0, hs0, hb0⟩ := open_bytes (hval 0 22 v0 rfl rfl) h0
  clear hA0 hval0
  simp only [List.append_nil] at hW'
  refine (logBeginsLaw_walk W A0 c0 x0 hs0 hc0 hm0 hb0).mono fun e W' ⟨he, hu⟩ => ?_
  subst he
  exact ⟨_, rfl, law_post laid_out (by rw [Try.params11]; decide +kernel) rfl Try.underlying4 rfl hW' hA1 rfl hu⟩

theorem logBeginsLaw_closed : joinedFacts Try.prog 11 Try.f11 Rows.fnLogBeginsSpec Rows.fnLogBeginsRow = true := by
  simp only [joinedFacts, Bool.and_eq_true]
  and_intros
  all_goals (first | with_reducible exact mayEnter_is | (rw [liftsFinal_is]; rfl) | (rw [make_is]; rfl) | kernel_rfl)
theorem logBeginsLaw_holds : Rows.FnLogBeginsSaid :=
  OpenClaim.holds_of_wide 11 Try.f11 rfl rfl rfl rfl rfl rfl rfl ⟨rfl, rfl, rfl, rfl, rfl⟩ rfl rfl rfl rfl rfl (by kernel_rfl) Try.func11 logBeginsLaw_closed
    (of_decide_eq_true (by kernel_rfl)) (by unfold Func.isWrapper; first | (rw [if_pos (by decide +kernel)]; kernel_rfl) | (rw [if_neg (by decide +kernel)]; exact ⟨rfl, rfl⟩))
    (fun os started H enc _ => logBeginsLaw_lifted os started H enc)
end Go.Proofs.Ytjkagmelpgpjgaa
