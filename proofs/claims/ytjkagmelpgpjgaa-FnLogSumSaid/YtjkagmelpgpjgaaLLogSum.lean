/- FnLogSum: the digests of two drawn logs are the same just if the logs are. -/
import Derived.Test.YtjkagmelpgpjgaaLgP
import Derived.Test.YtjkagmelpgpjgaaDrLg2
import Derived.Test.YtjkagmelpgpjgaaLo
import Derived.Test.YtjkagmelpgpjgaaKMem
namespace Go.Proofs.Ytjkagmelpgpjgaa
open Go.ChangeShapes Go.WideShapes Go.ChangeAt Go.RowKit
set_option linter.unusedVariables false
set_option linter.unusedSimpArgs false
attribute [-go_sem] run_neq_struct run_eql_struct run_eqGuard_agg run_equalIn_agg
attribute [local go_sem] neqHead guardHead neqMem eqMem guardMem eqHeadOp max_eq min_eq

set_option maxRecDepth 100000 in
set_option maxHeartbeats 2000000 in
theorem logSumLaw_walk (w : World) (A : Option Addr) (c : Nat) (bs : List Int) (hx : Sl w A (bs.map (.int .u8))) (hc : bs.length ≤ c) (hcm : c ≤ maxLen) (hb : ∀ b ∈ bs, 0 ≤ b ∧ b < 256)
    (B : Option Addr) (d : Nat) (ms : List Int) (hx2 : Sl w B (ms.map (.int .u8))) (hc2 : ms.length ≤ d) (hcm2 : d ≤ maxLen) (hb2 : ∀ b ∈ ms, 0 ≤ b ∧ b < 256) :
    Calls Try.prog 7 #[.slice A bs.length c, .slice B ms.length d] w fun e w' => e = .returned (.bool true) ∧ Upd [] w w' := by
  by_cases hlen : 1048576 < bs.length ∨ 1048576 < ms.length
  · go_enter Try.func7, Try.ntmps7
    go_wp2
    all_goals
      go_ret
      exact ⟨rfl, Upd.refl _ _⟩
  · obtain ⟨g1, g2⟩ : bs.length ≤ 1048576 ∧ ms.length ≤ 1048576 := by omega
    go_enter Try.func7, Try.ntmps7
    go_wp2_with fail
    refine (drawLogSum_any A c bs _ hx hc hcm hb).mono ?_
    rintro e w1 ⟨L, lc, xs, rfl, o1, l1, u1⟩
    go_wp2_with fail
    refine (implLogSum_any _ _ _ _ o1.sl (by unfold maxLen; omega)).mono ?_
    rintro e w2 ⟨rfl, u2⟩
    go_wp2_with fail
    refine (specLogSum_any _ _ _ _ (o1.sl.grow u2) (by unfold maxLen; omega)).mono ?_
    rintro e w3 ⟨rfl, u3⟩
    have U3 := (u1.trans u2).trans u3
    have p3 := (o1.sl.grow u2).grow u3
    have hq : (logSum xs != logSum xs) = false := by simp
    cases hs : lgOk xs
    · have hn : logSum xs = -1 := logSum_no hs
      rw [hn] at hq ⊢
      go_wp2_with fail
      refine (specLogSum_any _ _ _ _ p3 (by unfold maxLen; omega)).mono ?_
      rintro e w4 ⟨rfl, u4⟩
      rw [hn]
      go_wp2
      go_ret
      exact ⟨rfl, U3.trans u4⟩
    · obtain ⟨hn, hp⟩ := logSum_ok hs
      rw [hn] at hq ⊢
      have hb1 : decide (lgSum xs < 0) = false := decide_eq_false (by omega)
      go_wp2_with fail
      refine (drawLogSum_any B d ms _ (hx2.grow U3) hc2 hcm2 hb2).mono ?_
      rintro e w4 ⟨M, mc, ys, rfl, o4, l4, u4⟩
      go_wp2_with fail
      refine (implLogSum_any _ _ _ _ o4.sl (by unfold maxLen; omega)).mono ?_
      rintro e w5 ⟨rfl, u5⟩
      have U5 := (U3.trans u4).trans u5
      have p5 := (p3.grow u4).grow u5
      have q5 := o4.sl.grow u5
      cases ht : lgOk ys
      · rw [logSum_no ht]
        go_wp2
        go_ret
        exact ⟨rfl, U5⟩
      · obtain ⟨hm, hq2⟩ := logSum_ok ht
        rw [hm]
        have hb2 : decide (lgSum ys < 0) = false := decide_eq_false (by omega)
        have hsame : same xs ys = (lgSum ys == lgSum xs) := by
          rw [Bool.eq_iff_iff, same_iff, beq_iff_eq, eq_comm (a := lgSum ys), lgSum_eq hs ht]
        have HS := Lib.hid hsame
        clear hsame
        go_wp2_with fail
        refine (ldLog_any _ _ _ _ _ _ _ p5 q5 (by unfold maxLen; omega)).mono ?_
        rintro e w6 ⟨rfl, u6⟩
        rw [HS.out]
        go_wp2
        go_ret
        exact ⟨ret_bool (by simp), U5.trans u6⟩

set_option maxRecDepth 100000 in
theorem logSumLaw_lifted (os : Os) (started : os.Started) (H : Type) (enc : TypeId × Value → H) :
    ReturnsInHanded {} Try.checked os 7 .any (Rows.fnLogSumSpec.pre6 enc Try.prog Try.f7 Rows.fnLogSumRow.domain false) (Rows.fnLogSumSpec.post enc Try.prog Try.f7 false true false false) := by
  refine returnsInHanded_of_change (C := Try.checked) own_knob started (by kernel_rfl) Try.func7
    (ChangeSpec.witness6 (enc := enc) (C := Try.checked) false ⟨#[], #[.slice none 0 0, .slice none 0 0], []⟩ 8 (by kernel_rfl) (by kernel_rfl) (by kernel_rfl) (by kernel_rfl)) ?_
  intro W base args ds gs before hval0 hW hcnd _
  have hval : ∀ (j : Nat) t v, Try.f7.params[j]? = some t → args[j]? = some v → Value.okWide Try.prog W .any base t v := hval0
  have hW' := hW
  obtain ⟨p, q, hA0, hV, rfl, hfz, hnd⟩ := hW
  have hA1 : DataW.TrodAll enc Try.prog W 0 (fun _ => true) true Try.f7.params.toList args.toList ds p := hA0
  have hA := hA1
  rw [Try.params7] at hA hval
  obtain ⟨v0, v1, d0, d1, p0, p1, rfl, rfl, rfl, h0, h1⟩ := trodAll_two hA
  obtain ⟨rfl, rfl⟩ := trodVars_none hV
  obtain ⟨A0, x0, c0, rfl, hc0, hm0, hs0, hb0⟩ := open_bytes (hval 0 22 v0 rfl rfl) h0
  obtain ⟨A1, x1, c1, rfl, hc1, hm1, hs1, hb1⟩ := open_bytes (hval 1 22 v1 rfl rfl) h1
  clear hA0 hval0
  simp only [List.append_nil] at hW'
  refine (logSumLaw_walk W A0 c0 x0 hs0 hc0 hm0 hb0 A1 c1 x1 hs1 hc1 hm1 hb1).mono fun e W' ⟨he, hu⟩ => ?_
  subst he
  exact ⟨_, rfl, law_post laid_out (by rw [Try.params7]; decide +kernel) rfl Try.underlying4 rfl hW' hA1 rfl hu⟩

theorem logSumLaw_closed : joinedFacts Try.prog 7 Try.f7 Rows.fnLogSumSpec Rows.fnLogSumRow = true := by
  simp only [joinedFacts, Bool.and_eq_true]
  and_intros
  all_goals (first | with_reducible exact mayEnter_is | (rw [liftsFinal_is]; rfl) | (rw [make_is]; rfl) | kernel_rfl)
theorem logSumLaw_holds : Rows.FnLogSumSaid :=
  OpenClaim.holds_of_wide 7 Try.f7 rfl rfl rfl rfl rfl rfl rfl ⟨rfl, rfl, rfl, rfl, rfl⟩ rfl rfl rfl rfl rfl (by kernel_rfl) Try.func7 logSumLaw_closed
    (of_decide_eq_true (by kernel_rfl)) (by unfold Func.isWrapper; first | (rw [if_pos (by decide +kernel)]; kernel_rfl) | (rw [if_neg (by decide +kernel)]; exact ⟨rfl, rfl⟩))
    (fun os started H enc _ => logSumLaw_lifted os started H enc)
end Go.Proofs.Ytjkagmelpgpjgaa
