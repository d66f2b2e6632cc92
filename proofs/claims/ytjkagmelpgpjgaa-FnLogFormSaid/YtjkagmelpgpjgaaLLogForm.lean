/- FnLogForm: a drawn log that LogOk lets stays one where it is cut; with a head that is none behind it, it is none. -/
import Derived.Test.YtjkagmelpgpjgaaLgP
import Derived.Test.YtjkagmelpgpjgaaDrLg2
import Derived.Test.YtjkagmelpgpjgaaLo
import Derived.Test.YtjkagmelpgpjgaaKMem
namespace Go.Proofs.Ytjkagmelpgpjgaa
open Go.ChangeShapes Go.WideShapes Go.ChangeAt Go.RowKit
set_option linter.unusedVariables false
set_option linter.unusedSimpArgs false
attribute [-go_sem] run_neq_struct run_eql_struct run_eqGuard_agg run_equalIn_agg
attribute [local go_sem] neqHead guardHead neqMem eqMem guardMem eqHeadOp max_eq min_eq

set_option maxRecDepth 100000 in
set_option maxHeartbeats 2000000 in
theorem logFormLaw_walk (w : World) (A : Option Addr) (c : Nat) (bs : List Int) (hx : Sl w A (bs.map (.int .u8))) (hc : bs.length ≤ c) (hcm : c ≤ maxLen) (hb : ∀ b ∈ bs, 0 ≤ b ∧ b < 256)
    (B : Option Addr) (d : Nat) (ms : List Int) (hx2 : Sl w B (ms.map (.int .u8))) (hc2 : ms.length ≤ d) (hcm2 : d ≤ maxLen) (hb2 : ∀ b ∈ ms, 0 ≤ b ∧ b < 256) :
    Calls Try.prog 3 #[.slice A bs.length c, .slice B ms.length d] w fun e w' => e = .returned (.bool true) ∧ Upd [] w w' := by
  by_cases hlen : 1048576 < bs.length ∨ 1048576 < ms.length
  · go_enter Try.func3, Try.ntmps3
    go_wp2
    all_goals
      go_ret
      exact ⟨rfl, Upd.refl _ _⟩
  · obtain ⟨g1, g2⟩ : bs.length ≤ 1048576 ∧ ms.length ≤ 1048576 := by omega
    go_enter Try.func3, Try.ntmps3
    go_wp2_with fail
    refine (drawLogOk_any A c bs _ hx hc hcm hb).mono ?_
    rintro e w1 ⟨L, lc, xs, rfl, o1, l1, u1⟩
    go_wp2_with fail
    refine (implLogOk_any _ _ _ _ o1.sl (by unfold maxLen; omega)).mono ?_
    rintro e w2 ⟨rfl, u2⟩
    go_wp2_with fail
    refine (specLogOk_any _ _ _ _ (o1.sl.grow u2) (by unfold maxLen; omega)).mono ?_
    rintro e w3 ⟨rfl, u3⟩
    have U3 := (u1.trans u2).trans u3
    have o3 := (o1.grow u2).grow u3
    cases hs : lgOk xs
    · go_wp2_with fail
      refine (specLogOk_any _ _ _ _ o3.sl (by unfold maxLen; omega)).mono ?_
      rintro e w4 ⟨rfl, u4⟩
      rw [hs]
      go_wp2
      go_ret
      exact ⟨rfl, U3.trans u4⟩
    · have kc := o3.cap.1
      obtain ⟨k, hk, hkl⟩ : ∃ k : Nat, (ms.length : Int) % ((xs.length : Int) + 1) = k ∧ k ≤ xs.length := ⟨ms.length % (xs.length + 1), by push_cast; rfl, by have := Nat.mod_lt ms.length (show 0 < xs.length + 1 by omega); omega⟩
      have l9 := lgOk_len hs
      have i1 : k ≤ lc := by omega
      have i2 : (k : Int) ≤ lc := by omega
      have hst := o3.sl.head_take k
      have htl : (xs.take k).length = k := by rw [List.length_take]; omega
      have htl2 : ((xs.take k).flatMap encHead).length = k * 2 := by rw [lenHead, htl]
      have hok := lgOk_take hs k
      have hbad1 : lgOk (xs.take k ++ [⟨3, 1⟩]) = false := lgOk_bad (by decide)
      have hbad2 : lgOk (xs.take k ++ [⟨1, 0⟩]) = false := lgOk_bad (by decide)
      go_wp2_with fail
      have ca := implLogOk_any L lc _ w3 hst (by rw [htl]; unfold maxLen; omega)
      rw [htl, hok] at ca
      refine ca.mono ?_
      rintro e w4 ⟨rfl, u4⟩
      have U4 := U3.trans u4
      have hst4 := hst.grow u4
      simp only [hk]
      have HK := Lib.hid hk
      clear hk
      go_wp2_with (first
        | (at_builtin; refine append_anyG (by kernel_rfl) (.tmp 43) (.tmp 46) _ rfl headT rfl (Own.lit _ [] 0 (Nat.le_refl _) (by simp [maxLen]) rfl) rfl htl2 (hst4.grow ((Upd.refl _ _).alloc _)) (oneHead _) (by unfold maxLen; omega) (by omega) (U4.alloc _) U4.size (by simp) ?_; intro A5 c5 w5 p5 P5 q5 hA5; rw [Nat.zero_add, List.nil_append] at p5)
        | (at_builtin; refine append_oneG (by kernel_rfl) (.tmp 47) (.tmp 49) _ rfl headT rfl p5 rfl rfl (by simp [Value.oneCell']) (by unfold maxLen; omega) (by omega) P5 U4.size (by have := q5.size; simp at this; omega) ?_; intro A6 c6 w6 p6 P6 q6 hA6; have v6 : Upd [] w4 w6 := (((Upd.refl [] w4).alloc _).then q5 (by simp)).then q6 (fun x hx hlt => by have := p5.mem x hx; omega))
        | fail)
      have hL1 : (xs.take k ++ [⟨3, 1⟩] : List Head).length = k + 1 := by simp; omega
      have p6' : Sl w6 A6 ((xs.take k ++ [Head.mk 3 1]).flatMap encHead) := by rw [← flat_snocHead]; exact p6.sl
      have cb := implLogOk_any A6 c6 _ w6 p6' (by rw [hL1]; unfold maxLen; omega)
      rw [hL1, hbad1] at cb
      refine cb.mono ?_
      rintro e w7 ⟨rfl, u7⟩
      have U7 := P6.trans u7
      have hst7 := (o3.sl.head_take k).grow ((u4.trans v6).trans u7)
      have hb9 : decide ((xs.length : Int) ≤ 9) = true := decide_eq_true (by omega)
      go_wp2_with (first
        | (at_builtin; refine append_anyG (by kernel_rfl) (.tmp 55) (.tmp 58) _ rfl headT rfl (Own.lit _ [] 0 (Nat.le_refl _) (by simp [maxLen]) rfl) rfl htl2 (hst7.grow ((Upd.refl _ _).alloc _)) (oneHead _) (by unfold maxLen; omega) (by omega) (U7.alloc _) U7.size (by simp) ?_; intro A8 c8 w8 p8 P8 q8 hA8; rw [Nat.zero_add, List.nil_append] at p8)
        | (at_builtin; refine append_oneG (by kernel_rfl) (.tmp 59) (.tmp 61) _ rfl headT rfl p8 rfl rfl (by simp [Value.oneCell']) (by unfold maxLen; omega) (by omega) P8 U7.size (by have := q8.size; simp at this; omega) ?_; intro A9 c9 w9 p9 P9 q9 hA9)
        | fail)
      have hL2 : (xs.take k ++ [⟨1, 0⟩] : List Head).length = k + 1 := by simp; omega
      have p9' : Sl w9 A9 ((xs.take k ++ [Head.mk 1 0]).flatMap encHead) := by rw [← flat_snocHead]; exact p9.sl
      have cc := implLogOk_any A9 c9 _ w9 p9' (by rw [hL2]; unfold maxLen; omega)
      rw [hL2, hbad2] at cc
      refine cc.mono ?_
      rintro e w10 ⟨rfl, u10⟩
      go_wp2
      go_ret
      exact ⟨rfl, P9.trans u10⟩

set_option maxRecDepth 100000 in
theorem logFormLaw_lifted (os : Os) (started : os.Started) (H : Type) (enc : TypeId × Value → H) :
    ReturnsInHanded {} Try.checked os 3 .any (Rows.fnLogFormSpec.pre6 enc Try.prog Try.f3 Rows.fnLogFormRow.domain false) (Rows.fnLogFormSpec.post enc Try.prog Try.f3 false true false false) := by
  refine returnsInHanded_of_change (C := Try.checked) own_knob started (by kernel_rfl) Try.func3
    (ChangeSpec.witness6 (enc := enc) (C := Try.checked) false ⟨#[], #[.slice none 0 0, .slice none 0 0], []⟩ 8 (by kernel_rfl) (by kernel_rfl) (by kernel_rfl) (by kernel_rfl)) ?_
  intro W base args ds gs before hval0 hW hcnd _
  have hval : ∀ (j : Nat) t v, Try.f3.params[j]? = some t → args[j]? = some v → Value.okWide Try.prog W .any base t v := hval0
  have hW' := hW
  obtain ⟨p, q, hA0, hV, rfl, hfz, hnd⟩ := hW
  have hA1 : DataW.TrodAll enc Try.prog W 0 (fun _ => true) true Try.f3.params.toList args.toList ds p := hA0
  have hA := hA1
  rw [Try.params3] at hA hval
  obtain ⟨v0, v1, d0, d1, p0, p1, rfl, rfl, rfl, h0, h1⟩ := trodAll_two hA
  obtain ⟨rfl, rfl⟩ := trodVars_none hV
  obtain ⟨A0, x0, c0, rfl, hc0, hm0, hs0, hb0⟩ := open_bytes (hval 0 22 v0 rfl rfl) h0
  obtain ⟨A1, x1, c1, rfl, hc1, hm1, hs1, hb1⟩ := open_bytes (hval 1 22 v1 rfl rfl) h1
  clear hA0 hval0
  simp only [List.append_nil] at hW'
  refine (logFormLaw_walk W A0 c0 x0 hs0 hc0 hm0 hb0 A1 c1 x1 hs1 hc1 hm1 hb1).mono fun e W' ⟨he, hu⟩ => ?_
  subst he
  exact ⟨_, rfl, law_post laid_out (by rw [Try.params3]; decide +kernel) rfl Try.underlying4 rfl hW' hA1 rfl hu⟩

theorem logFormLaw_closed : joinedFacts Try.prog 3 Try.f3 Rows.fnLogFormSpec Rows.fnLogFormRow = true := by
  simp only [joinedFacts, Bool.and_eq_true]
  and_intros
  all_goals (first | with_reducible exact mayEnter_is | (rw [liftsFinal_is]; rfl) | (rw [make_is]; rfl) | kernel_rfl)
theorem logFormLaw_holds : Rows.FnLogFormSaid :=
  OpenClaim.holds_of_wide 3 Try.f3 rfl rfl rfl rfl rfl rfl rfl ⟨rfl, rfl, rfl, rfl, rfl⟩ rfl rfl rfl rfl rfl (by kernel_rfl) Try.func3 logFormLaw_closed
    (of_decide_eq_true (by kernel_rfl)) (by unfold Func.isWrapper; first | (rw [if_pos (by decide +kernel)]; kernel_rfl) | (rw [if_neg (by decide +kernel)]; exact ⟨rfl, rfl⟩))
    (fun os started H enc _ => logFormLaw_lifted os started H enc)
end Go.Proofs.Ytjkagmelpgpjgaa
