/- FnForkAdd: where two drawn logs fork they fork with one more head behind either of them. -/
import Derived.Test.YtjkagmelpgpjgaaLgQ
import Derived.Test.YtjkagmelpgpjgaaDrLg2
import Derived.Test.YtjkagmelpgpjgaaLo
import Derived.Test.YtjkagmelpgpjgaaKMem
namespace Go.Proofs.Ytjkagmelpgpjgaa
open Go.ChangeShapes Go.WideShapes Go.ChangeAt Go.RowKit
set_option linter.unusedVariables false
set_option linter.unusedSimpArgs false
attribute [-go_sem] run_neq_struct run_eql_struct run_eqGuard_agg run_equalIn_agg
attribute [local go_sem] neqHead guardHead neqMem eqMem guardMem eqHeadOp max_eq min_eq

set_option maxRecDepth 100000 in
set_option maxHeartbeats 2000000 in
theorem forkAdd_walk (w : World) (A : Option Addr) (c : Nat) (bs : List Int) (hx : Sl w A (bs.map (.int .u8))) (hc : bs.length ≤ c) (hcm : c ≤ maxLen) (hb : ∀ b ∈ bs, 0 ≤ b ∧ b < 256)
    (B : Option Addr) (d : Nat) (ms : List Int) (hx2 : Sl w B (ms.map (.int .u8))) (hc2 : ms.length ≤ d) (hcm2 : d ≤ maxLen) (hb2 : ∀ b ∈ ms, 0 ≤ b ∧ b < 256) :
    Calls Try.prog 12 #[.slice A bs.length c, .slice B ms.length d] w fun e w' => e = .returned (.bool true) ∧ Upd [] w w' := by
  by_cases hlen : 1048576 < bs.length ∨ 1048576 < ms.length
  · go_enter Try.func12, Try.ntmps12
    go_wp2
    all_goals
      go_ret
      exact ⟨rfl, Upd.refl _ _⟩
  · obtain ⟨g1, g2⟩ : bs.length ≤ 1048576 ∧ ms.length ≤ 1048576 := by omega
    go_enter Try.func12, Try.ntmps12
    go_wp2_with fail
    refine (drawLogFork_any A c bs _ hx hc hcm hb).mono ?_
    rintro e w1 ⟨P, Q, pc, qc, xs, ys, rfl, o1, l1, o2, l2, u1⟩
    go_wp2_with fail
    refine (implLogFork_any _ _ _ _ _ _ _ o1.sl o2.sl (by unfold maxLen; omega) (by unfold maxLen; omega)).mono ?_
    rintro e w2 ⟨rfl, u2⟩
    go_wp2_with fail
    refine (specLogFork_any _ _ _ _ _ _ _ (o1.sl.grow u2) (o2.sl.grow u2) (by unfold maxLen; omega) (by unfold maxLen; omega)).mono ?_
    rintro e w3 ⟨rfl, u3⟩
    have U3 := (u1.trans u2).trans u3
    have p3 := (o1.sl.grow u2).grow u3
    have q3 := (o2.sl.grow u2).grow u3
    have hq : (lgFork xs ys != lgFork xs ys) = false := by simp
    by_cases hn : lgFork xs ys < 0
    · have hb1 : decide (lgFork xs ys < 0) = true := decide_eq_true hn
      go_wp2_with fail
      refine (specLogFork_any _ _ _ _ _ _ _ p3 q3 (by unfold maxLen; omega) (by unfold maxLen; omega)).mono ?_
      rintro e w4 ⟨rfl, u4⟩
      go_wp2
      go_ret
      exact ⟨ret_bool (by simp), U3.trans u4⟩
    · have hb1 : decide (lgFork xs ys < 0) = false := decide_eq_false hn
      obtain ⟨hs, ht⟩ := lgFork_pos (show 0 ≤ lgFork xs ys by omega)
      have hf := lgFork_ok hs ht
      have hpos : 0 ≤ fk xs ys := by rw [← hf]; omega
      obtain ⟨n, hnn⟩ : ∃ n, lgFork xs ys = n := ⟨_, rfl⟩
      have hfn : fk xs ys = n := hf.symm.trans hnn
      rw [hnn] at hq hb1 ⊢
      clear hf hn
      have HF := Lib.hid hfn
      have HP := Lib.hid hpos
      clear hnn hfn hpos
      go_wp2_with fail
      refine (implLogAdd_any P pc xs ⟨1, 1 + (ms.length : Int) % 20⟩ _ p3 (by unfold maxLen; omega)).mono ?_
      rintro e w4 ⟨X, xc, rfl, o4, u4⟩
      go_wp2_with fail
      refine (implLogAdd_any Q qc ys ⟨2, 1 + (ms.length : Int) % 20⟩ _ (q3.grow u4) (by unfold maxLen; omega)).mono ?_
      rintro e w5 ⟨Y, yc, rfl, o5, u5⟩
      have U5 := (U3.trans u4).trans u5
      have p5 := (p3.grow u4).grow u5
      have q5 := (q3.grow u4).grow u5
      have x5 := o4.sl.grow u5
      have y5 := o5.sl
      obtain ⟨h, hh⟩ : ∃ h : Head, Head.mk 1 (1 + (ms.length : Int) % 20) = h := ⟨_, rfl⟩
      obtain ⟨g, hg⟩ : ∃ g : Head, Head.mk 2 (1 + (ms.length : Int) % 20) = g := ⟨_, rfl⟩
      clear o4 o5
      rw [hh] at x5 ⊢
      rw [hg] at y5 ⊢
      clear hh hg
      have hone : (n == n) = true := by simp
      cases hk : lgAddOk xs h <;> cases hj : lgAddOk ys g
      · go_wp2
        go_ret
        exact ⟨rfl, U5⟩
      · obtain ⟨-, -, h9, hadd, hok⟩ := lgAdd_yes hj
        rw [hadd] at y5 ⊢
        have hf1 : lgFork xs (ys ++ [g]) = n := by rw [lgFork_ok hs hok, ← HF.out]; have := fk_app HP.out [] [g]; rwa [List.append_nil] at this
        have hl : (ys ++ [g]).length ≤ 10 := by simp; omega
        clear hadd
        generalize ys ++ [g] = us at *
        go_wp2_with fail
        refine (implLogFork_any _ _ _ _ _ _ _ p5 y5 (by unfold maxLen; omega) (by unfold maxLen; omega)).mono ?_
        rintro e w6 ⟨rfl, u6⟩
        rw [hf1]
        go_wp2
        go_ret
        exact ⟨rfl, U5.trans u6⟩
      · obtain ⟨-, -, h9, hadd, hok⟩ := lgAdd_yes hk
        rw [hadd] at x5 ⊢
        have hf1 : lgFork (xs ++ [h]) ys = n := by rw [lgFork_ok hok ht, ← HF.out]; have := fk_app HP.out [h] []; rwa [List.append_nil] at this
        have hl : (xs ++ [h]).length ≤ 10 := by simp; omega
        clear hadd
        generalize xs ++ [h] = zs at *
        go_wp2_with fail
        refine (implLogFork_any _ _ _ _ _ _ _ x5 q5 (by unfold maxLen; omega) (by unfold maxLen; omega)).mono ?_
        rintro e w6 ⟨rfl, u6⟩
        rw [hf1]
        go_wp2
        go_ret
        exact ⟨rfl, U5.trans u6⟩
      · obtain ⟨-, -, h9, hadd, hok⟩ := lgAdd_yes hk
        obtain ⟨-, -, g9, gadd, gok⟩ := lgAdd_yes hj
        rw [hadd] at x5 ⊢
        rw [gadd] at y5 ⊢
        have hf1 : lgFork (xs ++ [h]) ys = n := by rw [lgFork_ok hok ht, ← HF.out]; have := fk_app HP.out [h] []; rwa [List.append_nil] at this
        have hf2 : lgFork xs (ys ++ [g]) = n := by rw [lgFork_ok hs gok, ← HF.out]; have := fk_app HP.out [] [g]; rwa [List.append_nil] at this
        have hf3 : lgFork (xs ++ [h]) (ys ++ [g]) = n := by rw [lgFork_ok hok gok, ← HF.out]; exact fk_app HP.out [h] [g]
        have hl : (xs ++ [h]).length ≤ 10 := by simp; omega
        have gl : (ys ++ [g]).length ≤ 10 := by simp; omega
        clear hadd gadd
        generalize xs ++ [h] = zs at *
        generalize ys ++ [g] = us at *
        go_wp2_with fail
        refine (implLogFork_any _ _ _ _ _ _ _ x5 q5 (by unfold maxLen; omega) (by unfold maxLen; omega)).mono ?_
        rintro e w6 ⟨rfl, u6⟩
        rw [hf1]
        go_wp2_with fail
        refine (implLogFork_any _ _ _ _ _ _ _ (p5.grow u6) (y5.grow u6) (by unfold maxLen; omega) (by unfold maxLen; omega)).mono ?_
        rintro e w7 ⟨rfl, u7⟩
        rw [hf2]
        go_wp2_with fail
        refine (implLogFork_any _ _ _ _ _ _ _ ((x5.grow u6).grow u7) ((y5.grow u6).grow u7) (by unfold maxLen; omega) (by unfold maxLen; omega)).mono ?_
        rintro e w8 ⟨rfl, u8⟩
        rw [hf3]
        go_wp2
        go_ret
        exact ⟨rfl, ((U5.trans u6).trans u7).trans u8⟩

set_option maxRecDepth 100000 in
theorem forkAdd_lifted (os : Os) (started : os.Started) (H : Type) (enc : TypeId × Value → H) :
    ReturnsInHanded {} Try.checked os 12 .any (Rows.fnForkAddSpec.pre6 enc Try.prog Try.f12 Rows.fnForkAddRow.domain false) (Rows.fnForkAddSpec.post enc Try.prog Try.f12 false true false false) := by
  refine returnsInHanded_of_change (C := Try.checked) own_knob started (by kernel_rfl) Try.func12
    (ChangeSpec.witness6 (enc := enc) (C := Try.checked) false ⟨#[], #[.slice none 0 0, .slice none 0 0], []⟩ 8 (by kernel_rfl) (by kernel_rfl) (by kernel_rfl) (by kernel_rfl)) ?_
  intro W base args ds gs before hval0 hW hcnd _
  have hval : ∀ (j : Nat) t v, Try.f12.params[j]? = some t → args[j]? = some v → Value.okWide Try.prog W .any base t v := hval0
  have hW' := hW
  obtain ⟨p, q, hA0, hV, rfl, hfz, hnd⟩ := hW
  have hA1 : DataW.TrodAll enc Try.prog W 0 (fun _ => true) true Try.f12.params.toList args.toList ds p := hA0
  have hA := hA1
  rw [Try.params12] at hA hval
  obtain ⟨v0, v1, d0, d1, p0, p1, rfl, rfl, rfl, h0, h1⟩ := trodAll_two hA
  obtain ⟨rfl, rfl⟩ := trodVars_none hV
  obtain ⟨A0, x0, c0, rfl, hc0, hm0, hs0, hb0⟩ := open_bytes (hval 0 22 v0 rfl rfl) h0
  obtain ⟨A1, x1, c1, rfl, hc1, hm1, hs1, hb1⟩ := open_bytes (hval 1 22 v1 rfl rfl) h1
  clear hA0 hval0
  simp only [List.append_nil] at hW'
  refine (forkAdd_walk W A0 c0 x0 hs0 hc0 hm0 hb0 A1 c1 x1 hs1 hc1 hm1 hb1).mono fun e W' ⟨he, hu⟩ => ?_
  subst he
  exact ⟨_, rfl, law_post laid_out (by rw [Try.params12]; decide +kernel) rfl Try.underlying4 rfl hW' hA1 rfl hu⟩

theorem forkAdd_closed : joinedFacts Try.prog 12 Try.f12 Rows.fnForkAddSpec Rows.fnForkAddRow = true := by
  simp only [joinedFacts, Bool.and_eq_true]
  and_intros
  all_goals (first | with_reducible exact mayEnter_is | (rw [liftsFinal_is]; rfl) | (rw [make_is]; rfl) | kernel_rfl)
theorem forkAdd_holds : Rows.FnForkAddSaid :=
  OpenClaim.holds_of_wide 12 Try.f12 rfl rfl rfl rfl rfl rfl rfl ⟨rfl, rfl, rfl, rfl, rfl⟩ rfl rfl rfl rfl rfl (by kernel_rfl) Try.func12 forkAdd_closed
    (of_decide_eq_true (by kernel_rfl)) (by unfold Func.isWrapper; first | (rw [if_pos (by decide +kernel)]; kernel_rfl) | (rw [if_neg (by decide +kernel)]; exact ⟨rfl, rfl⟩))
    (fun os started H enc _ => forkAdd_lifted os started H enc)
end Go.Proofs.Ytjkagmelpgpjgaa
