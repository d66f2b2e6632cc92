/- FnLogAdd: a head is added behind a drawn log, or the log comes back as it is. -/
import Derived.Test.YtjkagmelpgpjgaaLgQ
import Derived.Test.YtjkagmelpgpjgaaDrLg2
import Derived.Test.YtjkagmelpgpjgaaLo
import Derived.Test.YtjkagmelpgpjgaaKMem
namespace Go.Proofs.Ytjkagmelpgpjgaa
open Go.ChangeShapes Go.WideShapes Go.ChangeAt Go.RowKit
set_option linter.unusedVariables false
set_option linter.unusedSimpArgs false
attribute [-go_sem] run_neq_struct run_eql_struct run_eqGuard_agg run_equalIn_agg
attribute [local go_sem] neqHead guardHead neqMem eqMem guardMem eqHeadOp max_eq min_eq

set_option maxRecDepth 100000 in
set_option maxHeartbeats 2000000 in
theorem logAddLaw_walk (w : World) (A : Option Addr) (c : Nat) (bs : List Int) (hx : Sl w A (bs.map (.int .u8))) (hc : bs.length ≤ c) (hcm : c ≤ maxLen) (hb : ∀ b ∈ bs, 0 ≤ b ∧ b < 256) :
    Calls Try.prog 16 #[.slice A bs.length c] w fun e w' => e = .returned (.bool true) ∧ Upd [] w w' := by
  by_cases hlen : 1048576 < bs.length
  · go_enter Try.func16, Try.ntmps16
    go_wp2
    all_goals
      go_ret
      exact ⟨rfl, Upd.refl _ _⟩
  · have g1 : bs.length ≤ 1048576 := by omega
    go_enter Try.func16, Try.ntmps16
    go_wp2_with fail
    refine (drawLogAdd_any A c bs _ hx hc hcm hb).mono ?_
    rintro e w1 ⟨P, pc, xs, h, rfl, o1, l1, u1⟩
    have ua := (Upd.refl [] w1).alloc (.cells #[.int .i64 h.by_, .int .i64 h.snap] 27)
    have M1 := RCell.new w1 (.int .i64 h.by_) (.int .i64 h.snap) 27
    have p1 := o1.sl.grow ua
    have U1 := u1.trans ua
    go_wp2_with fail
    refine (specLogAdd_any P pc xs h _ p1 (by unfold maxLen; omega)).mono ?_
    rintro e w2 ⟨W, wc, rfl, o2, u2⟩
    have M2 := M1.grow u2
    have p2 := p1.grow u2
    have m0 := M2.c0
    have m1 := M2.c1
    have hl := lgAdd_len xs h
    go_wp2_with fail
    refine (implLogAdd_any P pc xs h _ p2 (by unfold maxLen; omega)).mono ?_
    rintro e w3 ⟨X, xc, rfl, o3, u3⟩
    have M3 := M2.grow u3
    have p3 := p2.grow u3
    have q3 := o2.sl.grow u3
    have x3 := o3.sl
    have xcap := o3.cap.1
    have U3 := (U1.trans u2).trans u3
    clear m0 m1
    cases hk : lgAddOk xs h
    · have hno := lgAdd_no hk
      have HN := Lib.hid hno
      clear hno
      go_wp2_with fail
      refine (ldLog_any _ _ _ _ _ _ _ x3 q3 (by unfold maxLen; omega)).mono ?_
      rintro e w4 ⟨rfl, u4⟩
      rw [same_iff.2 rfl]
      go_wp2_with fail
      refine (ldLog_any _ _ _ _ _ _ _ (x3.grow u4) (q3.grow u4) (by unfold maxLen; omega)).mono ?_
      rintro e w5 ⟨rfl, u5⟩
      rw [same_iff.2 rfl]
      go_wp2_with fail
      refine (implLogOk_any _ _ _ _ ((p3.grow u4).grow u5) (by unfold maxLen; omega)).mono ?_
      rintro e w6 ⟨rfl, u6⟩
      have U6 := ((U3.trans u4).trans u5).trans u6
      cases hs : lgOk xs
      · go_wp2
        go_ret
        exact ⟨rfl, U6⟩
      · have hle : (lgAdd xs h).length = xs.length ∨ (lgAdd xs h).length = 0 := HN.out.resolve_left (by rw [hs]; simp)
        generalize lgAdd xs h = zs at *
        by_cases hz : zs.length = xs.length
        · have hb1 : ((zs.length : Int) == (xs.length : Int)) = true := beq_iff_eq.2 (by omega)
          have HZ := Lib.hid hz
          clear hz hle
          go_wp2
          go_ret
          exact ⟨rfl, U6⟩
        · have hb1 : ((zs.length : Int) == (xs.length : Int)) = false := beq_eq_false_iff_ne.2 (by omega)
          have hb2 : ((zs.length : Int) == 0) = true := beq_iff_eq.2 (by omega)
          clear hz hle
          go_wp2
          go_ret
          exact ⟨rfl, U6⟩
    · obtain ⟨hs, hh, h9, hadd, hok⟩ := lgAdd_yes hk
      rw [hadd] at x3 q3 xcap hl ⊢
      have hbA : lgBegins xs (xs ++ [h]) = true := (lgBegins_ok hs hok).trans (begins_app (begins_refl xs) [h])
      have hbB : lgBegins (xs ++ [h]) xs = false := (lgBegins_ok hok hs).trans (begins_more xs h)
      have hat : atHead (xs ++ [h]) xs.length = h := by unfold atHead; simp
      have hL : (xs ++ [h]).length = xs.length + 1 := by simp
      clear hadd o3 o2
      generalize xs ++ [h] = zs at *
      have HL := Lib.hid hL
      clear hL
      go_wp2_with fail
      refine (ldLog_any _ _ _ _ _ _ _ x3 q3 (by unfold maxLen; omega)).mono ?_
      rintro e w4 ⟨rfl, u4⟩
      rw [same_iff.2 rfl]
      have U4 := U3.trans u4
      have p4 := p3.grow u4
      have x4 := x3.grow u4
      have M4 := M3.grow u4
      have hcA := fun g : Later w4 => implLogBegins_any P X pc xc xs zs g.world (p4.grow g.upd) (x4.grow g.upd) (by unfold maxLen; omega) (by unfold maxLen; omega)
      have hcB := fun g : Later w4 => implLogBegins_any X P xc pc zs xs g.world (x4.grow g.upd) (p4.grow g.upd) (by unfold maxLen; omega) (by unfold maxLen; omega)
      have hcC := fun g : Later w4 => implLogOk_any X xc zs g.world (x4.grow g.upd) (by unfold maxLen; omega)
      rw [hbA] at hcA
      rw [hbB] at hcB
      rw [hok] at hcC
      have hL := HL.out
      obtain ⟨b1, a1, rfl, c1, c2⟩ := x4.head (i := xs.length) (by omega)
      rw [hat] at c1 c2
      have dc1 := fun g : Later w4 => g.cell c1
      have dc2 := fun g : Later w4 => g.cell c2
      have dm1 := fun g : Later w4 => g.cell M4.c0
      have dm2 := fun g : Later w4 => g.cell M4.c1
      have hsm : same h h = true := same_iff.2 rfl
      have i1 : xs.length < zs.length := by omega
      have i2 : (xs.length : Int) < zs.length := by omega
      have i3 : IntKind.i64.wrap ((xs.length : Int) + 1) = (xs.length : Int) + 1 := IntWalk.i64_in _ (by omega)
      have i4 : ((zs.length : Int) == (xs.length : Int) + 1) = true := beq_iff_eq.2 (by omega)
      clear hL hat hbA hbB
      go_wp2
      refine wp_region_calm (by kernel_rfl) (by kernel_rfl) ?_
      repeat (any_goals (first | go_big_quiet_step ((first | (go_at_call 34; with_reducible exact Calls.calm (hcA _)) | (go_at_call 34; with_reducible exact Calls.calm (hcB _)) | (go_at_call 22; exact Calls.calm (hcC _)))) | quiet_step ((first | (go_at_call 34; with_reducible exact Calls.calm (hcA _)) | (go_at_call 34; with_reducible exact Calls.calm (hcB _)) | (go_at_call 22; exact Calls.calm (hcC _))))))
      refine wpQuiet_nil ?_
      rintro _ ⟨g, rfl⟩
      have hg := g.upd
      go_wp2
      go_ret
      exact ⟨rfl, U4.trans hg⟩

set_option maxRecDepth 100000 in
theorem logAddLaw_lifted (os : Os) (started : os.Started) (H : Type) (enc : TypeId × Value → H) :
    ReturnsInHanded {} Try.checked os 16 .any (Rows.fnLogAddSpec.pre6 enc Try.prog Try.f16 Rows.fnLogAddRow.domain false) (Rows.fnLogAddSpec.post enc Try.prog Try.f16 false true false false) := by
  refine returnsInHanded_of_change (C := Try.checked) own_knob started (by kernel_rfl) Try.func16
    (ChangeSpec.witness6 (enc := enc) (C := Try.checked) false ⟨#[], #[.slice none 0 0], []⟩ 8 (by kernel_rfl) (by kernel_rfl) (by kernel_rfl) (by kernel_rfl)) ?_
  intro W base args ds gs before hval0 hW hcnd _
  have hval : ∀ (j : Nat) t v, Try.f16.params[j]? = some t → args[j]? = some v → Value.okWide Try.prog W .any base t v := hval0
  have hW' := hW
  obtain ⟨p, q, hA0, hV, rfl, hfz, hnd⟩ := hW
  have hA1 : DataW.TrodAll enc Try.prog W 0 (fun _ => true) true Try.f16.params.toList args.toList ds p := hA0
  have hA := hA1
  rw [Try.params16] at hA hval
  obtain ⟨v0, d0, rfl, rfl, h0⟩ := trodAll_one hA
  obtain ⟨rfl, rfl⟩ := trodVars_none hV
  obtain ⟨A0, x0, c0, rfl, hc0, hm0, hs0, hb0⟩ := open_bytes (hval 0 22 v0 rfl rfl) h0
  clear hA0 hval0
  simp only [List.append_nil] at hW'
  refine (logAddLaw_walk W A0 c0 x0 hs0 hc0 hm0 hb0).mono fun e W' ⟨he, hu⟩ => ?_
  subst he
  exact ⟨_, rfl, law_post laid_out (by rw [Try.params16]; decide +kernel) rfl Try.underlying4 rfl hW' hA1 rfl hu⟩

theorem logAddLaw_closed : joinedFacts Try.prog 16 Try.f16 Rows.fnLogAddSpec Rows.fnLogAddRow = true := by
  simp only [joinedFacts, Bool.and_eq_true]
  and_intros
  all_goals (first | with_reducible exact mayEnter_is | (rw [liftsFinal_is]; rfl) | (rw [make_is]; rfl) | kernel_rfl)
theorem logAddLaw_holds : Rows.FnLogAddSaid :=
  OpenClaim.holds_of_wide 16 Try.f16 rfl rfl rfl rfl rfl rfl rfl ⟨rfl, rfl, rfl, rfl, rfl⟩ rfl rfl rfl rfl rfl (by kernel_rfl) Try.func16 logAddLaw_closed
    (of_decide_eq_true (by kernel_rfl)) (by unfold Func.isWrapper; first | (rw [if_pos (by decide +kernel)]; kernel_rfl) | (rw [if_neg (by decide +kernel)]; exact ⟨rfl, rfl⟩))
    (fun os started H enc _ => logAddLaw_lifted os started H enc)
end Go.Proofs.Ytjkagmelpgpjgaa
