/- FnSeeWell: what a memory says of a drawn log. -/
import Derived.Test.YtjkagmelpgpjgaaLgQ
import Derived.Test.YtjkagmelpgpjgaaDrLg2
import Derived.Test.YtjkagmelpgpjgaaLo
import Derived.Test.YtjkagmelpgpjgaaKMem
namespace Go.Proofs.Ytjkagmelpgpjgaa
open Go.ChangeShapes Go.WideShapes Go.ChangeAt Go.RowKit
set_option linter.unusedVariables false
set_option linter.unusedSimpArgs false
attribute [-go_sem] run_neq_struct run_eql_struct run_eqGuard_agg run_equalIn_agg
attribute [local go_sem] neqHead guardHead neqMem eqMem guardMem eqHeadOp max_eq min_eq

set_option maxRecDepth 100000 in
set_option maxHeartbeats 2000000 in
theorem seeWell_walk (w : World) (A : Option Addr) (c : Nat) (bs : List Int) (hx : Sl w A (bs.map (.int .u8))) (hc : bs.length ≤ c) (hcm : c ≤ maxLen) (hb : ∀ b ∈ bs, 0 ≤ b ∧ b < 256) :
    Calls Try.prog 14 #[.slice A bs.length c] w fun e w' => e = .returned (.bool true) ∧ Upd [] w w' := by
  by_cases hlen : 1048576 < bs.length
  · go_enter Try.func14, Try.ntmps14
    go_wp2
    all_goals
      go_ret
      exact ⟨rfl, Upd.refl _ _⟩
  · have g1 : bs.length ≤ 1048576 := by omega
    go_enter Try.func14, Try.ntmps14
    go_wp2_with fail
    refine (drawMemorySee_any A c bs _ hx hc hcm hb).mono ?_
    rintro e w1 ⟨m, P, pc, xs, rfl, o1, l1, ma, mb, u1⟩
    have hcap := o1.cap.1
    obtain ⟨⟨⟨L, S⟩, n⟩, hsee⟩ : ∃ r, see m xs = r := ⟨_, rfl⟩
    have ua := (Upd.refl [] w1).alloc (.cells #[.int .i64 m.long, .int .i64 m.sum] 47)
    have M1 := RCell.new w1 (.int .i64 m.long) (.int .i64 m.sum) 47
    have p1 := o1.sl.grow ua
    have U1 := u1.trans ua
    have hc1 := specMemorySee_any m P pc xs _ p1 hcap (by unfold maxLen; omega)
    unfold RetSee at hc1
    rw [hsee] at hc1
    dsimp only [encMem] at hc1
    go_wp2_with fail
    refine hc1.mono ?_
    rintro e w2 ⟨rfl, u2⟩
    clear hc1
    have ub := (Upd.refl [] w2).alloc (.cells #[.int .i64 L, .int .i64 S] 47)
    have V2 := RCell.new w2 (.int .i64 L) (.int .i64 S) 47
    have M2 := (M1.grow u2).grow ub
    have p2 := (p1.grow u2).grow ub
    have U2 := (U1.trans u2).trans ub
    have hc2 := implMemorySee_any m P pc xs _ p2 hcap (by unfold maxLen; omega)
    unfold RetSee at hc2
    rw [hsee] at hc2
    dsimp only [encMem] at hc2
    have m0 := M2.c0
    have m1 := M2.c1
    go_wp2_with fail
    refine hc2.mono ?_
    rintro e w3 ⟨rfl, u3⟩
    clear hc2 m0 m1
    have uc := (Upd.refl [] w3).alloc (.cells #[.int .i64 L, .int .i64 S] 47)
    have X3 := RCell.new w3 (.int .i64 L) (.int .i64 S) 47
    have V3 := (V2.grow u3).grow uc
    have M3 := (M2.grow u3).grow uc
    have p3 := (p2.grow u3).grow uc
    have U3 := (U2.trans u3).trans uc
    have hsm : same (Mem.mk L S) (Mem.mk L S) = true := same_iff.2 rfl
    have hnn : (n != n) = false := by simp
    have hnn2 : (n == n) = true := by simp
    have x0 := X3.c0
    have x1 := X3.c1
    have v0 := V3.c0
    have v1 := V3.c1
    have HS := Lib.hid hsee
    clear hsee M1 M2 V2
    go_wp2_with fail
    refine (specLogOk_any _ _ _ _ p3 (by unfold maxLen; omega)).mono ?_
    rintro e w4 ⟨rfl, u4⟩
    have U4 := U3.trans u4
    have p4 := p3.grow u4
    have M4 := M3.grow u4
    have V4 := V3.grow u4
    have X4 := X3.grow u4
    clear M3 V3 X3 x0 x1 v0 v1
    have m0 := M4.c0
    have m1 := M4.c1
    have x0 := X4.c0
    have x1 := X4.c1
    have v0 := V4.c0
    have v1 := V4.c1
    cases hs : lgOk xs
    · go_wp2
      go_ret
      exact ⟨rfl, U4⟩
    · by_cases h0 : m.long < 0
      · have hb0 : decide (m.long < 0) = true := decide_eq_true h0
        go_wp2
        go_ret
        exact ⟨rfl, U4⟩
      · have hb0 : decide (m.long < 0) = false := decide_eq_false h0
        have hof := see_of (m := m) hs (by omega)
        rw [HS.out] at hof
        clear HS
        by_cases h1 : (xs.length : Int) < m.long
        · rw [if_pos h1] at hof
          have hb1 : decide ((xs.length : Int) < m.long) = true := decide_eq_true h1
          obtain ⟨rfl, rfl, rfl⟩ : L = m.long ∧ S = m.sum ∧ n = 1 := by cases m; simp at hof; exact ⟨hof.1.1, hof.1.2, hof.2⟩
          clear hof
          go_wp2
          go_ret
          exact ⟨rfl, U4⟩
        · rw [if_neg h1] at hof
          have hb1 : decide ((xs.length : Int) < m.long) = false := decide_eq_false h1
          obtain ⟨k, hk⟩ := Int.eq_ofNat_of_zero_le (show 0 ≤ m.long by omega)
          have hkx : k ≤ xs.length := by omega
          have htl : (xs.take k).length = k := by rw [List.length_take]; omega
          have hlt : logSum (xs.take k) = sumTo xs k := by rw [(logSum_ok (lgOk_take hs k)).1, sumTo_take xs k hkx]
          have hcs := fun g : Later w4 => implLogSum_any P pc (xs.take k) g.world ((p4.head_take k).grow g.upd) (by rw [htl]; unfold maxLen; omega)
          rw [htl, hlt] at hcs
          have i1 : k ≤ pc := by omega
          have i2 : (k : Int) ≤ pc := by omega
          have hb2 : decide (xs.length < k) = false := decide_eq_false (by omega)
          have d0 := fun g : Later w4 => g.cell m0
          have d1 := fun g : Later w4 => g.cell m1
          rw [hk] at hof
          rw [show ((k : Nat) : Int).toNat = k from Int.toNat_natCast k] at hof
          by_cases h2 : sumTo xs k = m.sum
          · rw [if_neg (by simpa using h2)] at hof
            have hb3 : (sumTo xs k != m.sum) = false := by simpa using h2
            obtain ⟨rfl, rfl, rfl⟩ : L = xs.length ∧ S = lgSum xs ∧ n = 0 := by simp at hof; exact ⟨hof.1.1, hof.1.2, hof.2⟩
            have H2 := Lib.hid h2
            clear hof h2
            have hls := (logSum_ok hs).1
            have hee : (lgSum xs == lgSum xs) = true := by simp
            go_wp2
            refine wp_region_calm (by kernel_rfl) (by kernel_rfl) ?_
            repeat (any_goals (first | go_big_quiet_step ((first | (go_at_call 30; exact Calls.calm (hcs _)))) | quiet_step ((first | (go_at_call 30; exact Calls.calm (hcs _))))))
            refine wpQuiet_nil ?_
            rintro _ ⟨g, rfl⟩
            have hg := g.upd
            have hw5 : ∀ V, Upd [] w4 V → ∀ g : Later V, Calls Try.prog 30 #[.slice P xs.length pc] g.world fun e w' => e = .returned (.int .i64 (lgSum xs)) ∧ Upd [] g.world w' := fun V hV g => by
              have := implLogSum_any P pc xs g.world ((p4.grow hV).grow g.upd) (by unfold maxLen; omega)
              rwa [hls] at this
            have hcs2 := hw5 _ hg
            have x0' := hg.cell x0 (by simp)
            have x1' := hg.cell x1 (by simp)
            have U5 := U4.trans hg
            generalize g.world = w5 at *
            have e0 := fun g : Later w5 => g.cell x0'
            have e1 := fun g : Later w5 => g.cell x1'
            go_wp2
            refine wp_region_calm (by kernel_rfl) (by kernel_rfl) ?_
            repeat (any_goals (first | go_big_quiet_step ((first | (go_at_call 30; exact Calls.calm (hcs2 _)))) | quiet_step ((first | (go_at_call 30; exact Calls.calm (hcs2 _))))))
            refine wpQuiet_nil ?_
            rintro _ ⟨g, rfl⟩
            have hg := g.upd
            go_wp2
            go_ret
            exact ⟨rfl, U5.trans hg⟩
          · rw [if_pos h2] at hof
            have hb3 : (sumTo xs k != m.sum) = true := by simpa using h2
            obtain ⟨rfl, rfl, rfl⟩ : L = m.long ∧ S = m.sum ∧ n = 2 := by cases m; simp at hof; exact ⟨hof.1.1, hof.1.2, hof.2⟩
            clear hof
            go_wp2
            refine wp_region_calm (by kernel_rfl) (by kernel_rfl) ?_
            repeat (any_goals (first | go_big_quiet_step ((first | (go_at_call 30; exact Calls.calm (hcs _)))) | quiet_step ((first | (go_at_call 30; exact Calls.calm (hcs _))))))
            refine wpQuiet_nil ?_
            rintro _ ⟨g, rfl⟩
            have hg := g.upd
            have m0' := hg.cell m0 (by simp)
            have m1' := hg.cell m1 (by simp)
            have x0' := hg.cell x0 (by simp)
            have x1' := hg.cell x1 (by simp)
            go_wp2
            go_ret
            exact ⟨ret_bool (same_iff.2 rfl), U4.trans hg⟩

set_option maxRecDepth 100000 in
theorem seeWell_lifted (os : Os) (started : os.Started) (H : Type) (enc : TypeId × Value → H) :
    ReturnsInHanded {} Try.checked os 14 .any (Rows.fnSeeWellSpec.pre6 enc Try.prog Try.f14 Rows.fnSeeWellRow.domain false) (Rows.fnSeeWellSpec.post enc Try.prog Try.f14 false true false false) := by
  refine returnsInHanded_of_change (C := Try.checked) own_knob started (by kernel_rfl) Try.func14
    (ChangeSpec.witness6 (enc := enc) (C := Try.checked) false ⟨#[], #[.slice none 0 0], []⟩ 8 (by kernel_rfl) (by kernel_rfl) (by kernel_rfl) (by kernel_rfl)) ?_
  intro W base args ds gs before hval0 hW hcnd _
  have hval : ∀ (j : Nat) t v, Try.f14.params[j]? = some t → args[j]? = some v → Value.okWide Try.prog W .any base t v := hval0
  have hW' := hW
  obtain ⟨p, q, hA0, hV, rfl, hfz, hnd⟩ := hW
  have hA1 : DataW.TrodAll enc Try.prog W 0 (fun _ => true) true Try.f14.params.toList args.toList ds p := hA0
  have hA := hA1
  rw [Try.params14] at hA hval
  obtain ⟨v0, d0, rfl, rfl, h0⟩ := trodAll_one hA
  obtain ⟨rfl, rfl⟩ := trodVars_none hV
  obtain ⟨A0, x0, c0, rfl, hc0, hm0, hs0, hb0⟩ := open_bytes (hval 0 22 v0 rfl rfl) h0
  clear hA0 hval0
  simp only [List.append_nil] at hW'
  refine (seeWell_walk W A0 c0 x0 hs0 hc0 hm0 hb0).mono fun e W' ⟨he, hu⟩ => ?_
  subst he
  exact ⟨_, rfl, law_post laid_out (by rw [Try.params14]; decide +kernel) rfl Try.underlying4 rfl hW' hA1 rfl hu⟩

theorem seeWell_closed : joinedFacts Try.prog 14 Try.f14 Rows.fnSeeWellSpec Rows.fnSeeWellRow = true := by
  simp only [joinedFacts, Bool.and_eq_true]
  and_intros
  all_goals (first | with_reducible exact mayEnter_is | (rw [liftsFinal_is]; rfl) | (rw [make_is]; rfl) | kernel_rfl)
theorem seeWell_holds : Rows.FnSeeWellSaid :=
  OpenClaim.holds_of_wide 14 Try.f14 rfl rfl rfl rfl rfl rfl rfl ⟨rfl, rfl, rfl, rfl, rfl⟩ rfl rfl rfl rfl rfl (by kernel_rfl) Try.func14 seeWell_closed
    (of_decide_eq_true (by kernel_rfl)) (by unfold Func.isWrapper; first | (rw [if_pos (by decide +kernel)]; kernel_rfl) | (rw [if_neg (by decide +kernel)]; exact ⟨rfl, rfl⟩))
    (fun os started H enc _ => seeWell_lifted os started H enc)
end Go.Proofs.Ytjkagmelpgpjgaa
