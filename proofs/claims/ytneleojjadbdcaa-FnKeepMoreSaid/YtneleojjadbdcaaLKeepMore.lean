/- FnKeepMore: of more spans no fewer snapshots of a drawn history are kept. -/
import Derived.Test.YtneleojjadbdcaaKpP
import Derived.Test.YtneleojjadbdcaaDrSt
import Derived.Test.YtneleojjadbdcaaR
namespace Go.Proofs.Ytneleojjadbdcaa
open Go.ChangeShapes Go.WideShapes Go.ChangeAt Go.RowKit
set_option linter.unusedVariables false
set_option linter.unusedSimpArgs false

set_option maxRecDepth 100000 in
set_option maxHeartbeats 1000000 in
theorem keepMore_walk (w : World) (A : Option Addr) (c : Nat) (bs : List Int) (hx : Sl w A (bs.map (.int .u8))) (hc : bs.length ≤ c) (hcm : c ≤ maxLen) (hb : ∀ b ∈ bs, 0 ≤ b ∧ b < 256)
    (B : Option Addr) (d : Nat) (ms : List Int) (hx2 : Sl w B (ms.map (.int .u8))) (hc2 : ms.length ≤ d) (hcm2 : d ≤ maxLen) (hb2 : ∀ b ∈ ms, 0 ≤ b ∧ b < 256) :
    Calls Try.prog 6 #[.slice A bs.length c, .slice B ms.length d] w fun e w' => e = .returned (.bool true) ∧ Upd [] w w' := by
  by_cases hlen : 1048576 < bs.length ∨ 1048576 < ms.length
  · go_enter Try.func6, Try.ntmps6
    go_wp2
    all_goals
      go_ret
      exact ⟨rfl, Upd.refl _ _⟩
  · obtain ⟨g1, g2⟩ : bs.length ≤ 1048576 ∧ ms.length ≤ 1048576 := by omega
    go_enter Try.func6, Try.ntmps6
    go_wp2_with fail
    refine (drawKeepDays_any A c bs _ hx hc hcm hb).mono ?_
    rintro e w1 ⟨L, lc, xs, span, many, rfl, o1, l1, sa, sb, ma, mb, u1⟩
    go_wp2_with fail
    refine (implKeepDays_any _ _ _ span many _ o1.sl (by unfold maxLen; omega) (by omega)).mono ?_
    rintro e w2 ⟨K, kc, rfl, o2, u2⟩
    have l2 := keepDays_len xs span many
    go_wp2_with fail
    refine (specKeepDays_any _ _ _ span many _ (o1.sl.grow u2) (by unfold maxLen; omega) (by omega)).mono ?_
    rintro e w3 ⟨K2, kc2, rfl, o3, u3⟩
    go_wp2_with fail
    refine (ldInts_any _ _ _ _ _ _ _ (o2.sl.grow u3) o3.sl (by unfold maxLen; omega)).mono ?_
    rintro e w4 ⟨rfl, u4⟩
    rw [same_iff.2 rfl]
    go_wp2_with fail
    have U4 := ((u1.trans u2).trans u3).trans u4
    have p1 := o1.sl.grow ((u2.trans u3).trans u4)
    have p2 := o2.sl.grow (u3.trans u4)
    refine (specStampsOk_any _ _ _ _ p1 (by unfold maxLen; omega)).mono ?_
    rintro e w5 ⟨rfl, u5⟩
    have U5 := U4.trans u5
    cases hs : stOk xs
    · go_wp2_with fail
      refine (specKeepDays_any _ _ _ span many _ (p1.grow u5) (by unfold maxLen; omega) (by omega)).mono ?_
      rintro e w6 ⟨K3, kc3, rfl, o6, u6⟩
      go_wp2_with fail
      refine (ldInts_any _ _ _ _ _ _ _ (p2.grow (u5.trans u6)) o6.sl (by unfold maxLen; omega)).mono ?_
      rintro e w7 ⟨rfl, u7⟩
      rw [same_iff.2 rfl]
      go_wp2
      go_ret
      exact ⟨rfl, (U5.trans u6).trans u7⟩
    · by_cases h1 : span < 1
      · have hb : decide (span < 1) = true := decide_eq_true h1
        go_wp2_with fail
        refine (specKeepDays_any _ _ _ span many _ (p1.grow u5) (by unfold maxLen; omega) (by omega)).mono ?_
        rintro e w6 ⟨K3, kc3, rfl, o6, u6⟩
        go_wp2_with fail
        refine (ldInts_any _ _ _ _ _ _ _ (p2.grow (u5.trans u6)) o6.sl (by unfold maxLen; omega)).mono ?_
        rintro e w7 ⟨rfl, u7⟩
        rw [same_iff.2 rfl]
        go_wp2
        go_ret
        exact ⟨rfl, (U5.trans u6).trans u7⟩
      · have hb : decide (span < 1) = false := decide_eq_false h1
        go_wp2_with fail
        refine (implKeepDays_any _ _ _ span _ _ (p1.grow u5) (by unfold maxLen; omega) (by omega)).mono ?_
        rintro e w6 ⟨M, mc, rfl, o6, u6⟩
        obtain ⟨n1, n2⟩ := keepDays_more (xs := xs) span many (↑(ms.length : Int) % 4) (by omega)
        have l6 := keepDays_len xs span (many + (ms.length : Int) % 4)
        have p6 := o6.sl
        have pm := o6.cap.1
        have q2 := p2.grow (u5.trans u6)
        have U6 := U5.trans u6
        clear o6 o2 o3 p2
        generalize keepDays xs span (many + (ms.length : Int) % 4) = mk at *
        generalize keepDays xs span many = ks at *
        obtain ⟨j, hj⟩ : ∃ j, mk.length - ks.length = j := ⟨_, rfl⟩
        rw [hj] at n2
        obtain ⟨D, hD⟩ : ∃ D, (if mc = j then M else M.map (fun x => x.add j)) = D := ⟨_, rfl⟩
        have sD : Sl w6 D (ints ks) := by rw [← hD, ← n2]; exact p6.int_from pm j
        have sDl : mk.length - j = ks.length := by omega
        have f1 : IntKind.i64.wrap ((mk.length : Int) - (ks.length : Int)) = j := by rw [IntWalk.i64_in _ (by omega)]; omega
        have f2 : decide ((mk.length : Int) ≥ (ks.length : Int)) = true := decide_eq_true (by omega)
        have f3 : decide ((ks.length : Int) ≤ (mk.length : Int)) = true := decide_eq_true (by omega)
        have i1 : j ≤ mk.length := by omega
        have i2 : j ≤ mc := by omega
        have i3 : mk.length ≤ mc := by omega
        have HN := Lib.hid n2
        have HJ := Lib.hid hj
        clear n2 hj
        go_wp2_with fail
        refine (ldInts_any _ _ _ _ _ _ _ sD q2 (by unfold maxLen; omega)).mono ?_
        rintro e w7 ⟨rfl, u7⟩
        rw [same_iff.2 rfl]
        go_wp2
        go_ret
        exact ⟨rfl, U6.trans u7⟩

set_option maxRecDepth 100000 in
theorem keepMore_lifted (os : Os) (started : os.Started) (H : Type) (enc : TypeId × Value → H) :
    ReturnsInHanded {} Try.checked os 6 .any (Rows.fnKeepMoreSpec.pre6 enc Try.prog Try.f6 Rows.fnKeepMoreRow.domain false) (Rows.fnKeepMoreSpec.post enc Try.prog Try.f6 false true false false) := by
  refine returnsInHanded_of_change (C := Try.checked) own_knob started (by kernel_rfl) Try.func6
    (ChangeSpec.witness6 (enc := enc) (C := Try.checked) false ⟨#[], #[.slice none 0 0, .slice none 0 0], []⟩ 8 (by kernel_rfl) (by kernel_rfl) (by kernel_rfl) (by kernel_rfl)) ?_
  intro W base args ds gs before hval0 hW hcnd _
  have hval : ∀ (j : Nat) t v, Try.f6.params[j]? = some t → args[j]? = some v → Value.okWide Try.prog W .any base t v := hval0
  have hW' := hW
  obtain ⟨p, q, hA0, hV, rfl, hfz, hnd⟩ := hW
  have hA1 : DataW.TrodAll enc Try.prog W 0 (fun _ => true) true Try.f6.params.toList args.toList ds p := hA0
  have hA := hA1
  rw [Try.params6] at hA hval
  obtain ⟨v0, v1, d0, d1, p0, p1, rfl, rfl, rfl, h0, h1⟩ := trodAll_two hA
  obtain ⟨rfl, rfl⟩ := trodVars_none hV
  obtain ⟨A0, x0, c0, rfl, hc0, hm0, hs0, hb0⟩ := open_bytes (hval 0 29 v0 rfl rfl) h0
  obtain ⟨A1, x1, c1, rfl, hc1, hm1, hs1, hb1⟩ := open_bytes (hval 1 29 v1 rfl rfl) h1
  clear hA0 hval0
  simp only [List.append_nil] at hW'
  refine (keepMore_walk W A0 c0 x0 hs0 hc0 hm0 hb0 A1 c1 x1 hs1 hc1 hm1 hb1).mono fun e W' ⟨he, hu⟩ => ?_
  subst he
  exact ⟨_, rfl, law_post laid_out (by rw [Try.params6]; decide +kernel) rfl Try.underlying4 rfl hW' hA1 rfl hu⟩

theorem keepMore_holds : Rows.FnKeepMoreSaid :=
  OpenClaim.holds_of_wide 6 Try.f6 rfl rfl rfl rfl rfl rfl rfl ⟨rfl, rfl, rfl, rfl, rfl⟩ rfl rfl rfl rfl rfl (by kernel_rfl) Try.func6 (by kernel_rfl)
    (of_decide_eq_true (by kernel_rfl)) (by unfold Func.isWrapper; first | (rw [if_pos (by decide +kernel)]; kernel_rfl) | (rw [if_neg (by decide +kernel)]; exact ⟨rfl, rfl⟩))
    (fun os started H enc _ => keepMore_lifted os started H enc)
end Go.Proofs.Ytneleojjadbdcaa
