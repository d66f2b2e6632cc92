/- FnKeepLast: the last snapshots of a drawn history are kept. -/
import Derived.Test.YtneleojjadbdcaaKpP
import Derived.Test.YtneleojjadbdcaaDrSt
import Derived.Test.YtneleojjadbdcaaR
namespace Go.Proofs.Ytneleojjadbdcaa
open Go.ChangeShapes Go.WideShapes Go.ChangeAt Go.RowKit
set_option linter.unusedVariables false
set_option linter.unusedSimpArgs false
attribute [local go_sem] max_eq min_eq

set_option maxRecDepth 100000 in
set_option maxHeartbeats 1000000 in
theorem keepLastLaw_walk (w : World) (A : Option Addr) (c : Nat) (bs : List Int) (hx : Sl w A (bs.map (.int .u8))) (hc : bs.length ≤ c) (hcm : c ≤ maxLen) (hb : ∀ b ∈ bs, 0 ≤ b ∧ b < 256) :
    Calls Try.prog 5 #[.slice A bs.length c] w fun e w' => e = .returned (.bool true) ∧ Upd [] w w' := by
  by_cases g1 : 1048576 < bs.length
  · go_enter Try.func5, Try.ntmps5
    go_wp2
    all_goals
      go_ret
      exact ⟨rfl, Upd.refl _ _⟩
  · go_enter Try.func5, Try.ntmps5
    go_wp2_with fail
    refine (drawKeepLast_any A c bs _ hx hc hcm hb).mono ?_
    rintro e w1 ⟨L, lc, xs, many, rfl, o1, l1, ma, mb, u1⟩
    go_wp2_with fail
    refine (implKeepLast_any _ _ _ many _ o1.sl (by unfold maxLen; omega)).mono ?_
    rintro e w2 ⟨K, kc, rfl, o2, u2⟩
    have l2 := keepLast_len xs many
    go_wp2_with fail
    refine (specKeepLast_any _ _ _ many _ (o1.sl.grow u2) (by unfold maxLen; omega)).mono ?_
    rintro e w3 ⟨K2, kc2, rfl, o3, u3⟩
    go_wp2_with fail
    refine (ldInts_any _ _ _ _ _ _ _ (o2.sl.grow u3) o3.sl (by unfold maxLen; omega)).mono ?_
    rintro e w4 ⟨rfl, u4⟩
    rw [same_iff.2 rfl]
    go_wp2_with fail
    have U4 := ((u1.trans u2).trans u3).trans u4
    have p1 := o1.sl.grow ((u2.trans u3).trans u4)
    have p2 := o2.sl.grow (u3.trans u4)
    refine (specStampsOk_any _ _ _ _ p1 (by unfold maxLen; omega)).mono ?_
    rintro e w5 ⟨rfl, u5⟩
    have U5 := U4.trans u5
    cases hs : stOk xs
    · go_wp2_with fail
      refine (specKeepLast_any _ _ _ many _ (p1.grow u5) (by unfold maxLen; omega)).mono ?_
      rintro e w6 ⟨K3, kc3, rfl, o6, u6⟩
      go_wp2_with fail
      refine (ldInts_any _ _ _ _ _ _ _ (p2.grow (u5.trans u6)) o6.sl (by unfold maxLen; omega)).mono ?_
      rintro e w7 ⟨rfl, u7⟩
      rw [same_iff.2 rfl]
      go_wp2
      go_ret
      exact ⟨rfl, (U5.trans u6).trans u7⟩
    · have hlen := keepLast_length xs many hs
      have hget := keepLast_get xs many hs
      obtain ⟨n, hn, hnl⟩ : ∃ n : Nat, n = (min (max many 0) xs.length).toNat ∧ n ≤ xs.length := ⟨_, rfl, by omega⟩
      rw [← hn] at hlen hget
      have hni : min (max many 0) (xs.length : Int) = n := by omega
      clear hn
      have p5 := p1.grow u5
      have q5 := p2.grow u5
      clear o1 o2 o3 p1 p2
      generalize keepLast xs many = ks at *
      have HL := Lib.hid hlen
      have hkl : (ks.length : Int) = n := by omega
      clear hlen
      go_wp2_with fail
      have hqb : ((ks.length : Int) == (n : Int)) = true := beq_iff_eq.2 hkl
      go_loopw [7] (fun i wr => ∃ k : Nat, i = .int .i64 k ∧ k ≤ n ∧ Upd [] w5 wr) (fun i _ => n - (intOf i).toNat)
      case atStart => exact ⟨0, rfl, by omega, Upd.refl _ _⟩
      case round =>
        obtain ⟨k, rfl, hk, hu⟩ := hrel
        by_cases hlt : k < n
        · obtain ⟨b, o, rfl, c1⟩ := (q5.grow hu).int (k := k) (by omega)
          have hv : ks[k]'(by omega) = (atStamp xs (xs.length - n + k)).snap := by
            have := hget k hlt
            rw [List.getElem?_eq_getElem (by omega)] at this
            exact Option.some.inj this
          rw [hv] at c1
          obtain ⟨b2, o2, rfl, c2, c3⟩ := (p5.grow hu).stamp (i := xs.length - n + k) (by omega)
          obtain ⟨j, hj⟩ : ∃ j, xs.length - n + k = j := ⟨_, rfl⟩
          rw [hj] at c1 c2 c3
          have s1 : IntKind.i64.wrap ((xs.length : Int) - n) = (xs.length : Int) - n := IntWalk.i64_in _ (by omega)
          have s2 : IntKind.i64.wrap ((xs.length : Int) - n + k) = (xs.length : Int) - n + k := IntWalk.i64_in _ (by omega)
          have j1 : 0 ≤ (xs.length : Int) - n + k := by omega
          have j2 : (xs.length : Int) - n + k < xs.length := by omega
          have j3 : ((xs.length : Int) - n + k).toNat = j := by omega
          have j4 : (k : Int) < ks.length := by omega
          have j5 : k < ks.length := by omega
          have d1 := fun g : Later wr => g.cell c1
          have d2 := fun g : Later wr => g.cell c2
          have nb : ((atStamp xs j).snap != (atStamp xs j).snap) = false := by simp
          clear hget hv hkl hni
          go_wp2
          refine wp_region_calm (by kernel_rfl) (by kernel_rfl) ?_
          repeat (any_goals (first | go_big_quiet_step (fail) | quiet_step (fail)))
          refine wpQuiet_nil ?_
          rintro _ ⟨g, rfl⟩
          have hg := g.upd
          go_wp2
          refine ⟨⟨k + 1, by go_num, by omega, hu.trans hg⟩, by simp only [intOf]; omega⟩
        · obtain rfl : k = n := by omega
          clear hk hlt
          go_wp2
          go_ret
          exact ⟨rfl, U5.trans hu⟩

set_option maxRecDepth 100000 in
theorem keepLastLaw_lifted (os : Os) (started : os.Started) (H : Type) (enc : TypeId × Value → H) :
    ReturnsInHanded {} Try.checked os 5 .any (Rows.fnKeepLastSpec.pre6 enc Try.prog Try.f5 Rows.fnKeepLastRow.domain false) (Rows.fnKeepLastSpec.post enc Try.prog Try.f5 false true false false) := by
  refine returnsInHanded_of_change (C := Try.checked) own_knob started (by kernel_rfl) Try.func5
    (ChangeSpec.witness6 (enc := enc) (C := Try.checked) false ⟨#[], #[.slice none 0 0], []⟩ 8 (by kernel_rfl) (by kernel_rfl) (by kernel_rfl) (by kernel_rfl)) ?_
  intro W base args ds gs before hval0 hW hcnd _
  have hval : ∀ (j : Nat) t v, Try.f5.params[j]? = some t → args[j]? = some v → Value.okWide Try.prog W .any base t v := hval0
  have hW' := hW
  obtain ⟨p, q, hA0, hV, rfl, hfz, hnd⟩ := hW
  have hA1 : DataW.TrodAll enc Try.prog W 0 (fun _ => true) true Try.f5.params.toList args.toList ds p := hA0
  have hA := hA1
  rw [Try.params5] at hA hval
  obtain ⟨v0, d0, rfl, rfl, h0⟩ := trodAll_one hA
  obtain ⟨rfl, rfl⟩ := trodVars_none hV
  obtain ⟨A0, x0, c0, rfl, hc0, hm0, hs0, hb0⟩ := open_bytes (hval 0 29 v0 rfl rfl) h0
  clear hA0 hval0
  simp only [List.append_nil] at hW'
  refine (keepLastLaw_walk W A0 c0 x0 hs0 hc0 hm0 hb0).mono fun e W' ⟨he, hu⟩ => ?_
  subst he
  exact ⟨_, rfl, law_post laid_out (by rw [Try.params5]; decide +kernel) rfl Try.underlying4 rfl hW' hA1 rfl hu⟩

theorem keepLastLaw_holds : Rows.FnKeepLastSaid :=
  OpenClaim.holds_of_wide 5 Try.f5 rfl rfl rfl rfl rfl rfl rfl ⟨rfl, rfl, rfl, rfl, rfl⟩ rfl rfl rfl rfl rfl (by kernel_rfl) Try.func5 (by kernel_rfl)
    (of_decide_eq_true (by kernel_rfl)) (by unfold Func.isWrapper; first | (rw [if_pos (by decide +kernel)]; kernel_rfl) | (rw [if_neg (by decide +kernel)]; exact ⟨rfl, rfl⟩))
    (fun os started H enc _ => keepLastLaw_lifted os started H enc)
end Go.Proofs.Ytneleojjadbdcaa
