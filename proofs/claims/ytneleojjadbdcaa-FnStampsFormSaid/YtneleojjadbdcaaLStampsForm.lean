/- FnStampsForm: a drawn history that StampsOk lets stays one with any one snapshot removed; with one repeated, or a day below 0 behind it, it is none. -/
import Derived.Test.YtneleojjadbdcaaStP
import Derived.Test.YtneleojjadbdcaaDrSt
import Derived.Test.YtneleojjadbdcaaR
namespace Go.Proofs.Ytneleojjadbdcaa
open Go.ChangeShapes Go.WideShapes Go.ChangeAt Go.RowKit
set_option linter.unusedVariables false
set_option linter.unusedSimpArgs false

set_option maxRecDepth 100000 in
set_option maxHeartbeats 1000000 in
theorem stampsForm_walk (w : World) (A : Option Addr) (c : Nat) (bs : List Int) (hx : Sl w A (bs.map (.int .u8))) (hc : bs.length ≤ c) (hcm : c ≤ maxLen) (hb : ∀ b ∈ bs, 0 ≤ b ∧ b < 256)
    (B : Option Addr) (d : Nat) (ms : List Int) (hx2 : Sl w B (ms.map (.int .u8))) (hc2 : ms.length ≤ d) (hcm2 : d ≤ maxLen) (hb2 : ∀ b ∈ ms, 0 ≤ b ∧ b < 256) :
    Calls Try.prog 4 #[.slice A bs.length c, .slice B ms.length d] w fun e w' => e = .returned (.bool true) ∧ Upd [] w w' := by
  have hml : ms.length ≤ 9223372036854775807 := by unfold maxLen at hcm2; omega
  by_cases hlen : 1048576 < bs.length ∨ 1048576 < ms.length
  · go_enter Try.func4, Try.ntmps4
    go_wp2
    all_goals
      go_ret
      exact ⟨rfl, Upd.refl _ _⟩
  · obtain ⟨g1, g2⟩ : bs.length ≤ 1048576 ∧ ms.length ≤ 1048576 := by omega
    go_enter Try.func4, Try.ntmps4
    go_wp2_with fail
    refine (drawStampsOk_any A c bs _ hx hc hcm hb).mono ?_
    rintro e w1 ⟨L, lc, xs, rfl, o1, l1, u1⟩
    go_wp2_with fail
    refine (implStampsOk_any _ _ _ _ o1.sl (by unfold maxLen; omega)).mono ?_
    rintro e w2 ⟨rfl, u2⟩
    go_wp2_with fail
    refine (specStampsOk_any _ _ _ _ (o1.sl.grow u2) (by unfold maxLen; omega)).mono ?_
    rintro e w3 ⟨rfl, u3⟩
    have U3 := (u1.trans u2).trans u3
    have o3 := o1.grow (u2.trans u3)
    cases hs : stOk xs
    · go_wp2_with fail
      refine (specStampsOk_any _ _ _ _ o3.sl (by unfold maxLen; omega)).mono ?_
      rintro e w4 ⟨rfl, u4⟩
      rw [hs]
      go_wp2
      go_ret
      exact ⟨rfl, U3.trans u4⟩
    · by_cases hz : xs.length = 0
      · have hzb : ((xs.length : Int) == 0) = true := by simp [hz]
        have HZ := Lib.hid hz
        clear hz
        go_wp2_with fail
        refine (specStampsOk_any _ _ _ _ o3.sl (by unfold maxLen; omega)).mono ?_
        rintro e w4 ⟨rfl, u4⟩
        rw [hs]
        go_wp2
        go_ret
        exact ⟨rfl, U3.trans u4⟩
      · have hzb : ((xs.length : Int) == 0) = false := beq_eq_false_iff_ne.2 (by omega)
        obtain ⟨k, hk, hkl⟩ : ∃ k : Nat, (ms.length : Int) % (xs.length : Int) = k ∧ k < xs.length := ⟨ms.length % xs.length, by omega, Nat.mod_lt _ (by omega)⟩
        have kc := o3.cap
        go_wp2_with fail
        simp only [hk]
        have HK := Lib.hid hk
        clear hk
        have i1 : k ≤ lc := by omega
        have i2 : k + 1 ≤ xs.length := by omega
        have i3 : xs.length ≤ lc := kc.1
        have j1 : 0 ≤ (k : Int) + 1 := by omega
        have j2 : (k : Int) + 1 ≤ xs.length := by omega
        have j3 : ((k : Int) + 1).toNat = k + 1 := by omega
        have j4 : IntKind.i64.wrap ((k : Int) + 1) = (k : Int) + 1 := IntWalk.i64_in _ (by omega)
        obtain ⟨D, hD⟩ : ∃ D, (if lc = k + 1 then L else Option.map (fun x => x.add ((k + 1) * 2)) L) = D := ⟨_, rfl⟩
        have sD : Sl w3 D ((xs.drop (k + 1)).flatMap encStamp) := by rw [← hD]; exact o3.sl.stamp_drop kc.1 (k + 1)
        have bD : ∀ a, D = some a → a.block < w3.heap.size := fun a ha => by
          rw [← hD] at ha
          split at ha
          · exact (o3.lt a ha).2
          · cases L with
            | none => cases ha
            | some l => cases ha; have := (o3.lt l rfl).2; unfold Addr.add; split <;> exact this
        go_cut [8] (fun v wx => ∃ A2 c2, v = .slice A2 (k + (xs.length - (k + 1))) c2 ∧ Own wx w3.heap.size 32 2 A2 (k + (xs.length - (k + 1))) c2 ((xs.take k ++ xs.drop (k + 1)).flatMap encStamp) ∧ Upd [] w3 wx)
        case first =>
          go_region_law (first
            | (refine step_append rfl (.tmp 45) (.tmp 48) _ rfl stampT rfl (Own.lit _ [] 0 (Nat.le_refl _) (by simp [maxLen]) rfl) rfl (by rw [lenStamp, List.length_take, Nat.min_eq_left (by omega)]) ((o3.sl.stamp_take k).grow ((Upd.refl _ _).drew.alloc _)) (oneStamp _) (by unfold maxLen; omega) (by omega) ((Upd.refl [] w3).drew.alloc _) (Nat.le_refl _) (by simp) ?_; intro A1 c1 w5 p1 P1 q1 hA1; rw [Nat.zero_add, List.nil_append] at p1)
            | (refine step_append rfl (.tmp 49) (.tmp 53) _ rfl stampT rfl p1 rfl (by rw [lenStamp, List.length_drop]) ((sD.grow ((Upd.refl _ _).drew.alloc _)).upd q1 (fun a ha => by have := bD a ha; simp; omega)) (oneStamp _) (by unfold maxLen; omega) (by omega) P1 (Nat.le_refl _) (Nat.le_trans (by simp) q1.size) ?_; intro A2 c2 w6 p2 P2 q2 hA2))
          all_goals
            clear hD j1 j2 j3 j4
            go_wp2
            go_meet
            case rel => exact ⟨A2, c2, rfl, by rw [List.flatMap_append]; exact p2, P2⟩
        case rest =>
          obtain ⟨A2, c2, rfl, p2, P2⟩ := hcut
          generalize wc = w4 at *
          go_wp2_with fail
          have o4 := o3.grow P2
          obtain ⟨D, hD⟩ : ∃ D, (if lc = k then L else Option.map (fun x => x.add (k * 2)) L) = D := ⟨_, rfl⟩
          have sD : Sl w4 D ((xs.drop k).flatMap encStamp) := by rw [← hD]; exact o4.sl.stamp_drop kc.1 k
          have bD : ∀ a, D = some a → a.block < w4.heap.size := fun a ha => by
            rw [← hD] at ha
            split at ha
            · exact (o4.lt a ha).2
            · cases L with
              | none => cases ha
              | some l => cases ha; have := (o4.lt l rfl).2; unfold Addr.add; split <;> exact this
          have i4 : k ≤ xs.length := by omega
          have i5 : k + 1 ≤ lc := by omega
          have j1 : 0 ≤ (k : Int) + 1 := by omega
          have j2 : (k : Int) + 1 ≤ lc := by omega
          have j3 : ((k : Int) + 1).toNat = k + 1 := by omega
          have j4 : IntKind.i64.wrap ((k : Int) + 1) = (k : Int) + 1 := IntWalk.i64_in _ (by omega)
          go_cut [9] (fun v wx => ∃ A3 c3, v = .slice A3 (k + 1 + (xs.length - k)) c3 ∧ Own wx w4.heap.size 32 2 A3 (k + 1 + (xs.length - k)) c3 ((xs.take (k + 1) ++ xs.drop k).flatMap encStamp) ∧ Upd [] w4 wx)
          case first =>
            go_region_law (first
              | (refine step_append rfl (.tmp 55) (.tmp 59) _ rfl stampT rfl (Own.lit _ [] 0 (Nat.le_refl _) (by simp [maxLen]) rfl) rfl (by rw [lenStamp, List.length_take, Nat.min_eq_left (by omega)]) ((o4.sl.stamp_take (k + 1)).grow ((Upd.refl _ _).drew.alloc _)) (oneStamp _) (by unfold maxLen; omega) (by omega) ((Upd.refl [] w4).drew.alloc _) (Nat.le_refl _) (by simp) ?_; intro A1 c1 w5 p1 P1 q1 hA1; rw [Nat.zero_add, List.nil_append] at p1)
              | (refine step_append rfl (.tmp 60) (.tmp 63) _ rfl stampT rfl p1 rfl (by rw [lenStamp, List.length_drop]) ((sD.grow ((Upd.refl _ _).drew.alloc _)).upd q1 (fun a ha => by have := bD a ha; simp; omega)) (oneStamp _) (by unfold maxLen; omega) (by omega) P1 (Nat.le_refl _) (Nat.le_trans (by simp) q1.size) ?_; intro A3 c3 w6 p3 P3 q3 hA3))
            all_goals
              clear hD j1 j2 j3 j4
              go_wp2
              go_meet
              case rel => exact ⟨A3, c3, rfl, by rw [List.flatMap_append]; exact p3, P3⟩
          case rest =>
            obtain ⟨A3, c3, rfl, p3, P3⟩ := hcut
            clear hD sD bD j1 j2 j3 j4
            have o5 := o4.grow P3
            have p2' := p2.grow P3
            go_wp2_with (first
              | (at_builtin; refine append_any rfl (.tmp 65) (.tmp 66) _ rfl stampT rfl (Own.lit _ [] 0 (Nat.le_refl _) (by simp [maxLen]) rfl) rfl (lenStamp _) (o5.sl.grow ((Upd.refl _ _).alloc _)) (oneStamp _) (by unfold maxLen; omega) (by omega) ((Upd.refl [] wc).alloc _) (Nat.le_refl _) (by simp) ?_; intro A4 c4 w7 p4 P4 q4 hA4; rw [Nat.zero_add, List.nil_append] at p4)
              | (at_builtin; refine append_one rfl (.tmp 67) (.tmp 69) _ rfl stampT rfl p4 rfl rfl (by simp [Value.oneCell']) (by unfold maxLen; omega) (by omega) P4 (Nat.le_refl _) P4.size ?_; intro A5 c5 w8 p5 P5 q5 hA5)
              | fail)
            have e1 := stOk_less hs hkl
            have e2 := stOk_twice hkl
            have e3 := stOk_back xs 20
            have L1 : (xs.take k ++ xs.drop (k + 1)).length = k + (xs.length - (k + 1)) := by simp; omega
            have L2 : (xs.take (k + 1) ++ xs.drop k).length = k + 1 + (xs.length - k) := by simp; omega
            have L3 : (xs ++ [⟨20, -1⟩] : List Stamp).length = xs.length + 1 := by simp
            have c1 := implStampsOk_any A2 c2 _ w8 (p2'.sl.grow P5) (by rw [L1]; unfold maxLen; omega)
            rw [L1, e1] at c1
            refine c1.mono ?_
            rintro e w9 ⟨rfl, u9⟩
            go_wp2_with fail
            have c2 := implStampsOk_any A3 c3 _ w9 (p3.sl.grow (P5.trans u9)) (by rw [L2]; unfold maxLen; omega)
            rw [L2, e2] at c2
            refine c2.mono ?_
            rintro e w10 ⟨rfl, u10⟩
            go_wp2_with fail
            have p5' : Sl w8 A5 ((xs ++ [Stamp.mk 20 (-1)]).flatMap encStamp) := by rw [← flat_snocStamp]; exact p5.sl
            have c3 := implStampsOk_any A5 c5 _ w10 (p5'.grow (u9.trans u10)) (by rw [L3]; unfold maxLen; omega)
            rw [L3, e3] at c3
            refine c3.mono ?_
            rintro e w11 ⟨rfl, u11⟩
            go_wp2
            go_ret
            exact ⟨ret_bool (decide_eq_true (by omega)), (((((U3.trans P2).trans P3).trans P5).trans u9).trans u10).trans u11⟩

set_option maxRecDepth 100000 in
theorem stampsForm_lifted (os : Os) (started : os.Started) (H : Type) (enc : TypeId × Value → H) :
    ReturnsInHanded {} Try.checked os 4 .any (Rows.fnStampsFormSpec.pre6 enc Try.prog Try.f4 Rows.fnStampsFormRow.domain false) (Rows.fnStampsFormSpec.post enc Try.prog Try.f4 false true false false) := by
  refine returnsInHanded_of_change (C := Try.checked) own_knob started (by kernel_rfl) Try.func4
    (ChangeSpec.witness6 (enc := enc) (C := Try.checked) false ⟨#[], #[.slice none 0 0, .slice none 0 0], []⟩ 8 (by kernel_rfl) (by kernel_rfl) (by kernel_rfl) (by kernel_rfl)) ?_
  intro W base args ds gs before hval0 hW hcnd _
  have hval : ∀ (j : Nat) t v, Try.f4.params[j]? = some t → args[j]? = some v → Value.okWide Try.prog W .any base t v := hval0
  have hW' := hW
  obtain ⟨p, q, hA0, hV, rfl, hfz, hnd⟩ := hW
  have hA1 : DataW.TrodAll enc Try.prog W 0 (fun _ => true) true Try.f4.params.toList args.toList ds p := hA0
  have hA := hA1
  rw [Try.params4] at hA hval
  obtain ⟨v0, v1, d0, d1, p0, p1, rfl, rfl, rfl, h0, h1⟩ := trodAll_two hA
  obtain ⟨rfl, rfl⟩ := trodVars_none hV
  obtain ⟨A0, x0, c0, rfl, hc0, hm0, hs0, hb0⟩ := open_bytes (hval 0 29 v0 rfl rfl) h0
  obtain ⟨A1, x1, c1, rfl, hc1, hm1, hs1, hb1⟩ := open_bytes (hval 1 29 v1 rfl rfl) h1
  clear hA0 hval0
  simp only [List.append_nil] at hW'
  refine (stampsForm_walk W A0 c0 x0 hs0 hc0 hm0 hb0 A1 c1 x1 hs1 hc1 hm1 hb1).mono fun e W' ⟨he, hu⟩ => ?_
  subst he
  exact ⟨_, rfl, law_post laid_out (by rw [Try.params4]; decide +kernel) rfl Try.underlying4 rfl hW' hA1 rfl hu⟩

theorem stampsForm_holds : Rows.FnStampsFormSaid :=
  OpenClaim.holds_of_wide 4 Try.f4 rfl rfl rfl rfl rfl rfl rfl ⟨rfl, rfl, rfl, rfl, rfl⟩ rfl rfl rfl rfl rfl (by kernel_rfl) Try.func4 (by kernel_rfl)
    (of_decide_eq_true (by kernel_rfl)) (by unfold Func.isWrapper; first | (rw [if_pos (by decide +kernel)]; kernel_rfl) | (rw [if_neg (by decide +kernel)]; exact ⟨rfl, rfl⟩))
    (fun os started H enc _ => stampsForm_lifted os started H enc)
end Go.Proofs.Ytneleojjadbdcaa
