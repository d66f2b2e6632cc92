/- FnSeeBack: a log that is shorter than what was seen well is a step back. -/
import Derived.Test.YtjkagmelpgpjgaaLgQ
import Derived.Test.YtjkagmelpgpjgaaDrLg2
import Derived.Test.YtjkagmelpgpjgaaLo
import Derived.Test.YtjkagmelpgpjgaaKMem
namespace Go.Proofs.Ytjkagmelpgpjgaa
open Go.ChangeShapes Go.WideShapes Go.ChangeAt Go.RowKit
set_option linter.unusedVariables false
set_option linter.unusedSimpArgs false
attribute [-go_sem] run_neq_struct run_eql_struct run_eqGuard_agg run_equalIn_agg
attribute [local go_sem] neqHead guardHead neqMem eqMem guardMem eqHeadOp max_eq min_eq

set_option maxRecDepth 100000 in
set_option maxHeartbeats 2000000 in
theorem seeBack_walk (w : World) (A : Option Addr) (c : Nat) (bs : List Int) (hx : Sl w A (bs.map (.int .u8))) (hc : bs.length ≤ c) (hcm : c ≤ maxLen) (hb : ∀ b ∈ bs, 0 ≤ b ∧ b < 256)
    (B : Option Addr) (d : Nat) (ms : List Int) (hx2 : Sl w B (ms.map (.int .u8))) (hc2 : ms.length ≤ d) (hcm2 : d ≤ maxLen) (hb2 : ∀ b ∈ ms, 0 ≤ b ∧ b < 256) :
    Calls Try.prog 13 #[.slice A bs.length c, .slice B ms.length d] w fun e w' => e = .returned (.bool true) ∧ Upd [] w w' := by
  by_cases hlen : 1048576 < bs.length ∨ 1048576 < ms.length
  · go_enter Try.func13, Try.ntmps13
    go_wp2
    all_goals
      go_ret
      exact ⟨rfl, Upd.refl _ _⟩
  · obtain ⟨g1, g2⟩ : bs.length ≤ 1048576 ∧ ms.length ≤ 1048576 := by omega
    go_enter Try.func13, Try.ntmps13
    go_wp2_with fail
    refine (drawMemorySee_any A c bs _ hx hc hcm hb).mono ?_
    rintro e w1 ⟨m, P, pc, xs, rfl, o1, l1, ma, mb, u1⟩
    have hcap := o1.cap.1
    obtain ⟨⟨⟨L, S⟩, n⟩, hsee⟩ : ∃ r, see m xs = r := ⟨_, rfl⟩
    have ua := (Upd.refl [] w1).alloc (.cells #[.int .i64 m.long, .int .i64 m.sum] 47)
    have M1 := RCell.new w1 (.int .i64 m.long) (.int .i64 m.sum) 47
    have p1 := o1.sl.grow ua
    have U1 := u1.trans ua
    have hc1 := specMemorySee_any m P pc xs _ p1 hcap (by unfold maxLen; omega)
    unfold RetSee at hc1
    rw [hsee] at hc1
    dsimp only [encMem] at hc1
    go_wp2_with fail
    refine hc1.mono ?_
    rintro e w2 ⟨rfl, u2⟩
    clear hc1
    have ub := (Upd.refl [] w2).alloc (.cells #[.int .i64 L, .int .i64 S] 47)
    have V2 := RCell.new w2 (.int .i64 L) (.int .i64 S) 47
    have M2 := (M1.grow u2).grow ub
    have p2 := (p1.grow u2).grow ub
    have U2 := (U1.trans u2).trans ub
    have hc2 := implMemorySee_any m P pc xs _ p2 hcap (by unfold maxLen; omega)
    unfold RetSee at hc2
    rw [hsee] at hc2
    dsimp only [encMem] at hc2
    have m0 := M2.c0
    have m1 := M2.c1
    go_wp2_with fail
    refine hc2.mono ?_
    rintro e w3 ⟨rfl, u3⟩
    clear hc2 m0 m1
    have uc := (Upd.refl [] w3).alloc (.cells #[.int .i64 L, .int .i64 S] 47)
    have X3 := RCell.new w3 (.int .i64 L) (.int .i64 S) 47
    have V3 := (V2.grow u3).grow uc
    have M3 := (M2.grow u3).grow uc
    have p3 := (p2.grow u3).grow uc
    have U3 := (U2.trans u3).trans uc
    have hsm : same (Mem.mk L S) (Mem.mk L S) = true := same_iff.2 rfl
    have hnn : (n != n) = false := by simp
    have hnn2 : (n == n) = true := by simp
    have x0 := X3.c0
    have x1 := X3.c1
    have v0 := V3.c0
    have v1 := V3.c1
    have HS := Lib.hid hsee
    clear hsee M1 M2 V2
    go_wp2_with fail
    refine (specLogOk_any _ _ _ _ p3 (by unfold maxLen; omega)).mono ?_
    rintro e w4 ⟨rfl, u4⟩
    have U4 := U3.trans u4
    have p4 := p3.grow u4
    have M4 := M3.grow u4
    have V4 := V3.grow u4
    have X4 := X3.grow u4
    clear M3 V3 X3 x0 x1 v0 v1
    have m0 := M4.c0
    have m1 := M4.c1
    have x0 := X4.c0
    have x1 := X4.c1
    have v0 := V4.c0
    have v1 := V4.c1
    cases hs : lgOk xs
    · go_wp2
      go_ret
      exact ⟨rfl, U4⟩
    · by_cases h0 : m.long < 0
      · have hb0 : decide (m.long < 0) = true := decide_eq_true h0
        go_wp2
        go_ret
        exact ⟨rfl, U4⟩
      · have hb0 : decide (m.long < 0) = false := decide_eq_false h0
        have hof := see_of (m := m) hs (by omega)
        rw [HS.out] at hof
        clear HS
        have hse : see m xs = (⟨L, S⟩, n) := (see_of hs (by omega)).trans hof.symm
        clear hof
        by_cases hn0 : n = 0
        · have hw := (see_well (m := m) (xs := xs) (by rw [hse]; exact hn0)).2.2.2.2
          rw [hse] at hw
          obtain ⟨rfl, rfl, rfl⟩ : L = xs.length ∧ S = lgSum xs ∧ n = 0 := by simp at hw; exact ⟨hw.1.1, hw.1.2, hw.2⟩
          clear hw hse hn0
          obtain ⟨k, hk, hkx⟩ : ∃ k : Nat, (ms.length : Int) % ((xs.length : Int) + 1) = k ∧ k ≤ xs.length := ⟨ms.length % (xs.length + 1), by push_cast; rfl, by have := Nat.mod_lt ms.length (show 0 < xs.length + 1 by omega); omega⟩
          have htl : (xs.take k).length = k := by rw [List.length_take]; omega
          obtain ⟨⟨⟨L2, S2⟩, n2⟩, hsee2⟩ : ∃ r, see ⟨xs.length, lgSum xs⟩ (xs.take k) = r := ⟨_, rfl⟩
          have hkept := see_kept hs (lgOk_take hs k)
          rw [hsee2, htl] at hkept
          have hc3 := fun V (hV : Upd [] w4 V) => implMemorySee_any ⟨xs.length, lgSum xs⟩ P pc (xs.take k) V ((p4.head_take k).grow hV) (by rw [htl]; omega) (by rw [htl]; unfold maxLen; omega)
          unfold RetSee at hc3
          rw [hsee2, htl] at hc3
          dsimp only [encMem] at hc3
          have i1 : k ≤ pc := by omega
          have i2 : (k : Int) ≤ pc := by omega
          have HQ := Lib.hid hkept
          clear hsee2 htl hkept
          go_wp2_with fail
          simp only [hk]
          have HK := Lib.hid hk
          clear hk
          have hx3 : w3.heap.size < w4.heap.size := World.block_lt_of_cell? w4 ⟨w3.heap.size, 0, none⟩ x0
          go_cut [13] (fun v wx => v = .int .i64 n2 ∧ Upd [] w4 wx)
          case first =>
            go_region_with (first
              | (go_at_call 44; refine (hc3 _ ?_).mono ?_; (first | exact (Upd.refl _ _).drew | exact (Upd.refl _ _).drew.alloc _ | exact ((Upd.refl _ _).alloc _).drew); rintro e w5 ⟨rfl, u5⟩; (try have R5 : RCell w5 w4.heap.size (.int .i64 0) (.int .i64 0) := (RCell.new w4.drew (.int .i64 0) (.int .i64 0) 47).grow u5); (try have f0 := R5.f0); (try have f1 := R5.f1); (try have r0 := R5.c0); (try have r1 := R5.c1); have v5 : Upd [] w4 w5 := (by first | exact (Upd.refl [] w4).drew.trans u5 | exact ((Upd.refl [] w4).drew.alloc _).trans u5)))
            all_goals
              go_wp2
              go_meet
              case rel => exact ⟨rfl, by first | exact v5.alloc _ | exact RCell.upd v5 (Nat.le_refl _) _ _⟩
          case rest =>
            obtain ⟨rfl, u5⟩ := hcut
            by_cases hlt : k < xs.length
            · have hn2 : n2 = 1 := by have hkept := HQ.out; rw [if_pos hlt] at hkept; exact hkept
              subst hn2
              go_wp2
              go_ret
              exact ⟨rfl, U4.trans u5⟩
            · have hke : k = xs.length := by omega
              have hn2 : n2 = 0 := by have hkept := HQ.out; rw [if_neg hlt, hke, List.take_length, if_pos (begins_refl xs)] at hkept; exact hkept
              subst hn2
              clear hke
              go_wp2
              go_ret
              exact ⟨rfl, U4.trans u5⟩
        · have hw := see_not_well (m := m) (xs := xs) (by rw [hse]; exact hn0)
          rw [hse] at hw
          obtain ⟨rfl, rfl⟩ : L = m.long ∧ S = m.sum := by cases m; simp at hw; exact hw
          have hb1 : (n != 0) = true := by simpa using hn0
          clear hw hse
          go_wp2
          go_ret
          exact ⟨rfl, U4⟩

set_option maxRecDepth 100000 in
theorem seeBack_lifted (os : Os) (started : os.Started) (H : Type) (enc : TypeId × Value → H) :
    ReturnsInHanded {} Try.checked os 13 .any (Rows.fnSeeBackSpec.pre6 enc Try.prog Try.f13 Rows.fnSeeBackRow.domain false) (Rows.fnSeeBackSpec.post enc Try.prog Try.f13 false true false false) := by
  refine returnsInHanded_of_change (C := Try.checked) own_knob started (by kernel_rfl) Try.func13
    (ChangeSpec.witness6 (enc := enc) (C := Try.checked) false ⟨#[], #[.slice none 0 0, .slice none 0 0], []⟩ 8 (by kernel_rfl) (by kernel_rfl) (by kernel_rfl) (by kernel_rfl)) ?_
  intro W base args ds gs before hval0 hW hcnd _
  have hval : ∀ (j : Nat) t v, Try.f13.params[j]? = some t → args[j]? = some v → Value.okWide Try.prog W .any base t v := hval0
  have hW' := hW
  obtain ⟨p, q, hA0, hV, rfl, hfz, hnd⟩ := hW
  have hA1 : DataW.TrodAll enc Try.prog W 0 (fun _ => true) true Try.f13.params.toList args.toList ds p := hA0
  have hA := hA1
  rw [Try.params13] at hA hval
  obtain ⟨v0, v1, d0, d1, p0, p1, rfl, rfl, rfl, h0, h1⟩ := trodAll_two hA
  obtain ⟨rfl, rfl⟩ := trodVars_none hV
  obtain ⟨A0, x0, c0, rfl, hc0, hm0, hs0, hb0⟩ := open_bytes (hval 0 22 v0 rfl rfl) h0
  obtain ⟨A1, x1, c1, rfl, hc1, hm1, hs1, hb1⟩ := open_bytes (hval 1 22 v1 rfl rfl) h1
  clear hA0 hval0
  simp only [List.append_nil] at hW'
  refine (seeBack_walk W A0 c0 x0 hs0 hc0 hm0 hb0 A1 c1 x1 hs1 hc1 hm1 hb1).mono fun e W' ⟨he, hu⟩ => ?_
  subst he
  exact ⟨_, rfl, law_post laid_out (by rw [Try.params13]; decide +kernel) rfl Try.underlying4 rfl hW' hA1 rfl hu⟩

theorem seeBack_closed : joinedFacts Try.prog 13 Try.f13 Rows.fnSeeBackSpec Rows.fnSeeBackRow = true := by
  simp only [joinedFacts, Bool.and_eq_true]
  and_intros
  all_goals (first | with_reducible exact mayEnter_is | (rw [liftsFinal_is]; rfl) | (rw [make_is]; rfl) | kernel_rfl)
theorem seeBack_holds : Rows.FnSeeBackSaid :=
  OpenClaim.holds_of_wide 13 Try.f13 rfl rfl rfl rfl rfl rfl rfl ⟨rfl, rfl, rfl, rfl, rfl⟩ rfl rfl rfl rfl rfl (by kernel_rfl) Try.func13 seeBack_closed
    (of_decide_eq_true (by kernel_rfl)) (by unfold Func.isWrapper; first | (rw [if_pos (by decide +kernel)]; kernel_rfl) | (rw [if_neg (by decide +kernel)]; exact ⟨rfl, rfl⟩))
    (fun os started H enc _ => seeBack_lifted os started H enc)
end Go.Proofs.Ytjkagmelpgpjgaa
