/- FnExactMemorySee: for all arguments the program's MemorySee returns what the reference's returns, and leaves its arguments as they were. -/
import Derived.Test.YtjkagmelpgpjgaaLo
import Derived.Test.YtjkagmelpgpjgaaOHead
import Derived.Test.YtjkagmelpgpjgaaKMem
namespace Go.Proofs.Ytjkagmelpgpjgaa
open Go.ChangeShapes Go.WideShapes Go.ChangeAt Go.RowKit
set_option linter.unusedVariables false
set_option linter.unusedSimpArgs false

set_option maxRecDepth 100000 in
set_option maxHeartbeats 1000000 in
theorem exactMemorySee_walk (w : World) (m : Mem) (A0 : Option Addr) (c0 : Nat) (x0 : List Head) (hx0 : Sl w A0 (x0.flatMap encHead)) (hc0 : x0.length ≤ c0) (hm0 : c0 ≤ maxLen) :
    Calls Try.prog 18 #[.agg #[.int .i64 m.long, .int .i64 m.sum], .slice A0 x0.length c0] w fun e w' => e = .returned (.bool true) ∧ Upd [] w w' := by
  have hl0 : x0.length ≤ maxLen := Nat.le_trans hc0 hm0
  go_enter Try.func18, Try.ntmps18
  have UU : Upd [] w (w.alloc (.cells #[.int .i64 m.long, .int .i64 m.sum] 54)) := (Upd.refl _ _).alloc _
  have B := RCell.new w (.int .i64 m.long) (.int .i64 m.sum) 54
  go_wp2_with fail
  refine (szHeadS_any _ _ _ _ _ (by omega) (by omega) hl0).mono ?_
  rintro e w1 ⟨r0, rfl, ra0, rb0, uw1⟩
  have hs1 : w.heap.size < w1.heap.size := by have := uw1.size; simp at this; omega
  replace UU := UU.trans uw1
  replace B := B.grow uw1
  by_cases hr0 : r0 < 0
  · go_wp2
    go_ret
    exact ⟨rfl, UU⟩
  · have hn0 : x0.length ≤ 1048576 := by have := rb0 (by omega); omega
    have bc0 := B.c0
    have bc1 := B.c1
    go_wp2_with fail
    refine (toMemory_any m _).mono ?_
    rintro e w2 ⟨rfl, uw2⟩
    replace UU := UU.trans uw2
    replace B := B.grow uw2
    go_wp2_with fail
    refine (toHeadS_any _ _ _ _ (hx0.grow UU) hn0).mono ?_
    rintro e w3 ⟨Bs, rfl, os, uw3⟩
    replace UU := UU.trans uw3
    replace B := B.grow uw3
    go_wp2_with fail
    have cs := specMemorySee_any m _ _ x0 w3 os.sl (Nat.le_refl _) hl0
    have ci := fun C (o : Option Addr) (V : World) (h : Sl V o (x0.flatMap encHead)) (hc : x0.length ≤ C) => implMemorySee_any m o C x0 V h hc hl0
    unfold RetSee at cs ci
    obtain ⟨⟨⟨L, S⟩, n⟩, hsee⟩ : ∃ r, see m x0 = r := ⟨_, rfl⟩
    rw [hsee] at cs ci
    dsimp only [encMem] at cs ci
    refine cs.mono ?_
    rintro e w4 ⟨rfl, uw4⟩
    replace UU := UU.trans uw4
    replace B := B.grow uw4
    have V4 := RCell.new w4 (.int .i64 L) (.int .i64 S) 47
    have ua := (Upd.refl [] w4).alloc (.cells #[.int .i64 L, .int .i64 S] 47)
    replace UU := UU.trans ua
    replace B := B.grow ua
    go_wp2_with fail
    refine (toHeadS_any _ _ _ _ (hx0.grow UU) hn0).mono ?_
    rintro e w5 ⟨Bx, rfl, ox, uw5⟩
    replace UU := UU.trans uw5
    replace B := B.grow uw5
    replace V4 := V4.grow uw5
    have bc0 := B.c0
    have bc1 := B.c1
    go_wp2_with fail
    refine (toMemory_any m _).mono ?_
    rintro e w6 ⟨rfl, uw6⟩
    replace UU := UU.trans uw6
    replace B := B.grow uw6
    replace V4 := V4.grow uw6
    replace ox := ox.grow uw6
    go_wp2_with fail
    refine (ci _ _ _ ox.sl (Nat.le_refl _)).mono ?_
    rintro e w7 ⟨rfl, uw7⟩
    replace UU := UU.trans uw7
    replace V4 := V4.grow uw7
    replace ox := ox.grow uw7
    have ub := (Upd.refl [] w7).alloc (.cells #[.int .i64 L, .int .i64 S] 47)
    have vc0 := (V4.grow ub).c0
    have vc1 := (V4.grow ub).c1
    go_wp2_with fail
    refine (eqMemory_any ⟨L, S⟩ ⟨L, S⟩ _).mono ?_
    rintro e w8 ⟨rfl, uw8⟩
    rw [same_iff.2 rfl]
    replace UU := (UU.trans ub).trans uw8
    replace ox := (ox.grow ub).grow uw8
    go_wp2_with fail
    refine (toHeadS_any _ _ _ _ (hx0.grow UU) hn0).mono ?_
    rintro e w9 ⟨By, rfl, oy, uw9⟩
    replace UU := UU.trans uw9
    replace ox := ox.grow uw9
    go_wp2_with fail
    refine (eqHeadS_any _ _ _ _ _ _ _ ox.sl oy.sl hl0).mono ?_
    rintro e w10 ⟨rfl, uw10⟩
    replace UU := UU.trans uw10
    rw [same_iff.2 rfl]
    go_wp2
    go_ret
    exact ⟨rfl, UU⟩

set_option maxRecDepth 100000 in
theorem exactMemorySee_lifted (os : Os) (started : os.Started) (H : Type) (enc : TypeId × Value → H) :
    ReturnsInHanded {} Try.checked os 18 .any (Rows.fnExactMemorySeeSpec.pre6 enc Try.prog Try.f18 Rows.fnExactMemorySeeRow.domain false) (Rows.fnExactMemorySeeSpec.post enc Try.prog Try.f18 false true false false) := by
  refine returnsInHanded_of_change (C := Try.checked) own_knob started (by kernel_rfl) Try.func18
    (ChangeSpec.witness6 (enc := enc) (C := Try.checked) false ⟨#[], #[.agg #[.int .i64 0, .int .i64 0], .slice none 0 0], []⟩ 8 (by kernel_rfl) (by kernel_rfl) (by kernel_rfl) (by kernel_rfl)) ?_
  intro W base args ds gs before hval0 hW hcnd _
  have hval : ∀ (j : Nat) t v, Try.f18.params[j]? = some t → args[j]? = some v → Value.okWide Try.prog W .any base t v := hval0
  have hW' := hW
  obtain ⟨p, q, hA0, hV, rfl, hfz, hnd⟩ := hW
  have hA1 : DataW.TrodAll enc Try.prog W 0 (fun _ => true) true Try.f18.params.toList args.toList ds p := hA0
  have hA := hA1
  rw [Try.params18] at hA hval
  obtain ⟨v0, v1, d0, d1, p0, p1, rfl, rfl, rfl, h0, h1⟩ := trodAll_two hA
  obtain ⟨rfl, rfl⟩ := trodVars_none hV
  obtain ⟨x0, rfl⟩ := openMemory (hval 0 54 v0 rfl rfl) h0
  obtain ⟨A1, x1, c1, rfl, hc1, hm1, hs1⟩ := openHeadS (hval 1 29 v1 rfl rfl) h1
  clear hA0 hval0
  simp only [List.append_nil] at hW'
  refine (exactMemorySee_walk W x0 A1 c1 x1 hs1 hc1 hm1).mono fun e W' ⟨he, hu⟩ => ?_
  subst he
  exact ⟨_, rfl, law_post laid_out (by rw [Try.params18]; decide +kernel) rfl Try.underlying4 rfl hW' hA1 rfl hu⟩

theorem exactMemorySee_closed : joinedFacts Try.prog 18 Try.f18 Rows.fnExactMemorySeeSpec Rows.fnExactMemorySeeRow = true := by
  simp only [joinedFacts, Bool.and_eq_true]
  and_intros
  all_goals (first | with_reducible exact mayEnter_is | (rw [liftsFinal_is]; rfl) | (rw [make_is]; rfl) | kernel_rfl)
theorem exactMemorySee_holds : Rows.FnExactMemorySeeSaid :=
  OpenClaim.holds_of_wide 18 Try.f18 rfl rfl rfl rfl rfl rfl rfl ⟨rfl, rfl, rfl, rfl, rfl⟩ rfl rfl rfl rfl rfl (by kernel_rfl) Try.func18 exactMemorySee_closed
    (of_decide_eq_true (by kernel_rfl)) (by unfold Func.isWrapper; first | (rw [if_pos (by decide +kernel)]; kernel_rfl) | (rw [if_neg (by decide +kernel)]; exact ⟨rfl, rfl⟩))
    (fun os started H enc _ => exactMemorySee_lifted os started H enc)
end Go.Proofs.Ytjkagmelpgpjgaa
