/- FnSeeFork: whoever has seen a drawn log sees the fork at another one of the same length. -/
import Derived.Test.YtjkagmelpgpjgaaLgQ
import Derived.Test.YtjkagmelpgpjgaaDrLg2
import Derived.Test.YtjkagmelpgpjgaaLo
import Derived.Test.YtjkagmelpgpjgaaKMem
namespace Go.Proofs.Ytjkagmelpgpjgaa
open Go.ChangeShapes Go.WideShapes Go.ChangeAt Go.RowKit
set_option linter.unusedVariables false
set_option linter.unusedSimpArgs false
attribute [-go_sem] run_neq_struct run_eql_struct run_eqGuard_agg run_equalIn_agg
attribute [local go_sem] neqHead guardHead neqMem eqMem guardMem eqHeadOp max_eq min_eq

theorem set_by : ∀ (xs : List Head) (k : Nat) (b : Int), k < xs.length → (xs.flatMap encHead).set (k * 2) (.int .i64 b) = (xs.set k ⟨b, (atHead xs k).snap⟩).flatMap encHead
  | x :: xs, 0, b, _ => by simp [encHead, atHead]
  | x :: xs, k + 1, b, h => by
    have ih := set_by xs k b (by simpa using h)
    have ha : atHead (x :: xs) (k + 1) = atHead xs k := by simp [atHead]
    rw [ha, List.set_cons_succ, List.flatMap_cons, List.flatMap_cons, ← ih, show (k + 1) * 2 = k * 2 + 1 + 1 from by omega]
    rfl
set_option maxRecDepth 100000 in
set_option maxHeartbeats 2000000 in
theorem seeFork_walk (w : World) (A : Option Addr) (c : Nat) (bs : List Int) (hx : Sl w A (bs.map (.int .u8))) (hc : bs.length ≤ c) (hcm : c ≤ maxLen) (hb : ∀ b ∈ bs, 0 ≤ b ∧ b < 256)
    (B : Option Addr) (d : Nat) (ms : List Int) (hx2 : Sl w B (ms.map (.int .u8))) (hc2 : ms.length ≤ d) (hcm2 : d ≤ maxLen) (hb2 : ∀ b ∈ ms, 0 ≤ b ∧ b < 256) :
    Calls Try.prog 20 #[.slice A bs.length c, .slice B ms.length d] w fun e w' => e = .returned (.bool true) ∧ Upd [] w w' := by
  by_cases hlen : 1048576 < bs.length ∨ 1048576 < ms.length
  · go_enter Try.func20, Try.ntmps20
    go_wp2
    all_goals
      go_ret
      exact ⟨rfl, Upd.refl _ _⟩
  · obtain ⟨g1, g2⟩ : bs.length ≤ 1048576 ∧ ms.length ≤ 1048576 := by omega
    go_enter Try.func20, Try.ntmps20
    go_wp2_with fail
    refine (drawMemorySee_any A c bs _ hx hc hcm hb).mono ?_
    rintro e w1 ⟨m, P, pc, xs, rfl, o1, l1, ma, mb, u1⟩
    have hcap := o1.cap.1
    obtain ⟨⟨⟨L, S⟩, n⟩, hsee⟩ : ∃ r, see m xs = r := ⟨_, rfl⟩
    have ua := (Upd.refl [] w1).alloc (.cells #[.int .i64 m.long, .int .i64 m.sum] 47)
    have M1 := RCell.new w1 (.int .i64 m.long) (.int .i64 m.sum) 47
    have p1 := o1.sl.grow ua
    have U1 := u1.trans ua
    have hc1 := specMemorySee_any m P pc xs _ p1 hcap (by unfold maxLen; omega)
    unfold RetSee at hc1
    rw [hsee] at hc1
    dsimp only [encMem] at hc1
    go_wp2_with fail
    refine hc1.mono ?_
    rintro e w2 ⟨rfl, u2⟩
    clear hc1
    have ub := (Upd.refl [] w2).alloc (.cells #[.int .i64 L, .int .i64 S] 47)
    have V2 := RCell.new w2 (.int .i64 L) (.int .i64 S) 47
    have M2 := (M1.grow u2).grow ub
    have p2 := (p1.grow u2).grow ub
    have U2 := (U1.trans u2).trans ub
    have hc2 := implMemorySee_any m P pc xs _ p2 hcap (by unfold maxLen; omega)
    unfold RetSee at hc2
    rw [hsee] at hc2
    dsimp only [encMem] at hc2
    have m0 := M2.c0
    have m1 := M2.c1
    go_wp2_with fail
    refine hc2.mono ?_
    rintro e w3 ⟨rfl, u3⟩
    clear hc2 m0 m1
    have uc := (Upd.refl [] w3).alloc (.cells #[.int .i64 L, .int .i64 S] 47)
    have X3 := RCell.new w3 (.int .i64 L) (.int .i64 S) 47
    have V3 := (V2.grow u3).grow uc
    have M3 := (M2.grow u3).grow uc
    have p3 := (p2.grow u3).grow uc
    have U3 := (U2.trans u3).trans uc
    have hsm : same (Mem.mk L S) (Mem.mk L S) = true := same_iff.2 rfl
    have hnn : (n != n) = false := by simp
    have hnn2 : (n == n) = true := by simp
    have x0 := X3.c0
    have x1 := X3.c1
    have v0 := V3.c0
    have v1 := V3.c1
    have HS := Lib.hid hsee
    clear hsee M1 M2 V2
    go_wp2_with fail
    refine (specLogOk_any _ _ _ _ p3 (by unfold maxLen; omega)).mono ?_
    rintro e w4 ⟨rfl, u4⟩
    have U4 := U3.trans u4
    have p4 := p3.grow u4
    have M4 := M3.grow u4
    have V4 := V3.grow u4
    have X4 := X3.grow u4
    clear M3 V3 X3 x0 x1 v0 v1
    have m0 := M4.c0
    have m1 := M4.c1
    have x0 := X4.c0
    have x1 := X4.c1
    have v0 := V4.c0
    have v1 := V4.c1
    cases hs : lgOk xs
    · go_wp2
      go_ret
      exact ⟨rfl, U4⟩
    · by_cases h0 : m.long < 0
      · have hb0 : decide (m.long < 0) = true := decide_eq_true h0
        go_wp2
        go_ret
        exact ⟨rfl, U4⟩
      · have hb0 : decide (m.long < 0) = false := decide_eq_false h0
        have hof := see_of (m := m) hs (by omega)
        rw [HS.out] at hof
        clear HS
        have hse : see m xs = (⟨L, S⟩, n) := (see_of hs (by omega)).trans hof.symm
        clear hof
        by_cases hn0 : n = 0
        · have hw := (see_well (m := m) (xs := xs) (by rw [hse]; exact hn0)).2.2.2.2
          rw [hse] at hw
          obtain ⟨rfl, rfl, rfl⟩ : L = xs.length ∧ S = lgSum xs ∧ n = 0 := by simp at hw; exact ⟨hw.1.1, hw.1.2, hw.2⟩
          clear hw hse hn0
          by_cases hz : xs.length = 0
          · have hzb : ((xs.length : Int) == 0) = true := by simp [hz]
            have HZ := Lib.hid hz
            clear hz
            go_wp2
            go_ret
            exact ⟨rfl, U4⟩
          · have hzb : ((xs.length : Int) == 0) = false := beq_eq_false_iff_ne.2 (by omega)
            obtain ⟨k, hk, hkx⟩ : ∃ k : Nat, (ms.length : Int) % (xs.length : Int) = k ∧ k < xs.length := ⟨ms.length % xs.length, by push_cast; rfl, Nat.mod_lt _ (by omega)⟩
            have hkr : 0 ≤ (atHead xs k).by_ ∧ (atHead xs k).by_ ≤ 2 := by have := hdOk_true.1 (lgOk_good hs k hkx); omega
            go_wp2_with (at_builtin; refine append_any rfl _ _ _ rfl headT rfl (Own.lit _ [] 0 (Nat.le_refl _) (by simp [maxLen]) rfl) rfl (lenHead _) (p4.grow ((Upd.refl _ _).alloc _)) (oneHead _) (by unfold maxLen; omega) (by omega) (U4.alloc _) U4.size (by simp) ?_; intro A5 c5 w5 o5 P5 q5 hA5; rw [Nat.zero_add, List.nil_append] at o5; obtain ⟨g5, rfl⟩ : ∃ g, A5 = some ⟨g, 0, none⟩ := o5.form.resolve_left (by rintro ⟨_, h, _⟩; omega); obtain ⟨_, _, he5, k0, k1⟩ := o5.sl.head hkx; cases he5; rw [Nat.zero_add] at k0 k1; have fz := o5.frozen (k * 2); have v5 : Upd [] w4 w5 := ((Upd.refl [] w4).alloc _).then q5 (by simp); have X5 := X4.grow v5; have hst := o5.store (k * 2) (.int .i64 (3 - (atHead xs k).by_)); have hxb : w3.heap.size < w4.heap.size := World.block_lt_of_cell? w4 ⟨w3.heap.size, 0, none⟩ x0; have hgb := (o5.lt _ rfl).1; have X6 := X5.far hst.2 (by simp at hgb ⊢; omega); have z0 := X6.c0; have z1 := X6.c1)
            have o6 := hst.1
            have hsz4 := U4.size
            have U6 := P5.then hst.2 (fun x hx hlt => by simp at hx hgb; omega)
            rw [set_by xs k _ hkx] at o6
            have hlen : (xs.set k ⟨3 - (atHead xs k).by_, (atHead xs k).snap⟩).length = xs.length := List.length_set
            have hgk := hdOk_true.1 (lgOk_good hs k hkx)
            have hos : lgOk (xs.set k ⟨3 - (atHead xs k).by_, (atHead xs k).snap⟩) = true := lgOk_iff.2 ⟨by rw [hlen]; exact lgOk_len hs, fun h hh => by
              rcases List.mem_or_eq_of_mem_set hh with hh | rfl
              · exact (lgOk_iff.1 hs).2 h hh
              · exact hdOk_true.2 ⟨by show (3 - (atHead xs k).by_ = 1 ∨ 3 - (atHead xs k).by_ = 2); omega, hgk.2⟩⟩
            have hne : xs ≠ xs.set k ⟨3 - (atHead xs k).by_, (atHead xs k).snap⟩ := fun he => by
              have h1 : xs[k]? = (xs.set k ⟨3 - (atHead xs k).by_, (atHead xs k).snap⟩)[k]? := by rw [← he]
              rw [List.getElem?_set_self hkx, List.getElem?_eq_getElem hkx, ← atHead_get hkx] at h1
              have h2 := congrArg Head.by_ (Option.some.inj h1)
              simp only [] at h2
              omega
            generalize xs.set k ⟨3 - (atHead xs k).by_, (atHead xs k).snap⟩ = os at *
            generalize hW : w5.setCell ⟨g5, k * 2, none⟩ (.int .i64 (3 - (atHead xs k).by_)) = w6 at *
            clear hW hst
            have hb1 : begins xs os = false := by
              cases hb : begins xs os
              · rfl
              · exact absurd ((begins_iff.1 hb).eq_of_length hlen.symm) hne
            have hk1 : (see ⟨xs.length, lgSum xs⟩ os).2 = 2 := by rw [see_kept hs hos, if_neg (by omega), hb1]; rfl
            obtain ⟨⟨⟨L1, S1⟩, n1⟩, hsee1⟩ : ∃ r, see ⟨xs.length, lgSum xs⟩ os = r := ⟨_, rfl⟩
            rw [hsee1] at hk1
            obtain rfl : n1 = 2 := hk1
            have hc5 := implMemorySee_any ⟨xs.length, lgSum xs⟩ (some ⟨g5, 0, none⟩) c5 os w6 o6.sl (by rw [hlen]; exact o5.cap.1) (by rw [hlen]; unfold maxLen; omega)
            unfold RetSee at hc5
            rw [hsee1, hlen] at hc5
            dsimp only [encMem] at hc5
            refine hc5.mono ?_
            rintro e w7 ⟨rfl, u7⟩
            have ug := (Upd.refl [] w7).alloc (.cells #[.int .i64 L1, .int .i64 S1] 47)
            have X7 := (X6.grow u7).grow ug
            have hca := implLogAdd_any (some ⟨g5, 0, none⟩) c5 os ⟨1, 1⟩ _ ((o6.sl.grow u7).grow ug) (by rw [hlen]; unfold maxLen; omega)
            rw [hlen] at hca
            go_wp2_with fail
            refine hca.mono ?_
            rintro e w8 ⟨C, cc, rfl, o8, u8⟩
            have X8 := X7.grow u8
            have U8 := ((U6.trans u7).trans ug).trans u8
            have y0 := X8.c0
            have y1 := X8.c1
            have l8 := lgAdd_len os ⟨1, 1⟩
            obtain ⟨⟨⟨L2, S2⟩, n2⟩, hsee2⟩ : ∃ r, see ⟨xs.length, lgSum xs⟩ (lgAdd os ⟨1, 1⟩) = r := ⟨_, rfl⟩
            have hput : lgAddOk os ⟨1, 1⟩ = true → n2 = 2 := fun hp => by
              obtain ⟨-, -, -, ha, hok⟩ := lgAdd_yes hp
              have hb2 : begins xs (os ++ [⟨1, 1⟩]) = false := by
                cases hb : begins xs (os ++ [⟨1, 1⟩])
                · rfl
                · have := List.prefix_of_prefix_length_le (begins_iff.1 hb) (List.prefix_append os [⟨1, 1⟩]) (by omega)
                  exact absurd (this.eq_of_length hlen.symm) hne
              have := see_kept hs hok
              rw [← ha, hsee2, ha, if_neg (by simp; omega), hb2] at this
              exact this
            have HPUT := Lib.hid hput
            clear hput
            have hc8 := implMemorySee_any ⟨xs.length, lgSum xs⟩ C cc (lgAdd os ⟨1, 1⟩) w8 o8.sl o8.cap.1 (by unfold maxLen; omega)
            unfold RetSee at hc8
            rw [hsee2] at hc8
            dsimp only [encMem] at hc8
            clear hsee1 hsee2 hc5 hca
            generalize lgAdd os ⟨1, 1⟩ = zs at *
            go_wp2_with fail
            refine hc8.mono ?_
            rintro e w9 ⟨rfl, u9⟩
            have uh := (Upd.refl [] w9).alloc (.cells #[.int .i64 L2, .int .i64 S2] 47)
            clear hc8
            cases hp : lgAddOk os ⟨1, 1⟩
            · go_wp2
              go_ret
              exact ⟨rfl, (U8.trans u9).trans uh⟩
            · obtain rfl : n2 = 2 := HPUT.out hp
              go_wp2
              go_ret
              exact ⟨rfl, (U8.trans u9).trans uh⟩
        · have hb1 : (n != 0) = true := by simpa using hn0
          clear hse
          go_wp2
          go_ret
          exact ⟨rfl, U4⟩

set_option maxRecDepth 100000 in
theorem seeFork_lifted (os : Os) (started : os.Started) (H : Type) (enc : TypeId × Value → H) :
    ReturnsInHanded {} Try.checked os 20 .any (Rows.fnSeeForkSpec.pre6 enc Try.prog Try.f20 Rows.fnSeeForkRow.domain false) (Rows.fnSeeForkSpec.post enc Try.prog Try.f20 false true false false) := by
  refine returnsInHanded_of_change (C := Try.checked) own_knob started (by kernel_rfl) Try.func20
    (ChangeSpec.witness6 (enc := enc) (C := Try.checked) false ⟨#[], #[.slice none 0 0, .slice none 0 0], []⟩ 8 (by kernel_rfl) (by kernel_rfl) (by kernel_rfl) (by kernel_rfl)) ?_
  intro W base args ds gs before hval0 hW hcnd _
  have hval : ∀ (j : Nat) t v, Try.f20.params[j]? = some t → args[j]? = some v → Value.okWide Try.prog W .any base t v := hval0
  have hW' := hW
  obtain ⟨p, q, hA0, hV, rfl, hfz, hnd⟩ := hW
  have hA1 : DataW.TrodAll enc Try.prog W 0 (fun _ => true) true Try.f20.params.toList args.toList ds p := hA0
  have hA := hA1
  rw [Try.params20] at hA hval
  obtain ⟨v0, v1, d0, d1, p0, p1, rfl, rfl, rfl, h0, h1⟩ := trodAll_two hA
  obtain ⟨rfl, rfl⟩ := trodVars_none hV
  obtain ⟨A0, x0, c0, rfl, hc0, hm0, hs0, hb0⟩ := open_bytes (hval 0 22 v0 rfl rfl) h0
  obtain ⟨A1, x1, c1, rfl, hc1, hm1, hs1, hb1⟩ := open_bytes (hval 1 22 v1 rfl rfl) h1
  clear hA0 hval0
  simp only [List.append_nil] at hW'
  refine (seeFork_walk W A0 c0 x0 hs0 hc0 hm0 hb0 A1 c1 x1 hs1 hc1 hm1 hb1).mono fun e W' ⟨he, hu⟩ => ?_
  subst he
  exact ⟨_, rfl, law_post laid_out (by rw [Try.params20]; decide +kernel) rfl Try.underlying4 rfl hW' hA1 rfl hu⟩

theorem seeFork_closed : joinedFacts Try.prog 20 Try.f20 Rows.fnSeeForkSpec Rows.fnSeeForkRow = true := by
  simp only [joinedFacts, Bool.and_eq_true]
  and_intros
  all_goals (first | with_reducible exact mayEnter_is | (rw [liftsFinal_is]; rfl) | (rw [make_is]; rfl) | kernel_rfl)
theorem seeFork_holds : Rows.FnSeeForkSaid :=
  OpenClaim.holds_of_wide 20 Try.f20 rfl rfl rfl rfl rfl rfl rfl ⟨rfl, rfl, rfl, rfl, rfl⟩ rfl rfl rfl rfl rfl (by kernel_rfl) Try.func20 seeFork_closed
    (of_decide_eq_true (by kernel_rfl)) (by unfold Func.isWrapper; first | (rw [if_pos (by decide +kernel)]; kernel_rfl) | (rw [if_neg (by decide +kernel)]; exact ⟨rfl, rfl⟩))
    (fun os started H enc _ => seeFork_lifted os started H enc)
end Go.Proofs.Ytjkagmelpgpjgaa
