/- Logs: digests, forks and beginnings of the program's; what a memory sees. -/
import Derived.Test.YtjkagmelpgpjgaaLk
namespace Go.Proofs.Ytjkagmelpgpjgaa
open Go.RowKit
set_option linter.unusedVariables false
set_option linter.unusedSimpArgs false
attribute [-go_sem] run_neq_struct run_eql_struct run_eqGuard_agg run_equalIn_agg
attribute [local go_sem] neqHead guardHead

theorem drop_head {xs : List Head} {k : Nat} (hk : k < xs.length) : xs.drop k = atHead xs k :: xs.drop (k + 1) := by rw [List.drop_eq_getElem_cons hk, atHead_get hk]
theorem link_at {n₀ : Nat} {w : World} {xs : List Head} {k : Nat} {q : Option Addr} (h : IsLink n₀ w q (xs.drop k)) (hk : k < xs.length) :
    ∃ b q', q = some ⟨b, 0, none⟩ ∧ w.cell? ⟨b, 0, none⟩ = some (.int .i64 (atHead xs k).by_) ∧ w.cell? ⟨b, 1, none⟩ = some (.int .i64 (atHead xs k).snap) ∧ w.cell? ⟨b, 2, none⟩ = some (.pointer q') ∧ IsLink n₀ w q' (xs.drop (k + 1)) := by
  rw [drop_head hk] at h
  obtain ⟨b, q', h1, _, h2, h3, h4, h5⟩ := h
  exact ⟨b, q', h1, h2, h3, h4, h5⟩
theorem link_end {n₀ : Nat} {w : World} {xs : List Head} {q : Option Addr} (h : IsLink n₀ w q (xs.drop xs.length)) : q = none := by
  rw [List.drop_length] at h
  exact h

set_option maxHeartbeats 1000000 in
theorem linkSum_any (n₀ : Nat) (p : Option Addr) (xs : List Head) (m : Nat) (w : World) (hp : IsLink n₀ w p xs) (hs : ∀ k, k ≤ xs.length → 0 ≤ sumTo xs k ∧ sumTo xs k < 18014398509481984) (hok : ∀ i, i < xs.length → hdOk (atHead xs i) = true) (hm : m ≤ xs.length) (hl : xs.length ≤ 9) :
    Calls Try.prog 58 #[.pointer p, .int .i64 m] w fun e w' => e = .returned (.int .i64 (sumTo xs m)) ∧ Upd [] w w' := by
  have HS := Lib.hid hs
  have HO := Lib.hid hok
  clear hs hok
  go_enter Try.func58, Try.ntmps58
  go_wp2
  go_loopw [0, 1, 5] (fun x n o wr => ∃ (k : Nat) (q : Option Addr), k ≤ m ∧ x = .pointer q ∧ n = .int .i64 ((m : Int) - k) ∧ o = .int .i64 (sumTo xs k) ∧ IsLink n₀ wr q (xs.drop k) ∧ Upd [] w wr) (fun _ n _ _ => (intOf n).toNat)
  case atStart => exact ⟨0, p, by omega, rfl, by go_num, rfl, hp, Upd.refl _ _⟩
  case round =>
    obtain ⟨k, q, hk, rfl, rfl, rfl, hq, hu⟩ := hrel
    by_cases hlt : k < m
    · obtain ⟨b, q', rfl, c1, c2, c3, hq'⟩ := link_at hq (by omega)
      have d1 := fun g : Later wr => g.cell c1
      have d2 := fun g : Later wr => g.cell c2
      obtain ⟨n, hn⟩ : ∃ n, sumTo xs k = n := ⟨_, rfl⟩
      have hnext : sumTo xs (k + 1) = 64 * n + 21 * (atHead xs k).by_ + (atHead xs k).snap := by simp only [sumTo]; rw [hn]
      have s1 := HS.out k (by omega)
      have s2 := HS.out (k + 1) (by omega)
      rw [hn] at s1 ⊢
      rw [hnext] at s2
      have hr := hdOk_true.1 (HO.out k (by omega))
      have t1 : IntKind.i64.wrap (n * 64) = n * 64 := IntWalk.i64_in _ (by omega)
      have t2 : IntKind.i64.wrap (21 * (atHead xs k).by_) = 21 * (atHead xs k).by_ := IntWalk.i64_in _ (by omega)
      have t3 : IntKind.i64.wrap (n * 64 + 21 * (atHead xs k).by_) = n * 64 + 21 * (atHead xs k).by_ := IntWalk.i64_in _ (by omega)
      have t4 : IntKind.i64.wrap (n * 64 + 21 * (atHead xs k).by_ + (atHead xs k).snap) = n * 64 + 21 * (atHead xs k).by_ + (atHead xs k).snap := IntWalk.i64_in _ (by omega)
      have HN := Lib.hid hn
      have HX := Lib.hid hnext
      clear hn hnext s1 s2 hr
      go_wp2
      refine wp_region_calm (by kernel_rfl) (by kernel_rfl) ?_
      repeat (any_goals (first | go_big_quiet_step (fail) | quiet_step (fail)))
      refine wpQuiet_nil ?_
      rintro _ ⟨g, rfl⟩
      have hg := g.upd
      have c3' := hg.cell c3 (by simp)
      go_wp2
      refine ⟨⟨k + 1, q', by omega, rfl, by go_num, by rw [HX.out]; congr 1; omega, hq'.grow hg, hu.trans hg⟩, by simp only [intOf]; omega⟩
    · obtain rfl : k = m := by omega
      clear hk hlt
      cases q with
      | none =>
        go_wp2
        go_ret
        exact ⟨rfl, hu⟩
      | some a =>
        go_wp2
        go_ret
        exact ⟨rfl, hu⟩
set_option maxHeartbeats 1000000 in
theorem implLogSum_any (A : Option Addr) (c : Nat) (xs : List Head) (w : World) (hx : Sl w A (xs.flatMap encHead)) (hlx : xs.length ≤ maxLen) :
    Calls Try.prog 30 #[.slice A xs.length c] w fun e w' => e = .returned (.int .i64 (logSum xs)) ∧ Upd [] w w' := by
  go_enter Try.func30, Try.ntmps30
  go_wp2_with fail
  refine (implLogOk_any _ _ _ _ hx hlx).mono ?_
  rintro e w1 ⟨rfl, u1⟩
  cases hs : lgOk xs
  · go_wp2
    go_ret
    exact ⟨by unfold logSum; rw [if_neg (by rw [hs]; simp)]; rfl, u1⟩
  · have l1 := lgOk_len hs
    go_wp2_with fail
    refine (linked_any _ _ _ _ (hx.grow u1) hlx).mono ?_
    rintro e w2 ⟨p, rfl, hp, u2⟩
    go_wp2_with fail
    refine (linkSum_any _ _ xs xs.length _ hp (fun k hk => sumTo_le hs hk) (lgOk_good hs) (Nat.le_refl _) l1).mono ?_
    rintro e w3 ⟨rfl, u3⟩
    go_wp2
    go_ret
    exact ⟨by unfold logSum; rw [if_pos hs]; rfl, (u1.trans u2).trans u3⟩
set_option maxHeartbeats 1000000 in
theorem implLogFork_any (A B : Option Addr) (c d : Nat) (xs ys : List Head) (w : World) (hx : Sl w A (xs.flatMap encHead)) (hy : Sl w B (ys.flatMap encHead)) (hlx : xs.length ≤ maxLen) (hly : ys.length ≤ maxLen) :
    Calls Try.prog 28 #[.slice A xs.length c, .slice B ys.length d] w fun e w' => e = .returned (.int .i64 (lgFork xs ys)) ∧ Upd [] w w' := by
  go_enter Try.func28, Try.ntmps28
  go_wp2_with fail
  refine (implLogOk_any _ _ _ _ hx hlx).mono ?_
  rintro e w1 ⟨rfl, u1⟩
  cases h1 : lgOk xs
  · go_wp2
    go_ret
    exact ⟨by unfold lgFork; rw [if_neg (by rw [h1]; simp)]; rfl, u1⟩
  · go_wp2_with fail
    refine (implLogOk_any _ _ _ _ (hy.grow u1) hly).mono ?_
    rintro e w2 ⟨rfl, u2⟩
    have U2 := u1.trans u2
    cases h2 : lgOk ys
    · go_wp2
      go_ret
      exact ⟨by unfold lgFork; rw [if_neg (by rw [h2]; simp)]; rfl, U2⟩
    · have hf : lgFork xs ys = fk xs ys := by unfold lgFork; rw [if_pos ⟨h1, h2⟩]
      have l1 := lgOk_len h1
      have l2 := lgOk_len h2
      have HF := Lib.hid hf
      clear hf
      go_wp2_with fail
      refine (linked_any _ _ _ _ (hx.grow U2) hlx).mono ?_
      rintro e w3 ⟨p, rfl, hp, u3⟩
      go_wp2_with fail
      refine (linked_any _ _ _ _ (hy.grow (U2.trans u3)) hly).mono ?_
      rintro e w4 ⟨q, rfl, hq, u4⟩
      have U4 := (U2.trans u3).trans u4
      replace hp := hp.grow u4
      generalize w2.heap.size = n1 at hp
      generalize w3.heap.size = n2 at hq
      go_wp2_with fail
      go_loopw [5, 6, 7] (fun x y i wr => ∃ (k : Nat) (p q : Option Addr), k ≤ xs.length ∧ k ≤ ys.length ∧ x = .pointer p ∧ y = .pointer q ∧ i = .int .i64 k ∧ IsLink n1 wr p (xs.drop k) ∧ IsLink n2 wr q (ys.drop k) ∧ xs.take k = ys.take k ∧ Upd [] w wr) (fun _ _ i _ => xs.length - (intOf i).toNat)
      case atStart => exact ⟨0, p, q, by omega, by omega, rfl, rfl, rfl, hp, hq, rfl, U4⟩
      case round =>
        obtain ⟨k, p, q, hk, hk2, rfl, rfl, rfl, hp, hq, ht, hu⟩ := hrel
        have HT := Lib.hid ht
        clear ht
        by_cases hlt : k < xs.length
        · obtain ⟨b1, p', rfl, c1, c2, c3, hp'⟩ := link_at hp hlt
          by_cases hlt2 : k < ys.length
          · obtain ⟨b2, q', rfl, e1, e2, e3, hq'⟩ := link_at hq hlt2
            have dc1 := fun g : Later wr => g.cell c1
            have dc2 := fun g : Later wr => g.cell c2
            have de1 := fun g : Later wr => g.cell e1
            have de2 := fun g : Later wr => g.cell e2
            go_wp2
            refine wp_region_calm (by kernel_rfl) (by kernel_rfl) ?_
            repeat (any_goals (first | go_big_quiet_step (fail) | quiet_step (fail)))
            refine wpQuiet_nil ?_
            rintro _ ⟨g, rfl⟩
            have hg := g.upd
            have c3' := hg.cell c3 (by simp)
            have e3' := hg.cell e3 (by simp)
            go_wp2
            · go_ret
              exact ⟨ret_int (by rw [HF.out]; exact (fk_at HT.out hlt hlt2 (ne_at hlt hlt2 (nsame_true (by assumption)))).symm), hu.trans hg⟩
            · go_roundw
              case rel => exact ⟨k + 1, p', q', by omega, by omega, rfl, rfl, by go_num, hp'.grow hg, hq'.grow hg, take_same HT.out hlt hlt2 (eq_at hlt hlt2 (nsame_false (by assumption))), hu.trans hg⟩
              case measure => simp [intOf]; omega
          · obtain rfl : k = ys.length := by omega
            obtain rfl : q = none := link_end hq
            go_wp2
            go_ret
            exact ⟨ret_int (by rw [HF.out]; exact (fk_none HT.out (by omega)).symm), hu⟩
        · obtain rfl : k = xs.length := by omega
          obtain rfl : p = none := link_end hp
          go_wp2
          go_ret
          exact ⟨ret_int (by rw [HF.out]; exact (fk_none HT.out (by omega)).symm), hu⟩
end Go.Proofs.Ytjkagmelpgpjgaa
