/- Histories of snapshots: what StampsOk of the program and of the reference come to. -/
import Derived.Test.YtneleojjadbdcaaKStamp
namespace Go.Proofs.Ytneleojjadbdcaa
open Go.RowKit
set_option linter.unusedVariables false
set_option linter.unusedSimpArgs false
/-! ### StampsOk -/
def stGood (xs : List Stamp) (i : Nat) : Prop :=
  (1 ≤ (atStamp xs i).snap ∧ (atStamp xs i).snap ≤ 20) ∧ (0 ≤ (atStamp xs i).day ∧ (atStamp xs i).day ≤ 99) ∧ (0 < i → (atStamp xs (i - 1)).snap < (atStamp xs i).snap ∧ (atStamp xs (i - 1)).day ≤ (atStamp xs i).day)
instance (xs : List Stamp) (i : Nat) : Decidable (stGood xs i) := by unfold stGood; exact inferInstance
def stOk (xs : List Stamp) : Bool := decide (xs.length ≤ 12) && decide (∀ i, i < xs.length → stGood xs i)
theorem stOk_not {xs : List Stamp} {i : Nat} (hi : i < xs.length) (h : ¬ stGood xs i) : stOk xs = false := by
  unfold stOk
  rw [Bool.and_eq_false_iff]
  exact .inr (decide_eq_false fun h' => h (h' i hi))
theorem stOk_all {xs : List Stamp} (h : ∀ i, i < xs.length → stGood xs i) : stOk xs = decide (xs.length ≤ 12) := by
  unfold stOk
  rw [decide_eq_true h, Bool.and_true]
set_option maxHeartbeats 1000000 in
theorem implStampsOk_any (A : Option Addr) (c : Nat) (xs : List Stamp) (w : World) (hx : Sl w A (xs.flatMap encStamp)) (hlx : xs.length ≤ maxLen) :
    Calls Try.prog 14 #[.slice A xs.length c] w fun e w' => e = .returned (.bool (stOk xs)) ∧ Upd [] w w' := by
  unfold maxLen at hlx
  go_enter Try.func14, Try.ntmps14
  go_wp2
  go_loopw [7] (fun i wr => ∃ k : Nat, k ≤ xs.length ∧ i = .int .i64 k ∧ (∀ i, i < k → stGood xs i) ∧ Upd [] w wr) (fun i _ => xs.length - (intOf i).toNat)
  case atStart => exact ⟨0, by omega, rfl, fun i hi => by omega, Upd.refl _ _⟩
  case round =>
    obtain ⟨k, hk, rfl, ht, hu⟩ := hrel
    have HT := Lib.hid ht
    clear ht
    by_cases hlt : k < xs.length
    · obtain ⟨b1, o1, rfl, c1, c2⟩ := (hx.grow hu).stamp hlt
      by_cases hr : (1 ≤ (atStamp xs k).snap ∧ (atStamp xs k).snap ≤ 20) ∧ (0 ≤ (atStamp xs k).day ∧ (atStamp xs k).day ≤ 99)
      · obtain ⟨⟨r1, r2⟩, r3, r4⟩ := hr
        by_cases hk0 : 0 < k
        · obtain ⟨_, _, e, c3, c4⟩ := (hx.grow hu).stamp (i := k - 1) (by omega)
          cases e
          have s1 : IntKind.i64.wrap ((k : Int) - 1) = ((k - 1 : Nat) : Int) := by rw [IntWalk.i64_in _ (by omega)]; omega
          have s2 : k - 1 < xs.length := by omega
          have hb : decide (0 < k) = true := by simpa using hk0
          have hup := (Upd.refl [] wr).alloc (.cells #[.int .i64 (atStamp xs k).snap, .int .i64 (atStamp xs k).day] 32)
          have d3 := fun g : Later (wr.alloc (.cells #[.int .i64 (atStamp xs k).snap, .int .i64 (atStamp xs k).day] 32)) => g.cell (hup.cell c3 (by simp))
          have d4 := fun g : Later (wr.alloc (.cells #[.int .i64 (atStamp xs k).snap, .int .i64 (atStamp xs k).day] 32)) => g.cell (hup.cell c4 (by simp))
          have d5 := fun g : Later (wr.alloc (.cells #[.int .i64 (atStamp xs k).snap, .int .i64 (atStamp xs k).day] 32)) => g.cell (p := ⟨wr.heap.size, 0, none⟩) (v := .int .i64 (atStamp xs k).snap) (by rw [cell_of_row _ _ _ _ _ _ (heap_alloc_new wr _)]; rfl)
          have d6 := fun g : Later (wr.alloc (.cells #[.int .i64 (atStamp xs k).snap, .int .i64 (atStamp xs k).day] 32)) => g.cell (p := ⟨wr.heap.size, 1, none⟩) (v := .int .i64 (atStamp xs k).day) (by rw [cell_of_row _ _ _ _ _ _ (heap_alloc_new wr _)]; rfl)
          by_cases h6 : (atStamp xs k).snap ≤ (atStamp xs (k - 1)).snap
          · have h6b : decide ((atStamp xs k).snap ≤ (atStamp xs (k - 1)).snap) = true := decide_eq_true h6
            go_wp2
            refine wp_region_calm (by kernel_rfl) (by kernel_rfl) ?_
            repeat (any_goals (first | go_big_quiet_step (fail) | quiet_step (fail)))
            refine wpQuiet_nil ?_
            rintro _ ⟨g, rfl⟩
            have hg := g.upd
            go_wp2
            go_ret
            exact ⟨ret_bool (stOk_not hlt (fun h => by have := (h.2.2 hk0).1; omega)).symm, (hu.alloc _).trans hg⟩
          · have h6b : decide ((atStamp xs k).snap ≤ (atStamp xs (k - 1)).snap) = false := decide_eq_false h6
            by_cases h7 : (atStamp xs k).day < (atStamp xs (k - 1)).day
            · have h7b : decide ((atStamp xs k).day < (atStamp xs (k - 1)).day) = true := decide_eq_true h7
              go_wp2
              refine wp_region_calm (by kernel_rfl) (by kernel_rfl) ?_
              repeat (any_goals (first | go_big_quiet_step (fail) | quiet_step (fail)))
              refine wpQuiet_nil ?_
              rintro _ ⟨g, rfl⟩
              have hg := g.upd
              go_wp2
              go_ret
              exact ⟨ret_bool (stOk_not hlt (fun h => by have := (h.2.2 hk0).2; omega)).symm, (hu.alloc _).trans hg⟩
            · have h7b : decide ((atStamp xs k).day < (atStamp xs (k - 1)).day) = false := decide_eq_false h7
              go_wp2
              refine wp_region_calm (by kernel_rfl) (by kernel_rfl) ?_
              repeat (any_goals (first | go_big_quiet_step (fail) | quiet_step (fail)))
              refine wpQuiet_nil ?_
              rintro _ ⟨g, rfl⟩
              have hg := g.upd
              go_wp2
              refine ⟨⟨k + 1, by omega, by go_num, fun i hi => ?_, (hu.alloc _).trans hg⟩, by simp [intOf]; omega⟩
              by_cases hik : i = k
              · subst hik
                exact ⟨⟨r1, r2⟩, ⟨r3, r4⟩, fun _ => ⟨by omega, by omega⟩⟩
              · exact HT.out i (by omega)
        · go_wp2
          refine wp_region_calm (by kernel_rfl) (by kernel_rfl) ?_
          repeat (any_goals (first | go_big_quiet_step (fail) | quiet_step (fail)))
          refine wpQuiet_nil ?_
          rintro _ ⟨g, rfl⟩
          have hg := g.upd
          go_wp2
          refine ⟨⟨k + 1, by omega, by go_num, fun i hi => ?_, (hu.alloc _).trans hg⟩, by simp [intOf]; omega⟩
          have hik : i = k := by omega
          subst hik
          exact ⟨⟨r1, r2⟩, ⟨r3, r4⟩, fun h => absurd h hk0⟩
      · go_wp2
        all_goals
          go_ret
          exact ⟨ret_bool (stOk_not hlt (fun h => hr ⟨h.1, h.2.1⟩)).symm, hu.alloc _⟩
    · obtain rfl : k = xs.length := by omega
      clear hk hlt
      go_wp2
      go_ret
      exact ⟨ret_bool (by rw [stOk_all (fun i hi => HT.out i (by omega))]; exact decide_eq_decide.2 (by omega)), hu⟩

/-! ### the reference's -/
def inB (n lo hi : Int) : Bool := decide (lo ≤ n ∧ n ≤ hi)
theorem inB_true {n lo hi : Int} : inB n lo hi = true ↔ lo ≤ n ∧ n ≤ hi := by simp [inB]
theorem inB_false {n lo hi : Int} : inB n lo hi = false ↔ ¬ (lo ≤ n ∧ n ≤ hi) := by simp only [inB, decide_eq_false_iff_not]
set_option maxHeartbeats 400000 in
theorem l6In_any (n lo hi : Int) (w : World) : Calls Try.prog 29 #[.int .i64 n, .int .i64 lo, .int .i64 hi] w fun e w' => e = .returned (.bool (inB n lo hi)) ∧ Upd [] w w' := by
  go_enter Try.func29, Try.ntmps29
  go_wp2
  all_goals go_ret
  all_goals refine ⟨ret_bool ?_, Upd.refl _ _⟩
  all_goals (first | (simp_all [inB]; done) | (simp_all [inB]; omega))

set_option maxHeartbeats 1000000 in
theorem specStampsOk_any (A : Option Addr) (c : Nat) (xs : List Stamp) (w : World) (hx : Sl w A (xs.flatMap encStamp)) (hlx : xs.length ≤ maxLen) :
    Calls Try.prog 12 #[.slice A xs.length c] w fun e w' => e = .returned (.bool (stOk xs)) ∧ Upd [] w w' := by
  unfold maxLen at hlx
  go_enter Try.func12, Try.ntmps12
  go_wp2
  go_loopw [3] (fun i wr => ∃ k : Nat, k ≤ xs.length ∧ i = .int .i64 k ∧ (∀ i, i < k → stGood xs i) ∧ Upd [] w wr) (fun i _ => xs.length - (intOf i).toNat)
  case atStart => exact ⟨0, by omega, rfl, fun i hi => by omega, Upd.refl _ _⟩
  case round =>
    obtain ⟨k, hk, rfl, ht, hu⟩ := hrel
    have HT := Lib.hid ht
    clear ht
    by_cases hlt : k < xs.length
    · obtain ⟨b1, o1, rfl, c1, c2⟩ := (hx.grow hu).stamp hlt
      have d1 := fun g : Later wr => g.cell c1
      have d2 := fun g : Later wr => g.cell c2
      cases h1 : inB (atStamp xs k).snap 1 20
      · go_wp2
        refine wp_region_calm (by kernel_rfl) (by kernel_rfl) ?_
        repeat (any_goals (first | go_big_quiet_step ((first | (go_at_call 29; exact Calls.calm (l6In_any _ _ _ _)))) | quiet_step ((first | (go_at_call 29; exact Calls.calm (l6In_any _ _ _ _))))))
        refine wpQuiet_nil ?_
        rintro _ ⟨g, rfl⟩
        have hg := g.upd
        go_wp2
        go_ret
        exact ⟨ret_bool (stOk_not hlt (fun h => by have := inB_false.1 h1; exact this h.1)).symm, hu.trans hg⟩
      · cases h2 : inB (atStamp xs k).day 0 99
        · go_wp2
          refine wp_region_calm (by kernel_rfl) (by kernel_rfl) ?_
          repeat (any_goals (first | go_big_quiet_step ((first | (go_at_call 29; exact Calls.calm (l6In_any _ _ _ _)))) | quiet_step ((first | (go_at_call 29; exact Calls.calm (l6In_any _ _ _ _))))))
          refine wpQuiet_nil ?_
          rintro _ ⟨g, rfl⟩
          have hg := g.upd
          go_wp2
          go_ret
          exact ⟨ret_bool (stOk_not hlt (fun h => by have := inB_false.1 h2; exact this h.2.1)).symm, hu.trans hg⟩
        · have r1 := inB_true.1 h1
          have r2 := inB_true.1 h2
          by_cases hk0 : 0 < k
          · obtain ⟨_, _, e, c3, c4⟩ := (hx.grow hu).stamp (i := k - 1) (by omega)
            cases e
            have s1 : IntKind.i64.wrap ((k : Int) - 1) = ((k - 1 : Nat) : Int) := by rw [IntWalk.i64_in _ (by omega)]; omega
            have s2 : k - 1 < xs.length := by omega
            have hb : decide (0 < k) = true := by simpa using hk0
            have d3 := fun g : Later wr => g.cell c3
            have d4 := fun g : Later wr => g.cell c4
            by_cases h6 : (atStamp xs k).snap ≤ (atStamp xs (k - 1)).snap
            · have h6b : decide ((atStamp xs k).snap ≤ (atStamp xs (k - 1)).snap) = true := decide_eq_true h6
              go_wp2
              refine wp_region_calm (by kernel_rfl) (by kernel_rfl) ?_
              repeat (any_goals (first | go_big_quiet_step ((first | (go_at_call 29; exact Calls.calm (l6In_any _ _ _ _)))) | quiet_step ((first | (go_at_call 29; exact Calls.calm (l6In_any _ _ _ _))))))
              refine wpQuiet_nil ?_
              rintro _ ⟨g, rfl⟩
              have hg := g.upd
              go_wp2
              go_ret
              exact ⟨ret_bool (stOk_not hlt (fun h => by have := (h.2.2 hk0).1; omega)).symm, hu.trans hg⟩
            · have h6b : decide ((atStamp xs k).snap ≤ (atStamp xs (k - 1)).snap) = false := decide_eq_false h6
              by_cases h7 : (atStamp xs k).day < (atStamp xs (k - 1)).day
              · have h7b : decide ((atStamp xs k).day < (atStamp xs (k - 1)).day) = true := decide_eq_true h7
                go_wp2
                refine wp_region_calm (by kernel_rfl) (by kernel_rfl) ?_
                repeat (any_goals (first | go_big_quiet_step ((first | (go_at_call 29; exact Calls.calm (l6In_any _ _ _ _)))) | quiet_step ((first | (go_at_call 29; exact Calls.calm (l6In_any _ _ _ _))))))
                refine wpQuiet_nil ?_
                rintro _ ⟨g, rfl⟩
                have hg := g.upd
                go_wp2
                go_ret
                exact ⟨ret_bool (stOk_not hlt (fun h => by have := (h.2.2 hk0).2; omega)).symm, hu.trans hg⟩
              · have h7b : decide ((atStamp xs k).day < (atStamp xs (k - 1)).day) = false := decide_eq_false h7
                go_wp2
                refine wp_region_calm (by kernel_rfl) (by kernel_rfl) ?_
                repeat (any_goals (first | go_big_quiet_step ((first | (go_at_call 29; exact Calls.calm (l6In_any _ _ _ _)))) | quiet_step ((first | (go_at_call 29; exact Calls.calm (l6In_any _ _ _ _))))))
                refine wpQuiet_nil ?_
                rintro _ ⟨g, rfl⟩
                have hg := g.upd
                go_wp2
                refine ⟨⟨k + 1, by omega, by go_num, fun i hi => ?_, hu.trans hg⟩, by simp [intOf]; omega⟩
                by_cases hik : i = k
                · subst hik
                  exact ⟨r1, r2, fun _ => ⟨by omega, by omega⟩⟩
                · exact HT.out i (by omega)
          · have hb : decide (0 < k) = false := by simpa using hk0
            go_wp2
            refine wp_region_calm (by kernel_rfl) (by kernel_rfl) ?_
            repeat (any_goals (first | go_big_quiet_step ((first | (go_at_call 29; exact Calls.calm (l6In_any _ _ _ _)))) | quiet_step ((first | (go_at_call 29; exact Calls.calm (l6In_any _ _ _ _))))))
            refine wpQuiet_nil ?_
            rintro _ ⟨g, rfl⟩
            have hg := g.upd
            go_wp2
            refine ⟨⟨k + 1, by omega, by go_num, fun i hi => ?_, hu.trans hg⟩, by simp [intOf]; omega⟩
            have hik : i = k := by omega
            subst hik
            exact ⟨r1, r2, fun h => absurd h hk0⟩
    · obtain rfl : k = xs.length := by omega
      clear hk hlt
      go_wp2
      go_ret
      exact ⟨ret_bool (by rw [stOk_all (fun i hi => HT.out i (by omega))]; exact decide_eq_decide.2 (by omega)), hu⟩
end Go.Proofs.Ytneleojjadbdcaa
