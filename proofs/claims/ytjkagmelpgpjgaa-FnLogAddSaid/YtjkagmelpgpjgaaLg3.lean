/- Logs: additions of the reference's; the program's LogOk, LogAdd. -/
import Derived.Test.YtjkagmelpgpjgaaLg2
namespace Go.Proofs.Ytjkagmelpgpjgaa
open Go.RowKit
set_option linter.unusedVariables false
set_option linter.unusedSimpArgs false

def lgAdd (xs : List Head) (h : Head) : List Head := if lgOk xs = true ∧ hdOk h = true then (if 9 ≤ xs.length then xs else xs ++ [h]) else []
def lgAddOk (xs : List Head) (h : Head) : Bool := lgOk xs && hdOk h && decide (xs.length < 9)
theorem lgAdd_len (xs : List Head) (h : Head) : (lgAdd xs h).length ≤ 9 := by
  unfold lgAdd
  split
  · rename_i h1
    have := lgOk_len h1.1
    split
    · omega
    · simp; omega
  · simp
/-- A log of the call's own and a Bool. -/
def RetLog (ys : List Head) (b : Bool) (w : World) (e : Ending) (w' : World) : Prop :=
  ∃ B d, e = .returned (.tuple #[.slice B ys.length d, .bool b]) ∧ Own w' w.heap.size 27 2 B ys.length d (ys.flatMap encHead) ∧ Upd [] w w'
set_option maxHeartbeats 1000000 in
theorem specLogAdd_any (A : Option Addr) (c : Nat) (xs : List Head) (h : Head) (w : World) (hx : Sl w A (xs.flatMap encHead)) (hlx : xs.length ≤ maxLen) :
    Calls Try.prog 35 #[.slice A xs.length c, .agg #[.int .i64 h.by_, .int .i64 h.snap]] w (RetLog (lgAdd xs h) (lgAddOk xs h) w) := by
  go_enter Try.func35, Try.ntmps35
  go_wp2_with fail
  have ux := (Upd.refl [] w).alloc (.cells #[.int .i64 h.by_, .int .i64 h.snap] 27)
  refine (specLogOk_any _ _ _ _ (hx.grow ux) hlx).mono ?_
  rintro e w1 ⟨rfl, u1⟩
  have U1 := ux.trans u1
  have c1 := u1.cell (p := ⟨w.heap.size, 0, none⟩) (v := .int .i64 h.by_) (by rw [cell_of_row _ _ _ _ _ _ (heap_alloc_new w _)]; rfl) (by simp)
  have c2 := u1.cell (p := ⟨w.heap.size, 1, none⟩) (v := .int .i64 h.snap) (by rw [cell_of_row _ _ _ _ _ _ (heap_alloc_new w _)]; rfl) (by simp)
  clear ux
  cases h1 : lgOk xs
  · have e1 : lgAdd xs h = [] := by unfold lgAdd; rw [if_neg (by rw [h1]; simp)]
    have e2 : lgAddOk xs h = false := by unfold lgAddOk; rw [h1]; rfl
    have E1 := Lib.hid e1
    have E2 := Lib.hid e2
    clear e1 e2
    go_wp2
    go_ret2
    rw [E1.out, E2.out]
    exact ⟨_, 0, rfl, Own.lit w1 [] 0 U1.size (by simp [maxLen]) rfl, U1.alloc _⟩
  · go_wp2_with fail
    refine (l13Head_any _ _).mono ?_
    rintro e w2 ⟨rfl, u2⟩
    have U2 := U1.trans u2
    replace c1 := u2.cell c1 (by simp)
    replace c2 := u2.cell c2 (by simp)
    cases h2 : hdOk h
    · have e1 : lgAdd xs h = [] := by unfold lgAdd; rw [if_neg (by rw [h2]; simp)]
      have e2 : lgAddOk xs h = false := by unfold lgAddOk; rw [h2, Bool.and_false]; rfl
      have E1 := Lib.hid e1
      have E2 := Lib.hid e2
      clear e1 e2
      go_wp2
      go_ret2
      rw [E1.out, E2.out]
      exact ⟨_, 0, rfl, Own.lit w2 [] 0 U2.size (by simp [maxLen]) rfl, U2.alloc _⟩
    · have l1 := lgOk_len h1
      by_cases h3 : 9 ≤ xs.length
      · have e1 : lgAdd xs h = xs := by unfold lgAdd; rw [if_pos ⟨h1, h2⟩, if_pos h3]
        have e2 : lgAddOk xs h = false := by unfold lgAddOk; rw [decide_eq_false (by omega), Bool.and_false]
        have E1 := Lib.hid e1
        have E2 := Lib.hid e2
        clear e1 e2
        go_wp2_with (at_builtin; refine append_any rfl _ _ _ rfl headT rfl (Own.lit _ [] 0 (Nat.le_refl _) (by simp [maxLen]) rfl) rfl (lenHead _) (hx.grow (U2.alloc _)) (oneHead _) (by unfold maxLen; omega) (by omega) (U2.alloc _) U2.size (by simp) ?_; intro B1 d1 w3 p1 P1 q1 hB1; rw [Nat.zero_add, List.nil_append] at p1)
        go_ret2
        rw [E1.out, E2.out]
        exact ⟨B1, d1, rfl, p1.base_le U2.size, P1⟩
      · have e1 : lgAdd xs h = xs ++ [h] := by unfold lgAdd; rw [if_pos ⟨h1, h2⟩, if_neg h3]
        have e2 : lgAddOk xs h = true := by unfold lgAddOk; rw [h1, h2, decide_eq_true (by omega)]; rfl
        have E1 := Lib.hid e1
        have E2 := Lib.hid e2
        clear e1 e2
        have hlt : w.heap.size < w2.heap.size := by have h1 := u1.size; have h2 := u2.size; simp at h1; omega
        have k1 := ((Upd.refl [] w2).alloc (.cells #[] 27)).cell c1 (by simp)
        have k2 := ((Upd.refl [] w2).alloc (.cells #[] 27)).cell c2 (by simp)
        go_wp2_with (first
          | (at_builtin; refine append_any rfl (.tmp 16) (.tmp 17) _ rfl headT rfl (Own.lit _ [] 0 (Nat.le_refl _) (by simp [maxLen]) rfl) rfl (lenHead _) (hx.grow (U2.alloc _)) (oneHead _) (by unfold maxLen; omega) (by omega) (U2.alloc _) U2.size (by simp) ?_; intro B1 d1 w3 p1 P1 q1 hB1; rw [Nat.zero_add, List.nil_append] at p1; replace k1 := q1.cell k1 (by simp; omega); replace k2 := q1.cell k2 (by simp; omega))
          | (at_builtin; refine append_one rfl (.tmp 23) (.tmp 25) _ rfl headT rfl p1 rfl rfl (by simp [Value.oneCell']) (by unfold maxLen; omega) (by omega) P1 U2.size (by have := q1.size; simp at this; omega) ?_; intro B2 d2 w4 p2 P2 q2 hB2)
          | fail)
        go_ret2
        rw [E1.out, E2.out]
        have hL : (xs ++ [h]).length = xs.length + 1 := by simp
        exact ⟨B2, d2, by rw [hL]; rfl, by rw [hL, ← flat_snocHead]; exact p2.base_le U2.size, P2⟩
set_option maxHeartbeats 1000000 in
theorem logOk1_any (x : Head) (w : World) :
    Calls Try.prog 52 #[.agg #[.int .i64 x.by_, .int .i64 x.snap]] w fun e w' => e = .returned (.bool (!hdOk x)) ∧ Upd [] w w' := by
  go_enter Try.func52, Try.ntmps52
  go_wp2_with fail
  refine (headOk_any _ _).mono ?_
  rintro e w2 ⟨rfl, u2⟩
  go_wp2
  go_ret
  exact ⟨rfl, ((Upd.refl _ _).alloc _).trans u2⟩
set_option maxHeartbeats 1000000 in
theorem indexFunc_any (A : Option Addr) (c : Nat) (xs : List Head) (w : World) (hx : Sl w A (xs.flatMap encHead)) (hlx : xs.length ≤ maxLen) :
    Calls Try.prog 62 #[.slice A xs.length c, .func (.func 52) #[] #[]] w fun e w' => ∃ n : Int, e = .returned (.int .i64 n) ∧ (0 ≤ n ↔ allOk xs = false) ∧ -1 ≤ n ∧ Upd [] w w' := by
  unfold maxLen at hlx
  go_enter Try.func62, Try.ntmps62
  go_wp2
  go_loopw [8] (fun i wr => ∃ k : Nat, k ≤ xs.length ∧ i = .int .i64 k ∧ (∀ i, i < k → hdOk (atHead xs i) = true) ∧ Upd [] w wr) (fun i _ => xs.length - (intOf i).toNat)
  case atStart => exact ⟨0, by omega, rfl, fun i hi => by omega, Upd.refl _ _⟩
  case round =>
    obtain ⟨k, hk, rfl, ht, hu⟩ := hrel
    have HT := Lib.hid ht
    clear ht
    by_cases hlt : k < xs.length
    · obtain ⟨b1, o1, rfl, c1, c2⟩ := (hx.grow hu).head hlt
      cases h1 : hdOk (atHead xs k)
      · go_wp2_with fail
        refine (logOk1_any _ _).mono ?_
        rintro e w1 ⟨rfl, u1⟩
        rw [h1]
        go_wp2
        go_ret
        exact ⟨k, rfl, ⟨fun _ => allOk_not hlt h1, fun _ => by omega⟩, by omega, hu.trans u1⟩
      · go_wp2_with fail
        refine (logOk1_any _ _).mono ?_
        rintro e w1 ⟨rfl, u1⟩
        rw [h1]
        go_wp2
        refine ⟨⟨k + 1, by omega, by go_num, fun i hi => ?_, hu.trans u1⟩, by simp only [intOf]; omega⟩
        by_cases hik : i = k
        · subst hik; exact h1
        · exact HT.out i (by omega)
    · obtain rfl : k = xs.length := by omega
      clear hk hlt
      go_wp2
      go_ret
      exact ⟨-1, rfl, ⟨fun h => by omega, fun h => by rw [allOk_all HT.out] at h; cases h⟩, by omega, hu⟩
set_option maxHeartbeats 1000000 in
theorem containsFunc_any (A : Option Addr) (c : Nat) (xs : List Head) (w : World) (hx : Sl w A (xs.flatMap encHead)) (hlx : xs.length ≤ maxLen) :
    Calls Try.prog 51 #[.slice A xs.length c, .func (.func 52) #[] #[]] w fun e w' => e = .returned (.bool (!allOk xs)) ∧ Upd [] w w' := by
  go_enter Try.func51, Try.ntmps51
  go_wp2_with fail
  refine (indexFunc_any _ _ _ _ hx hlx).mono ?_
  rintro e w1 ⟨n, rfl, h1, h2, u1⟩
  go_wp2
  go_ret
  exact ⟨rfl, u1⟩
set_option maxHeartbeats 1000000 in
theorem implLogOk_any (A : Option Addr) (c : Nat) (xs : List Head) (w : World) (hx : Sl w A (xs.flatMap encHead)) (hlx : xs.length ≤ maxLen) :
    Calls Try.prog 22 #[.slice A xs.length c] w fun e w' => e = .returned (.bool (lgOk xs)) ∧ Upd [] w w' := by
  by_cases hl : xs.length ≤ 9
  · have hb : decide ((xs.length : Int) ≤ 9) = true := decide_eq_true (by omega)
    go_enter Try.func22, Try.ntmps22
    go_wp2_with fail
    refine (containsFunc_any _ _ _ _ hx hlx).mono ?_
    rintro e w1 ⟨rfl, u1⟩
    go_wp2
    go_ret
    exact ⟨ret_bool (by unfold lgOk; rw [decide_eq_true hl, Bool.true_and]), u1⟩
  · have hb : decide ((xs.length : Int) ≤ 9) = false := decide_eq_false (by omega)
    go_enter Try.func22, Try.ntmps22
    go_wp2
    go_ret
    exact ⟨ret_bool (by unfold lgOk; rw [decide_eq_false hl, Bool.false_and]), Upd.refl _ _⟩
set_option maxHeartbeats 1000000 in
theorem implLogAdd_any (A : Option Addr) (c : Nat) (xs : List Head) (h : Head) (w : World) (hx : Sl w A (xs.flatMap encHead)) (hlx : xs.length ≤ maxLen) :
    Calls Try.prog 37 #[.slice A xs.length c, .agg #[.int .i64 h.by_, .int .i64 h.snap]] w (RetLog (lgAdd xs h) (lgAddOk xs h) w) := by
  go_enter Try.func37, Try.ntmps37
  go_wp2_with fail
  have ux := (Upd.refl [] w).alloc (.cells #[.int .i64 h.by_, .int .i64 h.snap] 27)
  refine (implLogOk_any _ _ _ _ (hx.grow ux) hlx).mono ?_
  rintro e w1 ⟨rfl, u1⟩
  have U1 := ux.trans u1
  have c1 := u1.cell (p := ⟨w.heap.size, 0, none⟩) (v := .int .i64 h.by_) (by rw [cell_of_row _ _ _ _ _ _ (heap_alloc_new w _)]; rfl) (by simp)
  have c2 := u1.cell (p := ⟨w.heap.size, 1, none⟩) (v := .int .i64 h.snap) (by rw [cell_of_row _ _ _ _ _ _ (heap_alloc_new w _)]; rfl) (by simp)
  clear ux
  cases h1 : lgOk xs
  · have e1 : lgAdd xs h = [] := by unfold lgAdd; rw [if_neg (by rw [h1]; simp)]
    have e2 : lgAddOk xs h = false := by unfold lgAddOk; rw [h1]; rfl
    have E1 := Lib.hid e1
    have E2 := Lib.hid e2
    clear e1 e2
    go_wp2
    go_ret2
    rw [E1.out, E2.out]
    exact ⟨_, 0, rfl, Own.nil _ _ _ _, U1⟩
  · go_wp2_with fail
    refine (headOk_any _ _).mono ?_
    rintro e w2 ⟨rfl, u2⟩
    have U2 := U1.trans u2
    replace c1 := u2.cell c1 (by simp)
    replace c2 := u2.cell c2 (by simp)
    cases h2 : hdOk h
    · have e1 : lgAdd xs h = [] := by unfold lgAdd; rw [if_neg (by rw [h2]; simp)]
      have e2 : lgAddOk xs h = false := by unfold lgAddOk; rw [h2, Bool.and_false]; rfl
      have E1 := Lib.hid e1
      have E2 := Lib.hid e2
      clear e1 e2
      go_wp2
      go_ret2
      rw [E1.out, E2.out]
      exact ⟨_, 0, rfl, Own.nil _ _ _ _, U2⟩
    · have l1 := lgOk_len h1
      go_wp2_with fail
      refine (cloneHead_any _ _ _ _ (hx.grow U2) (by omega)).mono ?_
      rintro e w3 ⟨B1, d1, rfl, p1, u3⟩
      have U3 := U2.trans u3
      replace c1 := u3.cell c1 (by simp)
      replace c2 := u3.cell c2 (by simp)
      by_cases h3 : 9 ≤ xs.length
      · have e1 : lgAdd xs h = xs := by unfold lgAdd; rw [if_pos ⟨h1, h2⟩, if_pos h3]
        have e2 : lgAddOk xs h = false := by unfold lgAddOk; rw [decide_eq_false (by omega), Bool.and_false]
        have E1 := Lib.hid e1
        have E2 := Lib.hid e2
        have hq : ((xs.length : Int) == 9) = true := beq_iff_eq.2 (by omega)
        clear e1 e2
        go_wp2
        go_ret2
        rw [E1.out, E2.out]
        exact ⟨B1, d1, rfl, p1.base_le U2.size, U3⟩
      · have e1 : lgAdd xs h = xs ++ [h] := by unfold lgAdd; rw [if_pos ⟨h1, h2⟩, if_neg h3]
        have e2 : lgAddOk xs h = true := by unfold lgAddOk; rw [h1, h2, decide_eq_true (by omega)]; rfl
        have E1 := Lib.hid e1
        have E2 := Lib.hid e2
        have hq : ((xs.length : Int) == 9) = false := beq_eq_false_iff_ne.2 (by omega)
        clear e1 e2
        go_wp2_with (at_builtin; refine append_one rfl _ _ _ rfl headT rfl p1 rfl rfl (by simp [Value.oneCell']) (by unfold maxLen; omega) (by omega) U3 U2.size u3.size ?_; intro B2 d2 w4 p2 P2 q2 hB2)
        go_ret2
        rw [E1.out, E2.out]
        have hL : (xs ++ [h]).length = xs.length + 1 := by simp
        exact ⟨B2, d2, by rw [hL]; rfl, by rw [hL, ← flat_snocHead]; exact p2.base_le U2.size, P2⟩
end Go.Proofs.Ytjkagmelpgpjgaa
