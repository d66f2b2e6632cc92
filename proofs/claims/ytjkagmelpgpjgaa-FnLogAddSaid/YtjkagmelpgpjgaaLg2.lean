/- Logs: beginnings, forks and additions, the reference's; equal logs. -/
import Derived.Test.YtjkagmelpgpjgaaLg
import Derived.Laws.StructEq
namespace Go.Proofs.Ytjkagmelpgpjgaa
open Go.RowKit
set_option linter.unusedVariables false
set_option linter.unusedSimpArgs false
attribute [local go_sem] max_eq min_eq

theorem neqHead (a b c d : Int) (w : World) : (binOp .neq 27 (.agg #[.int .i64 a, .int .i64 b]) (.agg #[.int .i64 c, .int .i64 d])).run Try.prog w = .ok (.bool (!same (Head.mk a b) (Head.mk c d))) w := by
  have hu := Try.underlying27
  have hp : Try.prog.stoodInHeld 27 = false := by kernel_rfl
  rw [run_neq_struct, run_equalIn_struct (P := Try.prog) w 9999 _ _ _ (by simp [Program.fieldsOf, hu]) hp]
  simp only [Program.fieldsOf, hu]
  simp [Op.eqFields, go_sem]
  by_cases h1 : a = c <;> by_cases h2 : b = d <;> simp [h1, h2, same]
theorem guardHead (op : BinOp) (a b : Operand) (xs ys : Array Value) (w : World) : (eqGuard op 27 a b (.agg xs) (.agg ys)).run Try.prog w = .ok () w :=
  run_eqGuard_agg w op _ a b xs ys (by kernel_rfl)
attribute [-go_sem] run_neq_struct run_eql_struct run_eqGuard_agg run_equalIn_agg
attribute [local go_sem] neqHead guardHead
theorem ne_at {xs ys : List Head} {k : Nat} (h1 : k < xs.length) (h2 : k < ys.length) (h : atHead xs k ≠ atHead ys k) : xs[k] ≠ ys[k] := by rwa [atHead_get h1, atHead_get h2] at h
theorem eq_at {xs ys : List Head} {k : Nat} (h1 : k < xs.length) (h2 : k < ys.length) (h : atHead xs k = atHead ys k) : xs[k] = ys[k] := by rwa [atHead_get h1, atHead_get h2] at h
set_option maxHeartbeats 1000000 in
theorem ldLog_any (A B : Option Addr) (c d : Nat) (xs ys : List Head) (w : World) (hx : Sl w A (xs.flatMap encHead)) (hy : Sl w B (ys.flatMap encHead)) (hlx : xs.length ≤ maxLen) :
    Calls Try.prog 32 #[.slice A xs.length c, .slice B ys.length d] w fun e w' => e = .returned (.bool (same xs ys)) ∧ Upd [] w w' := by
  unfold maxLen at hlx
  by_cases hl : xs.length = ys.length
  · have hb : ((xs.length : Int) != (ys.length : Int)) = false := by simp [hl]
    have HL := Lib.hid hl
    clear hl
    go_enter Try.func32, Try.ntmps32
    go_wp2
    go_loopw [5] (fun i wr => ∃ k : Nat, k ≤ xs.length ∧ i = .int .i64 k ∧ xs.take k = ys.take k ∧ Upd [] w wr) (fun i _ => xs.length - (intOf i).toNat)
    case atStart => exact ⟨0, by omega, rfl, rfl, Upd.refl _ _⟩
    case round =>
      obtain ⟨k, hk, rfl, ht, hu⟩ := hrel
      have HT := Lib.hid ht
      clear ht
      by_cases hlt : k < xs.length
      · have hlt2 : k < ys.length := by have := HL.out; omega
        obtain ⟨b1, o1, rfl, c1, c2⟩ := (hx.grow hu).head hlt
        obtain ⟨b2, o2, rfl, e1, e2⟩ := (hy.grow hu).head hlt2
        have dc1 := fun g : Later wr => g.cell c1
        have dc2 := fun g : Later wr => g.cell c2
        have de1 := fun g : Later wr => g.cell e1
        have de2 := fun g : Later wr => g.cell e2
        go_wp2
        refine wp_region_calm (by kernel_rfl) (by kernel_rfl) ?_
        repeat (any_goals (first | go_big_quiet_step (fail) | quiet_step (fail)))
        refine wpQuiet_nil ?_
        rintro _ ⟨g, rfl⟩
        have hg := g.upd
        go_wp2
        · go_ret
          exact ⟨ret_bool (by rw [eq_comm, same_not]; exact not_same_at hlt hlt2 (ne_at hlt hlt2 (nsame_true (by assumption)))), hu.trans hg⟩
        · go_roundw
          case rel => exact ⟨k + 1, by omega, by go_num, take_same HT.out hlt hlt2 (eq_at hlt hlt2 (nsame_false (by assumption))), hu.trans hg⟩
          case measure => simp [intOf]; omega
      · go_wp2
        go_ret
        exact ⟨ret_bool (by rw [eq_comm, same_iff]; exact take_all HT.out (by omega) (by have := HL.out; omega)), hu⟩
  · have hb : ((xs.length : Int) != (ys.length : Int)) = true := by simp; omega
    have HL := Lib.hid hl
    clear hl
    go_enter Try.func32, Try.ntmps32
    go_wp2
    go_ret
    exact ⟨ret_bool (by rw [eq_comm, same_not]; intro h; exact HL.out (by rw [h])), Upd.refl _ _⟩
set_option maxHeartbeats 1000000 in
theorem specLogFork_any (A B : Option Addr) (c d : Nat) (xs ys : List Head) (w : World) (hx : Sl w A (xs.flatMap encHead)) (hy : Sl w B (ys.flatMap encHead)) (hlx : xs.length ≤ maxLen) (hly : ys.length ≤ maxLen) :
    Calls Try.prog 27 #[.slice A xs.length c, .slice B ys.length d] w fun e w' => e = .returned (.int .i64 (lgFork xs ys)) ∧ Upd [] w w' := by
  go_enter Try.func27, Try.ntmps27
  go_wp2_with fail
  refine (specLogOk_any _ _ _ _ hx hlx).mono ?_
  rintro e w1 ⟨rfl, u1⟩
  cases h1 : lgOk xs
  · go_wp2
    go_ret
    exact ⟨by unfold lgFork; rw [if_neg (by rw [h1]; simp)]; rfl, u1⟩
  · go_wp2_with fail
    refine (specLogOk_any _ _ _ _ (hy.grow u1) hly).mono ?_
    rintro e w2 ⟨rfl, u2⟩
    have U2 := u1.trans u2
    cases h2 : lgOk ys
    · go_wp2
      go_ret
      exact ⟨by unfold lgFork; rw [if_neg (by rw [h2]; simp)]; rfl, U2⟩
    · have hf : lgFork xs ys = fk xs ys := by unfold lgFork; rw [if_pos ⟨h1, h2⟩]
      have l1 := lgOk_len h1
      have l2 := lgOk_len h2
      have HF := Lib.hid hf
      clear hf
      go_wp2_with fail
      go_loopw [5] (fun i wr => ∃ k : Nat, k ≤ xs.length ∧ k ≤ ys.length ∧ i = .int .i64 k ∧ xs.take k = ys.take k ∧ Upd [] w wr) (fun i _ => xs.length - (intOf i).toNat)
      case atStart => exact ⟨0, by omega, by omega, rfl, rfl, U2⟩
      case round =>
        obtain ⟨k, hk, hk2, rfl, ht, hu⟩ := hrel
        have HT := Lib.hid ht
        clear ht
        by_cases hlt : k < xs.length ∧ k < ys.length
        · obtain ⟨hlt, hlt2⟩ := hlt
          have hb : decide ((k : Int) < min (xs.length : Int) (ys.length : Int)) = true := decide_eq_true (by omega)
          obtain ⟨b1, o1, rfl, c1, c2⟩ := (hx.grow hu).head hlt
          obtain ⟨b2, o2, rfl, e1, e2⟩ := (hy.grow hu).head hlt2
          have dc1 := fun g : Later wr => g.cell c1
          have dc2 := fun g : Later wr => g.cell c2
          have de1 := fun g : Later wr => g.cell e1
          have de2 := fun g : Later wr => g.cell e2
          go_wp2
          refine wp_region_calm (by kernel_rfl) (by kernel_rfl) ?_
          repeat (any_goals (first | go_big_quiet_step (fail) | quiet_step (fail)))
          refine wpQuiet_nil ?_
          rintro _ ⟨g, rfl⟩
          have hg := g.upd
          go_wp2
          · go_ret
            exact ⟨ret_int (by rw [HF.out]; exact (fk_at HT.out hlt hlt2 (ne_at hlt hlt2 (nsame_true (by assumption)))).symm), hu.trans hg⟩
          · go_roundw
            case rel => exact ⟨k + 1, by omega, by omega, by go_num, take_same HT.out hlt hlt2 (eq_at hlt hlt2 (nsame_false (by assumption))), hu.trans hg⟩
            case measure => simp [intOf]; omega
        · have hb : decide ((k : Int) < min (xs.length : Int) (ys.length : Int)) = false := decide_eq_false (by omega)
          go_wp2
          go_ret
          exact ⟨ret_int (by rw [HF.out]; exact (fk_none HT.out (by omega)).symm), hu⟩
set_option maxHeartbeats 1000000 in
theorem l13Begins_any (A B : Option Addr) (c d : Nat) (xs ys : List Head) (w : World) (hx : Sl w A (xs.flatMap encHead)) (hy : Sl w B (ys.flatMap encHead)) (hlx : xs.length ≤ maxLen) :
    Calls Try.prog 59 #[.slice A xs.length c, .slice B ys.length d] w fun e w' => e = .returned (.bool (begins xs ys)) ∧ Upd [] w w' := by
  unfold maxLen at hlx
  by_cases hl : ys.length < xs.length
  · have hb : decide ((ys.length : Int) < (xs.length : Int)) = true := decide_eq_true (by omega)
    have hf : begins xs ys = false := decide_eq_false fun h => by
      have := congrArg List.length h
      rw [List.length_take] at this
      omega
    have HF := Lib.hid hf
    have HL := Lib.hid hl
    clear hf hl
    go_enter Try.func59, Try.ntmps59
    go_wp2
    go_ret
    exact ⟨ret_bool HF.out.symm, Upd.refl _ _⟩
  · have hl2 : xs.length ≤ ys.length := by omega
    clear hl
    go_enter Try.func59, Try.ntmps59
    go_wp2
    go_loopw [5] (fun i wr => ∃ k : Nat, k ≤ xs.length ∧ i = .int .i64 k ∧ xs.take k = ys.take k ∧ Upd [] w wr) (fun i _ => xs.length - (intOf i).toNat)
    case atStart => exact ⟨0, by omega, rfl, rfl, Upd.refl _ _⟩
    case round =>
      obtain ⟨k, hk, rfl, ht, hu⟩ := hrel
      have HT := Lib.hid ht
      clear ht
      by_cases hlt : k < xs.length
      · have hlt2 : k < ys.length := by omega
        obtain ⟨b1, o1, rfl, c1, c2⟩ := (hx.grow hu).head hlt
        obtain ⟨b2, o2, rfl, e1, e2⟩ := (hy.grow hu).head hlt2
        have dc1 := fun g : Later wr => g.cell c1
        have dc2 := fun g : Later wr => g.cell c2
        have de1 := fun g : Later wr => g.cell e1
        have de2 := fun g : Later wr => g.cell e2
        go_wp2
        refine wp_region_calm (by kernel_rfl) (by kernel_rfl) ?_
        repeat (any_goals (first | go_big_quiet_step (fail) | quiet_step (fail)))
        refine wpQuiet_nil ?_
        rintro _ ⟨g, rfl⟩
        have hg := g.upd
        go_wp2
        · go_ret
          refine ⟨ret_bool (decide_eq_false fun h => ?_).symm, hu.trans hg⟩
          refine ne_at hlt hlt2 (nsame_true (by assumption)) ?_
          have h1 : xs[k]? = (ys.take xs.length)[k]? := by rw [← h]
          rw [List.getElem?_take_of_lt hlt, List.getElem?_eq_getElem hlt, List.getElem?_eq_getElem hlt2] at h1
          exact Option.some.inj h1
        · go_roundw
          case rel => exact ⟨k + 1, by omega, by go_num, take_same HT.out hlt hlt2 (eq_at hlt hlt2 (nsame_false (by assumption))), hu.trans hg⟩
          case measure => simp [intOf]; omega
      · obtain rfl : k = xs.length := by omega
        clear hk hlt
        go_wp2
        go_ret
        exact ⟨ret_bool (decide_eq_true (by have := HT.out; rwa [List.take_length] at this)).symm, hu⟩
set_option maxHeartbeats 1000000 in
theorem specLogBegins_any (A B : Option Addr) (c d : Nat) (xs ys : List Head) (w : World) (hx : Sl w A (xs.flatMap encHead)) (hy : Sl w B (ys.flatMap encHead)) (hlx : xs.length ≤ maxLen) (hly : ys.length ≤ maxLen) :
    Calls Try.prog 33 #[.slice A xs.length c, .slice B ys.length d] w fun e w' => e = .returned (.bool (lgBegins xs ys)) ∧ Upd [] w w' := by
  go_enter Try.func33, Try.ntmps33
  go_wp2_with fail
  refine (specLogOk_any _ _ _ _ hx hlx).mono ?_
  rintro e w1 ⟨rfl, u1⟩
  cases h1 : lgOk xs
  · go_wp2
    go_ret
    exact ⟨by unfold lgBegins; rw [h1]; rfl, u1⟩
  · go_wp2_with fail
    refine (specLogOk_any _ _ _ _ (hy.grow u1) hly).mono ?_
    rintro e w2 ⟨rfl, u2⟩
    have U2 := u1.trans u2
    cases h2 : lgOk ys
    · go_wp2
      go_ret
      exact ⟨by unfold lgBegins; rw [h2, Bool.and_false]; rfl, U2⟩
    · go_wp2_with fail
      refine (l13Begins_any _ _ _ _ _ _ _ (hx.grow U2) (hy.grow U2) hlx).mono ?_
      rintro e w3 ⟨rfl, u3⟩
      go_wp2
      go_ret
      exact ⟨by unfold lgBegins; rw [h1, h2]; rfl, U2.trans u3⟩
end Go.Proofs.Ytjkagmelpgpjgaa
