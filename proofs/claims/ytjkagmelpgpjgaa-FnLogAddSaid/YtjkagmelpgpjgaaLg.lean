/- Logs: what a log is, its digest, where two fork; the reference's words and the program's LogOk. -/
import Derived.Test.YtjkagmelpgpjgaaKHead
namespace Go.Proofs.Ytjkagmelpgpjgaa
open Go.RowKit
set_option linter.unusedVariables false
set_option linter.unusedSimpArgs false
attribute [local go_sem] max_eq min_eq

def hdOk (h : Head) : Bool := decide ((h.by_ = 1 ∨ h.by_ = 2) ∧ 1 ≤ h.snap ∧ h.snap ≤ 20)
theorem hdOk_true {h : Head} : hdOk h = true ↔ (h.by_ = 1 ∨ h.by_ = 2) ∧ 1 ≤ h.snap ∧ h.snap ≤ 20 := by simp [hdOk]
theorem hdOk_false {h : Head} : hdOk h = false ↔ ¬ ((h.by_ = 1 ∨ h.by_ = 2) ∧ 1 ≤ h.snap ∧ h.snap ≤ 20) := by simp only [hdOk, decide_eq_false_iff_not]
def allOk (xs : List Head) : Bool := decide (∀ i, i < xs.length → hdOk (atHead xs i) = true)
theorem allOk_not {xs : List Head} {i : Nat} (hi : i < xs.length) (h : hdOk (atHead xs i) = false) : allOk xs = false :=
  decide_eq_false fun h' => by rw [h' i hi] at h; cases h
theorem allOk_all {xs : List Head} (h : ∀ i, i < xs.length → hdOk (atHead xs i) = true) : allOk xs = true := decide_eq_true h
def lgOk (xs : List Head) : Bool := decide (xs.length ≤ 9) && allOk xs
theorem lgOk_len {xs : List Head} (h : lgOk xs = true) : xs.length ≤ 9 := by
  unfold lgOk at h
  rw [Bool.and_eq_true] at h
  exact of_decide_eq_true h.1
theorem lgOk_good {xs : List Head} (h : lgOk xs = true) : ∀ i, i < xs.length → hdOk (atHead xs i) = true := by
  unfold lgOk at h
  rw [Bool.and_eq_true] at h
  exact of_decide_eq_true h.2
/-- The digest of the first k heads. -/
def sumTo (xs : List Head) : Nat → Int
  | 0 => 0
  | k + 1 => 64 * sumTo xs k + 21 * (atHead xs k).by_ + (atHead xs k).snap
def sumWrap (xs : List Head) : Nat → Int
  | 0 => 0
  | k + 1 => wrap64 (64 * sumWrap xs k + 21 * (atHead xs k).by_ + (atHead xs k).snap)
theorem hd_range {h : Head} (hh : hdOk h = true) : 22 ≤ 21 * h.by_ + h.snap ∧ 21 * h.by_ + h.snap ≤ 62 := by
  have := hdOk_true.1 hh
  omega
theorem sumTo_range {xs : List Head} (h : ∀ i, i < xs.length → hdOk (atHead xs i) = true) : ∀ k, k ≤ xs.length → 0 ≤ sumTo xs k ∧ sumTo xs k < 64 ^ k
  | 0, _ => by simp [sumTo]
  | k + 1, hk => by
    have h1 := sumTo_range h k (by omega)
    have h2 := hd_range (h k (by omega))
    simp only [sumTo]
    rw [Int.pow_succ]
    omega
theorem sumTo_le {xs : List Head} (h : lgOk xs = true) {k : Nat} (hk : k ≤ xs.length) : 0 ≤ sumTo xs k ∧ sumTo xs k < 18014398509481984 := by
  have h1 := sumTo_range (lgOk_good h) k hk
  have h2 := lgOk_len h
  refine ⟨h1.1, Int.lt_of_lt_of_le h1.2 ?_⟩
  have h3 : (64 : Nat) ^ k ≤ 64 ^ 9 := Nat.pow_le_pow_right (by omega) (by omega)
  have h4 : ((64 ^ k : Nat) : Int) = 64 ^ k := by simp
  rw [← h4]
  have h5 : (64 : Nat) ^ 9 = 18014398509481984 := by decide
  omega
def lgSum (xs : List Head) : Int := sumTo xs xs.length
def logSum (xs : List Head) : Int := if lgOk xs = true then lgSum xs else -1
/-- The first place where two differ; -1: none. -/
def fkFrom : List Head → List Head → Int → Int
  | x :: xs, y :: ys, i => if x = y then fkFrom xs ys (i + 1) else i
  | _, _, _ => -1
def fk (xs ys : List Head) : Int := fkFrom xs ys 0
def lgFork (xs ys : List Head) : Int := if lgOk xs = true ∧ lgOk ys = true then fk xs ys else -2
theorem fkFrom_at : ∀ (k : Nat) (xs ys : List Head) (i : Int), xs.take k = ys.take k → (h1 : k < xs.length) → (h2 : k < ys.length) → xs[k] ≠ ys[k] → fkFrom xs ys i = i + k
  | 0, x :: xs, y :: ys, i, _, _, _, hne => by
    unfold fkFrom
    rw [if_neg (by simpa using hne)]
    simp
  | k + 1, x :: xs, y :: ys, i, ht, h1, h2, hne => by
    unfold fkFrom
    rw [List.take_succ_cons, List.take_succ_cons, List.cons.injEq] at ht
    rw [if_pos ht.1, fkFrom_at k xs ys (i + 1) ht.2 (by simpa using h1) (by simpa using h2) (by simpa using hne)]
    omega
  | _, [], _, _, _, h1, _, _ => by simp at h1
  | _, _ :: _, [], _, _, _, h2, _ => by simp at h2
theorem fkFrom_none : ∀ (xs ys : List Head) (i : Int), xs.take (min xs.length ys.length) = ys.take (min xs.length ys.length) → fkFrom xs ys i = -1
  | x :: xs, y :: ys, i, h => by
    unfold fkFrom
    rw [List.length_cons, List.length_cons, Nat.add_min_add_right, List.take_succ_cons, List.take_succ_cons, List.cons.injEq] at h
    rw [if_pos h.1, fkFrom_none xs ys _ h.2]
  | [], _, _, _ => by simp [fkFrom]
  | _ :: _, [], _, _ => by simp [fkFrom]
theorem fk_at {k : Nat} {xs ys : List Head} (ht : xs.take k = ys.take k) (h1 : k < xs.length) (h2 : k < ys.length) (h : xs[k] ≠ ys[k]) : fk xs ys = k := by
  unfold fk
  rw [fkFrom_at k xs ys 0 ht h1 h2 h]
  omega
theorem fk_none {k : Nat} {xs ys : List Head} (ht : xs.take k = ys.take k) (h : xs.length ≤ k ∨ ys.length ≤ k) : fk xs ys = -1 := by
  refine fkFrom_none xs ys 0 ?_
  have := congrArg (List.take (min xs.length ys.length)) ht
  rwa [List.take_take, List.take_take, Nat.min_eq_left (by omega)] at this
def begins (xs ys : List Head) : Bool := decide (xs = ys.take xs.length)
def lgBegins (xs ys : List Head) : Bool := lgOk xs && lgOk ys && begins xs ys

/-! ### heads -/
set_option maxHeartbeats 400000 in
theorem headOk_any (x : Head) (w : World) :
    Calls Try.prog 53 #[.agg #[.int .i64 x.by_, .int .i64 x.snap]] w fun e w' => e = .returned (.bool (hdOk x)) ∧ Upd [] w w' := by
  go_enter Try.func53, Try.ntmps53
  go_wp2
  all_goals go_ret
  all_goals refine ⟨ret_bool ?_, (Upd.refl _ _).alloc _⟩
  all_goals (first | (simp_all [hdOk]; done) | (simp_all [hdOk]; omega) | (rw [eq_comm]; (first | (apply hdOk_true.2; omega) | (apply hdOk_false.2; omega))))
def inB (n lo hi : Int) : Bool := decide (lo ≤ n ∧ n ≤ hi)
theorem inB_true {n lo hi : Int} : inB n lo hi = true ↔ lo ≤ n ∧ n ≤ hi := by simp [inB]
theorem inB_false {n lo hi : Int} : inB n lo hi = false ↔ ¬ (lo ≤ n ∧ n ≤ hi) := by simp only [inB, decide_eq_false_iff_not]
set_option maxHeartbeats 400000 in
theorem l6In_any (n lo hi : Int) (w : World) : Calls Try.prog 63 #[.int .i64 n, .int .i64 lo, .int .i64 hi] w fun e w' => e = .returned (.bool (inB n lo hi)) ∧ Upd [] w w' := by
  go_enter Try.func63, Try.ntmps63
  go_wp2
  all_goals go_ret
  all_goals refine ⟨ret_bool ?_, Upd.refl _ _⟩
  all_goals (first | (simp_all [inB]; done) | (simp_all [inB]; omega))
set_option maxHeartbeats 400000 in
theorem l13Head_any (x : Head) (w : World) :
    Calls Try.prog 54 #[.agg #[.int .i64 x.by_, .int .i64 x.snap]] w fun e w' => e = .returned (.bool (hdOk x)) ∧ Upd [] w w' := by
  go_enter Try.func54, Try.ntmps54
  go_wp2_with fail
  cases h1 : inB x.by_ 1 2
  · have hf : hdOk x = false := hdOk_false.2 (by have := inB_false.1 h1; omega)
    refine (l6In_any _ _ _ _).mono ?_
    rintro e w1 ⟨rfl, u1⟩
    rw [h1]
    go_wp2
    go_ret
    exact ⟨ret_bool hf.symm, ((Upd.refl _ _).alloc _).trans u1⟩
  · refine (l6In_any _ _ _ _).mono ?_
    rintro e w1 ⟨rfl, u1⟩
    rw [h1]
    have c1 := u1.cell (p := ⟨w.heap.size, 1, none⟩) (v := .int .i64 x.snap) (by rw [cell_of_row _ _ _ _ _ _ (heap_alloc_new w _)]; rfl) (by simp)
    go_wp2_with fail
    refine (l6In_any _ _ _ _).mono ?_
    rintro e w2 ⟨rfl, u2⟩
    go_wp2
    go_ret
    refine ⟨ret_bool ?_, (((Upd.refl _ _).alloc _).trans u1).trans u2⟩
    have := inB_true.1 h1
    unfold inB hdOk
    exact decide_eq_decide.2 (by omega)
set_option maxHeartbeats 400000 in
theorem specLogOk_any (A : Option Addr) (c : Nat) (xs : List Head) (w : World) (hx : Sl w A (xs.flatMap encHead)) (hlx : xs.length ≤ maxLen) :
    Calls Try.prog 23 #[.slice A xs.length c] w fun e w' => e = .returned (.bool (lgOk xs)) ∧ Upd [] w w' := by
  unfold maxLen at hlx
  go_enter Try.func23, Try.ntmps23
  go_wp2
  go_loopw [3] (fun i wr => ∃ k : Nat, k ≤ xs.length ∧ i = .int .i64 k ∧ (∀ i, i < k → hdOk (atHead xs i) = true) ∧ Upd [] w wr) (fun i _ => xs.length - (intOf i).toNat)
  case atStart => exact ⟨0, by omega, rfl, fun i hi => by omega, Upd.refl _ _⟩
  case round =>
    obtain ⟨k, hk, rfl, ht, hu⟩ := hrel
    have HT := Lib.hid ht
    clear ht
    by_cases hlt : k < xs.length
    · obtain ⟨b1, o1, rfl, c1, c2⟩ := (hx.grow hu).head hlt
      cases h1 : hdOk (atHead xs k)
      · go_wp2_with fail
        refine (l13Head_any _ _).mono ?_
        rintro e w1 ⟨rfl, u1⟩
        rw [h1]
        go_wp2
        go_ret
        exact ⟨ret_bool (by unfold lgOk; rw [allOk_not hlt h1, Bool.and_false]), hu.trans u1⟩
      · go_wp2_with fail
        refine (l13Head_any _ _).mono ?_
        rintro e w1 ⟨rfl, u1⟩
        rw [h1]
        go_wp2
        refine ⟨⟨k + 1, by omega, by go_num, fun i hi => ?_, hu.trans u1⟩, by simp only [intOf]; omega⟩
        by_cases hik : i = k
        · subst hik; exact h1
        · exact HT.out i (by omega)
    · obtain rfl : k = xs.length := by omega
      clear hk hlt
      go_wp2
      go_ret
      exact ⟨ret_bool (by unfold lgOk; rw [allOk_all (fun i hi => HT.out i hi), Bool.and_true]; exact decide_eq_decide.2 (by omega)), hu⟩
set_option maxHeartbeats 1000000 in
theorem l13Sum_any (A : Option Addr) (c : Nat) (xs : List Head) (w : World) (hx : Sl w A (xs.flatMap encHead)) (hok : ∀ i, i < xs.length → hdOk (atHead xs i) = true) (hl : xs.length ≤ 9) :
    Calls Try.prog 57 #[.slice A xs.length c] w fun e w' => e = .returned (.int .i64 (lgSum xs)) ∧ Upd [] w w' := by
  have hsum : ∀ k, k ≤ xs.length → 0 ≤ sumTo xs k ∧ sumTo xs k < 18014398509481984 := fun k hk => sumTo_le (by unfold lgOk; rw [allOk_all hok, Bool.and_true]; exact decide_eq_true hl) hk
  have HS := Lib.hid hsum
  have HO := Lib.hid hok
  clear hsum hok
  go_enter Try.func57, Try.ntmps57
  go_wp2
  go_loopw [3, 4] (fun n i wr => ∃ k : Nat, k ≤ xs.length ∧ i = .int .i64 k ∧ n = .int .i64 (sumTo xs k) ∧ Upd [] w wr) (fun _ i _ => xs.length - (intOf i).toNat)
  case atStart => exact ⟨0, by omega, rfl, rfl, Upd.refl _ _⟩
  case round =>
    obtain ⟨k, hk, rfl, rfl, hu⟩ := hrel
    by_cases hlt : k < xs.length
    · obtain ⟨b1, o1, rfl, c1, c2⟩ := (hx.grow hu).head hlt
      have d1 := fun g : Later wr => g.cell c1
      have d2 := fun g : Later wr => g.cell c2
      obtain ⟨n, hn⟩ : ∃ n, sumTo xs k = n := ⟨_, rfl⟩
      have hnext : sumTo xs (k + 1) = 64 * n + 21 * (atHead xs k).by_ + (atHead xs k).snap := by simp only [sumTo]; rw [hn]
      have s1 := HS.out k (by omega)
      have s2 := HS.out (k + 1) (by omega)
      rw [hn] at s1 ⊢
      rw [hnext] at s2
      have hr := hdOk_true.1 (HO.out k hlt)
      have t1 : IntKind.i64.wrap (64 * n) = 64 * n := IntWalk.i64_in _ (by omega)
      have t2 : IntKind.i64.wrap (21 * (atHead xs k).by_) = 21 * (atHead xs k).by_ := IntWalk.i64_in _ (by omega)
      have t3 : IntKind.i64.wrap (64 * n + 21 * (atHead xs k).by_) = 64 * n + 21 * (atHead xs k).by_ := IntWalk.i64_in _ (by omega)
      have t4 : IntKind.i64.wrap (64 * n + 21 * (atHead xs k).by_ + (atHead xs k).snap) = 64 * n + 21 * (atHead xs k).by_ + (atHead xs k).snap := IntWalk.i64_in _ (by omega)
      have HN := Lib.hid hn
      have HX := Lib.hid hnext
      clear hn hnext s1 s2 hr
      go_wp2
      refine wp_region_calm (by kernel_rfl) (by kernel_rfl) ?_
      repeat (any_goals (first | go_big_quiet_step (fail) | quiet_step (fail)))
      refine wpQuiet_nil ?_
      rintro _ ⟨g, rfl⟩
      have hg := g.upd
      go_wp2
      refine ⟨⟨k + 1, by omega, by go_num, by rw [HX.out], hu.trans hg⟩, by simp only [intOf]; omega⟩
    · obtain rfl : k = xs.length := by omega
      clear hk hlt
      go_wp2
      go_ret
      exact ⟨rfl, hu⟩
set_option maxHeartbeats 400000 in
theorem specLogSum_any (A : Option Addr) (c : Nat) (xs : List Head) (w : World) (hx : Sl w A (xs.flatMap encHead)) (hlx : xs.length ≤ maxLen) :
    Calls Try.prog 29 #[.slice A xs.length c] w fun e w' => e = .returned (.int .i64 (logSum xs)) ∧ Upd [] w w' := by
  go_enter Try.func29, Try.ntmps29
  go_wp2_with fail
  refine (specLogOk_any _ _ _ _ hx hlx).mono ?_
  rintro e w1 ⟨rfl, u1⟩
  cases hs : lgOk xs
  · go_wp2
    go_ret
    exact ⟨by unfold logSum; rw [if_neg (by rw [hs]; simp)]; rfl, u1⟩
  · go_wp2_with fail
    refine (l13Sum_any _ _ _ _ (hx.grow u1) (lgOk_good hs) (lgOk_len hs)).mono ?_
    rintro e w2 ⟨rfl, u2⟩
    go_wp2
    go_ret
    exact ⟨by unfold logSum; rw [if_pos hs]; rfl, u1.trans u2⟩
end Go.Proofs.Ytjkagmelpgpjgaa
