/- The contracts of the exact laws' helpers over Head: copies, equality, sizes, marks. -/
import Derived.Test.YtjkagmelpgpjgaaB
namespace Go.Proofs.Ytjkagmelpgpjgaa
open Go.RowKit
set_option linter.unusedVariables false
set_option linter.unusedSimpArgs false

structure Head where
  by_ : Int
  snap : Int
  deriving DecidableEq
def encHead (x : Head) : List Value := [.int .i64 x.by_, .int .i64 x.snap]
def zeroHead : Head := ⟨0, 0⟩
def atHead (xs : List Head) (i : Nat) : Head := xs.getD i zeroHead
theorem atHead_get {xs : List Head} {i : Nat} (hi : i < xs.length) : atHead xs i = xs[i] := by simp [atHead, hi]
theorem headT : SliceT Try.prog 23 27 2 16 := ⟨Try.underlying23, by omega, .agg #[.int .i64 0, .int .i64 0], rfl, by kernel_rfl⟩
theorem oneHead (xs : List Head) : ∀ u ∈ xs.flatMap encHead, u.oneCell' = true := by
  intro u hu
  obtain ⟨x, _, hx⟩ := List.mem_flatMap.1 hu
  simp only [encHead, List.mem_cons, List.not_mem_nil, or_false] at hx
  rcases hx with rfl | rfl <;> rfl
theorem lenHead (xs : List Head) : (xs.flatMap encHead).length = xs.length * 2 := flat_len encHead 2 (fun _ => rfl) xs
theorem flat_snocHead (xs : List Head) (x : Head) : xs.flatMap encHead ++ encHead x = (xs ++ [x]).flatMap encHead := by simp
theorem Sl.head_take {w : World} {A : Option Addr} {xs : List Head} (h : Sl w A (xs.flatMap encHead)) (k : Nat) : Sl w A ((xs.take k).flatMap encHead) := by
  rw [flat_take encHead 2 (fun _ => rfl)]
  exact h.take _
theorem Sl.head_drop {w : World} {A : Option Addr} {xs : List Head} {c : Nat} (h : Sl w A (xs.flatMap encHead)) (hc : xs.length ≤ c) (k : Nat) : Sl w (if c = k then A else A.map (fun x => x.add (k * 2))) ((xs.drop k).flatMap encHead) := by
  rw [flat_drop encHead 2 (fun _ => rfl)]
  exact h.from_ (lenHead xs) hc k
theorem Sl.head {w : World} {A : Option Addr} {xs : List Head} (h : Sl w A (xs.flatMap encHead)) {i : Nat} (hi : i < xs.length) :
    ∃ b o, A = some ⟨b, o, none⟩ ∧ w.cell? ⟨b, o + i * 2, none⟩ = some (.int .i64 (atHead xs i).by_) ∧ w.cell? ⟨b, o + i * 2 + 1, none⟩ = some (.int .i64 (atHead xs i).snap) := by
  rw [atHead_get hi]
  exact h.two (f := fun x : Head => .int .i64 x.by_) (g := fun x : Head => .int .i64 x.snap) (fun _ => rfl) hi

set_option maxHeartbeats 400000 in
theorem toHead_any (x : Head) (w : World) :
    Calls Try.prog 36 #[.agg #[.int .i64 x.by_, .int .i64 x.snap]] w fun e w' => e = .returned (.agg #[.int .i64 x.by_, .int .i64 x.snap]) ∧ Upd [] w w' := by
  go_enter Try.func36, Try.ntmps36
  go_wp2
  refine bodyPost_ret (v := .agg #[.int .i64 x.by_, .int .i64 x.snap]) (by simp [results, Try.results36, go_sem]) rfl ⟨rfl, (((Upd.refl _ _).alloc _).alloc _).alloc _⟩
theorem set_flatHead (xs : List Head) (cs : List Value) (k : Nat) (hk : k < xs.length) (hc : cs.length = xs.length * 2) :
    (((xs.take k).flatMap encHead ++ cs.drop (k * 2)).set (k * 2) (.int .i64 xs[k].by_)).set (k * 2 + 1) (.int .i64 xs[k].snap) = (xs.take (k + 1)).flatMap encHead ++ cs.drop ((k + 1) * 2) := by
  have hl : ((xs.take k).flatMap encHead).length = k * 2 := by rw [flat_len encHead 2 (fun _ => rfl), List.length_take]; omega
  have h1 : cs.drop (k * 2) = cs[k * 2]'(by omega) :: cs[k * 2 + 1]'(by omega) :: cs.drop ((k + 1) * 2) := by
    rw [List.drop_eq_getElem_cons (by omega), List.drop_eq_getElem_cons (by omega)]
    congr 3
    omega
  rw [h1, List.take_succ_eq_append_getElem hk, List.flatMap_append]
  simp [List.set_append, hl, encHead]
set_option maxHeartbeats 400000 in
theorem toHeadS_any (A : Option Addr) (c : Nat) (xs : List Head) (w : World) (hx : Sl w A (xs.flatMap encHead)) (hl : xs.length ≤ 1048576) :
    Calls Try.prog 25 #[.slice A xs.length c] w fun e w' => ∃ B, e = .returned (.slice B xs.length xs.length) ∧ Own w' w.heap.size 27 2 B xs.length xs.length (xs.flatMap encHead) ∧ Upd [] w w' := by
  obtain ⟨cs, hcs, hmk⟩ := make_eq headT (kl := .i64) (kc := .i64) xs.length (by omega) (by unfold maxLen; omega)
  have HC := Lib.hid hcs
  clear hcs
  go_enter Try.func25, Try.ntmps25
  go_wp2
  go_loopw [4] (fun i wr => ∃ k : Nat, k ≤ xs.length ∧ i = .int .i64 k ∧ Own wr w.heap.size 27 2 (some ⟨w.heap.size, 0, none⟩) xs.length xs.length ((xs.take k).flatMap encHead ++ cs.drop (k * 2)) ∧ Upd [] w wr) (fun i _ => xs.length - (intOf i).toNat)
  case atStart => exact ⟨0, by omega, rfl, by simpa using Own.lit w cs xs.length (Nat.le_refl _) (by unfold maxLen; omega) HC.out, (Upd.refl _ _).alloc _⟩
  case round =>
    obtain ⟨k, hk, rfl, hown, hu⟩ := hrel
    by_cases hlt : k < xs.length
    · obtain ⟨b1, o1, rfl, c1, c2⟩ := (hx.grow hu).two (f := fun x : Head => .int .i64 x.by_) (g := fun x : Head => .int .i64 x.snap) (fun _ => rfl) hlt
      go_wp2_with (go_at_call 36; refine (toHead_any xs[k] _).mono ?_; rintro e w1 ⟨rfl, hu1⟩; have hown1 := hown.grow hu1; obtain ⟨u1, g1⟩ := hown1.cell (k * 2) (by omega); have f1 := hown1.frozen (k * 2); obtain ⟨u2, g2⟩ := hown1.cell (k * 2 + 1) (by omega); have f2 := hown1.frozen (k * 2 + 1))
      refine ⟨⟨k + 1, by omega, by go_num, ?_, ((hu.trans hu1).setCell (.inr (Nat.le_refl _)) _).setCell (.inr (Nat.le_refl _)) _⟩, by simp [intOf]; omega⟩
      have hs := ((hown1.store (k * 2) (.int .i64 xs[k].by_)).1.store (k * 2 + 1) (.int .i64 xs[k].snap)).1
      rwa [set_flatHead xs cs k hlt HC.out] at hs
    · obtain rfl : k = xs.length := by omega
      go_wp2
      go_ret
      refine ⟨_, rfl, ?_, hu⟩
      rwa [List.take_length, List.drop_eq_nil_of_le (by rw [HC.out]; exact Nat.le_refl _), List.append_nil] at hown

set_option maxHeartbeats 400000 in
theorem eqHead_any (x y : Head) (w : World) :
    Calls Try.prog 55 #[.agg #[.int .i64 x.by_, .int .i64 x.snap], .agg #[.int .i64 y.by_, .int .i64 y.snap]] w fun e w' => e = .returned (.bool (same x y)) ∧ Upd [] w w' := by
  go_enter Try.func55, Try.ntmps55
  go_wp2
  all_goals go_ret
  all_goals refine ⟨ret_bool ?_, ((Upd.refl _ _).alloc _).alloc _⟩
  all_goals cases x; cases y; simp_all [same]
set_option maxHeartbeats 400000 in
theorem eqHeadS_any (A B : Option Addr) (c d : Nat) (xs ys : List Head) (w : World) (hx : Sl w A (xs.flatMap encHead)) (hy : Sl w B (ys.flatMap encHead)) (hlx : xs.length ≤ maxLen) :
    Calls Try.prog 26 #[.slice A xs.length c, .slice B ys.length d] w fun e w' => e = .returned (.bool (same xs ys)) ∧ Upd [] w w' := by
  unfold maxLen at hlx
  by_cases hl : xs.length = ys.length
  · have hb : ((xs.length : Int) != (ys.length : Int)) = false := by simp [hl]
    have HL := Lib.hid hl
    clear hl
    go_enter Try.func26, Try.ntmps26
    go_wp2
    go_loopw [5] (fun i wr => ∃ k : Nat, k ≤ xs.length ∧ i = .int .i64 k ∧ xs.take k = ys.take k ∧ Upd [] w wr) (fun i _ => xs.length - (intOf i).toNat)
    case atStart => exact ⟨0, by omega, rfl, rfl, Upd.refl _ _⟩
    case round =>
      obtain ⟨k, hk, rfl, ht, hu⟩ := hrel
      have HT := Lib.hid ht
      clear ht
      by_cases hlt : k < xs.length
      · have hlt2 : k < ys.length := by have := HL.out; omega
        obtain ⟨b1, o1, rfl, c1, c2⟩ := (hx.grow hu).two (f := fun x : Head => .int .i64 x.by_) (g := fun x : Head => .int .i64 x.snap) (fun _ => rfl) hlt
        obtain ⟨b2, o2, rfl, e1, e2⟩ := (hy.grow hu).two (f := fun x : Head => .int .i64 x.by_) (g := fun x : Head => .int .i64 x.snap) (fun _ => rfl) hlt2
        have dc1 := fun g : Later wr => g.cell c1
        have dc2 := fun g : Later wr => g.cell c2
        have de1 := fun g : Later wr => g.cell e1
        have de2 := fun g : Later wr => g.cell e2
        go_wp2
        refine wp_region_calm (by kernel_rfl) (by kernel_rfl) ?_
        repeat (any_goals (first | go_big_quiet_step ((first | (go_at_call 55; exact Calls.calm (eqHead_any _ _ _)))) | quiet_step ((first | (go_at_call 55; exact Calls.calm (eqHead_any _ _ _))))))
        refine wpQuiet_nil ?_
        rintro _ ⟨g, rfl⟩
        have hg := g.upd
        go_wp2
        · go_ret
          exact ⟨ret_bool (by rw [eq_comm, same_not]; exact not_same_at hlt hlt2 (nsame_true (by assumption))), hu.trans hg⟩
        · go_roundw
          case rel => exact ⟨k + 1, by omega, by go_num, take_same HT.out hlt hlt2 (nsame_false (by assumption)), hu.trans hg⟩
          case measure => simp [intOf]; omega
      · go_wp2
        go_ret
        exact ⟨ret_bool (by rw [eq_comm, same_iff]; exact take_all HT.out (by omega) (by have := HL.out; omega)), hu⟩
  · have hb : ((xs.length : Int) != (ys.length : Int)) = true := by simp; omega
    have HL := Lib.hid hl
    clear hl
    go_enter Try.func26, Try.ntmps26
    go_wp2
    go_ret
    exact ⟨ret_bool (by rw [eq_comm, same_not]; intro h; exact HL.out (by rw [h])), Upd.refl _ _⟩

set_option maxHeartbeats 400000 in
theorem szHeadS_any (A : Option Addr) (n c : Nat) (left : Int) (w : World) (h0 : 0 ≤ left) (h1 : left ≤ 1048576) (hn : n ≤ maxLen) :
    Calls Try.prog 24 #[.slice A n c, .int .i64 left] w fun e w' => ∃ r : Int, e = .returned (.int .i64 r) ∧ r ≤ left ∧ (0 ≤ r → (n : Int) ≤ left) ∧ Upd [] w w' := by
  unfold maxLen at hn
  go_enter Try.func24, Try.ntmps24
  go_wp2
  · go_ret
    exact ⟨_, rfl, by omega, by omega, Upd.refl _ _⟩
  · go_ret
    exact ⟨_, rfl, by omega, by omega, Upd.refl _ _⟩

def mkHead (k : Int) (i : Nat) : Head := ⟨k + 2 * i, k + 2 * i + 1⟩
def markHead (n : Nat) (k : Int) : List Head := (List.range n).map (mkHead k)
theorem markHead_len (n : Nat) (k : Int) : (markHead n k).length = n := by simp [markHead]
theorem markHead_succ (n : Nat) (k : Int) : markHead (n + 1) k = markHead n k ++ [mkHead k n] := by simp [markHead, List.range_succ]
theorem markHead_get {n : Nat} {k : Int} {i : Nat} (hi : i < (markHead n k).length) : (markHead n k)[i] = mkHead k i := by simp [markHead]
theorem set_markHead (xs : List Head) (j : Nat) (k : Int) (hj : j < xs.length) :
    (((markHead j k).flatMap encHead ++ (xs.drop j).flatMap encHead).set (j * 2) (.int .i64 (k + 2 * j))).set (j * 2 + 1) (.int .i64 (k + 2 * j + 1)) = (markHead (j + 1) k).flatMap encHead ++ (xs.drop (j + 1)).flatMap encHead := by
  have hl : ((markHead j k).flatMap encHead).length = j * 2 := by rw [flat_len encHead 2 (fun _ => rfl), markHead_len]
  rw [List.drop_eq_getElem_cons hj, markHead_succ, List.flatMap_append, List.flatMap_cons]
  simp [List.set_append, hl, encHead, mkHead]
set_option maxHeartbeats 400000 in
theorem markHeadS_any (A : Option Addr) (c base : Nat) (xs : List Head) (k0 : Int) (w : World) (hown : Own w base 27 2 A xs.length c (xs.flatMap encHead)) (h0 : 0 ≤ k0) (h1 : k0 ≤ 4294967296) (hl : xs.length ≤ 1048576) :
    Calls Try.prog 38 #[.slice A xs.length c, .int .i64 k0] w fun e w' => e = .returned (.int .i64 (k0 + 2 * xs.length)) ∧ Own w' base 27 2 A xs.length c ((markHead xs.length k0).flatMap encHead) ∧ Upd (A.map (·.block)).toList w w' := by
  go_enter Try.func38, Try.ntmps38
  go_wp2
  go_loopw [1, 5] (fun kv i wr => ∃ j : Nat, j ≤ xs.length ∧ i = .int .i64 j ∧ kv = .int .i64 (k0 + 2 * j) ∧ Own wr base 27 2 A xs.length c ((markHead j k0).flatMap encHead ++ (xs.drop j).flatMap encHead) ∧ Upd (A.map (·.block)).toList w wr) (fun _ i _ => xs.length - (intOf i).toNat)
  case atStart => exact ⟨0, by omega, rfl, by simp, by simpa [markHead] using hown, Upd.refl _ _⟩
  case round =>
    obtain ⟨j, hj, rfl, rfl, how, hu⟩ := hrel
    by_cases hlt : j < xs.length
    · rcases how.form with ⟨_, hn, _⟩ | ⟨g, rfl⟩
      · omega
      · obtain ⟨u1, g1⟩ := how.cell (j * 2) (by omega); have f1 := how.frozen (j * 2)
        obtain ⟨u2, g2⟩ := how.cell (j * 2 + 1) (by omega); have f2 := how.frozen (j * 2 + 1)
        go_wp2
        refine ⟨⟨j + 1, by omega, by go_num, by go_num, ?_, ((hu).setCell (.inl (by simp)) _).setCell (.inl (by simp)) _⟩, by simp [intOf]; omega⟩
        have hs := ((how.store (j * 2) (.int .i64 (k0 + 2 * j))).1.store (j * 2 + 1) (.int .i64 (k0 + 2 * j + 1))).1
        have he := set_markHead xs j k0 hlt
        rw [he] at hs
        exact hs
    · obtain rfl : j = xs.length := by omega
      go_wp2
      go_ret
      refine ⟨rfl, ?_, hu⟩
      rwa [List.drop_length, List.flatMap_nil, List.append_nil] at how
set_option maxHeartbeats 400000 in
theorem heldHeadS_any (A : Option Addr) (n c : Nat) (k0 : Int) (w : World) (hx : Sl w A ((markHead n k0).flatMap encHead)) (h0 : 0 ≤ k0) (h1 : k0 ≤ 4294967296) (hl : n ≤ 1048576) :
    Calls Try.prog 39 #[.slice A n c, .int .i64 k0] w fun e w' => e = .returned (.int .i64 (k0 + 2 * n)) ∧ Upd [] w w' := by
  go_enter Try.func39, Try.ntmps39
  go_wp2
  go_loopw [1, 5] (fun kv i wr => ∃ j : Nat, j ≤ n ∧ i = .int .i64 j ∧ kv = .int .i64 (k0 + 2 * j) ∧ Upd [] w wr) (fun _ i _ => n - (intOf i).toNat)
  case atStart => exact ⟨0, by omega, rfl, by simp, Upd.refl _ _⟩
  case round =>
    obtain ⟨j, hj, rfl, rfl, hu⟩ := hrel
    by_cases hlt : j < n
    · obtain ⟨b1, o1, rfl, c1, c2⟩ := (hx.grow hu).head (i := j) (by rw [markHead_len]; exact hlt)
      rw [atHead_get (by rw [markHead_len]; exact hlt), markHead_get] at c1 c2
      simp only [mkHead] at c1 c2
      go_wp2
      refine ⟨⟨j + 1, by omega, by go_num, by go_num, hu⟩, by simp [intOf]; omega⟩
    · obtain rfl : j = n := by omega
      go_wp2
      go_ret
      exact ⟨rfl, hu⟩

set_option maxHeartbeats 400000 in
theorem cloneHead_any (A : Option Addr) (c : Nat) (xs : List Head) (w : World) (hx : Sl w A (xs.flatMap encHead)) (hlx : xs.length ≤ 1000000000) :
    Calls Try.prog 60 #[.slice A xs.length c] w fun e w' => ∃ B d, e = .returned (.slice B xs.length d) ∧ Own w' w.heap.size 27 2 B xs.length d (xs.flatMap encHead) ∧ Upd [] w w' := by
  cases A with
  | none =>
    have hz : xs = [] := by
      rcases hx with h | ⟨b, o, h, _⟩
      · have hl := lenHead xs
        rw [h] at hl
        exact List.eq_nil_of_length_eq_zero (by simp at hl; omega)
      · cases h
    subst hz
    have hn := fun w n c => Lib.run_eql_slice_nil (P := Try.prog) w 23 27 none n c 0 0 Try.underlying23
    go_enter Try.func60, Try.ntmps60
    go_wp2
    go_ret
    exact ⟨none, 0, rfl, Own.nil _ _ _ _, Upd.refl _ _⟩
  | some a =>
    have hn := fun w n c => Lib.run_eql_slice_nil (P := Try.prog) w 23 27 (some a) n c 0 0 Try.underlying23
    go_enter Try.func60, Try.ntmps60
    go_wp2_with (at_builtin; refine append_any rfl _ _ _ rfl headT rfl (Own.lit _ [] 0 (Nat.le_refl _) (by simp [maxLen]) rfl) rfl (lenHead _) (hx.grow ((Upd.refl _ _).alloc _)) (oneHead _) (by unfold maxLen; omega) (by omega) ((Upd.refl [] w).alloc _) (Nat.le_refl _) (by simp) ?_; intro A1 c1 w1 p1 P1 q1 hA1; rw [Nat.zero_add, List.nil_append] at p1)
    go_ret
    exact ⟨A1, c1, rfl, p1, P1⟩

end Go.Proofs.Ytjkagmelpgpjgaa
