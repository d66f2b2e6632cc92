/- The contracts of the exact laws' helpers over Stamp: copies, equality, sizes, marks. -/
import Derived.Test.YtneleojjadbdcaaB
namespace Go.Proofs.Ytneleojjadbdcaa
open Go.RowKit
set_option linter.unusedVariables false
set_option linter.unusedSimpArgs false

structure Stamp where
  snap : Int
  day : Int
  deriving DecidableEq
def encStamp (x : Stamp) : List Value := [.int .i64 x.snap, .int .i64 x.day]
def zeroStamp : Stamp := ⟨0, 0⟩
def atStamp (xs : List Stamp) (i : Nat) : Stamp := xs.getD i zeroStamp
theorem atStamp_get {xs : List Stamp} {i : Nat} (hi : i < xs.length) : atStamp xs i = xs[i] := by simp [atStamp, hi]
theorem stampT : SliceT Try.prog 25 32 2 16 := ⟨Try.underlying25, by omega, .agg #[.int .i64 0, .int .i64 0], rfl, by kernel_rfl⟩
theorem oneStamp (xs : List Stamp) : ∀ u ∈ xs.flatMap encStamp, u.oneCell' = true := by
  intro u hu
  obtain ⟨x, _, hx⟩ := List.mem_flatMap.1 hu
  simp only [encStamp, List.mem_cons, List.not_mem_nil, or_false] at hx
  rcases hx with rfl | rfl <;> rfl
theorem lenStamp (xs : List Stamp) : (xs.flatMap encStamp).length = xs.length * 2 := flat_len encStamp 2 (fun _ => rfl) xs
theorem flat_snocStamp (xs : List Stamp) (x : Stamp) : xs.flatMap encStamp ++ encStamp x = (xs ++ [x]).flatMap encStamp := by simp
theorem Sl.stamp_take {w : World} {A : Option Addr} {xs : List Stamp} (h : Sl w A (xs.flatMap encStamp)) (k : Nat) : Sl w A ((xs.take k).flatMap encStamp) := by
  rw [flat_take encStamp 2 (fun _ => rfl)]
  exact h.take _
theorem Sl.stamp_drop {w : World} {A : Option Addr} {xs : List Stamp} {c : Nat} (h : Sl w A (xs.flatMap encStamp)) (hc : xs.length ≤ c) (k : Nat) : Sl w (if c = k then A else A.map (fun x => x.add (k * 2))) ((xs.drop k).flatMap encStamp) := by
  rw [flat_drop encStamp 2 (fun _ => rfl)]
  exact h.from_ (lenStamp xs) hc k
theorem Sl.stamp {w : World} {A : Option Addr} {xs : List Stamp} (h : Sl w A (xs.flatMap encStamp)) {i : Nat} (hi : i < xs.length) :
    ∃ b o, A = some ⟨b, o, none⟩ ∧ w.cell? ⟨b, o + i * 2, none⟩ = some (.int .i64 (atStamp xs i).snap) ∧ w.cell? ⟨b, o + i * 2 + 1, none⟩ = some (.int .i64 (atStamp xs i).day) := by
  rw [atStamp_get hi]
  exact h.two (f := fun x : Stamp => .int .i64 x.snap) (g := fun x : Stamp => .int .i64 x.day) (fun _ => rfl) hi

set_option maxHeartbeats 400000 in
theorem toStamp_any (x : Stamp) (w : World) :
    Calls Try.prog 30 #[.agg #[.int .i64 x.snap, .int .i64 x.day]] w fun e w' => e = .returned (.agg #[.int .i64 x.snap, .int .i64 x.day]) ∧ Upd [] w w' := by
  go_enter Try.func30, Try.ntmps30
  go_wp2
  refine bodyPost_ret (v := .agg #[.int .i64 x.snap, .int .i64 x.day]) (by simp [results, Try.results30, go_sem]) rfl ⟨rfl, (((Upd.refl _ _).alloc _).alloc _).alloc _⟩
theorem set_flatStamp (xs : List Stamp) (cs : List Value) (k : Nat) (hk : k < xs.length) (hc : cs.length = xs.length * 2) :
    (((xs.take k).flatMap encStamp ++ cs.drop (k * 2)).set (k * 2) (.int .i64 xs[k].snap)).set (k * 2 + 1) (.int .i64 xs[k].day) = (xs.take (k + 1)).flatMap encStamp ++ cs.drop ((k + 1) * 2) := by
  have hl : ((xs.take k).flatMap encStamp).length = k * 2 := by rw [flat_len encStamp 2 (fun _ => rfl), List.length_take]; omega
  have h1 : cs.drop (k * 2) = cs[k * 2]'(by omega) :: cs[k * 2 + 1]'(by omega) :: cs.drop ((k + 1) * 2) := by
    rw [List.drop_eq_getElem_cons (by omega), List.drop_eq_getElem_cons (by omega)]
    congr 3
    omega
  rw [h1, List.take_succ_eq_append_getElem hk, List.flatMap_append]
  simp [List.set_append, hl, encStamp]
set_option maxHeartbeats 400000 in
theorem toStampS_any (A : Option Addr) (c : Nat) (xs : List Stamp) (w : World) (hx : Sl w A (xs.flatMap encStamp)) (hl : xs.length ≤ 1048576) :
    Calls Try.prog 13 #[.slice A xs.length c] w fun e w' => ∃ B, e = .returned (.slice B xs.length xs.length) ∧ Own w' w.heap.size 32 2 B xs.length xs.length (xs.flatMap encStamp) ∧ Upd [] w w' := by
  obtain ⟨cs, hcs, hmk⟩ := make_eq stampT (kl := .i64) (kc := .i64) xs.length (by omega) (by unfold maxLen; omega)
  have HC := Lib.hid hcs
  clear hcs
  go_enter Try.func13, Try.ntmps13
  go_wp2
  go_loopw [4] (fun i wr => ∃ k : Nat, k ≤ xs.length ∧ i = .int .i64 k ∧ Own wr w.heap.size 32 2 (some ⟨w.heap.size, 0, none⟩) xs.length xs.length ((xs.take k).flatMap encStamp ++ cs.drop (k * 2)) ∧ Upd [] w wr) (fun i _ => xs.length - (intOf i).toNat)
  case atStart => exact ⟨0, by omega, rfl, by simpa using Own.lit w cs xs.length (Nat.le_refl _) (by unfold maxLen; omega) HC.out, (Upd.refl _ _).alloc _⟩
  case round =>
    obtain ⟨k, hk, rfl, hown, hu⟩ := hrel
    by_cases hlt : k < xs.length
    · obtain ⟨b1, o1, rfl, c1, c2⟩ := (hx.grow hu).two (f := fun x : Stamp => .int .i64 x.snap) (g := fun x : Stamp => .int .i64 x.day) (fun _ => rfl) hlt
      go_wp2_with (go_at_call 30; refine (toStamp_any xs[k] _).mono ?_; rintro e w1 ⟨rfl, hu1⟩; have hown1 := hown.grow hu1; obtain ⟨u1, g1⟩ := hown1.cell (k * 2) (by omega); have f1 := hown1.frozen (k * 2); obtain ⟨u2, g2⟩ := hown1.cell (k * 2 + 1) (by omega); have f2 := hown1.frozen (k * 2 + 1))
      refine ⟨⟨k + 1, by omega, by go_num, ?_, ((hu.trans hu1).setCell (.inr (Nat.le_refl _)) _).setCell (.inr (Nat.le_refl _)) _⟩, by simp [intOf]; omega⟩
      have hs := ((hown1.store (k * 2) (.int .i64 xs[k].snap)).1.store (k * 2 + 1) (.int .i64 xs[k].day)).1
      rwa [set_flatStamp xs cs k hlt HC.out] at hs
    · obtain rfl : k = xs.length := by omega
      go_wp2
      go_ret
      refine ⟨_, rfl, ?_, hu⟩
      rwa [List.take_length, List.drop_eq_nil_of_le (by rw [HC.out]; exact Nat.le_refl _), List.append_nil] at hown

set_option maxHeartbeats 400000 in
theorem eqStamp_any (x y : Stamp) (w : World) :
    Calls Try.prog 31 #[.agg #[.int .i64 x.snap, .int .i64 x.day], .agg #[.int .i64 y.snap, .int .i64 y.day]] w fun e w' => e = .returned (.bool (same x y)) ∧ Upd [] w w' := by
  go_enter Try.func31, Try.ntmps31
  go_wp2
  all_goals go_ret
  all_goals refine ⟨ret_bool ?_, ((Upd.refl _ _).alloc _).alloc _⟩
  all_goals cases x; cases y; simp_all [same]
set_option maxHeartbeats 400000 in
theorem eqStampS_any (A B : Option Addr) (c d : Nat) (xs ys : List Stamp) (w : World) (hx : Sl w A (xs.flatMap encStamp)) (hy : Sl w B (ys.flatMap encStamp)) (hlx : xs.length ≤ maxLen) :
    Calls Try.prog 15 #[.slice A xs.length c, .slice B ys.length d] w fun e w' => e = .returned (.bool (same xs ys)) ∧ Upd [] w w' := by
  unfold maxLen at hlx
  by_cases hl : xs.length = ys.length
  · have hb : ((xs.length : Int) != (ys.length : Int)) = false := by simp [hl]
    have HL := Lib.hid hl
    clear hl
    go_enter Try.func15, Try.ntmps15
    go_wp2
    go_loopw [5] (fun i wr => ∃ k : Nat, k ≤ xs.length ∧ i = .int .i64 k ∧ xs.take k = ys.take k ∧ Upd [] w wr) (fun i _ => xs.length - (intOf i).toNat)
    case atStart => exact ⟨0, by omega, rfl, rfl, Upd.refl _ _⟩
    case round =>
      obtain ⟨k, hk, rfl, ht, hu⟩ := hrel
      have HT := Lib.hid ht
      clear ht
      by_cases hlt : k < xs.length
      · have hlt2 : k < ys.length := by have := HL.out; omega
        obtain ⟨b1, o1, rfl, c1, c2⟩ := (hx.grow hu).two (f := fun x : Stamp => .int .i64 x.snap) (g := fun x : Stamp => .int .i64 x.day) (fun _ => rfl) hlt
        obtain ⟨b2, o2, rfl, e1, e2⟩ := (hy.grow hu).two (f := fun x : Stamp => .int .i64 x.snap) (g := fun x : Stamp => .int .i64 x.day) (fun _ => rfl) hlt2
        have dc1 := fun g : Later wr => g.cell c1
        have dc2 := fun g : Later wr => g.cell c2
        have de1 := fun g : Later wr => g.cell e1
        have de2 := fun g : Later wr => g.cell e2
        go_wp2
        refine wp_region_calm (by kernel_rfl) (by kernel_rfl) ?_
        repeat (any_goals (first | go_big_quiet_step ((first | (go_at_call 31; exact Calls.calm (eqStamp_any _ _ _)))) | quiet_step ((first | (go_at_call 31; exact Calls.calm (eqStamp_any _ _ _))))))
        refine wpQuiet_nil ?_
        rintro _ ⟨g, rfl⟩
        have hg := g.upd
        go_wp2
        · go_ret
          exact ⟨ret_bool (by rw [eq_comm, same_not]; exact not_same_at hlt hlt2 (nsame_true (by assumption))), hu.trans hg⟩
        · go_roundw
          case rel => exact ⟨k + 1, by omega, by go_num, take_same HT.out hlt hlt2 (nsame_false (by assumption)), hu.trans hg⟩
          case measure => simp [intOf]; omega
      · go_wp2
        go_ret
        exact ⟨ret_bool (by rw [eq_comm, same_iff]; exact take_all HT.out (by omega) (by have := HL.out; omega)), hu⟩
  · have hb : ((xs.length : Int) != (ys.length : Int)) = true := by simp; omega
    have HL := Lib.hid hl
    clear hl
    go_enter Try.func15, Try.ntmps15
    go_wp2
    go_ret
    exact ⟨ret_bool (by rw [eq_comm, same_not]; intro h; exact HL.out (by rw [h])), Upd.refl _ _⟩

set_option maxHeartbeats 400000 in
theorem szStampS_any (A : Option Addr) (n c : Nat) (left : Int) (w : World) (h0 : 0 ≤ left) (h1 : left ≤ 1048576) (hn : n ≤ maxLen) :
    Calls Try.prog 11 #[.slice A n c, .int .i64 left] w fun e w' => ∃ r : Int, e = .returned (.int .i64 r) ∧ r ≤ left ∧ (0 ≤ r → (n : Int) ≤ left) ∧ Upd [] w w' := by
  unfold maxLen at hn
  go_enter Try.func11, Try.ntmps11
  go_wp2
  · go_ret
    exact ⟨_, rfl, by omega, by omega, Upd.refl _ _⟩
  · go_ret
    exact ⟨_, rfl, by omega, by omega, Upd.refl _ _⟩

def mkStamp (k : Int) (i : Nat) : Stamp := ⟨k + 2 * i, k + 2 * i + 1⟩
def markStamp (n : Nat) (k : Int) : List Stamp := (List.range n).map (mkStamp k)
theorem markStamp_len (n : Nat) (k : Int) : (markStamp n k).length = n := by simp [markStamp]
theorem markStamp_succ (n : Nat) (k : Int) : markStamp (n + 1) k = markStamp n k ++ [mkStamp k n] := by simp [markStamp, List.range_succ]
theorem markStamp_get {n : Nat} {k : Int} {i : Nat} (hi : i < (markStamp n k).length) : (markStamp n k)[i] = mkStamp k i := by simp [markStamp]
theorem set_markStamp (xs : List Stamp) (j : Nat) (k : Int) (hj : j < xs.length) :
    (((markStamp j k).flatMap encStamp ++ (xs.drop j).flatMap encStamp).set (j * 2) (.int .i64 (k + 2 * j))).set (j * 2 + 1) (.int .i64 (k + 2 * j + 1)) = (markStamp (j + 1) k).flatMap encStamp ++ (xs.drop (j + 1)).flatMap encStamp := by
  have hl : ((markStamp j k).flatMap encStamp).length = j * 2 := by rw [flat_len encStamp 2 (fun _ => rfl), markStamp_len]
  rw [List.drop_eq_getElem_cons hj, markStamp_succ, List.flatMap_append, List.flatMap_cons]
  simp [List.set_append, hl, encStamp, mkStamp]
set_option maxHeartbeats 400000 in
theorem markStampS_any (A : Option Addr) (c base : Nat) (xs : List Stamp) (k0 : Int) (w : World) (hown : Own w base 32 2 A xs.length c (xs.flatMap encStamp)) (h0 : 0 ≤ k0) (h1 : k0 ≤ 4294967296) (hl : xs.length ≤ 1048576) :
    Calls Try.prog 26 #[.slice A xs.length c, .int .i64 k0] w fun e w' => e = .returned (.int .i64 (k0 + 2 * xs.length)) ∧ Own w' base 32 2 A xs.length c ((markStamp xs.length k0).flatMap encStamp) ∧ Upd (A.map (·.block)).toList w w' := by
  go_enter Try.func26, Try.ntmps26
  go_wp2
  go_loopw [1, 5] (fun kv i wr => ∃ j : Nat, j ≤ xs.length ∧ i = .int .i64 j ∧ kv = .int .i64 (k0 + 2 * j) ∧ Own wr base 32 2 A xs.length c ((markStamp j k0).flatMap encStamp ++ (xs.drop j).flatMap encStamp) ∧ Upd (A.map (·.block)).toList w wr) (fun _ i _ => xs.length - (intOf i).toNat)
  case atStart => exact ⟨0, by omega, rfl, by simp, by simpa [markStamp] using hown, Upd.refl _ _⟩
  case round =>
    obtain ⟨j, hj, rfl, rfl, how, hu⟩ := hrel
    by_cases hlt : j < xs.length
    · rcases how.form with ⟨_, hn, _⟩ | ⟨g, rfl⟩
      · omega
      · obtain ⟨u1, g1⟩ := how.cell (j * 2) (by omega); have f1 := how.frozen (j * 2)
        obtain ⟨u2, g2⟩ := how.cell (j * 2 + 1) (by omega); have f2 := how.frozen (j * 2 + 1)
        go_wp2
        refine ⟨⟨j + 1, by omega, by go_num, by go_num, ?_, ((hu).setCell (.inl (by simp)) _).setCell (.inl (by simp)) _⟩, by simp [intOf]; omega⟩
        have hs := ((how.store (j * 2) (.int .i64 (k0 + 2 * j))).1.store (j * 2 + 1) (.int .i64 (k0 + 2 * j + 1))).1
        have he := set_markStamp xs j k0 hlt
        rw [he] at hs
        exact hs
    · obtain rfl : j = xs.length := by omega
      go_wp2
      go_ret
      refine ⟨rfl, ?_, hu⟩
      rwa [List.drop_length, List.flatMap_nil, List.append_nil] at how


end Go.Proofs.Ytneleojjadbdcaa
