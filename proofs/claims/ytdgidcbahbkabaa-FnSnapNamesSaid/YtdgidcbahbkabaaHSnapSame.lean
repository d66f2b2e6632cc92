/- SnapSame: whether two snapshots list the same. -/
import Derived.Test.YtdgidcbahbkabaaBListed
import Derived.Test.YtdgidcbahbkabaaPu
import Derived.Test.YtdgidcbahbkabaaQx14
namespace Go.Proofs.Ytdgidcbahbkabaa.Q
open Go.RowKit Go.Proofs.YtdgidcbahbkabaaW.PrintWords
set_option linter.unusedVariables false
set_option linter.unusedSimpArgs false
def sameL1 (x y : Listed) : Bool := decide (x.f0.toList = y.f0.toList) && decide (x.f1 = y.f1)
def sameLs (xs ys : List Listed) : Bool := decide (xs.length = ys.length) && allFrom (fun i => sameL1 (atListed xs i) (atListed ys i)) 0 xs.length
theorem rdInt (xs : List Int) (i : Nat) : rd xs (i : Int) = xs.getD i 0 := by simp [rd]
theorem slicesEqualInts_ev (xs ys : List Int) (hx : xs.length ≤ 9223372036854775807) : Ev (fun k => slices_Equal_int_int.f k xs ys) (decide (xs = ys)) := by
  unfold slices_Equal_int_int.f
  by_cases hl : xs.length = ys.length
  · refine ev_pos (by omega) ?_
    have key : decide (xs = ys) = allFrom (fun i => decide (xs.getD i 0 = ys.getD i 0)) 0 xs.length := by
      rw [Bool.eq_iff_iff, allFrom_iff, decide_eq_true_iff]
      constructor
      · rintro rfl j _ _
        simp
      · intro h
        refine List.ext_getElem hl fun j h1 h2 => ?_
        have := h j (Nat.zero_le _) h1
        simpa [h1, h2] using this
    rw [key]
    refine downTo (P := fun i => Ev (fun k => slices_Equal_int_int.l0 k xs ys (xs.length : Int) (i : Int)) (allFrom (fun i => decide (xs.getD i 0 = ys.getD i 0)) i xs.length)) (n := xs.length) ?_ ?_ 0 (Nat.zero_le _)
    · refine Ev.step (fun _ => slices_Equal_int_int.l0.eq_2 ..) ?_
      rw [allFrom_ge (Nat.le_refl _)]
      exact ev_neg (nat_ge (Nat.le_refl _)) ev_some
    · intro i hi ih
      refine Ev.step (fun _ => slices_Equal_int_int.l0.eq_2 ..) ?_
      rw [allFrom_lt hi]
      simp only [if_pos (nat_lt hi), if_pos (nat_0 i), if_pos (nat_lt (show i < ys.length from by omega)), rdInt, wrap_up i _ hi hx]
      by_cases he : xs.getD i 0 = ys.getD i 0
      · simp only [if_pos he, he, decide_true, Bool.true_and]
        exact ih
      · simp only [if_neg he, he, decide_false, Bool.false_and]
        exact ev_some
  · refine ev_neg (by omega) ?_
    rw [show decide (xs = ys) = false from decide_eq_false (fun h => hl (by rw [h]))]
    exact ev_some
theorem sameListed_ev (x y : Listed) (hx : x.f1.length ≤ 9223372036854775807) : Ev (fun k => impl_sameListed.f k x.f0 x.f1 y.f0 y.f1) (sameL1 x y) := by
  unfold impl_sameListed.f sameL1
  by_cases h : x.f0.toList = y.f0.toList
  · refine ev_pos h ?_
    refine Ev.bind (slicesEqualInts_ev _ _ hx) ?_
    rw [decide_eq_true h, Bool.true_and]
    exact ev_some
  · refine ev_neg h ?_
    rw [decide_eq_false h, Bool.false_and]
    exact ev_some
theorem sameListed_any (A B : Option Addr) (c d : Nat) (x y : Listed) (w : World) (hx : Kd.C (Kd.int .i64) w A x.f1.length x.f1) (hc : x.f1.length ≤ c) (hy : Kd.C (Kd.int .i64) w B y.f1.length y.f1) (hd : y.f1.length ≤ d) :
    Calls Try.prog 35 #[.agg #[.string x.f0, .slice A x.f1.length c], .agg #[.string y.f0, .slice B y.f1.length d]] w fun e w' => e = .returned (.bool (sameL1 x y)) ∧ Upd [] w w' := by
  obtain ⟨k, hk⟩ := (sameListed_ev x y (rowLen hx).2).rounds
  exact (impl_sameListed.calls k _ _ _ _ _ _ _ _ _ w hx hc hy hd hk).mono fun e w' ⟨h1, h2⟩ => ⟨h1, Upd.of_below h2 []⟩
set_option maxHeartbeats 1000000 in
theorem equalFunc_any (A B : Option Addr) (c d : Nat) (xs ys : List Listed) (w : World) (hx : Kd.C k40 w A xs.length xs) (hy : Kd.C k40 w B ys.length ys) :
    Calls Try.prog 34 #[.slice A xs.length c, .slice B ys.length d, .func (.func 35) #[] #[]] w fun e w' => e = .returned (.bool (sameLs xs ys)) ∧ Upd [] w w' := by
  have hlx := (rowLen hx).2
  have HX := Lib.hid hx
  have HY := Lib.hid hy
  clear hx hy
  by_cases hl : xs.length = ys.length
  · have hb : ((xs.length : Int) != (ys.length : Int)) = false := by simp [hl]
    have hs : sameLs xs ys = allFrom (fun i => sameL1 (atListed xs i) (atListed ys i)) 0 xs.length := by unfold sameLs; rw [decide_eq_true hl, Bool.true_and]
    have HL := Lib.hid hl
    have HS := Lib.hid hs
    clear hl hs
    go_enter Try.func34, Try.ntmps34
    go_wp2
    go_loopw [17] (fun i wr => ∃ j : Nat, j ≤ xs.length ∧ i = .int .i64 j ∧ Hid (sameLs xs ys = allFrom (fun i => sameL1 (atListed xs i) (atListed ys i)) j xs.length) ∧ Upd [] w wr) (fun i _ => xs.length - (intOf i).toNat)
    case atStart => exact ⟨0, by omega, rfl, HS, Upd.refl _ _⟩
    case round =>
      obtain ⟨j, hj, rfl, hs, hu⟩ := hrel
      by_cases hlt : j < xs.length
      · have hlt2 : j < ys.length := by have := HL.out; omega
        obtain ⟨b1, o1, A1, c1, rfl, e0, e1, e2, e3⟩ := listed_at (Kd.C_below HX.out hu.below) hlt
        obtain ⟨b2, o2, A2, c2, rfl, g0, g1, g2, g3⟩ := listed_at (Kd.C_below HY.out hu.below) hlt2
        have HE := Lib.hid e3
        have HG := Lib.hid g3
        clear e3 g3
        have hn : allFrom (fun i => sameL1 (atListed xs i) (atListed ys i)) j xs.length = (sameL1 (atListed xs j) (atListed ys j) && allFrom (fun i => sameL1 (atListed xs i) (atListed ys i)) (j + 1) xs.length) := allFrom_lt hlt
        have hn2 : sameLs xs ys = (sameL1 (atListed xs j) (atListed ys j) && allFrom (fun i => sameL1 (atListed xs i) (atListed ys i)) (j + 1) xs.length) := hs.out.trans hn
        have HN := Lib.hid hn2
        have hc1 := e2
        have hc2 := g2
        have g0' := ((Upd.refl [] wr).alloc (.cells #[.string (atListed xs j).f0, .slice A1 (atListed xs j).f1.length c1] 40)).cell g0 (by simp)
        have g1' := ((Upd.refl [] wr).alloc (.cells #[.string (atListed xs j).f0, .slice A1 (atListed xs j).f1.length c1] 40)).cell g1 (by simp)
        clear hn hn2 hs e2 g2 g0 g1
        go_wp2_with (go_at_call 35; refine (sameListed_any A1 A2 c1 c2 (atListed xs j) (atListed ys j) _ ?_ hc1 ?_ hc2).mono ?_; (first | exact Kd.C_below HE.out (((Upd.refl [] wr).alloc _).alloc _).below | exact Kd.C_alloc (Kd.C_alloc HE.out _) _); (first | exact Kd.C_below HG.out (((Upd.refl [] wr).alloc _).alloc _).below | exact Kd.C_alloc (Kd.C_alloc HG.out _) _); rintro e w1 ⟨rfl, u1⟩)
        · have hf : sameL1 (atListed xs j) (atListed ys j) = false := by simp_all
          have HF := Lib.hid hf
          clear hf
          go_ret
          exact ⟨ret_bool (by rw [HN.out, HF.out, Bool.false_and]), ((hu.alloc _).alloc _).trans u1⟩
        · have hf : sameL1 (atListed xs j) (atListed ys j) = true := by simp_all
          have HF := Lib.hid hf
          clear hf
          go_roundw
          case rel => exact ⟨j + 1, by omega, by go_num, Lib.hid (by rw [HN.out, HF.out, Bool.true_and]), ((hu.alloc _).alloc _).trans u1⟩
          case measure => simp [intOf]; omega
      · obtain rfl : j = xs.length := by omega
        clear hj hlt
        go_wp2
        go_ret
        exact ⟨ret_bool (by rw [hs.out, allFrom_ge (Nat.le_refl _)]), hu⟩
  · have hb : ((xs.length : Int) != (ys.length : Int)) = true := by simp; omega
    have hs : sameLs xs ys = false := by unfold sameLs; rw [decide_eq_false hl, Bool.false_and]
    have HS := Lib.hid hs
    clear hs hl
    go_enter Try.func34, Try.ntmps34
    go_wp2
    go_ret
    exact ⟨ret_bool HS.out.symm, Upd.refl _ _⟩
def impl_SnapSame.f (a0_0 : Int) (l0_1 : List Listed) (a1_0 : Int) (l1_1 : List Listed) : Option Bool := some (sameLs l0_1 l1_1)
set_option maxHeartbeats 1000000 in
theorem impl_SnapSame.calls (a0_0 : Int) (A0_1 : Option Addr) (c0_1 : Nat) (l0_1 : List S40) (a1_0 : Int) (A1_1 : Option Addr) (c1_1 : Nat) (l1_1 : List S40) (r : Bool) (w : World) (hr0_1 : Kd.C k40 w A0_1 l0_1.length l0_1) (hc0_1 : l0_1.length ≤ c0_1)
    (hr1_1 : Kd.C k40 w A1_1 l1_1.length l1_1) (hc1_1 : l1_1.length ≤ c1_1) (h : impl_SnapSame.f a0_0 l0_1 a1_0 l1_1 = some r) :
    Calls Try.prog 19 #[.agg #[.int .i64 a0_0, .slice A0_1 l0_1.length c0_1], .agg #[.int .i64 a1_0, .slice A1_1 l1_1.length c1_1]] w fun e w' => e = .returned (.bool r) ∧ Below w.heap.size w w' := by
  obtain rfl : sameLs l0_1 l1_1 = r := Option.some.inj h
  have H0 := Lib.hid hr0_1
  have H1 := Lib.hid hr1_1
  clear h hr0_1 hr1_1
  have hup := ((Upd.refl [] w).alloc (.cells #[.int .i64 a0_0, .slice A0_1 l0_1.length c0_1] 30)).alloc (.cells #[.int .i64 a1_0, .slice A1_1 l1_1.length c1_1] 30)
  have HU := Lib.hid hup
  clear hup
  go_enter Try.func19, Try.ntmps19
  go_wp2_with fail
  refine (equalFunc_any _ _ _ _ _ _ _ (Kd.C_below H0.out HU.out.below) (Kd.C_below H1.out HU.out.below)).mono ?_
  rintro e w1 ⟨rfl, u1⟩
  go_wp2
  go_ret
  exact ⟨rfl, (HU.out.trans u1).below⟩
end Go.Proofs.Ytdgidcbahbkabaa.Q
