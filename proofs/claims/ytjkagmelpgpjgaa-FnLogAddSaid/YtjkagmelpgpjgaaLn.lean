/- Logs: beginnings of the program's; what a memory sees. -/
import Derived.Test.YtjkagmelpgpjgaaLm
namespace Go.Proofs.Ytjkagmelpgpjgaa
open Go.RowKit
set_option linter.unusedVariables false
set_option linter.unusedSimpArgs false

theorem fk_cases : ∀ xs ys : List Head, (∃ k, ∃ (h1 : k < xs.length) (h2 : k < ys.length), xs.take k = ys.take k ∧ xs[k] ≠ ys[k]) ∨ xs.take (min xs.length ys.length) = ys.take (min xs.length ys.length)
  | [], ys => .inr (by simp)
  | x :: xs, [] => .inr (by simp)
  | x :: xs, y :: ys => by
    by_cases h : x = y
    · subst h
      rcases fk_cases xs ys with ⟨k, h1, h2, h3, h4⟩ | h
      · exact .inl ⟨k + 1, by simpa using h1, by simpa using h2, by simp [h3], by simpa using h4⟩
      · right
        rw [List.length_cons, List.length_cons, Nat.add_min_add_right, List.take_succ_cons, List.take_succ_cons, h]
    · exact .inl ⟨0, by simp, by simp, by simp, by simpa using h⟩
theorem fk_lt {xs ys : List Head} : fk xs ys < 0 ↔ xs.take (min xs.length ys.length) = ys.take (min xs.length ys.length) := by
  rcases fk_cases xs ys with ⟨k, h1, h2, h3, h4⟩ | h
  · rw [fk_at h3 h1 h2 h4]
    constructor
    · omega
    · intro h
      have h5 : (xs.take (min xs.length ys.length))[k]? = (ys.take (min xs.length ys.length))[k]? := by rw [h]
      rw [List.getElem?_take_of_lt (by omega), List.getElem?_take_of_lt (by omega), List.getElem?_eq_getElem h1, List.getElem?_eq_getElem h2] at h5
      exact absurd (Option.some.inj h5) h4
  · rw [fk_none h (by omega)]
    simp [h]
theorem begins_fk {xs ys : List Head} (h : xs.length ≤ ys.length) : begins xs ys = decide (fk xs ys < 0) := by
  unfold begins
  rw [decide_eq_decide, fk_lt, Nat.min_eq_left h, List.take_length]
theorem begins_len {xs ys : List Head} (h : ys.length < xs.length) : begins xs ys = false := decide_eq_false fun he => by
  have := congrArg List.length he
  rw [List.length_take] at this
  omega
set_option maxHeartbeats 1000000 in
theorem implLogBegins_any (A B : Option Addr) (c d : Nat) (xs ys : List Head) (w : World) (hx : Sl w A (xs.flatMap encHead)) (hy : Sl w B (ys.flatMap encHead)) (hlx : xs.length ≤ maxLen) (hly : ys.length ≤ maxLen) :
    Calls Try.prog 34 #[.slice A xs.length c, .slice B ys.length d] w fun e w' => e = .returned (.bool (lgBegins xs ys)) ∧ Upd [] w w' := by
  go_enter Try.func34, Try.ntmps34
  go_wp2_with fail
  refine (implLogOk_any _ _ _ _ hx hlx).mono ?_
  rintro e w1 ⟨rfl, u1⟩
  cases h1 : lgOk xs
  · go_wp2
    go_ret
    exact ⟨by unfold lgBegins; rw [h1]; rfl, u1⟩
  · go_wp2_with fail
    refine (implLogOk_any _ _ _ _ (hy.grow u1) hly).mono ?_
    rintro e w2 ⟨rfl, u2⟩
    have U2 := u1.trans u2
    cases h2 : lgOk ys
    · go_wp2
      go_ret
      exact ⟨by unfold lgBegins; rw [h2, Bool.and_false]; rfl, U2⟩
    · by_cases hl : xs.length ≤ ys.length
      · have hb : decide ((xs.length : Int) ≤ (ys.length : Int)) = true := decide_eq_true (by omega)
        go_wp2_with fail
        refine (implLogFork_any _ _ _ _ _ _ _ (hx.grow U2) (hy.grow U2) hlx hly).mono ?_
        rintro e w3 ⟨rfl, u3⟩
        go_wp2
        go_ret
        exact ⟨ret_bool (by unfold lgBegins lgFork; rw [h1, h2, begins_fk hl, if_pos ⟨rfl, rfl⟩]; rfl), U2.trans u3⟩
      · have hb : decide ((xs.length : Int) ≤ (ys.length : Int)) = false := decide_eq_false (by omega)
        go_wp2
        go_ret
        exact ⟨ret_bool (by unfold lgBegins; rw [begins_len (by omega), Bool.and_false]), U2⟩
/-! ### a memory -/
structure Mem where
  long : Int
  sum : Int
  deriving DecidableEq
def see (m : Mem) (xs : List Head) : Mem × Int :=
  if lgOk xs = false ∨ (xs.length : Int) < m.long ∨ m.long < 0 then (m, 1)
  else if sumTo xs m.long.toNat ≠ m.sum then (m, 2)
  else (⟨xs.length, lgSum xs⟩, 0)
def encMem (m : Mem) : Value := .agg #[.int .i64 m.long, .int .i64 m.sum]
theorem sumTo_take (xs : List Head) (m : Nat) (hm : m ≤ xs.length) : lgSum (xs.take m) = sumTo xs m := by
  unfold lgSum
  rw [List.length_take, Nat.min_eq_left hm]
  have : ∀ k, k ≤ m → sumTo (xs.take m) k = sumTo xs k := by
    intro k
    induction k with
    | zero => intro _; rfl
    | succ k ih =>
      intro hk
      simp only [sumTo]
      rw [ih (by omega)]
      have : atHead (xs.take m) k = atHead xs k := by
        unfold atHead
        simp only [List.getD_eq_getElem?_getD]
        rw [List.getElem?_take_of_lt (by omega)]
      rw [this]
  exact this m (Nat.le_refl _)
theorem lgOk_take {xs : List Head} (h : lgOk xs = true) (m : Nat) : lgOk (xs.take m) = true := by
  have h1 := lgOk_len h
  have h2 := lgOk_good h
  unfold lgOk
  rw [decide_eq_true (by rw [List.length_take]; omega), Bool.true_and]
  refine allOk_all fun i hi => ?_
  rw [List.length_take] at hi
  have : atHead (xs.take m) i = atHead xs i := by
    unfold atHead
    simp only [List.getD_eq_getElem?_getD]
    rw [List.getElem?_take_of_lt (by omega)]
  rw [this]
  exact h2 i (by omega)
/-- A cell of two numbers that a result lies in. -/
structure RCell (w : World) (b : Nat) (x y : Value) : Prop where
  c0 : w.cell? ⟨b, 0, none⟩ = some x
  c1 : w.cell? ⟨b, 1, none⟩ = some y
  f0 : w.frozen? ⟨b, 0, none⟩ = false
  f1 : w.frozen? ⟨b, 1, none⟩ = false
theorem RCell.new (w : World) (x y : Value) (t : TypeId) : RCell (w.alloc (.cells #[x, y] t)) w.heap.size x y :=
  ⟨by rw [cell_of_row _ _ _ _ _ _ (heap_alloc_new w _)]; rfl, by rw [cell_of_row _ _ _ _ _ _ (heap_alloc_new w _)]; rfl, World.frozen?_alloc_new w _ _ _, World.frozen?_alloc_new w _ _ _⟩
theorem RCell.grow {w w' : World} {b : Nat} {x y : Value} (h : RCell w b x y) (hu : Upd [] w w') : RCell w' b x y := by
  have hk := hu.block b (World.block_lt_of_cell? w _ h.c0) (by simp)
  exact ⟨hu.cell h.c0 (by simp), hu.cell h.c1 (by simp), (World.frozen?_of_block hk).trans h.f0, (World.frozen?_of_block hk).trans h.f1⟩
theorem RCell.set0 {w : World} {b : Nat} {x y : Value} (h : RCell w b x y) (u : Value) : (w.setCell ⟨b, 0, none⟩ u).cell? ⟨b, 0, none⟩ = some u := World.cell?_setCell_same _ _ _ h.c0
theorem RCell.set1 {w : World} {b : Nat} {x y : Value} (h : RCell w b x y) (u v : Value) : ((w.setCell ⟨b, 0, none⟩ u).setCell ⟨b, 1, none⟩ v).cell? ⟨b, 1, none⟩ = some v :=
  World.cell?_setCell_same _ _ _ ((World.cell?_setCell_other _ _ _ _ (by simp)).trans h.c1)
theorem RCell.upd {w0 w : World} {b : Nat} (hu : Upd [] w0 w) (hb : w0.heap.size ≤ b) (u v : Value) : Upd [] w0 ((w.setCell ⟨b, 0, none⟩ u).setCell ⟨b, 1, none⟩ v) :=
  (hu.setCell (.inr hb) _).setCell (.inr hb) _
/-- What MemorySee hands back. -/
def RetSee (m : Mem) (xs : List Head) (w : World) (e : Ending) (w' : World) : Prop := e = .returned (.tuple #[encMem (see m xs).1, .int .i64 (see m xs).2]) ∧ Upd [] w w'
set_option maxHeartbeats 1000000 in
theorem specMemorySee_any (m : Mem) (A : Option Addr) (c : Nat) (xs : List Head) (w : World) (hx : Sl w A (xs.flatMap encHead)) (hc : xs.length ≤ c) (hlx : xs.length ≤ maxLen) :
    Calls Try.prog 43 #[.agg #[.int .i64 m.long, .int .i64 m.sum], .slice A xs.length c] w (RetSee m xs w) := by
  go_enter Try.func43, Try.ntmps43
  go_wp2_with fail
  have hb1 := RCell.new w (.int .i64 m.long) (.int .i64 m.sum) 47
  have hb2 := RCell.new (w.alloc (.cells #[.int .i64 m.long, .int .i64 m.sum] 47)) (.int .i64 0) (.int .i64 0) 47
  rw [World.size_alloc] at hb2
  have uy := (Upd.refl [] (w.alloc (.cells #[.int .i64 m.long, .int .i64 m.sum] 47))).alloc (.cells #[.int .i64 0, .int .i64 0] 47)
  have ux := ((Upd.refl [] w).alloc (.cells #[.int .i64 m.long, .int .i64 m.sum] 47)).trans uy
  refine (specLogOk_any _ _ _ _ (hx.grow ux) hlx).mono ?_
  rintro e w1 ⟨rfl, u1⟩
  have U1 := ux.trans u1
  have R := hb2.grow u1
  have M := (hb1.grow uy).grow u1
  clear hb1 hb2 ux uy
  have f0 := R.f0
  have f1 := R.f1
  have r0 := R.c0
  have r1 := R.c1
  have c0 := M.c0
  have c1 := M.c1
  cases h1 : lgOk xs
  · have e1 : see m xs = (m, 1) := by unfold see; rw [if_pos (.inl h1)]
    have E1 := Lib.hid e1
    clear e1
    go_wp2
    refine bodyPost_ret (v := .tuple #[.agg #[.int .i64 m.long, .int .i64 m.sum], .int .i64 1]) (by simp [results, Try.results43, go_sem, R.set0, R.set1]) rfl ⟨by rw [E1.out]; rfl, RCell.upd U1 (by omega) _ _⟩
  · by_cases h2 : (xs.length : Int) < m.long
    · have e1 : see m xs = (m, 1) := by unfold see; rw [if_pos (.inr (.inl h2))]
      have E1 := Lib.hid e1
      have hb : decide ((xs.length : Int) < m.long) = true := decide_eq_true h2
      clear e1
      go_wp2
      refine bodyPost_ret (v := .tuple #[.agg #[.int .i64 m.long, .int .i64 m.sum], .int .i64 1]) (by simp [results, Try.results43, go_sem, R.set0, R.set1]) rfl ⟨by rw [E1.out]; rfl, RCell.upd U1 (by omega) _ _⟩
    · have hb : decide ((xs.length : Int) < m.long) = false := decide_eq_false h2
      by_cases h3 : m.long < 0
      · have e1 : see m xs = (m, 1) := by unfold see; rw [if_pos (.inr (.inr h3))]
        have E1 := Lib.hid e1
        have hb2 : decide (m.long < 0) = true := decide_eq_true h3
        clear e1
        go_wp2
        refine bodyPost_ret (v := .tuple #[.agg #[.int .i64 m.long, .int .i64 m.sum], .int .i64 1]) (by simp [results, Try.results43, go_sem, R.set0, R.set1]) rfl ⟨by rw [E1.out]; rfl, RCell.upd U1 (by omega) _ _⟩
      · have hb2 : decide (m.long < 0) = false := decide_eq_false h3
        obtain ⟨L, hL⟩ := Int.eq_ofNat_of_zero_le (show 0 ≤ m.long by omega)
        have hLx : L ≤ xs.length := by omega
        have hxl := lgOk_len h1
        have hs : see m xs = if sumTo xs L ≠ m.sum then (m, 2) else (⟨xs.length, lgSum xs⟩, 0) := by unfold see; rw [if_neg (by rw [h1]; simp; omega), hL]; rfl
        rw [hL] at c0 hb hb2
        have d0 := fun g : Later w1 => g.cell c0
        have d1 := fun g : Later w1 => g.cell c1
        have hst := (hx.grow U1).head_take L
        have htl : (xs.take L).length = L := by rw [List.length_take]; omega
        have hgood := lgOk_good (lgOk_take h1 L)
        have hsum := sumTo_take xs L hLx
        have k1 : (L : Int) ≤ c := by omega
        have k2 : L ≤ c := by omega
        have hcall := fun g : Later w1 => l13Sum_any A c (xs.take L) g.world (hst.grow g.upd) hgood (by omega)
        rw [htl, hsum] at hcall
        by_cases h4 : sumTo xs L = m.sum
        · have e1 : see m xs = (⟨xs.length, lgSum xs⟩, 0) := by rw [hs, if_neg (by simpa using h4)]
          have E1 := Lib.hid e1
          have hb3 : (sumTo xs L != m.sum) = false := by simpa using h4
          have H4 := Lib.hid h4
          clear e1 hs h4 f0 f1 r0 r1
          go_wp2
          refine wp_region_calm (by kernel_rfl) (by kernel_rfl) ?_
          repeat (any_goals (first | go_big_quiet_step ((first | (go_at_call 57; exact Calls.calm (hcall _)))) | quiet_step ((first | (go_at_call 57; exact Calls.calm (hcall _))))))
          refine wpQuiet_nil ?_
          rintro _ ⟨g, rfl⟩
          have hg := g.upd
          have R2 := R.grow hg
          have f0 := R2.f0
          have f1 := R2.f1
          have r0 := R2.c0
          have r1 := R2.c1
          go_wp2_with fail
          refine (l13Sum_any _ _ _ _ ((hx.grow U1).grow hg) (lgOk_good h1) hxl).mono ?_
          rintro e w2 ⟨rfl, u2⟩
          have R3 := R2.grow u2
          have f0 := R3.f0
          have f1 := R3.f1
          have r0 := R3.c0
          have r1 := R3.c1
          go_wp2
          refine bodyPost_ret (v := .tuple #[.agg #[.int .i64 xs.length, .int .i64 (lgSum xs)], .int .i64 0]) (by simp [results, Try.results43, go_sem, R3.set0, R3.set1]) rfl ⟨by rw [E1.out]; rfl, RCell.upd ((U1.trans hg).trans u2) (by omega) _ _⟩
        · have e1 : see m xs = (m, 2) := by rw [hs, if_pos h4]
          have E1 := Lib.hid e1
          have hb3 : (sumTo xs L != m.sum) = true := by simpa using h4
          clear e1 hs f0 f1 r0 r1
          go_wp2
          refine wp_region_calm (by kernel_rfl) (by kernel_rfl) ?_
          repeat (any_goals (first | go_big_quiet_step ((first | (go_at_call 57; exact Calls.calm (hcall _)))) | quiet_step ((first | (go_at_call 57; exact Calls.calm (hcall _))))))
          refine wpQuiet_nil ?_
          rintro _ ⟨g, rfl⟩
          have hg := g.upd
          have R2 := R.grow hg
          have f0 := R2.f0
          have f1 := R2.f1
          have r0 := R2.c0
          have r1 := R2.c1
          go_wp2
          refine bodyPost_ret (v := .tuple #[.agg #[.int .i64 L, .int .i64 m.sum], .int .i64 2]) (by simp [results, Try.results43, go_sem, R2.set0, R2.set1]) rfl ⟨by rw [E1.out, ← hL]; rfl, RCell.upd (U1.trans hg) (by omega) _ _⟩
end Go.Proofs.Ytjkagmelpgpjgaa
