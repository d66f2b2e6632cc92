/- Logs: what the program's memory sees. -/
import Derived.Test.YtjkagmelpgpjgaaLn
namespace Go.Proofs.Ytjkagmelpgpjgaa
open Go.RowKit
set_option linter.unusedVariables false
set_option linter.unusedSimpArgs false

set_option maxHeartbeats 1000000 in
theorem implMemorySee_any (m : Mem) (A : Option Addr) (c : Nat) (xs : List Head) (w : World) (hx : Sl w A (xs.flatMap encHead)) (hc : xs.length ≤ c) (hlx : xs.length ≤ maxLen) :
    Calls Try.prog 44 #[.agg #[.int .i64 m.long, .int .i64 m.sum], .slice A xs.length c] w (RetSee m xs w) := by
  go_enter Try.func44, Try.ntmps44
  go_wp2_with fail
  have hb1 := RCell.new w (.int .i64 m.long) (.int .i64 m.sum) 47
  have hb2 := RCell.new (w.alloc (.cells #[.int .i64 m.long, .int .i64 m.sum] 47)) (.int .i64 0) (.int .i64 0) 47
  rw [World.size_alloc] at hb2
  have uy := (Upd.refl [] (w.alloc (.cells #[.int .i64 m.long, .int .i64 m.sum] 47))).alloc (.cells #[.int .i64 0, .int .i64 0] 47)
  have ux := ((Upd.refl [] w).alloc (.cells #[.int .i64 m.long, .int .i64 m.sum] 47)).trans uy
  refine (implLogOk_any _ _ _ _ (hx.grow ux) hlx).mono ?_
  rintro e w1 ⟨rfl, u1⟩
  have U1 := ux.trans u1
  have R := hb2.grow u1
  have M := (hb1.grow uy).grow u1
  clear hb1 hb2 ux uy
  have f0 := R.f0
  have f1 := R.f1
  have r0 := R.c0
  have r1 := R.c1
  have c0 := M.c0
  have c1 := M.c1
  cases h1 : lgOk xs
  · have e1 : see m xs = (m, 1) := by unfold see; rw [if_pos (.inl h1)]
    have E1 := Lib.hid e1
    clear e1
    go_wp2
    refine bodyPost_ret (v := .tuple #[.agg #[.int .i64 m.long, .int .i64 m.sum], .int .i64 1]) (by simp [results, Try.results44, go_sem, R.set0, R.set1]) rfl ⟨by rw [E1.out]; rfl, RCell.upd U1 (by omega) _ _⟩
  · by_cases h2 : (xs.length : Int) < m.long
    · have e1 : see m xs = (m, 1) := by unfold see; rw [if_pos (.inr (.inl h2))]
      have E1 := Lib.hid e1
      have hb : decide ((xs.length : Int) < m.long) = true := decide_eq_true h2
      clear e1
      go_wp2
      refine bodyPost_ret (v := .tuple #[.agg #[.int .i64 m.long, .int .i64 m.sum], .int .i64 1]) (by simp [results, Try.results44, go_sem, R.set0, R.set1]) rfl ⟨by rw [E1.out]; rfl, RCell.upd U1 (by omega) _ _⟩
    · have hb : decide ((xs.length : Int) < m.long) = false := decide_eq_false h2
      by_cases h3 : m.long < 0
      · have e1 : see m xs = (m, 1) := by unfold see; rw [if_pos (.inr (.inr h3))]
        have E1 := Lib.hid e1
        have hb2 : decide (m.long < 0) = true := decide_eq_true h3
        clear e1
        go_wp2
        refine bodyPost_ret (v := .tuple #[.agg #[.int .i64 m.long, .int .i64 m.sum], .int .i64 1]) (by simp [results, Try.results44, go_sem, R.set0, R.set1]) rfl ⟨by rw [E1.out]; rfl, RCell.upd U1 (by omega) _ _⟩
      · have hb2 : decide (m.long < 0) = false := decide_eq_false h3
        obtain ⟨L, hL⟩ := Int.eq_ofNat_of_zero_le (show 0 ≤ m.long by omega)
        have hLx : L ≤ xs.length := by omega
        have hxl := lgOk_len h1
        have hs : see m xs = if sumTo xs L ≠ m.sum then (m, 2) else (⟨xs.length, lgSum xs⟩, 0) := by unfold see; rw [if_neg (by rw [h1]; simp; omega), hL]; rfl
        rw [hL] at c0 hb hb2
        have d0 := fun g : Later w1 => g.cell c0
        have d1 := fun g : Later w1 => g.cell c1
        have hpos := hx.grow U1
        have hbn : decide (xs.length < L) = false := decide_eq_false (by omega)
        clear f0 f1 r0 r1
        go_wp2_with fail
        go_cut [23] (fun v wx => v = .bool (sumTo xs L != m.sum) ∧ Upd [] w1 wx)
        case first =>
          go_region_with (first
            | (go_at_call 56; refine (linked_any _ _ _ _ ?_ hlx).mono ?_; exact hpos.grow (Upd.refl _ _).drew; rintro e w2 ⟨p, rfl, hp, u2⟩; have c0' := u2.cell (p := ⟨w.heap.size, 0, none⟩) c0 (by simp); have c1' := u2.cell (p := ⟨w.heap.size, 1, none⟩) c1 (by simp); have v2 : Upd [] w1 w2 := (Upd.refl [] w1).drew.trans u2)
            | (go_at_call 58; refine (linkSum_any _ _ xs L _ hp (fun k hk => sumTo_le h1 hk) (lgOk_good h1) hLx hxl).mono ?_; rintro e w3 ⟨rfl, u3⟩; have c0'' := u3.cell c0' (by simp); have c1'' := u3.cell c1' (by simp); have v3 := v2.trans u3))
          all_goals
            go_wp2
            go_meet
            case rel => exact ⟨rfl, v3⟩
        case rest =>
          obtain ⟨rfl, u2⟩ := hcut
          generalize wc = w2 at *
          have U2 := U1.trans u2
          have R2 := R.grow u2
          have M2 := M.grow u2
          have f0 := R2.f0
          have f1 := R2.f1
          have r0 := R2.c0
          have r1 := R2.c1
          have c0 := M2.c0
          have c1 := M2.c1
          rw [hL] at c0
          by_cases h4 : sumTo xs L = m.sum
          · have e1 : see m xs = (⟨xs.length, lgSum xs⟩, 0) := by rw [hs, if_neg (by simpa using h4)]
            have E1 := Lib.hid e1
            have hb3 : (sumTo xs L != m.sum) = false := by simpa using h4
            have H4 := Lib.hid h4
            have hls : logSum xs = lgSum xs := by unfold logSum; rw [if_pos h1]
            clear e1 hs h4 f0 f1 r0 r1
            go_wp2_with fail
            refine (implLogSum_any _ _ _ _ (hx.grow U2) hlx).mono ?_
            rintro e w3 ⟨rfl, u3⟩
            have R3 := R2.grow u3
            have f0 := R3.f0
            have f1 := R3.f1
            have r0 := R3.c0
            have r1 := R3.c1
            go_wp2
            refine bodyPost_ret (v := .tuple #[.agg #[.int .i64 xs.length, .int .i64 (lgSum xs)], .int .i64 0]) (by simp [results, Try.results44, go_sem, R3.set0, R3.set1, hls]) rfl ⟨by rw [E1.out]; rfl, RCell.upd (U2.trans u3) (by omega) _ _⟩
          · have e1 : see m xs = (m, 2) := by rw [hs, if_pos h4]
            have E1 := Lib.hid e1
            have hb3 : (sumTo xs L != m.sum) = true := by simpa using h4
            clear e1 hs
            go_wp2
            refine bodyPost_ret (v := .tuple #[.agg #[.int .i64 L, .int .i64 m.sum], .int .i64 2]) (by simp [results, Try.results44, go_sem, R2.set0, R2.set1]) rfl ⟨by rw [E1.out, ← hL]; rfl, RCell.upd U2 (by omega) _ _⟩
end Go.Proofs.Ytjkagmelpgpjgaa
