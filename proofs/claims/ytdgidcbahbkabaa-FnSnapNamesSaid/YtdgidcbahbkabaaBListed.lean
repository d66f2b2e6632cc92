/- Listed files of a snapshot, as rows of elements of two cells. -/
import Derived.Test.YtdgidcbahbkabaaBr
namespace Go.Proofs.Ytdgidcbahbkabaa.Q
open Go.RowKit Go.Proofs.YtdgidcbahbkabaaW.PrintWords
set_option linter.unusedVariables false
set_option linter.unusedSimpArgs false
abbrev Listed := S40
def atListed (xs : List Listed) (i : Nat) : Listed := xs.getD i z40
theorem atListed_get {xs : List Listed} {i : Nat} (hi : i < xs.length) : atListed xs i = xs[i] := by simp [atListed, hi]
theorem listed_at {w : World} {A : Option Addr} {n : Nat} {xs : List Listed} (h : Kd.C k40 w A n xs) {j : Nat} (hj : j < xs.length) :
    ∃ b o A1 c1, A = some ⟨b, o, none⟩ ∧ w.cell? ⟨b, o + j * 2, none⟩ = some (.string (atListed xs j).f0) ∧ w.cell? ⟨b, o + j * 2 + 1, none⟩ = some (.slice A1 (atListed xs j).f1.length c1) ∧ (atListed xs j).f1.length ≤ c1 ∧ Kd.C (Kd.int .i64) w A1 (atListed xs j).f1.length (atListed xs j).f1 := by
  rw [atListed_get hj]
  obtain ⟨b, o, c, rfl, hk, hc⟩ := rowAt h (by decide : 0 < (k40).sz) hj
  obtain ⟨A1, c1, rfl, hl, hC⟩ := k40_open hk
  exact ⟨b, o, A1, c1, rfl, hc 0 _ rfl, hc 1 _ rfl, hl, hC⟩
end Go.Proofs.Ytdgidcbahbkabaa.Q
