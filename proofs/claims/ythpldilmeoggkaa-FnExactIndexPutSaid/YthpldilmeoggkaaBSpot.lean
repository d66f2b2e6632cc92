/- Entries: their cells, and rows of them. -/
import Derived.Test.YthpldilmeoggkaaBr
namespace Go.Proofs.Ythpldilmeoggkaa.Q
open Go.RowKit Go.Proofs.YthpldilmeoggkaaW.PrintWords
set_option linter.unusedVariables false
abbrev Spot := S25
instance : DecidableEq Spot := fun x y => if h : x.f0 = y.f0 ∧ x.f1 = y.f1 then isTrue (by cases x; cases y; simp_all) else isFalse (by rintro rfl; exact h ⟨rfl, rfl⟩)
def encSpot (x : Spot) : List Value := [.int .i64 x.f0, .int .i64 x.f1]
def atSpot (xs : List Spot) (i : Nat) : Spot := xs.getD i z25
theorem atSpot_get {xs : List Spot} {i : Nat} (hi : i < xs.length) : atSpot xs i = xs[i] := by simp [atSpot, hi]
theorem spotT : SliceT Try.prog 23 25 2 16 := ⟨Try.underlying23, by omega, .agg #[.int .i64 0, .int .i64 0], rfl, by kernel_rfl⟩
theorem oneSpot (xs : List Spot) : ∀ u ∈ xs.flatMap encSpot, u.oneCell' = true := by
  intro u hu
  obtain ⟨x, _, hx⟩ := List.mem_flatMap.1 hu
  simp only [encSpot, List.mem_cons, List.not_mem_nil, or_false] at hx
  rcases hx with rfl | rfl <;> rfl
theorem lenSpot (xs : List Spot) : (xs.flatMap encSpot).length = xs.length * 2 := flat_len encSpot 2 (fun _ => rfl) xs
theorem spot_at {w : World} {A : Option Addr} {xs : List Spot} (h : Sl w A (xs.flatMap encSpot)) {i : Nat} (hi : i < xs.length) :
    ∃ b o, A = some ⟨b, o, none⟩ ∧ w.cell? ⟨b, o + i * 2, none⟩ = some (.int .i64 (atSpot xs i).f0) ∧ w.cell? ⟨b, o + i * 2 + 1, none⟩ = some (.int .i64 (atSpot xs i).f1) := by
  rw [atSpot_get hi]
  exact h.two (f := fun x : Spot => .int .i64 x.f0) (g := fun x : Spot => .int .i64 x.f1) (fun _ => rfl) hi
theorem spot_C {w : World} {A : Option Addr} {n : Nat} {xs : List Spot} (h : Kd.C k25 w A n xs) : Sl w A (xs.flatMap encSpot) := sl_of_C (fun _ _ h => k25_open h) (fun _ => rfl) h
theorem spot_R {w : World} {A : Option Addr} {xs : List Spot} {base e c : Nat} (h : Own w base e 2 A xs.length c (xs.flatMap encSpot)) : Kd.R k25 e w base (fun _ => True) (.slice A xs.length c) xs :=
  rowOwn (fun _ _ _ x => k25_mkM _ _ _ x) (fun _ => rfl) rfl h
end Go.Proofs.Ythpldilmeoggkaa.Q
