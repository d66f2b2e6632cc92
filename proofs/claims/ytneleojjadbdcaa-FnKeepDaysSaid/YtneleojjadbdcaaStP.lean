/- Plain facts on histories: one removed, one repeated, a bad one behind. -/
import Derived.Test.YtneleojjadbdcaaSt
namespace Go.Proofs.Ytneleojjadbdcaa
open Go.RowKit

theorem stOk_len {xs : List Stamp} (h : stOk xs = true) : xs.length ≤ 12 := by
  unfold stOk at h
  rw [Bool.and_eq_true] at h
  exact of_decide_eq_true h.1
theorem stOk_good {xs : List Stamp} (h : stOk xs = true) : ∀ i, i < xs.length → stGood xs i := by
  unfold stOk at h
  rw [Bool.and_eq_true] at h
  exact of_decide_eq_true h.2
theorem stOk_of {xs : List Stamp} (hl : xs.length ≤ 12) (h : ∀ i, i < xs.length → stGood xs i) : stOk xs = true := by
  rw [stOk_all h]
  exact decide_eq_true hl
theorem atStamp_mid (xs : List Stamp) (a b i : Nat) (ha : a ≤ xs.length) : atStamp (xs.take a ++ xs.drop b) i = if i < a then atStamp xs i else atStamp xs (i - a + b) := by
  unfold atStamp
  simp only [List.getD_eq_getElem?_getD]
  by_cases hi : i < a
  · rw [if_pos hi, List.getElem?_append_left (by rw [List.length_take]; omega), List.getElem?_take, if_pos hi]
  · rw [if_neg hi, List.getElem?_append_right (by rw [List.length_take]; omega), List.getElem?_drop, List.length_take, Nat.min_eq_left ha]
    congr 2
    omega
theorem stOk_less {xs : List Stamp} {k : Nat} (h : stOk xs = true) (hk : k < xs.length) : stOk (xs.take k ++ xs.drop (k + 1)) = true := by
  have hl := stOk_len h
  have hlen : (xs.take k ++ xs.drop (k + 1)).length = xs.length - 1 := by simp; omega
  refine stOk_of (by omega) fun i hi => ?_
  have g := stOk_good h
  rw [hlen] at hi
  unfold stGood
  rw [atStamp_mid xs k (k + 1) i (by omega), atStamp_mid xs k (k + 1) (i - 1) (by omega)]
  by_cases h1 : i < k
  · rw [if_pos h1]
    have := g i (by omega)
    unfold stGood at this
    refine ⟨this.1, this.2.1, fun h0 => ?_⟩
    rw [if_pos (by omega)]
    exact this.2.2 h0
  · rw [if_neg h1, show i - k + (k + 1) = i + 1 from by omega]
    have g1 := g (i + 1) (by omega)
    unfold stGood at g1
    refine ⟨g1.1, g1.2.1, fun h0 => ?_⟩
    have g2 := g1.2.2 (by omega)
    rw [show i + 1 - 1 = i from by omega] at g2
    by_cases h2 : i - 1 < k
    · rw [if_pos h2]
      have hik : i = k := by omega
      have g3 := g i (by omega)
      unfold stGood at g3
      have g4 := g3.2.2 h0
      omega
    · rw [if_neg h2, show i - 1 - k + (k + 1) = i from by omega]
      exact g2
theorem stOk_twice {xs : List Stamp} {k : Nat} (hk : k < xs.length) : stOk (xs.take (k + 1) ++ xs.drop k) = false := by
  refine stOk_not (i := k + 1) (by simp; omega) fun h => ?_
  unfold stGood at h
  have := (h.2.2 (by omega)).1
  rw [atStamp_mid xs (k + 1) k _ (by omega), atStamp_mid xs (k + 1) k _ (by omega), if_pos (by omega), if_neg (by omega), show k + 1 - 1 = k from by omega, show k + 1 - (k + 1) + k = k from by omega] at this
  omega
theorem stOk_back (xs : List Stamp) (s : Int) : stOk (xs ++ [⟨s, -1⟩]) = false := by
  refine stOk_not (i := xs.length) (by simp) fun h => ?_
  unfold stGood at h
  have := h.2.1.1
  simp [atStamp] at this
end Go.Proofs.Ytneleojjadbdcaa
