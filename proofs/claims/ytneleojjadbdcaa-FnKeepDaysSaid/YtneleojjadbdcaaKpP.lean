/- Plain facts on retention. -/
import Derived.Test.YtneleojjadbdcaaKp
namespace Go.Proofs.Ytneleojjadbdcaa
open Go.RowKit

theorem lastN_length (l : List Int) (many : Int) : (lastN l many).length = (min (max many 0) l.length).toNat := by
  unfold lastN
  rw [List.length_drop]
  omega
theorem lastN_drop (l : List Int) (a b : Int) (h : a ≤ b) : (lastN l b).drop ((lastN l b).length - (lastN l a).length) = lastN l a := by
  have h1 := lastN_length l a
  have h2 := lastN_length l b
  rw [h1, h2]
  unfold lastN
  rw [List.drop_drop]
  congr 1
  omega
theorem per_zero_get (xs : List Stamp) (i : Nat) (hi : i < xs.length) : (per xs 0)[i]? = some (atStamp xs i).snap := by
  unfold per perTo
  rw [List.filter_eq_self.2 (fun i _ => by simp [perAt])]
  simp [hi]
theorem keepLast_get (xs : List Stamp) (many : Int) (h : stOk xs = true) (i : Nat) (hi : i < (min (max many 0) xs.length).toNat) :
    (keepLast xs many)[i]? = some (atStamp xs (xs.length - (min (max many 0) xs.length).toNat + i)).snap := by
  unfold keepLast lastN
  rw [if_pos h, show (per xs 0).length = xs.length from perTo_zero_len xs xs.length, List.getElem?_drop]
  exact per_zero_get xs _ (by omega)
theorem keepLast_length (xs : List Stamp) (many : Int) (h : stOk xs = true) : (keepLast xs many).length = (min (max many 0) xs.length).toNat := by
  unfold keepLast
  rw [if_pos h, lastN_length, show (per xs 0).length = xs.length from perTo_zero_len xs xs.length]

/-! ### spans -/
theorem snap_lt {xs : List Stamp} (h : stOk xs = true) : ∀ (d i : Nat), i + d + 1 < xs.length → (atStamp xs i).snap < (atStamp xs (i + d + 1)).snap
  | 0, i, hi => by
    have g := stOk_good h (i + 1) (by omega)
    unfold stGood at g
    have := (g.2.2 (by omega)).1
    simpa using this
  | d + 1, i, hi => by
    have h1 := snap_lt h d i (by omega)
    have g := stOk_good h (i + (d + 1) + 1) (by omega)
    unfold stGood at g
    have h2 := (g.2.2 (by omega)).1
    rw [show i + (d + 1) + 1 - 1 = i + d + 1 from by omega] at h2
    omega
theorem snap_inj {xs : List Stamp} (h : stOk xs = true) {i j : Nat} (hi : i < xs.length) (hj : j < xs.length) (he : (atStamp xs i).snap = (atStamp xs j).snap) : i = j := by
  rcases Nat.lt_trichotomy i j with hl | hl | hl
  · have := snap_lt h (j - i - 1) i (by omega)
    rw [show i + (j - i - 1) + 1 = j from by omega] at this
    omega
  · exact hl
  · have := snap_lt h (i - j - 1) j (by omega)
    rw [show j + (i - j - 1) + 1 = i from by omega] at this
    omega
theorem day_le {xs : List Stamp} (h : stOk xs = true) {i : Nat} (hi : i + 1 < xs.length) : (atStamp xs i).day ≤ (atStamp xs (i + 1)).day := by
  have g := stOk_good h (i + 1) hi
  unfold stGood at g
  have := (g.2.2 (by omega)).2
  simpa using this
theorem day_range {xs : List Stamp} (h : stOk xs = true) {i : Nat} (hi : i < xs.length) : 0 ≤ (atStamp xs i).day ∧ (atStamp xs i).day ≤ 99 := by
  have g := stOk_good h i hi
  unfold stGood at g
  exact g.2.1
theorem mem_dsTo {xs : List Stamp} (h : stOk xs = true) (span : Int) {i : Nat} (hi : i < xs.length) : ∀ (d j : Nat), j + d = xs.length → ((atStamp xs i).snap ∈ dsTo xs span j ↔ j ≤ i ∧ perAt xs span i = true)
  | 0, j, hj => by
    obtain rfl : j = xs.length := by omega
    rw [dsTo_all]
    simp
    omega
  | d + 1, j, hj => by
    have ih := mem_dsTo h span hi d (j + 1) (by omega)
    rw [dsTo_succ xs span j (by omega)]
    by_cases hp : perAt xs span j = true
    · rw [if_pos hp, List.mem_cons, ih]
      constructor
      · rintro (he | ⟨h1, h2⟩)
        · have := snap_inj h hi (by omega) he
          subst this
          exact ⟨Nat.le_refl _, hp⟩
        · exact ⟨by omega, h2⟩
      · rintro ⟨h1, h2⟩
        by_cases he : i = j
        · subst he; exact .inl rfl
        · exact .inr ⟨by omega, h2⟩
    · rw [if_neg hp, ih]
      constructor
      · rintro ⟨h1, h2⟩; exact ⟨by omega, h2⟩
      · rintro ⟨h1, h2⟩
        by_cases he : i = j
        · subst he; exact absurd h2 hp
        · exact ⟨by omega, h2⟩
theorem dsTo_len_succ (xs : List Stamp) (span : Int) {i : Nat} (hi : i < xs.length) : (dsTo xs span i).length = (dsTo xs span (i + 1)).length + if perAt xs span i = true then 1 else 0 := by
  rw [dsTo_succ xs span i hi]
  split <;> simp
theorem dsTo_len_mono (xs : List Stamp) (span : Int) (i : Nat) : ∀ d, i + d ≤ xs.length → (dsTo xs span (i + d)).length ≤ (dsTo xs span i).length
  | 0, _ => Nat.le_refl _
  | d + 1, h => by
    have h1 := dsTo_len_mono xs span i d (by omega)
    have h2 := dsTo_len_succ xs span (i := i + d) (by omega)
    rw [← Nat.add_assoc]
    omega
theorem lastN_is (xs : List Stamp) (span many : Int) : ∀ k, k ≤ xs.length → ((dsTo xs span k).length : Int) ≤ max many 0 →
    ∃ j, j ≤ k ∧ lastN (per xs span) many = dsTo xs span j ∧ ((dsTo xs span j).length : Int) ≤ max many 0 ∧ ∀ i, i < j → max many 0 < (dsTo xs span i).length
  | 0, hk, h => ⟨0, Nat.le_refl _, (dsTo_lastN xs span many 0 hk h (.inl rfl)).symm, h, fun i hi => by omega⟩
  | k + 1, hk, h => by
    by_cases hm : ((dsTo xs span k).length : Int) ≤ max many 0
    · obtain ⟨j, h1, h2⟩ := lastN_is xs span many k (by omega) hm
      exact ⟨j, by omega, h2⟩
    · have hs := dsTo_len_succ xs span (i := k) (by omega)
      refine ⟨k + 1, Nat.le_refl _, (dsTo_lastN xs span many (k + 1) hk h (.inr (by split at hs <;> omega))).symm, h, fun i hi => ?_⟩
      have := dsTo_len_mono xs span i (k - i) (by omega)
      rw [show i + (k - i) = k from by omega] at this
      omega
theorem mem_keepDays {xs : List Stamp} (h : stOk xs = true) {span : Int} (hsp : 1 ≤ span) (many : Int) {i : Nat} (hi : i < xs.length) :
    (atStamp xs i).snap ∈ keepDays xs span many ↔ perAt xs span i = true ∧ ((dsTo xs span i).length : Int) ≤ many := by
  obtain ⟨j, hj, he, hl, hn⟩ := lastN_is xs span many xs.length (Nat.le_refl _) (by rw [dsTo_all]; simp; omega)
  unfold keepDays
  rw [if_pos ⟨h, hsp⟩, he, mem_dsTo h span hi (xs.length - j) j (by omega)]
  constructor
  · rintro ⟨h1, h2⟩
    refine ⟨h2, ?_⟩
    have h3 := dsTo_len_mono xs span j (i - j) (by omega)
    rw [show j + (i - j) = i from by omega] at h3
    have h4 := dsTo_len_succ xs span hi
    rw [if_pos h2] at h4
    omega
  · rintro ⟨h1, h2⟩
    refine ⟨?_, h1⟩
    rcases Nat.lt_or_ge i j with hl2 | hl2
    · have := hn i hl2
      omega
    · exact hl2
theorem keepDays_len_le (xs : List Stamp) (span many : Int) : ((keepDays xs span many).length : Int) ≤ max many 0 := by
  unfold keepDays
  split
  · rw [lastN_length]; omega
  · simp; omega
theorem keepDays_more {xs : List Stamp} (span many d : Int) (hd : 0 ≤ d) : (keepDays xs span many).length ≤ (keepDays xs span (many + d)).length ∧ (keepDays xs span (many + d)).drop ((keepDays xs span (many + d)).length - (keepDays xs span many).length) = keepDays xs span many := by
  unfold keepDays
  split
  · refine ⟨?_, lastN_drop _ _ _ (by omega)⟩
    rw [lastN_length, lastN_length]
    omega
  · simp
theorem keepDays_all {xs : List Stamp} (h : stOk xs = true) {span : Int} (hsp : 1 ≤ span) : keepDays xs span xs.length = per xs span := by
  have hp : (per xs span).length ≤ xs.length := perTo_len xs span xs.length
  unfold keepDays lastN
  rw [if_pos ⟨h, hsp⟩, show (per xs span).length - (min (max (xs.length : Int) 0) ((per xs span).length : Int)).toNat = 0 from by omega, List.drop_zero]
theorem per_week_day {xs : List Stamp} {i : Nat} (h : perAt xs 7 i = true) : perAt xs 1 i = true := by
  unfold perAt at *
  simp only [Bool.or_eq_true, decide_eq_true_eq] at *
  rcases h with (h | h) | h
  · omega
  · exact .inl (.inr h)
  · right
    intro he
    apply h
    rw [Int.ediv_one, Int.ediv_one] at he
    rw [he]
theorem filter_sub {p q : Nat → Bool} (h : ∀ i, p i = true → q i = true) : ∀ l : List Nat, (l.filter p).length ≤ (l.filter q).length
  | [] => by simp
  | x :: l => by
    have := filter_sub h l
    rw [List.filter_cons, List.filter_cons]
    by_cases hp : p x = true
    · rw [if_pos hp, if_pos (h x hp), List.length_cons, List.length_cons]; omega
    · rw [if_neg hp]
      split
      · rw [List.length_cons]; omega
      · exact this
theorem weeks_in_days {xs : List Stamp} {n : Int} (h : n ∈ per xs 7) : n ∈ per xs 1 := by
  unfold per perTo at *
  obtain ⟨i, hi, rfl⟩ := List.mem_map.1 h
  obtain ⟨h1, h2⟩ := List.mem_filter.1 hi
  exact List.mem_map.2 ⟨i, List.mem_filter.2 ⟨h1, per_week_day h2⟩, rfl⟩
theorem weeks_le_days (xs : List Stamp) : (per xs 7).length ≤ (per xs 1).length ∧ (per xs 1).length ≤ xs.length := by
  refine ⟨?_, perTo_len xs 1 xs.length⟩
  unfold per perTo
  rw [List.length_map, List.length_map]
  exact filter_sub (fun i => per_week_day) _
end Go.Proofs.Ytneleojjadbdcaa
