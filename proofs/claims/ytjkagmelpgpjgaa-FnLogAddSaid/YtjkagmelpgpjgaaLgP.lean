/- Plain facts on logs: digests tell logs apart, beginnings, forks, memories. -/
import Derived.Test.YtjkagmelpgpjgaaLn
namespace Go.Proofs.Ytjkagmelpgpjgaa
open Go.RowKit
set_option linter.unusedVariables false
set_option linter.unusedSimpArgs false

theorem lgOk_iff {xs : List Head} : lgOk xs = true ↔ xs.length ≤ 9 ∧ ∀ h ∈ xs, hdOk h = true := by
  constructor
  · intro h
    refine ⟨lgOk_len h, fun x hx => ?_⟩
    obtain ⟨i, hi, rfl⟩ := List.getElem_of_mem hx
    rw [← atHead_get hi]
    exact lgOk_good h i hi
  · rintro ⟨h1, h2⟩
    unfold lgOk
    rw [decide_eq_true h1, Bool.true_and]
    exact allOk_all fun i hi => by rw [atHead_get hi]; exact h2 _ (List.getElem_mem hi)
theorem lgOk_bad {xs : List Head} {h : Head} (hh : hdOk h = false) : lgOk (xs ++ [h]) = false := by
  cases hs : lgOk (xs ++ [h])
  · rfl
  · have := (lgOk_iff.1 hs).2 h (by simp)
    rw [hh] at this
    cases this
theorem lgOk_snoc {xs : List Head} {h : Head} (hx : lgOk xs = true) (hh : hdOk h = true) (hl : xs.length < 9) : lgOk (xs ++ [h]) = true := by
  refine lgOk_iff.2 ⟨by simp; omega, fun g hg => ?_⟩
  rcases List.mem_append.1 hg with hg | hg
  · exact (lgOk_iff.1 hx).2 g hg
  · rw [List.mem_singleton.1 hg]; exact hh
theorem sumTo_append (xs zs : List Head) : ∀ k, k ≤ xs.length → sumTo (xs ++ zs) k = sumTo xs k
  | 0, _ => rfl
  | k + 1, hk => by
    simp only [sumTo]
    rw [sumTo_append xs zs k (by omega)]
    have : atHead (xs ++ zs) k = atHead xs k := by
      unfold atHead
      simp only [List.getD_eq_getElem?_getD]
      rw [List.getElem?_append_left (by omega)]
    rw [this]
theorem lgSum_snoc (xs : List Head) (x : Head) : lgSum (xs ++ [x]) = 64 * lgSum xs + (21 * x.by_ + x.snap) := by
  unfold lgSum
  rw [List.length_append, List.length_singleton]
  simp only [sumTo]
  rw [sumTo_append xs [x] xs.length (Nat.le_refl _)]
  have : atHead (xs ++ [x]) xs.length = x := by unfold atHead; simp
  rw [this]
  omega
theorem lgSum_nonneg : ∀ (n : Nat) (xs : List Head), xs.length = n → (∀ h ∈ xs, hdOk h = true) → 0 ≤ lgSum xs
  | 0, xs, hn, _ => by rw [List.eq_nil_of_length_eq_zero hn]; simp [lgSum, sumTo]
  | n + 1, xs, hn, hx => by
    rcases List.eq_nil_or_concat xs with h | ⟨ys, y, h⟩
    · rw [h] at hn; simp at hn
    · rw [List.concat_eq_append] at h
      subst h
      have h1 := lgSum_nonneg n ys (by simpa using hn) (fun g hg => hx g (by simp [hg]))
      have h2 := hd_range (hx y (by simp))
      rw [lgSum_snoc]
      omega
theorem hd_inj {x y : Head} (hx : hdOk x = true) (hy : hdOk y = true) (h : 21 * x.by_ + x.snap = 21 * y.by_ + y.snap) : x = y := by
  have h1 := hdOk_true.1 hx
  have h2 := hdOk_true.1 hy
  have h3 : x.by_ = y.by_ := by omega
  have h4 : x.snap = y.snap := by omega
  cases x; cases y
  simp only at h3 h4
  rw [h3, h4]
theorem lgSum_inj : ∀ (n : Nat) (xs ys : List Head), xs.length = n → (∀ h ∈ xs, hdOk h = true) → (∀ h ∈ ys, hdOk h = true) → lgSum xs = lgSum ys → xs = ys
  | 0, xs, ys, hn, hx, hy, he => by
    rw [List.eq_nil_of_length_eq_zero hn] at he ⊢
    rcases List.eq_nil_or_concat ys with h | ⟨zs, z, h⟩
    · exact h.symm
    · rw [List.concat_eq_append] at h
      subst h
      have h1 := lgSum_nonneg _ zs rfl (fun g hg => hy g (by simp [hg]))
      have h2 := hd_range (hy z (by simp))
      rw [lgSum_snoc] at he
      simp only [lgSum, sumTo, List.length_nil] at he h1
      omega
  | n + 1, xs, ys, hn, hx, hy, he => by
    rcases List.eq_nil_or_concat xs with h | ⟨us, u, h⟩
    · rw [h] at hn; simp at hn
    · rw [List.concat_eq_append] at h
      subst h
      have hu := hd_range (hx u (by simp))
      have hus := lgSum_nonneg _ us rfl (fun g hg => hx g (by simp [hg]))
      rw [lgSum_snoc] at he
      rcases List.eq_nil_or_concat ys with h | ⟨zs, z, h⟩
      · subst h
        simp only [lgSum, sumTo, List.length_nil] at he hus
        omega
      · rw [List.concat_eq_append] at h
        subst h
        have hz := hd_range (hy z (by simp))
        have hzs := lgSum_nonneg _ zs rfl (fun g hg => hy g (by simp [hg]))
        rw [lgSum_snoc] at he
        have e1 : lgSum us = lgSum zs := by omega
        have e2 : 21 * u.by_ + u.snap = 21 * z.by_ + z.snap := by omega
        rw [lgSum_inj n us zs (by simpa using hn) (fun g hg => hx g (by simp [hg])) (fun g hg => hy g (by simp [hg])) e1, hd_inj (hx u (by simp)) (hy z (by simp)) e2]
theorem lgSum_eq {xs ys : List Head} (hx : lgOk xs = true) (hy : lgOk ys = true) : lgSum xs = lgSum ys ↔ xs = ys :=
  ⟨lgSum_inj _ xs ys rfl (lgOk_iff.1 hx).2 (lgOk_iff.1 hy).2, fun h => by rw [h]⟩
theorem logSum_ok {xs : List Head} (hx : lgOk xs = true) : logSum xs = lgSum xs ∧ 0 ≤ lgSum xs := ⟨by unfold logSum; rw [if_pos hx], lgSum_nonneg _ xs rfl (lgOk_iff.1 hx).2⟩
theorem logSum_no {xs : List Head} (hx : lgOk xs = false) : logSum xs = -1 := by unfold logSum; rw [if_neg (by rw [hx]; simp)]

/-! ### beginnings and forks -/
theorem begins_iff {xs ys : List Head} : begins xs ys = true ↔ xs <+: ys := by
  unfold begins
  rw [decide_eq_true_iff, ← List.prefix_iff_eq_take]
theorem begins_refl (xs : List Head) : begins xs xs = true := begins_iff.2 (List.prefix_refl _)
theorem begins_nil (xs : List Head) : begins [] xs = true := begins_iff.2 (List.nil_prefix)
theorem begins_app {xs ys : List Head} (h : begins xs ys = true) (zs : List Head) : begins xs (ys ++ zs) = true := begins_iff.2 ((begins_iff.1 h).trans (List.prefix_append _ _))
theorem begins_more (xs : List Head) (h : Head) : begins (xs ++ [h]) xs = false := by
  cases hb : begins (xs ++ [h]) xs
  · rfl
  · have := (begins_iff.1 hb).length_le
    simp at this
    omega
theorem begins_both (xs ys : List Head) : (begins xs ys && begins ys xs) = same xs ys := by
  by_cases h : xs = ys
  · subst h
    rw [begins_refl, same_iff.2 rfl]
    rfl
  · rw [same_not.2 h, Bool.and_eq_false_iff]
    cases h1 : begins xs ys
    · exact .inl rfl
    · right
      cases h2 : begins ys xs
      · rfl
      · have p1 := begins_iff.1 h1
        have p2 := begins_iff.1 h2
        exact absurd (p1.eq_of_length_le p2.length_le) h
theorem fk_neg {xs ys : List Head} (h : fk xs ys < 0) : fk xs ys = -1 ∧ (begins xs ys = true ∨ begins ys xs = true) := by
  have ht := fk_lt.1 h
  refine ⟨fk_none ht (by omega), ?_⟩
  rcases Nat.le_total xs.length ys.length with hl | hl
  · left
    rw [begins_fk hl]
    exact decide_eq_true h
  · right
    unfold begins
    rw [Nat.min_eq_right hl, List.take_length] at ht
    exact decide_eq_true ht.symm
theorem begins_fork {xs ys : List Head} (h : begins xs ys = true) : fk xs ys = -1 := by
  have hl := (begins_iff.1 h).length_le
  rw [begins_fk hl] at h
  exact (fk_neg (of_decide_eq_true h)).1
theorem fk_pos {xs ys : List Head} (h : 0 ≤ fk xs ys) : ∃ k, ∃ (h1 : k < xs.length) (h2 : k < ys.length), fk xs ys = k ∧ xs.take k = ys.take k ∧ xs[k] ≠ ys[k] ∧ fk ys xs = k := by
  rcases fk_cases xs ys with ⟨k, h1, h2, h3, h4⟩ | ht
  · exact ⟨k, h1, h2, fk_at h3 h1 h2 h4, h3, h4, fk_at h3.symm h2 h1 (fun e => h4 e.symm)⟩
  · rw [fk_none ht (by omega)] at h
    omega
theorem fk_app {xs ys : List Head} (h : 0 ≤ fk xs ys) (zs us : List Head) : fk (xs ++ zs) (ys ++ us) = fk xs ys := by
  obtain ⟨k, h1, h2, h3, h4, h5, _⟩ := fk_pos h
  rw [h3]
  refine fk_at ?_ (by simp; omega) (by simp; omega) ?_
  · rw [List.take_append_of_le_length (by omega), List.take_append_of_le_length (by omega), h4]
  · rw [List.getElem_append_left h1, List.getElem_append_left h2]
    exact h5
theorem lgFork_ok {xs ys : List Head} (hx : lgOk xs = true) (hy : lgOk ys = true) : lgFork xs ys = fk xs ys := by unfold lgFork; rw [if_pos ⟨hx, hy⟩]
theorem lgBegins_ok {xs ys : List Head} (hx : lgOk xs = true) (hy : lgOk ys = true) : lgBegins xs ys = begins xs ys := by unfold lgBegins; rw [hx, hy]; rfl
theorem lgFork_pos {xs ys : List Head} (h : 0 ≤ lgFork xs ys) : lgOk xs = true ∧ lgOk ys = true := by
  unfold lgFork at h
  split at h
  · assumption
  · omega
/-! ### additions -/
theorem lgAdd_yes {xs : List Head} {h : Head} (hk : lgAddOk xs h = true) : lgOk xs = true ∧ hdOk h = true ∧ xs.length < 9 ∧ lgAdd xs h = xs ++ [h] ∧ lgOk (xs ++ [h]) = true := by
  unfold lgAddOk at hk
  rw [Bool.and_eq_true, Bool.and_eq_true] at hk
  obtain ⟨⟨h1, h2⟩, h3⟩ := hk
  have h3 := of_decide_eq_true h3
  exact ⟨h1, h2, h3, by unfold lgAdd; rw [if_pos ⟨h1, h2⟩, if_neg (by omega)], lgOk_snoc h1 h2 h3⟩
theorem lgAdd_no {xs : List Head} {h : Head} (hk : lgAddOk xs h = false) : lgOk xs = false ∨ (lgAdd xs h).length = xs.length ∨ (lgAdd xs h).length = 0 := by
  unfold lgAdd
  split
  · rename_i h1
    split
    · exact .inr (.inl rfl)
    · unfold lgAddOk at hk
      rw [h1.1, h1.2, decide_eq_true (by omega)] at hk
      cases hk
  · exact .inr (.inr rfl)
/-! ### memories -/
theorem see_well {m : Mem} {xs : List Head} (h : (see m xs).2 = 0) : lgOk xs = true ∧ 0 ≤ m.long ∧ m.long ≤ xs.length ∧ sumTo xs m.long.toNat = m.sum ∧ see m xs = (⟨xs.length, lgSum xs⟩, 0) := by
  unfold see at h ⊢
  split at h
  · simp at h
  · rename_i h1
    split at h
    · simp at h
    · rename_i h2
      have h3 : lgOk xs = true := by
        cases hx : lgOk xs
        · exact absurd (.inl hx) h1
        · rfl
      have h2' : sumTo xs m.long.toNat = m.sum := by simpa using h2
      refine ⟨h3, by omega, by omega, h2', ?_⟩
      rw [if_neg h1, if_neg h2]
theorem see_not_well {m : Mem} {xs : List Head} (h : (see m xs).2 ≠ 0) : (see m xs).1 = m := by
  unfold see at h ⊢
  split
  · rfl
  · split
    · rfl
    · rename_i h1 h2
      rw [if_neg h1, if_neg h2] at h
      simp at h
theorem see_of {m : Mem} {xs : List Head} (hx : lgOk xs = true) (h0 : 0 ≤ m.long) : see m xs = if (xs.length : Int) < m.long then (m, 1) else if sumTo xs m.long.toNat ≠ m.sum then (m, 2) else (⟨xs.length, lgSum xs⟩, 0) := by
  unfold see
  by_cases h : (xs.length : Int) < m.long
  · rw [if_pos (.inr (.inl h)), if_pos h]
  · rw [if_neg (by rw [hx]; simp; omega), if_neg h]
/-- What is kept of a log, at a log: well just if the one begins the other. -/
theorem see_kept {xs ys : List Head} (hx : lgOk xs = true) (hy : lgOk ys = true) : (see ⟨xs.length, lgSum xs⟩ ys).2 = if ys.length < xs.length then 1 else if begins xs ys = true then 0 else 2 := by
  rw [see_of hy (by simp)]
  by_cases h : ys.length < xs.length
  · rw [if_pos (by simpa using h), if_pos h]
  · rw [if_neg (by simpa using h), if_neg h]
    have hs : sumTo ys xs.length = lgSum (ys.take xs.length) := (sumTo_take ys xs.length (by omega)).symm
    have hb : begins xs ys = true ↔ sumTo ys xs.length = lgSum xs := by
      rw [hs, lgSum_eq (lgOk_take hy _) hx]
      unfold begins
      rw [decide_eq_true_iff]
      exact ⟨fun h => h.symm, fun h => h.symm⟩
    show (if sumTo ys ((xs.length : Int).toNat) ≠ lgSum xs then _ else _ : Mem × Int).2 = _
    rw [Int.toNat_natCast]
    by_cases h2 : sumTo ys xs.length = lgSum xs
    · rw [if_neg (by simpa using h2), if_pos (hb.2 h2)]
    · rw [if_pos h2, if_neg (fun h3 => h2 (hb.1 h3))]
end Go.Proofs.Ytjkagmelpgpjgaa
