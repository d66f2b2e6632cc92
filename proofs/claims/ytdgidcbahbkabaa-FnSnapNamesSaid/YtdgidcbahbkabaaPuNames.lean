/- Names ascending, each once: what sorting and compacting comes to, and what the reference's adding comes to. -/
import Derived.Test.YtdgidcbahbkabaaHSnapNames
import Derived.Test.YtdgidcbahbkabaaPuSnap
import Derived.Test.YtdgidcbahbkabaaQx1
namespace Go.Proofs.Ytdgidcbahbkabaa.Q
open Go.RowKit Go.Proofs.YtdgidcbahbkabaaW.PrintWords Go.Lib
set_option linter.unusedVariables false
set_option linter.unusedSimpArgs false
theorem ascI_ext : ∀ {xs ys : List Int}, xs.Pairwise (· < ·) → ys.Pairwise (· < ·) → (∀ x, x ∈ xs ↔ x ∈ ys) → xs = ys
  | [], [], _, _, _ => rfl
  | [], y :: ys, _, _, h => absurd ((h y).2 (by simp)) (by simp)
  | x :: xs, [], _, _, h => absurd ((h x).1 (by simp)) (by simp)
  | x :: xs, y :: ys, hx, hy, h => by
    obtain ⟨hx1, hx2⟩ := List.pairwise_cons.1 hx
    obtain ⟨hy1, hy2⟩ := List.pairwise_cons.1 hy
    have e : x = y := by
      rcases List.mem_cons.1 ((h x).1 (by simp)) with e | e
      · exact e
      · rcases List.mem_cons.1 ((h y).2 (by simp)) with e2 | e2
        · exact e2.symm
        · have := hy1 x e; have := hx1 y e2; omega
    subst e
    rw [ascI_ext hx2 hy2 fun z => ⟨fun hz => ?_, fun hz => ?_⟩]
    · rcases List.mem_cons.1 ((h z).1 (List.mem_cons_of_mem _ hz)) with e | e
      · have := hx1 z hz; omega
      · exact e
    · rcases List.mem_cons.1 ((h z).2 (List.mem_cons_of_mem _ hz)) with e | e
      · have := hy1 z hz; omega
      · exact e
theorem compactUpTo_asc (d : Array Int) (hs : ∀ i j, i < j → j < d.size → d[i]! ≤ d[j]!) : ∀ m, m ≤ d.size → (compactUpTo d m).Pairwise (· < ·) ∧ ∀ x, x ∈ compactUpTo d m ↔ ∃ j, j < m ∧ d[j]! = x
  | 0, _ => by simp [compactUpTo]
  | m + 1, hm => by
    obtain ⟨h1, h2⟩ := compactUpTo_asc d hs m (by omega)
    rw [compactUpTo_succ]
    cases hk : keeps d m
    · rw [if_neg (by simp), List.append_nil]
      refine ⟨h1, fun x => ?_⟩
      rw [h2]
      constructor
      · rintro ⟨j, hj, e⟩
        exact ⟨j, by omega, e⟩
      · rintro ⟨j, hj, e⟩
        by_cases hjm : j = m
        · subst hjm
          unfold keeps at hk
          simp only [decide_eq_false_iff_not, not_or, Decidable.not_not] at hk
          exact ⟨j - 1, by omega, by rw [← hk.2]; exact e⟩
        · exact ⟨j, by omega, e⟩
    · rw [if_pos rfl]
      refine ⟨?_, fun x => ?_⟩
      · rw [List.pairwise_append]
        refine ⟨h1, by simp, fun a ha b hb => ?_⟩
        obtain rfl : b = d[m]! := by simpa using hb
        obtain ⟨j, hj, rfl⟩ := (h2 a).1 ha
        have a1 := hs j m hj (by omega)
        unfold keeps at hk
        simp only [decide_eq_true_eq] at hk
        rcases hk with h0 | hne
        · omega
        · by_cases hjm : j = m - 1
          · subst hjm; omega
          · have a2 := hs j (m - 1) (by omega) (by omega)
            have a3 := hs (m - 1) m (by omega) (by omega)
            omega
      · rw [List.mem_append, h2, List.mem_singleton]
        constructor
        · rintro (⟨j, hj, e⟩ | e)
          · exact ⟨j, by omega, e⟩
          · exact ⟨m, by omega, e.symm⟩
        · rintro ⟨j, hj, e⟩
          by_cases hjm : j = m
          · subst hjm; exact .inr e.symm
          · exact .inl ⟨j, by omega, e⟩
def namesB (xs : List Int) : List Int := compact (xs.mergeSort fun x y => decide (x ≤ y))
theorem namesB_asc (xs : List Int) : (namesB xs).Pairwise (· < ·) ∧ ∀ x, x ∈ namesB xs ↔ x ∈ xs := by
  have hp : (xs.mergeSort fun x y => decide (x ≤ y)).Pairwise (fun x y => decide (x ≤ y) = true) := List.pairwise_mergeSort (fun a b c h1 h2 => by simp at *; omega) (fun a b => by simp; omega) xs
  have hmem : ∀ x, x ∈ (xs.mergeSort fun x y => decide (x ≤ y)) ↔ x ∈ xs := fun x => List.mem_mergeSort
  unfold namesB compact
  generalize (xs.mergeSort fun x y => decide (x ≤ y)) = ys at hp hmem
  have key := compactUpTo_asc ys.toArray (fun i j hij hj => by
    have hj' : j < ys.length := by simpa using hj
    have := List.pairwise_iff_getElem.1 hp i j (by omega) hj' hij
    simpa [show i < ys.length by omega, hj'] using this) ys.length (by simp)
  refine ⟨key.1, fun x => ?_⟩
  rw [key.2, ← hmem, List.mem_iff_getElem]
  constructor
  · rintro ⟨j, hj, e⟩
    exact ⟨j, hj, by simpa [hj] using e⟩
  · rintro ⟨j, hj, e⟩
    exact ⟨j, hj, by simpa [hj] using e⟩
def addGo (n : Int) : Bool → List Int → List Int
  | b, [] => if b = true then [] else [n]
  | b, x :: r => (if (!b && decide (x ≥ n)) = true then [n] else []) ++ ((if x = n then [] else [x]) ++ addGo n (b || decide (x ≥ n)) r)
def addB (l : List Int) (n : Int) : List Int := addGo n false l
theorem addGo_true (n : Int) : ∀ l, addGo n true l = l.filter (fun x => !decide (x = n))
  | [] => rfl
  | x :: r => by
    unfold addGo
    rw [Bool.true_or, addGo_true n r]
    by_cases h : x = n <;> simp [h]
theorem addB_asc (n : Int) : ∀ l : List Int, l.Pairwise (· < ·) → (addB l n).Pairwise (· < ·) ∧ ∀ x, x ∈ addB l n ↔ x = n ∨ x ∈ l
  | [], _ => by simp [addB, addGo]
  | y :: r, h => by
    obtain ⟨h1, h2⟩ := List.pairwise_cons.1 h
    obtain ⟨i1, i2⟩ := addB_asc n r h2
    unfold addB addGo
    by_cases hy : y ≥ n
    · rw [Bool.false_or, decide_eq_true hy, addGo_true]
      by_cases he : y = n
      · subst he
        have hf : r.filter (fun x => !decide (x = y)) = r := List.filter_eq_self.2 fun x hx => by have := h1 x hx; simp; omega
        simp only [Bool.not_false, Bool.and_self, if_true, hf]
        exact ⟨by simpa using h, fun x => by simp⟩
      · have hf : r.filter (fun x => !decide (x = n)) = r := List.filter_eq_self.2 fun x hx => by have := h1 x hx; simp; omega
        simp only [Bool.not_false, Bool.and_self, if_true, hf, if_neg he]
        refine ⟨?_, fun x => by simp⟩
        show ([n] ++ ([y] ++ r)).Pairwise (· < ·)
        rw [List.singleton_append, List.singleton_append, List.pairwise_cons]
        refine ⟨fun z hz => ?_, h⟩
        rcases List.mem_cons.1 hz with rfl | hz
        · omega
        · have := h1 z hz; omega
    · have he : ¬ y = n := by omega
      rw [Bool.false_or, decide_eq_false hy]
      simp only [Bool.not_false, Bool.and_false, if_neg he, Bool.false_eq_true, if_false, List.nil_append, List.singleton_append]
      refine ⟨List.pairwise_cons.2 ⟨fun z hz => ?_, i1⟩, fun x => ?_⟩
      · rcases (i2 z).1 hz with rfl | hz
        · omega
        · exact h1 z hz
      · rw [List.mem_cons, List.mem_cons]
        have := i2 x
        unfold addB at this
        rw [this]
        constructor
        · rintro (a | a | a)
          · exact .inr (.inl a)
          · exact .inl a
          · exact .inr (.inr a)
        · rintro (a | a | a)
          · exact .inr (.inl a)
          · exact .inl a
          · exact .inr (.inr a)
end Go.Proofs.Ytdgidcbahbkabaa.Q
