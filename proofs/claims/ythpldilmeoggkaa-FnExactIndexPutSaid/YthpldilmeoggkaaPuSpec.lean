/- The reference's index, and drawn indexes, plainly. -/
import Derived.Test.YthpldilmeoggkaaPuSort
import Derived.Test.YthpldilmeoggkaaPuRd
import Derived.Test.YthpldilmeoggkaaQx10
import Derived.Test.YthpldilmeoggkaaQx21
import Derived.Test.YthpldilmeoggkaaQx19
import Derived.Test.YthpldilmeoggkaaQx15
namespace Go.Proofs.Ythpldilmeoggkaa.Q
open Go.RowKit Go.Proofs.YthpldilmeoggkaaW.PrintWords
set_option linter.unusedVariables false
set_option linter.unusedSimpArgs false

theorem in_eq (a b c : Int) : spec_l6In.f a b c = some (decide (b ≤ a ∧ a ≤ c)) := by
  unfold spec_l6In.f
  by_cases h : b ≤ a <;> simp [h]
theorem specSpot_eq (a b : Int) : spec_l4Spot.f a b = some (spotB a b) := by
  unfold spec_l4Spot.f spotB
  simp only [in_eq, Option.bind_some]
  by_cases h : 0 ≤ a ∧ a ≤ 999999999988
  · rw [if_pos (by simpa using h)]
    congr 1
    rw [decide_eq_decide]
    omega
  · rw [if_neg (by simpa using h)]
    congr 1
    exact (decide_eq_false (by omega)).symm
theorem specIndexOk_ev (l : List Spot) (hl : l.length ≤ 9223372036854775807) : Ev (fun k => spec_IndexOk.f k l) (idxOk l) := by
  unfold spec_IndexOk.f idxOk
  refine downTo (P := fun i => Ev (fun k => spec_IndexOk.l0 k l (i : Int)) (allFrom (idxAt l) i l.length)) (n := l.length) ?_ ?_ 0 (Nat.zero_le _)
  · refine Ev.step (fun _ => spec_IndexOk.l0.eq_2 ..) ?_
    rw [allFrom_ge (Nat.le_refl _)]
    exact ev_neg (nat_ge (Nat.le_refl _)) ev_some
  · intro i hi ih
    refine Ev.step (fun _ => spec_IndexOk.l0.eq_2 ..) ?_
    rw [allFrom_lt hi, idxAt_eq]
    simp only [if_pos (nat_lt hi), if_pos (nat_0 i), rdSpot, specSpot_eq, Option.bind_some, wrap_up i _ hi hl]
    cases hb : spotB (atSpot l i).f0 (atSpot l i).f1
    · simp only [Bool.false_and]
      exact ev_neg (by simp) ev_some
    · simp only [if_true, Bool.true_and]
      by_cases h0 : i = 0
      · subst h0
        simpa using ih
      · simp only [if_pos (show (i : Int) > 0 from by omega), wrap_down i (by omega) (by omega), if_pos (nat_0 (i - 1)), if_pos (nat_lt (show i - 1 < l.length from by omega)), rdSpot, h0, decide_false, Bool.false_or]
        by_cases h1 : (atSpot l (i - 1)).f0 < (atSpot l i).f0
        · simp only [if_neg (show ¬ (atSpot l (i - 1)).f0 ≥ (atSpot l i).f0 from by omega), h1, decide_true, Bool.true_and]
          exact ih
        · simp only [if_pos (show (atSpot l (i - 1)).f0 ≥ (atSpot l i).f0 from by omega), h1, decide_false, Bool.false_and]
          exact ev_some
/-- l4Put: what is left of the list, and whether the entry has been put. -/
def l4F (s : Spot) : List Spot → Bool → List Spot
  | [], true => []
  | [], false => [s]
  | x :: l, true => if x.f0 = s.f0 then l4F s l true else x :: l4F s l true
  | x :: l, false => if s.f0 ≤ x.f0 then s :: (if x.f0 = s.f0 then l4F s l true else x :: l4F s l true) else x :: l4F s l false
theorem l4F_len (s : Spot) : ∀ l : List Spot, (l4F s l true).length ≤ l.length ∧ (l4F s l false).length ≤ l.length + 1
  | [] => ⟨Nat.le_refl _, Nat.le_refl _⟩
  | x :: l => by
    obtain ⟨h1, h2⟩ := l4F_len s l
    constructor
    · simp only [l4F]
      split <;> simp only [List.length_cons] <;> omega
    · simp only [l4F]
      split
      · split <;> simp only [List.length_cons] <;> omega
      · simp only [List.length_cons]; omega
theorem specPut_ev (l : List Spot) (a b : Int) (hl : l.length ≤ 100000000) : Ev (fun k => spec_l4Put.f k l a b) (l4F ⟨a, b⟩ l false) := by
  unfold spec_l4Put.f
  have key := downTo (P := fun i => ∀ (acc : List Spot) (put : Bool), acc.length ≤ i + 1 → (put = false → acc.length ≤ i) → Ev (fun k => spec_l4Put.l0 k l acc put (i : Int) a b) (acc ++ l4F ⟨a, b⟩ (l.drop i) put)) (n := l.length) ?_ ?_ 0 (Nat.zero_le _)
  · simpa using key [] false (by simp) (by simp)
  · intro acc put hacc hac2
    refine Ev.step (fun _ => spec_l4Put.l0.eq_2 ..) ?_
    rw [List.drop_length]
    refine ev_neg (nat_ge (Nat.le_refl _)) ?_
    cases put
    · refine ev_neg (by simp) (ev_pos (by omega) ?_)
      exact ev_some
    · refine ev_pos rfl ?_
      rw [show acc ++ l4F ⟨a, b⟩ [] true = acc from by simp [l4F]]
      exact ev_some
  · intro i hi ih acc put hacc hac2
    have hd : l.drop i = atSpot l i :: l.drop (i + 1) := by rw [List.drop_eq_getElem_cons hi, atSpot_get hi]
    obtain ⟨x, hx⟩ : ∃ x, atSpot l i = x := ⟨_, rfl⟩
    rw [hd, hx]
    have hrd : rd_T25 l (i : Int) = x := hx
    have go : ∀ (acc : List Spot) (put : Bool), acc.length ≤ i + 2 → (put = false → acc.length ≤ i + 1) → Ev (fun k => spec_l4Put.l0 k l acc put (wrap64 ((i : Int) + 1)) a b) (acc ++ l4F ⟨a, b⟩ (l.drop (i + 1)) put) := fun acc put h1 h2 => by
      rw [wrap_up i l.length hi (by omega)]
      exact ih acc put (by omega) h2
    refine Ev.step (fun _ => spec_l4Put.l0.eq_2 ..) ?_
    refine ev_pos (nat_lt hi) ?_
    have hxe : (⟨x.f0, x.f1⟩ : Spot) = x := by cases x; rfl
    cases put
    · have hac3 := hac2 rfl
      refine ev_neg (by simp) (ev_pos (nat_0 i) (Ev.step (fun _ => spec_l4Put.j1.eq_2 ..) ?_))
      simp only [hrd, ge_iff_le, decide_eq_true_eq]
      by_cases h1 : a ≤ x.f0
      · rw [show l4F ⟨a, b⟩ (x :: l.drop (i + 1)) false = ⟨a, b⟩ :: (if x.f0 = a then l4F ⟨a, b⟩ (l.drop (i + 1)) true else x :: l4F ⟨a, b⟩ (l.drop (i + 1)) true) from by simp [l4F, h1]]
        simp only [if_pos h1, if_pos (show acc.length < 8796093022208 from by omega), Option.bind_some, if_pos (nat_0 i), if_pos (nat_lt hi)]
        by_cases h2 : x.f0 = a
        · simp only [if_pos h2]
          have := go (acc ++ [⟨a, b⟩]) true (by simp; omega) (by simp)
          simpa using this
        · simp only [if_neg h2, if_pos (show (acc ++ [(⟨a, b⟩ : Spot)]).length < 8796093022208 from by simp; omega), hxe]
          have := ih (acc ++ [⟨a, b⟩] ++ [x]) true (by simp; omega) (by simp)
          rw [wrap_up i l.length hi (by omega)]
          simpa using this
      · rw [show l4F ⟨a, b⟩ (x :: l.drop (i + 1)) false = x :: l4F ⟨a, b⟩ (l.drop (i + 1)) false from by simp [l4F, h1]]
        simp only [if_neg h1, if_pos (nat_0 i), if_pos (nat_lt hi), if_neg (show ¬ x.f0 = a from by omega), if_pos (show acc.length < 8796093022208 from by omega), hxe]
        have := go (acc ++ [x]) false (by simp; omega) (fun _ => by simp; omega)
        simpa using this
    · refine ev_pos rfl (Ev.step (fun _ => spec_l4Put.j1.eq_2 ..) ?_)
      rw [show l4F ⟨a, b⟩ (x :: l.drop (i + 1)) true = (if x.f0 = a then l4F ⟨a, b⟩ (l.drop (i + 1)) true else x :: l4F ⟨a, b⟩ (l.drop (i + 1)) true) from by simp [l4F]]
      simp only [hrd, Bool.false_eq_true, if_false, if_pos (nat_0 i), if_pos (nat_lt hi)]
      by_cases h2 : x.f0 = a
      · simp only [if_pos h2]
        exact go acc true (by omega) (by simp)
      · simp only [if_neg h2, if_pos (show acc.length < 8796093022208 from by omega), hxe]
        have := go (acc ++ [x]) true (by simp; omega) (by simp)
        simpa using this
theorem l4F_true {l : List Spot} {s : Spot} (h : ∀ x ∈ l, s.f0 < x.f0) : l4F s l true = l := by
  induction l with
  | nil => rfl
  | cons x l ih =>
    have := h x (by simp)
    simp only [l4F]
    rw [if_neg (by omega), ih (fun y hy => h y (by simp [hy]))]
theorem l4F_put {l : List Spot} (h : Asc l) (s : Spot) : l4F s l false = putL l s := by
  induction l with
  | nil => rfl
  | cons x l ih =>
    obtain ⟨h1, h2⟩ := List.pairwise_cons.1 h
    simp only [l4F, putL]
    by_cases h3 : x.f0 < s.f0
    · rw [if_neg (by omega), if_pos h3, ih h2]
    · rw [if_pos (by omega), if_neg h3, l4F_true (fun y hy => by have := h1 y hy; omega)]
      by_cases h4 : s.f0 < x.f0
      · rw [if_neg (by omega), if_pos h4]
      · rw [if_pos (by omega), if_neg h4]
def specPut (l : List Spot) (s : Spot) : List Spot × Bool := if idxOk l = true ∧ spotB s.f0 s.f1 = true then (putL l s, true) else ([], false)
theorem specIndexPut_ev (l : List Spot) (a b : Int) (hl : l.length ≤ 100000000) : Ev (fun k => spec_IndexPut.f k l a b) (specPut l ⟨a, b⟩) := by
  unfold spec_IndexPut.f specPut
  refine Ev.bind (specIndexOk_ev l (by omega)) ?_
  cases h1 : idxOk l
  · simp only [Bool.false_eq_true, if_false, false_and]
    exact ev_some
  · simp only [if_true, specSpot_eq, Option.bind_some, true_and]
    cases h2 : spotB a b
    · simp only [Bool.false_eq_true, if_false]
      exact ev_some
    · simp only [if_true]
      refine Ev.bind (specPut_ev l a b hl) ?_
      rw [l4F_put (idxOk_iff.1 h1).1]
      exact ev_some
theorem implIndexPut_eq (l : List Spot) (a b : Int) (hl : l.length ≤ 100000000) : impl_IndexPut.f l a b = some (specPut l ⟨a, b⟩) := by
  unfold impl_IndexPut.f specPut
  rw [if_pos hl]
  congr 1
  by_cases h : idxOk l = true ∧ spotB a b = true
  · rw [if_pos h, if_pos h, tree_put1 (idxOk_iff.1 h.1).1]
  · rw [if_neg h, if_neg h]
theorem specPut_len (l : List Spot) (s : Spot) : (specPut l s).1.length ≤ l.length + 1 := by
  unfold specPut
  split
  · exact putL_len l s
  · simp
theorem implFind_eq (l : List Spot) (n : Int) (hl : l.length ≤ 100000000) : impl_IndexFind.f l n = some (if idxOk l = true then look l n else 0) := by
  unfold impl_IndexFind.f
  rw [if_pos hl, tree_find]
theorem ldIndex_ev (l m : List Spot) (hl : l.length ≤ 9223372036854775807) : Ev (fun k => laws_ldIndex.f k l m) (decide (l = m)) := by
  unfold laws_ldIndex.f
  by_cases hlm : l.length = m.length
  · refine ev_pos (by omega) ?_
    have key : decide (l = m) = allFrom (fun i => decide (atSpot l i = atSpot m i)) 0 l.length := by
      rw [Bool.eq_iff_iff, allFrom_iff, decide_eq_true_iff]
      constructor
      · rintro rfl j _ _
        simp
      · intro h
        refine List.ext_getElem hlm fun j h1 h2 => ?_
        have := h j (Nat.zero_le _) h1
        rwa [atSpot_get h1, atSpot_get h2, decide_eq_true_iff] at this
    rw [key]
    refine downTo (P := fun i => Ev (fun k => laws_ldIndex.l0 k l m (i : Int)) (allFrom (fun i => decide (atSpot l i = atSpot m i)) i l.length)) (n := l.length) ?_ ?_ 0 (Nat.zero_le _)
    · refine Ev.step (fun _ => laws_ldIndex.l0.eq_2 ..) ?_
      rw [allFrom_ge (Nat.le_refl _)]
      exact ev_neg (nat_ge (Nat.le_refl _)) ev_some
    · intro i hi ih
      refine Ev.step (fun _ => laws_ldIndex.l0.eq_2 ..) ?_
      rw [allFrom_lt hi]
      simp only [if_pos (nat_lt hi), if_pos (nat_0 i), if_pos (nat_lt (show i < m.length from by omega)), rdSpot, wrap_up i _ hi hl]
      by_cases he : atSpot l i = atSpot m i
      · rw [decide_eq_true he, Bool.true_and]
        refine ev_neg (by simp [he]) ih
      · rw [decide_eq_false he, Bool.false_and]
        refine ev_pos ?_ ev_some
        by_cases h0 : (atSpot l i).f0 = (atSpot m i).f0
        · by_cases h1 : (atSpot l i).f1 = (atSpot m i).f1
          · exfalso
            apply he
            generalize atSpot l i = x at *
            generalize atSpot m i = y at *
            cases x; cases y; simp_all
          · simp [h1]
        · simp [h0]
  · refine ev_neg (by omega) ?_
    rw [decide_eq_false (fun h => hlm (by rw [h]))]
    exact ev_some
/-- Some index of at most 9 entries is drawn. -/
theorem l91Index_ev {s : List Int} (h : Code8 s) (p : Int) (hp : 0 ≤ p) (hp2 : p ≤ 1000000) : ∃ l q, Ev (fun k => spec_l91Index.f k s p) (l, q) ∧ l.length ≤ 9 ∧ p ≤ q ∧ q ≤ p + 100 := by
  obtain ⟨r, e1, r0, r1⟩ := pick_ev h p 7 hp (by omega) (by omega)
  have r2 := r1 (by omega)
  have key : ∀ (n : Nat) (acc : List Spot) (q : Int), n ≤ 6 → acc.length + n ≤ 7 → 0 ≤ q → q + 2 * n ≤ 1000090 → ∃ l q', Ev (fun k => spec_l91Index.l0 k acc (n : Int) s q) (l, q') ∧ l.length ≤ 8 ∧ q ≤ q' ∧ q' ≤ q + 2 * n + 3 := by
    intro n
    induction n with
    | zero =>
      intro acc q _ ha hq hq2
      obtain ⟨r, e1, r0, _⟩ := pick_ev h q 30 hq (by omega) (by omega)
      by_cases hr : r = 0
      · obtain ⟨r3, e3, _, _⟩ := pick_ev h (q + 1) 14 (by omega) (by omega) (by omega)
        obtain ⟨r4, e4, _, _⟩ := pick_ev h (q + 1 + 1) 7 (by omega) (by omega) (by omega)
        exact ⟨_, _, Ev.step (fun _ => spec_l91Index.l0.eq_2 ..) (ev_neg (by omega) (Ev.bind e1 (ev_pos hr (Ev.bind e3 (Ev.bind e4 (ev_pos (by omega) ev_some)))))), by simp; omega, by omega, by omega⟩
      · exact ⟨_, _, Ev.step (fun _ => spec_l91Index.l0.eq_2 ..) (ev_neg (by omega) (Ev.bind e1 (ev_neg hr ev_some))), by omega, by omega, by omega⟩
    | succ n ih =>
      intro acc q hn ha hq hq2
      obtain ⟨r3, e3, _, _⟩ := pick_ev h q 12 hq (by omega) (by omega)
      obtain ⟨r4, e4, _, _⟩ := pick_ev h (q + 1) 5 (by omega) (by omega) (by omega)
      have e5 := specPut_ev acc r3 (wrap64 (1 + r4)) (by omega)
      have hl := (l4F_len ⟨r3, wrap64 (1 + r4)⟩ acc).2
      obtain ⟨l, q', e6, h1, h2, h3⟩ := ih (l4F ⟨r3, wrap64 (1 + r4)⟩ acc false) (q + 1 + 1) (by omega) (by omega) (by omega) (by omega)
      refine ⟨l, q', Ev.step (fun _ => spec_l91Index.l0.eq_2 ..) (ev_pos (by omega) (Ev.bind e3 (Ev.bind e4 (Ev.bind e5 ?_)))), h1, by omega, by omega⟩
      rw [show wrap64 (((n + 1 : Nat) : Int) - 1) = (n : Int) from by unfold wrap64; omega]
      exact e6
  obtain ⟨n, rfl⟩ := Int.eq_ofNat_of_zero_le r0
  obtain ⟨l, q', e2, h1, h2, h3⟩ := key n [] (p + 1) (by omega) (by simp; omega) (by omega) (by omega)
  exact ⟨l, q', Ev.bind e1 e2, by omega, by omega, by omega⟩
theorem drawIndexPut_ev (l : List Int) (hb : ∀ b ∈ l, 0 ≤ b ∧ b < 256) (hl : l.length ≤ 9223372036854775807) : ∃ xs a b, Ev (fun k => spec_DrawIndexPut.f k l) (xs, a, b) ∧ xs.length ≤ 9 := by
  obtain ⟨s, h0, hs⟩ := open_code l hb hl
  obtain ⟨xs, q, e1, hx, q1, q2⟩ := l91Index_ev hs 0 (by omega) (by omega)
  obtain ⟨r1, e2, _, _⟩ := pick_ev hs q 13 (by omega) (by omega) (by omega)
  obtain ⟨r2, e3, _, _⟩ := pick_ev hs (q + 1) 24 (by omega) (by omega) (by omega)
  obtain ⟨r3, e4, _, _⟩ := pick_ev hs (q + 1 + 1) 5 (by omega) (by omega) (by omega)
  obtain ⟨r4, e5, _, _⟩ := pick_ev hs (q + 1 + 1 + 1) 24 (by omega) (by omega) (by omega)
  exact ⟨_, _, _, ev_bindc h0 (Ev.bind e1 (Ev.bind e2 (Ev.bind e3 (Ev.bind e4 (Ev.bind e5 ev_some))))), hx⟩
theorem drawIndexMerge_ev (l : List Int) (hb : ∀ b ∈ l, 0 ≤ b ∧ b < 256) (hl : l.length ≤ 9223372036854775807) : ∃ xs ys, Ev (fun k => spec_DrawIndexMerge.f k l) (xs, ys) ∧ xs.length ≤ 9 ∧ ys.length ≤ 9 := by
  obtain ⟨s, h0, hs⟩ := open_code l hb hl
  obtain ⟨xs, q, e1, hx, q1, q2⟩ := l91Index_ev hs 0 (by omega) (by omega)
  obtain ⟨ys, q', e2, hy, _, _⟩ := l91Index_ev hs q (by omega) (by omega)
  exact ⟨_, _, ev_bindc h0 (Ev.bind e1 (Ev.bind e2 ev_some)), hx, hy⟩
theorem drawIndexOk_ev (l : List Int) (hb : ∀ b ∈ l, 0 ≤ b ∧ b < 256) (hl : l.length ≤ 9223372036854775807) : ∃ xs, Ev (fun k => spec_DrawIndexOk.f k l) xs ∧ xs.length ≤ 10 := by
  obtain ⟨s, h0, hs⟩ := open_code l hb hl
  obtain ⟨xs, q, e1, hx, q1, q2⟩ := l91Index_ev hs 0 (by omega) (by omega)
  obtain ⟨r1, e2, _, _⟩ := pick_ev hs q 4 (by omega) (by omega) (by omega)
  by_cases hr : r1 = 0
  · obtain ⟨r2, e3, _, _⟩ := pick_ev hs (q + 1) 14 (by omega) (by omega) (by omega)
    obtain ⟨r3, e4, _, _⟩ := pick_ev hs (q + 1 + 1) 7 (by omega) (by omega) (by omega)
    exact ⟨_, ev_bindc h0 (Ev.bind e1 (Ev.bind e2 (ev_pos hr (Ev.bind e3 (Ev.bind e4 (ev_pos (by simp only; omega) ev_some)))))), by simp; omega⟩
  · exact ⟨_, ev_bindc h0 (Ev.bind e1 (Ev.bind e2 (ev_neg hr ev_some))), by simp only; omega⟩
def specMerge (newer elder : List Spot) : List Spot := if idxOk newer = true ∧ idxOk elder = true then putAll elder newer else []
theorem specMerge_ev (l m : List Spot) (hl : l.length ≤ 1000) (hm : m.length ≤ 1000) : Ev (fun k => spec_IndexMerge.f k l m) (specMerge l m) := by
  unfold spec_IndexMerge.f specMerge
  refine Ev.bind (specIndexOk_ev l (by omega)) ?_
  cases h1 : idxOk l
  · simp only [Bool.false_eq_true, if_false, false_and]
    exact Ev.step (fun _ => spec_IndexMerge.j0.eq_2 ..) (ev_pos rfl ev_some)
  · simp only [if_true, true_and]
    refine Ev.bind (specIndexOk_ev m (by omega)) ?_
    cases h2 : idxOk m
    · simp only [Bool.false_eq_true, if_false]
      exact Ev.step (fun _ => spec_IndexMerge.j0.eq_2 ..) (ev_pos rfl ev_some)
    · simp only [if_true]
      refine Ev.step (fun _ => spec_IndexMerge.j0.eq_2 ..) (ev_neg (by simp) ?_)
      simp only [Option.bind_some, List.nil_append]
      refine ev_pos (by simp; omega) ?_
      have key := downTo (P := fun i => ∀ acc : List Spot, Asc acc → acc.length ≤ 1000 + i → Ev (fun k => spec_IndexMerge.l0 k l acc (i : Int)) (putAll acc (l.drop i))) (n := l.length) ?_ ?_ 0 (Nat.zero_le _)
      · exact key m (idxOk_iff.1 h2).1 (by omega)
      · intro acc _ _
        refine Ev.step (fun _ => spec_IndexMerge.l0.eq_2 ..) ?_
        rw [List.drop_length]
        exact ev_neg (nat_ge (Nat.le_refl _)) ev_some
      · intro i hi ih acc ha hal
        refine Ev.step (fun _ => spec_IndexMerge.l0.eq_2 ..) ?_
        refine ev_pos (nat_lt hi) (ev_pos (nat_0 i) (Ev.bind (specPut_ev acc _ _ (by omega)) ?_))
        rw [wrap_up i l.length hi (by omega), l4F_put ha, List.drop_eq_getElem_cons hi, rdSpot, atSpot_get hi]
        have hp := putL_len acc l[i]
        exact ih (putL acc l[i]) (putL_asc ha _) (by omega)
theorem implMerge_eq (l m : List Spot) (hl : l.length ≤ 100000000) (hm : m.length ≤ 100000000) : impl_IndexMerge.f l m = some (specMerge l m) := by
  unfold impl_IndexMerge.f specMerge
  rw [if_pos ⟨hl, hm⟩]
  congr 1
  by_cases h : idxOk l = true ∧ idxOk m = true
  · rw [if_pos h, if_pos h, (tree_list _).1, putAll_append, putAll_same (l := []) (xs := m) (by simpa using (idxOk_iff.1 h.2).1)]; rfl
  · rw [if_neg h, if_neg h]
theorem specMerge_len (l m : List Spot) : (specMerge l m).length ≤ m.length + l.length := by
  unfold specMerge
  split
  · exact putAll_len _ _
  · simp
end Go.Proofs.Ythpldilmeoggkaa.Q
