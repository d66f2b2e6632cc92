/- FnSnapNames, plainly: all names of a snapshot are told, ascending, each once. -/
import Derived.Test.YtdgidcbahbkabaaPuNamesEv
import Derived.Test.YtdgidcbahbkabaaQx13
namespace Go.Proofs.Ytdgidcbahbkabaa.Pure
open Go.RowKit Go.Proofs.Ytdgidcbahbkabaa.Q Go.Proofs.YtdgidcbahbkabaaW.PrintWords Go.Proofs.YtdgidcbahbkabaaW.PrintLast
set_option linter.unusedVariables false
set_option linter.unusedSimpArgs false
theorem allNames_len : ∀ (l : List Listed), (∀ x ∈ l, x.f1.length ≤ 40) → (allNames l).length ≤ l.length * 40
  | [], _ => by simp [allNames]
  | x :: l, h => by
    have h1 := h x (by simp)
    have h2 := allNames_len l fun y hy => h y (List.mem_cons_of_mem _ hy)
    have e : allNames (x :: l) = x.f1 ++ allNames l := rfl
    rw [e, List.length_append, List.length_cons]; omega
theorem drawSnapNames_ev (l : List Int) (hb : ∀ b ∈ l, 0 ≤ b ∧ b < 256) (hl : l.length ≤ 1048576) : ∃ xs, Ev (fun k => spec_DrawSnapNames.f k l) (1, xs) ∧ xs.length ≤ 7 ∧ ∀ x ∈ xs, x.f1.length ≤ 40 := by
  obtain ⟨s, e0, hs⟩ := open_code l hb (by omega)
  obtain ⟨t, p, e1, ht, _, _⟩ := tree_ev hs 0 (by omega) (by omega)
  have e2 := specTree_ev t (by omega)
  have fine : ∃ u : List TFile, Ev (fun k => spec_l91Fine.f k s 0) (u, p) ∧ u.length ≤ 7 ∧ ∀ f ∈ u, f.f1.size ≤ 40 := by
    unfold spec_l91Fine.f
    cases h1 : treeOkB t
    · rw [h1] at e2
      refine ⟨_, Ev.bind e1 (Ev.bind e2 (ev_neg (by simp) ev_some)), by simp, fun f hf => ?_⟩
      obtain rfl := List.mem_singleton.1 hf
      decide
    · rw [h1] at e2
      exact ⟨t, Ev.bind e1 (Ev.bind e2 (ev_pos rfl ev_some)), ht, tree_sizes h1⟩
  obtain ⟨u, e3, hu, hz⟩ := fine
  unfold spec_DrawSnapNames.f
  refine ⟨ofB 7 u, ev_bindc e0 (Ev.bind e3 (Ev.bind (specL12Of_ev 1 7 u (by omega) (fun f hf => by have := hz f hf; omega)) ev_some)), by simpa [ofB] using hu, fun x hx => ?_⟩
  obtain ⟨f, hf, rfl⟩ := List.mem_map.1 hx
  have h1 := hz f hf
  have h2 := piecesB_len f.f1
  simp only [List.length_map]
  omega
theorem FnSnapNames : laws_FnSnapNames.Pure := by
  intro l0 hm _ hw
  unfold maxLen at hm
  apply Ev.rounds
  unfold laws_FnSnapNames.f
  by_cases hlen : (l0.length : Int) > 1048576
  · exact ev_pos hlen ev_some
  obtain ⟨xs, e1, hx, hsx⟩ := drawSnapNames_ev l0 (bytes_in hw) (by omega)
  have hN := allNames_len xs hsx
  have hi : impl_SnapNames.f 1 xs = some (namesB (allNames xs)) := by unfold impl_SnapNames.f; rw [if_pos (by omega)]; rfl
  obtain ⟨asc, mem⟩ := namesB_asc (allNames xs)
  have hnl : (namesB (allNames xs)).length ≤ 280 := by
    have h1 : (namesB (allNames xs)).length ≤ ((allNames xs).mergeSort fun x y => decide (x ≤ y)).length := Go.Lib.compact_length_le _
    rw [List.length_mergeSort] at h1
    omega
  have hne := specNames_ev 1 xs (by omega) (by omega)
  have hin : ∀ i, i < xs.length → ∀ n ∈ (atListed xs i).f1, n ∈ allNames xs := fun i hi n hn => by
    rw [atListed_get hi] at hn
    exact List.mem_flatMap.2 ⟨xs[i], List.getElem_mem _, hn⟩
  have hout : ∀ n ∈ allNames xs, ∃ i, i < xs.length ∧ n ∈ (atListed xs i).f1 := fun n hn => by
    obtain ⟨x, hxm, hnx⟩ := List.mem_flatMap.1 hn
    obtain ⟨i, hi, rfl⟩ := List.mem_iff_getElem.1 hxm
    exact ⟨i, hi, by rw [atListed_get hi]; exact hnx⟩
  generalize namesB (allNames xs) = ns at hi asc mem hnl hne
  refine ev_neg hlen (Ev.bind e1 (ev_bindc hi (Ev.bind hne (Ev.bind (ldInts_ev ns ns (by omega)) (ev_pos (by simp) ?_)))))
  have hlist : ∀ i, (atListed xs i).f1.length ≤ 40 := fun i => by
    by_cases h : i < xs.length
    · rw [atListed_get h]; exact hsx _ (List.getElem_mem _)
    · have : atListed xs i = z40 := by simp [atListed, List.getElem?_eq_none (Nat.le_of_not_lt h)]
      rw [this]; decide
  have two : Ev (fun k => laws_FnSnapNames.l2 k ns 0 1 xs) true := by
    refine downTo (P := fun j => Ev (fun k => laws_FnSnapNames.l2 k ns (j : Int) 1 xs) true) (n := ns.length) ?_ ?_ 0 (Nat.zero_le _)
    · exact Ev.step (fun _ => laws_FnSnapNames.l2.eq_2 ..) (ev_neg (nat_ge (Nat.le_refl _)) ev_some)
    · intro j hj ih
      refine Ev.step (fun _ => laws_FnSnapNames.l2.eq_2 ..) (ev_pos (nat_lt hj) ?_)
      have hmem : ns.getD j 0 ∈ ns := by rw [show ns.getD j 0 = ns[j] from by simp [hj]]; exact List.getElem_mem _
      obtain ⟨m, hm1, hm2⟩ := hout _ ((mem _).1 hmem)
      have key : ∀ i, i ≤ xs.length → ∀ b : Bool, (b = true ∨ i ≤ m) → Ev (fun k => laws_FnSnapNames.l3 k ns (j : Int) b (i : Int) 1 xs) true := by
        refine downTo (P := fun i => ∀ b : Bool, (b = true ∨ i ≤ m) → Ev (fun k => laws_FnSnapNames.l3 k ns (j : Int) b (i : Int) 1 xs) true) (n := xs.length) ?_ ?_
        · intro b hb2
          have hbt : b = true := by rcases hb2 with h | h; exact h; omega
          subst hbt
          refine Ev.step (fun _ => laws_FnSnapNames.l3.eq_2 ..) (ev_neg (nat_ge (Nat.le_refl _)) (ev_pos rfl ?_))
          by_cases h0 : j = 0
          · subst h0
            refine ev_neg (by omega) ?_
            rw [wrap_up 0 ns.length hj (by omega)]
            exact ih
          · refine ev_pos (by omega) ?_
            rw [wrap_down j (by omega) (by omega), wrap_up j ns.length hj (by omega)]
            refine ev_pos (nat_0 _) (ev_pos (nat_lt (by omega)) (ev_pos (nat_0 j) (ev_pos (nat_lt hj) (ev_neg ?_ ih))))
            have h1 := List.pairwise_iff_getElem.1 asc (j - 1) j (by omega) hj (by omega)
            simp only [rdInt]
            rw [show ns.getD j 0 = ns[j] from by simp [hj], show ns.getD (j - 1) 0 = ns[j - 1] from by simp [show j - 1 < ns.length by omega]]
            omega
        · intro i hi2 ih2 b hb2
          refine Ev.step (fun _ => laws_FnSnapNames.l3.eq_2 ..) (ev_pos (nat_lt hi2) ?_)
          rw [wrap_up i xs.length hi2 (by omega)]
          cases b
          · refine ev_neg (by simp) (ev_pos (nat_0 i) (ev_pos (nat_0 j) (ev_pos (nat_lt hj) ?_)))
            simp only [rdListedAt, rdInt]
            refine Ev.bind (ldIn_ev _ _ (by have := hlist i; omega)) (ih2 _ ?_)
            have him : i ≤ m := by rcases hb2 with h | h; cases h; exact h
            by_cases hh : i = m
            · subst hh
              exact .inl (decide_eq_true hm2)
            · exact .inr (by omega)
          · exact ev_pos rfl (ih2 true (.inl rfl))
      exact key 0 (Nat.zero_le _) false (.inr (Nat.zero_le _))
  refine downTo (P := fun i => Ev (fun k => laws_FnSnapNames.l0 k ns (i : Int) 1 xs) true) (n := xs.length) ?_ ?_ 0 (Nat.zero_le _)
  · exact Ev.step (fun _ => laws_FnSnapNames.l0.eq_2 ..) (ev_neg (nat_ge (Nat.le_refl _)) two)
  · intro i hi2 ih
    refine Ev.step (fun _ => laws_FnSnapNames.l0.eq_2 ..) (ev_pos (nat_lt hi2) ?_)
    refine downTo (P := fun j => Ev (fun k => laws_FnSnapNames.l1 k ns (i : Int) (j : Int) 1 xs) true) (n := (atListed xs i).f1.length) ?_ ?_ 0 (Nat.zero_le _)
    · refine Ev.step (fun _ => laws_FnSnapNames.l1.eq_2 ..) (ev_pos (nat_0 i) (ev_pos (nat_lt hi2) (ev_neg (nat_ge (Nat.le_refl _)) ?_)))
      rw [wrap_up i xs.length hi2 (by omega)]
      exact ih
    · intro j hj ihj
      refine Ev.step (fun _ => laws_FnSnapNames.l1.eq_2 ..) (ev_pos (nat_0 i) (ev_pos (nat_lt hi2) (ev_pos (nat_lt hj) (ev_pos (nat_0 j) ?_))))
      simp only [rdListedAt, rdInt]
      refine Ev.bind (ldIn_ev ns _ (by omega)) (ev_pos ?_ ?_)
      · refine decide_eq_true ((mem _).2 (hin i hi2 _ ?_))
        rw [show (atListed xs i).f1.getD j 0 = (atListed xs i).f1[j] from by simp [hj]]
        exact List.getElem_mem _
      · rw [wrap_up j (atListed xs i).f1.length hj (by have := hlist i; omega)]
        exact ihj
end Go.Proofs.Ytdgidcbahbkabaa.Pure
