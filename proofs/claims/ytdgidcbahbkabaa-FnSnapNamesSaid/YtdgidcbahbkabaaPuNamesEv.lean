/- The reference's SnapNames and the law's looking, evaluated. -/
import Derived.Test.YtdgidcbahbkabaaPuNames
import Derived.Test.YtdgidcbahbkabaaPuLdSnap
import Derived.Test.YtdgidcbahbkabaaQx12
namespace Go.Proofs.Ytdgidcbahbkabaa.Q
open Go.RowKit Go.Proofs.YtdgidcbahbkabaaW.PrintWords Go.Lib
set_option linter.unusedVariables false
set_option linter.unusedSimpArgs false
theorem specAdd_ev (l : List Int) (n : Int) (hl : l.length ≤ 1000000) : Ev (fun k => spec_l12Add.f k l n) (addB l n) := by
  unfold spec_l12Add.f addB
  have key : ∀ i, i ≤ l.length → ∀ (out : List Int) (b : Bool), out.length ≤ i + (if b = true then 1 else 0) → Ev (fun k => spec_l12Add.l0 k l n out b (i : Int)) (out ++ addGo n b (l.drop i)) := by
    refine downTo (P := fun i => ∀ (out : List Int) (b : Bool), out.length ≤ i + (if b = true then 1 else 0) → Ev (fun k => spec_l12Add.l0 k l n out b (i : Int)) (out ++ addGo n b (l.drop i))) (n := l.length) ?_ ?_
    · intro out b ho
      refine Ev.step (fun _ => spec_l12Add.l0.eq_2 ..) (ev_neg (nat_ge (Nat.le_refl _)) ?_)
      rw [List.drop_eq_nil_of_le (Nat.le_refl _)]
      cases b
      · simp at ho
        exact ev_neg (by simp) (ev_posc (by omega) rfl)
      · exact ev_pos rfl (by simpa [addGo] using ev_some)
    · intro i hi ih out b ho
      have hd : l.drop i = l.getD i 0 :: l.drop (i + 1) := by rw [show l.getD i 0 = l[i] from by simp [hi]]; exact List.drop_eq_getElem_cons hi
      have hj : ∀ (q : Bool), (q = true → b = false) → Ev (fun k => spec_l12Add.j1 k l n out b (i : Int) q) (out ++ ((if q = true then [n] else []) ++ ((if l.getD i 0 = n then [] else [l.getD i 0]) ++ addGo n (b || q) (l.drop (i + 1))))) := by
        intro q hq
        refine Ev.step (fun _ => spec_l12Add.j1.eq_2 ..) ?_
        simp only [rdInt, wrap_up i l.length hi (by omega)]
        cases q
        · refine ev_neg (by simp) (ev_pos (nat_0 i) (ev_pos (nat_lt hi) ?_))
          rw [Bool.or_false]
          by_cases he : l.getD i 0 = n
          · refine ev_pos he ?_
            rw [if_pos he]
            exact ev_cast (ih out b (by omega)) (by simp)
          · refine ev_neg he (ev_pos (by cases b <;> simp at ho <;> omega) ?_)
            rw [if_neg he]
            exact ev_cast (ih (out ++ [l.getD i 0]) b (by simp; omega)) (by simp)
        · obtain rfl := hq rfl
          simp at ho
          refine ev_pos rfl (ev_pos (by omega) (ev_bindc rfl (ev_pos (nat_0 i) (ev_pos (nat_lt hi) ?_))))
          rw [Bool.or_true]
          by_cases he : l.getD i 0 = n
          · refine ev_pos he ?_
            rw [if_pos he]
            exact ev_cast (ih (out ++ [n]) true (by simp; omega)) (by simp)
          · refine ev_neg he (ev_pos (by simp; omega) ?_)
            rw [if_neg he]
            exact ev_cast (ih (out ++ [n] ++ [l.getD i 0]) true (by simp; omega)) (by simp)
      refine Ev.step (fun _ => spec_l12Add.l0.eq_2 ..) (ev_pos (nat_lt hi) ?_)
      rw [hd]
      unfold addGo
      cases b
      · refine ev_neg (by simp) (ev_pos (nat_0 i) ?_)
        simp only [rdInt]
        exact ev_cast (hj (decide (l.getD i 0 ≥ n)) (fun _ => rfl)) (by simp)
      · refine ev_pos rfl ?_
        exact ev_cast (hj false (fun h => by cases h)) (by simp)
  exact ev_cast (key 0 (Nat.zero_le _) [] false (by simp)) (by simp)
def addAll (o : List Int) (ns : List Int) : List Int := ns.foldl addB o
theorem addGo_len (n : Int) : ∀ (l : List Int) (b : Bool), (addGo n b l).length ≤ l.length + 1
  | [], b => by cases b <;> simp [addGo]
  | x :: r, b => by
    have h1 := addGo_len n r (b || decide (x ≥ n))
    have h2 : (addGo n true r).length ≤ r.length := by rw [addGo_true]; exact List.length_filter_le _ _
    unfold addGo
    cases b
    · by_cases hx : x ≥ n
      · simp only [Bool.false_or, decide_eq_true hx] at *
        by_cases he : x = n <;> simp [he] <;> omega
      · simp only [Bool.false_or, decide_eq_false hx] at *
        by_cases he : x = n <;> simp [he] <;> omega
    · simp only [Bool.true_or] at *
      by_cases he : x = n <;> simp [he] <;> omega
theorem addB_len (l : List Int) (n : Int) : (addB l n).length ≤ l.length + 1 := addGo_len n l false
theorem addAll_len : ∀ (ns o : List Int), (addAll o ns).length ≤ o.length + ns.length
  | [], o => by simp [addAll]
  | n :: ns, o => by
    have h1 := addAll_len ns (addB o n)
    have h2 := addB_len o n
    show (addAll (addB o n) ns).length ≤ _
    simp only [List.length_cons]; omega
theorem addAll_asc : ∀ (ns o : List Int), o.Pairwise (· < ·) → (addAll o ns).Pairwise (· < ·) ∧ ∀ x, x ∈ addAll o ns ↔ x ∈ ns ∨ x ∈ o
  | [], o, h => ⟨h, fun x => by simp [addAll]⟩
  | n :: ns, o, h => by
    obtain ⟨a1, a2⟩ := addB_asc n o h
    obtain ⟨b1, b2⟩ := addAll_asc ns (addB o n) a1
    refine ⟨b1, fun x => ?_⟩
    show x ∈ addAll (addB o n) ns ↔ _
    rw [b2, a2, List.mem_cons]
    constructor
    · rintro (a | a | a)
      · exact .inl (.inr a)
      · exact .inl (.inl a)
      · exact .inr a
    · rintro ((a | a) | a)
      · exact .inr (.inl a)
      · exact .inl a
      · exact .inr (.inr a)
theorem addAll_namesB (ns : List Int) : addAll [] ns = namesB ns := by
  obtain ⟨a1, a2⟩ := addAll_asc ns [] List.Pairwise.nil
  obtain ⟨b1, b2⟩ := namesB_asc ns
  exact ascI_ext a1 b1 fun x => by rw [a2, b2]; simp
theorem specNames_ev (a : Int) (l : List Listed) (hl : l.length ≤ 1000000) (hs : (allNames l).length ≤ 900000) : Ev (fun k => spec_SnapNames.f k a l) (namesB (allNames l)) := by
  unfold spec_SnapNames.f
  rw [← addAll_namesB]
  have key : ∀ i, i ≤ l.length → ∀ o : List Int, o.length + (allNames (l.drop i)).length ≤ 900000 → Ev (fun k => spec_SnapNames.l0 k o (i : Int) a l) (addAll o (allNames (l.drop i))) := by
    refine downTo (P := fun i => ∀ o : List Int, o.length + (allNames (l.drop i)).length ≤ 900000 → Ev (fun k => spec_SnapNames.l0 k o (i : Int) a l) (addAll o (allNames (l.drop i)))) (n := l.length) ?_ ?_
    · intro o _
      refine Ev.step (fun _ => spec_SnapNames.l0.eq_2 ..) (ev_neg (nat_ge (Nat.le_refl _)) ?_)
      rw [List.drop_eq_nil_of_le (Nat.le_refl _)]
      exact ev_some
    · intro i hi ih o ho
      have hd : allNames (l.drop i) = (atListed l i).f1 ++ allNames (l.drop (i + 1)) := by rw [atListed_get hi, List.drop_eq_getElem_cons hi]; rfl
      rw [hd] at ho ⊢
      rw [List.length_append] at ho
      refine Ev.step (fun _ => spec_SnapNames.l0.eq_2 ..) (ev_pos (nat_lt hi) ?_)
      have key2 : ∀ j, j ≤ (atListed l i).f1.length → ∀ o : List Int, o.length + ((atListed l i).f1.length - j) + (allNames (l.drop (i + 1))).length ≤ 900000 → Ev (fun k => spec_SnapNames.l1 k o (i : Int) (j : Int) a l) (addAll o ((atListed l i).f1.drop j ++ allNames (l.drop (i + 1)))) := by
        refine downTo (P := fun j => ∀ o : List Int, o.length + ((atListed l i).f1.length - j) + (allNames (l.drop (i + 1))).length ≤ 900000 → Ev (fun k => spec_SnapNames.l1 k o (i : Int) (j : Int) a l) (addAll o ((atListed l i).f1.drop j ++ allNames (l.drop (i + 1))))) (n := (atListed l i).f1.length) ?_ ?_
        · intro o ho
          refine Ev.step (fun _ => spec_SnapNames.l1.eq_2 ..) (ev_pos (nat_0 i) (ev_pos (nat_lt hi) (ev_neg (nat_ge (Nat.le_refl _)) ?_)))
          rw [List.drop_eq_nil_of_le (Nat.le_refl _), wrap_up i l.length hi (by omega), List.nil_append]
          exact ih o (by omega)
        · intro j hj ihj o ho
          have hdj : (atListed l i).f1.drop j = (atListed l i).f1.getD j 0 :: (atListed l i).f1.drop (j + 1) := by rw [show (atListed l i).f1.getD j 0 = (atListed l i).f1[j] from by simp [hj]]; exact List.drop_eq_getElem_cons hj
          refine Ev.step (fun _ => spec_SnapNames.l1.eq_2 ..) (ev_pos (nat_0 i) (ev_pos (nat_lt hi) (ev_pos (nat_lt hj) (ev_pos (nat_0 j) ?_))))
          have hal := addB_len o ((atListed l i).f1.getD j 0)
          simp only [rdListedAt, rdInt]
          refine Ev.bind (specAdd_ev o _ (by omega)) ?_
          rw [wrap_up j (atListed l i).f1.length hj (by omega), hdj, List.cons_append]
          exact ihj _ (by omega)
      exact key2 0 (Nat.zero_le _) o (by omega)
  exact key 0 (Nat.zero_le _) [] (by simpa using hs)
theorem ldIn_ev (l : List Int) (n : Int) (hl : l.length ≤ 1000000) : Ev (fun k => laws_ldIn.f k l n) (decide (n ∈ l)) := by
  unfold laws_ldIn.f
  have key : ∀ i, i ≤ l.length → Ev (fun k => laws_ldIn.l0 k l n (i : Int)) (decide (n ∈ l.drop i)) := by
    refine downTo (P := fun i => Ev (fun k => laws_ldIn.l0 k l n (i : Int)) (decide (n ∈ l.drop i))) (n := l.length) ?_ ?_
    · refine Ev.step (fun _ => laws_ldIn.l0.eq_2 ..) (ev_neg (nat_ge (Nat.le_refl _)) ?_)
      rw [List.drop_eq_nil_of_le (Nat.le_refl _)]
      exact ev_cast ev_some (by simp)
    · intro i hi ih
      have hd : l.drop i = l.getD i 0 :: l.drop (i + 1) := by rw [show l.getD i 0 = l[i] from by simp [hi]]; exact List.drop_eq_getElem_cons hi
      refine Ev.step (fun _ => laws_ldIn.l0.eq_2 ..) (ev_pos (nat_lt hi) (ev_pos (nat_0 i) ?_))
      rw [hd, wrap_up i l.length hi (by omega)]
      simp only [rdInt]
      by_cases he : l.getD i 0 = n
      · exact ev_pos he (ev_cast ev_some (decide_eq_true (List.mem_cons.2 (.inl he.symm))).symm)
      · refine ev_neg he (ev_cast ih ?_)
        have he2 : ¬ n = l.getD i 0 := fun h => he h.symm
        exact decide_eq_decide.2 ⟨fun h => List.mem_cons_of_mem _ h, fun h => (List.mem_cons.1 h).resolve_left he2⟩
  exact key 0 (Nat.zero_le _)
end Go.Proofs.Ytdgidcbahbkabaa.Q
