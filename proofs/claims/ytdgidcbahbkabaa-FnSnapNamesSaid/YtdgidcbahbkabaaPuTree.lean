/- Trees, plainly: which paths and texts may be, what the reference puts and drops, and that a tree can be drawn. -/
import Derived.Test.YtdgidcbahbkabaaPuRd
import Derived.Test.YtdgidcbahbkabaaQx10
import Derived.Test.YtdgidcbahbkabaaQx14
import Derived.Test.YtdgidcbahbkabaaQx11
namespace Go.Proofs.Ytdgidcbahbkabaa.Q
open Go.RowKit Go.Proofs.YtdgidcbahbkabaaW.PrintWords
set_option linter.unusedVariables false
set_option linter.unusedSimpArgs false
abbrev TFile := S74
def atF (t : List TFile) (i : Nat) : TFile := t.getD i z74
theorem rdFile (t : List TFile) (i : Nat) : rd_T74 t (i : Int) = atF t i := rfl
theorem rdFile0 (t : List TFile) : rd_T74 t 0 = atF t 0 := rfl
theorem atF_get {t : List TFile} {i : Nat} (h : i < t.length) : atF t i = t[i] := by simp [atF, h]

def lt5 (x : Int) : Bool := decide (x ≥ 97) && decide (x ≤ 101)
theorem specName_eq (x : Int) : spec_l11Name.f x = some (lt5 x) := by
  unfold spec_l11Name.f lt5
  by_cases h : x ≥ 97
  · rw [if_pos h, decide_eq_true h, Bool.true_and]
  · rw [if_neg h, decide_eq_false h, Bool.false_and]
def pathOkB (p : ByteArray) : Bool := (decide (p.size = 1) && lt5 (bt p 0)) || (decide (p.size = 3) && (lt5 (bt p 0) && (decide (bt p 1 = 47) && lt5 (bt p 2))))
theorem pathOk_size {p : ByteArray} (h : pathOkB p = true) : p.size = 1 ∨ p.size = 3 := by
  unfold pathOkB at h
  simp only [Bool.or_eq_true, Bool.and_eq_true, decide_eq_true_eq] at h
  omega
theorem specPath_eq (p : ByteArray) : spec_PathOk.f p = some (pathOkB p) := by
  unfold spec_PathOk.f pathOkB
  simp only [specName_eq, Option.bind_some]
  by_cases h1 : p.size = 1
  · rw [if_pos (by omega), if_pos (by omega)]
    simp [h1]
  · by_cases h3 : p.size = 3
    · rw [if_neg (by omega), if_pos (by omega), if_pos (by omega)]
      by_cases h0 : lt5 (bt p 0) = true
      · rw [if_pos h0, if_pos (by omega)]
        by_cases h4 : bt p 1 = 47
        · rw [if_pos h4, if_pos (by omega)]
          simp [h3, h0, h4]
        · rw [if_neg h4]
          simp [h3, h0, h4]
      · rw [if_neg h0]
        simp [h3, h0]
    · rw [if_neg (by omega), if_neg (by omega)]
      simp [h1, h3]
def lettersB (s : ByteArray) (i : Nat) : Bool := decide (97 ≤ bt s i) && decide (bt s i ≤ 122)
def textOkB (s : ByteArray) : Bool := decide (s.size ≤ 40) && allFrom (lettersB s) 0 s.size
theorem specLetters_ev (s : ByteArray) (h : s.size ≤ 9223372036854775807) : Ev (fun k => spec_l1Letters.f k s) (allFrom (lettersB s) 0 s.size) := by
  unfold spec_l1Letters.f
  refine downTo (P := fun i => Ev (fun k => spec_l1Letters.l0 k s (i : Int)) (allFrom (lettersB s) i s.size)) (n := s.size) ?_ ?_ 0 (Nat.zero_le _)
  · refine Ev.step (fun _ => spec_l1Letters.l0.eq_2 ..) (ev_neg (nat_ge (Nat.le_refl _)) ?_)
    rw [allFrom_ge (Nat.le_refl _)]
    exact ev_some
  · intro i hi ih
    refine Ev.step (fun _ => spec_l1Letters.l0.eq_2 ..) (ev_pos (nat_lt hi) (ev_pos (nat_0 i) ?_))
    rw [allFrom_lt hi, wrap_up i s.size hi h]
    unfold lettersB
    by_cases h1 : bt s i < 97
    · rw [decide_eq_false (by omega : ¬ 97 ≤ bt s i)]
      exact ev_pos h1 ev_some
    · refine ev_neg h1 ?_
      rw [decide_eq_true (by omega : 97 ≤ bt s i)]
      by_cases h2 : bt s i > 122
      · rw [decide_eq_false (by omega : ¬ bt s i ≤ 122)]
        exact ev_pos h2 ev_some
      · rw [decide_eq_true (by omega : bt s i ≤ 122)]
        exact ev_neg h2 ih
theorem specText_ev (s : ByteArray) : Ev (fun k => spec_TextOk.f k s) (textOkB s) := by
  unfold spec_TextOk.f textOkB
  by_cases h : s.size ≤ 40
  · rw [decide_eq_true h, Bool.true_and]
    exact ev_pos (by omega) (Ev.bind (specLetters_ev s (by omega)) ev_some)
  · rw [decide_eq_false h, Bool.false_and]
    exact ev_neg (by omega) ev_some
def clashB (a b : ByteArray) : Bool := !decide (a.size = b.size) && (bt a 0 == bt b 0)
theorem specClash_eq {a b : ByteArray} (ha : 0 < a.size) (hb : 0 < b.size) : spec_l11Clash.f a b = some (clashB a b) := by
  unfold spec_l11Clash.f clashB
  by_cases h : a.size = b.size
  · rw [if_pos (by omega), decide_eq_true h]; rfl
  · rw [if_neg (by omega), if_pos (by omega), if_pos (by omega), decide_eq_false h]; rfl
def fileOkB (t : List TFile) (i : Nat) : Bool :=
  pathOkB (atF t i).f0 && (textOkB (atF t i).f1 && ((decide (i = 0) || Op.bytesLess (atF t (i - 1)).f0.toList (atF t i).f0.toList) && allFrom (fun k => !clashB (atF t k).f0 (atF t i).f0) 0 i))
def treeOkB (t : List TFile) : Bool := allFrom (fileOkB t) 0 t.length && decide (t.length ≤ 6)
theorem treeOkB_len {t : List TFile} (h : treeOkB t = true) : t.length ≤ 6 := by
  unfold treeOkB at h
  simp only [Bool.and_eq_true, decide_eq_true_eq] at h
  exact h.2
theorem treeOkB_at {t : List TFile} (h : treeOkB t = true) {i : Nat} (hi : i < t.length) : fileOkB t i = true := by
  unfold treeOkB at h
  simp only [Bool.and_eq_true, decide_eq_true_eq] at h
  exact allFrom_iff.1 h.1 i (Nat.zero_le _) hi
theorem treeOkB_file {t : List TFile} (h : treeOkB t = true) {f : TFile} (hf : f ∈ t) : pathOkB f.f0 = true ∧ textOkB f.f1 = true := by
  obtain ⟨i, hi, rfl⟩ := List.mem_iff_getElem.1 hf
  have := treeOkB_at h hi
  unfold fileOkB at this
  simp only [Bool.and_eq_true, atF_get hi] at this
  exact ⟨this.1, this.2.1⟩
theorem specTree_ev (t : List TFile) (hl : t.length ≤ 4398046511104) : Ev (fun k => spec_TreeOk.f k t) (treeOkB t) := by
  unfold spec_TreeOk.f treeOkB
  refine downTo (P := fun i => (∀ j, j < i → pathOkB (atF t j).f0 = true) → Ev (fun k => spec_TreeOk.l0 k t (i : Int)) (allFrom (fileOkB t) i t.length && decide (t.length ≤ 6))) (n := t.length) ?_ ?_ 0 (Nat.zero_le _) (fun _ h => absurd h (Nat.not_lt_zero _))
  · intro _
    refine Ev.step (fun _ => spec_TreeOk.l0.eq_2 ..) (ev_neg (nat_ge (Nat.le_refl _)) ?_)
    rw [allFrom_ge (Nat.le_refl _), Bool.true_and, show decide (t.length ≤ 6) = decide ((t.length : Int) ≤ 6) from by simp; omega]
    exact ev_some
  · intro i hi ih hp
    refine Ev.step (fun _ => spec_TreeOk.l0.eq_2 ..) (ev_pos (nat_lt hi) (ev_pos (nat_0 i) (ev_bindc (specPath_eq _) ?_)))
    rw [allFrom_lt hi]
    simp only [rdFile]
    have hj : ∀ q : Bool, pathOkB (atF t i).f0 = true → Ev (fun k => spec_TreeOk.j1 k t (i : Int) (!q)) (((q && allFrom (fun k => !clashB (atF t k).f0 (atF t i).f0) 0 i) && allFrom (fileOkB t) (i + 1) t.length) && decide (t.length ≤ 6)) := by
      intro q h1
      refine Ev.step (fun _ => spec_TreeOk.j1.eq_2 ..) ?_
      cases q
      · exact ev_pos rfl (by simpa using ev_some)
      · refine ev_neg (by simp) ?_
        rw [Bool.true_and]
        refine downTo (P := fun m => Ev (fun k => spec_TreeOk.l1 k t (i : Int) (m : Int)) ((allFrom (fun k => !clashB (atF t k).f0 (atF t i).f0) m i && allFrom (fileOkB t) (i + 1) t.length) && decide (t.length ≤ 6))) (n := i) ?_ ?_ 0 (Nat.zero_le _)
        · refine Ev.step (fun _ => spec_TreeOk.l1.eq_2 ..) (ev_neg (nat_ge (Nat.le_refl _)) ?_)
          rw [allFrom_ge (Nat.le_refl _), Bool.true_and, wrap_up i t.length hi (by omega)]
          refine ih fun j hj => ?_
          by_cases hji : j = i
          · exact hji ▸ h1
          · exact hp j (by omega)
        · intro m hm ihm
          refine Ev.step (fun _ => spec_TreeOk.l1.eq_2 ..) (ev_pos (nat_lt hm) (ev_pos (nat_0 m) (ev_pos (nat_lt (by omega)) (ev_pos (nat_0 i) (ev_pos (nat_lt hi) ?_)))))
          simp only [rdFile]
          have s1 := pathOk_size (hp m hm)
          have s2 := pathOk_size h1
          refine ev_bindc (specClash_eq (by omega) (by omega)) ?_
          rw [allFrom_lt hm, wrap_up m i hm (by omega)]
          cases hc : clashB (atF t m).f0 (atF t i).f0
          · exact ev_neg (by simp) (by simpa using ihm)
          · exact ev_pos rfl (by simpa using ev_some)
    have hf : fileOkB t i = (pathOkB (atF t i).f0 && (textOkB (atF t i).f1 && ((decide (i = 0) || Op.bytesLess (atF t (i - 1)).f0.toList (atF t i).f0.toList) && allFrom (fun k => !clashB (atF t k).f0 (atF t i).f0) 0 i))) := rfl
    rw [hf]
    by_cases h1 : pathOkB (atF t i).f0 = true
    · refine ev_pos h1 (Ev.bind (specText_ev _) ?_)
      rw [h1, Bool.true_and]
      by_cases h2 : textOkB (atF t i).f1 = true
      · refine ev_pos h2 ?_
        rw [h2]
        simp only [Bool.true_and]
        by_cases h0 : i = 0
        · subst h0
          exact ev_neg (by omega) (hj true h1)
        · refine ev_pos (by omega) ?_
          rw [wrap_down i (by omega) (by omega)]
          refine ev_pos (nat_0 _) (ev_pos (nat_lt (by omega)) ?_)
          rw [decide_eq_false h0, Bool.false_or]
          exact hj _ h1
      · refine ev_neg h2 ?_
        rw [Bool.eq_false_iff.2 h2]
        refine Ev.step (fun _ => spec_TreeOk.j1.eq_2 ..) (ev_pos rfl ?_)
        simp only [Bool.false_and]
        exact ev_some
    · refine ev_neg h1 (Ev.step (fun _ => spec_TreeOk.j1.eq_2 ..) (ev_pos rfl ?_))
      rw [Bool.eq_false_iff.2 h1]
      simp only [Bool.false_and]
      exact ev_some
def putGo (p s : ByteArray) : Bool → List TFile → List TFile
  | b, [] => if b = true then [] else [⟨p, s⟩]
  | b, f :: r => (if (!b && !(Op.bytesLess f.f0.toList p.toList)) = true then [⟨p, s⟩] else []) ++ ((if f.f0.toList = p.toList then [] else [f]) ++ putGo p s (b || !(Op.bytesLess f.f0.toList p.toList)) r)
def putB (t : List TFile) (p s : ByteArray) : List TFile := putGo p s false t
theorem putGo_len (p s : ByteArray) : ∀ (t : List TFile) (b : Bool), (putGo p s b t).length ≤ t.length + (if b = true then 0 else 1)
  | [], b => by cases b <;> simp [putGo]
  | f :: r, b => by
    have := putGo_len p s r (b || !(Op.bytesLess f.f0.toList p.toList))
    unfold putGo
    generalize Op.bytesLess f.f0.toList p.toList = q at this ⊢
    by_cases he : f.f0.toList = p.toList
    · rw [if_pos he]
      cases b <;> cases q <;> simp at this ⊢ <;> omega
    · rw [if_neg he]
      cases b <;> cases q <;> simp at this ⊢ <;> omega
theorem putB_len (t : List TFile) (p s : ByteArray) : (putB t p s).length ≤ t.length + 1 := putGo_len p s t false
theorem specPutL_ev (t : List TFile) (p s : ByteArray) (hl : t.length ≤ 1000) : Ev (fun k => spec_l11Put.f k t p s) (putB t p s) := by
  unfold spec_l11Put.f putB
  have key : ∀ i, i ≤ t.length → ∀ (out : List TFile) (b : Bool), out.length ≤ i + (if b = true then 1 else 0) → Ev (fun k => spec_l11Put.l0 k t out b (i : Int) p s) (out ++ putGo p s b (t.drop i)) := by
    refine downTo (P := fun i => ∀ (out : List TFile) (b : Bool), out.length ≤ i + (if b = true then 1 else 0) → Ev (fun k => spec_l11Put.l0 k t out b (i : Int) p s) (out ++ putGo p s b (t.drop i))) (n := t.length) ?_ ?_
    · intro out b ho
      refine Ev.step (fun _ => spec_l11Put.l0.eq_2 ..) (ev_neg (nat_ge (Nat.le_refl _)) ?_)
      rw [List.drop_eq_nil_of_le (Nat.le_refl _)]
      cases b
      · simp at ho
        exact ev_neg (by simp) (ev_posc (by omega) rfl)
      · exact ev_pos rfl (by simpa [putGo] using ev_some)
    · intro i hi ih out b ho
      have hd : t.drop i = atF t i :: t.drop (i + 1) := by rw [atF_get hi]; exact List.drop_eq_getElem_cons hi
      have hj : ∀ (q : Bool), (q = true → b = false) → Ev (fun k => spec_l11Put.j1 k t out b (i : Int) q p s) (out ++ ((if q = true then [⟨p, s⟩] else []) ++ ((if (atF t i).f0.toList = p.toList then [] else [atF t i]) ++ putGo p s (b || q) (t.drop (i + 1))))) := by
        intro q hq
        refine Ev.step (fun _ => spec_l11Put.j1.eq_2 ..) ?_
        simp only [rdFile, wrap_up i t.length hi (by omega)]
        cases q
        · refine ev_neg (by simp) (ev_pos (nat_0 i) (ev_pos (nat_lt hi) ?_))
          rw [Bool.or_false]
          by_cases he : (atF t i).f0.toList = p.toList
          · refine ev_pos he ?_
            rw [if_pos he]
            exact ev_cast (ih out b (by omega)) (by simp)
          · refine ev_neg he (ev_pos (by cases b <;> simp at ho <;> omega) ?_)
            rw [if_neg he]
            exact ev_cast (ih (out ++ [atF t i]) b (by simp; omega)) (by simp)
        · obtain rfl := hq rfl
          simp at ho
          refine ev_pos rfl (ev_pos (by omega) (ev_bindc rfl (ev_pos (nat_0 i) (ev_pos (nat_lt hi) ?_))))
          rw [Bool.or_true]
          by_cases he : (atF t i).f0.toList = p.toList
          · refine ev_pos he ?_
            rw [if_pos he]
            exact ev_cast (ih (out ++ [⟨p, s⟩]) true (by simp; omega)) (by simp)
          · refine ev_neg he (ev_pos (by simp; omega) ?_)
            rw [if_neg he]
            exact ev_cast (ih (out ++ [⟨p, s⟩] ++ [atF t i]) true (by simp; omega)) (by simp)
      refine Ev.step (fun _ => spec_l11Put.l0.eq_2 ..) (ev_pos (nat_lt hi) ?_)
      rw [hd]
      unfold putGo
      cases b
      · refine ev_neg (by simp) (ev_pos (nat_0 i) ?_)
        simp only [rdFile]
        exact ev_cast (hj (!(Op.bytesLess (atF t i).f0.toList p.toList)) (fun _ => rfl)) (by simp)
      · refine ev_pos rfl ?_
        exact ev_cast (hj false (fun h => by cases h)) (by simp)
  have := key 0 (Nat.zero_le _) [] false (by simp)
  simpa using this
def specTPut (t : List TFile) (p s : ByteArray) : List TFile × Bool :=
  if treeOkB t = true ∧ pathOkB p = true ∧ textOkB s = true then (if treeOkB (putB t p s) = true then (putB t p s, true) else (t, false)) else ([], false)
theorem specTPut_ev (t : List TFile) (p s : ByteArray) (hl : t.length ≤ 4398046511104) : Ev (fun k => spec_TreePut.f k t p s) (specTPut t p s) := by
  unfold spec_TreePut.f specTPut
  refine Ev.bind (specTree_ev t hl) ?_
  cases h1 : treeOkB t
  · refine ev_neg (by simp) (Ev.step (fun _ => spec_TreePut.j0.eq_2 ..) (ev_pos rfl ?_))
    rw [if_neg (by simp)]
    exact ev_some
  · refine ev_pos rfl (ev_bindc (specPath_eq p) ?_)
    cases h2 : pathOkB p
    · refine ev_neg (by simp) (Ev.step (fun _ => spec_TreePut.j0.eq_2 ..) (ev_pos rfl ?_))
      rw [if_neg (by simp)]
      exact ev_some
    · refine ev_pos rfl (Ev.bind (specText_ev s) (Ev.step (fun _ => spec_TreePut.j0.eq_2 ..) ?_))
      cases h3 : textOkB s
      · refine ev_pos rfl ?_
        rw [if_neg (by simp)]
        exact ev_some
      · have h6 := treeOkB_len h1
        have h7 := putB_len t p s
        refine ev_neg (by simp) (Ev.bind (specPutL_ev t p s (by omega)) (Ev.bind (specTree_ev _ (by omega)) ?_))
        simp only [and_self, ↓reduceIte]
        cases h4 : treeOkB (putB t p s)
        · refine ev_neg (by simp) (ev_bindc rfl (ev_pos (by simp; omega) ?_))
          rw [if_neg (by simp)]
          exact ev_some
        · refine ev_pos rfl ?_
          rw [if_pos rfl]
          exact ev_some
theorem specTPut_len (t : List TFile) (p s : ByteArray) (hl : t.length ≤ 6) : (specTPut t p s).1.length ≤ 6 := by
  unfold specTPut
  split
  · split
    · exact treeOkB_len (by assumption)
    · exact hl
  · simp
def dropB (t : List TFile) (p : ByteArray) : List TFile := t.filter (fun f => !decide (f.f0.toList = p.toList))
theorem dropB_len (t : List TFile) (p : ByteArray) : (dropB t p).length ≤ t.length := List.length_filter_le _ _
theorem specDropL_ev (t : List TFile) (p : ByteArray) (hl : t.length ≤ 4398046511104) : Ev (fun k => spec_l11Drop.f k t p) (dropB t p) := by
  unfold spec_l11Drop.f
  have key : ∀ i, i ≤ t.length → ∀ (out : List TFile), out.length ≤ i → Ev (fun k => spec_l11Drop.l0 k t p out (i : Int)) (out ++ dropB (t.drop i) p) := by
    refine downTo (P := fun i => ∀ (out : List TFile), out.length ≤ i → Ev (fun k => spec_l11Drop.l0 k t p out (i : Int)) (out ++ dropB (t.drop i) p)) (n := t.length) ?_ ?_
    · intro out ho
      refine Ev.step (fun _ => spec_l11Drop.l0.eq_2 ..) (ev_neg (nat_ge (Nat.le_refl _)) ?_)
      rw [List.drop_eq_nil_of_le (Nat.le_refl _)]
      simpa [dropB] using ev_some
    · intro i hi ih out ho
      have hd : t.drop i = atF t i :: t.drop (i + 1) := by rw [atF_get hi]; exact List.drop_eq_getElem_cons hi
      refine Ev.step (fun _ => spec_l11Drop.l0.eq_2 ..) (ev_pos (nat_lt hi) (ev_pos (nat_0 i) ?_))
      rw [hd]
      simp only [rdFile, wrap_up i t.length hi (by omega)]
      by_cases he : (atF t i).f0.toList = p.toList
      · refine ev_pos he (ev_cast (ih out (by omega)) ?_)
        simp [dropB, he]
      · refine ev_neg he (ev_pos (by omega) (ev_cast (ih (out ++ [atF t i]) (by simp; omega)) ?_))
        simp [dropB, he]
  exact ev_cast (key 0 (Nat.zero_le _) [] (by simp)) (by simp)
def specTDrop (t : List TFile) (p : ByteArray) : List TFile × Bool := if treeOkB t = true then (dropB t p, decide ((dropB t p).length < t.length)) else ([], false)
theorem specTDrop_ev (t : List TFile) (p : ByteArray) (hl : t.length ≤ 4398046511104) : Ev (fun k => spec_TreeDrop.f k t p) (specTDrop t p) := by
  unfold spec_TreeDrop.f specTDrop
  refine Ev.bind (specTree_ev t hl) ?_
  cases h1 : treeOkB t
  · refine ev_neg (by simp) ?_
    rw [if_neg (by simp)]
    exact ev_some
  · refine ev_pos rfl (Ev.bind (specDropL_ev t p hl) (ev_cast ev_some ?_))
    rw [if_pos rfl]
    simp
theorem specTDrop_len (t : List TFile) (p : ByteArray) : (specTDrop t p).1.length ≤ t.length := by
  unfold specTDrop
  split
  · exact dropB_len t p
  · simp

/-! what is drawn -/
section
variable {s : List Int} (h : Code8 s)
include h
theorem of_ev (p : Int) (hp : 0 ≤ p) (hp2 : p ≤ 100000000) (l : List ByteArray) (h1 : 1 ≤ l.length) (h2 : l.length ≤ 1000) : ∃ x, Ev (fun k => spec_l6Rd_of.f k s p l) (x, p + 1) ∧ x ∈ l := by
  obtain ⟨r, e, hr0, hr1⟩ := pick_ev h p (l.length : Int) hp hp2 (by omega)
  have hr2 := hr1 (by omega)
  refine ⟨rdOf ByteArray.empty l r, Ev.bind e (ev_pos hr0 (ev_pos hr2 ev_some)), ?_⟩
  unfold rdOf
  have : r.toNat < l.length := by omega
  simp [this]
theorem path_ev (p : Int) (hp : 0 ≤ p) (hp2 : p ≤ 10000000) : ∃ x p', Ev (fun k => spec_l91Path.f k s p) (x, p') ∧ x.size ≤ 5 ∧ p ≤ p' ∧ p' ≤ p + 2 := by
  obtain ⟨r, e, hr0, hr1⟩ := pick_ev h p 40 hp (by omega) (by omega)
  unfold spec_l91Path.f
  by_cases hr : r = 0
  · obtain ⟨x, ex, hx⟩ := of_ev h (p + 1) (by omega) (by omega) [(⟨#[]⟩ : ByteArray), (⟨#[102]⟩ : ByteArray), (⟨#[97, 47]⟩ : ByteArray), (⟨#[97, 98]⟩ : ByteArray), (⟨#[97, 47, 98, 47, 99]⟩ : ByteArray), (⟨#[47, 97]⟩ : ByteArray)] (by simp) (by simp)
    refine ⟨x, p + 1 + 1, Ev.bind e (ev_pos hr (Ev.bind ex ev_some)), ?_, by omega, by omega⟩
    simp only [List.mem_cons, List.not_mem_nil, or_false] at hx
    rcases hx with rfl | rfl | rfl | rfl | rfl | rfl <;> decide
  · obtain ⟨x, ex, hx⟩ := of_ev h (p + 1) (by omega) (by omega) [(⟨#[97]⟩ : ByteArray), (⟨#[98]⟩ : ByteArray), (⟨#[99, 47, 97]⟩ : ByteArray), (⟨#[99, 47, 98]⟩ : ByteArray), (⟨#[100, 47, 97]⟩ : ByteArray), (⟨#[101]⟩ : ByteArray), (⟨#[97, 47, 98]⟩ : ByteArray), (⟨#[100]⟩ : ByteArray)] (by simp) (by simp)
    refine ⟨x, p + 1 + 1, Ev.bind e (ev_neg hr (Ev.bind ex ev_some)), ?_, by omega, by omega⟩
    simp only [List.mem_cons, List.not_mem_nil, or_false] at hx
    rcases hx with rfl | rfl | rfl | rfl | rfl | rfl | rfl | rfl <;> decide
end
theorem many_ev : ∃ y, Ev (fun k => spec_l6Many.f k (⟨#[97, 98, 99, 100, 101]⟩ : ByteArray) 9) y := by
  have h : ∃ y, spec_l6Many.f 6 (⟨#[97, 98, 99, 100, 101]⟩ : ByteArray) 9 = some y := by
    have : (spec_l6Many.f 6 (⟨#[97, 98, 99, 100, 101]⟩ : ByteArray) 9).isSome = true := by decide +kernel
    exact Option.isSome_iff_exists.1 this
  obtain ⟨y, hy⟩ := h
  exact ⟨y, Ev.of (fun k => spec_l6Many.mono _ _ k) hy⟩
section
variable {s : List Int} (h : Code8 s)
include h
theorem text_j3 (x : ByteArray) (p : Int) (hp : 0 ≤ p) (hp2 : p ≤ 10000000) (hx : x.size ≤ 1000) : ∃ y, Ev (fun k => spec_l91Text.j3 k x s p) (y, p + 1) := by
  obtain ⟨r, e, hr0, hr1⟩ := pick_ev h p 60 hp (by omega) (by omega)
  by_cases hr : r = 0
  · exact ⟨_, Ev.step (fun _ => spec_l91Text.j3.eq_2 ..) (Ev.bind e (ev_pos hr (ev_posc (by omega) rfl)))⟩
  · by_cases hr2 : r = 1
    · obtain ⟨y, ey⟩ := many_ev
      exact ⟨y, Ev.step (fun _ => spec_l91Text.j3.eq_2 ..) (Ev.bind e (ev_neg hr (ev_pos hr2 (Ev.bind ey ev_some))))⟩
    · exact ⟨x, Ev.step (fun _ => spec_l91Text.j3.eq_2 ..) (Ev.bind e (ev_neg hr (ev_neg hr2 ev_some)))⟩
theorem text_j2 (x : ByteArray) (p : Int) (hp : 0 ≤ p) (hp2 : p ≤ 10000000) (hx : x.size ≤ 1000) : ∃ y, Ev (fun k => spec_l91Text.j2 k x s p) (y, p + 1) := by
  by_cases hl : (x.size : Int) > 40
  · obtain ⟨y, ey⟩ := text_j3 h (x.extract 0 40) p hp hp2 (by rw [ByteArray.size_extract]; omega)
    exact ⟨y, Ev.step (fun _ => spec_l91Text.j2.eq_2 ..) (ev_pos hl (ev_pos (by omega) (ev_pos (by omega) ey)))⟩
  · obtain ⟨y, ey⟩ := text_j3 h x p hp hp2 hx
    exact ⟨y, Ev.step (fun _ => spec_l91Text.j2.eq_2 ..) (ev_neg hl ey)⟩
theorem text_l1 : ∀ (n : Nat) (x : ByteArray) (p : Int), n ≤ 20 → 0 ≤ p → p + n ≤ 1000000 → x.size + n ≤ 1000 → ∃ y p', Ev (fun k => spec_l91Text.l1 k x (n : Int) s p) (y, p') ∧ p ≤ p' ∧ p' ≤ p + n + 1
  | 0, x, p, hn, hp, hp2, hx => by
    obtain ⟨y, ey⟩ := text_j2 h x p hp (by omega) (by omega)
    exact ⟨y, p + 1, Ev.step (fun _ => spec_l91Text.l1.eq_2 ..) (ev_neg (by simp) ey), by omega, by omega⟩
  | n + 1, x, p, hn, hp, hp2, hx => by
    obtain ⟨r, e, hr0, hr1⟩ := pick_ev h p 26 hp (by omega) (by omega)
    have hz : (strOfNums [(wrap64 (97 + r)) % 256]).size = 1 := by simp [strOfNums_size]
    obtain ⟨y, p', ey, h1, h2⟩ := text_l1 n (x ++ strOfNums [(wrap64 (97 + r)) % 256]) (p + 1) (by omega) (by omega) (by omega) (by rw [ByteArray.size_append, hz]; omega)
    refine ⟨y, p', Ev.step (fun _ => spec_l91Text.l1.eq_2 ..) (ev_pos (by omega) (Ev.bind e (ev_bindc rfl (ev_pos (by rw [hz]; omega) ?_)))), by omega, by omega⟩
    rw [show wrap64 (((n + 1 : Nat) : Int) - 1) = (n : Int) from by rw [wrap_in _ (by omega) (by omega)]; omega]
    exact ey
theorem text_l0 : ∀ (n : Nat) (x : ByteArray) (p : Int), n ≤ 20 → 0 ≤ p → p + n ≤ 100000 → x.size + 10 * n ≤ 500 → ∃ y p', Ev (fun k => spec_l91Text.l0 k x (n : Int) s p) (y, p') ∧ p ≤ p' ∧ p' ≤ p + n + 20
  | 0, x, p, hn, hp, hp2, hx => by
    obtain ⟨r, e, hr0, hr1⟩ := pick_ev h p 4 hp (by omega) (by omega)
    by_cases hr : r = 0
    · obtain ⟨q, eq, hq0, hq1⟩ := pick_ev h (p + 1) 12 (by omega) (by omega) (by omega)
      obtain ⟨m, rfl⟩ := Int.eq_ofNat_of_zero_le hq0
      have := hq1 (by omega)
      obtain ⟨y, p', ey, h1, h2⟩ := text_l1 h m x (p + 1 + 1) (by omega) (by omega) (by omega) (by omega)
      exact ⟨y, p', Ev.step (fun _ => spec_l91Text.l0.eq_2 ..) (ev_neg (by simp) (Ev.bind e (ev_pos hr (Ev.bind eq ey)))), by omega, by omega⟩
    · obtain ⟨y, ey⟩ := text_j2 h x (p + 1) (by omega) (by omega) (by omega)
      exact ⟨y, p + 1 + 1, Ev.step (fun _ => spec_l91Text.l0.eq_2 ..) (ev_neg (by simp) (Ev.bind e (ev_neg hr ey))), by omega, by omega⟩
  | n + 1, x, p, hn, hp, hp2, hx => by
    obtain ⟨z, e, hz⟩ := of_ev h p hp (by omega) [(⟨#[97, 98, 99]⟩ : ByteArray), (⟨#[104, 101, 108, 108, 111]⟩ : ByteArray), (⟨#[119, 111, 114, 108, 100]⟩ : ByteArray), (⟨#[97, 97, 97, 97]⟩ : ByteArray), (⟨#[107, 101, 101, 112]⟩ : ByteArray), (⟨#[122, 122]⟩ : ByteArray), (⟨#[98, 97, 99, 107, 117, 112]⟩ : ByteArray), (⟨#[113]⟩ : ByteArray)] (by simp) (by simp)
    have hz2 : z.size ≤ 8 := by
      simp only [List.mem_cons, List.not_mem_nil, or_false] at hz
      rcases hz with rfl | rfl | rfl | rfl | rfl | rfl | rfl | rfl <;> decide
    obtain ⟨y, p', ey, h1, h2⟩ := text_l0 n (x ++ z) (p + 1) (by omega) (by omega) (by omega) (by rw [ByteArray.size_append]; omega)
    refine ⟨y, p', Ev.step (fun _ => spec_l91Text.l0.eq_2 ..) (ev_pos (by omega) (Ev.bind e (ev_pos (by simp only; omega) ?_))), by omega, by omega⟩
    rw [show wrap64 (((n + 1 : Nat) : Int) - 1) = (n : Int) from by rw [wrap_in _ (by omega) (by omega)]; omega]
    exact ey
theorem text_ev (p : Int) (hp : 0 ≤ p) (hp2 : p ≤ 10000) : ∃ y p', Ev (fun k => spec_l91Text.f k s p) (y, p') ∧ p ≤ p' ∧ p' ≤ p + 40 := by
  obtain ⟨r, e, hr0, hr1⟩ := pick_ev h p 5 hp (by omega) (by omega)
  obtain ⟨m, rfl⟩ := Int.eq_ofNat_of_zero_le hr0
  have := hr1 (by omega)
  obtain ⟨y, p', ey, h1, h2⟩ := text_l0 h m ⟨#[]⟩ (p + 1) (by omega) (by omega) (by omega) (by show 0 + 10 * m ≤ 500; omega)
  exact ⟨y, p', Ev.bind e ey, by omega, by omega⟩
theorem tree_l0 : ∀ (n : Nat) (t : List TFile) (p : Int), n ≤ 20 → 0 ≤ p → p + 50 * n ≤ 9000 → t.length ≤ 6 → ∃ t' p', Ev (fun k => spec_l91Tree.l0 k t (n : Int) s p) (t', p') ∧ t'.length ≤ 7 ∧ p ≤ p' ∧ p' ≤ p + 50 * n + 10
  | 0, t, p, hn, hp, hp2, hx => by
    obtain ⟨r, e, hr0, hr1⟩ := pick_ev h p 40 hp (by omega) (by omega)
    by_cases hr : r = 0
    · obtain ⟨x, p', ex, hx2, h1, h2⟩ := path_ev h (p + 1) (by omega) (by omega)
      exact ⟨_, p', Ev.step (fun _ => spec_l91Tree.l0.eq_2 ..) (ev_neg (by simp) (Ev.bind e (ev_pos hr (Ev.bind ex (ev_posc (by omega) rfl))))), by simp; omega, by omega, by omega⟩
    · by_cases hr2 : r = 1
      · by_cases ht : (t.length : Int) > 0
        · exact ⟨_, p + 1, Ev.step (fun _ => spec_l91Tree.l0.eq_2 ..) (ev_neg (by simp) (Ev.bind e (ev_neg hr (ev_pos hr2 (ev_pos ht (ev_posc ht rfl)))))), by simp; omega, by omega, by omega⟩
        · exact ⟨t, p + 1, Ev.step (fun _ => spec_l91Tree.l0.eq_2 ..) (ev_neg (by simp) (Ev.bind e (ev_neg hr (ev_pos hr2 (ev_neg ht ev_some))))), by omega, by omega, by omega⟩
      · exact ⟨t, p + 1, Ev.step (fun _ => spec_l91Tree.l0.eq_2 ..) (ev_neg (by simp) (Ev.bind e (ev_neg hr (ev_neg hr2 ev_some)))), by omega, by omega, by omega⟩
  | n + 1, t, p, hn, hp, hp2, hx => by
    obtain ⟨x, p1, ex, _, h1, h2⟩ := path_ev h p hp (by omega)
    obtain ⟨y, p2, ey, h3, h4⟩ := text_ev h p1 (by omega) (by omega)
    have hw : wrap64 (((n + 1 : Nat) : Int) - 1) = (n : Int) := by rw [wrap_in _ (by omega) (by omega)]; omega
    have hl := specTPut_len t x y hx
    cases hc : (specTPut t x y).2
    · obtain ⟨t', p', et, h5, h6, h7⟩ := tree_l0 n t p2 (by omega) (by omega) (by omega) hx
      refine ⟨t', p', Ev.step (fun _ => spec_l91Tree.l0.eq_2 ..) (ev_pos (by omega) (Ev.bind ex (Ev.bind ey (Ev.bind (specTPut_ev t x y (by omega)) (ev_neg (by simp [hc]) ?_))))), h5, by omega, by omega⟩
      rw [hw]
      exact et
    · obtain ⟨t', p', et, h5, h6, h7⟩ := tree_l0 n (specTPut t x y).1 p2 (by omega) (by omega) (by omega) hl
      refine ⟨t', p', Ev.step (fun _ => spec_l91Tree.l0.eq_2 ..) (ev_pos (by omega) (Ev.bind ex (Ev.bind ey (Ev.bind (specTPut_ev t x y (by omega)) (ev_pos hc ?_))))), h5, by omega, by omega⟩
      rw [hw]
      exact et
theorem tree_ev (p : Int) (hp : 0 ≤ p) (hp2 : p ≤ 1000) : ∃ t p', Ev (fun k => spec_l91Tree.f k s p) (t, p') ∧ t.length ≤ 7 ∧ p ≤ p' ∧ p' ≤ p + 400 := by
  obtain ⟨r, e, hr0, hr1⟩ := pick_ev h p 6 hp (by omega) (by omega)
  obtain ⟨m, rfl⟩ := Int.eq_ofNat_of_zero_le hr0
  have := hr1 (by omega)
  obtain ⟨y, p', ey, h0, h1, h2⟩ := tree_l0 h m [] (p + 1) (by omega) (by omega) (by omega) (by simp)
  exact ⟨y, p', Ev.bind e ey, h0, by omega, by omega⟩
theorem two_l0 (a : List TFile) : ∀ (n : Nat) (t : List TFile) (p : Int), n ≤ 20 → 0 ≤ p → p + 50 * n ≤ 9000 → t.length ≤ 7 → ∃ t' p', Ev (fun k => spec_l91Two.l0 k a t (n : Int) s p) (a, t', p') ∧ t'.length ≤ 7 ∧ p ≤ p' ∧ p' ≤ p + 50 * n
  | 0, t, p, hn, hp, hp2, hx => ⟨t, p, Ev.step (fun _ => spec_l91Two.l0.eq_2 ..) (ev_neg (by simp) ev_some), hx, by omega, by omega⟩
  | n + 1, t, p, hn, hp, hp2, hx => by
    obtain ⟨x, p1, ex, _, h1, h2⟩ := path_ev h p hp (by omega)
    obtain ⟨y, p2, ey, h3, h4⟩ := text_ev h p1 (by omega) (by omega)
    obtain ⟨z, p3, ez, _, h5, h6⟩ := path_ev h p2 (by omega) (by omega)
    have hw : wrap64 (((n + 1 : Nat) : Int) - 1) = (n : Int) := by rw [wrap_in _ (by omega) (by omega)]; omega
    have hj : ∀ u : List TFile, u.length ≤ 7 → ∃ t' p', Ev (fun k => spec_l91Two.j1 k a u ((n + 1 : Nat) : Int) s p2) (a, t', p') ∧ t'.length ≤ 7 ∧ p3 ≤ p' ∧ p' ≤ p3 + 50 * n := by
      intro u hu
      have hl := specTDrop_len u z
      cases hc : (specTDrop u z).2
      · obtain ⟨t', p', et, h7, h8, h9⟩ := two_l0 a n u p3 (by omega) (by omega) (by omega) hu
        refine ⟨t', p', Ev.step (fun _ => spec_l91Two.j1.eq_2 ..) (Ev.bind ez (Ev.bind (specTDrop_ev u z (by omega)) (ev_neg (by simp [hc]) ?_))), h7, by omega, by omega⟩
        rw [hw]
        exact et
      · obtain ⟨t', p', et, h7, h8, h9⟩ := two_l0 a n (specTDrop u z).1 p3 (by omega) (by omega) (by omega) (by omega)
        refine ⟨t', p', Ev.step (fun _ => spec_l91Two.j1.eq_2 ..) (Ev.bind ez (Ev.bind (specTDrop_ev u z (by omega)) (ev_pos hc ?_))), h7, by omega, by omega⟩
        rw [hw]
        exact et
    cases hc : (specTPut t x y).2
    · obtain ⟨t', p', et, h7, h8, h9⟩ := hj t hx
      exact ⟨t', p', Ev.step (fun _ => spec_l91Two.l0.eq_2 ..) (ev_pos (by omega) (Ev.bind ex (Ev.bind ey (Ev.bind (specTPut_ev t x y (by omega)) (ev_neg (by simp [hc]) et))))), h7, by omega, by omega⟩
    · have hl : (specTPut t x y).1.length ≤ 7 := by
        unfold specTPut
        split
        · split
          · have := treeOkB_len (show treeOkB (putB t x y) = true by assumption); simp only; omega
          · exact hx
        · simp
      obtain ⟨t', p', et, h7, h8, h9⟩ := hj _ hl
      exact ⟨t', p', Ev.step (fun _ => spec_l91Two.l0.eq_2 ..) (ev_pos (by omega) (Ev.bind ex (Ev.bind ey (Ev.bind (specTPut_ev t x y (by omega)) (ev_pos hc et))))), h7, by omega, by omega⟩
theorem two_ev (p : Int) (hp : 0 ≤ p) (hp2 : p ≤ 1000) : ∃ a b p', Ev (fun k => spec_l91Two.f k s p) (a, b, p') ∧ a.length ≤ 7 ∧ b.length ≤ 7 ∧ p ≤ p' ∧ p' ≤ p + 1000 := by
  obtain ⟨a, p1, ea, ha, h1, h2⟩ := tree_ev h p hp hp2
  obtain ⟨r, e, hr0, hr1⟩ := pick_ev h p1 4 (by omega) (by omega) (by omega)
  obtain ⟨m, rfl⟩ := Int.eq_ofNat_of_zero_le hr0
  have := hr1 (by omega)
  obtain ⟨b, p', eb, hb, h3, h4⟩ := two_l0 h a m ([] ++ a) (p1 + 1) (by omega) (by omega) (by omega) (by simpa using ha)
  exact ⟨a, b, p', Ev.bind ea (ev_bindc rfl (ev_pos (by simp; omega) (Ev.bind e eb))), ha, hb, by omega, by omega⟩
end
end Go.Proofs.Ytdgidcbahbkabaa.Q
