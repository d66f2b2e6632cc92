/- Entries in order: putting one, finding one, plainly; and that the program's trees come to the same. -/
import Derived.Test.YthpldilmeoggkaaHIndex
namespace Go.Proofs.Ythpldilmeoggkaa.Q
open Go.RowKit Go.Proofs.YthpldilmeoggkaaW.PrintWords
set_option linter.unusedVariables false
set_option linter.unusedSimpArgs false

def Asc (l : List Spot) : Prop := l.Pairwise fun a b => a.f0 < b.f0
def putL : List Spot → Spot → List Spot
  | [], s => [s]
  | x :: l, s => if x.f0 < s.f0 then x :: putL l s else if s.f0 < x.f0 then s :: x :: l else s :: l
theorem putL_mem {l : List Spot} (h : Asc l) (s y : Spot) : y ∈ putL l s ↔ y = s ∨ (y ∈ l ∧ y.f0 ≠ s.f0) := by
  induction l with
  | nil => simp [putL]
  | cons x l ih =>
    obtain ⟨h1, h2⟩ := List.pairwise_cons.1 h
    simp only [putL]
    split
    · rename_i hlt
      rw [List.mem_cons, ih h2, List.mem_cons]
      constructor
      · rintro (rfl | rfl | ⟨hm, hn⟩)
        · exact .inr ⟨.inl rfl, by omega⟩
        · exact .inl rfl
        · exact .inr ⟨.inr hm, hn⟩
      · rintro (rfl | ⟨rfl | hm, hn⟩)
        · exact .inr (.inl rfl)
        · exact .inl rfl
        · exact .inr (.inr ⟨hm, hn⟩)
    · split
      · rename_i hlt
        simp only [List.mem_cons]
        constructor
        · rintro (rfl | rfl | hm)
          · exact .inl rfl
          · exact .inr ⟨.inl rfl, by omega⟩
          · exact .inr ⟨.inr hm, by have := h1 y hm; omega⟩
        · rintro (rfl | ⟨rfl | hm, hn⟩)
          · exact .inl rfl
          · exact .inr (.inl rfl)
          · exact .inr (.inr hm)
      · have he : x.f0 = s.f0 := by omega
        simp only [List.mem_cons]
        constructor
        · rintro (rfl | hm)
          · exact .inl rfl
          · exact .inr ⟨.inr hm, by have := h1 y hm; omega⟩
        · rintro (rfl | ⟨rfl | hm, hn⟩)
          · exact .inl rfl
          · exact absurd he hn
          · exact .inr hm
theorem putL_asc {l : List Spot} (h : Asc l) (s : Spot) : Asc (putL l s) := by
  induction l with
  | nil => exact List.pairwise_singleton _ _
  | cons x l ih =>
    obtain ⟨h1, h2⟩ := List.pairwise_cons.1 h
    simp only [putL]
    split
    · rename_i hlt
      refine List.pairwise_cons.2 ⟨fun y hy => ?_, ih h2⟩
      rcases (putL_mem h2 s y).1 hy with rfl | ⟨hm, _⟩
      · exact hlt
      · exact h1 y hm
    · split
      · rename_i hlt
        refine List.pairwise_cons.2 ⟨fun y hy => ?_, h⟩
        rcases List.mem_cons.1 hy with rfl | hm
        · exact hlt
        · have := h1 y hm; omega
      · refine List.pairwise_cons.2 ⟨fun y hy => ?_, h2⟩
        have := h1 y hy; omega
theorem asc_ext : ∀ {l m : List Spot}, Asc l → Asc m → (∀ y, y ∈ l ↔ y ∈ m) → l = m
  | [], [], _, _, _ => rfl
  | [], y :: m, _, _, h => by have := (h y).2 (by simp); simp at this
  | x :: l, [], _, _, h => by have := (h x).1 (by simp); simp at this
  | x :: l, y :: m, hl, hm, h => by
    obtain ⟨a1, a2⟩ := List.pairwise_cons.1 hl
    obtain ⟨b1, b2⟩ := List.pairwise_cons.1 hm
    have hxy : x = y := by
      rcases List.mem_cons.1 ((h x).1 (by simp)) with e | e
      · exact e
      · rcases List.mem_cons.1 ((h y).2 (by simp)) with e2 | e2
        · exact e2.symm
        · have := b1 x e; have := a1 y e2; omega
    subst hxy
    congr 1
    refine asc_ext a2 b2 fun z => ?_
    constructor
    · intro hz
      rcases List.mem_cons.1 ((h z).1 (by simp [hz])) with e | e
      · have := a1 z hz; rw [e] at this; omega
      · exact e
    · intro hz
      rcases List.mem_cons.1 ((h z).2 (by simp [hz])) with e | e
      · have := b1 z hz; rw [e] at this; omega
      · exact e
theorem asc_uniq {l : List Spot} (h : Asc l) {x y : Spot} (hx : x ∈ l) (hy : y ∈ l) (he : x.f0 = y.f0) : x = y := by
  induction l with
  | nil => simp at hx
  | cons z l ih =>
    obtain ⟨h1, h2⟩ := List.pairwise_cons.1 h
    rcases List.mem_cons.1 hx with rfl | hx
    · rcases List.mem_cons.1 hy with e | hy
      · exact e.symm
      · have := h1 y hy; omega
    · rcases List.mem_cons.1 hy with e | hy2
      · have := h1 x hx; rw [e] at he; omega
      · exact ih h2 hx hy2
/-! ### trees -/
theorem putL_left {l r : List Spot} {x s : Spot} (h : s.f0 < x.f0) : putL (l ++ x :: r) s = putL l s ++ x :: r := by
  induction l with
  | nil => simp [putL, show ¬ x.f0 < s.f0 from by omega, h]
  | cons y l ih =>
    simp only [List.cons_append, putL]
    split
    · rw [ih]; rfl
    · split <;> rfl
theorem putL_right {l r : List Spot} {x s : Spot} (hl : ∀ y ∈ l, y.f0 < x.f0) (h : x.f0 < s.f0) : putL (l ++ x :: r) s = l ++ x :: putL r s := by
  induction l with
  | nil => simp [putL, h]
  | cons y l ih =>
    have := hl y (by simp)
    simp only [List.cons_append, putL]
    rw [if_pos (by omega), ih (fun z hz => hl z (by simp [hz]))]
theorem putL_here {l r : List Spot} {x s : Spot} (hl : ∀ y ∈ l, y.f0 < x.f0) (h : x.f0 = s.f0) : putL (l ++ x :: r) s = l ++ s :: r := by
  induction l with
  | nil => simp [putL, h]
  | cons y l ih =>
    have := hl y (by simp)
    simp only [List.cons_append, putL]
    rw [if_pos (by omega), ih (fun z hz => hl z (by simp [hz]))]
theorem tree_put : ∀ (t : Tr) (s : Spot), Asc t.list → (t.put s).list = putL t.list s
  | .nil, s, _ => rfl
  | .node x l r, s, h => by
    have h' : Asc (l.list ++ x :: r.list) := h
    obtain ⟨hl, hxr, hlx⟩ := List.pairwise_append.1 h'
    have hlt : ∀ y ∈ l.list, y.f0 < x.f0 := fun y hy => hlx y hy x (by simp)
    have hr := (List.pairwise_cons.1 hxr).2
    simp only [Tr.put]
    split
    · rename_i h1
      show (l.put s).list ++ x :: r.list = putL (l.list ++ x :: r.list) s
      rw [tree_put l s hl, putL_left h1]
    · split
      · rename_i h1
        show l.list ++ x :: (r.put s).list = putL (l.list ++ x :: r.list) s
        rw [tree_put r s hr, putL_right hlt h1]
      · show l.list ++ s :: r.list = putL (l.list ++ x :: r.list) s
        rw [putL_here hlt (by omega)]
def putAll (l : List Spot) (xs : List Spot) : List Spot := xs.foldl putL l
theorem putAll_asc (xs : List Spot) : ∀ {l : List Spot}, Asc l → Asc (putAll l xs) := by
  induction xs with
  | nil => exact fun h => h
  | cons x xs ih => exact fun h => ih (putL_asc h x)
theorem tree_list (xs : List Spot) : (Tr.of xs).list = putAll [] xs ∧ Asc (Tr.of xs).list := by
  have key : ∀ (xs : List Spot) (t : Tr), Asc t.list → (xs.foldl Tr.put t).list = putAll t.list xs ∧ Asc (xs.foldl Tr.put t).list := by
    intro xs
    induction xs with
    | nil => exact fun t h => ⟨rfl, h⟩
    | cons x xs ih =>
      intro t h
      have h1 := tree_put t x h
      have h2 := ih (t.put x) (by rw [h1]; exact putL_asc h x)
      rw [h1] at h2
      exact h2
  exact key xs .nil List.Pairwise.nil
theorem putL_end {l : List Spot} {x : Spot} (h : ∀ y ∈ l, y.f0 < x.f0) : putL l x = l ++ [x] := by
  induction l with
  | nil => rfl
  | cons y l ih =>
    simp only [putL]
    rw [if_pos (h y (by simp)), ih (fun z hz => h z (by simp [hz]))]
    rfl
theorem putAll_same {xs : List Spot} : ∀ {l : List Spot}, Asc (l ++ xs) → putAll l xs = l ++ xs := by
  induction xs with
  | nil => intro l _; simp [putAll]
  | cons x xs ih =>
    intro l h
    have h1 := List.pairwise_append.1 h
    show putAll (putL l x) xs = _
    rw [putL_end (fun y hy => h1.2.2 y hy x (by simp)), ih (by simpa using h)]
    simp
theorem putAll_snoc (l xs : List Spot) (x : Spot) : putAll l (xs ++ [x]) = putL (putAll l xs) x := by simp [putAll]
theorem putAll_append (l xs ys : List Spot) : putAll l (xs ++ ys) = putAll (putAll l xs) ys := by simp [putAll]
theorem tree_asc {xs : List Spot} (h : Asc xs) : (Tr.of xs).list = xs := by rw [(tree_list xs).1, putAll_same (by simpa using h)]; rfl
/-- The program's index with one more is the one in order with one more. -/
theorem tree_put1 {l : List Spot} (h : Asc l) (s : Spot) : (Tr.of (l ++ [s])).list = putL l s := by
  rw [(tree_list _).1, putAll_snoc, putAll_same (by simpa using h)]; rfl
theorem putAll_mem (xs : List Spot) : ∀ {l : List Spot}, Asc l → Asc xs → ∀ y, y ∈ putAll l xs ↔ y ∈ xs ∨ (y ∈ l ∧ ∀ x ∈ xs, y.f0 ≠ x.f0) := by
  induction xs with
  | nil => intro l _ _ y; simp [putAll]
  | cons x xs ih =>
    intro l hl hx y
    obtain ⟨h1, h2⟩ := List.pairwise_cons.1 hx
    show y ∈ putAll (putL l x) xs ↔ _
    rw [ih (putL_asc hl x) h2, putL_mem hl]
    constructor
    · rintro (h | ⟨rfl | ⟨h, hn⟩, hr⟩)
      · exact .inl (by simp [h])
      · exact .inl (by simp)
      · exact .inr ⟨h, fun z hz => by rcases List.mem_cons.1 hz with rfl | hz; exact hn; exact hr z hz⟩
    · rintro (h | ⟨h, hn⟩)
      · rcases List.mem_cons.1 h with rfl | h
        · exact .inr ⟨.inl rfl, fun z hz => by have := h1 z hz; omega⟩
        · exact .inl h
      · exact .inr ⟨.inr ⟨h, hn x (by simp)⟩, fun z hz => hn z (by simp [hz])⟩
/-! ### finding -/
def look (l : List Spot) (n : Int) : Int := l.foldl (fun a s => if s.f0 = n then s.f1 else a) 0
theorem tree_find_put (n : Int) (s : Spot) : ∀ t : Tr, (t.put s).find n = if s.f0 = n then s.f1 else t.find n
  | .nil => by
    simp only [Tr.put, Tr.find]
    split
    · rfl
    · split <;> rfl
  | .node x l r => by
    have hl := tree_find_put n s l
    have hr := tree_find_put n s r
    simp only [Tr.put]
    split
    · simp only [Tr.find, hl]
      by_cases h1 : x.f0 = n
      · simp [h1]; intro h; omega
      · by_cases h2 : n < x.f0
        · simp [h1, h2]
        · simp [h1, h2]; intro h; omega
    · split
      · simp only [Tr.find, hr]
        by_cases h1 : x.f0 = n
        · simp [h1]; intro h; omega
        · by_cases h2 : n < x.f0
          · simp [h1, h2]; intro h; omega
          · simp [h1, h2]
      · have he : x.f0 = s.f0 := by omega
        simp only [Tr.find, he]
        by_cases h1 : s.f0 = n <;> simp [h1]
theorem tree_find (xs : List Spot) (n : Int) : (Tr.of xs).find n = look xs n := by
  have key : ∀ (xs : List Spot) (t : Tr), (xs.foldl Tr.put t).find n = xs.foldl (fun a s => if s.f0 = n then s.f1 else a) (t.find n) := by
    intro xs
    induction xs with
    | nil => exact fun _ => rfl
    | cons x xs ih => intro t; rw [List.foldl_cons, ih, tree_find_put, List.foldl_cons]
  exact key xs .nil
theorem look_none {l : List Spot} {n : Int} (h : ∀ x ∈ l, x.f0 ≠ n) : ∀ a, l.foldl (fun a s => if s.f0 = n then s.f1 else a) a = a := by
  induction l with
  | nil => exact fun _ => rfl
  | cons x l ih => intro a; rw [List.foldl_cons, if_neg (h x (by simp)), ih (fun y hy => h y (by simp [hy]))]
theorem look_some {l : List Spot} (h : Asc l) {x : Spot} (hx : x ∈ l) : ∀ a, l.foldl (fun a s => if s.f0 = x.f0 then s.f1 else a) a = x.f1 := by
  induction l with
  | nil => simp at hx
  | cons y l ih =>
    obtain ⟨h1, h2⟩ := List.pairwise_cons.1 h
    intro a
    rw [List.foldl_cons]
    rcases List.mem_cons.1 hx with rfl | hx
    · rw [if_pos rfl, look_none (fun z hz => by have := h1 z hz; omega)]
    · exact ih h2 hx _
theorem look_put {l : List Spot} (h : Asc l) (s : Spot) (n : Int) : look (putL l s) n = if n = s.f0 then s.f1 else look l n := by
  have ha := putL_asc h s
  by_cases hn : n = s.f0
  · rw [if_pos hn, hn]
    exact look_some ha ((putL_mem h s s).2 (.inl rfl)) 0
  · rw [if_neg hn]
    by_cases hx : ∃ x ∈ l, x.f0 = n
    · obtain ⟨x, hx, rfl⟩ := hx
      unfold look
      rw [look_some ha ((putL_mem h s x).2 (.inr ⟨hx, hn⟩)), look_some h hx]
    · unfold look
      rw [look_none (fun x hm e => hx ?_), look_none (fun x hm e => hx ⟨x, hm, e⟩)]
      rcases (putL_mem h s x).1 hm with rfl | ⟨hm, _⟩
      · exact absurd e.symm hn
      · exact ⟨x, hm, e⟩
/-! ### checks -/
theorem idxOk_iff {l : List Spot} : idxOk l = true ↔ Asc l ∧ ∀ x ∈ l, spotB x.f0 x.f1 = true := by
  unfold idxOk
  rw [allFrom_iff]
  constructor
  · intro h
    have hi : ∀ i (hi : i < l.length), spotB l[i].f0 l[i].f1 = true ∧ (∀ (h0 : 0 < i), (l[i - 1]'(by omega)).f0 < l[i].f0) := fun i hi => by
      have := h i (Nat.zero_le _) hi
      rw [idxAt_eq, atSpot_get hi, Bool.and_eq_true, Bool.or_eq_true, decide_eq_true_iff, decide_eq_true_iff] at this
      refine ⟨this.1, fun h0 => ?_⟩
      rcases this.2 with h | h
      · omega
      · rwa [atSpot_get (by omega)] at h
    refine ⟨?_, fun x hx => ?_⟩
    · have step : ∀ d i j (hj : j < l.length) (hij : i + d + 1 = j), (l[i]'(by omega)).f0 < l[j].f0 := by
        intro d
        induction d with
        | zero => intro i j hj hij; subst hij; simpa using (hi (i + 0 + 1) hj).2 (by omega)
        | succ d ih =>
          intro i j hj hij
          have h1 := ih i (j - 1) (by omega) (by omega)
          have h2 := (hi j hj).2 (by omega)
          omega
      exact List.pairwise_iff_getElem.2 fun i j hi' hj' hlt => step (j - i - 1) i j hj' (by omega)
    · obtain ⟨i, hil, rfl⟩ := List.getElem_of_mem hx
      exact (hi i hil).1
  · rintro ⟨ha, hs⟩ i _ hil
    rw [idxAt_eq, atSpot_get hil, Bool.and_eq_true, Bool.or_eq_true, decide_eq_true_iff, decide_eq_true_iff]
    refine ⟨hs _ (List.getElem_mem _), ?_⟩
    by_cases h0 : i = 0
    · exact .inl h0
    · right
      rw [atSpot_get (by omega)]
      exact List.pairwise_iff_getElem.1 ha _ _ _ _ (by omega)
theorem idxOk_put {l : List Spot} (h : idxOk l = true) {s : Spot} (hs : spotB s.f0 s.f1 = true) : idxOk (putL l s) = true := by
  obtain ⟨h1, h2⟩ := idxOk_iff.1 h
  refine idxOk_iff.2 ⟨putL_asc h1 s, fun x hx => ?_⟩
  rcases (putL_mem h1 s x).1 hx with rfl | ⟨hm, _⟩
  · exact hs
  · exact h2 x hm
theorem putL_len (l : List Spot) (s : Spot) : (putL l s).length ≤ l.length + 1 := by
  induction l with
  | nil => exact Nat.le_refl _
  | cons x l ih =>
    simp only [putL]
    split
    · simp only [List.length_cons]; omega
    · split <;> simp
theorem putAll_len (xs : List Spot) : ∀ l : List Spot, (putAll l xs).length ≤ l.length + xs.length := by
  induction xs with
  | nil => exact fun _ => Nat.le_refl _
  | cons x xs ih =>
    intro l
    have h1 := ih (putL l x)
    have h2 := putL_len l x
    show (putAll (putL l x) xs).length ≤ _
    simp only [List.length_cons]; omega
end Go.Proofs.Ythpldilmeoggkaa.Q
