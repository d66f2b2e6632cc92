/- Texts cut to pieces, names of pieces, and the snapshot of a tree, plainly. -/
import Derived.Test.YtdgidcbahbkabaaPuTree
import Derived.Test.YtdgidcbahbkabaaQx7
import Derived.Test.YtdgidcbahbkabaaQx8
namespace Go.Proofs.Ytdgidcbahbkabaa.Q
open Go.RowKit Go.Proofs.YtdgidcbahbkabaaW.PrintWords
set_option linter.unusedVariables false
set_option linter.unusedSimpArgs false
abbrev Lst := S40
def turnB (s : ByteArray) (e : Nat) : Bool := ((((bt s ((e - 1 : Nat) : Int)) - 97) % 256 + 2 * ((bt s ((e - 2 : Nat) : Int) - 97) % 256)) + 3 * ((bt s ((e - 3 : Nat) : Int) - 97) % 256)) % 5 == 0
theorem specTurn_eq (s : ByteArray) (e : Nat) (h3 : 3 ≤ e) (h : e ≤ s.size) (hs : s.size ≤ 9000000000000000000) : spec_l1Turn.f s (e : Int) = some (turnB s e) := by
  unfold spec_l1Turn.f turnB
  rw [show wrap64 ((e : Int) - 1) = ((e - 1 : Nat) : Int) from by rw [wrap_in _ (by omega) (by omega)]; omega, show wrap64 ((e : Int) - 2) = ((e - 2 : Nat) : Int) from by rw [wrap_in _ (by omega) (by omega)]; omega, show wrap64 ((e : Int) - 3) = ((e - 3 : Nat) : Int) from by rw [wrap_in _ (by omega) (by omega)]; omega]
  rw [if_pos (by omega), if_pos (by omega), if_pos (by omega), if_pos (by omega), if_pos (by omega), if_pos (by omega)]
/-- Where a piece ends: d places before the eighth letter. -/
def atL (s : ByteArray) (a : Nat) : Nat → Nat
  | 0 => min (a + 8) s.size
  | d + 1 => if a + (7 - d) ≥ s.size then s.size else if turnB s (a + (7 - d)) = true then a + (7 - d) else atL s a d
def atB (s : ByteArray) (a : Nat) : Nat := atL s a 5
theorem atL_in (s : ByteArray) (a : Nat) (h : a < s.size) : ∀ d, d ≤ 5 → a < atL s a d ∧ atL s a d ≤ s.size ∧ (atL s a d ≤ a + 8)
  | 0, _ => by unfold atL; omega
  | d + 1, hd => by
    have := atL_in s a h d (by omega)
    unfold atL
    split
    · omega
    · split
      · omega
      · exact this
theorem atB_in {s : ByteArray} {a : Nat} (h : a < s.size) : a < atB s a ∧ atB s a ≤ s.size := ⟨(atL_in s a h 5 (Nat.le_refl _)).1, (atL_in s a h 5 (Nat.le_refl _)).2.1⟩
theorem specAt_ev (s : ByteArray) (a : Nat) (h : a < s.size) (hs : s.size ≤ 9000000000000000000) : Ev (fun k => spec_l1At.f k s (a : Int)) ((atB s a : Nat) : Int) := by
  have key : ∀ d, d ≤ 5 → Ev (fun k => spec_l1At.l0 k s (a : Int) ((8 - d : Nat) : Int)) ((atL s a d : Nat) : Int) := by
    intro d
    induction d with
    | zero =>
      intro _
      refine Ev.step (fun _ => spec_l1At.l0.eq_2 ..) (ev_neg (by omega) (ev_const ?_))
      rw [wrap_in _ (by omega) (by omega)]
      unfold atL mn
      congr 1
      split <;> omega
    | succ d ih =>
      intro hd
      have e8 : (8 - (d + 1) : Nat) = 7 - d := by omega
      have e7 : wrap64 ((a : Int) + ((7 - d : Nat) : Int)) = ((a + (7 - d) : Nat) : Int) := by rw [wrap_in _ (by omega) (by omega)]; omega
      refine Ev.step (fun _ => spec_l1At.l0.eq_2 ..) (ev_pos (by omega) ?_)
      rw [e8, e7]
      unfold atL
      by_cases h1 : a + (7 - d) ≥ s.size
      · rw [if_pos h1]
        exact ev_pos (by omega) ev_some
      · rw [if_neg h1]
        refine ev_neg (by omega) (ev_bindc (specTurn_eq s _ (by omega) (by omega) hs) ?_)
        by_cases h2 : turnB s (a + (7 - d)) = true
        · rw [if_pos h2]
          exact ev_pos h2 ev_some
        · rw [if_neg h2]
          refine ev_neg h2 ?_
          rw [show wrap64 (((7 - d : Nat) : Int) + 1) = ((8 - d : Nat) : Int) from by rw [wrap_in _ (by omega) (by omega)]; omega]
          exact ih (by omega)
  exact key 5 (Nat.le_refl _)
def endsGo (s : ByteArray) : Nat → Nat → List Int
  | 0, _ => []
  | d + 1, a => if a < s.size then ((atB s a : Nat) : Int) :: endsGo s d (atB s a) else []
def piecesGo (s : ByteArray) : Nat → Nat → List ByteArray
  | 0, _ => []
  | d + 1, a => if a < s.size then s.extract a (atB s a) :: piecesGo s d (atB s a) else []
def piecesB (s : ByteArray) : List ByteArray := piecesGo s s.size 0
theorem endsGo_len (s : ByteArray) : ∀ d a, (endsGo s d a).length ≤ d
  | 0, _ => Nat.le_refl _
  | d + 1, a => by
    have := endsGo_len s d (atB s a)
    unfold endsGo
    split
    · simp; omega
    · simp
theorem piecesGo_len (s : ByteArray) : ∀ d a, (piecesGo s d a).length ≤ d
  | 0, _ => Nat.le_refl _
  | d + 1, a => by
    have := piecesGo_len s d (atB s a)
    unfold piecesGo
    split
    · simp; omega
    · simp
theorem piecesB_len (s : ByteArray) : (piecesB s).length ≤ s.size := piecesGo_len s s.size 0
theorem specEnds_ev (s : ByteArray) (hs : s.size ≤ 1000000) : Ev (fun k => spec_l1Ends.f k s) (endsGo s s.size 0) := by
  unfold spec_l1Ends.f
  have key : ∀ d a (out : List Int), s.size ≤ a + d → out.length + d ≤ 1000000 → Ev (fun k => spec_l1Ends.l0 k s out (a : Int)) (out ++ endsGo s d a) := by
    intro d
    induction d with
    | zero =>
      intro a out h1 h2
      refine Ev.step (fun _ => spec_l1Ends.l0.eq_2 ..) (ev_neg (by omega) ?_)
      simpa [endsGo] using ev_some
    | succ d ih =>
      intro a out h1 h2
      refine Ev.step (fun _ => spec_l1Ends.l0.eq_2 ..) ?_
      unfold endsGo
      by_cases h : a < s.size
      · have := atB_in h
        rw [if_pos h]
        refine ev_pos (nat_lt h) (Ev.bind (specAt_ev s a h (by omega)) (ev_pos (by omega) ?_))
        exact ev_cast (ih (atB s a) (out ++ [((atB s a : Nat) : Int)]) (by omega) (by simp; omega)) (by simp)
      · rw [if_neg h]
        exact ev_neg (by omega) (by simpa using ev_some)
  exact ev_cast (key s.size 0 [] (by omega) (by simp; omega)) (by simp)
theorem specAll_ev (s : ByteArray) (hs : s.size ≤ 1000000) : Ev (fun k => spec_l1All.f k s) (piecesB s) := by
  unfold spec_l1All.f piecesB
  refine Ev.bind (specEnds_ev s hs) ?_
  have hel := endsGo_len s s.size 0
  generalize hE : endsGo s s.size 0 = E at hel
  have key : ∀ d a (pre : List Int) (out : List ByteArray), a ≤ s.size → E = pre ++ endsGo s d a → out.length ≤ pre.length → Ev (fun k => spec_l1All.l0 k s out (a : Int) E (pre.length : Int)) (out ++ piecesGo s d a) := by
    intro d
    induction d with
    | zero =>
      intro a pre out ha he ho
      refine Ev.step (fun _ => spec_l1All.l0.eq_2 ..) (ev_neg (by rw [he]; simp [endsGo]) ?_)
      simpa [piecesGo] using ev_some
    | succ d ih =>
      intro a pre out ha he ho
      refine Ev.step (fun _ => spec_l1All.l0.eq_2 ..) ?_
      unfold piecesGo
      by_cases h : a < s.size
      · have hb := atB_in h
        unfold endsGo at he
        rw [if_pos h] at he
        have hlt : pre.length < E.length := by rw [he]; simp
        have hrd : rd E (pre.length : Int) = ((atB s a : Nat) : Int) := by rw [he]; simp [rd]
        rw [if_pos h]
        refine ev_pos (nat_lt hlt) (ev_pos (nat_0 _) (ev_pos (nat_0 _) ?_))
        rw [hrd, wrap_up pre.length E.length hlt (by omega)]
        refine ev_pos (by omega) (ev_pos (by omega) (ev_pos (by omega) ?_))
        have := ih (atB s a) (pre ++ [((atB s a : Nat) : Int)]) (out ++ [s.extract a (atB s a)]) hb.2 (by rw [he]; simp) (by simp; omega)
        rw [show (pre ++ [((atB s a : Nat) : Int)]).length = pre.length + 1 from by simp] at this
        exact ev_cast this (by simp)
      · unfold endsGo at he
        rw [if_neg h] at he
        rw [if_neg h]
        exact ev_neg (by rw [he]; simp) (by simpa using ev_some)
  exact ev_cast (key s.size 0 [] [] (Nat.zero_le _) (by rw [← hE]; simp) (by simp)) (by simp)
def codeTo (s : ByteArray) : Nat → Int
  | 0 => 0
  | i + 1 => wrap64 (wrap64 (wrap64 (27 * codeTo s i) + ((bt s (i : Int) - 97) % 256)) + 1)
def nameB (key : Int) (s : ByteArray) : Int := Int.tmod (wrap64 (wrap64 (codeTo s s.size * wrap64 (wrap64 (2 * key) + 1)) + wrap64 (key * 7919))) 999999999989
theorem specL2Name_ev (key : Int) (s : ByteArray) (hs : s.size ≤ 9000000000000000000) : Ev (fun k => spec_l2Name.f k key s) (nameB key s) := by
  unfold spec_l2Name.f nameB
  refine Ev.bind (a := codeTo s s.size) ?_ ev_some
  unfold spec_l2Code.f
  refine downTo (P := fun i => Ev (fun k => spec_l2Code.l0 k s (codeTo s i) (i : Int)) (codeTo s s.size)) (n := s.size) ?_ ?_ 0 (Nat.zero_le _)
  · exact Ev.step (fun _ => spec_l2Code.l0.eq_2 ..) (ev_neg (nat_ge (Nat.le_refl _)) ev_some)
  · intro i hi ih
    refine Ev.step (fun _ => spec_l2Code.l0.eq_2 ..) (ev_pos (nat_lt hi) (ev_pos (nat_0 i) ?_))
    rw [wrap_up i s.size hi (by omega)]
    exact ih
theorem piece_size {s x : ByteArray} (h : x ∈ piecesB s) : x.size ≤ s.size := by
  unfold piecesB at h
  have : ∀ d a, x ∈ piecesGo s d a → x.size ≤ s.size := by
    intro d
    induction d with
    | zero => intro a h; simp [piecesGo] at h
    | succ d ih =>
      intro a h
      unfold piecesGo at h
      split at h
      · rcases List.mem_cons.1 h with rfl | h
        · rw [ByteArray.size_extract]; omega
        · exact ih _ h
      · simp at h
  exact this _ _ h
def ofB (key : Int) (t : List TFile) : List Lst := t.map (fun f => ⟨f.f0, (piecesB f.f1).map (nameB key)⟩)
theorem specL12Of_ev (no key : Int) (t : List TFile) (ht : t.length ≤ 1000000) (hs : ∀ f ∈ t, f.f1.size ≤ 1000) : Ev (fun k => spec_l12Of.f k no key t) (no, ofB key t) := by
  unfold spec_l12Of.f
  have key2 : ∀ i, i ≤ t.length → ∀ out : List Lst, out.length ≤ i → Ev (fun k => spec_l12Of.l0 k key t (i : Int) no out) (no, out ++ ofB key (t.drop i)) := by
    refine downTo (P := fun i => ∀ out : List Lst, out.length ≤ i → Ev (fun k => spec_l12Of.l0 k key t (i : Int) no out) (no, out ++ ofB key (t.drop i))) (n := t.length) ?_ ?_
    · intro out ho
      refine Ev.step (fun _ => spec_l12Of.l0.eq_2 ..) (ev_neg (nat_ge (Nat.le_refl _)) ?_)
      rw [List.drop_eq_nil_of_le (Nat.le_refl _)]
      simpa [ofB] using ev_some
    · intro i hi ih out ho
      have hd : t.drop i = atF t i :: t.drop (i + 1) := by rw [atF_get hi]; exact List.drop_eq_getElem_cons hi
      have hz : (atF t i).f1.size ≤ 1000 := by rw [atF_get hi]; exact hs _ (List.getElem_mem _)
      refine Ev.step (fun _ => spec_l12Of.l0.eq_2 ..) (ev_pos (nat_lt hi) (ev_pos (nat_0 i) (Ev.bind (specAll_ev _ (by rw [rdFile]; omega)) ?_)))
      simp only [rdFile]
      have hpl := piecesB_len (atF t i).f1
      have hps : ∀ x ∈ piecesB (atF t i).f1, x.size ≤ 1000 := fun x hx => Nat.le_trans (piece_size hx) hz
      have hO : ofB key (t.drop i) = ⟨(atF t i).f0, (piecesB (atF t i).f1).map (nameB key)⟩ :: ofB key (t.drop (i + 1)) := by rw [hd]; rfl
      generalize piecesB (atF t i).f1 = ps at hpl hps hO
      rw [hO]
      have key3 : ∀ j, j ≤ ps.length → ∀ ns : List Int, ns.length ≤ j → ns ++ (ps.drop j).map (nameB key) = ps.map (nameB key) → Ev (fun k => spec_l12Of.l1 k key t (i : Int) ps ns (j : Int) no out) (no, out ++ ⟨(atF t i).f0, ps.map (nameB key)⟩ :: ofB key (t.drop (i + 1))) := by
        refine downTo (P := fun j => ∀ ns : List Int, ns.length ≤ j → ns ++ (ps.drop j).map (nameB key) = ps.map (nameB key) → Ev (fun k => spec_l12Of.l1 k key t (i : Int) ps ns (j : Int) no out) (no, out ++ ⟨(atF t i).f0, ps.map (nameB key)⟩ :: ofB key (t.drop (i + 1)))) (n := ps.length) ?_ ?_
        · intro ns hns he
          rw [List.drop_eq_nil_of_le (Nat.le_refl _), List.map_nil, List.append_nil] at he
          refine Ev.step (fun _ => spec_l12Of.l1.eq_2 ..) (ev_neg (nat_ge (Nat.le_refl _)) (ev_pos (nat_0 i) (ev_pos (nat_lt hi) (ev_pos (by omega) ?_))))
          rw [wrap_up i t.length hi (by omega), rdFile, he]
          exact ev_cast (ih (out ++ [⟨(atF t i).f0, ps.map (nameB key)⟩]) (by simp; omega)) (by simp)
        · intro j hj ihj ns hns he
          have hdj : ps.drop j = ps[j] :: ps.drop (j + 1) := List.drop_eq_getElem_cons hj
          have hr : rdOf ByteArray.empty ps (j : Int) = ps[j] := by simp [rdOf, hj]
          refine Ev.step (fun _ => spec_l12Of.l1.eq_2 ..) (ev_pos (nat_lt hj) (ev_pos (nat_0 j) ?_))
          rw [hr]
          refine Ev.bind (specL2Name_ev key ps[j] (by have := hps _ (List.getElem_mem hj); omega)) (ev_pos (by omega) ?_)
          rw [wrap_up j ps.length hj (by omega)]
          refine ihj (ns ++ [nameB key ps[j]]) (by simp; omega) ?_
          rw [← he, hdj, List.map_cons, List.append_assoc]
          rfl
      exact key3 0 (Nat.zero_le _) [] (by simp) (by simp)
  exact ev_cast (key2 0 (Nat.zero_le _) [] (by simp)) (by simp)
theorem textOkB_size {s : ByteArray} (h : textOkB s = true) : s.size ≤ 40 := by
  unfold textOkB at h
  simp only [Bool.and_eq_true, decide_eq_true_eq] at h
  exact h.1
theorem tree_sizes {t : List TFile} (h : treeOkB t = true) : ∀ f ∈ t, f.f1.size ≤ 40 := fun f hf => textOkB_size (treeOkB_file h hf).2
/-- What a drawn snapshot of a tree is like. -/
theorem ofB_sm {key : Int} {t : List TFile} (h : treeOkB t = true) : (ofB key t).length ≤ 6 ∧ ∀ x ∈ ofB key t, x.f1.length ≤ 40 := by
  refine ⟨by simpa [ofB] using treeOkB_len h, fun x hx => ?_⟩
  obtain ⟨f, hf, rfl⟩ := List.mem_map.1 hx
  have h1 := tree_sizes h f hf
  have h2 := piecesB_len f.f1
  simp only [List.length_map]
  omega
end Go.Proofs.Ytdgidcbahbkabaa.Q
