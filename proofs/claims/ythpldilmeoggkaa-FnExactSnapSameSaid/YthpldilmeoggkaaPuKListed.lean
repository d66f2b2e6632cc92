/- What the exact laws' helpers over Listed come to, plainly. -/
import Derived.Test.YthpldilmeoggkaaPuK0
import Derived.Test.YthpldilmeoggkaaPuKInt
import Derived.Test.YthpldilmeoggkaaQx4
import Derived.Test.YthpldilmeoggkaaQx6
import Derived.Test.YthpldilmeoggkaaQx2
namespace Go.Proofs.Ythpldilmeoggkaa.Q
open Go.RowKit Go.Proofs.YthpldilmeoggkaaW.PrintWords
set_option linter.unusedVariables false
set_option linter.unusedSimpArgs false
def cvListed (x : S83) : S70 := ⟨x.f0, x.f1⟩
def okListed (x : S83) : Prop := x.f0.size ≤ 1048576 ∧ x.f1.length ≤ 1048576
def wdListed (x : S83) : Prop := x.f0.size ≤ 9223372036854775807 ∧ x.f1.length ≤ 9223372036854775807
def smListed (x : S70) : Prop := x.f1.length ≤ 9223372036854775807
theorem rdlListed (xs : List S83) (i : Nat) (h : i < xs.length) : rd_T83 xs (i : Int) = xs[i] := by simp [rd_T83, h]
theorem rdiListed (xs : List S70) (i : Nat) (h : i < xs.length) : rd_T70 xs (i : Int) = xs[i] := by simp [rd_T70, h]
theorem sm_cvListed (x : S83) (h : okListed x) : smListed (cvListed x) := by
  obtain ⟨s0, l1⟩ := h
  unfold smListed cvListed
  show x.f1.length ≤ _
  omega
theorem toListed_ev (x : S83) (h : okListed x) : Ev (fun k => laws_toListed.f k x.f0 x.f1) ((cvListed x).f0, (cvListed x).f1) := by
  obtain ⟨s0, l1⟩ := h
  unfold laws_toListed.f
  exact (Ev.bind (toIntS_ev x.f1 l1) ev_some)
theorem eqListed_self (x : S70) (h : smListed x) : Ev (fun k => laws_eqListed.f k x.f0 x.f1 x.f0 x.f1) true := by
  have l1 := h
  unfold laws_eqListed.f
  exact (ev_pos rfl (Ev.bind (eqIntS_self x.f1 l1) (ev_pos rfl ev_some)))
theorem szListed_ev (x : S83) (hw : wdListed x) (left : Int) (h0 : 0 ≤ left) (h1 : left ≤ 1048576) : ∃ r, Ev (fun k => laws_szListed.f x.f0 x.f1 left) r ∧ r ≤ left ∧ (0 ≤ r → okListed x) := by
  obtain ⟨s0, l1⟩ := hw
  unfold laws_szListed.f
  obtain ⟨left0, w0, z0⟩ : ∃ z, wrap64 (left - (x.f0.size : Int)) = z ∧ z = left - (x.f0.size : Int) := ⟨_, rfl, wrap_sub left x.f0.size (by omega) (by omega) s0⟩
  simp only [w0]
  by_cases g0 : left0 < 0
  · exact ⟨-1, (ev_pos g0 ev_some), by omega, by omega⟩
  obtain ⟨r1, q1, m1, n1⟩ := szIntS_ev x.f1 l1 left0 (by omega) (by omega)
  by_cases g1 : r1 < 0
  · exact ⟨-1, (ev_neg g0 (Ev.bind q1 (ev_pos g1 ev_some))), by omega, by omega⟩
  exact ⟨r1, (ev_neg g0 (Ev.bind q1 (ev_neg g1 ev_some))), by omega, fun _ => ⟨by omega, (n1 (by omega)).1⟩⟩
theorem toListedS_ev (xs : List S83) (h : xs.length ≤ 1048576) (hok : ∀ x ∈ xs, okListed x) : Ev (fun k => laws_toListedS.f k xs) (xs.map cvListed) := by
  unfold laws_toListedS.f
  refine ev_pos (nat_0 _) (ev_pos (by rw [toNat_nat]; omega) ?_)
  rw [toNat_nat]
  have key := downTo (P := fun i => Ev (fun k => laws_toListedS.l0 k xs ((xs.take i).map cvListed ++ List.replicate (xs.length - i) z70) (i : Int)) (xs.map cvListed)) (n := xs.length) ?_ ?_ 0 (Nat.zero_le _)
  · simpa using key
  · refine Ev.step (fun _ => laws_toListedS.l0.eq_2 ..) (ev_neg (nat_ge (Nat.le_refl _)) ?_)
    rw [copy_end]
    exact ev_some
  · intro i hi ih
    have hl := copy_len cvListed z70 xs i (by omega)
    have hs := copy_step cvListed z70 xs i hi
    refine Ev.step (fun _ => laws_toListedS.l0.eq_2 ..) (ev_pos (nat_lt hi) (ev_pos (nat_0 i) (Ev.bind (by rw [rdlListed xs i hi]; exact toListed_ev _ (hok _ (List.getElem_mem _))) (ev_pos (by rw [hl]; exact nat_lt hi) ?_))))
    rw [wrap_up i xs.length hi (by omega), toNat_nat]
    refine Eq.mp (congrArg (fun z => Ev (fun k => laws_toListedS.l0 k xs z ((i + 1 : Nat) : Int)) _) hs.symm) ih
theorem eqListedS_self (xs : List S70) (hl : xs.length ≤ 9223372036854775807) (hs : ∀ x ∈ xs, smListed x) : Ev (fun k => laws_eqListedS.f k xs xs) true := by
  unfold laws_eqListedS.f
  refine ev_pos rfl ?_
  refine downTo (P := fun i => Ev (fun k => laws_eqListedS.l0 k xs xs (i : Int)) true) (n := xs.length) ?_ ?_ 0 (Nat.zero_le _)
  · exact Ev.step (fun _ => laws_eqListedS.l0.eq_2 ..) (ev_neg (nat_ge (Nat.le_refl _)) ev_some)
  · intro i hi ih
    refine Ev.step (fun _ => laws_eqListedS.l0.eq_2 ..) (ev_pos (nat_lt hi) (ev_pos (nat_0 i) (ev_pos (nat_lt hi) (Ev.bind (by rw [rdiListed xs i hi]; exact eqListed_self _ (hs _ (List.getElem_mem _))) (ev_pos rfl ?_)))))
    rw [wrap_up i xs.length hi hl]
    exact ih
theorem szListedS_ev (xs : List S83) (hl : xs.length ≤ 9223372036854775807) (hw : ∀ x ∈ xs, wdListed x) (left : Int) (h0 : 0 ≤ left) (h1 : left ≤ 1048576) : ∃ r, Ev (fun k => laws_szListedS.f k xs left) r ∧ r ≤ left ∧ (0 ≤ r → xs.length ≤ 1048576 ∧ ∀ x ∈ xs, okListed x) := by
  unfold laws_szListedS.f
  have w := wrap_sub left xs.length h0 h1 hl
  rw [w]
  by_cases g : left - (xs.length : Int) < 0
  · exact ⟨-1, ev_pos g ev_some, by omega, by omega⟩
  have key := downTo (P := fun i => ∀ c : Int, 0 ≤ c → c ≤ left → ∃ r, Ev (fun k => laws_szListedS.l0 k xs c (i : Int)) r ∧ r ≤ c ∧ (0 ≤ r → ∀ j (hj : j < xs.length), i ≤ j → okListed xs[j])) (n := xs.length) ?_ ?_ 0 (Nat.zero_le _)
  · obtain ⟨r, e, hr, ho⟩ := key (left - (xs.length : Int)) (by omega) (by omega)
    exact ⟨r, ev_neg g e, by omega, fun h => ⟨by omega, fun x hx => by obtain ⟨j, hj, rfl⟩ := List.getElem_of_mem hx; exact ho h j hj (Nat.zero_le _)⟩⟩
  · intro c _ _
    exact ⟨c, Ev.step (fun _ => laws_szListedS.l0.eq_2 ..) (ev_neg (nat_ge (Nat.le_refl _)) ev_some), by omega, fun _ j hj hij => by omega⟩
  · intro i hi ih c hc0 hc1
    obtain ⟨r1, e1, hr1, ho1⟩ := szListed_ev xs[i] (hw _ (List.getElem_mem _)) c hc0 (by omega)
    by_cases g1 : r1 < 0
    · exact ⟨-1, Ev.step (fun _ => laws_szListedS.l0.eq_2 ..) (ev_pos (nat_lt hi) (ev_pos (nat_0 i) (Ev.bind (by rw [rdlListed xs i hi]; exact e1) (ev_pos g1 ev_some)))), by omega, by omega⟩
    · obtain ⟨r2, e2, hr2, ho2⟩ := ih r1 (by omega) (by omega)
      refine ⟨r2, Ev.step (fun _ => laws_szListedS.l0.eq_2 ..) (ev_pos (nat_lt hi) (ev_pos (nat_0 i) (Ev.bind (by rw [rdlListed xs i hi]; exact e1) (ev_neg g1 ?_)))), by omega, fun h j hj hij => ?_⟩
      · rw [wrap_up i xs.length hi hl]
        exact e2
      · by_cases hji : j = i
        · subst hji; exact ho1 (by omega)
        · exact ho2 h j hj (by omega)
end Go.Proofs.Ythpldilmeoggkaa.Q
