/- What the exact laws' helpers over Spot come to, plainly. -/
import Derived.Test.YthpldilmeoggkaaPuK0
import Derived.Test.YthpldilmeoggkaaQx13
namespace Go.Proofs.Ythpldilmeoggkaa.Q
open Go.RowKit Go.Proofs.YthpldilmeoggkaaW.PrintWords
set_option linter.unusedVariables false
set_option linter.unusedSimpArgs false
def cvSpot (x : S38) : S25 := ⟨x.f0, x.f1⟩
def okSpot (x : S38) : Prop := True
def wdSpot (x : S38) : Prop := True
def smSpot (x : S25) : Prop := True
theorem rdlSpot (xs : List S38) (i : Nat) (h : i < xs.length) : rd_T38 xs (i : Int) = xs[i] := by simp [rd_T38, h]
theorem rdiSpot (xs : List S25) (i : Nat) (h : i < xs.length) : rd_T25 xs (i : Int) = xs[i] := by simp [rd_T25, h]
theorem sm_cvSpot (x : S38) (h : okSpot x) : smSpot (cvSpot x) := trivial
theorem toSpot_eq (x : S38) : laws_toSpot.f x.f0 x.f1 = some (x.f0, x.f1) := rfl
theorem eqSpot_self (x : S25) : laws_eqSpot.f x.f0 x.f1 x.f0 x.f1 = some true := by
  unfold laws_eqSpot.f
  simp
theorem toSpotS_ev (xs : List S38) (h : xs.length ≤ 1048576) (hok : ∀ x ∈ xs, okSpot x) : Ev (fun k => laws_toSpotS.f k xs) (xs.map cvSpot) := by
  unfold laws_toSpotS.f
  refine ev_pos (nat_0 _) (ev_pos (by rw [toNat_nat]; omega) ?_)
  rw [toNat_nat]
  have key := downTo (P := fun i => Ev (fun k => laws_toSpotS.l0 k xs ((xs.take i).map cvSpot ++ List.replicate (xs.length - i) z25) (i : Int)) (xs.map cvSpot)) (n := xs.length) ?_ ?_ 0 (Nat.zero_le _)
  · simpa using key
  · refine Ev.step (fun _ => laws_toSpotS.l0.eq_2 ..) (ev_neg (nat_ge (Nat.le_refl _)) ?_)
    rw [copy_end]
    exact ev_some
  · intro i hi ih
    have hl := copy_len cvSpot z25 xs i (by omega)
    have hs := copy_step cvSpot z25 xs i hi
    refine Ev.step (fun _ => laws_toSpotS.l0.eq_2 ..) (ev_pos (nat_lt hi) (ev_pos (nat_0 i) (ev_bindc (by rw [rdlSpot xs i hi]; exact toSpot_eq _) (ev_pos (by rw [hl]; exact nat_lt hi) ?_))))
    rw [wrap_up i xs.length hi (by omega), toNat_nat]
    refine Eq.mp (congrArg (fun z => Ev (fun k => laws_toSpotS.l0 k xs z ((i + 1 : Nat) : Int)) _) hs.symm) ih
theorem eqSpotS_self (xs : List S25) (hl : xs.length ≤ 9223372036854775807) (hs : ∀ x ∈ xs, smSpot x) : Ev (fun k => laws_eqSpotS.f k xs xs) true := by
  unfold laws_eqSpotS.f
  refine ev_pos rfl ?_
  refine downTo (P := fun i => Ev (fun k => laws_eqSpotS.l0 k xs xs (i : Int)) true) (n := xs.length) ?_ ?_ 0 (Nat.zero_le _)
  · exact Ev.step (fun _ => laws_eqSpotS.l0.eq_2 ..) (ev_neg (nat_ge (Nat.le_refl _)) ev_some)
  · intro i hi ih
    refine Ev.step (fun _ => laws_eqSpotS.l0.eq_2 ..) (ev_pos (nat_lt hi) (ev_pos (nat_0 i) (ev_pos (nat_lt hi) (ev_bindc (by rw [rdiSpot xs i hi]; exact eqSpot_self _) (ev_pos rfl ?_)))))
    rw [wrap_up i xs.length hi hl]
    exact ih
theorem szSpotS_ev (xs : List S38) (hl : xs.length ≤ 9223372036854775807) (hw : ∀ x ∈ xs, wdSpot x) (left : Int) (h0 : 0 ≤ left) (h1 : left ≤ 1048576) : ∃ r, Ev (fun _ => laws_szSpotS.f xs left) r ∧ r ≤ left ∧ (0 ≤ r → xs.length ≤ 1048576 ∧ ∀ x ∈ xs, okSpot x) := by
  unfold laws_szSpotS.f
  have w := wrap_sub left xs.length h0 h1 hl
  rw [w]
  by_cases g : left - (xs.length : Int) < 0
  · exact ⟨-1, ev_pos g ev_some, by omega, by omega⟩
  · exact ⟨_, ev_neg g ev_some, by omega, fun _ => ⟨by omega, fun _ _ => trivial⟩⟩
def mkSpot (m : Int) (i : Nat) : S25 := ⟨m + 2 * i, m + 2 * i + 1⟩
def mksSpot (m : Int) (n : Nat) : List S25 := (List.range n).map (mkSpot m)
theorem mksSpot_len (m : Int) (n : Nat) : (mksSpot m n).length = n := by simp [mksSpot]
theorem mksSpot_succ (m : Int) (n : Nat) : mksSpot m (n + 1) = mksSpot m n ++ [mkSpot m n] := by simp [mksSpot, List.range_succ]
theorem markSpotS_ev (xs : List S25) (m : Int) (h0 : 0 ≤ m) (h1 : m ≤ 4294967296) (hl : xs.length ≤ 4194304) : Ev (fun k => laws_markSpotS.f k xs m) (m + 2 * xs.length, mksSpot m xs.length) := by
  unfold laws_markSpotS.f
  have key := downTo (P := fun i => Ev (fun k => laws_markSpotS.l0 k (mksSpot m i ++ xs.drop i) (m + 2 * i) (i : Int)) (m + 2 * xs.length, mksSpot m xs.length)) (n := xs.length) ?_ ?_ 0 (Nat.zero_le _)
  · simpa [mksSpot] using key
  · refine Ev.step (fun _ => laws_markSpotS.l0.eq_2 ..) (ev_neg (by simp [mksSpot_len]) ?_)
    rw [List.drop_length, List.append_nil]
    exact ev_some
  · intro i hi ih
    have hlen : (mksSpot m i ++ xs.drop i).length = xs.length := by simp [mksSpot_len]; omega
    have hd : xs.drop i = xs[i] :: xs.drop (i + 1) := List.drop_eq_getElem_cons hi
    have w1 : wrap64 (m + 2 * (i : Int) + 1) = m + 2 * (i : Int) + 1 := wrap_in _ (by omega) (by omega)
    have w2 : wrap64 (m + 2 * (i : Int) + 1 + 1) = m + 2 * ((i + 1 : Nat) : Int) := by rw [wrap_in _ (by omega) (by omega)]; omega
    have hs : ∀ y z : S25, (mksSpot m i ++ xs.drop i).set i y = mksSpot m i ++ y :: xs.drop (i + 1) ∧ (mksSpot m i ++ y :: xs.drop (i + 1)).set i z = mksSpot m i ++ z :: xs.drop (i + 1) := fun y z => by
      rw [hd]; exact ⟨set_mid _ _ _ _ _ (mksSpot_len m i).symm, set_mid _ _ _ _ _ (mksSpot_len m i).symm⟩
    have hg : ∀ y : S25, rd_T25 (mksSpot m i ++ y :: xs.drop (i + 1)) (i : Int) = y := fun y => get_mid _ _ _ _ _ (mksSpot_len m i).symm
    refine Ev.step (fun _ => laws_markSpotS.l0.eq_2 ..) (ev_pos (by rw [hlen]; exact nat_lt hi) (ev_pos (nat_0 i) ?_))
    simp only [toNat_nat, Option.bind_some, fun y => (hs y y).1, fun y z => (hs y z).2, hg, w1, w2, wrap_up i xs.length hi (by omega)]
    have e : mksSpot m i ++ (⟨m + 2 * (i : Int), m + 2 * (i : Int) + 1⟩ : S25) :: xs.drop (i + 1) = mksSpot m (i + 1) ++ xs.drop (i + 1) := by rw [mksSpot_succ]; simp [mkSpot]
    rw [e]
    exact ih
theorem heldSpotS_ev (n : Nat) (m : Int) (h0 : 0 ≤ m) (h1 : m ≤ 4294967296) (hl : n ≤ 4194304) : Ev (fun k => laws_heldSpotS.f k (mksSpot m n) m) (m + 2 * n) := by
  unfold laws_heldSpotS.f
  have key := downTo (P := fun i => Ev (fun k => laws_heldSpotS.l0 k (mksSpot m n) (m + 2 * i) (i : Int)) (m + 2 * n)) (n := n) ?_ ?_ 0 (Nat.zero_le _)
  · simpa using key
  · exact Ev.step (fun _ => laws_heldSpotS.l0.eq_2 ..) (ev_neg (by simp [mksSpot_len]) ev_some)
  · intro i hi ih
    have hr : rd_T25 (mksSpot m n) (i : Int) = mkSpot m i := by simp [rd_T25, mksSpot, hi]
    have w1 : wrap64 (m + 2 * (i : Int) + 1) = m + 2 * (i : Int) + 1 := wrap_in _ (by omega) (by omega)
    have w2 : wrap64 (m + 2 * (i : Int) + 1 + 1) = m + 2 * ((i + 1 : Nat) : Int) := by rw [wrap_in _ (by omega) (by omega)]; omega
    refine Ev.step (fun _ => laws_heldSpotS.l0.eq_2 ..) (ev_pos (by rw [mksSpot_len]; exact nat_lt hi) (ev_pos (nat_0 i) ?_))
    simp only [hr, mkSpot, Int.add_zero, w1, w2, wrap_up i n hi (by omega)]
    exact ev_pos trivial (ev_pos trivial ih)
end Go.Proofs.Ythpldilmeoggkaa.Q
