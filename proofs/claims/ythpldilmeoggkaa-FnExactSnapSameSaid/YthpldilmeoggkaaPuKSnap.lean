/- What the exact laws' helpers over Snap come to, plainly. -/
import Derived.Test.YthpldilmeoggkaaPuK0
import Derived.Test.YthpldilmeoggkaaPuKListed
import Derived.Test.YthpldilmeoggkaaQx4
import Derived.Test.YthpldilmeoggkaaQx6
import Derived.Test.YthpldilmeoggkaaQx2
namespace Go.Proofs.Ythpldilmeoggkaa.Q
open Go.RowKit Go.Proofs.YthpldilmeoggkaaW.PrintWords
set_option linter.unusedVariables false
set_option linter.unusedSimpArgs false
def cvSnap (x : S47) : S52 := ⟨x.f0, x.f1.map cvListed⟩
def okSnap (x : S47) : Prop := x.f1.length ≤ 1048576 ∧ ∀ y ∈ x.f1, okListed y
def wdSnap (x : S47) : Prop := x.f1.length ≤ 9223372036854775807 ∧ ∀ y ∈ x.f1, wdListed y
def smSnap (x : S52) : Prop := x.f1.length ≤ 9223372036854775807 ∧ ∀ y ∈ x.f1, smListed y
theorem rdlSnap (xs : List S47) (i : Nat) (h : i < xs.length) : rd_T47 xs (i : Int) = xs[i] := by simp [rd_T47, h]
theorem rdiSnap (xs : List S52) (i : Nat) (h : i < xs.length) : rd_T52 xs (i : Int) = xs[i] := by simp [rd_T52, h]
theorem sm_cvSnap (x : S47) (h : okSnap x) : smSnap (cvSnap x) := by
  obtain ⟨l1, e1⟩ := h
  exact ⟨by simp only [cvSnap, List.length_map]; omega, fun y hy => by obtain ⟨z, hz, rfl⟩ := List.mem_map.1 hy; exact sm_cvListed z (e1 z hz)⟩
theorem toSnap_ev (x : S47) (h : okSnap x) : Ev (fun k => laws_toSnap.f k x.f0 x.f1) ((cvSnap x).f0, (cvSnap x).f1) := by
  obtain ⟨l1, e1⟩ := h
  unfold laws_toSnap.f
  exact (Ev.bind (toListedS_ev x.f1 l1 e1) ev_some)
theorem eqSnap_self (x : S52) (h : smSnap x) : Ev (fun k => laws_eqSnap.f k x.f0 x.f1 x.f0 x.f1) true := by
  obtain ⟨l1, e1⟩ := h
  unfold laws_eqSnap.f
  exact (ev_pos rfl (Ev.bind (eqListedS_self x.f1 l1 e1) (ev_pos rfl ev_some)))
theorem szSnap_ev (x : S47) (hw : wdSnap x) (left : Int) (h0 : 0 ≤ left) (h1 : left ≤ 1048576) : ∃ r, Ev (fun k => laws_szSnap.f k x.f0 x.f1 left) r ∧ r ≤ left ∧ (0 ≤ r → okSnap x) := by
  obtain ⟨l1, e1⟩ := hw
  unfold laws_szSnap.f
  obtain ⟨r1, q1, m1, n1⟩ := szListedS_ev x.f1 l1 e1 left (by omega) (by omega)
  by_cases g1 : r1 < 0
  · exact ⟨-1, (Ev.bind q1 (ev_pos g1 ev_some)), by omega, by omega⟩
  exact ⟨r1, (Ev.bind q1 (ev_neg g1 ev_some)), by omega, fun _ => ⟨(n1 (by omega)).1, (n1 (by omega)).2⟩⟩
end Go.Proofs.Ythpldilmeoggkaa.Q
