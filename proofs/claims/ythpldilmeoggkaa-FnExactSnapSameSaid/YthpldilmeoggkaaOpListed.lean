/- Arguments of type Listed, laid open. -/
import Derived.Test.YthpldilmeoggkaaOp0
import Derived.Test.YthpldilmeoggkaaPuKListed
namespace Go.Proofs.Ythpldilmeoggkaa.Q
open Go.ChangeShapes Go.WideShapes Go.ChangeAt Go.RowKit Go.Deep Go.Proofs.YthpldilmeoggkaaW.PrintWords
set_option linter.unusedVariables false
theorem opensListed {H : Type} {enc : TypeId × Value → H} : Opens Try.prog enc k83 83 wdListed := fun w sp m cs y hy hl => by
  have hf := trod_fields Try.underlying83 (by kernel_rfl) (show cs.length = 2 from hl) hy
  obtain ⟨v0, y0, n0, hv0, ht0⟩ := hf 0 _ rfl
  obtain ⟨x0, k0, w0⟩ := (opens_string Try.underlying9 : Opens Try.prog enc _ _ _) w sp n0 [v0] y0 ht0 rfl
  obtain ⟨v1, y1, n1, hv1, ht1⟩ := hf 1 _ rfl
  obtain ⟨x1, k1, w1⟩ := (opens_slice 0 Try.underlying68 (by kernel_rfl) (opens_int Try.underlying3) : Opens Try.prog enc _ _ _) w sp n1 [v1] y1 ht1 rfl
  match cs, hl, hv0, hv1 with
  | [u0, u1], _, hv0, hv1 =>
    cases hv0; cases hv1
    cases k0
    obtain ⟨A1, c1, e1, l1, g1⟩ := k1
    cases e1
    exact ⟨⟨x0, x1⟩, k83_mk w ⟨x0, x1⟩ l1 g1, ⟨w0, w1.1⟩⟩
theorem openTopListed {H : Type} {enc : TypeId × Value → H} {w : World} {sp : Nat → Bool} {r : Reach} {b0 : Nat} {v : Value} {d : DataW H} {ps : List MemPlace} (hval : Value.okWide Try.prog w r b0 83 v) (h : DataW.Trod enc Try.prog w 0 sp true 83 v d ps) :
    ∃ (x : S83) (A1 : Option Addr) (c1 : Nat), v = .agg #[.string x.f0, .slice A1 x.f1.length c1] ∧ x.f1.length ≤ c1 ∧ Kd.C (Kd.int .i64) w A1 x.f1.length x.f1 ∧ wdListed x := by
  obtain ⟨cs, rfl, hsz⟩ := okWide_struct Try.underlying83 hval
  obtain ⟨fuel, hf⟩ := h
  have hC : Try.prog.cellsOf 83 = 2 := by kernel_rfl
  obtain ⟨x, hk, hw⟩ := opensListed w sp fuel _ _ hf (show _ = 2 from by simpa [Value.cells, hC] using hsz)
  obtain ⟨A1, c1, he, l1, g1⟩ := k83_open hk
  obtain ⟨l⟩ := cs
  have hx' : l = _ := he
  exact ⟨x, A1, c1, by rw [hx'], l1, g1, hw⟩
end Go.Proofs.Ythpldilmeoggkaa.Q
