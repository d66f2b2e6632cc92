/- Arguments of type []laws.Head and laws.Head, opened. -/
import Derived.Test.YtjkagmelpgpjgaaKHead
import Derived.Test.YtjkagmelpgpjgaaR
namespace Go.Proofs.Ytjkagmelpgpjgaa
open Go.ChangeShapes Go.WideShapes Go.ChangeAt Go.RowKit
set_option linter.unusedVariables false
theorem trodHead {H : Type} {enc : TypeId × Value → H} {w : World} {sp : Nat → Bool} {held : Bool} {cs : List Value} {m : Nat} {y : DataW H × List MemPlace} (hy : DataW.trod enc Try.prog w 0 sp held m 37 cs = some y) (hl : cs.length = 2) : ∃ x : Head, cs = encHead x := by
  have hf := trod_fields Try.underlying37 (by kernel_rfl) hl hy
  obtain ⟨v0, y0, n0, hv0, ht0⟩ := hf 0 _ rfl
  obtain ⟨v1, y1, n1, hv1, ht1⟩ := hf 1 _ rfl
  obtain ⟨i0, e0, _, _⟩ := DataW.trod_int Try.underlying3 ht0
  obtain ⟨i1, e1, _, _⟩ := DataW.trod_int Try.underlying3 ht1
  cases e0; cases e1
  match cs, hl, hv0, hv1 with
  | [u0, u1], _, hv0, hv1 =>
    cases hv0; cases hv1
    exact ⟨⟨i0, i1⟩, rfl⟩
theorem openHeadS {H : Type} {enc : TypeId × Value → H} {w : World} {sp : Nat → Bool} {r : Reach} {b0 : Nat} {v : Value} {d : DataW H} {ps : List MemPlace}
    (hval : Value.okWide Try.prog w r b0 29 v) (h : DataW.Trod enc Try.prog w 0 sp true 29 v d ps) : ∃ (A : Option Addr) (xs : List Head) (c : Nat), v = .slice A xs.length c ∧ xs.length ≤ c ∧ c ≤ maxLen ∧ Sl w A (xs.flatMap encHead) :=
  open_sl encHead 2 (fun _ => rfl) (by omega) Try.underlying29 (by kernel_rfl) (fun cs m y hy hl => trodHead hy hl) hval h
theorem openHead {H : Type} {enc : TypeId × Value → H} {w : World} {sp : Nat → Bool} {r : Reach} {b0 : Nat} {v : Value} {d : DataW H} {ps : List MemPlace}
    (hval : Value.okWide Try.prog w r b0 37 v) (h : DataW.Trod enc Try.prog w 0 sp true 37 v d ps) : ∃ x : Head, v = .agg #[.int .i64 x.by_, .int .i64 x.snap] := by
  obtain ⟨cs, rfl, hsz⟩ := okWide_struct Try.underlying37 hval
  obtain ⟨fuel, hf⟩ := h
  have hC : Try.prog.cellsOf 37 = 2 := by kernel_rfl
  obtain ⟨x, hx⟩ := trodHead (m := fuel) hf (by simpa [Value.cells, hC] using hsz)
  refine ⟨x, ?_⟩
  obtain ⟨l⟩ := cs
  have hx' : l = encHead x := hx
  rw [hx']
  rfl
end Go.Proofs.Ytjkagmelpgpjgaa
