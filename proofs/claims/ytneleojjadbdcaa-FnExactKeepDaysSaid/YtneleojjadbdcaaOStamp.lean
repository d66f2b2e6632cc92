/- Arguments of type []laws.Stamp and laws.Stamp, opened. -/
import Derived.Test.YtneleojjadbdcaaKStamp
import Derived.Test.YtneleojjadbdcaaR
namespace Go.Proofs.Ytneleojjadbdcaa
open Go.ChangeShapes Go.WideShapes Go.ChangeAt Go.RowKit
set_option linter.unusedVariables false
theorem trodStamp {H : Type} {enc : TypeId × Value → H} {w : World} {sp : Nat → Bool} {held : Bool} {cs : List Value} {m : Nat} {y : DataW H × List MemPlace} (hy : DataW.trod enc Try.prog w 0 sp held m 50 cs = some y) (hl : cs.length = 2) : ∃ x : Stamp, cs = encStamp x := by
  have hf := trod_fields Try.underlying50 (by kernel_rfl) hl hy
  obtain ⟨v0, y0, n0, hv0, ht0⟩ := hf 0 _ rfl
  obtain ⟨v1, y1, n1, hv1, ht1⟩ := hf 1 _ rfl
  obtain ⟨i0, e0, _, _⟩ := DataW.trod_int Try.underlying3 ht0
  obtain ⟨i1, e1, _, _⟩ := DataW.trod_int Try.underlying3 ht1
  cases e0; cases e1
  match cs, hl, hv0, hv1 with
  | [u0, u1], _, hv0, hv1 =>
    cases hv0; cases hv1
    exact ⟨⟨i0, i1⟩, rfl⟩
theorem openStampS {H : Type} {enc : TypeId × Value → H} {w : World} {sp : Nat → Bool} {r : Reach} {b0 : Nat} {v : Value} {d : DataW H} {ps : List MemPlace}
    (hval : Value.okWide Try.prog w r b0 22 v) (h : DataW.Trod enc Try.prog w 0 sp true 22 v d ps) : ∃ (A : Option Addr) (xs : List Stamp) (c : Nat), v = .slice A xs.length c ∧ xs.length ≤ c ∧ c ≤ maxLen ∧ Sl w A (xs.flatMap encStamp) :=
  open_sl encStamp 2 (fun _ => rfl) (by omega) Try.underlying22 (by kernel_rfl) (fun cs m y hy hl => trodStamp hy hl) hval h
theorem openStamp {H : Type} {enc : TypeId × Value → H} {w : World} {sp : Nat → Bool} {r : Reach} {b0 : Nat} {v : Value} {d : DataW H} {ps : List MemPlace}
    (hval : Value.okWide Try.prog w r b0 50 v) (h : DataW.Trod enc Try.prog w 0 sp true 50 v d ps) : ∃ x : Stamp, v = .agg #[.int .i64 x.snap, .int .i64 x.day] := by
  obtain ⟨cs, rfl, hsz⟩ := okWide_struct Try.underlying50 hval
  obtain ⟨fuel, hf⟩ := h
  have hC : Try.prog.cellsOf 50 = 2 := by kernel_rfl
  obtain ⟨x, hx⟩ := trodStamp (m := fuel) hf (by simpa [Value.cells, hC] using hsz)
  refine ⟨x, ?_⟩
  obtain ⟨l⟩ := cs
  have hx' : l = encStamp x := hx
  rw [hx']
  rfl
end Go.Proofs.Ytneleojjadbdcaa
