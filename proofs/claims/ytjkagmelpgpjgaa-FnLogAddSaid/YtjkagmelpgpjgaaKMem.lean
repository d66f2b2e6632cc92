/- Memories: compared, copied, opened as an argument. -/
import Derived.Test.YtjkagmelpgpjgaaLn
import Derived.Test.YtjkagmelpgpjgaaR
import Derived.Laws.StructEq
namespace Go.Proofs.Ytjkagmelpgpjgaa
open Go.ChangeShapes Go.WideShapes Go.ChangeAt Go.RowKit
set_option linter.unusedVariables false
set_option linter.unusedSimpArgs false

theorem neqMem (a b c d : Int) (w : World) : (binOp .neq 47 (.agg #[.int .i64 a, .int .i64 b]) (.agg #[.int .i64 c, .int .i64 d])).run Try.prog w = .ok (.bool (!same (Mem.mk a b) (Mem.mk c d))) w := by
  have hu := Try.underlying47
  have hp : Try.prog.stoodInHeld 47 = false := by kernel_rfl
  rw [run_neq_struct, run_equalIn_struct (P := Try.prog) w 9999 _ _ _ (by simp [Program.fieldsOf, hu]) hp]
  simp only [Program.fieldsOf, hu]
  simp [Op.eqFields, go_sem]
  by_cases h1 : a = c <;> by_cases h2 : b = d <;> simp [h1, h2, same]
theorem eqMem (a b c d : Int) (w : World) : (binOp .eql 47 (.agg #[.int .i64 a, .int .i64 b]) (.agg #[.int .i64 c, .int .i64 d])).run Try.prog w = .ok (.bool (same (Mem.mk a b) (Mem.mk c d))) w := by
  have hu := Try.underlying47
  have hp : Try.prog.stoodInHeld 47 = false := by kernel_rfl
  rw [run_eql_struct, run_equalIn_struct (P := Try.prog) w 9999 _ _ _ (by simp [Program.fieldsOf, hu]) hp]
  simp only [Program.fieldsOf, hu]
  simp [Op.eqFields, go_sem]
  by_cases h1 : a = c <;> by_cases h2 : b = d <;> simp [h1, h2, same]
theorem guardMem (op : BinOp) (a b : Operand) (xs ys : Array Value) (w : World) : (eqGuard op 47 a b (.agg xs) (.agg ys)).run Try.prog w = .ok () w :=
  run_eqGuard_agg w op _ a b xs ys (by kernel_rfl)
theorem eqHeadOp (a b c d : Int) (w : World) : (binOp .eql 27 (.agg #[.int .i64 a, .int .i64 b]) (.agg #[.int .i64 c, .int .i64 d])).run Try.prog w = .ok (.bool (same (Head.mk a b) (Head.mk c d))) w := by
  have hu := Try.underlying27
  have hp : Try.prog.stoodInHeld 27 = false := by kernel_rfl
  rw [run_eql_struct, run_equalIn_struct (P := Try.prog) w 9999 _ _ _ (by simp [Program.fieldsOf, hu]) hp]
  simp only [Program.fieldsOf, hu]
  simp [Op.eqFields, go_sem]
  by_cases h1 : a = c <;> by_cases h2 : b = d <;> simp [h1, h2, same]
set_option maxHeartbeats 400000 in
theorem toMemory_any (x : Mem) (w : World) :
    Calls Try.prog 46 #[.agg #[.int .i64 x.long, .int .i64 x.sum]] w fun e w' => e = .returned (.agg #[.int .i64 x.long, .int .i64 x.sum]) ∧ Upd [] w w' := by
  go_enter Try.func46, Try.ntmps46
  go_wp2
  refine bodyPost_ret (v := .agg #[.int .i64 x.long, .int .i64 x.sum]) (by simp [results, Try.results46, go_sem]) rfl ⟨rfl, (((Upd.refl _ _).alloc _).alloc _).alloc _⟩
set_option maxHeartbeats 400000 in
theorem eqMemory_any (x y : Mem) (w : World) :
    Calls Try.prog 47 #[.agg #[.int .i64 x.long, .int .i64 x.sum], .agg #[.int .i64 y.long, .int .i64 y.sum]] w fun e w' => e = .returned (.bool (same x y)) ∧ Upd [] w w' := by
  go_enter Try.func47, Try.ntmps47
  go_wp2
  all_goals go_ret
  all_goals refine ⟨ret_bool ?_, ((Upd.refl _ _).alloc _).alloc _⟩
  all_goals cases x; cases y; simp_all [same]
theorem trodMemory {H : Type} {enc : TypeId × Value → H} {w : World} {sp : Nat → Bool} {held : Bool} {cs : List Value} {m : Nat} {y : DataW H × List MemPlace} (hy : DataW.trod enc Try.prog w 0 sp held m 54 cs = some y) (hl : cs.length = 2) : ∃ x : Mem, cs = [.int .i64 x.long, .int .i64 x.sum] := by
  have hf := trod_fields Try.underlying54 (by kernel_rfl) hl hy
  obtain ⟨v0, y0, n0, hv0, ht0⟩ := hf 0 _ rfl
  obtain ⟨v1, y1, n1, hv1, ht1⟩ := hf 1 _ rfl
  obtain ⟨i0, e0, _, _⟩ := DataW.trod_int Try.underlying3 ht0
  obtain ⟨i1, e1, _, _⟩ := DataW.trod_int Try.underlying3 ht1
  cases e0; cases e1
  match cs, hl, hv0, hv1 with
  | [u0, u1], _, hv0, hv1 =>
    cases hv0; cases hv1
    exact ⟨⟨i0, i1⟩, rfl⟩
theorem openMemory {H : Type} {enc : TypeId × Value → H} {w : World} {sp : Nat → Bool} {r : Reach} {b0 : Nat} {v : Value} {d : DataW H} {ps : List MemPlace}
    (hval : Value.okWide Try.prog w r b0 54 v) (h : DataW.Trod enc Try.prog w 0 sp true 54 v d ps) : ∃ x : Mem, v = .agg #[.int .i64 x.long, .int .i64 x.sum] := by
  obtain ⟨cs, rfl, hsz⟩ := okWide_struct Try.underlying54 hval
  obtain ⟨fuel, hf⟩ := h
  have hC : Try.prog.cellsOf 54 = 2 := by kernel_rfl
  obtain ⟨x, hx⟩ := trodMemory (m := fuel) hf (by simpa [Value.cells, hC] using hsz)
  refine ⟨x, ?_⟩
  obtain ⟨l⟩ := cs
  have hx' : l = [.int .i64 x.long, .int .i64 x.sum] := hx
  rw [hx']
end Go.Proofs.Ytjkagmelpgpjgaa
