/- Arguments laid open, as the printed kinds read them. -/
import Derived.Test.YthpldilmeoggkaaR
import Derived.Test.YthpldilmeoggkaaBr
namespace Go.Proofs.Ythpldilmeoggkaa.Q
open Go.ChangeShapes Go.WideShapes Go.ChangeAt Go.RowKit Go.Deep Go.Proofs.YthpldilmeoggkaaW.PrintWords
set_option linter.unusedVariables false
/-- Memory of type t reads as a thing of kind d, of which Wd holds. -/
def Opens {α H : Type} (P : Program) (enc : TypeId × Value → H) (d : Kd α) (t : Nat) (Wd : α → Prop) : Prop :=
  ∀ (w : World) (sp : Nat → Bool) (m : Nat) (cs : List Value) (y : DataW H × List MemPlace), DataW.trod enc P w 0 sp true m t cs = some y → cs.length = d.sz → ∃ x, d.K w x cs ∧ Wd x
section
variable {α H : Type} {P : Program} {enc : TypeId × Value → H} {d : Kd α} {t e : Nat} {Wd : α → Prop}
theorem opens_int {k : IntKind} (ht : P.underlying t = some (.int k)) : Opens P enc (Kd.int k) t (fun _ => True) := fun w sp m cs y hy _ => by
  obtain ⟨n, rfl, _, _⟩ := DataW.trod_int ht hy
  exact ⟨n, rfl, trivial⟩
theorem opens_string (ht : P.underlying t = some .string) : Opens P enc Kd.string t (fun s => s.size ≤ 9223372036854775807) := fun w sp m cs y hy _ => by
  obtain ⟨s, rfl, _, hs⟩ := DataW.trod_string ht hy
  exact ⟨s, rfl, by simpa [maxLen] using hs⟩
theorem opens_slice (e' : Nat) (ht : P.underlying t = some (.slice e)) (hC : P.cellsOf e = d.sz) (h : Opens P enc d e Wd) : Opens P enc (Kd.slice e' d) t (fun xs => xs.length ≤ 9223372036854775807 ∧ ∀ x ∈ xs, Wd x) := fun w sp m cs y hy _ => by
  rcases open_slice ht hy with ⟨rfl, _⟩ | ⟨a, len, cap, m, k, D, Pl, rfl, _, hlc, hcm, hm, _, hi⟩
  · exact ⟨[], ⟨none, 0, rfl, Nat.le_refl _, ⟨rfl, by simp, fun h => by simp at h⟩⟩, by simp, by simp⟩
  · have hle : len ≤ m := by rw [hm]; split <;> omega
    obtain ⟨xs, rfl, hx⟩ := exists_list len (p := fun i x => Wd x ∧ ∃ c, c.length = d.sz ∧ d.K w x c ∧ ∀ i' u, c[i']? = some u → w.cell? (a.add (i * d.sz + i')) = some u) (fun i hil => by
      obtain ⟨cs', hc, ht'⟩ := hi i (by omega)
      rw [hC] at hc
      obtain ⟨_, hcl, hat⟩ := World.cells?_some hc
      obtain ⟨x, hk, hw⟩ := h w sp _ cs' _ ht' hcl
      refine ⟨x, hw, cs', hcl, hk, fun j u hj => ?_⟩
      have hjl : j < d.sz := by rw [← hcl]; exact (List.getElem?_eq_some_iff.1 hj).1
      have := hat j hjl
      rw [Go.Deep.add_add] at this
      rw [this, hj])
    have hml : xs.length ≤ 9223372036854775807 := by simp only [maxLen] at hcm; omega
    refine ⟨xs, ⟨some a, cap, rfl, hlc, rfl, hml, fun _ => ⟨a, rfl, fun j p hj => ?_⟩⟩, hml, fun x hxm => ?_⟩
    · obtain ⟨hjl, rfl⟩ := List.getElem?_eq_some_iff.1 hj
      exact (hx j hjl).2
    · obtain ⟨j, hjl, rfl⟩ := List.getElem_of_mem hxm
      exact (hx j hjl).1
/-- A row that is an argument. -/
theorem open_row (ht : P.underlying t = some (.slice e)) (hC : P.cellsOf e = d.sz) (h : Opens P enc d e Wd) {w : World} {sp : Nat → Bool} {r : Reach} {b0 : Nat} {v : Value} {dd : DataW H} {ps : List MemPlace}
    (hval : Value.okWide P w r b0 t v) (hT : DataW.Trod enc P w 0 sp true t v dd ps) : ∃ (A : Option Addr) (xs : List α) (c : Nat), v = .slice A xs.length c ∧ xs.length ≤ c ∧ Kd.C d w A xs.length xs ∧ xs.length ≤ 9223372036854775807 ∧ ∀ x ∈ xs, Wd x := by
  obtain ⟨A, l, c, rfl⟩ := okWide_slice ht hval
  obtain ⟨fuel, hf⟩ := hT
  obtain ⟨xs, ⟨A', c', he, hl, hC'⟩, h1, h2⟩ := opens_slice 0 ht hC h w sp fuel [.slice A l c] _ (by simpa [Value.cells] using hf) rfl
  cases he
  exact ⟨A, xs, c, rfl, hl, hC', h1, h2⟩
end
end Go.Proofs.Ythpldilmeoggkaa.Q
