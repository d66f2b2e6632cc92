/- From a law's walk to its row: arguments are read, the call's true is told, the arguments read as before. -/
import Derived.Test.YthpldilmeoggkaaW
import Derived.ProofKit
import Derived.Deep.Slices
import Derived.Deep.Fields
namespace Go.Proofs.Ythpldilmeoggkaa
open Go.ChangeShapes Go.WideShapes Go.ChangeAt Go.RowKit Go.Deep
set_option linter.unusedVariables false

theorem own_knob : ownKnob Try.prog.godebug = none := by kernel_rfl
theorem laid_out : laidOutB Try.prog = true := by kernel_rfl

section
variable {H : Type} {enc : TypeId × Value → H} {P : Program}
theorem trodAll_stays (hl : laidOutB P = true) {W W' : World} (hu : Upd [] W W') {sp : Nat → Bool} : ∀ (ts : List TypeId) (vs : List Value) (ds : List (DataW H)) (ps : List MemPlace),
    (∀ t ∈ ts, P.readableRec t = true ∧ t < P.types.size) → DataW.TrodAll enc P W 0 (fun _ => true) true ts vs ds ps → (∀ p ∈ ps, p.block < W.heap.size) → (∀ p ∈ ps, sp p.block = true) → DataW.TrodAll enc P W' 0 sp true ts vs ds ps
  | [], [], [], ps, _, h, _, _ => h
  | t :: ts, v :: vs, d :: ds, ps, hr, h, hlt, hsp => by
    obtain ⟨p, q, h1, h2, rfl⟩ := h
    exact ⟨p, q, WideElems.Trod_stays hl (hr t (by simp)).1 (hr t (by simp)).2 h1 (fun x hx => hu.below.same (hlt x (by simp [hx]))) (fun x hx => hsp x (by simp [hx])),
      trodAll_stays hl hu ts vs ds q (fun t ht => hr t (by simp [ht])) h2 (fun x hx => hlt x (by simp [hx])) (fun x hx => hsp x (by simp [hx])), rfl⟩
  | [], _ :: _, _, _, _, h, _, _ => absurd h (by simp [DataW.TrodAll])
  | [], [], _ :: _, _, _, h, _, _ => absurd h (by simp [DataW.TrodAll])
  | _ :: _, [], _, _, _, h, _, _ => absurd h (by simp [DataW.TrodAll])
  | _ :: _, _ :: _, [], _, _, h, _, _ => absurd h (by simp [DataW.TrodAll])

/-- The law's end: it returned true, the world has only grown. -/
theorem law_post (hl : laidOutB P = true) {f : Func} {s : ChangeSpec} {tb : TypeId} (hr : ∀ t ∈ f.params.toList, P.readableRec t = true ∧ t < P.types.size) (hres : f.resultTypes = #[tb]) (htb : P.underlying tb = some .bool)
    {W W' : World} {args : Array Value} {ds : List (DataW H)} {p : List MemPlace} (hvars : s.vars = []) (hW : DataW.Whole enc P f.params.toList s.vars false W args.toList ds [] p)
    (hA : DataW.TrodAll enc P W 0 (fun _ => true) true f.params.toList args.toList ds p) (hfn : s.fn H ds = { results := [.lit (.bool true)], args := ds }) (hu : Upd [] W W') :
    s.post enc P f false true false false W args (.bool true) W' := by
  have hlt : ∀ x ∈ p, x.block < W.heap.size := fun x hx => hW.lt x hx
  refine ⟨ds, [], p, [], p, [], hW, ?_, ?_, ?_, World.keptBut_mono (fun x hx => ⟨hx, .inr (.inl hx)⟩) (hu.below.frame (· ∈ p)), fun h => by cases h⟩
  · rw [List.append_nil, hfn, hres]
    exact trodAll_mk1 (shut_bool htb true)
  · rw [List.append_nil, hfn]
    exact trodAll_stays hl hu _ _ _ _ hr hA hlt (fun x hx => by simpa using hlt x hx)
  · rw [List.append_nil, hfn, hvars]
    rfl

theorem exists_list {α : Type} (n : Nat) {p : Nat → α → Prop} (h : ∀ i, i < n → ∃ x, p i x) : ∃ xs : List α, xs.length = n ∧ ∀ i (hi : i < xs.length), p i xs[i] := by
  induction n with
  | zero => exact ⟨[], rfl, fun i hi => by simp at hi⟩
  | succ n ih =>
    obtain ⟨xs, hl, hx⟩ := ih (fun i hi => h i (by omega))
    obtain ⟨y, hy⟩ := h n (by omega)
    refine ⟨xs ++ [y], by simp [hl], fun i hi => ?_⟩
    by_cases hin : i < xs.length
    · rw [List.getElem_append_left hin]; exact hx i hin
    · have : i = xs.length := by simp at hi; omega
      subst this
      simp only [List.getElem_append_right (Nat.le_refl _), Nat.sub_self, List.getElem_cons_zero]
      rw [hl]; exact hy

theorem flat_inv {α : Type} (enc : α → List Value) (n : Nat) (hn : ∀ x, (enc x).length = n) (xs : List α) (k : Nat) (u : Value) (h : (xs.flatMap enc)[k]? = some u) (hp : 0 < n) :
    ∃ (i j : Nat) (hi : i < xs.length), k = i * n + j ∧ j < n ∧ (enc xs[i])[j]? = some u := by
  have hl := flat_len enc n hn xs
  have hk : k < xs.length * n := by rw [← hl]; exact (List.getElem?_eq_some_iff.1 h).1
  have hi : k / n < xs.length := (Nat.div_lt_iff_lt_mul hp).2 hk
  have hk2 : k / n * n + k % n = k := by rw [Nat.mul_comm]; exact Nat.div_add_mod k n
  refine ⟨k / n, k % n, hi, hk2.symm, Nat.mod_lt _ hp, ?_⟩
  have hg := flat_get enc n hn xs (k / n) (k % n) (Nat.mod_lt _ hp)
  rw [hk2, h, List.getElem?_eq_getElem hi, Option.bind_some] at hg
  exact hg.symm

/-- A slice argument whose elements are read off their cells alone. -/
theorem open_sl {α : Type} (en : α → List Value) (n : Nat) (hn : ∀ x, (en x).length = n) (hp : 0 < n) {w : World} {sp : Nat → Bool} {t e : TypeId} (ht : P.underlying t = some (.slice e)) (hC : P.cellsOf e = n)
    (hel : ∀ (cs : List Value) (m : Nat) y, DataW.trod enc P w 0 sp true m e cs = some y → cs.length = n → ∃ x, cs = en x) {r : Reach} {b0 : Nat} {v : Value} {d : DataW H} {ps : List MemPlace}
    (hval : Value.okWide P w r b0 t v) (h : DataW.Trod enc P w 0 sp true t v d ps) : ∃ (A : Option Addr) (xs : List α) (c : Nat), v = .slice A xs.length c ∧ xs.length ≤ c ∧ c ≤ maxLen ∧ Sl w A (xs.flatMap en) := by
  obtain ⟨A, l, c, rfl⟩ := okWide_slice ht hval
  obtain ⟨fuel, hf⟩ := h
  rcases open_slice ht hf with ⟨h0, _⟩ | ⟨a, len, cap, m, k, D, Pl, hcs, _, hlc, hcm, hm, _, hi⟩
  · simp [Value.cells] at h0
    obtain ⟨rfl, rfl, rfl⟩ := h0
    exact ⟨none, [], 0, rfl, by simp, by simp [maxLen], .inl rfl⟩
  · simp [Value.cells] at hcs
    obtain ⟨rfl, rfl, rfl⟩ := hcs
    have hle : l ≤ m := by rw [hm]; split <;> omega
    have hex : ∀ i, i < l → ∃ x : α, ∀ j u, (en x)[j]? = some u → w.cell? (a.add (i * n + j)) = some u := fun i hil => by
      obtain ⟨cs', hc, ht'⟩ := hi i (by omega)
      rw [hC] at hc
      obtain ⟨_, hcl, hat⟩ := World.cells?_some hc
      obtain ⟨x, rfl⟩ := hel cs' _ _ ht' hcl
      refine ⟨x, fun j u hj => ?_⟩
      have hjl : j < n := by rw [← hn x]; exact (List.getElem?_eq_some_iff.1 hj).1
      have := hat j hjl
      rw [Go.Deep.add_add] at this
      rw [this, hj]
    obtain ⟨xs, rfl, hx⟩ := exists_list l hex
    refine ⟨some a, xs, c, rfl, hlc, hcm, ?_⟩
    by_cases hz : xs.length = 0
    · left; rw [List.eq_nil_of_length_eq_zero hz]; rfl
    · right
      have h0 := hx 0 (by omega) 0 ((en xs[0])[0]'(by rw [hn]; exact hp)) (List.getElem?_eq_getElem _)
      have hs : a.spot = none := by
        have h00 : a.add (0 * n + 0) = a := by simp [Addr.add]
        rw [h00] at h0
        unfold World.cell? at h0
        cases hsp : a.spot with
        | none => rfl
        | some q =>
          rw [hsp] at h0
          simp at h0
          split at h0 <;> simp at h0
      obtain ⟨b, o, s⟩ := a
      simp at hs
      subst hs
      refine ⟨b, o, rfl, fun j u hj => ?_⟩
      obtain ⟨i, jj, hil, rfl, hjn, hju⟩ := flat_inv en n hn xs j u hj hp
      have := hx i hil jj u hju
      have hadd : (⟨b, o, none⟩ : Addr).add (i * n + jj) = ⟨b, o + (i * n + jj), none⟩ := by unfold Addr.add; split <;> simp_all
      rwa [hadd] at this
/-- The fields of a struct whose fields lie in one cell each. -/
theorem trod_fields {w : World} {sp : Nat → Bool} {held : Bool} {t : TypeId} {fs : Array Field} {fuel : Nat} {cs : List Value} {x : DataW H × List MemPlace} (ht : P.underlying t = some (.struct fs)) (hone : oneCellFields P fs = true)
    (hC : cs.length = fs.size) (h : DataW.trod enc P w 0 sp held fuel t cs = some x) : ∀ (j : Nat) (f : Field), fs[j]? = some f → ∃ v y n, cs[j]? = some v ∧ DataW.trod enc P w 0 sp held n f.type [v] = some y := by
  obtain ⟨ys, n, _, _, _, hyl, hf⟩ := DataW.trod_struct ht h
  intro j f hj
  obtain ⟨ho, hk⟩ := hone_of hone j f hj
  have hjl : j < fs.size := (Array.getElem?_eq_some_iff.1 hj).1
  have h1 := hf j f hj
  rw [ho, hk] at h1
  have h2 : (cs.drop j).take 1 = [cs[j]'(by omega)] := by
    rw [List.drop_eq_getElem_cons (by omega)]
    rfl
  rw [h2, List.getElem?_eq_getElem (by omega)] at h1
  exact ⟨_, _, n, List.getElem?_eq_getElem (by omega), h1⟩
theorem flat_one {α : Type} (f : α → Value) : ∀ xs : List α, xs.flatMap (fun x => [f x]) = xs.map f
  | [] => rfl
  | x :: xs => by simp [flat_one f xs]
/-- A slice argument of one-cell elements. -/
theorem open_sl1 {α : Type} (en : α → Value) {w : World} {sp : Nat → Bool} {t e : TypeId} (ht : P.underlying t = some (.slice e)) (hC : P.cellsOf e = 1)
    (hel : ∀ (cs : List Value) (m : Nat) y, DataW.trod enc P w 0 sp true m e cs = some y → ∃ x, cs = [en x]) {r : Reach} {b0 : Nat} {v : Value} {d : DataW H} {ps : List MemPlace}
    (hval : Value.okWide P w r b0 t v) (h : DataW.Trod enc P w 0 sp true t v d ps) : ∃ (A : Option Addr) (xs : List α) (c : Nat), v = .slice A xs.length c ∧ xs.length ≤ c ∧ c ≤ maxLen ∧ Sl w A (xs.map en) := by
  obtain ⟨A, xs, c, h1, h2, h3, h4⟩ := open_sl (fun x => [en x]) 1 (fun _ => rfl) (by omega) ht hC (fun cs m y hy _ => hel cs m y hy) hval h
  exact ⟨A, xs, c, h1, h2, h3, by rwa [flat_one] at h4⟩
end
section
variable {H : Type} {enc : TypeId × Value → H} {w : World} {sp : Nat → Bool} {r : Reach} {b0 : Nat} {v : Value} {d : DataW H} {ps : List MemPlace}
theorem open_i64 (hval : Value.okWide Try.prog w r b0 3 v) (h : DataW.Trod enc Try.prog w 0 sp true 3 v d ps) : ∃ n : Int, v = .int .i64 n ∧ -9223372036854775808 ≤ n ∧ n ≤ 9223372036854775807 := by
  obtain ⟨n, rfl, _, _, hw⟩ := open_int Try.underlying3 hval h
  refine ⟨n, rfl, ?_⟩
  have h1 : IntKind.i64.min = -9223372036854775808 := by decide +kernel
  have h2 : IntKind.i64.max = 9223372036854775807 := by decide +kernel
  simp only [Lit.wf, Bool.and_eq_true, decide_eq_true_eq] at hw
  rw [h1, h2] at hw
  exact hw
theorem open_bytes (hval : Value.okWide Try.prog w r b0 22 v) (h : DataW.Trod enc Try.prog w 0 sp true 22 v d ps) : ∃ (A : Option Addr) (xs : List Int) (c : Nat), v = .slice A xs.length c ∧ xs.length ≤ c ∧ c ≤ maxLen ∧ Sl w A (xs.map (.int .u8)) ∧ ∀ b ∈ xs, 0 ≤ b ∧ b < 256 := by
  obtain ⟨A, xs, c, h1, h2, h3, h4⟩ := open_sl1 (α := { b : Int // 0 ≤ b ∧ b < 256 }) (fun b => .int .u8 b.1) Try.underlying22 (by kernel_rfl) (fun cs m y hy => by
    obtain ⟨n, rfl, _, hw⟩ := DataW.trod_int Try.underlying5 hy
    have h1 : IntKind.u8.min = 0 := by decide +kernel
    have h2 : IntKind.u8.max = 255 := by decide +kernel
    simp only [Lit.wf, Bool.and_eq_true, decide_eq_true_eq] at hw
    rw [h1, h2] at hw
    exact ⟨⟨n, by omega⟩, rfl⟩) hval h
  refine ⟨A, xs.map (·.1), c, by rw [List.length_map]; exact h1, by rw [List.length_map]; exact h2, h3, by rw [List.map_map]; exact h4, fun b hb => ?_⟩
  obtain ⟨x, _, rfl⟩ := List.mem_map.1 hb
  exact x.2
end
end Go.Proofs.Ythpldilmeoggkaa
