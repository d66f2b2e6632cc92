/- Words for memory that all proofs of this seat use: how a slice reads, what a call owns, how a world grows. -/
import Derived.Test.YtdgidcbahbkabaaRows
import Derived.WalkKit
import Derived.WalkSpells
import Derived.WalkLawsBesides
import Derived.Deep.QuietTactic
import Derived.BigQuiet
import Derived.Deep.RegionHeld3
import Derived.Deep.RegionLaw
import Derived.Deep.DeepCutAuto
import Derived.Deep.CutBlock
import Derived.Maps.AppendAt
import Derived.Lib.Hide
namespace Go.Proofs.Ytdgidcbahbkabaa
open Go.RowKit
set_option linter.unusedVariables false

/-! ### How a world grows -/
/-- The world has grown; of the blocks that were there only those of M may have been written. -/
structure Upd (M : List Nat) (w w' : World) : Prop where
  os : w'.os = w.os
  tape : w'.tape = w.tape
  output : w'.output = w.output
  size : w.heap.size ≤ w'.heap.size
  block : ∀ k, k < w.heap.size → k ∉ M → w'.heap[k]? = w.heap[k]?

theorem Upd.refl (M : List Nat) (w : World) : Upd M w w := ⟨rfl, rfl, rfl, Nat.le_refl _, fun _ _ _ => rfl⟩
theorem Upd.trans {M : List Nat} {a b c : World} (h : Upd M a b) (k : Upd M b c) : Upd M a c :=
  ⟨k.os.trans h.os, k.tape.trans h.tape, k.output.trans h.output, Nat.le_trans h.size k.size,
   fun i hi hm => (k.block i (Nat.lt_of_lt_of_le hi h.size) hm).trans (h.block i hi hm)⟩
theorem Upd.weaken {M M' : List Nat} {w w' : World} (h : Upd M w w') (hs : ∀ k, k < w.heap.size → k ∈ M → k ∈ M') : Upd M' w w' :=
  ⟨h.os, h.tape, h.output, h.size, fun k hk hm => h.block k hk (fun e => hm (hs k hk e))⟩
theorem Upd.any {w w' : World} (h : Upd [] w w') (M : List Nat) : Upd M w w' := h.weaken (by simp)
/-- A step that wrote only what was not there at the beginning. -/
theorem Upd.then {M M' : List Nat} {a b c : World} (h : Upd M a b) (k : Upd M' b c) (hs : ∀ x, x ∈ M' → x < a.heap.size → x ∈ M) : Upd M a c :=
  ⟨k.os.trans h.os, k.tape.trans h.tape, k.output.trans h.output, Nat.le_trans h.size k.size,
   fun i hi hm => (k.block i (Nat.lt_of_lt_of_le hi h.size) (fun e => hm (hs i e hi))).trans (h.block i hi hm)⟩
theorem Upd.of_below {w w' : World} (h : Below w.heap.size w w') (M : List Nat) : Upd M w w' := ⟨h.os, h.tape, h.output, h.size, fun k hk _ => h.block k hk⟩
theorem Upd.below {w w' : World} (h : Upd [] w w') : Below w.heap.size w w' := ⟨h.os, h.tape, h.output, h.size, fun k hk => h.block k hk (by simp)⟩
theorem Upd.grown {w w' : World} {row : Option Nat} (h : w.grownBy w' row) : Upd row.toList w w' :=
  ⟨h.os, h.tape, h.output, h.size, fun k hk hm => h.block k hk (fun e => hm (by rw [← e]; simp))⟩
theorem Upd.drew {M : List Nat} {a w : World} (h : Upd M a w) : Upd M a w.drew := ⟨h.os, h.tape, h.output, h.size, h.block⟩
theorem Upd.drewN {M : List Nat} {a w : World} (h : Upd M a w) (n : Nat) : Upd M a (w.drewN n) := ⟨h.os, h.tape, h.output, h.size, h.block⟩
theorem Upd.alloc {M : List Nat} {a w : World} (h : Upd M a w) (o : Obj) : Upd M a (w.alloc o) :=
  h.trans ⟨rfl, rfl, rfl, by simp, fun k hk _ => Below.heap_alloc _ _ _ hk⟩
theorem Upd.setCell {M : List Nat} {a w : World} (h : Upd M a w) {p : Addr} (hp : p.block ∈ M ∨ a.heap.size ≤ p.block) (u : Value) : Upd M a (w.setCell p u) :=
  ⟨h.os, h.tape, h.output, by simpa [World.setCell] using h.size, fun k hk hm => (Below.heap_setCell _ _ _ _ (by
    rintro rfl
    rcases hp with hp | hp
    · exact hm hp
    · omega)).trans (h.block k hk hm)⟩
theorem Upd.cell {M : List Nat} {w w' : World} (h : Upd M w w') {p : Addr} {v : Value} (hp : w.cell? p = some v) (hm : p.block ∉ M) : w'.cell? p = some v :=
  (World.cell?_of_block (w := w) (h.block p.block (World.block_lt_of_cell? w _ hp) hm)).trans hp

/-! ### A world that has come out of another by growing alone; regions that draw their order and only read or make -/
structure Later (w : World) where
  world : World
  upd : Upd [] w world
instance (w : World) : Nonempty (Later w) := ⟨⟨w, Upd.refl _ _⟩⟩
section
variable {P : Program} {w : World}
theorem wp_region_calm {id : Nat} {Q : Exit → Act → World → Prop} {a : Act} {l : List Oper} (hm : P.follows .mixedOrders = true) (hB : Region.lexB .any l.toArray = true)
    (h : wpQuiet P l.toArray (fun w' => ∃ g : Later w, w' = g.world) (fun a' => ∀ w', (∃ g : Later w, w' = g.world) → Q .normal a' w') l a) : (Code.region id l.toArray true).wp P Q a w :=
  wp_region_quiet (C := fun w' => ∃ g : Later w, w' = g.world) hm hB ⟨⟨_, (Upd.refl [] w).drew⟩, rfl⟩ (by simpa using h)
theorem Calls.calm {f : FuncId} {args : Array Value} {g : Later w} {v : Value} (h : Calls P f args g.world fun e w' => e = .returned v ∧ Upd [] g.world w') :
    Calls P f args g.world fun e w'' => e = .returned v ∧ ∃ g : Later w, w'' = g.world :=
  h.mono fun _ w' ⟨he, hu⟩ => ⟨he, ⟨w', g.upd.trans hu⟩, rfl⟩
theorem Later.cell (g : Later w) {p : Addr} {v : Value} (h : w.cell? p = some v) : g.world.cell? p = some v := g.upd.cell h (by simp)
end

/-! ### A slice that reads as a list of cells -/
def Sl (w : World) (A : Option Addr) (cs : List Value) : Prop :=
  cs = [] ∨ ∃ b o, A = some ⟨b, o, none⟩ ∧ ∀ j u, cs[j]? = some u → w.cell? ⟨b, o + j, none⟩ = some u
section
variable {w w' : World} {A : Option Addr} {cs : List Value}
theorem Sl.none_ : Sl w A [] := .inl rfl
theorem Sl.upd (h : Sl w A cs) {M : List Nat} (hu : Upd M w w') (hm : ∀ a, A = some a → a.block ∉ M) : Sl w' A cs := by
  rcases h with h | ⟨b, o, rfl, hc⟩
  · exact .inl h
  · exact .inr ⟨b, o, rfl, fun j u hj => hu.cell (hc j u hj) (hm ⟨b, o, none⟩ rfl)⟩
theorem Sl.grow (h : Sl w A cs) (hu : Upd [] w w') : Sl w' A cs := h.upd hu (by simp)
theorem Sl.at_ {j : Nat} {u : Value} (h : Sl w A cs) (hj : cs[j]? = some u) : ∃ b o, A = some ⟨b, o, none⟩ ∧ ∀ j u, cs[j]? = some u → w.cell? ⟨b, o + j, none⟩ = some u := by
  rcases h with rfl | h
  · simp at hj
  · exact h
theorem Sl.left {ds : List Value} (h : Sl w A (cs ++ ds)) : Sl w A cs := by
  rcases h with h | ⟨b, o, rfl, hc⟩
  · exact .inl (List.append_eq_nil_iff.1 h).1
  · exact .inr ⟨b, o, rfl, fun j u hj => hc j u (by rw [List.getElem?_append_left (List.getElem?_eq_some_iff.1 hj).1]; exact hj)⟩
theorem Sl.take (h : Sl w A cs) (k : Nat) : Sl w A (cs.take k) := by
  rw [← List.take_append_drop k cs] at h
  exact h.left
/-- x[k:], as the model has it: where the capacity is used up the address stays. -/
theorem Sl.from_ {n c size : Nat} (h : Sl w A cs) (hl : cs.length = n * size) (hc : n ≤ c) (k : Nat) : Sl w (if c = k then A else A.map (fun x => x.add (k * size))) (cs.drop (k * size)) := by
  by_cases hk : c = k
  · rw [if_pos hk, List.drop_eq_nil_of_le (by rw [hl, ← hk]; exact Nat.mul_le_mul_right _ hc)]
    exact .inl rfl
  · rw [if_neg hk]
    rcases h with rfl | ⟨b, o, rfl, h⟩
    · exact .inl (by simp)
    · refine .inr ⟨b, o + k * size, ?_, fun j u hj => ?_⟩
      · simp only [Option.map_some, Addr.add]
        split
        · rename_i e; rw [e]; rfl
        · rfl
      · rw [List.getElem?_drop] at hj
        have := h _ u hj
        rwa [← Nat.add_assoc] at this
/-- A slice of one int, one string ..: the cell of element k. -/
theorem Sl.get {α : Type} {f : α → Value} {xs : List α} (h : Sl w A (xs.map f)) {k : Nat} (hk : k < xs.length) : ∃ b o, A = some ⟨b, o, none⟩ ∧ w.cell? ⟨b, o + k, none⟩ = some (f xs[k]) := by
  have hj : (xs.map f)[k]? = some (f xs[k]) := by simp [hk]
  obtain ⟨b, o, rfl, hc⟩ := h.at_ hj
  exact ⟨b, o, rfl, hc k _ hj⟩
end

/-- Cells of elements that lie in n cells each. -/
theorem flat_get {α : Type} (enc : α → List Value) (n : Nat) (hn : ∀ x, (enc x).length = n) : ∀ (xs : List α) (i j : Nat), j < n → (xs.flatMap enc)[i * n + j]? = (xs[i]?).bind fun x => (enc x)[j]?
  | [], _, _, _ => by simp
  | x :: xs, 0, j, hj => by
    rw [List.flatMap_cons, List.getElem?_append_left (by rw [hn]; omega)]
    simp
  | x :: xs, i + 1, j, hj => by
    rw [List.flatMap_cons, List.getElem?_append_right (by rw [hn]; simp [Nat.add_mul]; omega), hn, show (i + 1) * n + j - n = i * n + j from by rw [Nat.add_mul]; omega, flat_get enc n hn xs i j hj]
    simp
theorem flat_len {α : Type} (enc : α → List Value) (n : Nat) (hn : ∀ x, (enc x).length = n) : ∀ xs : List α, (xs.flatMap enc).length = xs.length * n
  | [] => by simp
  | x :: xs => by rw [List.flatMap_cons, List.length_append, hn, flat_len enc n hn xs, List.length_cons, Nat.add_mul]; omega
theorem flat_take {α : Type} (enc : α → List Value) (n : Nat) (hn : ∀ x, (enc x).length = n) (xs : List α) (k : Nat) : (xs.take k).flatMap enc = (xs.flatMap enc).take (k * n) := by
  rcases Nat.le_total k xs.length with hk | hk
  · have h : xs.flatMap enc = (xs.take k).flatMap enc ++ (xs.drop k).flatMap enc := by rw [← List.flatMap_append, List.take_append_drop]
    have hl : ((xs.take k).flatMap enc).length = k * n := by rw [flat_len enc n hn, List.length_take, Nat.min_eq_left hk]
    exact (List.take_left' hl).symm.trans (congrArg (List.take (k * n)) h.symm)
  · rw [List.take_of_length_le hk, List.take_of_length_le (by rw [flat_len enc n hn]; exact Nat.mul_le_mul_right _ hk)]
theorem flat_drop {α : Type} (enc : α → List Value) (n : Nat) (hn : ∀ x, (enc x).length = n) (xs : List α) (k : Nat) : (xs.drop k).flatMap enc = (xs.flatMap enc).drop (k * n) := by
  rcases Nat.le_total k xs.length with hk | hk
  · have h : xs.flatMap enc = (xs.take k).flatMap enc ++ (xs.drop k).flatMap enc := by rw [← List.flatMap_append, List.take_append_drop]
    have hl : ((xs.take k).flatMap enc).length = k * n := by rw [flat_len enc n hn, List.length_take, Nat.min_eq_left hk]
    exact (List.drop_left' hl).symm.trans (congrArg (List.drop (k * n)) h.symm)
  · rw [List.drop_eq_nil_of_le hk, List.drop_eq_nil_of_le (by rw [flat_len enc n hn]; exact Nat.mul_le_mul_right _ hk)]
    rfl
theorem Sl.two {α : Type} {w : World} {A : Option Addr} {enc : α → List Value} {f g : α → Value} (he : ∀ x, enc x = [f x, g x]) {xs : List α} (h : Sl w A (xs.flatMap enc)) {i : Nat} (hi : i < xs.length) :
    ∃ b o, A = some ⟨b, o, none⟩ ∧ w.cell? ⟨b, o + i * 2, none⟩ = some (f xs[i]) ∧ w.cell? ⟨b, o + i * 2 + 1, none⟩ = some (g xs[i]) := by
  have hl : ∀ x, (enc x).length = 2 := fun x => by rw [he]; rfl
  have h0 := flat_get enc 2 hl xs i 0 (by omega)
  have h1 := flat_get enc 2 hl xs i 1 (by omega)
  rw [List.getElem?_eq_getElem hi, Option.bind_some, he] at h0 h1
  obtain ⟨b, o, rfl, hc⟩ := h.at_ h0
  exact ⟨b, o, rfl, hc _ _ h0, hc _ _ h1⟩
theorem Sl.three {α : Type} {w : World} {A : Option Addr} {enc : α → List Value} {f g k : α → Value} (he : ∀ x, enc x = [f x, g x, k x]) {xs : List α} (h : Sl w A (xs.flatMap enc)) {i : Nat} (hi : i < xs.length) :
    ∃ b o, A = some ⟨b, o, none⟩ ∧ w.cell? ⟨b, o + i * 3, none⟩ = some (f xs[i]) ∧ w.cell? ⟨b, o + i * 3 + 1, none⟩ = some (g xs[i]) ∧ w.cell? ⟨b, o + i * 3 + 2, none⟩ = some (k xs[i]) := by
  have hl : ∀ x, (enc x).length = 3 := fun x => by rw [he]; rfl
  have h0 := flat_get enc 3 hl xs i 0 (by omega)
  have h1 := flat_get enc 3 hl xs i 1 (by omega)
  have h2 := flat_get enc 3 hl xs i 2 (by omega)
  rw [List.getElem?_eq_getElem hi, Option.bind_some, he] at h0 h1 h2
  obtain ⟨b, o, rfl, hc⟩ := h.at_ h0
  exact ⟨b, o, rfl, hc _ _ h0, hc _ _ h1, hc _ _ h2⟩

/-! ### What a call owns -/
/-- The slice '.slice A n c' owns the cells cs: its block is from base on, is written by nobody else, and is not frozen. -/
def Own (w : World) (base e size : Nat) (A : Option Addr) (n c : Nat) (cs : List Value) : Prop := w.ownsRow base e size (.slice A n c) n cs
section
variable {w w' : World} {base e size n c : Nat} {A : Option Addr} {cs : List Value}
theorem Own.nil (w : World) (base e size : Nat) : Own w base e size none 0 0 [] := World.ownsRow_nil w base e size
theorem Own.len (h : Own w base e size A n c cs) : cs.length = n * size := h.1
theorem Own.cap (h : Own w base e size A n c cs) : n ≤ c ∧ c ≤ maxLen := by
  rcases h.2 with ⟨h1, rfl⟩ | ⟨g, cap, cur, h1, _, _, h2, h3, _⟩
  · injection h1 with _ _ h1
    subst h1
    exact ⟨Nat.le_refl _, by unfold maxLen; omega⟩
  · injection h1 with _ _ h1
    subst h1
    exact ⟨h2, h3⟩
theorem Own.lt (h : Own w base e size A n c cs) : ∀ a, A = some a → base ≤ a.block ∧ a.block < w.heap.size := fun a ha => by
  subst ha
  exact World.ownsRow.lt h a.block rfl
theorem Own.mem (h : Own w base e size A n c cs) : ∀ x, x ∈ (A.map (·.block)).toList → base ≤ x := fun x hx => by
  cases A with
  | none => simp at hx
  | some a =>
    have : x = a.block := by simpa using hx
    have := (h.lt a rfl).1
    omega
theorem Own.form (h : Own w base e size A n c cs) : (A = none ∧ n = 0 ∧ cs = []) ∨ ∃ g, A = some ⟨g, 0, none⟩ := by
  rcases h.2 with ⟨h1, rfl⟩ | ⟨g, cap, cur, h1, _⟩
  · injection h1 with h1
    have := h.1
    exact .inl ⟨h1, rfl, by simpa using this⟩
  · injection h1 with h1
    exact .inr ⟨g, h1⟩
theorem Own.sl (h : Own w base e size A n c cs) : Sl w A cs := by
  rcases h.form with ⟨_, _, rfl⟩ | ⟨g, rfl⟩
  · exact .inl rfl
  · exact .inr ⟨g, 0, rfl, fun j u hj => by
      have := World.ownsRow.cells h (g := g) rfl j u hj
      have hadd : (⟨g, 0, none⟩ : Addr).add j = ⟨g, j, none⟩ := by unfold Addr.add; split <;> simp_all
      rw [hadd] at this
      simpa using this⟩
theorem Own.upd (h : Own w base e size A n c cs) {M : List Nat} (hu : Upd M w w') (hm : ∀ a, A = some a → a.block ∉ M) : Own w' base e size A n c cs := by
  refine ⟨h.1, ?_⟩
  rcases h.2 with hn | ⟨g, cap, cur, h1, hb, hg, rest⟩
  · exact .inl hn
  · refine .inr ⟨g, cap, cur, h1, hb, ?_, rest⟩
    injection h1 with h1
    rw [hu.block g (Array.getElem?_eq_some_iff.1 hg).1 (hm _ h1)]
    exact hg
theorem Own.grow (h : Own w base e size A n c cs) (hu : Upd [] w w') : Own w' base e size A n c cs := h.upd hu (by simp)
/-- Only what lies below the base has been written. -/
theorem Own.far (h : Own w base e size A n c cs) {M : List Nat} (hu : Upd M w w') (hm : ∀ x, x ∈ M → x < base) : Own w' base e size A n c cs :=
  h.upd hu (fun a ha hx => by have := (h.lt a ha).1; have := hm _ hx; omega)
theorem Own.base_le (h : Own w base e size A n c cs) {base' : Nat} (hb : base' ≤ base) : Own w base' e size A n c cs := by
  refine ⟨h.1, ?_⟩
  rcases h.2 with hn | ⟨g, cap, cur, h1, hb', rest⟩
  · exact .inl hn
  · exact .inr ⟨g, cap, cur, h1, Nat.le_trans hb hb', rest⟩
theorem Own.lit (w : World) (cs : List Value) (n : Nat) (hb : base ≤ w.heap.size) (hm : n ≤ maxLen) (hs : cs.length = n * size) :
    Own (w.alloc (.cells cs.toArray e)) base e size (some ⟨w.heap.size, 0, none⟩) n n cs := by
  have := World.ownsRow_lit (base := base) (e := e) (size := size) w cs.toArray n hb hm (by simpa using hs)
  simpa [Own] using this
theorem Own.frozen {g : Nat} (h : Own w base e size (some ⟨g, 0, none⟩) n c cs) (j : Nat) : w.frozen? ⟨g, j, none⟩ = false := World.ownsRow.frozenAt h j
theorem Own.cell {g : Nat} (h : Own w base e size (some ⟨g, 0, none⟩) n c cs) (j : Nat) (hj : j < n * size) : ∃ u, w.cell? ⟨g, j, none⟩ = some u := by
  have h1 := World.ownsRow.cellAt h j hj
  have hl := h.len
  rw [List.getElem?_eq_getElem (by omega)] at h1
  exact ⟨_, h1⟩
theorem Own.store {g : Nat} (h : Own w base e size (some ⟨g, 0, none⟩) n c cs) (j : Nat) (u : Value) :
    Own (w.setCell ⟨g, j, none⟩ u) base e size (some ⟨g, 0, none⟩) n c (cs.set j u) ∧ Upd [g] w (w.setCell ⟨g, j, none⟩ u) := by
  obtain ⟨h1, h2⟩ := World.ownsRow.stored h j u
  exact ⟨h1, Upd.grown h2⟩
end

/-! ### append onto what the call owns -/
/-- What a slice type's elements are: their type, how many cells, how many bytes. -/
def SliceT (P : Program) (t e size bytes : Nat) : Prop := P.underlying t = some (.slice e) ∧ 0 < size ∧ ∃ z : Value, z.cells.size = size ∧ (P.info? e).map (fun i => (i.zero, i.size, i.bytes)) = some (some z, size, bytes)

section
variable {P : Program} {ops : Array Oper} {rest : List Oper} {o : Oper} {a : Act} {Q : Exit → Act → World → Prop}
theorem wp_append {w wa : World} {M : List Nat} {K : Act → World → Prop} (s x : Operand) (t : TypeId) (ho : o.op = .call { callee := .builtin .append, args := #[s, x], argTypes := #[t, t] })
    {e size bytes : Nat} (hT : SliceT P t e size bytes) {base n c : Nat} {A : Option Addr} {cs : List Value} (hs : a.eval s = .slice A n c) (hown : Own w base e size A n c cs)
    {B : Option Addr} {m d : Nat} {news : List Value} (hx : a.eval x = .slice B m d) (hl : news.length = m * size) (hnews : Sl w B news) (h1 : ∀ u ∈ news, u.oneCell' = true)
    (h63 : n + m ≤ maxLen) (hbytes : (n + m) * bytes ≤ 140737488355328) (hu : Upd M wa w) (hbase : wa.heap.size ≤ base) (hle : base ≤ w.heap.size)
    (h : ∀ A' c' w', Own w' base e size A' (n + m) c' (cs ++ news) → Upd M wa w' → Upd (A.map (·.block)).toList w w' → (A' = A ∨ ∀ ad, A' = some ad → w.heap.size ≤ ad.block) → K (a.put o.dst (.slice A' (n + m) c')) w') :
    o.wp P a w K Q := by
  obtain ⟨ht, hsz, z, hzs, hi⟩ := hT
  obtain ⟨i, hi', hz, h2, h3⟩ := info_parts hi
  by_cases hm : m = 0
  · subst hm
    obtain rfl : news = [] := List.eq_nil_of_length_eq_zero (by simpa using hl)
    have hrun : (Builtin.append_ #[t, t] o.type #[.slice A n c, .slice B 0 d]).run P w = .ok (.slice A n c) w := by
      rcases hown.2 with ⟨e1, e2⟩ | ⟨g, cap, cur, e1, _, _, hnc, _⟩
      · injection e1 with e1 _ e3
        subst e1; subst e2; subst e3
        cases B <;> simp [Builtin.append_, run_underlying ht, sizeOf, typeInfo, hi', Builtin.lenOf, Builtin.firstCells, loadCells, loadCellsFrom]
      · injection e1 with e1 _ e3
        subst e1; subst e3
        cases B <;> simp [Builtin.append_, run_underlying ht, sizeOf, typeInfo, hi', Builtin.lenOf, Builtin.firstCells, hnc, storeCells, loadCells, loadCellsFrom]
    unfold Oper.wp execOp
    simp only [ho, resolve, invoke, builtin, Sem.run_bind, Sem.run_pure, Result.andThen_ok, List.map_toArray, List.map_cons, List.map_nil, hs, hx, hrun]
    exact h A c w (by simpa using hown) hu (Upd.refl _ _) (.inl rfl)
  · have hne : news ≠ [] := fun e => hm (by
      subst e
      have h0 : m * size = 0 := hl.symm
      rcases Nat.mul_eq_zero.1 h0 with h0 | h0
      · exact h0
      · omega)
    obtain ⟨b, of, rfl, hc⟩ : ∃ b of, B = some ⟨b, of, none⟩ ∧ ∀ j u, news[j]? = some u → w.cell? ⟨b, of + j, none⟩ = some u := by
      rcases hnews with e | h
      · exact absurd e hne
      · exact h
    have hc' : ∀ j u, news[j]? = some u → w.cell? ((⟨b, of, none⟩ : Addr).add j) = some u := fun j u hj => by
      have := hc j u hj
      unfold Addr.add
      split
      · subst j; simpa using this
      · exact this
    obtain ⟨v', w', hrun, hown', hgr, hnil, hat⟩ := run_append_own_at (P := P) w base t o.type e i z size bytes ht hi' hz h2 h3 hzs hsz (.slice A n c) n cs hown ⟨b, of, none⟩ m d news hl hc' h1 h63 hbytes hle
    have hup : Upd (A.map (·.block)).toList w w' := (Upd.grown hgr).weaken (fun k _ hk => by
      cases A with
      | none => exact absurd hk (by simp [Value.ownBlock])
      | some ad => simpa [Value.ownBlock] using hk)
    have hup2 : Upd M wa w' := hu.then hup (fun x hx hlt => by
      cases A with
      | none => simp at hx
      | some ad =>
        have : x = ad.block := by simpa using hx
        have := (hown.lt ad rfl).1
        omega)
    have hv : ∃ A' c', v' = .slice A' (n + m) c' := by
      rcases hown'.2 with ⟨e1, e2⟩ | ⟨g, cap, cur, e1, _⟩
      · exact absurd e2 (by omega)
      · exact ⟨_, _, e1⟩
    obtain ⟨A', c', rfl⟩ := hv
    unfold Oper.wp execOp
    simp only [ho, resolve, invoke, builtin, Sem.run_bind, Sem.run_pure, Result.andThen_ok, List.map_toArray, List.map_cons, List.map_nil, hs, hx, hrun]
    refine h A' c' w' hown' hup2 hup ?_
    cases A' with
    | none => exact .inr (by simp)
    | some ad =>
      rcases hat with hat | hat
      · cases A with
        | none => simp [Value.ownBlock] at hat
        | some ad2 =>
          have hb : ad.block = ad2.block := by simpa [Value.ownBlock] using hat
          have e1 := Own.form (A := some ad) (n := n + m) (c := c') hown'
          have e2 := Own.form hown
          simp at e1 e2
          obtain ⟨g1, e1⟩ := e1
          obtain ⟨g2, e2⟩ := e2
          left
          rw [e1, e2] at hb ⊢
          have : g1 = g2 := hb
          rw [this]
      · right
        intro ad3 h3
        injection h3 with h3
        subst h3
        have : ad.block = w.heap.size := by simpa [Value.ownBlock] using hat
        omega
theorem append_any {w wa : World} {M : List Nat} (hgd : o.guard = none) (s x : Operand) (t : TypeId) (ho : o.op = .call { callee := .builtin .append, args := #[s, x], argTypes := #[t, t] })
    {e size bytes : Nat} (hT : SliceT P t e size bytes) {base n c : Nat} {A : Option Addr} {cs : List Value} (hs : a.eval s = .slice A n c) (hown : Own w base e size A n c cs)
    {B : Option Addr} {m d : Nat} {news : List Value} (hx : a.eval x = .slice B m d) (hl : news.length = m * size) (hnews : Sl w B news) (h1 : ∀ u ∈ news, u.oneCell' = true)
    (h63 : n + m ≤ maxLen) (hbytes : (n + m) * bytes ≤ 140737488355328) (hu : Upd M wa w) (hbase : wa.heap.size ≤ base) (hle : base ≤ w.heap.size)
    (h : ∀ A' c' w', Own w' base e size A' (n + m) c' (cs ++ news) → Upd M wa w' → Upd (A.map (·.block)).toList w w' → (A' = A ∨ ∀ ad, A' = some ad → w.heap.size ≤ ad.block) → wpList P ops Q rest (a.put o.dst (.slice A' (n + m) c')) w') :
    wpList P ops Q (o :: rest) a w :=
  wpList_plain hgd fun K hK => wp_append s x t ho hT hs hown hx hl hnews h1 h63 hbytes hu hbase hle fun A' c' w' a1 a2 a3 a4 => hK _ _ (h A' c' w' a1 a2 a3 a4)
/-- append as one step of a region that draws its order: for go_region_law. -/
theorem step_append {w wa : World} {M : List Nat} {K : Act → World → Prop} {E : Prop} (hgd : o.guard = none) (s x : Operand) (t : TypeId) (ho : o.op = .call { callee := .builtin .append, args := #[s, x], argTypes := #[t, t] })
    {e size bytes : Nat} (hT : SliceT P t e size bytes) {base n c : Nat} {A : Option Addr} {cs : List Value} (hs : a.eval s = .slice A n c) (hown : Own w base e size A n c cs)
    {B : Option Addr} {m d : Nat} {news : List Value} (hx : a.eval x = .slice B m d) (hl : news.length = m * size) (hnews : Sl w B news) (h1 : ∀ u ∈ news, u.oneCell' = true)
    (h63 : n + m ≤ maxLen) (hbytes : (n + m) * bytes ≤ 140737488355328) (hu : Upd M wa w) (hbase : wa.heap.size ≤ base) (hle : base ≤ w.heap.size)
    (h : ∀ A' c' w', Own w' base e size A' (n + m) c' (cs ++ news) → Upd M wa w' → Upd (A.map (·.block)).toList w w' → (A' = A ∨ ∀ ad, A' = some ad → w.heap.size ≤ ad.block) → K (a.put o.dst (.slice A' (n + m) c')) w') :
    if Region.wanted o (yielded ops a.tmps) = true then Oper.wp P o a w K Q else E := by
  rw [if_pos (by simp [Region.wanted, hgd])]
  exact wp_append s x t ho hT hs hown hx hl hnews h1 h63 hbytes hu hbase hle h
/-- append of one element that has just been laid into a block of its own. -/
theorem append_one {w wa : World} {M : List Nat} (hgd : o.guard = none) (s x : Operand) (t : TypeId) (ho : o.op = .call { callee := .builtin .append, args := #[s, x], argTypes := #[t, t] })
    {e size bytes : Nat} (hT : SliceT P t e size bytes) {base n c : Nat} {A : Option Addr} {cs : List Value} (hs : a.eval s = .slice A n c) (hown : Own w base e size A n c cs)
    {news : List Value} (hx : a.eval x = .slice (some ⟨w.heap.size, 0, none⟩) 1 1) (hl : news.length = size) (h1 : ∀ u ∈ news, u.oneCell' = true)
    (h63 : n + 1 ≤ maxLen) (hbytes : (n + 1) * bytes ≤ 140737488355328) (hu : Upd M wa w) (hbase : wa.heap.size ≤ base) (hle : base ≤ w.heap.size)
    (h : ∀ A' c' w', Own w' base e size A' (n + 1) c' (cs ++ news) → Upd M wa w' → Upd (A.map (·.block)).toList w w' → (A' = A ∨ ∀ ad, A' = some ad → w.heap.size ≤ ad.block) → wpList P ops Q rest (a.put o.dst (.slice A' (n + 1) c')) w') :
    wpList P ops Q (o :: rest) a (w.alloc (.cells news.toArray e)) := by
  refine append_any hgd s x t ho hT hs (hown.grow ((Upd.refl _ _).alloc _)) hx (by simpa using hl) ?_ h1 h63 hbytes (hu.alloc _) hbase (by simp; omega) ?_
  · exact .inr ⟨w.heap.size, 0, rfl, fun j u hj => by rw [cell_of_row _ _ _ _ _ _ (heap_alloc_new w _)]; simpa using hj⟩
  · intro A' c' w' h1 h2 h3 h4
    exact h A' c' w' h1 h2 (((Upd.refl _ _).alloc _).trans h3) (h4.imp id fun h ad had => by have := h ad had; simp at this; omega)
/-- append under a guard that is met. -/
theorem append_anyG {w wa : World} {M : List Nat} (hgd : Region.wanted o (yielded ops a.tmps) = true) (s x : Operand) (t : TypeId) (ho : o.op = .call { callee := .builtin .append, args := #[s, x], argTypes := #[t, t] })
    {e size bytes : Nat} (hT : SliceT P t e size bytes) {base n c : Nat} {A : Option Addr} {cs : List Value} (hs : a.eval s = .slice A n c) (hown : Own w base e size A n c cs)
    {B : Option Addr} {m d : Nat} {news : List Value} (hx : a.eval x = .slice B m d) (hl : news.length = m * size) (hnews : Sl w B news) (h1 : ∀ u ∈ news, u.oneCell' = true)
    (h63 : n + m ≤ maxLen) (hbytes : (n + m) * bytes ≤ 140737488355328) (hu : Upd M wa w) (hbase : wa.heap.size ≤ base) (hle : base ≤ w.heap.size)
    (h : ∀ A' c' w', Own w' base e size A' (n + m) c' (cs ++ news) → Upd M wa w' → Upd (A.map (·.block)).toList w w' → (A' = A ∨ ∀ ad, A' = some ad → w.heap.size ≤ ad.block) → wpList P ops Q rest (a.put o.dst (.slice A' (n + m) c')) w') :
    wpList P ops Q (o :: rest) a w :=
  BigFrame.wpList_want hgd fun K hK => wp_append s x t ho hT hs hown hx hl hnews h1 h63 hbytes hu hbase hle fun A' c' w' a1 a2 a3 a4 => hK _ _ (h A' c' w' a1 a2 a3 a4)
theorem append_oneG {w wa : World} {M : List Nat} (hgd : Region.wanted o (yielded ops a.tmps) = true) (s x : Operand) (t : TypeId) (ho : o.op = .call { callee := .builtin .append, args := #[s, x], argTypes := #[t, t] })
    {e size bytes : Nat} (hT : SliceT P t e size bytes) {base n c : Nat} {A : Option Addr} {cs : List Value} (hs : a.eval s = .slice A n c) (hown : Own w base e size A n c cs)
    {news : List Value} (hx : a.eval x = .slice (some ⟨w.heap.size, 0, none⟩) 1 1) (hl : news.length = size) (h1 : ∀ u ∈ news, u.oneCell' = true)
    (h63 : n + 1 ≤ maxLen) (hbytes : (n + 1) * bytes ≤ 140737488355328) (hu : Upd M wa w) (hbase : wa.heap.size ≤ base) (hle : base ≤ w.heap.size)
    (h : ∀ A' c' w', Own w' base e size A' (n + 1) c' (cs ++ news) → Upd M wa w' → Upd (A.map (·.block)).toList w w' → (A' = A ∨ ∀ ad, A' = some ad → w.heap.size ≤ ad.block) → wpList P ops Q rest (a.put o.dst (.slice A' (n + 1) c')) w') :
    wpList P ops Q (o :: rest) a (w.alloc (.cells news.toArray e)) := by
  refine append_anyG hgd s x t ho hT hs (hown.grow ((Upd.refl _ _).alloc _)) hx (by simpa using hl) ?_ h1 h63 hbytes (hu.alloc _) hbase (by simp; omega) ?_
  · exact .inr ⟨w.heap.size, 0, rfl, fun j u hj => by rw [cell_of_row _ _ _ _ _ _ (heap_alloc_new w _)]; simpa using hj⟩
  · intro A' c' w' h1 h2 h3 h4
    exact h A' c' w' h1 h2 (((Upd.refl _ _).alloc _).trans h3) (h4.imp id fun h ad had => by have := h ad had; simp at this; omega)
end

/-! ### make -/
theorem make_eq {P : Program} {t e size bytes : Nat} (hT : SliceT P t e size bytes) {kl kc : IntKind} (n : Nat) (hb : bytes * n ≤ 281474976710656) (h63 : n ≤ maxLen) :
    ∃ cs : List Value, cs.length = n * size ∧ ∀ w : World, (Instr.makeSlice t (.int kl (n : Int)) (.int kc (n : Int))).run P w = .ok (.slice (some ⟨w.heap.size, 0, none⟩) n n) (w.alloc (.cells cs.toArray e)) := by
  obtain ⟨ht, hsz, z, hzs, hi⟩ := hT
  obtain ⟨i, hi', hz, h2, h3⟩ := info_parts hi
  refine ⟨(madeCells z.cells (n * size)).toList, by simp [madeCells], fun w => ?_⟩
  have hb' : (i.bytes : Int) * (n : Int) ≤ 281474976710656 := by
    have h : ((i.bytes * n : Nat) : Int) ≤ 281474976710656 := by rw [h3]; omega
    rwa [Int.natCast_mul] at h
  have hr := run_make (P := P) w t e i z ht hi' hz kl kc n n (by omega) (by omega) hb' (by unfold maxLen at h63; omega)
  simp only [Int.toNat_natCast] at hr
  rw [hr, h2]

/-! ### max and min of two ints, unparted: 'attribute [local go_sem] max_eq min_eq' -/
theorem max_eq (k k' : IntKind) (x y : Int) (ats : Array TypeId) (ty : TypeId) : Builtin.max_ ats ty #[.int k x, .int k' y] = pure (.int k (max x y)) := by
  have h : (if x < y then y else x) = max x y := by omega
  simp only [Builtin.max_, List.foldlM_cons, List.foldlM_nil, Builtin.max2, gt_iff_lt, h]
  rfl
theorem min_eq (k k' : IntKind) (x y : Int) (ats : Array TypeId) (ty : TypeId) : Builtin.min_ ats ty #[.int k x, .int k' y] = pure (.int k (min x y)) := by
  have h : (if y < x then y else x) = min x y := by omega
  simp only [Builtin.min_, List.foldlM_cons, List.foldlM_nil, Builtin.min2, h]
  rfl
/-! ### small things -/
/-- Whether two are the same. -/
def same {α : Type} [DecidableEq α] (x y : α) : Bool := decide (x = y)
theorem same_iff {α : Type} [DecidableEq α] {x y : α} : same x y = true ↔ x = y := by simp [same]
theorem same_not {α : Type} [DecidableEq α] {x y : α} : same x y = false ↔ x ≠ y := by simp [same]
theorem nsame_true {α : Type} [DecidableEq α] {x y : α} (h : (!same x y) = true) : x ≠ y := by simpa [same] using h
theorem nsame_false {α : Type} [DecidableEq α] {x y : α} (h : (!same x y) = false) : x = y := by simpa [same] using h
theorem take_same {α : Type} {xs ys : List α} {k : Nat} (h : xs.take k = ys.take k) (h1 : k < xs.length) (h2 : k < ys.length) (he : xs[k] = ys[k]) : xs.take (k + 1) = ys.take (k + 1) := by
  rw [List.take_succ_eq_append_getElem h1, List.take_succ_eq_append_getElem h2, h, he]
theorem take_all {α : Type} {xs ys : List α} {k : Nat} (h : xs.take k = ys.take k) (h1 : xs.length ≤ k) (h2 : ys.length ≤ k) : xs = ys := by
  rwa [List.take_of_length_le h1, List.take_of_length_le h2] at h
theorem not_same_at {α : Type} {xs ys : List α} {k : Nat} (h1 : k < xs.length) (h2 : k < ys.length) (he : xs[k] ≠ ys[k]) : xs ≠ ys := by
  rintro rfl; exact he rfl
theorem ret_bool {a b : Bool} (h : a = b) : Ending.returned (.bool a) = .returned (.bool b) := by rw [h]
theorem ret_int {k : IntKind} {a b : Int} (h : a = b) : Ending.returned (.int k a) = .returned (.int k b) := by rw [h]
end Go.Proofs.Ytdgidcbahbkabaa
