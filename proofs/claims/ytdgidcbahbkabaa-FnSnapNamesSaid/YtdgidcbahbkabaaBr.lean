/- From the printed kinds' words to those of our own walks, and back: rows of elements whose cells hold all of them. -/
import Derived.Test.YtdgidcbahbkabaaB
import Derived.Test.YtdgidcbahbkabaaQx0
namespace Go.Proofs.Ytdgidcbahbkabaa.Q
open Go.RowKit Go.Proofs.YtdgidcbahbkabaaW.PrintWords
set_option linter.unusedVariables false

theorem add_flat {w : World} {ad : Addr} {v : Value} (h : w.cell? ad = some v) : ∃ b o, ad = ⟨b, o, none⟩ := by
  obtain ⟨b, o, s⟩ := ad
  cases s with
  | none => exact ⟨b, o, rfl⟩
  | some q =>
    unfold World.cell? at h
    simp at h
    split at h <;> simp at h
theorem add_none (b o j : Nat) : (⟨b, o, none⟩ : Addr).add j = ⟨b, o + j, none⟩ := by unfold Addr.add; split <;> simp_all
section
variable {α : Type} {d : Kd α} {enc : α → List Value} {w : World} {A : Option Addr} {n : Nat} {xs : List α}
theorem rowLen (h : Kd.C d w A n xs) : xs.length = n ∧ n ≤ 9223372036854775807 := ⟨h.1, h.2.1⟩
/-- What is read as a row of a kind, as cells. -/
theorem sl_of_C (hK : ∀ x cs, d.K w x cs → cs = enc x) (hl : ∀ x, (enc x).length = d.sz) (h : Kd.C d w A n xs) : Sl w A (xs.flatMap enc) := by
  cases xs with
  | nil => exact .inl rfl
  | cons x xs =>
    obtain ⟨ad, rfl, hc⟩ := h.2.2 (by have := h.1; simp at this; omega)
    by_cases hz : d.sz = 0
    · left
      have : ∀ y, enc y = [] := fun y => List.eq_nil_of_length_eq_zero ((hl y).trans hz)
      simp [this]
    · have hsz : 0 < d.sz := Nat.pos_of_ne_zero hz
      obtain ⟨c0, hs0, hk0, hc0⟩ := hc 0 x rfl
      obtain ⟨b, o, hbo⟩ := add_flat (hc0 0 _ (List.getElem?_eq_getElem (by omega)))
      have had : ∃ b o, ad = ⟨b, o, none⟩ := by
        have : (ad.add (0 * d.sz + 0)) = ad := by simp [Addr.add]
        exact ⟨b, o, this ▸ hbo⟩
      obtain ⟨b, o, rfl⟩ := had
      refine .inr ⟨b, o, rfl, fun j u hj => ?_⟩
      have hlt : j < (x :: xs).length * d.sz := by
        rw [← flat_len enc d.sz hl]; exact (List.getElem?_eq_some_iff.1 hj).1
      have hi : j / d.sz < (x :: xs).length := (Nat.div_lt_iff_lt_mul hsz).2 hlt
      have hjj : j / d.sz * d.sz + j % d.sz = j := by rw [Nat.mul_comm]; exact Nat.div_add_mod j d.sz
      have hg := flat_get enc d.sz hl (x :: xs) (j / d.sz) (j % d.sz) (Nat.mod_lt _ hsz)
      rw [hjj, hj, List.getElem?_eq_getElem hi, Option.bind_some] at hg
      obtain ⟨c, hs, hk, hcc⟩ := hc (j / d.sz) _ (List.getElem?_eq_getElem hi)
      have he := hK _ _ hk
      have := hcc (j % d.sz) u (by rw [he]; exact hg.symm)
      rw [add_none] at this
      rwa [hjj] at this
/-- What a call owns, as a made row of a kind. -/
theorem rowOwn {base e size c : Nat} (hM : ∀ w base ok x, d.M w base ok x (enc x)) (hl : ∀ x, (enc x).length = d.sz) (hs : d.sz = size) (h : Own w base e size A xs.length c (xs.flatMap enc)) :
    Kd.R d e w base (fun _ => True) (.slice A xs.length c) xs := by
  subst hs
  refine ⟨fun _ _ => trivial, xs.flatMap enc, h, flat_len enc d.sz hl xs, fun j p hj => ?_⟩
  have hjl := (List.getElem?_eq_some_iff.1 hj).1
  have hp : p = xs[j] := (List.getElem?_eq_some_iff.1 hj).2.symm
  have he : ((xs.flatMap enc).drop (j * d.sz)).take d.sz = enc p := by
    rw [← flat_drop enc d.sz hl, List.drop_eq_getElem_cons hjl, List.flatMap_cons, ← hp]
    exact List.take_left' (hl p)
  rw [he]
  exact hM _ _ _ _
end
theorem flat_ones {α : Type} (f : α → Value) : ∀ xs : List α, xs.flatMap (fun x => [f x]) = xs.map f
  | [] => rfl
  | x :: xs => by simp [flat_ones f xs]
/-- Rows of one-cell elements. -/
theorem sl_of_C1 {α : Type} {d : Kd α} {enc : α → Value} {w : World} {A : Option Addr} {n : Nat} {xs : List α} (hK : ∀ x cs, d.K w x cs → cs = [enc x]) (hs : d.sz = 1) (h : Kd.C d w A n xs) : Sl w A (xs.map enc) := by
  have := sl_of_C (enc := fun x => [enc x]) hK (fun _ => hs.symm) h
  rwa [flat_ones] at this
theorem rowOwn1 {α : Type} {d : Kd α} {enc : α → Value} {w : World} {A : Option Addr} {xs : List α} {base e c : Nat} (hM : ∀ w base ok x, d.M w base ok x [enc x]) (hs : d.sz = 1) (h : Own w base e 1 A xs.length c (xs.map enc)) :
    Kd.R d e w base (fun _ => True) (.slice A xs.length c) xs :=
  rowOwn (enc := fun x => [enc x]) hM (fun _ => hs.symm) hs (by rwa [flat_ones])
theorem sl_ints {k : IntKind} {w : World} {A : Option Addr} {n : Nat} {xs : List Int} (h : Kd.C (Kd.int k) w A n xs) : Sl w A (xs.map (.int k)) := sl_of_C1 (fun _ _ h => h) rfl h
theorem sl_strs {w : World} {A : Option Addr} {n : Nat} {xs : List ByteArray} (h : Kd.C Kd.string w A n xs) : Sl w A (xs.map .string) := sl_of_C1 (fun _ _ h => h) rfl h
theorem R_ints {k : IntKind} {w : World} {A : Option Addr} {xs : List Int} {base e c : Nat} (h : Own w base e 1 A xs.length c (xs.map (.int k))) : Kd.R (Kd.int k) e w base (fun _ => True) (.slice A xs.length c) xs := rowOwn1 (fun _ _ _ _ => rfl) rfl h
theorem R_strs {w : World} {A : Option Addr} {xs : List ByteArray} {base e c : Nat} (h : Own w base e 1 A xs.length c (xs.map .string)) : Kd.R Kd.string e w base (fun _ => True) (.slice A xs.length c) xs := rowOwn1 (fun _ _ _ _ => rfl) rfl h
/-- Element j of a row that is read. -/
theorem rowAt {α : Type} {d : Kd α} {w : World} {A : Option Addr} {n : Nat} {xs : List α} (h : Kd.C d w A n xs) (hs : 0 < d.sz) {j : Nat} (hj : j < xs.length) :
    ∃ b o c, A = some ⟨b, o, none⟩ ∧ d.K w xs[j] c ∧ ∀ i u, c[i]? = some u → w.cell? ⟨b, o + j * d.sz + i, none⟩ = some u := by
  obtain ⟨ad, rfl, hc⟩ := h.2.2 (by have := h.1; omega)
  obtain ⟨c0, hs0, hk0, hc0⟩ := hc 0 _ (List.getElem?_eq_getElem (show 0 < xs.length by omega))
  obtain ⟨b, o, hbo⟩ := add_flat (hc0 0 _ (List.getElem?_eq_getElem (by omega)))
  have : (ad.add (0 * d.sz + 0)) = ad := by simp [Addr.add]
  rw [this] at hbo
  subst hbo
  obtain ⟨c, hsz, hk, hcc⟩ := hc j _ (List.getElem?_eq_getElem hj)
  refine ⟨b, o, c, rfl, hk, fun i u hi => ?_⟩
  have := hcc i u hi
  rw [add_none] at this
  rw [Nat.add_assoc]
  exact this
end Go.Proofs.Ytdgidcbahbkabaa.Q
