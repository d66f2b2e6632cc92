/- The program's index: IndexPut, IndexFind, IndexMerge, by the trees that they build. -/
import Derived.Test.YthpldilmeoggkaaTn2
import Derived.Test.YthpldilmeoggkaaPuIdx
namespace Go.Proofs.Ythpldilmeoggkaa.Q
open Go.RowKit Go.Proofs.YthpldilmeoggkaaW.PrintWords
set_option linter.unusedVariables false
set_option linter.unusedSimpArgs false

theorem indexOk_any (A : Option Addr) (c : Nat) (l : List Spot) (w : World) (hr : Kd.C k25 w A l.length l) (hc : l.length ≤ c) :
    Calls Try.prog 17 #[.slice A l.length c] w fun e w' => e = .returned (.bool (idxOk l)) ∧ Upd [] w w' := by
  obtain ⟨k, hk⟩ := (implIndexOk_ev l (rowLen hr).2).rounds
  exact (impl_IndexOk.calls k A c l _ w hr hc hk).mono fun e w' ⟨h1, h2⟩ => ⟨h1, Upd.of_below h2 []⟩
theorem spotOk_any (a b : Int) (w : World) :
    Calls Try.prog 35 #[.agg #[.int .i64 a, .int .i64 b]] w fun e w' => e = .returned (.bool (spotB a b)) ∧ Upd [] w w' :=
  (impl_spotOk.calls a b _ w (implSpotOk_eq a b)).mono fun e w' ⟨h1, h2⟩ => ⟨h1, Upd.of_below h2 []⟩
theorem Tr.put_size (s : Spot) : ∀ t : Tr, (t.put s).size ≤ t.size + 1
  | .nil => Nat.le_refl _
  | .node x l r => by
    have h1 := Tr.put_size s l
    have h2 := Tr.put_size s r
    simp only [Tr.put]
    split
    · simp only [Tr.size]; omega
    · split <;> simp only [Tr.size] <;> omega
theorem Tr.of_size (xs : List Spot) : (Tr.of xs).size ≤ xs.length := by
  have key : ∀ (xs : List Spot) (t : Tr), (xs.foldl Tr.put t).size ≤ t.size + xs.length := by
    intro xs
    induction xs with
    | nil => exact fun t => Nat.le_refl _
    | cons x xs ih =>
      intro t
      have h1 := ih (t.put x)
      have h2 := Tr.put_size x t
      simp only [List.foldl_cons, List.length_cons]
      omega
  have := key xs .nil
  simpa [Tr.of, Tr.size] using this
/-- The tree of rows, laid out. -/
theorem listOf_any (base : Nat) (w0 : World) (hb0 : w0.heap.size ≤ base) (xs ys : List Spot) (p : Option Addr) (F : List Nat) (w : World) (ht : IsTr base w (Tr.of xs) p F) (hu : Upd [] w0 w) (hb : base ≤ w.heap.size) (hys : ys = (Tr.of xs).list) (hl : xs.length ≤ 1000000000) :
    Calls Try.prog 37 #[.pointer p, .slice none 0 0] w fun e w' => ∃ v, e = .returned v ∧ (∃ B d, v = .slice B ys.length d ∧ Own w' base 25 2 B ys.length d (ys.flatMap encSpot)) ∧ Upd [] w w' :=
  (list_any base w0 hb0 _ p F none 0 [] ys w ht (Own.nil _ _ _ _) (by simp) hu hb (by simpa using hys) (by have := Tr.of_size xs; simp; omega)).mono fun e w' ⟨B, d, h1, h2, h3, _⟩ => ⟨_, h1, ⟨B, d, rfl, h2⟩, by simpa using h3⟩

def impl_IndexPut.f (l0 : List Spot) (a1_0 a1_1 : Int) : Option (List Spot × Bool) :=
  if l0.length ≤ 100000000 then some (if idxOk l0 = true ∧ spotB a1_0 a1_1 = true then ((Tr.of (l0 ++ [⟨a1_0, a1_1⟩])).list, true) else ([], false)) else none
def SpotsOut (r1 : List Spot) (r2 : Bool) (w : World) (e : Ending) (w' : World) : Prop :=
  ∃ v0_ : Value, e = .returned (.tuple #[v0_, .bool r2]) ∧ Kd.R k25 25 w' w.heap.size (fun _ => True) v0_ r1 ∧ Below w.heap.size w w'
set_option maxHeartbeats 2000000 in
theorem indexPut_any (A0 : Option Addr) (c0 : Nat) (l0 : List Spot) (a b : Int) (r1 : List Spot) (r2 : Bool) (w : World) (hr0 : Kd.C k25 w A0 l0.length l0) (hc0 : l0.length ≤ c0) (h : impl_IndexPut.f l0 a b = some (r1, r2)) :
    Calls Try.prog 10 #[.slice A0 l0.length c0, .agg #[.int .i64 a, .int .i64 b]] w (SpotsOut r1 r2 w) := by
  unfold impl_IndexPut.f at h
  split at h
  case isFalse => cases h
  rename_i hl
  injection h with h
  have hsl := spot_C hr0
  have HL := Lib.hid hl
  have HH := Lib.hid h
  have HR := Lib.hid hr0
  clear h hl hr0
  go_enter Try.func10, Try.ntmps10
  go_wp2_with fail
  refine (indexOk_any A0 c0 l0 _ (Kd.C_below HR.out ((Upd.refl [] w).alloc _).below) hc0).mono ?_
  rintro e w1 ⟨rfl, u1⟩
  have U1 := ((Upd.refl [] w).alloc (.cells #[.int .i64 a, .int .i64 b] 25)).trans u1
  have k0 := u1.cell (p := ⟨w.heap.size, 0, none⟩) (v := .int .i64 a) (by rw [cell_of_row _ _ _ _ _ _ (heap_alloc_new w _)]; rfl) (by simp)
  have k1 := u1.cell (p := ⟨w.heap.size, 1, none⟩) (v := .int .i64 b) (by rw [cell_of_row _ _ _ _ _ _ (heap_alloc_new w _)]; rfl) (by simp)
  cases hi : idxOk l0
  · have he : ([], false) = (r1, r2) := by rw [← HH.out, hi]; simp
    obtain ⟨rfl, rfl⟩ := Prod.mk.inj he
    clear he
    go_wp2
    go_ret2
    exact ⟨_, rfl, Kd.R_nil _ _ _ _ _, U1.below⟩
  · go_wp2_with fail
    refine (spotOk_any a b _).mono ?_
    rintro e w2 ⟨rfl, u2⟩
    have U2 := U1.trans u2
    have k2 := u2.cell k0 (by simp)
    have k3 := u2.cell k1 (by simp)
    cases hs : spotB a b
    · have he : ([], false) = (r1, r2) := by rw [← HH.out, hs]; simp
      obtain ⟨rfl, rfl⟩ := Prod.mk.inj he
      clear he
      go_wp2
      go_ret2
      exact ⟨_, rfl, Kd.R_nil _ _ _ _ _, U2.below⟩
    · have he : ((Tr.of (l0 ++ [⟨a, b⟩])).list, true) = (r1, r2) := by rw [← HH.out, hs, hi]; simp
      obtain ⟨hys, rfl⟩ := Prod.mk.inj he
      have HY := Lib.hid hys.symm
      clear he hys HH
      go_wp2_with fail
      refine (treeOf_any (some ⟨w2.heap.size + 1, 0, none⟩) 2 [(A0, c0, l0), (some ⟨w2.heap.size, 0, none⟩, 1, [⟨a, b⟩])] _ ?_ ?_ (by simp)).mono ?_
      · refine .inr ⟨w2.heap.size + 1, 0, rfl, fun j u hj => ?_⟩
        have := cell_of_row (w := (w2.alloc (.cells #[.int .i64 a, .int .i64 b] 25)).alloc (.cells #[.slice A0 l0.length c0, .slice (some ⟨w2.heap.size, 0, none⟩) 1 1] 23)) (w2.heap.size + 1) j _ _ _ (by have := heap_alloc_new (w2.alloc (.cells #[.int .i64 a, .int .i64 b] 25)) (.cells #[.slice A0 l0.length c0, .slice (some ⟨w2.heap.size, 0, none⟩) 1 1] 23); simpa using this)
        rw [Nat.zero_add, this]
        simpa [handVal] using hj
      · intro x hx
        rcases List.mem_cons.1 hx with rfl | hx
        · exact ⟨hsl.grow (U2.trans (((Upd.refl [] w2).alloc _).alloc _)), by have := HL.out; simp only [maxLen]; omega⟩
        · obtain rfl := List.mem_singleton.1 hx
          refine ⟨.inr ⟨w2.heap.size, 0, rfl, fun j u hj => ((Upd.refl [] _).alloc _).cell ?_ (by simp)⟩, by simp [maxLen]⟩
          rw [cell_of_row _ _ _ _ _ _ (heap_alloc_new w2 _)]
          simpa [encSpot] using hj
      rintro e w3 ⟨p, F, rfl, ht, u3⟩
      have U3 := (U2.trans (((Upd.refl [] w2).alloc _).alloc _)).trans u3
      have hbs := u3.size
      go_wp2_with fail
      refine (listOf_any _ w (by have := U2.size; simp; omega) (allOf [(A0, c0, l0), (some ⟨w2.heap.size, 0, none⟩, 1, [⟨a, b⟩])]) r1 p F w3 ht U3 hbs (by rw [HY.out]; simp [allOf]) (by have := HL.out; simp [allOf]; omega)).mono ?_
      rintro e w4 ⟨v, rfl, ⟨B, d, rfl, o4⟩, u4⟩
      go_wp2
      go_ret2
      have R4 := spot_R o4
      exact ⟨_, rfl, Kd.R_lower R4 (by have := U2.size; simp; omega), (U3.trans u4).below⟩
theorem impl_IndexPut.calls (A0 : Option Addr) (c0 : Nat) (l0 : List S25) (a1_0 : Int) (a1_1 : Int) (r1 : List S25) (r2 : Bool) (w : World) (hr0 : Kd.C k25 w A0 l0.length l0) (hc0 : l0.length ≤ c0) (h : impl_IndexPut.f l0 a1_0 a1_1 = some (r1, r2)) :
    Calls Try.prog 10 #[.slice A0 l0.length c0, .agg #[.int .i64 a1_0, .int .i64 a1_1]] w fun e w' => ∃ v0_ : Value, e = .returned (.tuple #[v0_, .bool r2]) ∧ Kd.R k25 25 w' w.heap.size (fun _ => True) v0_ r1 ∧ Below w.heap.size w w' :=
  indexPut_any A0 c0 l0 a1_0 a1_1 r1 r2 w hr0 hc0 h
def impl_IndexFind.f (l0 : List Spot) (a1 : Int) : Option Int := if l0.length ≤ 100000000 then some (if idxOk l0 = true then (Tr.of l0).find a1 else 0) else none
set_option maxHeartbeats 2000000 in
theorem impl_IndexFind.calls (A0 : Option Addr) (c0 : Nat) (l0 : List S25) (a1 : Int) (r : Int) (w : World) (hr0 : Kd.C k25 w A0 l0.length l0) (hc0 : l0.length ≤ c0) (h : impl_IndexFind.f l0 a1 = some r) :
    Calls Try.prog 24 #[.slice A0 l0.length c0, .int .i64 a1] w fun e w' => e = .returned (.int .i64 r) ∧ Below w.heap.size w w' := by
  unfold impl_IndexFind.f at h
  split at h
  case isFalse => cases h
  rename_i hl
  injection h with h
  have hsl := spot_C hr0
  have HL := Lib.hid hl
  have HH := Lib.hid h
  have HR := Lib.hid hr0
  clear h hl hr0
  go_enter Try.func24, Try.ntmps24
  go_wp2_with fail
  refine (indexOk_any A0 c0 l0 _ HR.out hc0).mono ?_
  rintro e w1 ⟨rfl, u1⟩
  cases hi : idxOk l0
  · have he : 0 = r := by rw [← HH.out, hi]; simp
    subst he
    go_wp2
    go_ret
    exact ⟨rfl, u1.below⟩
  · have he : (Tr.of l0).find a1 = r := by rw [← HH.out, hi]; simp
    have HE := Lib.hid he
    clear he HH
    go_wp2_with fail
    refine (treeOf_any (some ⟨w1.heap.size, 0, none⟩) 1 [(A0, c0, l0)] _ ?_ ?_ (by simp)).mono ?_
    · refine .inr ⟨w1.heap.size, 0, rfl, fun j u hj => ?_⟩
      rw [cell_of_row _ _ _ _ _ _ (heap_alloc_new w1 _)]
      simpa [handVal] using hj
    · intro x hx
      obtain rfl := List.mem_singleton.1 hx
      exact ⟨hsl.grow (u1.trans ((Upd.refl [] w1).alloc _)), by have := HL.out; simp only [maxLen]; omega⟩
    rintro e w2 ⟨p, F, rfl, ht, u2⟩
    go_wp2_with fail
    refine (find_any _ a1 _ p F _ ht).mono ?_
    rintro e w3 ⟨rfl, u3⟩
    go_wp2
    go_ret
    exact ⟨ret_int (by rw [← HE.out]; simp [allOf]), (((u1.trans ((Upd.refl [] w1).alloc _)).trans u2).trans u3).below⟩
def impl_IndexMerge.f (l0 l1 : List Spot) : Option (List Spot) :=
  if l0.length ≤ 100000000 ∧ l1.length ≤ 100000000 then some (if idxOk l0 = true ∧ idxOk l1 = true then (Tr.of (l1 ++ l0)).list else []) else none
def SpotsOut1 (r : List Spot) (w : World) (e : Ending) (w' : World) : Prop :=
  ∃ v0_ : Value, e = .returned v0_ ∧ Kd.R k25 25 w' w.heap.size (fun _ => True) v0_ r ∧ Below w.heap.size w w'
set_option maxHeartbeats 2000000 in
theorem indexMerge_any (A0 : Option Addr) (c0 : Nat) (l0 : List Spot) (A1 : Option Addr) (c1 : Nat) (l1 : List Spot) (r : List Spot) (w : World) (hr0 : Kd.C k25 w A0 l0.length l0) (hc0 : l0.length ≤ c0) (hr1 : Kd.C k25 w A1 l1.length l1) (hc1 : l1.length ≤ c1) (h : impl_IndexMerge.f l0 l1 = some r) :
    Calls Try.prog 13 #[.slice A0 l0.length c0, .slice A1 l1.length c1] w (SpotsOut1 r w) := by
  unfold impl_IndexMerge.f at h
  split at h
  case isFalse => cases h
  rename_i hl
  injection h with h
  have hsl := spot_C hr0
  have hsm := spot_C hr1
  have HL := Lib.hid hl
  have HH := Lib.hid h
  have HR := Lib.hid hr0
  have HS := Lib.hid hr1
  clear h hl hr0 hr1
  go_enter Try.func13, Try.ntmps13
  go_wp2_with fail
  refine (indexOk_any A0 c0 l0 _ HR.out hc0).mono ?_
  rintro e w1 ⟨rfl, u1⟩
  cases hi : idxOk l0
  · have he : [] = r := by rw [← HH.out, hi]; simp
    subst he
    go_wp2
    go_ret
    exact ⟨_, rfl, Kd.R_nil _ _ _ _ _, u1.below⟩
  · go_wp2_with fail
    refine (indexOk_any A1 c1 l1 _ (Kd.C_below HS.out u1.below) hc1).mono ?_
    rintro e w2 ⟨rfl, u2⟩
    have U2 := u1.trans u2
    cases hj : idxOk l1
    · have he : [] = r := by rw [← HH.out, hj]; simp
      subst he
      go_wp2
      go_ret
      exact ⟨_, rfl, Kd.R_nil _ _ _ _ _, U2.below⟩
    · have he : (Tr.of (l1 ++ l0)).list = r := by rw [← HH.out, hi, hj]; simp
      have HE := Lib.hid he
      clear he HH
      go_wp2_with fail
      refine (treeOf_any (some ⟨w2.heap.size, 0, none⟩) 2 [(A1, c1, l1), (A0, c0, l0)] _ ?_ ?_ (by simp)).mono ?_
      · refine .inr ⟨w2.heap.size, 0, rfl, fun j u hj => ?_⟩
        rw [cell_of_row _ _ _ _ _ _ (heap_alloc_new w2 _)]
        simpa [handVal] using hj
      · intro x hx
        rcases List.mem_cons.1 hx with rfl | hx
        · exact ⟨hsm.grow (U2.trans ((Upd.refl [] w2).alloc _)), by have := HL.out; simp only [maxLen]; omega⟩
        · obtain rfl := List.mem_singleton.1 hx
          exact ⟨hsl.grow (U2.trans ((Upd.refl [] w2).alloc _)), by have := HL.out; simp only [maxLen]; omega⟩
      rintro e w3 ⟨p, F, rfl, ht, u3⟩
      have U3 := (U2.trans ((Upd.refl [] w2).alloc _)).trans u3
      have hbs := u3.size
      go_wp2_with fail
      refine (listOf_any _ w (by have := U2.size; simp; omega) (allOf [(A1, c1, l1), (A0, c0, l0)]) r p F w3 ht U3 hbs (by rw [← HE.out]; simp [allOf]) (by have := HL.out; simp [allOf]; omega)).mono ?_
      rintro e w4 ⟨v, rfl, ⟨B, d, rfl, o4⟩, u4⟩
      go_wp2
      go_ret
      have R4 := spot_R o4
      exact ⟨_, rfl, Kd.R_lower R4 (by have := U2.size; simp; omega), (U3.trans u4).below⟩
theorem impl_IndexMerge.calls (A0 : Option Addr) (c0 : Nat) (l0 : List S25) (A1 : Option Addr) (c1 : Nat) (l1 : List S25) (r : List S25) (w : World) (hr0 : Kd.C k25 w A0 l0.length l0) (hc0 : l0.length ≤ c0) (hr1 : Kd.C k25 w A1 l1.length l1) (hc1 : l1.length ≤ c1) (h : impl_IndexMerge.f l0 l1 = some r) :
    Calls Try.prog 13 #[.slice A0 l0.length c0, .slice A1 l1.length c1] w fun e w' => ∃ v0_ : Value, e = .returned v0_ ∧ Kd.R k25 25 w' w.heap.size (fun _ => True) v0_ r ∧ Below w.heap.size w w' :=
  indexMerge_any A0 c0 l0 A1 c1 l1 r w hr0 hc0 hr1 hc1 h
end Go.Proofs.Ythpldilmeoggkaa.Q
