/- SnapNames: all names, ascending, each once. -/
import Derived.Test.YtdgidcbahbkabaaBListed
import Derived.Test.YtdgidcbahbkabaaSh
import Derived.Sort.OwnSortedInts
import Derived.Lib.RowBridge
namespace Go.Proofs.Ytdgidcbahbkabaa.Q
open Go.RowKit Go.Proofs.YtdgidcbahbkabaaW.PrintWords Go.Sort Go.Lib
set_option linter.unusedVariables false
set_option linter.unusedSimpArgs false
theorem namesT : SliceT Try.prog 26 3 1 8 := ⟨Try.underlying26, by omega, .int .i64 0, rfl, by kernel_rfl⟩
theorem one_ints (xs : List Int) : ∀ u ∈ xs.map (Value.int .i64), u.oneCell' = true := fun u hu => by
  obtain ⟨x, _, rfl⟩ := List.mem_map.1 hu
  rfl
def allNames (l : List Listed) : List Int := l.flatMap (fun x => x.f1)
def namesTo (l : List Listed) (k : Nat) : List Int := allNames (l.take k)
theorem namesTo_succ {l : List Listed} {k : Nat} (h : k < l.length) : namesTo l (k + 1) = namesTo l k ++ (atListed l k).f1 := by
  unfold namesTo allNames
  rw [List.take_succ_eq_append_getElem h, List.flatMap_append, atListed_get h]
  simp
theorem namesTo_le {l : List Listed} (k : Nat) : (namesTo l k).length ≤ (allNames l).length := by
  have : allNames l = namesTo l k ++ allNames (l.drop k) := by unfold namesTo allNames; rw [← List.flatMap_append, List.take_append_drop]
  rw [this, List.length_append]; omega
section
variable {w : World} {base e g cap : Nat} {zs ts : List Int}
theorem own_holds (h : Own w base e 1 (some ⟨g, 0, none⟩) zs.length cap (zs.map (.int .i64))) : Holds (Value.int .i64) w g 0 zs.toArray := by
  rcases h.2 with ⟨h0, _⟩ | ⟨g', cap', cur, hv, hg, hb, hn, hcap, hs, ht⟩
  · cases h0
  cases hv
  exact holds_of_blockI hb (by simpa using ht)
theorem own_put (h : Own w base e 1 (some ⟨g, 0, none⟩) zs.length cap (zs.map (.int .i64))) (hl : ts.length = zs.length) (n : Nat) (os : Array Obj) :
    Own (grow (putRow (Value.int .i64) (Sort.ahead w n) g 0 ts.toArray) os) base e 1 (some ⟨g, 0, none⟩) ts.length cap (ts.map (.int .i64)) := by
  rcases h.2 with ⟨h0, _⟩ | ⟨g', cap', cur, hv, hg, hb, hn, hcap, hs, ht⟩
  · cases h0
  cases hv
  rw [hl]
  exact ownsRow_sortedI hl hg hb hn hcap hs
theorem own_take (h : Own w base e 1 (some ⟨g, 0, none⟩) zs.length cap (zs.map (.int .i64))) {ys us : List Int} (hz : zs = ys ++ us) : Own w base e 1 (some ⟨g, 0, none⟩) ys.length cap (ys.map (.int .i64)) := by
  subst hz
  rcases h.2 with ⟨h0, _⟩ | ⟨g', cap', cur, hv, hg, hb, hn, hcap, hs, ht⟩
  · cases h0
  cases hv
  refine ⟨by simp, .inr ⟨g, cap, cur, rfl, hg, hb, by simp at hn; omega, hcap, hs, ?_⟩⟩
  have h2 := congrArg (List.take ys.length) ht
  rw [List.take_take] at h2
  simp at h2 ⊢
  exact h2
end
def impl_SnapNames.f (a0_0 : Int) (l0_1 : List Listed) : Option (List Int) := if (allNames l0_1).length ≤ 17592186044416 then some (Lib.compact ((allNames l0_1).mergeSort fun x y => decide (x ≤ y))) else none
set_option maxHeartbeats 2000000 in
theorem impl_SnapNames.calls (a0_0 : Int) (A0_1 : Option Addr) (c0_1 : Nat) (l0_1 : List S40) (r : List Int) (w : World) (hr0_1 : Kd.C k40 w A0_1 l0_1.length l0_1) (hc0_1 : l0_1.length ≤ c0_1) (h : impl_SnapNames.f a0_0 l0_1 = some r) :
    Calls Try.prog 9 #[.agg #[.int .i64 a0_0, .slice A0_1 l0_1.length c0_1]] w fun e w' => ∃ v0_ : Value, e = .returned (v0_) ∧ Kd.R (Kd.int .i64) 3 w' w.heap.size (fun _ => True) v0_ r ∧ Below w.heap.size w w' := by
  unfold impl_SnapNames.f at h
  by_cases hb : (allNames l0_1).length ≤ 17592186044416
  case neg => rw [if_neg hb] at h; cases h
  rw [if_pos hb] at h
  have HR := Lib.hid (Option.some.inj h)
  have hlx := (rowLen hr0_1).2
  have HX := Lib.hid hr0_1
  clear h hr0_1
  have hU0 := Lib.hid ((Upd.refl [] w).alloc (.cells #[.int .i64 a0_0, .slice A0_1 l0_1.length c0_1] 30))
  go_enter Try.func9, Try.ntmps9
  go_wp2
  go_loopw [3, 9] (fun o i wr => ∃ (k : Nat) (B : Option Addr) (d : Nat), k ≤ l0_1.length ∧ i = .int .i64 k ∧ o = .slice B (namesTo l0_1 k).length d ∧ Own wr w.heap.size 3 1 B (namesTo l0_1 k).length d ((namesTo l0_1 k).map (.int .i64)) ∧ Upd [] w wr) (fun _ i _ => l0_1.length - (intOf i).toNat)
  case atStart => exact ⟨0, none, 0, by omega, rfl, rfl, Own.nil _ _ _ _, hU0.out⟩
  case round =>
    obtain ⟨k, B, d, hk, rfl, rfl, hown, hu⟩ := hrel
    by_cases hlt : k < l0_1.length
    · obtain ⟨b1, o1, A1, c1, rfl, e0, e1, e2, e3⟩ := listed_at (Kd.C_below HX.out hu.below) hlt
      have HE := Lib.hid e3
      have hnx := namesTo_succ hlt
      have hn1 := namesTo_le (l := l0_1) (k + 1)
      have hn2 : (namesTo l0_1 k).length + (atListed l0_1 k).f1.length ≤ 17592186044416 := by rw [hnx, List.length_append] at hn1; omega
      have HN := Lib.hid hnx
      clear hnx hn1 e3
      go_wp2_with (at_builtin; refine append_any rfl _ _ _ rfl namesT rfl (hown.grow ((Upd.refl _ _).alloc _)) rfl (by simp) (sl_ints (Kd.C_below HE.out ((Upd.refl [] wr).alloc _).below)) (one_ints _) (by unfold maxLen; omega) (by omega) (hu.alloc _) (Nat.le_refl _) (by have := hu.size; simp; omega) ?_; intro B' d' w3 o4 U4 u4 hB')
      exact ⟨⟨k + 1, B', d', by omega, by go_num, by rw [HN.out, List.length_append], by rw [HN.out, List.length_append, List.map_append]; exact o4, U4⟩, by simp only [intOf]; omega⟩
    · obtain rfl : k = l0_1.length := by omega
      have hz : namesTo l0_1 l0_1.length = allNames l0_1 := by unfold namesTo; rw [List.take_length]
      rw [hz] at hown ⊢
      generalize allNames l0_1 = zs at hown hb HR ⊢
      clear hz hk hlt
      have hc1 := hown.cap
      by_cases h0 : zs = []
      · subst h0
        obtain rfl : [] = r := by rw [← HR.out, List.mergeSort_nil]; rfl
        go_wp2_with fail
        refine (Try.slices_Sort_int_none B d _).mono ?_
        rintro e w1 ⟨rfl, rfl⟩
        go_wp2_with fail
        refine (Try.slices_Compact_int_empty B d _).mono ?_
        rintro e w1 ⟨rfl, rfl⟩
        go_wp2
        go_ret
        exact ⟨_, rfl, R_ints hown, hu.below⟩
      · rcases hown.form with ⟨_, hn, _⟩ | ⟨g, rfl⟩
        · exact absurd (List.eq_nil_of_length_eq_zero hn) h0
        have hg := hown.lt _ rfl
        go_wp2_with fail
        refine (Try.slices_Sort_int g 0 d zs _ (own_holds hown) hg.2 (by omega)).mono ?_
        rintro e w1 ⟨rfl, n1, os1, rfl⟩
        have o2 := own_put (ts := zs.mergeSort fun x y => decide (x ≤ y)) hown (List.length_mergeSort _) n1 os1
        have u2 := hu.then (Upd.grown (grownBy_sortedI (w := wr) (g := g) (n := n1) (os := os1) (zs.mergeSort fun x y => decide (x ≤ y)).toArray)) (fun x hx hlt => by simp at hx; omega)
        have hsl : (zs.mergeSort fun x y => decide (x ≤ y)).length = zs.length := List.length_mergeSort _
        generalize (zs.mergeSort fun x y => decide (x ≤ y)) = ys at o2 u2 hsl HR ⊢
        generalize grow (putRow (Value.int .i64) (Sort.ahead wr n1) g 0 ys.toArray) os1 = w2 at o2 u2 ⊢
        have hc2 : ys.length ≤ d := by rw [hsl]; exact hc1.1
        have hc3 : ys.length ≤ 9223372036854775807 := by omega
        go_wp2_with fail
        rw [← hsl]
        refine (Try.slices_Compact_int g 0 d ys _ (own_holds o2) hc3 hc2).mono ?_
        rintro e w3 ⟨rfl, n2, rfl⟩
        have hcl : (Lib.compact ys).length ≤ ys.length := compact_length_le ys
        have hts : (Lib.compact ys ++ List.replicate (ys.length - (Lib.compact ys).length) 0).length = ys.length := by rw [List.length_append, List.length_replicate]; omega
        have HR2 := HR.out
        generalize Lib.compact ys = us at hcl hts HR2 ⊢
        subst HR2
        generalize hv : us ++ List.replicate (ys.length - us.length) 0 = ts at hts ⊢
        have o3 := own_put (ts := ts) o2 hts n2 #[]
        have o4 := own_take o3 hv.symm
        have u3 := u2.then (Upd.grown (grownBy_sortedI (w := w2) (g := g) (n := n2) (os := #[]) ts.toArray)) (fun x hx hlt => by simp at hx; omega)
        rw [grow_empty] at o4 u3
        go_wp2
        go_ret
        exact ⟨_, rfl, R_ints o4, u3.below⟩
end Go.Proofs.Ytdgidcbahbkabaa.Q
