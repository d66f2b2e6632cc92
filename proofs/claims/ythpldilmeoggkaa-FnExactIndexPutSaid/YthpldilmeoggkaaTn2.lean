/- Search trees of entries: built of rows, searched. -/
import Derived.Test.YthpldilmeoggkaaTn
namespace Go.Proofs.Ythpldilmeoggkaa.Q
open Go.RowKit Go.Proofs.YthpldilmeoggkaaW.PrintWords
set_option linter.unusedVariables false
set_option linter.unusedSimpArgs false
def Tr.of (xs : List Spot) : Tr := xs.foldl Tr.put .nil
theorem Tr.of_snoc (xs : List Spot) (x : Spot) : Tr.of (xs ++ [x]) = (Tr.of xs).put x := by simp [Tr.of]
/-- A row that was handed in: where it lies, its room, what it holds. -/
abbrev Handed := Option Addr × Nat × List Spot
def handVal (x : Handed) : Value := .slice x.1 x.2.2.length x.2.1
def allOf (ls : List Handed) : List Spot := ls.flatMap (·.2.2)
theorem allOf_succ (ls : List Handed) (k : Nat) (hk : k < ls.length) : allOf (ls.take (k + 1)) = allOf (ls.take k) ++ ls[k].2.2 := by
  unfold allOf
  rw [List.take_succ_eq_append_getElem hk, List.flatMap_append]
  simp
/-- What treeOf hands back. -/
def TreeOfT (xs : List Spot) (w : World) (e : Ending) (w' : World) : Prop := ∃ p F, e = .returned (.pointer p) ∧ IsTr w.heap.size w' (Tr.of xs) p F ∧ Upd [] w w'
set_option maxHeartbeats 2000000 in
theorem treeOf_any (L : Option Addr) (d : Nat) (ls : List Handed) (w : World) (hL : Sl w L (ls.map handVal)) (hls : ∀ x ∈ ls, Sl w x.1 (x.2.2.flatMap encSpot) ∧ x.2.2.length ≤ maxLen) (hm : ls.length ≤ 1000) :
    Calls Try.prog 36 #[.slice L ls.length d] w (TreeOfT (allOf ls) w) := by
  have HLS := Lib.hid hls
  clear hls
  go_enter Try.func36, Try.ntmps36
  go_wp2
  go_loopw [3, 10] (fun p i wr => ∃ (k : Nat) (q : Option Addr) (F : List Nat), k ≤ ls.length ∧ i = .int .i64 k ∧ p = .pointer q ∧ IsTr w.heap.size wr (Tr.of (allOf (ls.take k))) q F ∧ Upd [] w wr) (fun _ i _ => ls.length - (intOf i).toNat)
  case atStart => exact ⟨0, none, [], by omega, rfl, rfl, ⟨rfl, rfl⟩, Upd.refl _ _⟩
  case round =>
    obtain ⟨k, q, F, hk, rfl, rfl, ht, hu⟩ := hrel
    by_cases hlt : k < ls.length
    · obtain ⟨b, o, rfl, cL⟩ := (hL.grow hu).get hlt
      obtain ⟨h1, h2⟩ := HLS.out ls[k] (List.getElem_mem _)
      obtain ⟨A, c, xs⟩ : Handed := ls[k]
      have hx : ∃ x, ls[k] = x := ⟨_, rfl⟩
      obtain ⟨x, hx⟩ := hx
      have ha := allOf_succ ls k hlt
      rw [hx] at cL h1 h2 ha
      obtain ⟨A1, c1, ys⟩ := x
      simp only [handVal] at cL h1 h2 ha
      unfold maxLen at h2
      have HA := Lib.hid ha
      have HX := Lib.hid hx
      clear ha hx A c xs
      obtain ⟨wo, hwo⟩ : ∃ wo : World, wo = wr := ⟨_, rfl⟩
      rw [← hwo] at cL ht hu ⊢
      clear hwo
      go_wp2
      go_loopw [3, 16] (fun p i wr => ∃ (j : Nat) (q : Option Addr) (F : List Nat), j ≤ ys.length ∧ i = .int .i64 j ∧ p = .pointer q ∧ IsTr w.heap.size wr (Tr.of (allOf (ls.take k) ++ ys.take j)) q F ∧ Upd [] w wr) (fun _ i _ => ys.length - (intOf i).toNat)
      case atStart => exact ⟨0, q, F, by omega, rfl, rfl, by simpa using ht, hu⟩
      case round =>
        obtain ⟨j, q, F, hj, rfl, rfl, ht, hu⟩ := hrel
        by_cases hjl : j < ys.length
        · obtain ⟨b1, o1, rfl, e0, e1⟩ := spot_at (h1.grow hu) hjl
          have hsz := hu.size
          have hs : Tr.of (allOf (ls.take k) ++ ys.take (j + 1)) = (Tr.of (allOf (ls.take k) ++ ys.take j)).put (atSpot ys j) := by
            rw [List.take_succ_eq_append_getElem hjl, ← List.append_assoc, Tr.of_snoc, atSpot_get hjl]
          have HS := Lib.hid hs
          clear hs
          go_wp2_with (go_at_call 48; refine (put_any w.heap.size (atSpot ys j) _ _ _ _ (ht.grow ?_) ?_).mono ?_; (first | exact (Upd.refl _ _).alloc _ | exact ((Upd.refl _ _).alloc _).setCell (.inr (Nat.le_refl _)) _ | exact ((((Upd.refl [] _).alloc _).setCell (.inr (Nat.le_refl _)) _).setCell (.inr (Nat.le_refl _)) _)); (simp; omega); rintro e w2 ⟨q2, F2, rfl, t2, hF2, u2⟩)
          refine ⟨⟨j + 1, q2, F2, by omega, by go_num, rfl, by rw [HS.out]; exact t2, (hu.alloc _).then u2 (fun y hy hlt => by have := (ht.lt y hy).1; omega)⟩, by simp [intOf]; omega⟩
        · obtain rfl : j = ys.length := by omega
          clear hj hjl
          go_wp2
          refine ⟨⟨k + 1, q, F, by omega, by go_num, rfl, by rw [HA.out]; rwa [List.take_length] at ht, hu⟩, by simp [intOf]; omega⟩
    · obtain rfl : k = ls.length := by omega
      clear hk hlt
      rw [List.take_length] at ht
      go_wp2
      go_ret
      exact ⟨q, F, rfl, ht, hu⟩
set_option maxHeartbeats 1000000 in
theorem find_any (base : Nat) (n : Int) (t : Tr) (p : Option Addr) (F : List Nat) (w : World) (ht : IsTr base w t p F) :
    Calls Try.prog 39 #[.pointer p, .int .i64 n] w fun e w' => e = .returned (.int .i64 (t.find n)) ∧ Upd [] w w' := by
  go_enter Try.func39, Try.ntmps39
  go_wp2
  go_loopg [0] t.size (fun m x wr => ∃ (s : Tr) (q : Option Addr) (G : List Nat), x = .pointer q ∧ s.size ≤ m ∧ IsTr base wr s q G ∧ Hid (s.find n = t.find n) ∧ Upd [] w wr)
  case atStart => exact ⟨t, p, F, rfl, Nat.le_refl _, ht, rfl, Upd.refl _ _⟩
  case round =>
    obtain ⟨s, q, G, rfl, hm, hs, hf, hu⟩ := hrel
    cases s with
    | nil =>
      obtain ⟨rfl, rfl⟩ := hs
      go_wp2
      go_ret
      exact ⟨ret_int hf.out, hu⟩
    | node x l r =>
      obtain ⟨b, pl, pr, Fl, Fr, rfl, rfl, _, ho, hl, hr⟩ := hs
      obtain ⟨c0, c1, c2, c3⟩ := node_cells ho
      by_cases h1 : x.f0 = n
      · have hb1 : (x.f0 != n) = false := by simp [h1]
        have hfe : t.find n = x.f1 := by rw [← hf.out]; simp [Tr.find, h1]
        have HF := Lib.hid hfe
        clear hf hfe h1
        go_wp2
        go_ret
        exact ⟨ret_int HF.out.symm, hu⟩
      · have hb1 : (x.f0 != n) = true := by simpa using h1
        have hsz : (Tr.node x l r).size = l.size + r.size + 1 := rfl
        have HZ := Lib.hid hsz
        clear hsz
        by_cases h2 : n < x.f0
        · have hb2 : decide (n < x.f0) = true := decide_eq_true h2
          have hfe : l.find n = t.find n := by rw [← hf.out]; simp [Tr.find, h1, h2]
          have HF := Lib.hid hfe
          clear hf hfe h1 h2
          go_wp2
          go_roundg l.size
          case measure => have := HZ.out; omega
          case rel => exact ⟨l, pl, Fl, rfl, Nat.le_refl _, hl, HF, hu⟩
        · have hb2 : decide (n < x.f0) = false := decide_eq_false h2
          have hfe : r.find n = t.find n := by rw [← hf.out]; simp [Tr.find, h1, h2]
          have HF := Lib.hid hfe
          clear hf hfe h1 h2
          go_wp2
          go_roundg r.size
          case measure => have := HZ.out; omega
          case rel => exact ⟨r, pr, Fr, rfl, Nat.le_refl _, hr, HF, hu⟩
end Go.Proofs.Ythpldilmeoggkaa.Q
