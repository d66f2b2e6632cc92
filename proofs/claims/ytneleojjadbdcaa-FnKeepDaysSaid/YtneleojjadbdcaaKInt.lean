/- Slices of ints: the contracts of the helpers over them. -/
import Derived.Test.YtneleojjadbdcaaB
namespace Go.Proofs.Ytneleojjadbdcaa
open Go.RowKit
set_option linter.unusedVariables false
set_option linter.unusedSimpArgs false

def ints (xs : List Int) : List Value := xs.map (.int .i64)
theorem intT : SliceT Try.prog 36 3 1 8 := ⟨Try.underlying36, by omega, .int .i64 0, rfl, by kernel_rfl⟩
theorem ints_len (xs : List Int) : (ints xs).length = xs.length := by simp [ints]
theorem ints_len1 (xs : List Int) : (ints xs).length = xs.length * 1 := by simp [ints]
theorem ints_one (xs : List Int) : ∀ u ∈ ints xs, u.oneCell' = true := fun u hu => by
  obtain ⟨x, _, rfl⟩ := List.mem_map.1 hu
  rfl
theorem ints_snoc (xs : List Int) (x : Int) : ints xs ++ [.int .i64 x] = ints (xs ++ [x]) := by simp [ints]
theorem ints_app (xs ys : List Int) : ints xs ++ ints ys = ints (xs ++ ys) := by simp [ints]
theorem ints_cons (x : Int) (xs : List Int) : ints (x :: xs) = .int .i64 x :: ints xs := rfl
theorem Sl.int {w : World} {A : Option Addr} {xs : List Int} (h : Sl w A (ints xs)) {k : Nat} (hk : k < xs.length) : ∃ b o, A = some ⟨b, o, none⟩ ∧ w.cell? ⟨b, o + k, none⟩ = some (.int .i64 xs[k]) := h.get hk
theorem Sl.int_take {w : World} {A : Option Addr} {xs : List Int} (h : Sl w A (ints xs)) (k : Nat) : Sl w A (ints (xs.take k)) := by
  unfold ints
  rw [List.map_take]
  exact h.take k
theorem Sl.int_drop {w : World} {A : Option Addr} {xs : List Int} {c : Nat} (h : Sl w A (ints xs)) (hc : xs.length ≤ c) (k : Nat) : Sl w (if c = k then A else A.map (fun x => x.add (k * 1))) (ints (xs.drop k)) := by
  have := h.from_ (size := 1) (ints_len1 xs) hc k
  rw [Nat.mul_one] at this ⊢
  unfold ints
  rw [List.map_drop]
  exact this

/-- The ints r come back, in memory of the call's own. -/
def RetInts (r : List Int) (w : World) (e : Ending) (w' : World) : Prop :=
  ∃ B d, e = .returned (.slice B r.length d) ∧ Own w' w.heap.size 3 1 B r.length d (ints r) ∧ Upd [] w w'
set_option maxHeartbeats 400000 in
theorem eqIntS_any (A B : Option Addr) (c d : Nat) (xs ys : List Int) (w : World) (hx : Sl w A (ints xs)) (hy : Sl w B (ints ys)) (hlx : xs.length ≤ maxLen) :
    Calls Try.prog 25 #[.slice A xs.length c, .slice B ys.length d] w fun e w' => e = .returned (.bool (same xs ys)) ∧ Upd [] w w' := by
  unfold maxLen at hlx
  by_cases hl : xs.length = ys.length
  · have hb : ((xs.length : Int) != (ys.length : Int)) = false := by simp [hl]
    have HL := Lib.hid hl
    clear hl
    go_enter Try.func25, Try.ntmps25
    go_wp2
    go_loopw [5] (fun i wr => ∃ k : Nat, k ≤ xs.length ∧ i = .int .i64 k ∧ xs.take k = ys.take k ∧ Upd [] w wr) (fun i _ => xs.length - (intOf i).toNat)
    case atStart => exact ⟨0, by omega, rfl, rfl, Upd.refl _ _⟩
    case round =>
      obtain ⟨k, hk, rfl, ht, hu⟩ := hrel
      have HT := Lib.hid ht
      clear ht
      by_cases hlt : k < xs.length
      · have hlt2 : k < ys.length := by have := HL.out; omega
        obtain ⟨b1, o1, rfl, c1⟩ := (hx.grow hu).int hlt
        obtain ⟨b2, o2, rfl, c2⟩ := (hy.grow hu).int hlt2
        have d1 := fun g : Later wr => g.cell c1
        have d2 := fun g : Later wr => g.cell c2
        by_cases he : xs[k] = ys[k]
        · have hb1 : (xs[k] != ys[k]) = false := by simp [he]
          have HE := Lib.hid he
          clear he
          go_wp2
          refine wp_region_calm (by kernel_rfl) (by kernel_rfl) ?_
          repeat (any_goals (first | go_big_quiet_step (fail) | quiet_step (fail)))
          refine wpQuiet_nil ?_
          rintro _ ⟨g, rfl⟩
          have hg := g.upd
          go_wp2
          go_roundw
          case rel => exact ⟨k + 1, by omega, by go_num, take_same HT.out hlt hlt2 HE.out, hu.trans hg⟩
          case measure => simp [intOf]; omega
        · have hb1 : (xs[k] != ys[k]) = true := by simp [he]
          go_wp2
          refine wp_region_calm (by kernel_rfl) (by kernel_rfl) ?_
          repeat (any_goals (first | go_big_quiet_step (fail) | quiet_step (fail)))
          refine wpQuiet_nil ?_
          rintro _ ⟨g, rfl⟩
          have hg := g.upd
          go_wp2
          go_ret
          exact ⟨ret_bool (by rw [eq_comm, same_not]; exact not_same_at hlt hlt2 he), hu.trans hg⟩
      · go_wp2
        go_ret
        exact ⟨ret_bool (by rw [eq_comm, same_iff]; exact take_all HT.out (by omega) (by have := HL.out; omega)), hu⟩
  · have hb : ((xs.length : Int) != (ys.length : Int)) = true := by simp; omega
    have HL := Lib.hid hl
    clear hl
    go_enter Try.func25, Try.ntmps25
    go_wp2
    go_ret
    exact ⟨ret_bool (by rw [eq_comm, same_not]; intro h; exact HL.out (by rw [h])), Upd.refl _ _⟩
set_option maxHeartbeats 400000 in
theorem ldInts_any (A B : Option Addr) (c d : Nat) (xs ys : List Int) (w : World) (hx : Sl w A (ints xs)) (hy : Sl w B (ints ys)) (hlx : xs.length ≤ maxLen) :
    Calls Try.prog 19 #[.slice A xs.length c, .slice B ys.length d] w fun e w' => e = .returned (.bool (same xs ys)) ∧ Upd [] w w' := by
  unfold maxLen at hlx
  by_cases hl : xs.length = ys.length
  · have hb : ((xs.length : Int) != (ys.length : Int)) = false := by simp [hl]
    have HL := Lib.hid hl
    clear hl
    go_enter Try.func19, Try.ntmps19
    go_wp2
    go_loopw [5] (fun i wr => ∃ k : Nat, k ≤ xs.length ∧ i = .int .i64 k ∧ xs.take k = ys.take k ∧ Upd [] w wr) (fun i _ => xs.length - (intOf i).toNat)
    case atStart => exact ⟨0, by omega, rfl, rfl, Upd.refl _ _⟩
    case round =>
      obtain ⟨k, hk, rfl, ht, hu⟩ := hrel
      have HT := Lib.hid ht
      clear ht
      by_cases hlt : k < xs.length
      · have hlt2 : k < ys.length := by have := HL.out; omega
        obtain ⟨b1, o1, rfl, c1⟩ := (hx.grow hu).int hlt
        obtain ⟨b2, o2, rfl, c2⟩ := (hy.grow hu).int hlt2
        have d1 := fun g : Later wr => g.cell c1
        have d2 := fun g : Later wr => g.cell c2
        by_cases he : xs[k] = ys[k]
        · have hb1 : (xs[k] != ys[k]) = false := by simp [he]
          have HE := Lib.hid he
          clear he
          go_wp2
          refine wp_region_calm (by kernel_rfl) (by kernel_rfl) ?_
          repeat (any_goals (first | go_big_quiet_step (fail) | quiet_step (fail)))
          refine wpQuiet_nil ?_
          rintro _ ⟨g, rfl⟩
          have hg := g.upd
          go_wp2
          go_roundw
          case rel => exact ⟨k + 1, by omega, by go_num, take_same HT.out hlt hlt2 HE.out, hu.trans hg⟩
          case measure => simp [intOf]; omega
        · have hb1 : (xs[k] != ys[k]) = true := by simp [he]
          go_wp2
          refine wp_region_calm (by kernel_rfl) (by kernel_rfl) ?_
          repeat (any_goals (first | go_big_quiet_step (fail) | quiet_step (fail)))
          refine wpQuiet_nil ?_
          rintro _ ⟨g, rfl⟩
          have hg := g.upd
          go_wp2
          go_ret
          exact ⟨ret_bool (by rw [eq_comm, same_not]; exact not_same_at hlt hlt2 he), hu.trans hg⟩
      · go_wp2
        go_ret
        exact ⟨ret_bool (by rw [eq_comm, same_iff]; exact take_all HT.out (by omega) (by have := HL.out; omega)), hu⟩
  · have hb : ((xs.length : Int) != (ys.length : Int)) = true := by simp; omega
    have HL := Lib.hid hl
    clear hl
    go_enter Try.func19, Try.ntmps19
    go_wp2
    go_ret
    exact ⟨ret_bool (by rw [eq_comm, same_not]; intro h; exact HL.out (by rw [h])), Upd.refl _ _⟩
def has (xs : List Int) (n : Int) : Bool := decide (n ∈ xs)
theorem has_iff {xs : List Int} {n : Int} : has xs n = true ↔ n ∈ xs := by simp [has]
theorem has_not {xs : List Int} {n : Int} : has xs n = false ↔ n ∉ xs := by simp [has]
set_option maxHeartbeats 400000 in
theorem ldIn_any (A : Option Addr) (c : Nat) (xs : List Int) (n : Int) (w : World) (hx : Sl w A (ints xs)) (hlx : xs.length ≤ maxLen) :
    Calls Try.prog 24 #[.slice A xs.length c, .int .i64 n] w fun e w' => e = .returned (.bool (has xs n)) ∧ Upd [] w w' := by
  unfold maxLen at hlx
  go_enter Try.func24, Try.ntmps24
  go_wp2
  go_loopw [5] (fun i wr => ∃ k : Nat, k ≤ xs.length ∧ i = .int .i64 k ∧ n ∉ xs.take k ∧ Upd [] w wr) (fun i _ => xs.length - (intOf i).toNat)
  case atStart => exact ⟨0, by omega, rfl, by simp, Upd.refl _ _⟩
  case round =>
    obtain ⟨k, hk, rfl, ht, hu⟩ := hrel
    have HT := Lib.hid ht
    clear ht
    by_cases hlt : k < xs.length
    · obtain ⟨b1, o1, rfl, c1⟩ := (hx.grow hu).int hlt
      by_cases he : xs[k] = n
      · have hb1 : (xs[k] == n) = true := by simp [he]
        have HE := Lib.hid he
        clear he
        go_wp2
        go_ret
        exact ⟨ret_bool (by rw [eq_comm, has_iff, ← HE.out]; exact List.getElem_mem _), hu⟩
      · have hb1 : (xs[k] == n) = false := by simp [he]
        go_wp2
        go_roundw
        case rel => exact ⟨k + 1, by omega, by go_num, fun h => by
          rw [List.take_succ_eq_append_getElem hlt, List.mem_append] at h
          rcases h with h | h
          · exact HT.out h
          · exact he (List.mem_singleton.1 h).symm, hu⟩
        case measure => simp [intOf]; omega
    · obtain rfl : k = xs.length := by omega
      clear hk hlt
      go_wp2
      go_ret
      exact ⟨ret_bool (by rw [eq_comm, has_not]; have := HT.out; rwa [List.take_length] at this), hu⟩
def mkInt (k : Int) (i : Nat) : Int := k + i
def markInt (n : Nat) (k : Int) : List Int := (List.range n).map (mkInt k)
theorem markInt_len (n : Nat) (k : Int) : (markInt n k).length = n := by simp [markInt]
theorem markInt_succ (n : Nat) (k : Int) : markInt (n + 1) k = markInt n k ++ [mkInt k n] := by simp [markInt, List.range_succ]
theorem markInt_get {n : Nat} {k : Int} {i : Nat} (hi : i < (markInt n k).length) : (markInt n k)[i] = mkInt k i := by simp [markInt]
theorem set_markInt (xs : List Int) (j : Nat) (k : Int) (hj : j < xs.length) :
    (ints (markInt j k) ++ ints (xs.drop j)).set j (.int .i64 (k + j)) = ints (markInt (j + 1) k) ++ ints (xs.drop (j + 1)) := by
  have hl : (ints (markInt j k)).length = j := by rw [ints_len, markInt_len]
  rw [List.drop_eq_getElem_cons hj, markInt_succ, ← ints_app, ints_cons, List.set_append, if_neg (by omega), hl, Nat.sub_self, List.set_cons_zero]
  simp [ints, mkInt]
set_option maxHeartbeats 400000 in
theorem markIntS_any (A : Option Addr) (c base : Nat) (xs : List Int) (k0 : Int) (w : World) (hown : Own w base 3 1 A xs.length c (ints xs)) (h0 : 0 ≤ k0) (h1 : k0 ≤ 4294967296) (hl : xs.length ≤ 1048576) :
    Calls Try.prog 27 #[.slice A xs.length c, .int .i64 k0] w fun e w' => e = .returned (.int .i64 (k0 + xs.length)) ∧ Own w' base 3 1 A xs.length c (ints (markInt xs.length k0)) ∧ Upd (A.map (·.block)).toList w w' := by
  go_enter Try.func27, Try.ntmps27
  go_wp2
  go_loopw [1, 5] (fun kv i wr => ∃ j : Nat, j ≤ xs.length ∧ i = .int .i64 j ∧ kv = .int .i64 (k0 + j) ∧ Own wr base 3 1 A xs.length c (ints (markInt j k0) ++ ints (xs.drop j)) ∧ Upd (A.map (·.block)).toList w wr) (fun _ i _ => xs.length - (intOf i).toNat)
  case atStart => exact ⟨0, by omega, rfl, by simp, by simpa [markInt, ints] using hown, Upd.refl _ _⟩
  case round =>
    obtain ⟨j, hj, rfl, rfl, how, hu⟩ := hrel
    by_cases hlt : j < xs.length
    · rcases how.form with ⟨_, hn, _⟩ | ⟨g, rfl⟩
      · omega
      · obtain ⟨u1, g1⟩ := how.cell j (by omega)
        have f1 := how.frozen j
        go_wp2
        refine ⟨⟨j + 1, by omega, by go_num, by go_num, ?_, hu.setCell (.inl (by simp)) _⟩, by simp [intOf]; omega⟩
        have hs := (how.store j (.int .i64 (k0 + j))).1
        rwa [set_markInt xs j k0 hlt] at hs
    · obtain rfl : j = xs.length := by omega
      clear hlt hj
      go_wp2
      go_ret
      refine ⟨rfl, ?_, hu⟩
      rw [List.drop_length] at how
      simpa [ints] using how
set_option maxHeartbeats 400000 in
theorem heldIntS_any (A : Option Addr) (n c : Nat) (k0 : Int) (w : World) (hx : Sl w A (ints (markInt n k0))) (h0 : 0 ≤ k0) (h1 : k0 ≤ 4294967296) (hl : n ≤ 1048576) :
    Calls Try.prog 28 #[.slice A n c, .int .i64 k0] w fun e w' => e = .returned (.int .i64 (k0 + n)) ∧ Upd [] w w' := by
  go_enter Try.func28, Try.ntmps28
  go_wp2
  go_loopw [1, 5] (fun kv i wr => ∃ j : Nat, j ≤ n ∧ i = .int .i64 j ∧ kv = .int .i64 (k0 + j) ∧ Upd [] w wr) (fun _ i _ => n - (intOf i).toNat)
  case atStart => exact ⟨0, by omega, rfl, by simp, Upd.refl _ _⟩
  case round =>
    obtain ⟨j, hj, rfl, rfl, hu⟩ := hrel
    by_cases hlt : j < n
    · obtain ⟨b1, o1, rfl, c1⟩ := (hx.grow hu).int (k := j) (by rw [markInt_len]; exact hlt)
      rw [markInt_get] at c1
      simp only [mkInt] at c1
      go_wp2
      refine ⟨⟨j + 1, by omega, by go_num, by go_num, hu⟩, by simp [intOf]; omega⟩
    · obtain rfl : j = n := by omega
      clear hlt hj
      go_wp2
      go_ret
      exact ⟨rfl, hu⟩
/-- x[k:] of ints, in the walk's spelling. -/
theorem Sl.int_from {w : World} {A : Option Addr} {xs : List Int} {c : Nat} (h : Sl w A (ints xs)) (hc : xs.length ≤ c) (k : Nat) : Sl w (if c = k then A else A.map (fun x => x.add k)) (ints (xs.drop k)) := by
  have := h.int_drop hc k
  rwa [Nat.mul_one] at this
set_option maxHeartbeats 400000 in
theorem cloneInts_any (A : Option Addr) (c : Nat) (xs : List Int) (w : World) (hx : Sl w A (ints xs)) (hlx : xs.length ≤ 1000000000) :
    Calls Try.prog 38 #[.slice A xs.length c] w fun e w' => ∃ B d, e = .returned (.slice B xs.length d) ∧ Own w' w.heap.size 3 1 B xs.length d (ints xs) ∧ Upd [] w w' := by
  cases A with
  | none =>
    have hz : xs = [] := by
      rcases hx with h | ⟨b, o, h, _⟩
      · simpa [ints] using h
      · cases h
    subst hz
    have hn := fun w n c => Lib.run_eql_slice_nil (P := Try.prog) w 36 3 none n c 0 0 Try.underlying36
    go_enter Try.func38, Try.ntmps38
    go_wp2
    go_ret
    exact ⟨none, 0, rfl, Own.nil _ _ _ _, Upd.refl _ _⟩
  | some a =>
    have hn := fun w n c => Lib.run_eql_slice_nil (P := Try.prog) w 36 3 (some a) n c 0 0 Try.underlying36
    go_enter Try.func38, Try.ntmps38
    go_wp2_with (at_builtin; refine append_any rfl _ _ _ rfl intT rfl (Own.lit _ [] 0 (Nat.le_refl _) (by simp [maxLen]) rfl) rfl (ints_len1 _) (hx.grow ((Upd.refl _ _).alloc _)) (ints_one _) (by unfold maxLen; omega) (by omega) ((Upd.refl [] w).alloc _) (Nat.le_refl _) (by simp) ?_; intro A1 c1 w1 p1 P1 q1 hA1; rw [Nat.zero_add, List.nil_append] at p1)
    go_ret
    exact ⟨A1, c1, rfl, p1, P1⟩
theorem cloneInts_of (A : Option Addr) (n c : Nat) (xs : List Int) (w : World) (hn : xs.length = n) (hx : Sl w A (ints xs)) (hlx : xs.length ≤ 1000000000) :
    Calls Try.prog 38 #[.slice A n c] w fun e w' => ∃ B d, e = .returned (.slice B xs.length d) ∧ Own w' w.heap.size 3 1 B xs.length d (ints xs) ∧ Upd [] w w' := by
  subst hn
  exact cloneInts_any A c xs w hx hlx
end Go.Proofs.Ytneleojjadbdcaa
