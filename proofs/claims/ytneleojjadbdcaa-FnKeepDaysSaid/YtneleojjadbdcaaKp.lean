/- Retention: what the program's and the reference's KeepLast and KeepDays come to. -/
import Derived.Test.YtneleojjadbdcaaStP
import Derived.Test.YtneleojjadbdcaaKInt
namespace Go.Proofs.Ytneleojjadbdcaa
open Go.RowKit
set_option linter.unusedVariables false
set_option linter.unusedSimpArgs false

/-- The last so many of a list. -/
def lastN (l : List Int) (many : Int) : List Int := l.drop (l.length - (min (max many 0) l.length).toNat)
/-- Snapshot i is the last of its span. -/
def perAt (xs : List Stamp) (span : Int) (i : Nat) : Bool := decide (span = 0) || decide (i + 1 = xs.length) || decide ((atStamp xs (i + 1)).day / span ≠ (atStamp xs i).day / span)
def perTo (xs : List Stamp) (span : Int) (k : Nat) : List Int := ((List.range k).filter (perAt xs span)).map fun i => (atStamp xs i).snap
def per (xs : List Stamp) (span : Int) : List Int := perTo xs span xs.length
theorem perTo_succ (xs : List Stamp) (span : Int) (k : Nat) : perTo xs span (k + 1) = if perAt xs span k = true then perTo xs span k ++ [(atStamp xs k).snap] else perTo xs span k := by
  unfold perTo
  rw [List.range_succ, List.filter_append, List.map_append]
  by_cases h : perAt xs span k = true <;> simp [h]
theorem perTo_len (xs : List Stamp) (span : Int) (k : Nat) : (perTo xs span k).length ≤ k := by
  unfold perTo
  rw [List.length_map]
  exact Nat.le_trans (List.length_filter_le _ _) (by simp)

set_option maxHeartbeats 400000 in
theorem lastOf_any (A : Option Addr) (c : Nat) (xs : List Int) (many : Int) (w : World) (hx : Sl w A (ints xs)) (hc : xs.length ≤ c) (hl : xs.length ≤ 1000) :
    Calls Try.prog 35 #[.slice A xs.length c, .int .i64 many] w fun e w' => ∃ B d, e = .returned (.slice B (lastN xs many).length d) ∧ Own w' w.heap.size 3 1 B (lastN xs many).length d (ints (lastN xs many)) ∧ Upd [] w w' := by
  obtain ⟨k, hk, hkl⟩ : ∃ k : Nat, k = xs.length - (min (max many 0) xs.length).toNat ∧ k ≤ xs.length := ⟨_, rfl, by omega⟩
  have hlast : lastN xs many = xs.drop k := by unfold lastN; rw [hk]
  obtain ⟨D, hD⟩ : ∃ D, (if c = k then A else A.map (fun x => x.add k)) = D := ⟨_, rfl⟩
  have hsl : Sl w D (ints (lastN xs many)) := by rw [hlast, ← hD]; exact hx.int_from hc k
  have hlen : (lastN xs many).length = xs.length - k := by rw [hlast, List.length_drop]
  have hlen2 : (lastN xs many).length ≤ 1000000000 := by omega
  have HS := Lib.hid hsl
  have HL := Lib.hid hlen
  have HL2 := Lib.hid hlen2
  clear hsl hlen hlen2 hlast
  rcases (by omega : many < 0 ∨ many = 0 ∨ (0 < many ∧ many < xs.length) ∨ (0 < many ∧ many = xs.length) ∨ (0 < many ∧ xs.length < many)) with h | h | h | h | h
  · obtain rfl : k = xs.length := by omega
    clear hk hkl
    go_enter Try.func35, Try.ntmps35
    go_wp2_with fail
    refine (cloneInts_of _ _ _ (lastN xs many) _ (by rw [HL.out]; simp) HS.out HL2.out).mono ?_
    rintro e w1 ⟨B, d, rfl, o1, u1⟩
    go_wp2
    go_ret
    exact ⟨B, d, rfl, o1, u1⟩
  · subst h
    obtain rfl : k = xs.length := by omega
    clear hk hkl
    go_enter Try.func35, Try.ntmps35
    go_wp2_with fail
    refine (cloneInts_of _ _ _ (lastN xs 0) _ (by rw [HL.out]; simp) HS.out HL2.out).mono ?_
    rintro e w1 ⟨B, d, rfl, o1, u1⟩
    go_wp2
    go_ret
    exact ⟨B, d, rfl, o1, u1⟩
  · obtain ⟨h1, h2⟩ := h
    obtain ⟨m, rfl⟩ := Int.eq_ofNat_of_zero_le (show 0 ≤ many by omega)
    obtain rfl : k = xs.length - m := by omega
    clear hk hkl
    go_enter Try.func35, Try.ntmps35
    go_wp2_with fail
    refine (cloneInts_of _ _ _ (lastN xs m) _ HL.out HS.out HL2.out).mono ?_
    rintro e w1 ⟨B, d, rfl, o1, u1⟩
    go_wp2
    go_ret
    exact ⟨B, d, rfl, o1, u1⟩
  · obtain ⟨h1, h2⟩ := h
    subst h2
    obtain rfl : k = 0 := by omega
    clear hk hkl
    have e0 : D = A := by
      rw [← hD]
      split
      · rfl
      · cases A <;> simp [Addr.add]
    subst e0
    clear hD
    go_enter Try.func35, Try.ntmps35
    go_wp2_with fail
    refine (cloneInts_of _ _ _ (lastN xs xs.length) _ HL.out HS.out HL2.out).mono ?_
    rintro e w1 ⟨B, d, rfl, o1, u1⟩
    go_wp2
    go_ret
    exact ⟨B, d, rfl, o1, u1⟩
  · obtain ⟨h1, h2⟩ := h
    obtain ⟨m, rfl⟩ := Int.eq_ofNat_of_zero_le (show 0 ≤ many by omega)
    obtain rfl : k = 0 := by omega
    clear hk hkl
    have e0 : D = A := by
      rw [← hD]
      split
      · rfl
      · cases A <;> simp [Addr.add]
    subst e0
    clear hD
    go_enter Try.func35, Try.ntmps35
    go_wp2_with fail
    refine (cloneInts_of _ _ _ (lastN xs m) _ HL.out HS.out HL2.out).mono ?_
    rintro e w1 ⟨B, d, rfl, o1, u1⟩
    go_wp2
    go_ret
    exact ⟨B, d, rfl, o1, u1⟩

set_option maxHeartbeats 1000000 in
theorem periods_any (A : Option Addr) (c : Nat) (xs : List Stamp) (span : Int) (w : World) (hx : Sl w A (xs.flatMap encStamp)) (hok : stOk xs = true) (hsp : 0 ≤ span) (hsm : span ≤ 9223372036854775807) :
    Calls Try.prog 36 #[.slice A xs.length c, .int .i64 span] w fun e w' => ∃ B d, e = .returned (.slice B (per xs span).length d) ∧ Own w' w.heap.size 3 1 B (per xs span).length d (ints (per xs span)) ∧ Upd [] w w' := by
  have hl := stOk_len hok
  have hg := stOk_good hok
  have HG := Lib.hid hg
  have HO := Lib.hid hok
  clear hg hok
  go_enter Try.func36, Try.ntmps36
  go_wp2
  go_loopw [5, 10] (fun o i wr => ∃ (k : Nat) (B : Option Addr) (d : Nat), k ≤ xs.length ∧ i = .int .i64 k ∧ o = .slice B (perTo xs span k).length d ∧ Own wr w.heap.size 3 1 B (perTo xs span k).length d (ints (perTo xs span k)) ∧ Upd [] w wr) (fun _ i _ => xs.length - (intOf i).toNat)
  case atStart => exact ⟨0, none, 0, by omega, rfl, rfl, Own.nil _ _ _ _, Upd.refl _ _⟩
  case round =>
    obtain ⟨k, B, d, hk, rfl, rfl, hown, hu⟩ := hrel
    by_cases hlt : k < xs.length
    · obtain ⟨b1, o1, rfl, c1, c2⟩ := (hx.grow hu).stamp hlt
      have d5 := fun g : Later (wr.alloc (.cells #[.int .i64 (atStamp xs k).snap, .int .i64 (atStamp xs k).day] 32)) => g.cell (p := ⟨wr.heap.size, 0, none⟩) (v := .int .i64 (atStamp xs k).snap) (by rw [cell_of_row _ _ _ _ _ _ (heap_alloc_new wr _)]; rfl)
      have d6 := fun g : Later (wr.alloc (.cells #[.int .i64 (atStamp xs k).snap, .int .i64 (atStamp xs k).day] 32)) => g.cell (p := ⟨wr.heap.size, 1, none⟩) (v := .int .i64 (atStamp xs k).day) (by rw [cell_of_row _ _ _ _ _ _ (heap_alloc_new wr _)]; rfl)
      have s1 : IntKind.i64.wrap ((xs.length : Int) - 1) = (xs.length : Int) - 1 := IntWalk.i64_in _ (by omega)
      by_cases h1 : span = 0
      · have hb1 : (span == 0) = true := beq_iff_eq.2 h1
        have hp : perAt xs span k = true := by unfold perAt; rw [h1]; simp
        have H1 := Lib.hid h1
        have HP := Lib.hid hp
        clear h1 hp
        go_wp2
        refine wp_region_calm (by kernel_rfl) (by kernel_rfl) ?_
        repeat (any_goals (first | go_big_quiet_step (fail) | quiet_step (fail)))
        refine wpQuiet_nil ?_
        rintro _ ⟨g, rfl⟩
        have hg := g.upd
        have o3 := (hown.grow ((Upd.refl [] wr).alloc (.cells #[.int .i64 (atStamp xs k).snap, .int .i64 (atStamp xs k).day] 32))).grow hg
        have U3 := (hu.alloc (.cells #[.int .i64 (atStamp xs k).snap, .int .i64 (atStamp xs k).day] 32)).trans hg
        have e1 := d5 g
        go_wp2_with (at_builtin; refine append_one rfl _ _ _ rfl intT rfl o3 rfl rfl (by simp [Value.oneCell']) (by have := perTo_len xs span k; unfold maxLen; omega) (by have := perTo_len xs span k; omega) U3 (Nat.le_refl _) U3.size ?_; intro B' d' w3 o4 U4 u4 hB')
        refine ⟨⟨k + 1, B', d', by omega, by go_num, by rw [perTo_succ, if_pos HP.out, List.length_append]; rfl, by rw [perTo_succ, if_pos HP.out, List.length_append, ← ints_snoc]; exact o4, U4⟩, by simp [intOf]; omega⟩
      · have hb1 : (span == 0) = false := beq_eq_false_iff_ne.2 h1
        by_cases h2 : k + 1 = xs.length
        · have hb2 : ((k : Int) == (xs.length : Int) - 1) = true := beq_iff_eq.2 (by omega)
          have hp : perAt xs span k = true := by unfold perAt; simp [h2]
          have H2 := Lib.hid h2
          have HP := Lib.hid hp
          clear h2 hp
          go_wp2
          refine wp_region_calm (by kernel_rfl) (by kernel_rfl) ?_
          repeat (any_goals (first | go_big_quiet_step (fail) | quiet_step (fail)))
          refine wpQuiet_nil ?_
          rintro _ ⟨g, rfl⟩
          have hg := g.upd
          have o3 := (hown.grow ((Upd.refl [] wr).alloc (.cells #[.int .i64 (atStamp xs k).snap, .int .i64 (atStamp xs k).day] 32))).grow hg
          have U3 := (hu.alloc (.cells #[.int .i64 (atStamp xs k).snap, .int .i64 (atStamp xs k).day] 32)).trans hg
          have e1 := d5 g
          go_wp2_with (at_builtin; refine append_one rfl _ _ _ rfl intT rfl o3 rfl rfl (by simp [Value.oneCell']) (by have := perTo_len xs span k; unfold maxLen; omega) (by have := perTo_len xs span k; omega) U3 (Nat.le_refl _) U3.size ?_; intro B' d' w3 o4 U4 u4 hB')
          refine ⟨⟨k + 1, B', d', by omega, by go_num, by rw [perTo_succ, if_pos HP.out, List.length_append]; rfl, by rw [perTo_succ, if_pos HP.out, List.length_append, ← ints_snoc]; exact o4, U4⟩, by simp [intOf]; omega⟩
        · have hb2 : ((k : Int) == (xs.length : Int) - 1) = false := beq_eq_false_iff_ne.2 (by omega)
          obtain ⟨_, _, e, c3, c4⟩ := (hx.grow hu).stamp (i := k + 1) (by omega)
          cases e
          have hup := (Upd.refl [] wr).alloc (.cells #[.int .i64 (atStamp xs k).snap, .int .i64 (atStamp xs k).day] 32)
          have d7 := fun g : Later (wr.alloc (.cells #[.int .i64 (atStamp xs k).snap, .int .i64 (atStamp xs k).day] 32)) => g.cell (hup.cell c4 (by simp))
          have g1 := HG.out k hlt
          have g2 := HG.out (k + 1) (by omega)
          unfold stGood at g1 g2
          obtain ⟨-, ⟨ga, gb⟩, -⟩ := g1
          obtain ⟨-, ⟨gc, gd⟩, -⟩ := g2
          have q1 : Int.tdiv (atStamp xs k).day span = (atStamp xs k).day / span := Int.tdiv_eq_ediv_of_nonneg ga
          have q2 : Int.tdiv (atStamp xs (k + 1)).day span = (atStamp xs (k + 1)).day / span := Int.tdiv_eq_ediv_of_nonneg gc
          have r1 : 0 ≤ (atStamp xs k).day / span ∧ (atStamp xs k).day / span ≤ (atStamp xs k).day := ⟨Int.ediv_nonneg ga hsp, Int.ediv_le_self _ ga⟩
          have r2 : 0 ≤ (atStamp xs (k + 1)).day / span ∧ (atStamp xs (k + 1)).day / span ≤ (atStamp xs (k + 1)).day := ⟨Int.ediv_nonneg gc hsp, Int.ediv_le_self _ gc⟩
          have t1 : IntKind.i64.wrap ((atStamp xs k).day / span) = (atStamp xs k).day / span := IntWalk.i64_in _ (by omega)
          have t2 : IntKind.i64.wrap ((atStamp xs (k + 1)).day / span) = (atStamp xs (k + 1)).day / span := IntWalk.i64_in _ (by omega)
          have j1 : 0 ≤ (k : Int) + 1 := by omega
          have j2 : (k : Int) + 1 < xs.length := by omega
          have j3 : ((k : Int) + 1).toNat = k + 1 := by omega
          have j4 : IntKind.i64.wrap ((k : Int) + 1) = (k : Int) + 1 := IntWalk.i64_in _ (by omega)
          clear r1 r2
          by_cases h3 : (atStamp xs (k + 1)).day / span = (atStamp xs k).day / span
          · have hb3 : ((atStamp xs (k + 1)).day / span != (atStamp xs k).day / span) = false := by rw [h3]; simp
            have hp : perAt xs span k = false := by unfold perAt; simp [h1, h2, h3]
            have H3 := Lib.hid h3
            have HP := Lib.hid hp
            clear h3 hp
            go_wp2
            refine wp_region_calm (by kernel_rfl) (by kernel_rfl) ?_
            repeat (any_goals (first | go_big_quiet_step (fail) | quiet_step (fail)))
            refine wpQuiet_nil ?_
            rintro _ ⟨g, rfl⟩
            have hg := g.upd
            have o3 := (hown.grow ((Upd.refl [] wr).alloc (.cells #[.int .i64 (atStamp xs k).snap, .int .i64 (atStamp xs k).day] 32))).grow hg
            have U3 := (hu.alloc (.cells #[.int .i64 (atStamp xs k).snap, .int .i64 (atStamp xs k).day] 32)).trans hg
            go_wp2
            refine ⟨⟨k + 1, B, d, by omega, by go_num, by rw [perTo_succ, if_neg (by rw [HP.out]; simp)], by rw [perTo_succ, if_neg (by rw [HP.out]; simp)]; exact o3, U3⟩, by simp [intOf]; omega⟩
          · have hb3 : ((atStamp xs (k + 1)).day / span != (atStamp xs k).day / span) = true := by simpa using h3
            have hp : perAt xs span k = true := by unfold perAt; simp [h1, h2, h3]
            have HP := Lib.hid hp
            clear hp
            go_wp2
            refine wp_region_calm (by kernel_rfl) (by kernel_rfl) ?_
            repeat (any_goals (first | go_big_quiet_step (fail) | quiet_step (fail)))
            refine wpQuiet_nil ?_
            rintro _ ⟨g, rfl⟩
            have hg := g.upd
            have o3 := (hown.grow ((Upd.refl [] wr).alloc (.cells #[.int .i64 (atStamp xs k).snap, .int .i64 (atStamp xs k).day] 32))).grow hg
            have U3 := (hu.alloc (.cells #[.int .i64 (atStamp xs k).snap, .int .i64 (atStamp xs k).day] 32)).trans hg
            have e1 := d5 g
            go_wp2_with (at_builtin; refine append_one rfl _ _ _ rfl intT rfl o3 rfl rfl (by simp [Value.oneCell']) (by have := perTo_len xs span k; unfold maxLen; omega) (by have := perTo_len xs span k; omega) U3 (Nat.le_refl _) U3.size ?_; intro B' d' w3 o4 U4 u4 hB')
            refine ⟨⟨k + 1, B', d', by omega, by go_num, by rw [perTo_succ, if_pos HP.out, List.length_append]; rfl, by rw [perTo_succ, if_pos HP.out, List.length_append, ← ints_snoc]; exact o4, U4⟩, by simp [intOf]; omega⟩
    · obtain rfl : k = xs.length := by omega
      clear hk hlt
      go_wp2
      go_ret
      exact ⟨B, d, rfl, hown, hu⟩

def keepLast (xs : List Stamp) (many : Int) : List Int := if stOk xs = true then lastN (per xs 0) many else []
def keepDays (xs : List Stamp) (span many : Int) : List Int := if stOk xs = true ∧ 1 ≤ span then lastN (per xs span) many else []
theorem lastN_len (l : List Int) (many : Int) : (lastN l many).length ≤ l.length := by unfold lastN; rw [List.length_drop]; omega

theorem keepLast_len (xs : List Stamp) (many : Int) : (keepLast xs many).length ≤ 12 := by
  unfold keepLast
  split
  · rename_i h
    have := stOk_len h
    have := lastN_len (per xs 0) many
    have := perTo_len xs 0 xs.length
    unfold per at *
    omega
  · simp
theorem keepDays_len (xs : List Stamp) (span many : Int) : (keepDays xs span many).length ≤ 12 := by
  unfold keepDays
  split
  · rename_i h
    have := stOk_len h.1
    have := lastN_len (per xs span) many
    have := perTo_len xs span xs.length
    unfold per at *
    omega
  · simp
set_option maxHeartbeats 1000000 in
theorem implKeepLast_any (A : Option Addr) (c : Nat) (xs : List Stamp) (many : Int) (w : World) (hx : Sl w A (xs.flatMap encStamp)) (hlx : xs.length ≤ maxLen) :
    Calls Try.prog 18 #[.slice A xs.length c, .int .i64 many] w (RetInts (keepLast xs many) w) := by
  go_enter Try.func18, Try.ntmps18
  go_wp2_with fail
  refine (implStampsOk_any _ _ _ _ hx hlx).mono ?_
  rintro e w1 ⟨rfl, u1⟩
  cases hs : stOk xs
  · have hk : keepLast xs many = [] := by unfold keepLast; simp [hs]
    have HK := Lib.hid hk
    clear hk
    go_wp2
    go_ret
    rw [HK.out]
    exact ⟨none, 0, rfl, Own.nil _ _ _ _, u1⟩
  · have hk : keepLast xs many = lastN (per xs 0) many := by unfold keepLast; simp [hs]
    have HK := Lib.hid hk
    clear hk
    go_wp2_with fail
    refine (periods_any _ _ _ 0 _ (hx.grow u1) hs (by omega) (by omega)).mono ?_
    rintro e w2 ⟨B, d, rfl, o2, u2⟩
    go_wp2_with fail
    have hpl := perTo_len xs 0 xs.length
    have hsl := stOk_len hs
    refine (lastOf_any _ _ _ many _ o2.sl o2.cap.1 (by unfold per; omega)).mono ?_
    rintro e w3 ⟨C, f, rfl, o3, u3⟩
    go_wp2
    go_ret
    rw [HK.out]
    exact ⟨C, f, rfl, o3.base_le (u1.trans u2).size, (u1.trans u2).trans u3⟩
set_option maxHeartbeats 1000000 in
theorem implKeepDays_any (A : Option Addr) (c : Nat) (xs : List Stamp) (span many : Int) (w : World) (hx : Sl w A (xs.flatMap encStamp)) (hlx : xs.length ≤ maxLen) (hsm : span ≤ 9223372036854775807) :
    Calls Try.prog 22 #[.slice A xs.length c, .int .i64 span, .int .i64 many] w (RetInts (keepDays xs span many) w) := by
  go_enter Try.func22, Try.ntmps22
  go_wp2_with fail
  refine (implStampsOk_any _ _ _ _ hx hlx).mono ?_
  rintro e w1 ⟨rfl, u1⟩
  cases hs : stOk xs
  · have hk : keepDays xs span many = [] := by unfold keepDays; simp [hs]
    have HK := Lib.hid hk
    clear hk
    go_wp2
    go_ret
    rw [HK.out]
    exact ⟨none, 0, rfl, Own.nil _ _ _ _, u1⟩
  · by_cases h1 : span < 1
    · have hk : keepDays xs span many = [] := by unfold keepDays; rw [if_neg (by omega)]
      have HK := Lib.hid hk
      clear hk
      have hb : decide (span < 1) = true := decide_eq_true h1
      go_wp2
      go_ret
      rw [HK.out]
      exact ⟨none, 0, rfl, Own.nil _ _ _ _, u1⟩
    · have hk : keepDays xs span many = lastN (per xs span) many := by unfold keepDays; rw [if_pos ⟨hs, by omega⟩]
      have HK := Lib.hid hk
      clear hk
      have hb : decide (span < 1) = false := decide_eq_false h1
      go_wp2_with fail
      refine (periods_any _ _ _ span _ (hx.grow u1) hs (by omega) hsm).mono ?_
      rintro e w2 ⟨B, d, rfl, o2, u2⟩
      go_wp2_with fail
      have hpl := perTo_len xs span xs.length
      have hsl := stOk_len hs
      refine (lastOf_any _ _ _ many _ o2.sl o2.cap.1 (by unfold per; omega)).mono ?_
      rintro e w3 ⟨C, f, rfl, o3, u3⟩
      go_wp2
      go_ret
      rw [HK.out]
      exact ⟨C, f, rfl, o3.base_le (u1.trans u2).size, (u1.trans u2).trans u3⟩
theorem perTo_zero_len (xs : List Stamp) (k : Nat) : (perTo xs 0 k).length = k := by
  unfold perTo
  rw [List.filter_eq_self.2 (fun i _ => by simp [perAt])]
  simp
def klTo (xs : List Stamp) (j k : Nat) : List Int := (perTo xs 0 k).drop j
set_option maxHeartbeats 1000000 in
theorem specKeepLast_any (A : Option Addr) (c : Nat) (xs : List Stamp) (many : Int) (w : World) (hx : Sl w A (xs.flatMap encStamp)) (hlx : xs.length ≤ maxLen) :
    Calls Try.prog 20 #[.slice A xs.length c, .int .i64 many] w (RetInts (keepLast xs many) w) := by
  go_enter Try.func20, Try.ntmps20
  have o0 : Own (w.alloc (.cells #[] 3)) w.heap.size 3 1 (some ⟨w.heap.size, 0, none⟩) 0 0 [] := Own.lit w [] 0 (Nat.le_refl _) (by simp [maxLen]) rfl
  go_wp2_with fail
  refine (specStampsOk_any _ _ _ _ (hx.grow ((Upd.refl _ _).alloc _)) hlx).mono ?_
  rintro e w1 ⟨rfl, u1⟩
  have U1 := ((Upd.refl [] w).alloc (.cells #[] 3)).trans u1
  have o1 := o0.grow u1
  cases hs : stOk xs
  · have hk : keepLast xs many = [] := by unfold keepLast; simp [hs]
    have HK := Lib.hid hk
    clear hk
    go_wp2
    go_ret
    rw [HK.out]
    exact ⟨_, 0, rfl, o1, U1⟩
  · have hsl := stOk_len hs
    have HS := Lib.hid hs
    clear hs
    obtain ⟨j, hj, hjl⟩ : ∃ j : Nat, j = xs.length - (min (max many 0) xs.length).toNat ∧ j ≤ xs.length := ⟨_, rfl, by omega⟩
    have hk : keepLast xs many = klTo xs j xs.length := by unfold keepLast lastN per klTo; rw [if_pos HS.out, perTo_zero_len, hj]
    have hcmp : ∀ k : Nat, k < xs.length → ((xs.length : Int) - k ≤ many ↔ j ≤ k) := fun k hk => by omega
    have HK := Lib.hid hk
    have HC := Lib.hid hcmp
    clear hk hj hcmp
    go_wp2_with fail
    go_loopw [5, 6] (fun o i wr => ∃ (k : Nat) (B : Option Addr) (d : Nat), k ≤ xs.length ∧ i = .int .i64 k ∧ o = .slice B (klTo xs j k).length d ∧ Own wr w.heap.size 3 1 B (klTo xs j k).length d (ints (klTo xs j k)) ∧ Upd [] w wr) (fun _ i _ => xs.length - (intOf i).toNat)
    case atStart =>
      refine ⟨0, some ⟨w.heap.size, 0, none⟩, 0, by omega, rfl, ?_⟩
      rw [show klTo xs j 0 = [] by simp [klTo, perTo]]
      exact ⟨rfl, o1, U1⟩
    case round =>
      obtain ⟨k, B, d, hk, rfl, rfl, hown, hu⟩ := hrel
      by_cases hlt : k < xs.length
      · obtain ⟨b1, o1, rfl, c1, c2⟩ := (hx.grow hu).stamp hlt
        have hc := HC.out k hlt
        have hd : (perTo xs 0 (k + 1)) = perTo xs 0 k ++ [(atStamp xs k).snap] := by rw [perTo_succ, if_pos (by simp [perAt])]
        have hlen := perTo_zero_len xs k
        have HD := Lib.hid hd
        have HN := Lib.hid hlen
        clear hd hlen
        by_cases h1 : (xs.length : Int) - k ≤ many
        · have hjk : j ≤ k := hc.1 h1
          clear hc
          have he : klTo xs j (k + 1) = klTo xs j k ++ [(atStamp xs k).snap] := by unfold klTo; rw [HD.out, List.drop_append_of_le_length (by rw [HN.out]; exact hjk)]
          have HE := Lib.hid he
          clear he
          have hol : (klTo xs j k).length ≤ k := by unfold klTo; rw [List.length_drop, HN.out]; omega
          go_wp2_with (at_builtin; refine append_one rfl _ _ _ rfl intT rfl hown rfl rfl (by simp [Value.oneCell']) (by unfold maxLen; omega) (by omega) hu (Nat.le_refl _) hu.size ?_; intro B' d' w3 o4 U4 u4 hB')
          refine ⟨⟨k + 1, B', d', by omega, by go_num, by rw [HE.out, List.length_append]; rfl, by rw [HE.out, List.length_append, ← ints_snoc]; exact o4, U4⟩, by simp [intOf]; omega⟩
        · have hjk : ¬ j ≤ k := fun h => h1 (hc.2 h)
          clear hc
          have he : klTo xs j (k + 1) = klTo xs j k := by unfold klTo; rw [HD.out, List.drop_eq_nil_of_le (by rw [List.length_append, HN.out]; simp; omega), List.drop_eq_nil_of_le (by rw [HN.out]; omega)]
          have HE := Lib.hid he
          clear he
          go_wp2
          refine ⟨⟨k + 1, B, d, by omega, by go_num, by rw [HE.out], by rw [HE.out]; exact hown, hu⟩, by simp [intOf]; omega⟩
      · obtain rfl : k = xs.length := by omega
        clear hk hlt
        go_wp2
        go_ret
        rw [HK.out]
        exact ⟨B, d, rfl, hown, hu⟩

/-- What the reference has gathered, from the end down to index i. -/
def dsTo (xs : List Stamp) (span : Int) (i : Nat) : List Int := (per xs span).drop (perTo xs span i).length
theorem dsTo_all (xs : List Stamp) (span : Int) : dsTo xs span xs.length = [] := by unfold dsTo per; rw [List.drop_length]
theorem dsTo_zero (xs : List Stamp) (span : Int) : dsTo xs span 0 = per xs span := by simp [dsTo, perTo]
theorem perTo_prefix (xs : List Stamp) (span : Int) (i : Nat) : ∀ d, ∃ ys, perTo xs span (i + d) = perTo xs span i ++ ys
  | 0 => ⟨[], by simp⟩
  | d + 1 => by
    obtain ⟨ys, h⟩ := perTo_prefix xs span i d
    rw [← Nat.add_assoc, perTo_succ, h]
    split
    · exact ⟨ys ++ [(atStamp xs (i + d)).snap], by rw [List.append_assoc]⟩
    · exact ⟨ys, rfl⟩
theorem dsTo_succ (xs : List Stamp) (span : Int) (i : Nat) (hi : i < xs.length) : dsTo xs span i = if perAt xs span i = true then (atStamp xs i).snap :: dsTo xs span (i + 1) else dsTo xs span (i + 1) := by
  obtain ⟨ys, h⟩ := perTo_prefix xs span (i + 1) (xs.length - (i + 1))
  rw [show i + 1 + (xs.length - (i + 1)) = xs.length from by omega] at h
  have h2 := perTo_succ xs span i
  unfold dsTo per
  rw [h]
  by_cases hp : perAt xs span i = true
  · rw [if_pos hp] at h2 ⊢
    rw [h2, List.append_assoc, List.drop_left, ← List.append_assoc, List.drop_left]
    rfl
  · rw [if_neg hp] at h2 ⊢
    rw [h2]
theorem dsTo_len (xs : List Stamp) (span : Int) (i : Nat) : (dsTo xs span i).length ≤ xs.length := by
  unfold dsTo per
  rw [List.length_drop]
  have := perTo_len xs span xs.length
  omega
/-- A tail that is just long enough is the last so many. -/
theorem dsTo_lastN (xs : List Stamp) (span many : Int) (i : Nat) (hi : i ≤ xs.length) (h : ((dsTo xs span i).length : Int) ≤ max many 0) (hz : i = 0 ∨ max many 0 ≤ (dsTo xs span i).length) : dsTo xs span i = lastN (per xs span) many := by
  have hl : (dsTo xs span i).length = (per xs span).length - (perTo xs span i).length := by unfold dsTo; rw [List.length_drop]
  have hle : (perTo xs span i).length ≤ (per xs span).length := by
    obtain ⟨ys, h⟩ := perTo_prefix xs span i (xs.length - i)
    rw [show i + (xs.length - i) = xs.length from by omega] at h
    unfold per
    rw [h, List.length_append]
    omega
  rcases hz with rfl | hz
  · rw [dsTo_zero] at h ⊢
    unfold lastN
    rw [show (min (max many 0) ((per xs span).length : Int)).toNat = (per xs span).length from by omega, Nat.sub_self, List.drop_zero]
  · unfold lastN dsTo
    congr 1
    omega

set_option maxHeartbeats 1000000 in
theorem l31Days_any (A : Option Addr) (c : Nat) (xs : List Stamp) (span many : Int) (w : World) (hx : Sl w A (xs.flatMap encStamp)) (hok : stOk xs = true) (hsp : 1 ≤ span) (hsm : span ≤ 9223372036854775807) :
    Calls Try.prog 37 #[.slice A xs.length c, .int .i64 span, .int .i64 many] w (RetInts (lastN (per xs span) many) w) := by
  have hl := stOk_len hok
  have hg := stOk_good hok
  have HG := Lib.hid hg
  clear hg hok
  go_enter Try.func37, Try.ntmps37
  have o0 : Own (w.alloc (.cells #[] 3)) w.heap.size 3 1 (some ⟨w.heap.size, 0, none⟩) 0 0 [] := Own.lit w [] 0 (Nat.le_refl _) (by simp [maxLen]) rfl
  go_wp2
  go_loopw [7, 8, 9] (fun o la i wr => ∃ (k : Nat) (last : Int) (B : Option Addr) (d : Nat), k ≤ xs.length ∧ i = .int .i64 ((k : Int) - 1) ∧ la = .int .i64 last ∧ (k = xs.length → last = -1) ∧ (k < xs.length → last = (atStamp xs k).day / span) ∧
      o = .slice B (dsTo xs span k).length d ∧ Own wr w.heap.size 3 1 B (dsTo xs span k).length d (ints (dsTo xs span k)) ∧ Upd [] w wr ∧ ((dsTo xs span k).length : Int) ≤ max many 0) (fun _ _ i _ => (intOf i + 1).toNat)
  case atStart =>
    refine ⟨xs.length, -1, some ⟨w.heap.size, 0, none⟩, 0, Nat.le_refl _, rfl, rfl, fun _ => rfl, fun h => by omega, ?_⟩
    rw [dsTo_all]
    exact ⟨rfl, o0, (Upd.refl _ _).alloc _, by simp; omega⟩
  case round =>
    obtain ⟨k, last, B, d, hk, rfl, rfl, hl1, hl2, rfl, hown, hu, hmany⟩ := hrel
    by_cases hstop : k = 0 ∨ many ≤ (dsTo xs span k).length
    · have hfin : dsTo xs span k = lastN (per xs span) many := dsTo_lastN xs span many k hk hmany (by omega)
      have HF := Lib.hid hfin
      clear hfin hl1 hl2
      rcases hstop with h0 | h0
      · subst h0
        go_wp2
        go_ret
        rw [← HF.out]
        exact ⟨B, d, rfl, hown, hu⟩
      · go_wp2
        all_goals
          go_ret
          rw [← HF.out]
          exact ⟨B, d, rfl, hown, hu⟩
    · obtain ⟨m, rfl⟩ : ∃ m, k = m + 1 := ⟨k - 1, by omega⟩
      have hlt : m < xs.length := by omega
      have hroom : ((dsTo xs span (m + 1)).length : Int) < many := by omega
      obtain ⟨b1, o1, rfl, c1, c2⟩ := (hx.grow hu).stamp hlt
      have g1 := HG.out m hlt
      unfold stGood at g1
      obtain ⟨-, ⟨ga, gb⟩, -⟩ := g1
      have q1 : Int.tdiv (atStamp xs m).day span = (atStamp xs m).day / span := Int.tdiv_eq_ediv_of_nonneg ga
      have r1 : 0 ≤ (atStamp xs m).day / span ∧ (atStamp xs m).day / span ≤ (atStamp xs m).day := ⟨Int.ediv_nonneg ga (by omega), Int.ediv_le_self _ ga⟩
      have t1 : wrap64 ((atStamp xs m).day / span) = (atStamp xs m).day / span := by unfold wrap64; omega
      have hdl := dsTo_len xs span (m + 1)
      by_cases he : (atStamp xs m).day / span = last
      · have hp : perAt xs span m = false := by
          by_cases hend : m + 1 = xs.length
          · have := hl1 hend; omega
          · have h2 := hl2 (by omega)
            unfold perAt
            rw [he, h2]
            simp; omega
        have hds : dsTo xs span m = dsTo xs span (m + 1) := by rw [dsTo_succ xs span m hlt, if_neg (by rw [hp]; simp)]
        have hb : ((atStamp xs m).day / span != last) = false := by simp [he]
        have HE := Lib.hid he
        have HD := Lib.hid hds
        clear he hds hp hl1 hl2 hstop r1
        go_wp2
        refine ⟨⟨m, last, B, d, by omega, by go_num, rfl, fun h => by omega, fun _ => HE.out.symm, by rw [HD.out], by rw [HD.out]; exact hown, hu, by rw [HD.out]; omega⟩, by simp only [intOf]; omega⟩
      · have hp : perAt xs span m = true := by
          by_cases hend : m + 1 = xs.length
          · unfold perAt; simp [hend]
          · have h2 := hl2 (by omega)
            unfold perAt
            have h3 : (atStamp xs (m + 1)).day / span ≠ (atStamp xs m).day / span := by rw [← h2]; exact fun h => he h.symm
            simp [h3]
        have hds : dsTo xs span m = (atStamp xs m).snap :: dsTo xs span (m + 1) := by rw [dsTo_succ xs span m hlt, if_pos hp]
        have hb : ((atStamp xs m).day / span != last) = true := by simp [he]
        have HD := Lib.hid hds
        clear hds hp hl1 hl2 hstop r1
        have ol : Own (wr.alloc (.cells #[.int .i64 (atStamp xs m).snap] 3)) w.heap.size 3 1 (some ⟨wr.heap.size, 0, none⟩) 1 1 [.int .i64 (atStamp xs m).snap] := Own.lit wr _ 1 hu.size (by simp [maxLen]) rfl
        go_wp2_with (at_builtin; refine append_any rfl _ _ _ rfl intT rfl ol rfl (ints_len1 _) (hown.sl.grow ((Upd.refl _ _).alloc _)) (ints_one _) (by unfold maxLen; omega) (by omega) (hu.alloc _) (Nat.le_refl _) (by have := hu.size; simp; omega) ?_; intro B' d' w3 o4 U4 u4 hB')
        exact ⟨⟨m, _, B', d', by omega, by go_num, rfl, fun h => by omega, fun _ => rfl, by rw [HD.out, List.length_cons, Nat.add_comm], by rw [HD.out, List.length_cons, Nat.add_comm]; exact o4, U4, by rw [HD.out, List.length_cons]; omega⟩, by simp only [intOf]; omega⟩

set_option maxHeartbeats 1000000 in
theorem specKeepDays_any (A : Option Addr) (c : Nat) (xs : List Stamp) (span many : Int) (w : World) (hx : Sl w A (xs.flatMap encStamp)) (hlx : xs.length ≤ maxLen) (hsm : span ≤ 9223372036854775807) :
    Calls Try.prog 23 #[.slice A xs.length c, .int .i64 span, .int .i64 many] w (RetInts (keepDays xs span many) w) := by
  go_enter Try.func23, Try.ntmps23
  go_wp2_with fail
  refine (specStampsOk_any _ _ _ _ hx hlx).mono ?_
  rintro e w1 ⟨rfl, u1⟩
  cases hs : stOk xs
  · have hk : keepDays xs span many = [] := by unfold keepDays; simp [hs]
    have HK := Lib.hid hk
    clear hk
    go_wp2
    go_ret
    rw [HK.out]
    exact ⟨some ⟨w1.heap.size, 0, none⟩, 0, rfl, Own.lit w1 [] 0 u1.size (by simp [maxLen]) rfl, u1.alloc _⟩
  · by_cases h1 : span < 1
    · have hk : keepDays xs span many = [] := by unfold keepDays; rw [if_neg (by omega)]
      have HK := Lib.hid hk
      clear hk
      have hb : decide (span < 1) = true := decide_eq_true h1
      go_wp2
      go_ret
      rw [HK.out]
      exact ⟨some ⟨w1.heap.size, 0, none⟩, 0, rfl, Own.lit w1 [] 0 u1.size (by simp [maxLen]) rfl, u1.alloc _⟩
    · have hk : keepDays xs span many = lastN (per xs span) many := by unfold keepDays; rw [if_pos ⟨hs, by omega⟩]
      have HK := Lib.hid hk
      clear hk
      have hb : decide (span < 1) = false := decide_eq_false h1
      go_wp2_with fail
      refine (l31Days_any _ _ _ span many _ (hx.grow u1) hs (by omega) hsm).mono ?_
      rintro e w2 ⟨B, d, rfl, o2, u2⟩
      go_wp2
      go_ret
      rw [HK.out]
      exact ⟨B, d, rfl, o2.base_le u1.size, u1.trans u2⟩
end Go.Proofs.Ytneleojjadbdcaa
