/- The reader of a code: what opening it and picking from it come to. -/
import Derived.Test.YtjkagmelpgpjgaaB
namespace Go.Proofs.Ytjkagmelpgpjgaa
open Go.RowKit
set_option linter.unusedVariables false
set_option linter.unusedSimpArgs false

/-- Block rb is a reader at place p. -/
def Rdr (w : World) (rb : Nat) (p : Int) : Prop :=
  ∃ (A : Option Addr) (c : Nat) (bs : List Int), w.heap[rb]? = some (.cells #[.slice A bs.length c, .int .i64 p] 72 (0, 0)) ∧ Sl w A (bs.map (.int .u8)) ∧ (bs ≠ [] → ∀ a, A = some a → a.block < rb) ∧ bs.length ≤ 2000 ∧ ∀ b ∈ bs, 0 ≤ b ∧ b < 256
theorem Rdr.lt {w : World} {rb : Nat} {p : Int} (h : Rdr w rb p) : rb < w.heap.size := by
  obtain ⟨A, c, bs, h, _⟩ := h
  exact (Array.getElem?_eq_some_iff.1 h).1
theorem Rdr.upd {w w' : World} {rb : Nat} {p : Int} (h : Rdr w rb p) (hu : Upd [] w w') : Rdr w' rb p := by
  have hlt := h.lt
  obtain ⟨A, c, bs, h, hs, hne, hl, hb⟩ := h
  exact ⟨A, c, bs, (hu.block rb hlt (by simp)).trans h, hs.grow hu, hne, hl, hb⟩
theorem Rdr.far {w w' : World} {rb : Nat} {p : Int} (h : Rdr w rb p) {M : List Nat} (hu : Upd M w w') (hm : ∀ x, x ∈ M → rb < x) : Rdr w' rb p := by
  have hlt := h.lt
  obtain ⟨A, c, bs, h, hs, hne, hl, hb⟩ := h
  refine ⟨A, c, bs, (hu.block rb hlt (fun e => by have := hm _ e; omega)).trans h, ?_, hne, hl, hb⟩
  by_cases hz : bs = []
  · subst hz; exact .inl rfl
  · exact hs.upd hu (fun a ha e => by have := hm _ e; have := hne hz a ha; omega)

theorem xor_nonneg (a b : Nat) (ha : a < 9223372036854775808) (hb : b < 9223372036854775808) : 0 ≤ bits .xor .i64 (a : Int) (b : Int) := by
  have e : ∀ c : Nat, c < 9223372036854775808 → (BitVec.ofInt 64 (c : Int)).toNat = c := fun c hc => by
    rw [BitVec.ofInt_natCast, BitVec.toNat_ofNat]; exact Nat.mod_eq_of_lt (by omega)
  have hx : a ^^^ b < 2 ^ 63 := Nat.xor_lt_two_pow (by omega) (by omega)
  have h2 : bits .xor .i64 (a : Int) (b : Int) = ((a ^^^ b : Nat) : Int) := by
    show IntKind.i64.wrap ((BitVec.ofInt 64 (a : Int) ^^^ BitVec.ofInt 64 (b : Int)).toNat : Int) = _
    rw [BitVec.toNat_xor, e a ha, e b hb, IntKind.wrap_i64]
    omega
  rw [h2]
  omega
/-- A number has been picked. -/
def Picked (rb : Nat) (p n : Int) (w : World) (e : Ending) (w' : World) : Prop :=
  ∃ x : Int, e = .returned (.int .i64 x) ∧ 0 ≤ x ∧ (1 ≤ n → x < n) ∧ (n < 1 → x = 0) ∧ Rdr w' rb (p + 1) ∧ Upd [rb] w w'
set_option maxHeartbeats 400000 in
theorem pick_any (rb : Nat) (p n : Int) (w : World) (h : Rdr w rb p) (hp0 : 0 ≤ p) (hp : p ≤ 1000000000) (hn0 : -1000 ≤ n) (hn : n ≤ 1000000) :
    Calls Try.prog 50 #[.pointer (some ⟨rb, 0, none⟩), .int .i64 n] w (Picked rb p n w) := by
  obtain ⟨A, c, bs, h, hs, hne, hl, hb⟩ := h
  have hl2 : rb < w.heap.size := (Array.getElem?_eq_some_iff.1 h).1
  have c0 : w.cell? ⟨rb, 0, none⟩ = some (.slice A bs.length c) := by rw [cell_of_row _ _ _ _ _ _ h]; rfl
  have c1 : w.cell? ⟨rb, 1, none⟩ = some (.int .i64 p) := by rw [cell_of_row _ _ _ _ _ _ h]; rfl
  have f1 : w.frozen? ⟨rb, 1, none⟩ = false := frozen_of_row _ _ _ _ _ h
  have H := Lib.hid h
  clear h
  have hu : Upd [rb] w (w.setCell ⟨rb, 1, none⟩ (.int .i64 (p + 1))) := (Upd.refl _ _).setCell (.inl (by simp)) _
  have HR : Hid (Rdr (w.setCell ⟨rb, 1, none⟩ (.int .i64 (p + 1))) rb (p + 1)) := by
    refine ⟨A, c, bs, ?_, ?_, hne, hl, hb⟩
    · rw [heap_setCell_same w rb 1 _ _ _ H.out]
      simp
    · by_cases hz : bs = []
      · subst hz; exact .inl rfl
      · exact hs.upd hu (fun a ha => by have := hne hz a ha; simp; omega)
  by_cases hn1 : n < 1
  · have hb1 : decide (n < 1) = true := decide_eq_true hn1
    go_enter Try.func50, Try.ntmps50
    go_wp2
    go_ret
    exact ⟨0, rfl, by omega, by omega, fun _ => rfl, HR.out, hu⟩
  · have hb1 : decide (n < 1) = false := decide_eq_false hn1
    by_cases hz : bs.length = 0
    · have hb2 : ((bs.length : Int) == 0) = true := by simp [hz]
      have HZ := Lib.hid hz
      clear hz
      go_enter Try.func50, Try.ntmps50
      go_wp2
      go_ret
      exact ⟨0, rfl, by omega, by omega, fun _ => rfl, HR.out, hu⟩
    · have hb2 : ((bs.length : Int) == 0) = false := beq_eq_false_iff_ne.2 (by omega)
      obtain ⟨q, rfl⟩ := Int.eq_ofNat_of_zero_le hp0
      by_cases hlt : q < bs.length
      · obtain ⟨b1, o1, rfl, c2⟩ := hs.get (f := fun b => .int .u8 b) hlt
        have hne1 : b1 ≠ rb := fun e => by have := hne (fun e => hz (by rw [e]; rfl)) _ rfl; simp at this; omega
        have hbd := hb bs[q] (List.getElem_mem _)
        obtain ⟨B0, B1⟩ := hbd
        go_enter Try.func50, Try.ntmps50
        go_wp2
        go_ret
        exact ⟨_, rfl, Int.emod_nonneg _ (by omega), fun _ => Int.emod_lt_of_pos _ (by omega), fun h => by omega, HR.out, hu⟩
      · have e1 : q % bs.length < bs.length := Nat.mod_lt _ (by omega)
        have e2 : (q * 7 + 3) % bs.length < bs.length := Nat.mod_lt _ (by omega)
        obtain ⟨b1, o1, rfl, c2⟩ := hs.get (f := fun b => .int .u8 b) e1
        obtain ⟨_, _, ee, c3⟩ := hs.get (f := fun b => .int .u8 b) e2
        cases ee
        have hne1 : b1 ≠ rb := fun e => by have := hne (fun e => hz (by rw [e]; rfl)) _ rfl; simp at this; omega
        obtain ⟨B0, B1⟩ := hb bs[q % bs.length] (List.getElem_mem _)
        obtain ⟨D0, D1⟩ := hb bs[(q * 7 + 3) % bs.length] (List.getElem_mem _)
        obtain ⟨x, hx⟩ : ∃ x, bs[q % bs.length] = x := ⟨_, rfl⟩
        obtain ⟨y, hy⟩ : ∃ y, bs[(q * 7 + 3) % bs.length] = y := ⟨_, rfl⟩
        rw [hx] at c2 B0 B1
        rw [hy] at c3 D0 D1
        clear hx hy
        obtain ⟨w1, hw1⟩ : ∃ w1, w.setCell ⟨rb, 1, none⟩ (.int .i64 ((q : Int) + 1)) = w1 := ⟨_, rfl⟩
        have k0 : w1.cell? ⟨rb, 0, none⟩ = some (.slice (some ⟨b1, o1, none⟩) bs.length c) := by
          obtain ⟨A', c', bs', hh, _⟩ := HR.out
          rw [← hw1, World.cell?_setCell_other _ _ _ _ (by simp)]
          exact c0
        have k1 : w1.cell? ⟨rb, 1, none⟩ = some (.int .i64 ((q : Int) + 1)) := by
          rw [← hw1]
          exact World.cell?_setCell_same _ _ _ c1
        have k2 : w1.cell? ⟨b1, o1 + q % bs.length, none⟩ = some (.int .u8 x) := by rw [← hw1]; exact hu.cell c2 (by simpa using hne1)
        have k3 : w1.cell? ⟨b1, o1 + (q * 7 + 3) % bs.length, none⟩ = some (.int .u8 y) := by rw [← hw1]; exact hu.cell c3 (by simpa using hne1)
        have d0 := fun g : Later w1 => g.cell k0
        have d2 := fun g : Later w1 => g.cell k2
        have d3 := fun g : Later w1 => g.cell k3
        have HD : (q : Int) / (bs.length : Int) ≤ q := Int.ediv_le_self _ (by omega)
        have HD0 : 0 ≤ (q : Int) / (bs.length : Int) := Int.ediv_nonneg (by omega) (by omega)
        have m1 : Int.tmod (q : Int) (bs.length : Int) = (q : Int) % (bs.length : Int) := Int.tmod_eq_emod_of_nonneg (by omega)
        have t1 : ((q : Int) % (bs.length : Int)).toNat = q % bs.length := by rw [← Int.natCast_emod, Int.toNat_natCast]
        have b1a : 0 ≤ (q : Int) % (bs.length : Int) := Int.emod_nonneg _ (by omega)
        have b1b : (q : Int) % (bs.length : Int) < (bs.length : Int) := Int.emod_lt_of_pos _ (by omega)
        have s2 : IntKind.i64.wrap ((q : Int) * 7) = (q : Int) * 7 := IntWalk.i64_in _ (by omega)
        have s3 : IntKind.i64.wrap ((q : Int) * 7 + 3) = (q : Int) * 7 + 3 := IntWalk.i64_in _ (by omega)
        have m2 : Int.tmod ((q : Int) * 7 + 3) (bs.length : Int) = ((q : Int) * 7 + 3) % (bs.length : Int) := Int.tmod_eq_emod_of_nonneg (by omega)
        have t2 : (((q : Int) * 7 + 3) % (bs.length : Int)).toNat = (q * 7 + 3) % bs.length := by rw [show (q : Int) * 7 + 3 = ((q * 7 + 3 : Nat) : Int) from by omega, ← Int.natCast_emod, Int.toNat_natCast]
        have b2a : 0 ≤ ((q : Int) * 7 + 3) % (bs.length : Int) := Int.emod_nonneg _ (by omega)
        have b2b : ((q : Int) * 7 + 3) % (bs.length : Int) < (bs.length : Int) := Int.emod_lt_of_pos _ (by omega)
        have m3 : Int.tdiv (q : Int) (bs.length : Int) = (q : Int) / (bs.length : Int) := Int.tdiv_eq_ediv_of_nonneg (by omega)
        have s4 : IntKind.i64.wrap x = x := IntWalk.i64_in _ (by omega)
        have s5 : IntKind.i64.wrap y = y := IntWalk.i64_in _ (by omega)
        have s6 : IntKind.i64.wrap (x * 131) = x * 131 := IntWalk.i64_in _ (by omega)
        have s7 : IntKind.i64.wrap (y * 1117) = y * 1117 := IntWalk.i64_in _ (by omega)
        have s8 : IntKind.i64.wrap (x * 131 + y * 1117) = x * 131 + y * 1117 := IntWalk.i64_in _ (by omega)
        have s9 : IntKind.i64.wrap ((q : Int) * 29) = (q : Int) * 29 := IntWalk.i64_in _ (by omega)
        have s10 : IntKind.i64.wrap (x * 131 + y * 1117 + (q : Int) * 29) = x * 131 + y * 1117 + (q : Int) * 29 := IntWalk.i64_in _ (by omega)
        have s11 : IntKind.i64.wrap ((q : Int) / (bs.length : Int)) = (q : Int) / (bs.length : Int) := IntWalk.i64_in _ (by omega)
        have s12 : IntKind.i64.wrap ((q : Int) / (bs.length : Int) * 53) = (q : Int) / (bs.length : Int) * 53 := IntWalk.i64_in _ (by omega)
        have s13 : IntKind.i64.wrap (x * 131 + y * 1117 + (q : Int) * 29 + (q : Int) / (bs.length : Int) * 53) = x * 131 + y * 1117 + (q : Int) * 29 + (q : Int) / (bs.length : Int) * 53 := IntWalk.i64_in _ (by omega)
        go_enter Try.func50, Try.ntmps50
        go_wp2
        refine wp_region_calm (by kernel_rfl) (by kernel_rfl) ?_
        repeat (quiet_step (fail))
        refine wpQuiet_nil ?_
        rintro _ ⟨g, rfl⟩
        have hg := g.upd
        go_wp2
        go_ret
        have hX : 0 ≤ bits BinOp.xor IntKind.i64 (x * 131 + y * 1117 + (q : Int) * 29 + (q : Int) / (bs.length : Int) * 53) ((x * 131 + y * 1117 + (q : Int) * 29 + (q : Int) / (bs.length : Int) * 53) / 64) := by
          obtain ⟨z, hz⟩ := Int.eq_ofNat_of_zero_le (show 0 ≤ x * 131 + y * 1117 + (q : Int) * 29 + (q : Int) / (bs.length : Int) * 53 by omega)
          have hzl : (z : Int) ≤ 100000000000000 := by rw [← hz]; omega
          rw [hz, show ((z : Int) / 64) = ((z / 64 : Nat) : Int) from by omega]
          exact xor_nonneg _ _ (by omega) (by omega)
        refine ⟨_, rfl, ?_, ?_, fun h => by omega, ?_, ?_⟩
        · rw [Int.tmod_eq_emod_of_nonneg hX]; exact Int.emod_nonneg _ (by omega)
        · rw [Int.tmod_eq_emod_of_nonneg hX]; exact fun _ => Int.emod_lt_of_pos _ (by omega)
        · exact Rdr.upd (by rw [← hw1]; exact HR.out) hg
        · exact Upd.trans (by rw [← hw1]; exact hu) (hg.any _)

set_option maxHeartbeats 400000 in
theorem l6Open_any (A : Option Addr) (c : Nat) (bs : List Int) (w : World) (hx : Sl w A (bs.map (.int .u8))) (hc : bs.length ≤ c) (hcm : c ≤ maxLen) (hb : ∀ b ∈ bs, 0 ≤ b ∧ b < 256) :
    Calls Try.prog 48 #[.slice A bs.length c] w fun e w' => e = .returned (.pointer (some ⟨w.heap.size, 0, none⟩)) ∧ Rdr w' w.heap.size 0 ∧ Upd [] w w' := by
  unfold maxLen at hcm
  have hlt : ∀ cs : List Value, cs ≠ [] → Sl w A cs → ∀ a, A = some a → a.block < w.heap.size := fun cs hne h a ha => by
    rcases h with h | ⟨b, o, rfl, h⟩
    · exact absurd h hne
    · cases ha
      match cs, hne with
      | u :: _, _ => exact World.block_lt_of_cell? w _ (h 0 u rfl)
  by_cases hl : 2000 < bs.length
  · have ht : Sl w A ((bs.take 2000).map (.int .u8)) := by
      rcases hx with h | ⟨b, o, rfl, h⟩
      · exact .inl (by rw [List.map_take, h]; rfl)
      · refine .inr ⟨b, o, rfl, fun j u hj => h j u ?_⟩
        rw [List.map_take, List.getElem?_take] at hj
        split at hj
        · exact hj
        · cases hj
    have hbl : (bs.take 2000).length = 2000 := by simp; omega
    go_enter Try.func48, Try.ntmps48
    go_wp2
    go_ret
    refine ⟨rfl, ⟨A, c, bs.take 2000, ?_, ht.grow ((Upd.refl _ _).alloc _), fun hne => hlt _ (by intro e; exact hne (by simpa using e)) ht, by omega, fun b hbm => hb b (List.mem_of_mem_take hbm)⟩, (Upd.refl _ _).alloc _⟩
    rw [hbl]
    exact heap_alloc_new w _
  · go_enter Try.func48, Try.ntmps48
    go_wp2
    go_ret
    exact ⟨rfl, ⟨A, c, bs, heap_alloc_new w _, hx.grow ((Upd.refl _ _).alloc _), fun hne => hlt _ (by intro e; exact hne (by simpa using e)) hx, by omega, hb⟩, (Upd.refl _ _).alloc _⟩
end Go.Proofs.Ytjkagmelpgpjgaa
