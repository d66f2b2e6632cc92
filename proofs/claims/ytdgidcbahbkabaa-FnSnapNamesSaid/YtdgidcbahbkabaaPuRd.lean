/- The reader of a code, plainly: a number is picked, its place goes on by one. -/
import Derived.Test.YtdgidcbahbkabaaPu
import Derived.Test.YtdgidcbahbkabaaQx10
namespace Go.Proofs.Ytdgidcbahbkabaa.Q
open Go.RowKit Go.Proofs.YtdgidcbahbkabaaW.PrintWords
set_option linter.unusedVariables false
set_option linter.unusedSimpArgs false

theorem xorNonneg (a b : Int) (ha : 0 ≤ a) (ha2 : a < 9223372036854775808) (hb : 0 ≤ b) (hb2 : b < 9223372036854775808) : 0 ≤ Go.bits .xor .i64 a b := by
  obtain ⟨a, rfl⟩ := Int.eq_ofNat_of_zero_le ha
  obtain ⟨b, rfl⟩ := Int.eq_ofNat_of_zero_le hb
  have e : ∀ c : Nat, c < 9223372036854775808 → (BitVec.ofInt 64 (c : Int)).toNat = c := fun c hc => by
    rw [BitVec.ofInt_natCast, BitVec.toNat_ofNat]; exact Nat.mod_eq_of_lt (by omega)
  have hx : a ^^^ b < 2 ^ 63 := Nat.xor_lt_two_pow (by omega) (by omega)
  have h2 : Go.bits .xor .i64 (a : Int) (b : Int) = ((a ^^^ b : Nat) : Int) := by
    show IntKind.i64.wrap ((BitVec.ofInt 64 (a : Int) ^^^ BitVec.ofInt 64 (b : Int)).toNat : Int) = _
    rw [BitVec.toNat_xor, e a (by omega), e b (by omega), IntKind.wrap_i64]
    omega
  rw [h2]
  omega
/-- A code that is read. -/
structure Code8 (s : List Int) : Prop where
  len : s.length ≤ 2000
  byte : ∀ b ∈ s, 0 ≤ b ∧ b < 256
theorem Code8.at_ {s : List Int} (h : Code8 s) (i : Int) : 0 ≤ rd s i ∧ rd s i < 256 := by
  unfold rd
  by_cases hi : i.toNat < s.length
  · have : s.getD i.toNat 0 = s[i.toNat] := by simp [hi]
    rw [this]
    exact h.byte _ (List.getElem_mem _)
  · simp [List.getD, List.getElem?_eq_none (Nat.le_of_not_lt hi)]
theorem tmod_in (x n : Int) (h0 : 0 ≤ x) (hn : 1 ≤ n) : 0 ≤ Int.tmod x n ∧ Int.tmod x n < n := by
  rw [Int.tmod_eq_emod_of_nonneg h0]
  exact ⟨Int.emod_nonneg _ (by omega), Int.emod_lt_of_pos _ (by omega)⟩
theorem pick_ev {s : List Int} (h : Code8 s) (p n : Int) (hp : 0 ≤ p) (hp2 : p ≤ 100000000) (hn2 : n ≤ 1000000) :
    ∃ r, Ev (fun k => spec_l6Rd_pick.f k s p n) (r, p + 1) ∧ 0 ≤ r ∧ (1 ≤ n → r < n) := by
  have e1 : wrap64 (p + 1) = p + 1 := wrap_in _ (by omega) (by omega)
  have e2 : wrap64 (p + 1 - 1) = p := by rw [wrap_in _ (by omega) (by omega)]; omega
  by_cases hn : n < 1
  · refine ⟨0, ?_, by omega, by omega⟩
    unfold spec_l6Rd_pick.f
    refine ev_pos hn (Ev.step (fun _ => spec_l6Rd_pick.j0.eq_2 ..) (ev_pos rfl ?_))
    rw [e1]
    exact ev_some
  · have hz : ¬ n = 0 := by omega
    by_cases hl : s.length = 0
    · refine ⟨0, ?_, by omega, by omega⟩
      unfold spec_l6Rd_pick.f
      refine ev_neg hn (Ev.step (fun _ => spec_l6Rd_pick.j0.eq_2 ..) (ev_pos (by simp [hl]) ?_))
      rw [e1]
      exact ev_some
    · have hlb : ¬ ((s.length : Int) == 0) = true := by simpa using hl
      by_cases hlt : p < (s.length : Int)
      · have hr := h.at_ p
        have e3 : wrap64 (rd s p) = rd s p := wrap_in _ (by omega) (by omega)
        refine ⟨Int.tmod (rd s p) n, ?_, (tmod_in _ n hr.1 (by omega)).1, fun _ => (tmod_in _ n hr.1 (by omega)).2⟩
        unfold spec_l6Rd_pick.f
        refine ev_neg hn (Ev.step (fun _ => spec_l6Rd_pick.j0.eq_2 ..) (ev_neg hlb ?_))
        simp only [e1, e2, if_pos hlt, if_pos hp, if_neg hz, e3]
        exact ev_some
      · have hlz : ¬ (s.length : Int) = 0 := by omega
        have hll := h.len
        have t1 := tmod_in p (s.length : Int) hp (by omega)
        have t2 := tmod_in (p * 7 + 3) (s.length : Int) (by omega) (by omega)
        obtain ⟨a, ha⟩ : ∃ a, Int.tmod p (s.length : Int) = a := ⟨_, rfl⟩
        obtain ⟨b, hb⟩ : ∃ b, Int.tmod (p * 7 + 3) (s.length : Int) = b := ⟨_, rfl⟩
        have hx := h.at_ a
        have hy := h.at_ b
        obtain ⟨x, hxe⟩ : ∃ x, rd s a = x := ⟨_, rfl⟩
        obtain ⟨y, hye⟩ : ∃ y, rd s b = y := ⟨_, rfl⟩
        obtain ⟨d, hd⟩ : ∃ d, Int.tdiv p (s.length : Int) = d := ⟨_, rfl⟩
        have hd0 : 0 ≤ d ∧ d ≤ p := by
          rw [← hd, Int.tdiv_eq_ediv_of_nonneg hp]
          exact ⟨Int.ediv_nonneg hp (by omega), Int.ediv_le_self _ hp⟩
        rw [ha] at t1
        rw [hb] at t2
        rw [hxe] at hx
        rw [hye] at hy
        have f1 : wrap64 (p * 7) = p * 7 := wrap_in _ (by omega) (by omega)
        have f2 : wrap64 (p * 7 + 3) = p * 7 + 3 := wrap_in _ (by omega) (by omega)
        have f3 : wrap64 x = x := wrap_in _ (by omega) (by omega)
        have f4 : wrap64 y = y := wrap_in _ (by omega) (by omega)
        have f5 : wrap64 (x * 131) = x * 131 := wrap_in _ (by omega) (by omega)
        have f6 : wrap64 (y * 1117) = y * 1117 := wrap_in _ (by omega) (by omega)
        have f7 : wrap64 (x * 131 + y * 1117) = x * 131 + y * 1117 := wrap_in _ (by omega) (by omega)
        have f8 : wrap64 (p * 29) = p * 29 := wrap_in _ (by omega) (by omega)
        have f9 : wrap64 (x * 131 + y * 1117 + p * 29) = x * 131 + y * 1117 + p * 29 := wrap_in _ (by omega) (by omega)
        have f10 : wrap64 d = d := wrap_in _ (by omega) (by omega)
        have f11 : wrap64 (d * 53) = d * 53 := wrap_in _ (by omega) (by omega)
        have f12 : wrap64 (x * 131 + y * 1117 + p * 29 + d * 53) = x * 131 + y * 1117 + p * 29 + d * 53 := wrap_in _ (by omega) (by omega)
        obtain ⟨z, hz2⟩ : ∃ z, x * 131 + y * 1117 + p * 29 + d * 53 = z := ⟨_, rfl⟩
        have hz0 : 0 ≤ z ∧ z ≤ 1000000000000 := by omega
        have f14 : wrap64 z = z := wrap_in _ (by omega) (by omega)
        have f13 : wrap64 (Int.tdiv z 64) = z / 64 := by rw [Int.tdiv_eq_ediv_of_nonneg hz0.1]; exact wrap_in _ (by omega) (by omega)
        have hX := xorNonneg z (z / 64) hz0.1 (by omega) (by omega) (by omega)
        refine ⟨Int.tmod (Go.bits .xor .i64 z (z / 64)) n, ?_, (tmod_in _ n hX (by omega)).1, fun _ => (tmod_in _ n hX (by omega)).2⟩
        unfold spec_l6Rd_pick.f
        refine ev_neg hn (Ev.step (fun _ => spec_l6Rd_pick.j0.eq_2 ..) (ev_neg hlb ?_))
        simp only [e1, e2, if_neg hlt, if_neg hlz, f1, f2, ha, hb, if_pos t1.1, if_pos t1.2, if_pos t2.1, if_pos t2.2, if_neg hz, hxe, hye, f3, f4, f5, f6, f7, f8, f9, hd, f10, f11, f12, hz2, f14, f13]
        exact ev_some
theorem open_code (l : List Int) (hb : ∀ b ∈ l, 0 ≤ b ∧ b < 256) (hl : l.length ≤ 9223372036854775807) : ∃ s, spec_l6Open.f l = some (s, 0) ∧ Code8 s := by
  unfold spec_l6Open.f
  by_cases h : (l.length : Int) > 2000
  · rw [if_pos h, if_pos (by omega)]
    exact ⟨_, rfl, by simp; omega, fun b hm => hb b (List.mem_of_mem_take hm)⟩
  · rw [if_neg h]
    exact ⟨_, rfl, by omega, hb⟩
/-- Bytes, as a law has them. -/
theorem bytes_in {l : List Int} (h : ∀ x ∈ l, (Lit.int .u8 x).wf = true) : ∀ b ∈ l, 0 ≤ b ∧ b < 256 := fun b hb => by
  have := h b hb
  have h1 : IntKind.u8.min = 0 := by decide +kernel
  have h2 : IntKind.u8.max = 255 := by decide +kernel
  simp only [Lit.wf, Bool.and_eq_true, decide_eq_true_eq] at this
  omega
end Go.Proofs.Ytdgidcbahbkabaa.Q
