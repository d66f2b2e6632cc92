/- Drawn logs and memories: some log comes back, in memory of its own. -/
import Derived.Test.YtjkagmelpgpjgaaLn
import Derived.Test.YtjkagmelpgpjgaaRd
namespace Go.Proofs.Ytjkagmelpgpjgaa
open Go.RowKit
set_option linter.unusedVariables false
set_option linter.unusedSimpArgs false

/-- Some log has been drawn, of at most m heads, with at most k picks. -/
def DrewLog (rb : Nat) (p : Int) (m : Nat) (k : Int) (w : World) (e : Ending) (w' : World) : Prop :=
  ∃ (A : Option Addr) (c : Nat) (xs : List Head) (p' : Int), e = .returned (.slice A xs.length c) ∧ Own w' w.heap.size 27 2 A xs.length c (xs.flatMap encHead) ∧ xs.length ≤ m ∧ Rdr w' rb p' ∧ p ≤ p' ∧ p' ≤ p + k ∧ Upd [rb] w w'

set_option maxHeartbeats 1000000 in
theorem l92Log_any (rb : Nat) (p : Int) (w : World) (h : Rdr w rb p) (hp0 : 0 ≤ p) (hp : p ≤ 100000000) :
    Calls Try.prog 49 #[.pointer (some ⟨rb, 0, none⟩)] w (DrewLog rb p 8 100 w) := by
  have hrb := h.lt
  go_enter Try.func49, Try.ntmps49
  go_wp2_with fail
  have o0 : Own (w.alloc (.cells #[] 27)) w.heap.size 27 2 (some ⟨w.heap.size, 0, none⟩) 0 0 [] := Own.lit w [] 0 (Nat.le_refl _) (by simp [maxLen]) rfl
  refine (pick_any rb p 8 _ (h.upd ((Upd.refl _ _).alloc _)) (by omega) (by omega) (by omega) (by omega)).mono ?_
  rintro e w1 ⟨n, rfl, na, nb, nc, r1, u1⟩
  have nd := nb (by omega)
  clear nb nc
  have o1 := o0.far u1 (by simp; omega)
  have U1 : Upd [rb] w w1 := ((Upd.refl [rb] w).alloc _).trans u1
  obtain ⟨n, rfl⟩ := Int.eq_ofNat_of_zero_le na
  go_wp2_with fail
  go_loopw [3, 4] (fun l nn wr => ∃ (A : Option Addr) (c : Nat) (xs : List Head) (m : Nat) (p' : Int), l = .slice A xs.length c ∧ nn = .int .i64 m ∧
      Own wr w.heap.size 27 2 A xs.length c (xs.flatMap encHead) ∧ xs.length + m ≤ 7 ∧ Rdr wr rb p' ∧ p ≤ p' ∧ p' ≤ p + 20 - 2 * m ∧ Upd [rb] w wr) (fun _ nn _ => (intOf nn).toNat)
  case atStart => exact ⟨_, _, [], n, p + 1, rfl, rfl, o1, by simp; omega, r1, by omega, by omega, U1⟩
  case round =>
    obtain ⟨A, c, xs, m, q, rfl, rfl, hown, hlen, hr, hq1, hq2, hu⟩ := hrel
    by_cases hm : 0 < m
    · go_wp2_with fail
      refine (pick_any rb q 2 _ hr (by omega) (by omega) (by omega) (by omega)).mono ?_
      rintro e v1 ⟨y1, rfl, -, -, -, s1, z1⟩
      have q1 := hown.far z1 (by simp; omega)
      have Z1 := hu.trans z1
      go_wp2_with fail
      refine (pick_any rb (q + 1) 20 _ s1 (by omega) (by omega) (by omega) (by omega)).mono ?_
      rintro e v2 ⟨y2, rfl, -, -, -, s2, z2⟩
      have q2 := q1.far z2 (by simp; omega)
      have Z2 := Z1.trans z2
      go_wp2_with (at_builtin; refine append_one rfl _ _ _ rfl headT rfl q2 rfl rfl (by simp [Value.oneCell']) (by unfold maxLen; omega) (by omega) Z2 (Nat.le_refl _) Z2.size ?_; intro A' c' v3 q3 Z3 z3 hA')
      have hL : (xs ++ [⟨wrap64 (1 + y1), wrap64 (1 + y2)⟩] : List Head).length = xs.length + 1 := by simp
      refine ⟨⟨A', c', xs ++ [⟨_, _⟩], m - 1, q + 1 + 1, by rw [hL], by go_num, by rw [hL, ← flat_snocHead]; exact q3, by rw [hL]; omega, s2.far z3 (fun x hx => by have := q2.mem x hx; omega), by omega, by omega, Z3⟩, by simp [intOf]; omega⟩
    · obtain rfl : m = 0 := by omega
      go_wp2_with fail
      refine (pick_any rb q 30 _ hr (by omega) (by omega) (by omega) (by omega)).mono ?_
      rintro e v1 ⟨y1, rfl, -, -, -, s1, z1⟩
      have q1 := hown.far z1 (by simp; omega)
      have Z1 := hu.trans z1
      by_cases hy : y1 = 0
      · have hb : (y1 == 0) = true := by simp [hy]
        have HY := Lib.hid hy
        clear hy
        go_wp2_with fail
        refine (pick_any rb (q + 1) 4 _ s1 (by omega) (by omega) (by omega) (by omega)).mono ?_
        rintro e v2 ⟨y2, rfl, -, -, -, s2, z2⟩
        have q2 := q1.far z2 (by simp; omega)
        have Z2 := Z1.trans z2
        go_wp2_with fail
        refine (pick_any rb (q + 1 + 1) 23 _ s2 (by omega) (by omega) (by omega) (by omega)).mono ?_
        rintro e v3 ⟨y3, rfl, -, -, -, s3, z3⟩
        have q3 := q2.far z3 (by simp; omega)
        have Z3 := Z2.trans z3
        go_wp2_with (at_builtin; refine append_one rfl _ _ _ rfl headT rfl q3 rfl rfl (by simp [Value.oneCell']) (by unfold maxLen; omega) (by omega) Z3 (Nat.le_refl _) Z3.size ?_; intro A' c' v4 q4 Z4 z4 hA')
        go_ret
        have hL : (xs ++ [⟨y2, y3⟩] : List Head).length = xs.length + 1 := by simp
        exact ⟨A', c', xs ++ [⟨y2, y3⟩], q + 1 + 1 + 1, congrArg (fun k => Ending.returned (.slice A' k c')) hL.symm, by rw [hL, ← flat_snocHead]; exact q4, by rw [hL]; omega, s3.far z4 (fun x hx => by have := q3.mem x hx; omega), by omega, by omega, Z4⟩
      · have hb : (y1 == 0) = false := by simpa using hy
        go_wp2
        go_ret
        exact ⟨A, c, xs, q + 1, rfl, q1, by omega, s1, by omega, by omega, Z1⟩

/-- A drawn log, the code read by a reader of the call's own. -/
def DrawnLog (m : Nat) (w : World) (e : Ending) (w' : World) : Prop :=
  ∃ (A : Option Addr) (c : Nat) (xs : List Head), e = .returned (.slice A xs.length c) ∧ Own w' w.heap.size 27 2 A xs.length c (xs.flatMap encHead) ∧ xs.length ≤ m ∧ Upd [] w w'
set_option maxHeartbeats 1000000 in
theorem drawLogOk_any (A : Option Addr) (c : Nat) (bs : List Int) (w : World) (hx : Sl w A (bs.map (.int .u8))) (hc : bs.length ≤ c) (hcm : c ≤ maxLen) (hb : ∀ b ∈ bs, 0 ≤ b ∧ b < 256) :
    Calls Try.prog 21 #[.slice A bs.length c] w (DrawnLog 9 w) := by
  go_enter Try.func21, Try.ntmps21
  go_wp2_with fail
  refine (l6Open_any A c bs _ hx hc hcm hb).mono ?_
  rintro e w1 ⟨rfl, r1, u1⟩
  go_wp2_with fail
  refine (l92Log_any _ 0 _ r1 (by omega) (by omega)).mono ?_
  rintro e w2 ⟨B, d, xs, p2, rfl, o2, l2, r2, p2a, p2b, u2⟩
  have U2 := u1.then u2 (by simp)
  go_wp2_with fail
  refine (pick_any _ p2 5 _ r2 (by omega) (by omega) (by omega) (by omega)).mono ?_
  rintro e w3 ⟨y1, rfl, -, -, -, r3, u3⟩
  have o3 := o2.far u3 (by have := r1.lt; simp; omega)
  have U3 := U2.then u3 (by simp)
  by_cases hy : y1 = 0
  · have hb : (y1 == 0) = true := by simp [hy]
    have HY := Lib.hid hy
    clear hy
    go_wp2_with fail
    refine (pick_any _ (p2 + 1) 4 _ r3 (by omega) (by omega) (by omega) (by omega)).mono ?_
    rintro e w4 ⟨y2, rfl, -, -, -, r4, u4⟩
    have o4 := o3.far u4 (by have := r1.lt; simp; omega)
    have U4 := U3.then u4 (by simp)
    go_wp2_with fail
    refine (pick_any _ (p2 + 1 + 1) 23 _ r4 (by omega) (by omega) (by omega) (by omega)).mono ?_
    rintro e w5 ⟨y3, rfl, -, -, -, r5, u5⟩
    have o5 := o4.far u5 (by have := r1.lt; simp; omega)
    have U5 := U4.then u5 (by simp)
    go_wp2_with (at_builtin; refine append_one rfl _ _ _ rfl headT rfl (o5.base_le u1.size) rfl rfl (by simp [Value.oneCell']) (by unfold maxLen; omega) (by omega) U5 (Nat.le_refl _) U5.size ?_; intro A' c' w6 o6 U6 u6 hA')
    go_ret
    have hL : (xs ++ [⟨y2, y3⟩] : List Head).length = xs.length + 1 := by simp
    exact ⟨A', c', xs ++ [⟨y2, y3⟩], congrArg (fun k => Ending.returned (.slice A' k c')) hL.symm, by rw [hL, ← flat_snocHead]; exact o6, by rw [hL]; omega, U6⟩
  · have hb : (y1 == 0) = false := by simpa using hy
    go_wp2
    go_ret
    exact ⟨B, d, xs, rfl, o3.base_le u1.size, by omega, U3⟩
set_option maxHeartbeats 1000000 in
theorem drawLogSum_any (A : Option Addr) (c : Nat) (bs : List Int) (w : World) (hx : Sl w A (bs.map (.int .u8))) (hc : bs.length ≤ c) (hcm : c ≤ maxLen) (hb : ∀ b ∈ bs, 0 ≤ b ∧ b < 256) :
    Calls Try.prog 31 #[.slice A bs.length c] w (DrawnLog 9 w) := by
  go_enter Try.func31, Try.ntmps31
  go_wp2_with fail
  refine (l6Open_any A c bs _ hx hc hcm hb).mono ?_
  rintro e w1 ⟨rfl, r1, u1⟩
  go_wp2_with fail
  refine (l92Log_any _ 0 _ r1 (by omega) (by omega)).mono ?_
  rintro e w2 ⟨B, d, xs, p2, rfl, o2, l2, r2, p2a, p2b, u2⟩
  have U2 := u1.then u2 (by simp)
  go_wp2
  go_ret
  exact ⟨B, d, xs, rfl, o2.base_le u1.size, by omega, U2⟩
end Go.Proofs.Ytjkagmelpgpjgaa
