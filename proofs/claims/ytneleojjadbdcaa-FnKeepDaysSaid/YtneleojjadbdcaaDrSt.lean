/- Drawn histories of snapshots: some history comes back, in memory of its own. -/
import Derived.Test.YtneleojjadbdcaaKStamp
import Derived.Test.YtneleojjadbdcaaRd
namespace Go.Proofs.Ytneleojjadbdcaa
open Go.RowKit
set_option linter.unusedVariables false
set_option linter.unusedSimpArgs false

/-- Some history has been drawn, of at most m snapshots, with at most k picks. -/
def DrewStamps (rb : Nat) (p : Int) (m : Nat) (k : Int) (w : World) (e : Ending) (w' : World) : Prop :=
  ∃ (A : Option Addr) (c : Nat) (xs : List Stamp) (p' : Int), e = .returned (.slice A xs.length c) ∧ Own w' w.heap.size 32 2 A xs.length c (xs.flatMap encStamp) ∧ xs.length ≤ m ∧ Rdr w' rb p' ∧ p ≤ p' ∧ p' ≤ p + k ∧ Upd [rb] w w'

set_option maxHeartbeats 1000000 in
theorem l92Stamps_any (rb : Nat) (p : Int) (w : World) (h : Rdr w rb p) (hp0 : 0 ≤ p) (hp : p ≤ 100000000) :
    Calls Try.prog 33 #[.pointer (some ⟨rb, 0, none⟩)] w (DrewStamps rb p 10 100 w) := by
  have hrb := h.lt
  go_enter Try.func33, Try.ntmps33
  go_wp2_with fail
  have o0 : Own (w.alloc (.cells #[] 32)) w.heap.size 32 2 (some ⟨w.heap.size, 0, none⟩) 0 0 [] := Own.lit w [] 0 (Nat.le_refl _) (by simp [maxLen]) rfl
  refine (pick_any rb p 10 _ (h.upd ((Upd.refl _ _).alloc _)) (by omega) (by omega) (by omega) (by omega)).mono ?_
  rintro e w1 ⟨x1, rfl, x1a, x1b, x1c, r1, u1⟩
  have x1d := x1b (by omega)
  clear x1b x1c
  have o1 := o0.far u1 (by simp; omega)
  have U1 : Upd [rb] w w1 := ((Upd.refl [rb] w).alloc _).trans u1
  go_wp2_with fail
  refine (pick_any rb (p + 1) 10 _ r1 (by omega) (by omega) (by omega) (by omega)).mono ?_
  rintro e w2 ⟨n, rfl, na, nb, nc, r2, u2⟩
  have nd := nb (by omega)
  clear nb nc
  have o2 := o1.far u2 (by simp; omega)
  have U2 := U1.trans u2
  obtain ⟨n, rfl⟩ := Int.eq_ofNat_of_zero_le na
  go_wp2_with fail
  go_loopw [3, 4, 5, 6] (fun l sn dy nn wr => ∃ (A : Option Addr) (c : Nat) (xs : List Stamp) (s d : Int) (m : Nat) (p' : Int), l = .slice A xs.length c ∧ sn = .int .i64 s ∧ dy = .int .i64 d ∧ nn = .int .i64 m ∧
      Own wr w.heap.size 32 2 A xs.length c (xs.flatMap encStamp) ∧ xs.length + m ≤ 9 ∧ Rdr wr rb p' ∧ p ≤ p' ∧ p' ≤ p + 20 - 2 * m ∧ Upd [rb] w wr) (fun _ _ _ nn _ => (intOf nn).toNat)
  case atStart => exact ⟨_, _, [], 0, x1, n, p + 1 + 1, rfl, rfl, rfl, rfl, o2, by simp; omega, r2, by omega, by omega, U2⟩
  case round =>
    obtain ⟨A, c, xs, s, d, m, q, rfl, rfl, rfl, rfl, hown, hlen, hr, hq1, hq2, hu⟩ := hrel
    by_cases hm : 0 < m
    · go_wp2_with fail
      refine (pick_any rb q 2 _ hr (by omega) (by omega) (by omega) (by omega)).mono ?_
      rintro e v1 ⟨y1, rfl, -, -, -, s1, z1⟩
      have q1 := hown.far z1 (by simp; omega)
      have Z1 := hu.trans z1
      go_wp2_with fail
      refine (pick_any rb (q + 1) 6 _ (s1.upd ((Upd.refl _ _).alloc _)) (by omega) (by omega) (by omega) (by omega)).mono ?_
      rintro e v2 ⟨y2, rfl, y2a, y2b, -, s2, z2⟩
      have y2c := y2b (by omega)
      clear y2b
      have z2' : Upd [rb] v1 v2 := ((Upd.refl [rb] v1).alloc _).trans z2
      have q2 := q1.far z2' (by simp; omega)
      have Z2 := Z1.trans z2'
      obtain ⟨k2, rfl⟩ := Int.eq_ofNat_of_zero_le y2a
      obtain ⟨dd, hdd⟩ : ∃ dd : Int, v2.cell? ⟨v1.heap.size, k2, none⟩ = some (.int .i64 dd) := by
        have hc : ∃ dd : Int, (v1.alloc (.cells #[.int .i64 0, .int .i64 0, .int .i64 1, .int .i64 1, .int .i64 3, .int .i64 8] 3)).cell? ⟨v1.heap.size, k2, none⟩ = some (.int .i64 dd) := by
          rw [cell_of_row _ _ _ _ _ _ (heap_alloc_new v1 _)]
          match k2, y2c with
          | 0, _ | 1, _ | 2, _ | 3, _ | 4, _ | 5, _ => exact ⟨_, rfl⟩
        obtain ⟨dd, hc⟩ := hc
        exact ⟨dd, z2.cell hc (by have := s1.lt; simp; omega)⟩
      go_wp2_with (at_builtin; refine append_one rfl _ _ _ rfl stampT rfl q2 rfl rfl (by simp [Value.oneCell']) (by unfold maxLen; omega) (by omega) Z2 (Nat.le_refl _) Z2.size ?_; intro A' c' v3 q3 Z3 z3 hA')
      have hL : (xs ++ [⟨wrap64 (wrap64 (s + 1) + y1), wrap64 (d + dd)⟩] : List Stamp).length = xs.length + 1 := by simp
      refine ⟨⟨A', c', xs ++ [⟨_, _⟩], _, _, m - 1, q + 1 + 1, by rw [hL], rfl, rfl, by go_num, by rw [hL, ← flat_snocStamp]; exact q3, by rw [hL]; omega, s2.far z3 (fun x hx => by have := q2.mem x hx; omega), by omega, by omega, Z3⟩, by simp [intOf]; omega⟩
    · obtain rfl : m = 0 := by omega
      go_wp2_with fail
      refine (pick_any rb q 30 _ hr (by omega) (by omega) (by omega) (by omega)).mono ?_
      rintro e v1 ⟨y1, rfl, -, -, -, s1, z1⟩
      have q1 := hown.far z1 (by simp; omega)
      have Z1 := hu.trans z1
      by_cases hy : y1 = 0
      · have hb : (y1 == 0) = true := by simp [hy]
        have HY := Lib.hid hy
        clear hy
        go_wp2_with fail
        refine (pick_any rb (q + 1) 23 _ s1 (by omega) (by omega) (by omega) (by omega)).mono ?_
        rintro e v2 ⟨y2, rfl, -, -, -, s2, z2⟩
        have q2 := q1.far z2 (by simp; omega)
        have Z2 := Z1.trans z2
        go_wp2_with fail
        refine (pick_any rb (q + 1 + 1) 101 _ s2 (by omega) (by omega) (by omega) (by omega)).mono ?_
        rintro e v3 ⟨y3, rfl, -, -, -, s3, z3⟩
        have q3 := q2.far z3 (by simp; omega)
        have Z3 := Z2.trans z3
        go_wp2_with (at_builtin; refine append_one rfl _ _ _ rfl stampT rfl q3 rfl rfl (by simp [Value.oneCell']) (by unfold maxLen; omega) (by omega) Z3 (Nat.le_refl _) Z3.size ?_; intro A' c' v4 q4 Z4 z4 hA')
        go_ret
        have hL : (xs ++ [⟨y2, y3⟩] : List Stamp).length = xs.length + 1 := by simp
        exact ⟨A', c', xs ++ [⟨y2, y3⟩], q + 1 + 1 + 1, congrArg (fun k => Ending.returned (.slice A' k c')) hL.symm, by rw [hL, ← flat_snocStamp]; exact q4, by rw [hL]; omega, s3.far z4 (fun x hx => by have := q3.mem x hx; omega), by omega, by omega, Z4⟩
      · have hb : (y1 == 0) = false := by simpa using hy
        go_wp2
        go_ret
        exact ⟨A, c, xs, q + 1, rfl, q1, by omega, s1, by omega, by omega, Z1⟩

/-- A drawn history, the code read by a reader of the call's own. -/
def DrawnStamps (m : Nat) (w : World) (e : Ending) (w' : World) : Prop :=
  ∃ (A : Option Addr) (c : Nat) (xs : List Stamp), e = .returned (.slice A xs.length c) ∧ Own w' w.heap.size 32 2 A xs.length c (xs.flatMap encStamp) ∧ xs.length ≤ m ∧ Upd [] w w'
set_option maxHeartbeats 1000000 in
theorem drawStampsOk_any (A : Option Addr) (c : Nat) (bs : List Int) (w : World) (hx : Sl w A (bs.map (.int .u8))) (hc : bs.length ≤ c) (hcm : c ≤ maxLen) (hb : ∀ b ∈ bs, 0 ≤ b ∧ b < 256) :
    Calls Try.prog 16 #[.slice A bs.length c] w (DrawnStamps 11 w) := by
  go_enter Try.func16, Try.ntmps16
  go_wp2_with fail
  refine (l6Open_any A c bs _ hx hc hcm hb).mono ?_
  rintro e w1 ⟨rfl, r1, u1⟩
  go_wp2_with fail
  refine (l92Stamps_any _ 0 _ r1 (by omega) (by omega)).mono ?_
  rintro e w2 ⟨B, d, xs, p2, rfl, o2, l2, r2, p2a, p2b, u2⟩
  have U2 := u1.then u2 (by simp)
  go_wp2_with fail
  refine (pick_any _ p2 4 _ r2 (by omega) (by omega) (by omega) (by omega)).mono ?_
  rintro e w3 ⟨y1, rfl, -, -, -, r3, u3⟩
  have o3 := o2.far u3 (by have := r1.lt; simp; omega)
  have U3 := U2.then u3 (by simp)
  by_cases hy : y1 = 0
  · have hb : (y1 == 0) = true := by simp [hy]
    have HY := Lib.hid hy
    clear hy
    go_wp2_with fail
    refine (pick_any _ (p2 + 1) 23 _ r3 (by omega) (by omega) (by omega) (by omega)).mono ?_
    rintro e w4 ⟨y2, rfl, -, -, -, r4, u4⟩
    have o4 := o3.far u4 (by have := r1.lt; simp; omega)
    have U4 := U3.then u4 (by simp)
    go_wp2_with fail
    refine (pick_any _ (p2 + 1 + 1) 101 _ r4 (by omega) (by omega) (by omega) (by omega)).mono ?_
    rintro e w5 ⟨y3, rfl, -, -, -, r5, u5⟩
    have o5 := o4.far u5 (by have := r1.lt; simp; omega)
    have U5 := U4.then u5 (by simp)
    go_wp2_with (at_builtin; refine append_one rfl _ _ _ rfl stampT rfl (o5.base_le u1.size) rfl rfl (by simp [Value.oneCell']) (by unfold maxLen; omega) (by omega) U5 (Nat.le_refl _) U5.size ?_; intro A' c' w6 o6 U6 u6 hA')
    go_ret
    have hL : (xs ++ [⟨y2, y3⟩] : List Stamp).length = xs.length + 1 := by simp
    exact ⟨A', c', xs ++ [⟨y2, y3⟩], congrArg (fun k => Ending.returned (.slice A' k c')) hL.symm, by rw [hL, ← flat_snocStamp]; exact o6, by rw [hL]; omega, U6⟩
  · have hb : (y1 == 0) = false := by simpa using hy
    go_wp2
    go_ret
    exact ⟨B, d, xs, rfl, o3.base_le u1.size, by omega, U3⟩

/-- A drawn history and a number. -/
def DrawnStamps1 (w : World) (e : Ending) (w' : World) : Prop :=
  ∃ (A : Option Addr) (c : Nat) (xs : List Stamp) (n : Int), e = .returned (.tuple #[.slice A xs.length c, .int .i64 n]) ∧ Own w' w.heap.size 32 2 A xs.length c (xs.flatMap encStamp) ∧ xs.length ≤ 10 ∧ -1 ≤ n ∧ n ≤ 6 ∧ Upd [] w w'
/-- A drawn history and two numbers. -/
def DrawnStamps2 (w : World) (e : Ending) (w' : World) : Prop :=
  ∃ (A : Option Addr) (c : Nat) (xs : List Stamp) (m n : Int), e = .returned (.tuple #[.slice A xs.length c, .int .i64 m, .int .i64 n]) ∧ Own w' w.heap.size 32 2 A xs.length c (xs.flatMap encStamp) ∧ xs.length ≤ 10 ∧ -1000 ≤ m ∧ m ≤ 1000 ∧ 0 ≤ n ∧ n ≤ 6 ∧ Upd [] w w'
set_option maxHeartbeats 1000000 in
theorem drawKeepLast_any (A : Option Addr) (c : Nat) (bs : List Int) (w : World) (hx : Sl w A (bs.map (.int .u8))) (hc : bs.length ≤ c) (hcm : c ≤ maxLen) (hb : ∀ b ∈ bs, 0 ≤ b ∧ b < 256) :
    Calls Try.prog 17 #[.slice A bs.length c] w (DrawnStamps1 w) := by
  go_enter Try.func17, Try.ntmps17
  go_wp2_with fail
  refine (l6Open_any A c bs _ hx hc hcm hb).mono ?_
  rintro e w1 ⟨rfl, r1, u1⟩
  go_wp2_with fail
  refine (l92Stamps_any _ 0 _ r1 (by omega) (by omega)).mono ?_
  rintro e w2 ⟨B, d, xs, p2, rfl, o2, l2, r2, p2a, p2b, u2⟩
  have U2 := u1.then u2 (by simp)
  go_wp2_with fail
  refine (pick_any _ p2 6 _ r2 (by omega) (by omega) (by omega) (by omega)).mono ?_
  rintro e w3 ⟨y1, rfl, ya, yb, -, r3, u3⟩
  have yc := yb (by omega)
  clear yb
  have o3 := o2.far u3 (by have := r1.lt; simp; omega)
  have U3 := U2.then u3 (by simp)
  go_wp2_with fail
  refine (pick_any _ (p2 + 1) 24 _ r3 (by omega) (by omega) (by omega) (by omega)).mono ?_
  rintro e w4 ⟨y2, rfl, za, zb, -, r4, u4⟩
  have zc := zb (by omega)
  clear zb
  have o4 := o3.far u4 (by have := r1.lt; simp; omega)
  have U4 := U3.then u4 (by simp)
  go_wp2
  go_ret2
  exact ⟨B, d, xs, y1 - y2 / 23, rfl, o4.base_le u1.size, l2, by omega, by omega, U4⟩
set_option maxHeartbeats 1000000 in
theorem drawKeepDays_any (A : Option Addr) (c : Nat) (bs : List Int) (w : World) (hx : Sl w A (bs.map (.int .u8))) (hc : bs.length ≤ c) (hcm : c ≤ maxLen) (hb : ∀ b ∈ bs, 0 ≤ b ∧ b < 256) :
    Calls Try.prog 21 #[.slice A bs.length c] w (DrawnStamps2 w) := by
  go_enter Try.func21, Try.ntmps21
  go_wp2_with fail
  refine (l6Open_any A c bs _ hx hc hcm hb).mono ?_
  rintro e w1 ⟨rfl, r1, u1⟩
  go_wp2_with fail
  go_cut [2, 3, 4] (fun v2 v3 v4 wx => ∃ (B : Option Addr) (d : Nat) (xs : List Stamp) (m n : Int), v2 = .slice B xs.length d ∧ v3 = .int .i64 m ∧ v4 = .int .i64 n ∧ Own wx w.heap.size 32 2 B xs.length d (xs.flatMap encStamp) ∧ xs.length ≤ 10 ∧ -1000 ≤ m ∧ m ≤ 1000 ∧ 0 ≤ n ∧ n ≤ 6 ∧ Upd [] w wx)
  case first =>
    have hlt := r1.lt
    go_region_with (first
      | (go_at_call 33; refine (l92Stamps_any _ 0 _ ?_ (by omega) (by omega)).mono ?_; exact r1.upd ((Upd.refl _ _).drew); rintro e w2 ⟨B, d, xs, p2, rfl, o2, l2, r2, p2a, p2b, u2⟩; have U2 := u1.then ((Upd.refl [] w1).drew.any [w.heap.size] |>.trans u2) (by simp))
      | (go_at_call_of 34 (Value.int IntKind.i64 10); refine (pick_any _ p2 10 _ ?_ (by omega) (by omega) (by omega) (by omega)).mono ?_; exact r2; rintro e w3 ⟨x1, rfl, x1a, x1b, -, r3, u3⟩; have x1c := x1b (by omega); clear x1b; have o3 := o2.far u3 (by simp; omega); have U3 := U2.then u3 (by simp); have s1 : IntKind.i64.wrap (1 + x1) = 1 + x1 := IntWalk.i64_in _ (by omega))
      | (go_at_call_of 34 (Value.int IntKind.i64 4); refine (pick_any _ (p2 + 1) 4 _ ?_ (by omega) (by omega) (by omega) (by omega)).mono ?_; (first | exact r3 | exact r3.upd ((Upd.refl _ _).alloc _)); rintro e w4 ⟨y, rfl, ya, yb, -, r4, u4⟩; have yc := yb (by omega); clear yb; obtain ⟨k, rfl⟩ := Int.eq_ofNat_of_zero_le ya; obtain ⟨t, ht, hta, htb⟩ : ∃ t : Int, (#[.int .i64 1, .int .i64 7, .int .i64 (1 + x1), .int .i64 0] : Array Value)[k]? = some (.int .i64 t) ∧ 0 ≤ t ∧ t ≤ 100 := (match k, yc with | 0, _ => ⟨1, rfl, by omega, by omega⟩ | 1, _ => ⟨7, rfl, by omega, by omega⟩ | 2, _ => ⟨1 + x1, rfl, by omega, by omega⟩ | 3, _ => ⟨0, rfl, by omega, by omega⟩); (try have hc4 := u4.cell (p := ⟨w3.heap.size, k, none⟩) (v := .int .i64 t) (by rw [cell_of_row _ _ _ _ _ _ (heap_alloc_new w3 _)]; exact ht) (by have := r3.lt; simp; omega)); have o4 : Own w4 w1.heap.size 32 2 B xs.length d (xs.flatMap encStamp) := (by first | exact o3.far u4 (by simp; omega) | exact (o3.grow ((Upd.refl _ _).alloc _)).far u4 (by simp; omega)); have U4 : Upd [] w w4 := (by first | exact U3.then u4 (by simp) | exact (U3.alloc _).then u4 (by simp)))
      | (go_at_call_of 34 (Value.int IntKind.i64 6); refine (pick_any _ (p2 + 1 + 1) 6 _ ?_ (by omega) (by omega) (by omega) (by omega)).mono ?_; (first | exact r4 | exact r4.upd ((Upd.refl _ _).alloc _)); rintro e w5 ⟨z, rfl, za, zb, -, r5, u5⟩; have zc := zb (by omega); clear zb; (try have hc5 := u5.cell hc4 (by have := r3.lt; simp; omega)); (try have hc6 := u5.cell (p := ⟨w4.heap.size, k, none⟩) (v := .int .i64 t) (by rw [cell_of_row _ _ _ _ _ _ (heap_alloc_new w4 _)]; exact ht) (by have := r4.lt; simp; omega)); have o5 : Own w5 w1.heap.size 32 2 B xs.length d (xs.flatMap encStamp) := (by first | exact o4.far u5 (by simp; omega) | exact (o4.grow ((Upd.refl _ _).alloc _)).far u5 (by simp; omega)); have U5 : Upd [] w w5 := (by first | exact U4.then u5 (by simp) | exact (U4.alloc _).then u5 (by simp))))
    all_goals
      go_wp2
      go_meet
      case rel =>
        first
          | exact ⟨B, d, xs, t, z, rfl, rfl, rfl, o5.base_le u1.size, l2, by omega, by omega, by omega, by omega, U5⟩
          | exact ⟨B, d, xs, t, z, rfl, rfl, rfl, (o5.grow ((Upd.refl _ _).alloc _)).base_le u1.size, l2, by omega, by omega, by omega, by omega, U5.alloc _⟩
  case rest =>
    obtain ⟨B, d, xs, m, n, rfl, rfl, rfl, o2, l2, ma, mb, na, nb, U2⟩ := hcut
    go_wp2
    go_ret3
    exact ⟨B, d, xs, m, n, rfl, o2, l2, ma, mb, na, nb, U2⟩
end Go.Proofs.Ytneleojjadbdcaa
