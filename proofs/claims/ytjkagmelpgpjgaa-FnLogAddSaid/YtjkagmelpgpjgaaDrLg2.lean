/- Drawn pairs of logs, logs and heads, memories and logs. -/
import Derived.Test.YtjkagmelpgpjgaaDrLg
namespace Go.Proofs.Ytjkagmelpgpjgaa
open Go.RowKit
set_option linter.unusedVariables false
set_option linter.unusedSimpArgs false

/-- Two logs have been drawn. -/
def DrewTwo (rb : Nat) (p : Int) (w : World) (e : Ending) (w' : World) : Prop :=
  ∃ (A B : Option Addr) (c d : Nat) (xs ys : List Head) (p' : Int), e = .returned (.tuple #[.slice A xs.length c, .slice B ys.length d]) ∧ Own w' w.heap.size 27 2 A xs.length c (xs.flatMap encHead) ∧ xs.length ≤ 10 ∧
    Own w' w.heap.size 27 2 B ys.length d (ys.flatMap encHead) ∧ ys.length ≤ 10 ∧ Rdr w' rb p' ∧ p ≤ p' ∧ p' ≤ p + 200 ∧ Upd [rb] w w'
set_option maxHeartbeats 2000000 in
theorem l92Two_any (rb : Nat) (p : Int) (w : World) (h : Rdr w rb p) (hp0 : 0 ≤ p) (hp : p ≤ 100000000) :
    Calls Try.prog 61 #[.pointer (some ⟨rb, 0, none⟩)] w (DrewTwo rb p w) := by
  have hrb := h.lt
  go_enter Try.func61, Try.ntmps61
  go_wp2_with fail
  refine (l92Log_any rb p _ h hp0 hp).mono ?_
  rintro e w1 ⟨A, c, xs, p1, rfl, o1, l1, r1, p1a, p1b, u1⟩
  have i2 : wrap64 ((xs.length : Int) + 1) = (xs.length : Int) + 1 := by unfold wrap64; omega
  have q1lt := o1.lt
  go_wp2_with fail
  have o0 : Own (w1.alloc (.cells #[] 27)) w1.heap.size 27 2 (some ⟨w1.heap.size, 0, none⟩) 0 0 [] := Own.lit w1 [] 0 (Nat.le_refl _) (by simp [maxLen]) rfl
  refine (pick_any rb p1 (xs.length + 1) _ (r1.upd ((Upd.refl _ _).alloc _)) (by omega) (by omega) (by omega) (by omega)).mono ?_
  rintro e w2 ⟨k, rfl, ka, kb, -, r2, u2⟩
  have kc := kb (by omega)
  clear kb
  have hrb1 := r1.lt
  have o2 := o0.far u2 (by simp; omega)
  have u2' : Upd [rb] w1 w2 := ((Upd.refl [rb] w1).alloc _).trans u2
  have q2 := o1.far u2' (by simp; omega)
  have U2 := u1.trans u2'
  obtain ⟨k, rfl⟩ := Int.eq_ofNat_of_zero_le ka
  have kx : k ≤ xs.length := by omega
  have kcap := q2.cap.1
  have j1 : k ≤ c := by omega
  have j2 : (k : Int) ≤ c := by omega
  have hst := q2.sl.head_take k
  have htl : (xs.take k).length = k := by rw [List.length_take]; omega
  have hst2 : ((xs.take k).flatMap encHead).length = k * 2 := by rw [lenHead, htl]
  go_wp2_with (at_builtin; refine append_any rfl _ _ _ rfl headT rfl o2 rfl hst2 hst (oneHead _) (by unfold maxLen; omega) (by omega) u2' (Nat.le_refl _) u2'.size ?_; intro B d w3 o3 P3 z3 hB; rw [Nat.zero_add, List.nil_append] at o3)
  have hrb2 := r2.lt
  have r3 := r2.far z3 (fun x hx => by have := o2.mem x hx; omega)
  have q3 := q2.upd z3 (fun a ha hz => by have := o2.mem _ hz; have := q1lt a ha; omega)
  have U3 := u1.trans P3
  refine (pick_any rb (p1 + 1) 3 _ r3 (by omega) (by omega) (by omega) (by omega)).mono ?_
  rintro e w4 ⟨n, rfl, na, nb, -, r4, u4⟩
  have nd := nb (by omega)
  clear nb
  have q4 := q3.far u4 (by simp; omega)
  have o4 := o3.far u4 (by simp; omega)
  have U4 := U3.trans u4
  obtain ⟨n, rfl⟩ := Int.eq_ofNat_of_zero_le na
  go_wp2_with fail
  go_loopw [5, 6] (fun l nn wr => ∃ (B : Option Addr) (d : Nat) (ys : List Head) (m : Nat) (p' : Int), l = .slice B ys.length d ∧ nn = .int .i64 m ∧
      Own wr w.heap.size 27 2 A xs.length c (xs.flatMap encHead) ∧ Own wr w1.heap.size 27 2 B ys.length d (ys.flatMap encHead) ∧ ys.length + m ≤ 10 ∧ Rdr wr rb p' ∧ p ≤ p' ∧ p' ≤ p + 120 - 2 * m ∧ Upd [rb] w wr ∧ w1.heap.size ≤ wr.heap.size) (fun _ nn _ => (intOf nn).toNat)
  case atStart => exact ⟨B, d, xs.take k, n, p1 + 1 + 1, by rw [htl], rfl, q4, by rw [htl]; exact o4, by rw [htl]; omega, r4, by omega, by omega, U4, Nat.le_trans P3.size u4.size⟩
  case round =>
    obtain ⟨B, d, ys, m, q, rfl, rfl, hA, hB, hlen, hr, hq1, hq2, hu, hsz⟩ := hrel
    by_cases hm : 0 < m
    · go_wp2_with fail
      refine (pick_any rb q 2 _ hr (by omega) (by omega) (by omega) (by omega)).mono ?_
      rintro e v1 ⟨y1, rfl, -, -, -, s1, z1⟩
      have a1 := hA.far z1 (by simp; omega)
      have b1 := hB.far z1 (by simp; omega)
      have Z1 := hu.trans z1
      go_wp2_with fail
      refine (pick_any rb (q + 1) 20 _ s1 (by omega) (by omega) (by omega) (by omega)).mono ?_
      rintro e v2 ⟨y2, rfl, -, -, -, s2, z2⟩
      have a2 := a1.far z2 (by simp; omega)
      have b2 := b1.far z2 (by simp; omega)
      have Z2 := Z1.trans z2
      have W2 := Nat.le_trans (Nat.le_trans hsz z1.size) z2.size
      go_wp2_with (at_builtin; refine append_one rfl _ _ _ rfl headT rfl b2 rfl rfl (by simp [Value.oneCell']) (by unfold maxLen; omega) (by omega) Z2 u1.size W2 ?_; intro B' d' v3 b3 Z3 z3 hB')
      have hL : (ys ++ [⟨wrap64 (1 + y1), wrap64 (1 + y2)⟩] : List Head).length = ys.length + 1 := by simp
      refine ⟨⟨B', d', ys ++ [⟨_, _⟩], m - 1, q + 1 + 1, by rw [hL], by go_num, a2.upd z3 (fun a ha hz => by have := b2.mem _ hz; have := q1lt a ha; omega), by rw [hL, ← flat_snocHead]; exact b3, by rw [hL]; omega, s2.far z3 (fun x hx => by have := b2.mem x hx; omega), by omega, by omega, Z3, Nat.le_trans W2 z3.size⟩, by simp [intOf]; omega⟩
    · obtain rfl : m = 0 := by omega
      go_wp2_with fail
      refine (pick_any rb q 2 _ hr (by omega) (by omega) (by omega) (by omega)).mono ?_
      rintro e v1 ⟨y1, rfl, -, -, -, s1, z1⟩
      have a1 := hA.far z1 (by simp; omega)
      have b1 := (hB.far z1 (by simp; omega)).base_le u1.size
      have Z1 := hu.trans z1
      by_cases hy : y1 = 0
      · have hb : (y1 == 0) = true := by simp [hy]
        have HY := Lib.hid hy
        clear hy
        go_wp2
        go_ret2
        exact ⟨B, A, d, c, ys, xs, q + 1, rfl, b1, by omega, a1, by omega, s1, by omega, by omega, Z1⟩
      · have hb : (y1 == 0) = false := by simpa using hy
        go_wp2
        go_ret2
        exact ⟨A, B, c, d, xs, ys, q + 1, rfl, a1, by omega, b1, by omega, s1, by omega, by omega, Z1⟩
/-- Two drawn logs, the code read by a reader of the call's own. -/
def DrawnTwo (w : World) (e : Ending) (w' : World) : Prop :=
  ∃ (A B : Option Addr) (c d : Nat) (xs ys : List Head), e = .returned (.tuple #[.slice A xs.length c, .slice B ys.length d]) ∧ Own w' w.heap.size 27 2 A xs.length c (xs.flatMap encHead) ∧ xs.length ≤ 10 ∧
    Own w' w.heap.size 27 2 B ys.length d (ys.flatMap encHead) ∧ ys.length ≤ 10 ∧ Upd [] w w'
set_option maxHeartbeats 1000000 in
theorem drawLogBegins_any (A : Option Addr) (c : Nat) (bs : List Int) (w : World) (hx : Sl w A (bs.map (.int .u8))) (hc : bs.length ≤ c) (hcm : c ≤ maxLen) (hb : ∀ b ∈ bs, 0 ≤ b ∧ b < 256) :
    Calls Try.prog 41 #[.slice A bs.length c] w (DrawnTwo w) := by
  go_enter Try.func41, Try.ntmps41
  go_wp2_with fail
  refine (l6Open_any A c bs _ hx hc hcm hb).mono ?_
  rintro e w1 ⟨rfl, r1, u1⟩
  go_wp2_with fail
  refine (l92Two_any _ 0 _ r1 (by omega) (by omega)).mono ?_
  rintro e w2 ⟨B, C, d, f, xs, ys, p2, rfl, o2, l2, o3, l3, r2, p2a, p2b, u2⟩
  have U2 := u1.then u2 (by simp)
  go_wp2
  go_ret2
  exact ⟨B, C, d, f, xs, ys, rfl, o2.base_le u1.size, l2, o3.base_le u1.size, l3, U2⟩
set_option maxHeartbeats 1000000 in
theorem drawLogFork_any (A : Option Addr) (c : Nat) (bs : List Int) (w : World) (hx : Sl w A (bs.map (.int .u8))) (hc : bs.length ≤ c) (hcm : c ≤ maxLen) (hb : ∀ b ∈ bs, 0 ≤ b ∧ b < 256) :
    Calls Try.prog 40 #[.slice A bs.length c] w (DrawnTwo w) := by
  go_enter Try.func40, Try.ntmps40
  go_wp2_with fail
  refine (l6Open_any A c bs _ hx hc hcm hb).mono ?_
  rintro e w1 ⟨rfl, r1, u1⟩
  go_wp2_with fail
  refine (l92Two_any _ 0 _ r1 (by omega) (by omega)).mono ?_
  rintro e w2 ⟨B, C, d, f, xs, ys, p2, rfl, o2, l2, o3, l3, r2, p2a, p2b, u2⟩
  have U2 := u1.then u2 (by simp)
  go_wp2
  go_ret2
  exact ⟨B, C, d, f, xs, ys, rfl, o2.base_le u1.size, l2, o3.base_le u1.size, l3, U2⟩
theorem RCell.far {w w' : World} {b : Nat} {x y : Value} (h : RCell w b x y) {M : List Nat} (hu : Upd M w w') (hm : b ∉ M) : RCell w' b x y := by
  have hk := hu.block b (World.block_lt_of_cell? w _ h.c0) hm
  exact ⟨hu.cell h.c0 hm, hu.cell h.c1 hm, (World.frozen?_of_block hk).trans h.f0, (World.frozen?_of_block hk).trans h.f1⟩
/-- A drawn log and a head. -/
def DrawnAdd (w : World) (e : Ending) (w' : World) : Prop :=
  ∃ (A : Option Addr) (c : Nat) (xs : List Head) (h : Head), e = .returned (.tuple #[.slice A xs.length c, .agg #[.int .i64 h.by_, .int .i64 h.snap]]) ∧ Own w' w.heap.size 27 2 A xs.length c (xs.flatMap encHead) ∧ xs.length ≤ 9 ∧ Upd [] w w'
set_option maxHeartbeats 1000000 in
theorem drawLogAdd_any (A : Option Addr) (c : Nat) (bs : List Int) (w : World) (hx : Sl w A (bs.map (.int .u8))) (hc : bs.length ≤ c) (hcm : c ≤ maxLen) (hb : ∀ b ∈ bs, 0 ≤ b ∧ b < 256) :
    Calls Try.prog 45 #[.slice A bs.length c] w (DrawnAdd w) := by
  go_enter Try.func45, Try.ntmps45
  go_wp2_with fail
  have R0 := RCell.new w (.int .i64 0) (.int .i64 0) 27
  have ux := (Upd.refl [] w).alloc (.cells #[.int .i64 0, .int .i64 0] 27)
  refine (l6Open_any A c bs _ (hx.grow ux) hc hcm hb).mono ?_
  rintro e w1 ⟨rfl, r1, u1⟩
  have R1 := R0.grow u1
  have U1 := ux.trans u1
  rw [World.size_alloc] at r1
  clear R0
  go_wp2_with fail
  refine (l92Log_any _ 0 _ r1 (by omega) (by omega)).mono ?_
  rintro e w2 ⟨B, d, xs, p2, rfl, o2, l2, r2, p2a, p2b, u2⟩
  have R2 := R1.far u2 (by simp)
  have U2 := U1.then u2 (by simp)
  have hs1 := U1.size
  have hr1 := r1.lt
  clear R1
  go_wp2_with fail
  go_loopw [5] (fun l wr => ∃ (B : Option Addr) (d : Nat) (ys : List Head) (p' : Int), l = .slice B ys.length d ∧ Own wr w1.heap.size 27 2 B ys.length d (ys.flatMap encHead) ∧ ys.length ≤ 9 ∧ Rdr wr (w.heap.size + 1) p' ∧ 0 ≤ p' ∧ p' ≤ 200 + ys.length ∧ RCell wr w.heap.size (.int .i64 0) (.int .i64 0) ∧ w1.heap.size ≤ wr.heap.size ∧ Upd [] w wr) (fun l _ => match l with | .slice _ n _ => 10 - n | _ => 0)
  case atStart => exact ⟨B, d, xs, p2, rfl, o2, by omega, r2, by omega, by omega, R2, u2.size, U2⟩
  case round =>
    obtain ⟨B, d, ys, q, rfl, hown, hlen, hr, hq1, hq2, R, hsz, hu⟩ := hrel
    go_wp2_with fail
    refine (pick_any _ q 8 _ hr (by omega) (by omega) (by omega) (by omega)).mono ?_
    rintro e v1 ⟨y1, rfl, -, -, -, s1, z1⟩
    have a1 := hown.far z1 (by simp; omega)
    have S1 := R.far z1 (by simp)
    have Z1 := hu.then z1 (by simp)
    by_cases hgo : y1 = 0 ∧ ys.length < 9
    · have hb : (y1 == 0) = true := by simp [hgo.1]
      have hlt := hgo.2
      have hb2 : decide ((ys.length : Int) < 9) = true := decide_eq_true (by omega)
      have HG := Lib.hid hgo
      clear hgo
      go_wp2_with (at_builtin; refine append_one rfl _ _ _ rfl headT rfl a1 rfl rfl (by simp [Value.oneCell']) (by unfold maxLen; omega) (by omega) Z1 hs1 (Nat.le_trans hsz z1.size) ?_; intro B' d' v2 a2 Z2 z2 hB')
      have hL : (ys ++ [⟨1, 3⟩] : List Head).length = ys.length + 1 := by simp
      refine ⟨⟨B', d', ys ++ [⟨1, 3⟩], q + 1, by rw [hL], by rw [hL, ← flat_snocHead]; exact a2, by rw [hL]; omega, s1.far z2 (fun x hx => by have := a1.mem x hx; omega), by omega, by rw [hL]; omega, S1.far z2 (fun hx => by have := a1.mem _ hx; omega), Nat.le_trans (Nat.le_trans hsz z1.size) z2.size, Z2⟩, by simp only [hL]; omega⟩
    · have hcase : (y1 == 0) = false ∨ ((y1 == 0) = true ∧ decide ((ys.length : Int) < 9) = false) := by
        by_cases h : y1 = 0
        · exact .inr ⟨by simp [h], decide_eq_false (by omega)⟩
        · exact .inl (by simpa using h)
      have HG := Lib.hid hgo
      clear hgo
      rcases hcase with hb | ⟨hb, hb2⟩
      all_goals
        go_wp2_with fail
        refine (pick_any _ (q + 1) 2 _ s1 (by omega) (by omega) (by omega) (by omega)).mono ?_
        rintro e v2 ⟨y2, rfl, y2a, y2b, -, s2, z2⟩
        have y2c := y2b (by omega)
        clear y2b
        have a2 := a1.far z2 (by simp; omega)
        have S2 := S1.far z2 (by simp)
        have Z2 := Z1.then z2 (by simp)
        go_wp2_with fail
        refine (pick_any _ (q + 1 + 1) 24 _ s2 (by omega) (by omega) (by omega) (by omega)).mono ?_
        rintro e v3 ⟨y3, rfl, y3a, y3b, -, s3, z3⟩
        have y3c := y3b (by omega)
        clear y3b
        have a3 := a2.far z3 (by simp; omega)
        have S3 := S2.far z3 (by simp)
        have Z3 := Z2.then z3 (by simp)
        go_wp2_with fail
        refine (pick_any _ (q + 1 + 1 + 1) 20 _ s3 (by omega) (by omega) (by omega) (by omega)).mono ?_
        rintro e v4 ⟨y4, rfl, y4a, y4b, -, s4, z4⟩
        have y4c := y4b (by omega)
        clear y4b
        have a4 := a3.far z4 (by simp; omega)
        have S4 := S3.far z4 (by simp)
        have Z4 := Z3.then z4 (by simp)
        have f0 := S4.f0
        have f1 := S4.f1
        have r0 := S4.c0
        have r1 := S4.c1
        have hw2 : Upd [w.heap.size] v4 ((v4.setCell ⟨w.heap.size, 0, none⟩ (.int .i64 (1 + y2 + y3 / 23))).setCell ⟨w.heap.size, 1, none⟩ (.int .i64 (1 + y4))) := ((Upd.refl [w.heap.size] v4).setCell (.inl (by simp)) _).setCell (.inl (by simp)) _
        go_wp2
        exact bodyPost_ret (v := .tuple #[.slice B ys.length d, .agg #[.int .i64 (1 + y2 + y3 / 23), .int .i64 (1 + y4)]]) (by simp [results, Try.results45, go_sem, S4.set0, S4.set1]) rfl ⟨B, d, ys, ⟨_, _⟩, rfl, (a4.far hw2 (by simp; omega)).base_le hs1, hlen, RCell.upd Z4 (by omega) _ _⟩
/-- A drawn memory and a log. -/
def DrawnMem (w : World) (e : Ending) (w' : World) : Prop :=
  ∃ (m : Mem) (A : Option Addr) (c : Nat) (xs : List Head), e = .returned (.tuple #[.agg #[.int .i64 m.long, .int .i64 m.sum], .slice A xs.length c]) ∧ Own w' w.heap.size 27 2 A xs.length c (xs.flatMap encHead) ∧ xs.length ≤ 10 ∧ -1 ≤ m.long ∧ m.long ≤ 10 ∧ Upd [] w w'
set_option maxHeartbeats 1000000 in
theorem drawMemorySee_any (A : Option Addr) (c : Nat) (bs : List Int) (w : World) (hx : Sl w A (bs.map (.int .u8))) (hc : bs.length ≤ c) (hcm : c ≤ maxLen) (hb : ∀ b ∈ bs, 0 ≤ b ∧ b < 256) :
    Calls Try.prog 42 #[.slice A bs.length c] w (DrawnMem w) := by
  go_enter Try.func42, Try.ntmps42
  go_wp2_with fail
  have R0 := RCell.new w (.int .i64 0) (.int .i64 0) 47
  have ux := (Upd.refl [] w).alloc (.cells #[.int .i64 0, .int .i64 0] 47)
  refine (l6Open_any A c bs _ (hx.grow ux) hc hcm hb).mono ?_
  rintro e w1 ⟨rfl, r1, u1⟩
  have R1 := R0.grow u1
  have U1 := ux.trans u1
  rw [World.size_alloc] at r1
  clear R0
  go_wp2_with fail
  refine (l92Two_any _ 0 _ r1 (by omega) (by omega)).mono ?_
  rintro e w2 ⟨B, C, d, f, xs, ys, p2, rfl, o2, l2, o3, l3, r2, p2a, p2b, u2⟩
  have R2 := R1.far u2 (by simp)
  have U2 := U1.then u2 (by simp)
  have hs1 := U1.size
  have hr1 := r1.lt
  clear R1
  go_wp2_with fail
  refine (specLogOk_any _ _ _ _ o2.sl (by unfold maxLen; omega)).mono ?_
  rintro e w3 ⟨rfl, u3⟩
  have R3 := R2.grow u3
  have U3 := U2.trans u3
  have q3 := o3.grow u3
  have r3 := r2.upd u3
  clear R2
  cases hs : lgOk xs
  · have f0 := R3.f0
    have f1 := R3.f1
    have r0 := R3.c0
    have r1 := R3.c1
    have hw2 : Upd [w.heap.size] w3 ((w3.setCell ⟨w.heap.size, 0, none⟩ (.int .i64 0)).setCell ⟨w.heap.size, 1, none⟩ (.int .i64 0)) := ((Upd.refl [w.heap.size] w3).setCell (.inl (by simp)) _).setCell (.inl (by simp)) _
    go_wp2
    exact bodyPost_ret (v := .tuple #[.agg #[.int .i64 0, .int .i64 0], .slice C ys.length f]) (by simp [results, Try.results42, go_sem, R3.set0, R3.set1]) rfl ⟨⟨0, 0⟩, C, f, ys, rfl, (q3.far hw2 (by simp; omega)).base_le hs1, l3, by simp, by simp, RCell.upd U3 (by omega) _ _⟩
  · have l9 := lgOk_len hs
    go_wp2_with fail
    refine (l13Sum_any _ _ _ _ (o2.sl.grow u3) (lgOk_good hs) l9).mono ?_
    rintro e w4 ⟨rfl, u4⟩
    have R4 := R3.grow u4
    have U4 := U3.trans u4
    have q4 := q3.grow u4
    have r4 := r3.upd u4
    go_wp2_with fail
    have M5 := RCell.new w4 (.int .i64 xs.length) (.int .i64 (lgSum xs)) 47
    have ua := (Upd.refl [] w4).alloc (.cells #[.int .i64 xs.length, .int .i64 (lgSum xs)] 47)
    refine (pick_any _ p2 16 _ (r4.upd ua) (by omega) (by omega) (by omega) (by omega)).mono ?_
    rintro e w5 ⟨y1, rfl, -, -, -, r5, u5⟩
    have hr4 := r4.lt
    have M6 := M5.far u5 (by simp; omega)
    have R5 := (R4.grow ua).far u5 (by simp)
    have q5 := (q4.grow ua).far u5 (by simp; omega)
    have U5 := (U4.trans ua).then u5 (by simp)
    have hsz4 := U4.size
    have hr5 := r5.lt
    by_cases hy : y1 = 0
    · have hb : (y1 == 0) = true := by simp [hy]
      have HY := Lib.hid hy
      clear hy
      go_wp2_with fail
      refine (pick_any _ (p2 + 1) 11 _ r5 (by omega) (by omega) (by omega) (by omega)).mono ?_
      rintro e w6 ⟨y2, rfl, y2a, y2b, -, r6, u6⟩
      have y2c := y2b (by omega)
      clear y2b
      have M7 := M6.far u6 (by simp; omega)
      have R7 := R5.far u6 (by simp)
      have q7 := q5.far u6 (by simp; omega)
      have U7 := U5.then u6 (by simp)
      have hS : Upd [w4.heap.size] w6 (w6.setCell ⟨w4.heap.size, 0, none⟩ (.int .i64 (y2 - 1))) := (Upd.refl [w4.heap.size] w6).setCell (.inl (by simp)) _
      have R8 := R7.far hS (by simp; omega)
      have q8 := q7.upd hS (fun a ha hz => by have := (o3.lt a ha).2; have h3 := u3.size; have h4 := u4.size; simp at hz; omega)
      have U8 := U7.then hS (by simp; omega)
      have g0 := M7.f0
      have g1 := M7.f1
      have m0 := M7.c0
      have m1 := M7.c1
      have n0 := M7.set0 (.int .i64 (y2 - 1))
      have n1 : (w6.setCell ⟨w4.heap.size, 0, none⟩ (.int .i64 (y2 - 1))).cell? ⟨w4.heap.size, 1, none⟩ = some (.int .i64 (lgSum xs)) := (World.cell?_setCell_other _ _ _ _ (by simp)).trans m1
      have f0 := R8.f0
      have f1 := R8.f1
      have r0 := R8.c0
      have r1 := R8.c1
      obtain ⟨wS, hwS⟩ : ∃ wS, w6.setCell ⟨w4.heap.size, 0, none⟩ (.int .i64 (y2 - 1)) = wS := ⟨_, rfl⟩
      rw [hwS] at n0 n1 f0 f1 r0 r1 R8 q8 U8
      have hw2 : Upd [w.heap.size] wS ((wS.setCell ⟨w.heap.size, 0, none⟩ (.int .i64 (y2 - 1))).setCell ⟨w.heap.size, 1, none⟩ (.int .i64 (lgSum xs))) := ((Upd.refl [w.heap.size] wS).setCell (.inl (by simp)) _).setCell (.inl (by simp)) _
      go_wp2
      exact bodyPost_ret (v := .tuple #[.agg #[.int .i64 (y2 - 1), .int .i64 (lgSum xs)], .slice C ys.length f]) (by simp [results, Try.results42, go_sem, R8.set0, R8.set1]) rfl ⟨⟨_, _⟩, C, f, ys, rfl, (q8.far hw2 (by simp; omega)).base_le hs1, l3, by simp; omega, by simp; omega, RCell.upd U8 (by omega) _ _⟩
    · have hb : (y1 == 0) = false := by simpa using hy
      have f0 := R5.f0
      have f1 := R5.f1
      have r0 := R5.c0
      have r1 := R5.c1
      have m0 := M6.c0
      have m1 := M6.c1
      have hw2 : Upd [w.heap.size] w5 ((w5.setCell ⟨w.heap.size, 0, none⟩ (.int .i64 xs.length)).setCell ⟨w.heap.size, 1, none⟩ (.int .i64 (lgSum xs))) := ((Upd.refl [w.heap.size] w5).setCell (.inl (by simp)) _).setCell (.inl (by simp)) _
      go_wp2
      exact bodyPost_ret (v := .tuple #[.agg #[.int .i64 xs.length, .int .i64 (lgSum xs)], .slice C ys.length f]) (by simp [results, Try.results42, go_sem, R5.set0, R5.set1]) rfl ⟨⟨xs.length, lgSum xs⟩, C, f, ys, rfl, (q5.far hw2 (by simp; omega)).base_le hs1, l3, by show (-1 : Int) ≤ (xs.length : Int); omega, by show (xs.length : Int) ≤ 10; omega, RCell.upd U5 (by omega) _ _⟩
end Go.Proofs.Ytjkagmelpgpjgaa
