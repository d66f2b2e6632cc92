/- FnKeepDays: of a drawn history the last of every span is kept, and of those the last ones. -/
import Derived.Test.YtneleojjadbdcaaKpP
import Derived.Test.YtneleojjadbdcaaDrSt
import Derived.Test.YtneleojjadbdcaaR
namespace Go.Proofs.Ytneleojjadbdcaa
open Go.ChangeShapes Go.WideShapes Go.ChangeAt Go.RowKit
set_option linter.unusedVariables false
set_option linter.unusedSimpArgs false
attribute [local go_sem] max_eq min_eq

/-- The spans met from the end down to k. -/
structure SpanInv (xs : List Stamp) (span : Int) (k : Nat) (S : List Int) : Prop where
  from_ : ∀ s ∈ S, ∃ j, k ≤ j ∧ j < xs.length ∧ s = (atStamp xs j).day / span
  here : k < xs.length → (atStamp xs k).day / span ∈ S
  len : S.length = (dsTo xs span k).length
theorem day_mono {xs : List Stamp} (h : stOk xs = true) (i : Nat) : ∀ d, i + d < xs.length → (atStamp xs i).day ≤ (atStamp xs (i + d)).day
  | 0, _ => Int.le_refl _
  | d + 1, hd => by
    have h1 := day_mono h i d (by omega)
    have h2 := day_le h (i := i + d) (by omega)
    rw [← Nat.add_assoc]
    omega
theorem SpanInv.start (xs : List Stamp) (span : Int) : SpanInv xs span xs.length [] := ⟨by simp, by omega, by rw [dsTo_all]⟩
theorem SpanInv.has {xs : List Stamp} {span : Int} {j : Nat} {S : List Int} (h : SpanInv xs span (j + 1) S) (hs : stOk xs = true) (hsp : 1 ≤ span) (hj : j < xs.length) :
    has S ((atStamp xs j).day / span) = !perAt xs span j := by
  by_cases h1 : j + 1 = xs.length
  · have hp : perAt xs span j = true := by unfold perAt; simp [h1]
    rw [hp]
    refine has_not.2 fun hm => ?_
    obtain ⟨i, hi, hi2, -⟩ := h.from_ _ hm
    omega
  · have hh := h.here (by omega)
    by_cases h2 : (atStamp xs (j + 1)).day / span = (atStamp xs j).day / span
    · have hp : perAt xs span j = false := by unfold perAt; simp [h1, h2]; omega
      rw [hp, ← h2]
      exact has_iff.2 hh
    · have hp : perAt xs span j = true := by unfold perAt; simp [h2]
      rw [hp]
      refine has_not.2 fun hm => ?_
      obtain ⟨i, hi, hi2, he⟩ := h.from_ _ hm
      have m1 := day_mono hs (j + 1) (i - (j + 1)) (by omega)
      rw [show j + 1 + (i - (j + 1)) = i from by omega] at m1
      have m2 := Int.ediv_le_ediv (show 0 < span by omega) m1
      have m3 := Int.ediv_le_ediv (show 0 < span by omega) (day_le hs (i := j) (by omega))
      omega
theorem SpanInv.new {xs : List Stamp} {span : Int} {j : Nat} {S : List Int} (h : SpanInv xs span (j + 1) S) (hj : j < xs.length) (hp : perAt xs span j = true) : SpanInv xs span j (S ++ [(atStamp xs j).day / span]) := by
  refine ⟨fun s hm => ?_, fun _ => by simp, ?_⟩
  · rcases List.mem_append.1 hm with hm | hm
    · obtain ⟨i, h1, h2⟩ := h.from_ s hm
      exact ⟨i, by omega, h2⟩
    · exact ⟨j, Nat.le_refl _, hj, List.mem_singleton.1 hm⟩
  · have := dsTo_len_succ xs span hj
    rw [if_pos hp] at this
    rw [List.length_append, List.length_singleton, h.len]
    omega
theorem SpanInv.old {xs : List Stamp} {span : Int} {j : Nat} {S : List Int} (h : SpanInv xs span (j + 1) S) (hs : stOk xs = true) (hsp : 1 ≤ span) (hj : j < xs.length) (hp : perAt xs span j = false) : SpanInv xs span j S := by
  refine ⟨fun s hm => ?_, fun _ => ?_, ?_⟩
  · obtain ⟨i, h1, h2⟩ := h.from_ s hm
    exact ⟨i, by omega, h2⟩
  · have := h.has hs hsp hj
    rw [hp] at this
    exact has_iff.1 this
  · have := dsTo_len_succ xs span hj
    rw [if_neg (by rw [hp]; simp)] at this
    rw [h.len]
    omega
theorem keep_has {xs : List Stamp} {span : Int} {j : Nat} {S : List Int} (h : SpanInv xs span j S) (hs : stOk xs = true) (hsp : 1 ≤ span) (hj : j < xs.length) (many : Int) :
    has (keepDays xs span many) (atStamp xs j).snap = (perAt xs span j && decide ((S.length : Int) ≤ many)) := by
  have hm := mem_keepDays hs hsp many hj
  rw [← h.len] at hm
  unfold Proofs.Ytneleojjadbdcaa.has
  rw [decide_eq_decide.2 hm]
  rw [Bool.decide_and, Bool.decide_eq_true]

set_option maxRecDepth 100000 in
set_option maxHeartbeats 2000000 in
theorem keepDaysLaw_walk (w : World) (A : Option Addr) (c : Nat) (bs : List Int) (hx : Sl w A (bs.map (.int .u8))) (hc : bs.length ≤ c) (hcm : c ≤ maxLen) (hb : ∀ b ∈ bs, 0 ≤ b ∧ b < 256) :
    Calls Try.prog 7 #[.slice A bs.length c] w fun e w' => e = .returned (.bool true) ∧ Upd [] w w' := by
  by_cases g1 : 1048576 < bs.length
  · go_enter Try.func7, Try.ntmps7
    go_wp2
    all_goals
      go_ret
      exact ⟨rfl, Upd.refl _ _⟩
  · go_enter Try.func7, Try.ntmps7
    go_wp2_with fail
    refine (drawKeepDays_any A c bs _ hx hc hcm hb).mono ?_
    rintro e w1 ⟨L, lc, xs, span, many, rfl, o1, l1, sa, sb, ma, mb, u1⟩
    go_wp2_with fail
    refine (implKeepDays_any _ _ _ span many _ o1.sl (by unfold maxLen; omega) (by omega)).mono ?_
    rintro e w2 ⟨K, kc, rfl, o2, u2⟩
    have l2 := keepDays_len xs span many
    go_wp2_with fail
    refine (specKeepDays_any _ _ _ span many _ (o1.sl.grow u2) (by unfold maxLen; omega) (by omega)).mono ?_
    rintro e w3 ⟨K2, kc2, rfl, o3, u3⟩
    go_wp2_with fail
    refine (ldInts_any _ _ _ _ _ _ _ (o2.sl.grow u3) o3.sl (by unfold maxLen; omega)).mono ?_
    rintro e w4 ⟨rfl, u4⟩
    rw [same_iff.2 rfl]
    go_wp2_with fail
    have U4 := ((u1.trans u2).trans u3).trans u4
    have p1 := o1.sl.grow ((u2.trans u3).trans u4)
    have p2 := o2.sl.grow (u3.trans u4)
    refine (specStampsOk_any _ _ _ _ p1 (by unfold maxLen; omega)).mono ?_
    rintro e w5 ⟨rfl, u5⟩
    have U5 := U4.trans u5
    cases hs : stOk xs
    · go_wp2_with fail
      refine (specKeepDays_any _ _ _ span many _ (p1.grow u5) (by unfold maxLen; omega) (by omega)).mono ?_
      rintro e w6 ⟨K3, kc3, rfl, o6, u6⟩
      go_wp2_with fail
      refine (ldInts_any _ _ _ _ _ _ _ (p2.grow (u5.trans u6)) o6.sl (by unfold maxLen; omega)).mono ?_
      rintro e w7 ⟨rfl, u7⟩
      rw [same_iff.2 rfl]
      go_wp2
      go_ret
      exact ⟨rfl, (U5.trans u6).trans u7⟩
    · by_cases h1 : span < 1
      · have hb : decide (span < 1) = true := decide_eq_true h1
        go_wp2_with fail
        refine (specKeepDays_any _ _ _ span many _ (p1.grow u5) (by unfold maxLen; omega) (by omega)).mono ?_
        rintro e w6 ⟨K3, kc3, rfl, o6, u6⟩
        go_wp2_with fail
        refine (ldInts_any _ _ _ _ _ _ _ (p2.grow (u5.trans u6)) o6.sl (by unfold maxLen; omega)).mono ?_
        rintro e w7 ⟨rfl, u7⟩
        rw [same_iff.2 rfl]
        go_wp2
        go_ret
        exact ⟨rfl, (U5.trans u6).trans u7⟩
      · have hb : decide (span < 1) = false := decide_eq_false h1
        have hin : ∀ (j : Nat) (S : List Int), SpanInv xs span j S → j < xs.length → has (keepDays xs span many) (atStamp xs j).snap = (perAt xs span j && decide ((S.length : Int) ≤ many)) := fun j S h hj => keep_has h hs (by omega) hj many
        have hle := keepDays_len_le xs span many
        have p5 := p1.grow u5
        have q5 := p2.grow u5
        clear o1 o2 o3 p1 p2
        generalize keepDays xs span many = ks at *
        have HIN := Lib.hid hin
        clear hin
        have f1 : decide ((ks.length : Int) ≤ max many 0) = true := decide_eq_true hle
        go_wp2_with fail
        go_loopw [7, 8, 9, 10] (fun S i _ _ wr => ∃ (k : Nat) (B : Option Addr) (d : Nat) (zs : List Int), i = .int .i64 ((k : Int) - 1) ∧ k ≤ xs.length ∧ S = .slice B zs.length d ∧ Own wr w5.heap.size 3 1 B zs.length d (ints zs) ∧ SpanInv xs span k zs ∧ Upd [] w5 wr) (fun _ i _ _ _ => (intOf i + 1).toNat)
        case atStart => exact ⟨xs.length, _, _, [], by go_num, by omega, rfl, Own.lit w5 [] 0 (Nat.le_refl _) (by simp [maxLen]) rfl, SpanInv.start xs span, (Upd.refl _ _).alloc _⟩
        case round =>
          obtain ⟨k, B, d, zs, rfl, hk, rfl, hown, hinv, hu⟩ := hrel
          match k with
          | 0 =>
            clear hk
            go_wp2
            go_ret
            exact ⟨rfl, U5.trans hu⟩
          | j + 1 =>
            have hj : j < xs.length := by omega
            rw [show ((j + 1 : Nat) : Int) - 1 = j from by omega] at *
            obtain ⟨b2, o2, rfl, c2, c3⟩ := (p5.grow hu).stamp hj
            have hzl : zs.length ≤ 10 := by
              have := hinv.len
              have := dsTo_len xs span (j + 1)
              omega
            have dr := day_range hs hj
            have hq : 0 ≤ (atStamp xs j).day / span ∧ (atStamp xs j).day / span ≤ (atStamp xs j).day := ⟨Int.ediv_nonneg dr.1 (by omega), Int.ediv_le_self _ dr.1⟩
            have hq1 : Int.tdiv (atStamp xs j).day span = (atStamp xs j).day / span := Int.tdiv_eq_ediv_of_nonneg dr.1
            have hq2 : wrap64 ((atStamp xs j).day / span) = (atStamp xs j).day / span := by unfold wrap64; omega
            have hh := hinv.has hs (by omega) hj
            have HI := Lib.hid hinv
            clear hinv hk
            go_wp2_with fail
            refine (ldIn_any _ _ zs _ _ hown.sl (by unfold maxLen; omega)).mono ?_
            rintro e v1 ⟨rfl, z1⟩
            rw [hh]
            have hu1 := hu.trans z1
            have hown1 := hown.grow z1
            cases hp : perAt xs span j
            · have hinv' := HI.out.old hs (by omega) hj hp
              have hik := HIN.out j zs hinv' hj
              rw [hp, Bool.false_and] at hik
              have HP := Lib.hid hp
              clear hp hh
              have c4 := z1.cell c2 (by simp)
              go_wp2_with fail
              refine (ldIn_any _ _ ks _ _ (q5.grow hu1) (by unfold maxLen; omega)).mono ?_
              rintro e v2 ⟨rfl, z2⟩
              rw [hik]
              go_wp2
              refine ⟨⟨j, B, d, zs, by go_num, by omega, rfl, hown1.grow z2, hinv', hu1.trans z2⟩, by simp only [intOf]; omega⟩
            · have hinv' := HI.out.new hj hp
              have hik := HIN.out j _ hinv' hj
              rw [hp, Bool.true_and] at hik
              have HP := Lib.hid hp
              clear hp hh
              go_wp2_with (at_builtin; refine append_one rfl _ _ _ rfl intT rfl hown1 rfl rfl (by simp [Value.oneCell']) (by unfold maxLen; omega) (by omega) hu1 (Nat.le_refl _) hu1.size ?_; intro B' d' v2 o4 U4 u4 hB'; obtain ⟨_, _, he, c5, _⟩ := (p5.grow U4).stamp hj; cases he)
              have hL : (zs ++ [(atStamp xs j).day / span]).length = zs.length + 1 := by simp
              rw [hL] at hik
              refine (ldIn_any _ _ ks _ _ (q5.grow U4) (by unfold maxLen; omega)).mono ?_
              rintro e v3 ⟨rfl, z3⟩
              rw [hik]
              go_wp2
              refine ⟨⟨j, B', d', _, by go_num, by omega, by rw [hL], by rw [hL]; unfold ints at o4 ⊢; rw [List.map_append]; exact o4.grow z3, hinv', U4.trans z3⟩, by simp only [intOf]; omega⟩

set_option maxRecDepth 100000 in
theorem keepDaysLaw_lifted (os : Os) (started : os.Started) (H : Type) (enc : TypeId × Value → H) :
    ReturnsInHanded {} Try.checked os 7 .any (Rows.fnKeepDaysSpec.pre6 enc Try.prog Try.f7 Rows.fnKeepDaysRow.domain false) (Rows.fnKeepDaysSpec.post enc Try.prog Try.f7 false true false false) := by
  refine returnsInHanded_of_change (C := Try.checked) own_knob started (by kernel_rfl) Try.func7
    (ChangeSpec.witness6 (enc := enc) (C := Try.checked) false ⟨#[], #[.slice none 0 0], []⟩ 8 (by kernel_rfl) (by kernel_rfl) (by kernel_rfl) (by kernel_rfl)) ?_
  intro W base args ds gs before hval0 hW hcnd _
  have hval : ∀ (j : Nat) t v, Try.f7.params[j]? = some t → args[j]? = some v → Value.okWide Try.prog W .any base t v := hval0
  have hW' := hW
  obtain ⟨p, q, hA0, hV, rfl, hfz, hnd⟩ := hW
  have hA1 : DataW.TrodAll enc Try.prog W 0 (fun _ => true) true Try.f7.params.toList args.toList ds p := hA0
  have hA := hA1
  rw [Try.params7] at hA hval
  obtain ⟨v0, d0, rfl, rfl, h0⟩ := trodAll_one hA
  obtain ⟨rfl, rfl⟩ := trodVars_none hV
  obtain ⟨A0, x0, c0, rfl, hc0, hm0, hs0, hb0⟩ := open_bytes (hval 0 29 v0 rfl rfl) h0
  clear hA0 hval0
  simp only [List.append_nil] at hW'
  refine (keepDaysLaw_walk W A0 c0 x0 hs0 hc0 hm0 hb0).mono fun e W' ⟨he, hu⟩ => ?_
  subst he
  exact ⟨_, rfl, law_post laid_out (by rw [Try.params7]; decide +kernel) rfl Try.underlying4 rfl hW' hA1 rfl hu⟩

theorem keepDaysLaw_holds : Rows.FnKeepDaysSaid :=
  OpenClaim.holds_of_wide 7 Try.f7 rfl rfl rfl rfl rfl rfl rfl ⟨rfl, rfl, rfl, rfl, rfl⟩ rfl rfl rfl rfl rfl (by kernel_rfl) Try.func7 (by kernel_rfl)
    (of_decide_eq_true (by kernel_rfl)) (by unfold Func.isWrapper; first | (rw [if_pos (by decide +kernel)]; kernel_rfl) | (rw [if_neg (by decide +kernel)]; exact ⟨rfl, rfl⟩))
    (fun os started H enc _ => keepDaysLaw_lifted os started H enc)
end Go.Proofs.Ytneleojjadbdcaa
