/- A log as a linked list: slices.Backward's iterator, linked. -/
import Derived.Test.YtjkagmelpgpjgaaLg3
import Derived.RangeFuncNested
import Derived.RangeFuncBound
import Derived.RangeFuncCalls
import Derived.RangeFuncLeaves
import Derived.Shelf.Abstract
import Derived.Shelf.RegionOpen
import Derived.OwnWalkIn
import Derived.TacticsInMore
import Derived.LoopNIn
import Derived.LoopIn
namespace Go.Proofs.Ytjkagmelpgpjgaa
open Go.RowKit Go.Shelf
attribute [local go_sem] Oper.semAt_some
set_option linter.unusedVariables false
set_option linter.unusedSimpArgs false

/-- A list of links, all in blocks from n₀ on. -/
def IsLink (n₀ : Nat) (w : World) : Option Addr → List Head → Prop
  | p, [] => p = none
  | p, x :: xs => ∃ b q, p = some ⟨b, 0, none⟩ ∧ n₀ ≤ b ∧ w.cell? ⟨b, 0, none⟩ = some (.int .i64 x.by_) ∧ w.cell? ⟨b, 1, none⟩ = some (.int .i64 x.snap) ∧ w.cell? ⟨b, 2, none⟩ = some (.pointer q) ∧ IsLink n₀ w q xs
theorem IsLink.kept {n₀ : Nat} {w w' : World} (hk : ∀ (a : Addr) v, n₀ ≤ a.block → w.cell? a = some v → w'.cell? a = some v) : ∀ {xs : List Head} {p : Option Addr}, IsLink n₀ w p xs → IsLink n₀ w' p xs
  | [], _, h => h
  | x :: xs, _, ⟨b, q, h1, h2, h3, h4, h5, h6⟩ => ⟨b, q, h1, h2, hk _ _ h2 h3, hk _ _ h2 h4, hk _ _ h2 h5, h6.kept hk⟩
theorem IsLink.grow {n₀ : Nat} {w w' : World} (hu : Upd [] w w') {xs : List Head} {p : Option Addr} (h : IsLink n₀ w p xs) : IsLink n₀ w' p xs := h.kept fun a v _ hv => hu.cell hv (by simp)
theorem IsLink.weaken {n₀ n₁ : Nat} {w : World} (hn : n₁ ≤ n₀) : ∀ {xs : List Head} {p : Option Addr}, IsLink n₀ w p xs → IsLink n₁ w p xs
  | [], _, h => h
  | x :: xs, _, ⟨b, q, h1, h2, h3, h4, h5, h6⟩ => ⟨b, q, h1, by omega, h3, h4, h5, h6.weaken hn⟩

/-- What has come of a log, read from its end, when k rounds are over. -/
def bwd (xs : List Head) (k : Nat) : List (Int × Head) := (List.range k).map fun j => (((xs.length - 1 - j : Nat) : Int), atHead xs (xs.length - 1 - j))
theorem bwd_succ (xs : List Head) (k : Nat) : bwd xs (k + 1) = bwd xs k ++ [(((xs.length - 1 - k : Nat) : Int), atHead xs (xs.length - 1 - k))] := by
  unfold bwd
  rw [List.range_succ, List.map_append]
  rfl
theorem bwd_len (xs : List Head) (k : Nat) : (bwd xs k).length = k := by simp [bwd]
theorem bwd_back (xs : List Head) : ∀ k, k ≤ xs.length → ((bwd xs k).map Prod.snd).reverse = xs.drop (xs.length - k)
  | 0, _ => by simp [bwd]
  | k + 1, hk => by
    rw [bwd_succ, List.map_append, List.reverse_append, bwd_back xs k (by omega)]
    have h1 : xs.length - 1 - k < xs.length := by omega
    rw [show xs.length - (k + 1) = xs.length - 1 - k from by omega, List.drop_eq_getElem_cons h1, show xs.length - 1 - k + 1 = xs.length - k from by omega, ← atHead_get h1]
    rfl
def encsH (x : Int × Head) : Array Value := #[.int .i64 x.1, .agg #[.int .i64 x.2.by_, .int .i64 x.2.snap]]
/-- What a round keeps: what lay ahead of n₀, and the box of the slice. -/
def KpB (n₀ Bn : Nat) (W W' : World) : Prop := Below n₀ W W' ∧ ∀ v, W.cell? ⟨Bn, 0, none⟩ = some v → W'.cell? ⟨Bn, 0, none⟩ = some v

/-- The row lies ahead of n₀, if there is one. -/
def Ahead (n₀ : Nat) (A : Option Addr) (cs : List Value) : Prop := cs = [] ∨ ∀ a, A = some a → a.block < n₀
theorem Sl.below {w w' : World} {A : Option Addr} {cs : List Value} {n₀ : Nat} (h : Sl w A cs) (hb : Below n₀ w w') (hA : Ahead n₀ A cs) : Sl w' A cs := by
  rcases h with h | ⟨b, o, rfl, hc⟩
  · exact .inl h
  · rcases hA with hA | hA
    · exact .inl hA
    · exact .inr ⟨b, o, rfl, fun j u hj => (hb.cell (p := ⟨b, o + j, none⟩) (hA ⟨b, o, none⟩ rfl)).trans (hc j u hj)⟩
theorem Sl.ahead {w : World} {A : Option Addr} {cs : List Value} (h : Sl w A cs) : Ahead w.heap.size A cs := by
  rcases h with h | ⟨b, o, rfl, hc⟩
  · exact .inl h
  · cases cs with
    | nil => exact .inl rfl
    | cons u us => exact .inr fun a ha => by cases ha; exact World.block_lt_of_cell? w ⟨b, o + 0, none⟩ (hc 0 u rfl)
theorem Ahead.mono {n m : Nat} {A : Option Addr} {cs : List Value} (h : Ahead n A cs) (hn : n ≤ m) : Ahead m A cs := h.imp id fun h a ha => Nat.lt_of_lt_of_le (h a ha) hn
set_option maxHeartbeats 1000000 in
theorem backward1_in (F : Fence) (n : Nat) (hF : F.fn 65) (hro : F.round = none) (hn : 1 ≤ n) (l Bn n₀ : Nat) (A : Option Addr) (c : Nat) (xs : List Head) (J Jx : List (Int × Head) → World → Prop)
    (hY : ∀ pre x W, J pre W → pre.length < xs.length → YieldAt F (n - 1) Try.prog l (encsH x) W fun e W' =>
      (e = .returned (.bool true) ∧ J (pre ++ [x]) W' ∧ KpB n₀ Bn W W') ∨ (e = .returned (.bool false) ∧ Jx (pre ++ [x]) W'))
    (W : World) (hlx : xs.length ≤ maxLen) (hBn : W.cell? ⟨Bn, 0, none⟩ = some (.slice A xs.length c)) (hx : Sl W A (xs.flatMap encHead)) (hA : Ahead n₀ A (xs.flatMap encHead)) (h0 : J [] W) :
    CallsIn F n Try.prog 65 #[.func (.yield l) #[] #[], .pointer (some ⟨Bn, 0, none⟩)] W fun e W' => (∃ v, e = .returned v) ∧
      ((∃ ys, ys = bwd xs xs.length ∧ J ys W') ∨ (∃ pre, True ∧ Jx pre W')) := by
  unfold maxLen at hlx
  refine callsIn_of_wp Try.func65 rfl hF ?_ hro
  simp only [Try.ntmps65, List.size_toArray, List.length_cons, List.length_nil, Nat.reduceAdd, Nat.reduceSub, Array.replicate_succ, Array.replicate_zero, List.push_toArray, List.append_toArray, List.nil_append, List.cons_append]
  gi_wp2
  gi_loopw [3] (fun i wr => ∃ k : Nat, k ≤ xs.length ∧ i = .int .i64 ((xs.length : Int) - 1 - k) ∧ wr.cell? ⟨Bn, 0, none⟩ = some (.slice A xs.length c) ∧ Sl wr A (xs.flatMap encHead) ∧ J (bwd xs k) wr) (fun i _ => (intOf i + 1).toNat)
  case atStart => exact ⟨0, by omega, by go_num, hBn, hx, h0⟩
  case round =>
    obtain ⟨k, hk, rfl, hb, hs, hJ⟩ := hrel
    by_cases hlt : k < xs.length
    · obtain ⟨m, hm⟩ : ∃ m : Nat, xs.length - 1 - k = m := ⟨_, rfl⟩
      have hmi : (xs.length : Int) - 1 - k = m := by omega
      rw [hmi]
      obtain ⟨b1, o1, rfl, c1, c2⟩ := hs.head (i := m) (by omega)
      have hml : m < xs.length := by omega
      obtain ⟨fn, tmps, assign, body, hy, hR⟩ := hY (bwd xs k) ((m : Int), atHead xs m) wr hJ (by rw [bwd_len]; exact hlt)
      dsimp only [encsH] at hy
      gi_wp2
      refine hR.mono ?_
      rintro e W3 (⟨rfl, hJ3, hk3, hk4⟩ | ⟨rfl, hJ3⟩)
      · have hs3 := hs.below hk3 hA
        have hb3 := hk4 _ hb
        gi_wp2
        go_roundw
        case rel => exact ⟨k + 1, by omega, by go_num, hb3, hs3, by rw [bwd_succ, hm]; exact hJ3⟩
        case measure => simp only [intOf]; omega
      · gi_wp2
        refine bodyPost_ret (results_none rfl _ _ _) rfl ?_
        exact ⟨⟨_, rfl⟩, .inr ⟨_, trivial, hJ3⟩⟩
    · obtain rfl : k = xs.length := by omega
      clear hk hlt
      gi_wp2
      go_end0
      exact ⟨⟨_, rfl⟩, .inl ⟨_, rfl, hJ⟩⟩
theorem backward_stops (F : Fence) (n : Nat) (hF : F.fn 65) (hro : F.round = none) (hn : 1 ≤ n) (Bn n₀ : Nat) (A : Option Addr) (c : Nat) (xs : List Head) (w : World)
    (hlx : xs.length ≤ maxLen) (hBn : w.cell? ⟨Bn, 0, none⟩ = some (.slice A xs.length c)) (hx : Sl w A (xs.flatMap encHead)) (hA : Ahead n₀ A (xs.flatMap encHead)) (hn0 : n₀ ≤ w.heap.size) (hB : Bn < w.heap.size) :
    SeqStopsK F n Try.prog 65 #[.pointer (some ⟨Bn, 0, none⟩)] encsH (KpB n₀ Bn) (fun ys => ys = bwd xs xs.length) (fun _ => True) xs.length w :=
  fun l J Jx W hW hJ hJx hY h0 => backward1_in F n hF hro hn l Bn n₀ A c xs J Jx hY W hlx ((hW.cell (p := ⟨Bn, 0, none⟩) hB).trans hBn) (hx.below hW (hA.mono hn0)) hA h0
set_option maxHeartbeats 1000000 in
theorem backward_any (A : Option Addr) (n c : Nat) (w : World) :
    Calls Try.prog 64 #[.slice A n c] w fun e w' => e = .returned (.func (.func 65) #[] #[.pointer (some ⟨w.heap.size, 0, none⟩)]) ∧ w' = w.alloc (.cells #[.slice A n c] 23) := by
  go_enter Try.func64, Try.ntmps64
  go_wp2
  go_ret
  exact ⟨rfl, rfl⟩
theorem linkFrom_own {β : Type} (n₀ : Nat) (f : β → Option Addr × List Head) (B : Nat) : OwnFrom B (fun s W => IsLink n₀ W (f s).1 (f s).2) :=
  _root_.Go.Own.from (fun s A B row hs hg hr => hs.kept fun a v _ hv => cell_kept hv hg hr) B
/-- The list so far, in the box that linked keeps. -/
def Chain (B : Nat) (pre : List (Int × Head)) (W : World) : Prop := ∃ p, Boxed W B 65 (.pointer p) ∧ IsLink (B + 1) W p ((pre.map Prod.snd).reverse)
theorem chain_own (B n : Nat) : OwnFrom n (Chain B) := _root_.Go.Own.from (fun s X Y row ⟨p, h1, h3⟩ hg hr => ⟨p, boxed_own B _ (fun (_ : Unit) => .pointer p) () X Y row h1 hg hr, h3.kept fun a v _ hv => cell_kept hv hg hr⟩) n
set_option maxHeartbeats 1000000 in
theorem linked_any (A : Option Addr) (c : Nat) (xs : List Head) (w : World) (hx : Sl w A (xs.flatMap encHead)) (hlx : xs.length ≤ maxLen) :
    Calls Try.prog 56 #[.slice A xs.length c] w fun e w' => ∃ p, e = .returned (.pointer p) ∧ IsLink w.heap.size w' p xs ∧ Upd [] w w' := by
  refine (callsIn_wide (n := 5)).1 ?_
  refine callsIn_of_wp_marks Try.func56 rfl trivial ?_ rfl
  simp only [Try.ntmps56, List.size_toArray, List.length_cons, List.length_nil, Nat.reduceAdd, Nat.reduceSub, Array.replicate_succ, Array.replicate_zero, List.push_toArray, List.append_toArray, List.nil_append, List.cons_append]
  gi_wp2_with fail
  refine ⟨trivial, (callsIn_wide.2 (backward_any _ _ _ _)).mono ?_⟩
  rintro e w' ⟨rfl, rfl⟩
  gi_wp2_with fail
  have hb0 := Boxed.new w 65 (.pointer none)
  have hb1 := Boxed.new (w.alloc (.cells #[.pointer none] 65)) 23 (.slice A xs.length c)
  rw [World.size_alloc] at hb1
  have hB2 : Below w.heap.size w ((w.alloc (.cells #[.pointer none] 65)).alloc (.cells #[.slice A xs.length c] 23)) := ((Below.refl w.heap.size w).alloc (Nat.le_refl _) _).alloc (by simp) _
  refine wpIn_rangeFunc_ownH rfl (by omega) (gf := 65) (lb := #[.pointer (some ⟨w.heap.size + 1, 0, none⟩)]) rfl trivial (enters_of Try.func65 (by kernel_rfl) rfl)
    (backward_stops Fence.wide 4 trivial rfl (by omega) (w.heap.size + 1) w.heap.size A c xs _ hlx hb1.cell (hx.below hB2 hx.ahead) hx.ahead (by simp; omega) (by simp))
    (fun h k => ⟨h.1.trans k.1, fun v hv => k.2 v (h.2 v hv)⟩)
    (fun W l o o' hl h h1 h2 => ⟨belowK_b (by simp; omega) W l o o' hl h h1 h2, fun v hv => cell_kept hv (grownBy_putObj' W l o') (fun r e => by cases e; exact ⟨o, h, h1⟩)⟩)
    (Below.refl _ _) (fun _ => rfl)
    (fun pre W => Chain w.heap.size pre W ∧ Below w.heap.size w W)
    (fun _ _ _ => False)
    (OwnFrom.and (chain_own _ _) (ownFrom_below (Nat.le_refl _) (by simp; omega)))
    (fun _ _ _ _ _ hs _ _ => hs)
    ⟨⟨none, hb0.alloc _, rfl⟩, hB2⟩
    (fun x a' W => ∃ Bx, w.heap.size < Bx ∧ W.cell? ⟨Bx, 0, none⟩ = some (.int .i64 x.2.by_) ∧ W.cell? ⟨Bx, 1, none⟩ = some (.int .i64 x.2.snap) ∧
      a' = { tmps := #[.slice A xs.length c, undef, .pointer none, .pointer (some ⟨w.heap.size, 0, none⟩), undef, .pointer (some ⟨Bx, 0, none⟩), .slice A xs.length c, .func (.func 65) #[] #[.pointer (some ⟨w.heap.size + 1, 0, none⟩)], .int .i64 x.1, .agg #[.int .i64 x.2.by_, .int .i64 x.2.snap], undef, undef, undef, undef, undef], defers := [] })
    (fun x a' s W W' row ⟨Bx, h1, h2, h3, h4⟩ hg hr => ⟨Bx, h1, cell_kept h2 hg (fun r e => (hr r e).2), cell_kept h3 hg (fun r e => (hr r e).2), h4⟩)
    ?assign ?body ?done ?stop
  case assign =>
    rintro l pre x W K ⟨hi, hB⟩ hK
    have hsz : w.heap.size < W.heap.size := by obtain ⟨p, hp, _⟩ := hi; exact hp.lt
    dsimp only [encsH]
    gi_wp2
    exact hK _ _ ((KeepsOthers.alloc _ _).from _) ⟨(Below.refl _ W).alloc hB.size _, fun v hv => ((Upd.refl [] W).alloc _).cell hv (by simp)⟩ ⟨(chain_own w.heap.size 0).alloc _ hi, hB.alloc hB.size _⟩
      ⟨W.heap.size, hsz, by rw [cell_of_row _ _ _ _ _ _ (heap_alloc_new W _)]; rfl, by rw [cell_of_row _ _ _ _ _ _ (heap_alloc_new W _)]; rfl, rfl⟩
  case body =>
    rintro l pre x a' W hl ⟨r, hr⟩ ⟨⟨p, hp, hL⟩, hB⟩ ⟨Bx, hBx, c1, c2, rfl⟩ hlt
    have hc := hp.cell
    have hf := hp.frozen
    have hsz := hp.lt
    gi_wp2
    have hss : (W.setCell ⟨w.heap.size, 0, none⟩ (.pointer (some ⟨W.heap.size, 0, none⟩))).heap.size = W.heap.size := by simp [World.setCell]
    have hnew := heap_alloc_new (W.setCell ⟨w.heap.size, 0, none⟩ (.pointer (some ⟨W.heap.size, 0, none⟩))) (.cells #[.int .i64 x.2.by_, .int .i64 x.2.snap, .pointer p] 68)
    rw [hss] at hnew
    have hU : Upd [w.heap.size] W ((W.setCell ⟨w.heap.size, 0, none⟩ (.pointer (some ⟨W.heap.size, 0, none⟩))).alloc (.cells #[.int .i64 x.2.by_, .int .i64 x.2.snap, .pointer p] 68)) := ((Upd.refl [w.heap.size] W).setCell (.inl (by simp)) _).alloc _
    have hB3 : Below w.heap.size W ((W.setCell ⟨w.heap.size, 0, none⟩ (.pointer (some ⟨W.heap.size, 0, none⟩))).alloc (.cells #[.int .i64 x.2.by_, .int .i64 x.2.snap, .pointer p] 68)) := ((Below.refl w.heap.size W).setCell (p := ⟨w.heap.size, 0, none⟩) (Nat.le_refl _) _).alloc (by rw [hss]; omega) _
    refine ⟨((KeepsOthers.setCell _ _ _).trans (KeepsOthers.alloc _ _)).from _, ⟨hB3, fun v hv => hU.cell hv (by simp)⟩, ⟨some ⟨W.heap.size, 0, none⟩, (hp.set _).alloc _, ?_⟩, hB.trans hB3⟩
    rw [List.map_append, List.reverse_append]
    exact ⟨W.heap.size, p, rfl, hsz, by rw [cell_of_row _ _ _ _ _ _ hnew]; rfl, by rw [cell_of_row _ _ _ _ _ _ hnew]; rfl, by rw [cell_of_row _ _ _ _ _ _ hnew]; rfl, hL.kept fun a v ha hv => hU.cell hv (by simp; omega)⟩
  case done =>
    rintro D ys W hD rfl ⟨⟨p, hp, hL⟩, hB⟩ hK
    have hc := hp.cell
    gi_wp2
    have hB3 := hB.trans (belowK_b (w := w) (Nat.le_refl _) W D _ (.deferred none) (by simp at hD; omega) hK rfl rfl)
    rw [bwd_back xs xs.length (Nat.le_refl _), Nat.sub_self, List.drop_zero] at hL
    refine ⟨by simp, .inl ⟨_, _, rfl, run_takeDeferred hK, ?_⟩⟩
    exact ⟨_, results_tmp rfl _ _ _, p, rfl, (hL.weaken (by omega)).kept (fun a v _ hv => cell_kept hv (grownBy_putObj' W D _) (fun r e => by cases e; exact ⟨_, hK, rfl⟩)), Upd.of_below hB3 []⟩
  case stop =>
    rintro D c pre W _ _ h _
    exact h.elim
end Go.Proofs.Ytjkagmelpgpjgaa
