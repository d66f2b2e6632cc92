/- Search trees of entries by their names: what the program's trees come to. -/
import Derived.Test.YthpldilmeoggkaaBSpot
import Derived.Deep.DrawnRows
namespace Go.Proofs.Ythpldilmeoggkaa.Q
open Go.RowKit
set_option linter.unusedVariables false
set_option linter.unusedSimpArgs false

inductive Tr where
  | nil
  | node (s : Spot) (l r : Tr)
def Tr.put : Tr → Spot → Tr
  | .nil, s => .node s .nil .nil
  | .node x l r, s => if s.f0 < x.f0 then .node x (l.put s) r else if x.f0 < s.f0 then .node x l (r.put s) else .node s l r
def Tr.list : Tr → List Spot
  | .nil => []
  | .node x l r => l.list ++ x :: r.list
def Tr.find : Tr → Int → Int
  | .nil, _ => 0
  | .node x l r, n => if x.f0 = n then x.f1 else if n < x.f0 then l.find n else r.find n

def nodeCells (x : Spot) (pl pr : Option Addr) : List Value := [.int .i64 x.f0, .int .i64 x.f1, .pointer pl, .pointer pr]
/-- A tree in memory: F are its nodes' blocks. -/
def IsTr (base : Nat) (w : World) : Tr → Option Addr → List Nat → Prop
  | .nil, p, F => p = none ∧ F = []
  | .node x l r, p, F => ∃ b pl pr Fl Fr, p = some ⟨b, 0, none⟩ ∧ F = b :: (Fl ++ Fr) ∧ (b :: (Fl ++ Fr)).Nodup ∧ Own w base 81 4 (some ⟨b, 0, none⟩) 1 1 (nodeCells x pl pr) ∧ IsTr base w l pl Fl ∧ IsTr base w r pr Fr
theorem IsTr.nodup {base : Nat} {w : World} : ∀ {t : Tr} {p : Option Addr} {F : List Nat}, IsTr base w t p F → F.Nodup
  | .nil, _, _, ⟨_, h⟩ => by rw [h]; exact List.nodup_nil
  | .node _ _ _, _, _, ⟨_, _, _, _, _, _, h, hn, _⟩ => by rw [h]; exact hn
theorem IsTr.lt {base : Nat} {w : World} : ∀ {t : Tr} {p : Option Addr} {F : List Nat}, IsTr base w t p F → ∀ x ∈ F, base ≤ x ∧ x < w.heap.size
  | .nil, _, _, ⟨_, h⟩ => by rw [h]; simp
  | .node _ _ _, _, _, ⟨b, _, _, Fl, Fr, _, h, _, ho, hl, hr⟩ => by
    rw [h]
    intro x hx
    rcases List.mem_cons.1 hx with rfl | hx
    · exact ho.lt _ rfl
    · rcases List.mem_append.1 hx with hx | hx
      · exact hl.lt x hx
      · exact hr.lt x hx
theorem IsTr.upd {base : Nat} {w w' : World} {M : List Nat} (hu : Upd M w w') : ∀ {t : Tr} {p : Option Addr} {F : List Nat}, IsTr base w t p F → (∀ x ∈ F, x ∉ M) → IsTr base w' t p F
  | .nil, _, _, h, _ => h
  | .node _ _ _, _, _, ⟨b, pl, pr, Fl, Fr, hp, h, hn, ho, hl, hr⟩, hm => by
    subst h
    refine ⟨b, pl, pr, Fl, Fr, hp, rfl, hn, ho.upd hu (fun a ha => by cases ha; exact hm b (by simp)), hl.upd hu (fun x hx => hm x (by simp [hx])), hr.upd hu (fun x hx => hm x (by simp [hx]))⟩
theorem IsTr.grow {base : Nat} {w w' : World} {t : Tr} {p : Option Addr} {F : List Nat} (h : IsTr base w t p F) (hu : Upd [] w w') : IsTr base w' t p F := h.upd hu (by simp)
theorem node_cells {base b : Nat} {w : World} {x : Spot} {pl pr : Option Addr} (h : Own w base 81 4 (some ⟨b, 0, none⟩) 1 1 (nodeCells x pl pr)) :
    w.cell? ⟨b, 0, none⟩ = some (.int .i64 x.f0) ∧ w.cell? ⟨b, 1, none⟩ = some (.int .i64 x.f1) ∧ w.cell? ⟨b, 2, none⟩ = some (.pointer pl) ∧ w.cell? ⟨b, 3, none⟩ = some (.pointer pr) := by
  obtain ⟨b', o, he, hc⟩ := h.sl.at_ (j := 0) rfl
  cases he
  exact ⟨hc 0 _ rfl, hc 1 _ rfl, hc 2 _ rfl, hc 3 _ rfl⟩

theorem not_one {b y : Nat} {F : List Nat} (hF : b ∉ F) (hy : y ∈ F) : y ∉ [b] := fun hm => hF ((by simpa using hm : y = b) ▸ hy)
theorem in_one {b y : Nat} {F : List Nat} (hy : y ∈ [b]) : y ∈ b :: F := (by simpa using hy : y = b) ▸ List.mem_cons_self
/-- What a put hands back. -/
def PutTr (base : Nat) (t : Tr) (F : List Nat) (w : World) (e : Ending) (w' : World) : Prop :=
  ∃ p F', e = .returned (.pointer p) ∧ IsTr base w' t p F' ∧ (∀ x ∈ F', x ∈ F ∨ w.heap.size ≤ x) ∧ Upd F w w'
set_option maxHeartbeats 2000000 in
theorem put_any (base : Nat) (s : Spot) : ∀ (t : Tr) (p : Option Addr) (F : List Nat) (w : World), IsTr base w t p F → base ≤ w.heap.size →
    Calls Try.prog 48 #[.pointer p, .agg #[.int .i64 s.f0, .int .i64 s.f1]] w (PutTr base (t.put s) F w)
  | .nil, p, F, w, h, hbase => by
    obtain ⟨rfl, rfl⟩ := h
    have HB := Lib.hid hbase
    clear hbase
    go_enter Try.func48, Try.ntmps48
    go_wp2
    go_ret
    have hb := HB.out
    have ho : Own ((w.alloc (.cells #[.int .i64 s.f0, .int .i64 s.f1] 25)).alloc (.cells #[.int .i64 s.f0, .int .i64 s.f1, .pointer none, .pointer none] 81)) base 81 4 (some ⟨w.heap.size + 1, 0, none⟩) 1 1 (nodeCells s none none) := by
      have := Own.lit (e := 81) (size := 4) (w.alloc (.cells #[.int .i64 s.f0, .int .i64 s.f1] 25)) (nodeCells s none none) 1 (base := base) (by simp; omega) (by simp [maxLen]) rfl
      simpa [nodeCells] using this
    exact ⟨_, [w.heap.size + 1], rfl, ⟨_, _, _, [], [], rfl, rfl, by simp, ho, ⟨rfl, rfl⟩, ⟨rfl, rfl⟩⟩, by simp, ((Upd.refl _ _).alloc _).alloc _⟩
  | .node x l r, p, F, w, h, hbase => by
    obtain ⟨b, pl, pr, Fl, Fr, rfl, rfl, hnd, ho, hl, hr⟩ := h
    have hbl := (ho.lt _ rfl).2
    simp only at hbl
    obtain ⟨c0, c1, c2, c3⟩ := node_cells ho
    obtain ⟨hnb, hnd2⟩ := List.nodup_cons.1 hnd
    have hlr := (List.nodup_append.1 hnd2).2.2
    have HND := Lib.hid hnd
    have HNB := Lib.hid hnb
    have HLR := Lib.hid hlr
    have HB := Lib.hid hbase
    clear hnd hnb hlr hnd2 hbase
    have hup := (Upd.refl [] w).alloc (.cells #[.int .i64 s.f0, .int .i64 s.f1] 25)
    have e0 := fun g : Later (w.alloc (.cells #[.int .i64 s.f0, .int .i64 s.f1] 25)) => g.cell (p := ⟨w.heap.size, 0, none⟩) (v := .int .i64 s.f0) (by rw [cell_of_row _ _ _ _ _ _ (heap_alloc_new w _)]; rfl)
    have d0 := fun g : Later (w.alloc (.cells #[.int .i64 s.f0, .int .i64 s.f1] 25)) => g.cell (hup.cell c0 (by simp))
    have HUP := Lib.hid hup
    clear hup
    by_cases h1 : s.f0 < x.f0
    · have hput : (Tr.node x l r).put s = .node x (l.put s) r := by simp [Tr.put, h1]
      rw [hput]
      have hb1 : decide (s.f0 < x.f0) = true := decide_eq_true h1
      clear hput h1
      go_enter Try.func48, Try.ntmps48
      go_wp2
      refine wp_region_calm (by kernel_rfl) (by kernel_rfl) ?_
      repeat (any_goals (first | go_big_quiet_step (fail) | quiet_step (fail)))
      refine wpQuiet_nil ?_
      rintro _ ⟨g, rfl⟩
      have hg := g.upd
      have k0 := hg.cell (p := ⟨w.heap.size, 0, none⟩) (v := .int .i64 s.f0) (by rw [cell_of_row _ _ _ _ _ _ (heap_alloc_new w _)]; rfl) (by simp)
      have k1 := hg.cell (p := ⟨w.heap.size, 1, none⟩) (v := .int .i64 s.f1) (by rw [cell_of_row _ _ _ _ _ _ (heap_alloc_new w _)]; rfl) (by simp)
      have U1 := HUP.out.trans hg
      have o1 := ho.grow U1
      obtain ⟨k2, k3, k4, k5⟩ := node_cells o1
      have l1 := hl.grow U1
      have r1 := hr.grow U1
      have sz1 := U1.size
      obtain ⟨w1, hw1⟩ : ∃ w1, g.world = w1 := ⟨_, rfl⟩
      rw [hw1] at hg k0 k1 U1 o1 k2 k3 k4 k5 l1 r1 sz1 ⊢
      clear hw1 d0 e0
      go_wp2_with fail
      go_region_with (first | (go_at_call 48; refine (put_any base s l pl Fl _ ?_ ?_).mono ?_; exact l1.grow (Upd.refl _ _).drew; (have := HB.out; simp; omega); rintro e w2 ⟨q, F2, rfl, t2, hF2, u2⟩; have o2 := o1.upd ((Upd.refl [] w1).drew.any Fl |>.trans u2) (fun a ha hx => by cases ha; exact HNB.out (by simp [hx])); obtain ⟨m0, m1, m2, m3⟩ := node_cells o2; have f2 := o2.frozen 2))
      all_goals
        go_wp2
        go_ret
        have v2 := Upd.trans ((Upd.refl [] w1).drew.any Fl) u2
        have hs : w1.heap.size ≤ w2.heap.size := v2.size
        have r2 := r1.upd v2 (fun y hy hm => HLR.out y hm y hy rfl)
        have o3 := (o2.store 2 (.pointer q)).1
        have u3 := (o2.store 2 (.pointer q)).2
        have hF3 : ∀ y ∈ F2, y ∈ Fl ∨ w.heap.size ≤ y := fun y hy => (hF2 y hy).imp id (fun hh => by simp at hh; omega)
        have hbl : b ∉ Fl := fun hx => HNB.out (by simp [hx])
        have hbr : b ∉ Fr := fun hx => HNB.out (by simp [hx])
        have hbF : b ∉ F2 := fun hx => (hF3 b hx).elim hbl (fun h => by omega)
        refine ⟨_, b :: (F2 ++ Fr), rfl, ⟨b, q, pr, F2, Fr, rfl, rfl, ?_, o3, t2.upd u3 (fun y hy => not_one hbF hy), r2.upd u3 (fun y hy => not_one hbr hy)⟩, ?_, ?_⟩
        · refine List.nodup_cons.2 ⟨fun hx => ?_, List.nodup_append.2 ⟨t2.nodup, hr.nodup, fun y hy z hz e => ?_⟩⟩
          · rcases List.mem_append.1 hx with hx | hx
            · exact hbF hx
            · exact hbr hx
          · subst e
            rcases hF3 y hy with h | h
            · exact HLR.out y h y hz rfl
            · have := (hr.lt y hz).2; omega
        · intro y hy
          rcases List.mem_cons.1 hy with rfl | hy
          · simp
          · rcases List.mem_append.1 hy with hy | hy
            · rcases hF3 y hy with h | h
              · simp [h]
              · exact .inr h
            · simp [hy]
        · exact ((U1.any (b :: (Fl ++ Fr))).then v2 (fun y hy _ => by simp [hy])).then u3 (fun y hy _ => in_one hy)
    · have hb1 : decide (s.f0 < x.f0) = false := decide_eq_false h1
      by_cases h2 : x.f0 < s.f0
      · have hput : (Tr.node x l r).put s = .node x l (r.put s) := by simp [Tr.put, h1, h2]
        rw [hput]
        have hb2 : decide (x.f0 < s.f0) = true := decide_eq_true h2
        clear hput h1 h2
        go_enter Try.func48, Try.ntmps48
        go_wp2
        refine wp_region_calm (by kernel_rfl) (by kernel_rfl) ?_
        repeat (any_goals (first | go_big_quiet_step (fail) | quiet_step (fail)))
        refine wpQuiet_nil ?_
        rintro _ ⟨g, rfl⟩
        have hg := g.upd
        have k0 := hg.cell (p := ⟨w.heap.size, 0, none⟩) (v := .int .i64 s.f0) (by rw [cell_of_row _ _ _ _ _ _ (heap_alloc_new w _)]; rfl) (by simp)
        have k1 := hg.cell (p := ⟨w.heap.size, 1, none⟩) (v := .int .i64 s.f1) (by rw [cell_of_row _ _ _ _ _ _ (heap_alloc_new w _)]; rfl) (by simp)
        have U1 := HUP.out.trans hg
        have o1 := ho.grow U1
        obtain ⟨k2, k3, k4, k5⟩ := node_cells o1
        have l1 := hl.grow U1
        have r1 := hr.grow U1
        have sz1 := U1.size
        obtain ⟨w1, hw1⟩ : ∃ w1, g.world = w1 := ⟨_, rfl⟩
        rw [hw1] at hg k0 k1 U1 o1 k2 k3 k4 k5 l1 r1 sz1 ⊢
        clear hw1 d0 e0
        have d2 := fun g : Later w1 => g.cell k2
        have d3 := fun g : Later w1 => g.cell k0
        go_wp2
        refine wp_region_calm (by kernel_rfl) (by kernel_rfl) ?_
        repeat (any_goals (first | go_big_quiet_step (fail) | quiet_step (fail)))
        refine wpQuiet_nil ?_
        rintro _ ⟨g, rfl⟩
        have hg := g.upd
        have k0 := g.cell k0
        have k1 := g.cell k1
        have U1 := U1.trans g.upd
        have o1 := o1.grow g.upd
        obtain ⟨k2, k3, k4, k5⟩ := node_cells o1
        have l1 := l1.grow g.upd
        have r1 := r1.grow g.upd
        have sz1 := U1.size
        obtain ⟨w2, hw2⟩ : ∃ w2, g.world = w2 := ⟨_, rfl⟩
        rw [hw2] at k0 k1 U1 o1 k2 k3 k4 k5 l1 r1 sz1 ⊢
        clear hw2 d2 d3
        go_wp2_with fail
        go_region_with (first | (go_at_call 48; refine (put_any base s r pr Fr _ ?_ ?_).mono ?_; exact r1.grow (Upd.refl _ _).drew; (have := HB.out; simp; omega); rintro e w3 ⟨q, F2, rfl, t2, hF2, u2⟩; have o2 := o1.upd ((Upd.refl [] w2).drew.any Fr |>.trans u2) (fun a ha hx => by cases ha; exact HNB.out (by simp [hx])); obtain ⟨m0, m1, m2, m3⟩ := node_cells o2; have f2 := o2.frozen 3))
        all_goals
          go_wp2
          go_ret
          have v2 := Upd.trans ((Upd.refl [] w2).drew.any Fr) u2
          have hs : w2.heap.size ≤ w3.heap.size := v2.size
          have l2 := l1.upd v2 (fun y hy hm => HLR.out y hy y hm rfl)
          have o3 := (o2.store 3 (.pointer q)).1
          have u3 := (o2.store 3 (.pointer q)).2
          have hF3 : ∀ y ∈ F2, y ∈ Fr ∨ w.heap.size ≤ y := fun y hy => (hF2 y hy).imp id (fun hh => by simp at hh; omega)
          have hbl : b ∉ Fl := fun hx => HNB.out (by simp [hx])
          have hbr : b ∉ Fr := fun hx => HNB.out (by simp [hx])
          have hbF : b ∉ F2 := fun hx => (hF3 b hx).elim hbr (fun h => by omega)
          refine ⟨_, b :: (Fl ++ F2), rfl, ⟨b, pl, q, Fl, F2, rfl, rfl, ?_, o3, l2.upd u3 (fun y hy => not_one hbl hy), t2.upd u3 (fun y hy => not_one hbF hy)⟩, ?_, ?_⟩
          · refine List.nodup_cons.2 ⟨fun hx => ?_, List.nodup_append.2 ⟨hl.nodup, t2.nodup, fun y hy z hz e => ?_⟩⟩
            · rcases List.mem_append.1 hx with hx | hx
              · exact hbl hx
              · exact hbF hx
            · subst e
              rcases hF3 y hz with h | h
              · exact HLR.out y hy y h rfl
              · have := (hl.lt y hy).2; omega
          · intro y hy
            rcases List.mem_cons.1 hy with rfl | hy
            · simp
            · rcases List.mem_append.1 hy with hy | hy
              · simp [hy]
              · rcases hF3 y hy with h | h
                · simp [h]
                · exact .inr h
          · exact ((U1.any (b :: (Fl ++ Fr))).then v2 (fun y hy _ => by simp [hy])).then u3 (fun y hy _ => in_one hy)
      · have hput : (Tr.node x l r).put s = .node s l r := by simp [Tr.put, h1, h2]
        rw [hput]
        have hb2 : decide (x.f0 < s.f0) = false := decide_eq_false h2
        clear hput h1 h2
        go_enter Try.func48, Try.ntmps48
        go_wp2
        refine wp_region_calm (by kernel_rfl) (by kernel_rfl) ?_
        repeat (any_goals (first | go_big_quiet_step (fail) | quiet_step (fail)))
        refine wpQuiet_nil ?_
        rintro _ ⟨g, rfl⟩
        have hg := g.upd
        have k0 := hg.cell (p := ⟨w.heap.size, 0, none⟩) (v := .int .i64 s.f0) (by rw [cell_of_row _ _ _ _ _ _ (heap_alloc_new w _)]; rfl) (by simp)
        have k1 := hg.cell (p := ⟨w.heap.size, 1, none⟩) (v := .int .i64 s.f1) (by rw [cell_of_row _ _ _ _ _ _ (heap_alloc_new w _)]; rfl) (by simp)
        have U1 := HUP.out.trans hg
        have o1 := ho.grow U1
        obtain ⟨k2, k3, k4, k5⟩ := node_cells o1
        have l1 := hl.grow U1
        have r1 := hr.grow U1
        have sz1 := U1.size
        obtain ⟨w1, hw1⟩ : ∃ w1, g.world = w1 := ⟨_, rfl⟩
        rw [hw1] at hg k0 k1 U1 o1 k2 k3 k4 k5 l1 r1 sz1 ⊢
        clear hw1 d0 e0
        have d2 := fun g : Later w1 => g.cell k2
        have d3 := fun g : Later w1 => g.cell k0
        go_wp2
        refine wp_region_calm (by kernel_rfl) (by kernel_rfl) ?_
        repeat (any_goals (first | go_big_quiet_step (fail) | quiet_step (fail)))
        refine wpQuiet_nil ?_
        rintro _ ⟨g, rfl⟩
        have hg := g.upd
        have k0 := g.cell k0
        have k1 := g.cell k1
        have U1 := U1.trans g.upd
        have o1 := o1.grow g.upd
        obtain ⟨k2, k3, k4, k5⟩ := node_cells o1
        have l1 := l1.grow g.upd
        have r1 := r1.grow g.upd
        have sz1 := U1.size
        have f0 := o1.frozen 0
        have f1 := o1.frozen 1
        obtain ⟨w2, hw2⟩ : ∃ w2, g.world = w2 := ⟨_, rfl⟩
        rw [hw2] at k0 k1 U1 o1 k2 k3 k4 k5 l1 r1 sz1 f0 f1 ⊢
        clear hw2 d2 d3
        go_wp2
        go_ret
        have o3 := (o1.store 0 (.int .i64 s.f0))
        have o4 := o3.1.store 1 (.int .i64 s.f1)
        have hbl : b ∉ Fl := fun hx => HNB.out (by simp [hx])
        have hbr : b ∉ Fr := fun hx => HNB.out (by simp [hx])
        refine ⟨_, b :: (Fl ++ Fr), rfl, ⟨b, pl, pr, Fl, Fr, rfl, rfl, HND.out, o4.1, (l1.upd o3.2 (fun y hy => not_one hbl hy)).upd o4.2 (fun y hy => not_one hbl hy), (r1.upd o3.2 (fun y hy => not_one hbr hy)).upd o4.2 (fun y hy => not_one hbr hy)⟩, fun y hy => .inl hy, ?_⟩
        exact ((U1.any (b :: (Fl ++ Fr))).then o3.2 (fun y hy _ => in_one hy)).then o4.2 (fun y hy _ => in_one hy)
def Tr.size : Tr → Nat
  | .nil => 0
  | .node _ l r => l.size + r.size + 1
theorem Tr.list_len : ∀ t : Tr, t.list.length = t.size
  | .nil => rfl
  | .node x l r => by simp [Tr.list, Tr.size, Tr.list_len l, Tr.list_len r]; omega
/-- What list hands back: the entries behind those that came in, in a row of the call's own. -/
def ListTr (base : Nat) (A : Option Addr) (ys : List Spot) (w : World) (e : Ending) (w' : World) : Prop :=
  ∃ B d, e = .returned (.slice B ys.length d) ∧ Own w' base 25 2 B ys.length d (ys.flatMap encSpot) ∧ Upd (A.map (·.block)).toList w w' ∧ (∀ b, B = some b → (∃ a, A = some a ∧ a.block = b.block) ∨ w.heap.size ≤ b.block)
theorem tnMem {A : Option Addr} {x : Nat} (h : x ∈ (A.map (·.block)).toList) : ∃ a, A = some a ∧ x = a.block := by
  cases A with
  | none => simp at h
  | some a => exact ⟨a, rfl, by simpa using h⟩
attribute [local go_sem ↓] Go.wp_at_zero Go.wp_at_succ
theorem tnGe {A : Option Addr} {base x : Nat} (h : ∀ a, A = some a → base ≤ a.block) (hx : x ∈ (A.map (·.block)).toList) : base ≤ x := by
  obtain ⟨a, h1, h2⟩ := tnMem hx
  rw [h2]; exact h a h1
theorem tnNew {A B : Option Addr} {n : Nat} {F : List Nat} (hB : ∀ b, B = some b → (∃ a, A = some a ∧ a.block = b.block) ∨ n ≤ b.block) (hA : ∀ a, A = some a → a.block ∉ F) (hF : ∀ y ∈ F, y < n) : ∀ b, B = some b → b.block ∉ F := fun b hb hm => by
  rcases hB b hb with ⟨a, h1, h2⟩ | h
  · exact hA a h1 (h2 ▸ hm)
  · have := hF _ hm; omega
theorem tnFar {A : Option Addr} {F : List Nat} {y : Nat} (h : ∀ a, A = some a → a.block ∉ F) (hy : y ∈ F) : y ∉ (A.map (·.block)).toList := fun hx => by
  obtain ⟨a, h1, h2⟩ := tnMem hx
  exact h a h1 (h2 ▸ hy)
theorem tnIn {A B : Option Addr} {n x : Nat} (hB : ∀ b, B = some b → (∃ a, A = some a ∧ a.block = b.block) ∨ n ≤ b.block) (hx : x ∈ (B.map (·.block)).toList) (hlt : x < n) : x ∈ (A.map (·.block)).toList := by
  obtain ⟨b, h1, h2⟩ := tnMem hx
  rcases hB b h1 with ⟨a, h3, h4⟩ | h
  · subst h3; simp [h2, h4]
  · omega
theorem tnTrans {A B C : Option Addr} {n m : Nat} (hB : ∀ b, B = some b → (∃ a, A = some a ∧ a.block = b.block) ∨ n ≤ b.block) (hC : ∀ b, C = some b → (∃ a, B = some a ∧ a.block = b.block) ∨ m ≤ b.block) (hn : n ≤ m) :
    ∀ b, C = some b → (∃ a, A = some a ∧ a.block = b.block) ∨ n ≤ b.block := fun c hc => by
  rcases hC c hc with ⟨b, h1, h2⟩ | h
  · rcases hB b h1 with ⟨a, h3, h4⟩ | h
    · exact .inl ⟨a, h3, h4.trans h2⟩
    · exact .inr (by omega)
  · exact .inr (by omega)
theorem tnEither {A B : Option Addr} {n : Nat} (h : B = A ∨ ∀ ad, B = some ad → n ≤ ad.block) : ∀ b, B = some b → (∃ a, A = some a ∧ a.block = b.block) ∨ n ≤ b.block := fun b hb => by
  rcases h with h | h
  · exact .inl ⟨b, by rw [← h]; exact hb, rfl⟩
  · exact .inr (h b hb)
/-- One entry, in a block of its own. -/
theorem news_sl {W w1 : World} {M : List Nat} {x : Spot} (u : Upd M (W.alloc (.cells #[.int .i64 x.f0, .int .i64 x.f1] 25)) w1) (hM : W.heap.size ∉ M) : Sl w1 (some ⟨W.heap.size, 0, none⟩) (encSpot x) :=
  .inr ⟨W.heap.size, 0, rfl, fun j v hj => by
    refine u.cell ?_ hM
    rw [cell_of_row _ _ _ _ _ _ (heap_alloc_new W _)]
    simpa [encSpot] using hj⟩
set_option maxHeartbeats 4000000 in
theorem list_any (base : Nat) (w0 : World) (hb0 : w0.heap.size ≤ base) : ∀ (t : Tr) (p : Option Addr) (F : List Nat) (A : Option Addr) (c : Nat) (xs ys : List Spot) (w : World), IsTr base w t p F → Own w base 25 2 A xs.length c (xs.flatMap encSpot) →
    (∀ a, A = some a → a.block ∉ F) → Upd [] w0 w → base ≤ w.heap.size → ys = xs ++ t.list → xs.length + t.size ≤ 1000000000 →
    Calls Try.prog 37 #[.pointer p, .slice A xs.length c] w (ListTr base A ys w)
  | .nil, p, F, A, c, xs, ys, w, h, ho, hd, hu0, hbase, hys, hsz => by
    obtain ⟨rfl, rfl⟩ := h
    obtain rfl : ys = xs := hys.trans (List.append_nil _)
    clear hys
    go_enter Try.func37, Try.ntmps37
    go_wp2
    go_ret
    exact ⟨A, c, rfl, ho, Upd.refl _ _, fun b hb => .inl ⟨b, hb, rfl⟩⟩
  | .node x l r, p, F, A, c, xs, ys, w, h, ho, hd, hu0, hbase, hys, hsz => by
    obtain ⟨b, pl, pr, Fl, Fr, rfl, rfl, hnd, hn, hl, hr⟩ := h
    obtain ⟨c0, c1, c2, c3⟩ := node_cells hn
    have hnl : (Tr.node x l r).size = l.size + r.size + 1 := rfl
    obtain ⟨zs, hzs⟩ : ∃ zs, zs = xs ++ l.list := ⟨_, rfl⟩
    obtain ⟨z2, hz2⟩ : ∃ z2, z2 = zs ++ [x] := ⟨_, rfl⟩
    have hl1 : xs.length + l.size ≤ 1000000000 := by omega
    have hzl : zs.length = xs.length + l.size := by rw [hzs, List.length_append, Tr.list_len]
    have hz2l : z2.length = zs.length + 1 := by rw [hz2, List.length_append]; rfl
    have hl3 : z2.length + r.size ≤ 1000000000 := by omega
    have hy2 : ys = z2 ++ r.list := by rw [hys, hz2, hzs]; simp [Tr.list]
    have hzf : zs.flatMap encSpot ++ encSpot x = z2.flatMap encSpot := by rw [hz2]; simp
    have hdl : ∀ a, A = some a → a.block ∉ Fl := fun a ha hx => hd a ha (by simp [hx])
    have hdr : ∀ a, A = some a → a.block ∉ Fr := fun a ha hx => hd a ha (by simp [hx])
    have hdb : ∀ a, A = some a → a.block ∉ [b] := fun a ha hx => hd a ha (in_one hx)
    have hltA := fun a ha => (ho.lt a ha).1
    have hbl := (hn.lt _ rfl).2
    have hrl := fun y hy => (hr.lt y hy).2
    simp only at hbl
    have HD := Lib.hid hdl
    have HDR := Lib.hid hdr
    have HDB := Lib.hid hdb
    have HZ := Lib.hid hzs
    have HZL := Lib.hid hz2l
    have HZ1 := Lib.hid hzl
    have HY := Lib.hid hy2
    have HZF := Lib.hid hzf
    have HL3 := Lib.hid hl3
    have HL1 := Lib.hid hl1
    have HB := Lib.hid hbase
    have HLT := Lib.hid hltA
    have HRL := Lib.hid hrl
    clear hnd hd hdl hdr hdb hzs hz2l hy2 hzf hl3 hl1 hbase hltA hrl hys hz2 hzl hnl hsz
    go_enter Try.func37, Try.ntmps37
    go_wp2_with fail
    go_cut [4] (fun v wx => ∃ B d, v = .slice B ys.length d ∧ Own wx base 25 2 B ys.length d (ys.flatMap encSpot) ∧ Upd (A.map (·.block)).toList w wx ∧ (∀ b, B = some b → (∃ a, A = some a ∧ a.block = b.block) ∨ w.heap.size ≤ b.block))
    case first =>
      go_region_held3 (fun w' => w'.cell? ⟨b, 0, none⟩ = some (.int .i64 x.f0) ∧ w'.cell? ⟨b, 1, none⟩ = some (.int .i64 x.f1) ∧ w'.cell? ⟨b, 2, none⟩ = some (.pointer pl) ∧ w'.cell? ⟨b, 3, none⟩ = some (.pointer pr))
        (first | exact ⟨j0, j1, j2, j3⟩ | exact ⟨m0, m1, m2, m3⟩ | exact ⟨k0, k1, k2, k3⟩ | go_keep)
        (first
          | (go_at_call_of 37 (Value.pointer pl); refine (list_any base w0 hb0 l pl Fl A c xs zs _ (hl.grow (by first | exact (Upd.refl _ _).drew | exact ((Upd.refl _ _).drew).alloc _ | exact ((Upd.refl _ _).alloc _).drew | exact Upd.refl _ _ | exact (Upd.refl _ _).alloc _)) (ho.grow (by first | exact (Upd.refl _ _).drew | exact ((Upd.refl _ _).drew).alloc _ | exact ((Upd.refl _ _).alloc _).drew | exact Upd.refl _ _ | exact (Upd.refl _ _).alloc _)) HD.out (hu0.trans (by first | exact (Upd.refl _ _).drew | exact ((Upd.refl _ _).drew).alloc _ | exact ((Upd.refl _ _).alloc _).drew | exact Upd.refl _ _ | exact (Upd.refl _ _).alloc _)) ?_ HZ.out HL1.out).mono ?_; (have := HB.out; (try simp); omega); rintro e w1 ⟨B1, d1, rfl, o1, u1, hB1⟩; replace hB1 : ∀ b, B1 = some b → (∃ a, A = some a ∧ a.block = b.block) ∨ w.heap.size ≤ b.block := (fun b hb => (hB1 b hb).imp id (fun h => by first | exact h | (simp at h; omega))); have U1 : Upd (A.map (·.block)).toList w w1 := Upd.trans (Upd.any (by first | exact (Upd.refl _ _).drew | exact ((Upd.refl _ _).drew).alloc _ | exact ((Upd.refl _ _).alloc _).drew | exact Upd.refl _ _ | exact (Upd.refl _ _).alloc _) _) u1; have n1 := hn.upd U1 (fun a ha => by cases ha; exact tnFar HDB.out (by simp)); obtain ⟨k0, k1, k2, k3⟩ := node_cells n1; have s1 := U1.size; have r1 := hr.upd U1 (fun y hy => tnFar HDR.out hy); have V1 := hu0.then U1 (fun y hy hlt => by have := tnGe HLT.out hy; omega); have q1 := tnNew hB1 HDR.out (fun y hy => by have := HRL.out y hy; (try simp); omega); have q2 := tnNew hB1 HDB.out (fun y hy => by rcases List.mem_singleton.1 hy with rfl; (try simp); omega))
          | (refine step_append (by rfl) _ _ _ (by rfl) spotT (by rfl) (o1.grow ((Upd.refl _ _).alloc _)) (news := encSpot x) (by rfl) (by rfl) (news_sl (M := []) (Upd.refl _ _) (by simp)) (by simp [encSpot, Value.oneCell']) (by have := HL1.out; have := HZ1.out; unfold maxLen; omega) (by have := HL1.out; have := HZ1.out; omega) (V1.alloc _) hb0 (by have := HB.out; (try simp); omega) ?_; intro B2 d2 w2 o2 U2 u2 hB2; rw [HZF.out, ← HZL.out] at o2; rw [← HZL.out]; have t1 := (Upd.any ((Upd.refl [] w1).alloc (.cells #[.int .i64 x.f0, .int .i64 x.f1] 25)) (B1.map (·.block)).toList).trans u2; have n2 := n1.upd t1 (fun a ha => by cases ha; exact tnFar q2 (by simp)); obtain ⟨m0, m1, m2, m3⟩ := node_cells n2; have s3 := tnEither hB2; have q3 := tnNew s3 q1 (fun y hy => by have := HRL.out y hy; (try simp); omega); have q4 := tnNew s3 q2 (fun y hy => by rcases List.mem_singleton.1 hy with rfl; (try simp); omega); have b2 := tnTrans hB1 s3 (by (try simp); omega); have r2 := r1.upd t1 (fun y hy => tnFar q1 hy); have s2 := t1.size)
          | (refine step_append (by rfl) _ _ _ (by rfl) spotT (by rfl) o1 (news := encSpot x) (by rfl) (by rfl) (by first | exact news_sl u1 (fun hx => by obtain ⟨a, h1, h2⟩ := tnMem hx; have := (ho.lt a h1).2; (try simp at h2); omega) | exact news_sl (Upd.trans (Upd.any (Upd.refl [] (w.alloc (.cells #[.int .i64 x.f0, .int .i64 x.f1] 25))).drew _) u1) (fun hx => by obtain ⟨a, h1, h2⟩ := tnMem hx; have := (ho.lt a h1).2; (try simp at h2); omega)) (by simp [encSpot, Value.oneCell']) (by have := HL1.out; have := HZ1.out; unfold maxLen; omega) (by have := HL1.out; have := HZ1.out; omega) V1 hb0 (by have := HB.out; omega) ?_; intro B2 d2 w2 o2 U2 u2 hB2; rw [HZF.out, ← HZL.out] at o2; rw [← HZL.out]; have t1 := u2; have n2 := n1.upd t1 (fun a ha => by cases ha; exact tnFar q2 (by simp)); obtain ⟨m0, m1, m2, m3⟩ := node_cells n2; have s3 := tnEither hB2; have q3 := tnNew s3 q1 (fun y hy => by have := HRL.out y hy; (try simp); omega); have q4 := tnNew s3 q2 (fun y hy => by rcases List.mem_singleton.1 hy with rfl; (try simp); omega); have b2 := tnTrans hB1 s3 (by (try simp); omega); have r2 := r1.upd t1 (fun y hy => tnFar q1 hy); have s2 := t1.size)
          | (go_at_call_of 37 (Value.pointer pr); refine (list_any base w0 hb0 r pr Fr B2 d2 z2 ys w2 r2 o2 q3 U2 (by have := HB.out; omega) HY.out HL3.out).mono ?_; rintro e w3 ⟨B3, d3, rfl, o3, u3, hB3⟩; have n3 := n2.upd u3 (fun a ha => by cases ha; exact tnFar q4 (by simp)); obtain ⟨j0, j1, j2, j3⟩ := node_cells n3; have b3 := tnTrans b2 hB3 (by omega); have W3 := (U1.then t1 (fun y hy hlt => tnIn hB1 hy (by (try simp); omega))).then u3 (fun y hy hlt => tnIn b2 hy (by (try simp); omega))))
      all_goals
        go_wp2
        go_meet
        case rel => exact ⟨B3, d3, rfl, o3, W3, b3⟩
    case rest =>
      obtain ⟨B, d, rfl, o4, u4, hB4⟩ := hcut
      go_wp2
      go_ret
      exact ⟨B, d, rfl, o4, u4, hB4⟩
end Go.Proofs.Ythpldilmeoggkaa.Q
