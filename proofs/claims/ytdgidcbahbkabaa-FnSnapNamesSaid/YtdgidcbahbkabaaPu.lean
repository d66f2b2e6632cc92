/- Plain words for what the printed functions come to: rounds, tests, loops. -/
import Derived.Test.YtdgidcbahbkabaaQx0
namespace Go.Proofs.Ytdgidcbahbkabaa.Q
open Go.RowKit Go.Proofs.YtdgidcbahbkabaaW.PrintWords
set_option linter.unusedVariables false

section
variable {α β : Type}
theorem ev_const {x : Option α} {r : α} (h : x = some r) : Ev (fun _ => x) r := ⟨0, fun _ _ => h⟩
theorem ev_pos {c : Prop} [Decidable c] {g f : Nat → Option α} {r : α} (hc : c) (h : Ev g r) : Ev (fun n => if c then g n else f n) r := Ev.congr (fun _ => if_pos hc) h
theorem ev_neg {c : Prop} [Decidable c] {g f : Nat → Option α} {r : α} (hc : ¬ c) (h : Ev f r) : Ev (fun n => if c then g n else f n) r := Ev.congr (fun _ => if_neg hc) h
theorem ev_posc {c : Prop} [Decidable c] {x y : Option α} {r : α} (hc : c) (h : x = some r) : Ev (fun _ : Nat => if c then x else y) r := ev_const (by rw [if_pos hc, h])
theorem ev_negc {c : Prop} [Decidable c] {x y : Option α} {r : α} (hc : ¬ c) (h : y = some r) : Ev (fun _ : Nat => if c then x else y) r := ev_const (by rw [if_neg hc, h])
theorem ev_bindc {x : Option α} {f : Nat → α → Option β} {a : α} {r : β} (h : x = some a) (k : Ev (fun n => f n a) r) : Ev (fun n => x.bind (f n)) r := Ev.congr (fun n => by rw [h]; rfl) k
theorem ev_some {r : α} : Ev (fun _ => Option.some r) r := Ev.now r
theorem ev_cast {g : Nat → Option α} {r q : α} (h : Ev g r) (e : r = q) : Ev g q := e ▸ h
/-- From the end to the beginning. -/
theorem downTo {P : Nat → Prop} {n : Nat} (h : P n) (hs : ∀ i, i < n → P (i + 1) → P i) : ∀ i, i ≤ n → P i := by
  have key : ∀ d i, i + d = n → P i := by
    intro d
    induction d with
    | zero => intro i hi; rw [Nat.add_zero] at hi; exact hi ▸ h
    | succ d ih => exact fun i hi => hs i (by omega) (ih (i + 1) (by omega))
  exact fun i hi => key (n - i) i (by omega)
end
theorem wrap_in (x : Int) (h0 : -9223372036854775808 ≤ x) (h1 : x ≤ 9223372036854775807) : wrap64 x = x := by unfold wrap64; omega
theorem wrap_up (i n : Nat) (h : i < n) (hn : n ≤ 9223372036854775807) : wrap64 ((i : Int) + 1) = ((i + 1 : Nat) : Int) := by unfold wrap64; omega
theorem nat_lt {i n : Nat} (h : i < n) : ((i : Int) < (n : Int)) := by omega
theorem nat_ge {i n : Nat} (h : n ≤ i) : ¬ ((i : Int) < (n : Int)) := by omega
theorem nat_0 (i : Nat) : (0 : Int) ≤ (i : Int) := by omega
theorem rd_nat (xs : List Int) (i : Nat) (h : i < xs.length) : rd xs (i : Int) = xs[i] := by simp [rd, h]
/-- All from i on, below n. -/
def allFrom (p : Nat → Bool) (i n : Nat) : Bool := (List.range' i (n - i)).all p
theorem allFrom_lt {p : Nat → Bool} {i n : Nat} (h : i < n) : allFrom p i n = (p i && allFrom p (i + 1) n) := by
  unfold allFrom
  rw [show n - i = (n - (i + 1)) + 1 from by omega, List.range'_succ, List.all_cons]
theorem allFrom_ge {p : Nat → Bool} {i n : Nat} (h : n ≤ i) : allFrom p i n = true := by
  unfold allFrom
  rw [show n - i = 0 from by omega]; rfl
theorem allFrom_iff {p : Nat → Bool} {i n : Nat} : allFrom p i n = true ↔ ∀ j, i ≤ j → j < n → p j = true := by
  unfold allFrom
  rw [List.all_eq_true]
  constructor
  · exact fun h j h1 h2 => h j (by rw [List.mem_range'_1]; omega)
  · exact fun h j hj => h j (by rw [List.mem_range'_1] at hj; omega) (by rw [List.mem_range'_1] at hj; omega)
theorem wrap_down (i : Nat) (h : 0 < i) (hn : i ≤ 9223372036854775807) : wrap64 ((i : Int) - 1) = ((i - 1 : Nat) : Int) := by unfold wrap64; omega
end Go.Proofs.Ytdgidcbahbkabaa.Q
