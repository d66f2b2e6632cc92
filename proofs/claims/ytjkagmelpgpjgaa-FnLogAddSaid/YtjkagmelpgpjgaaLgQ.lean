/- The empty log begins every log. -/
import Derived.Test.YtjkagmelpgpjgaaLgP
namespace Go.Proofs.Ytjkagmelpgpjgaa
open Go.RowKit
theorem nilBegins_any (P : Option Addr) (pc : Nat) (xs : List Head) (w : World) (hp : Sl w P (xs.flatMap encHead)) (hok : lgOk xs = true) :
    Calls Try.prog 34 #[.slice none 0 0, .slice P xs.length pc] w fun e w' => e = .returned (.bool true) ∧ Upd [] w w' := by
  have hl := lgOk_len hok
  have h := implLogBegins_any none P 0 pc [] xs w (.inl rfl) hp (by unfold maxLen; simp) (by unfold maxLen; omega)
  rw [lgBegins_ok (by decide) hok, begins_nil] at h
  exact h
end Go.Proofs.Ytjkagmelpgpjgaa
