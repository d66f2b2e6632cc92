/-
  No cell of these rows narrows 'for every input' (looked for: loops, veiled, ifaces, maps, wideKeys, modest, calm, conditions, laid).
  DERIVED. THE GIVEN ROWS OF THIS SEAT. 8 by the template 'for every input the law returns true; each argument reads behind the call as it read before'; 0 by the template 'total and deterministic' (their statements: YtneleojjadbdcaaTotals.lean).
  GIVEN WITH THE SEED: the statements are not yours to turn. If you find one false, say at which input.
  Laid BY PROGRAM, IN A SANDBOX (cutbox-rows.mjs): the forced cells as the released guide's own fill.sh prints them over the translation 2c5b49b9149d7350… (all of the seat's roots in one cut). By AI agents, Wed Nov 11 2026. No macro, syntax, notation, axiom, sorry.
-/
import Derived.Test.YtneleojjadbdcaaChecked
import GoSem.Claim
import GoSem.ClaimJoined
import GoSem.ClaimMapViews
import Derived.JoinedTies
import Derived.KernelRfl
namespace Go.Proofs.Ytneleojjadbdcaa
/- THE CELL 'sum', in the pinned program and in every row, IS THE sha256 OF THE DUMP (.gsa) THAT YtneleojjadbdcaaProg.lean LOADS. Nothing in Lean hashes anything: it is a label: what it is worth is what the hold of that sum in a sandbox is worth. -/
noncomputable def Try.pinned : Pinned := { name := "ytneleojjadbdcaa", sum := "2c5b49b9149d73508af0a26ce10bca276a9064f62d48373c59a4d9242c07f928", checked := Try.checked }
namespace Rows
def none {H : Type} : Left H := { results := [], args := [] }

/-- 'laws.FnExactStampsOk': WHATEVER THE INPUT: true; the input reads as it did. -/
def fnExactStampsOkSpec : ChangeSpec := { name := "fnExactStampsOk", fn := fun _ => fun
  | [d] => { results := [.lit (.bool true)], args := [d] }
  | _ => none }
def fnExactStampsOkRow : OpenClaim := { program := "ytneleojjadbdcaa", sum := "2c5b49b9149d73508af0a26ce10bca276a9064f62d48373c59a4d9242c07f928", func := "loop.example/depositary/laws.FnExactStampsOk", spec := "fnExactStampsOk", apart := false }
def FnExactStampsOkSaid : Prop := fnExactStampsOkRow.holds Try.pinned (OpenSpec.ofChange fnExactStampsOkSpec)

/-- ITS FALSE NEIGHBOUR: 'it returns false'. Refute it at one input. -/
def fnExactStampsOkWrong : ChangeSpec := { name := "fnExactStampsOk", fn := fun _ => fun
  | [d] => { results := [.lit (.bool false)], args := [d] }
  | _ => none }
def FnExactStampsOkWrongFalsely : Prop := fnExactStampsOkRow.holds Try.pinned (OpenSpec.ofChange fnExactStampsOkWrong)

/-- 'laws.FnStampsForm': WHATEVER THE INPUT: true; the input reads as it did. -/
def fnStampsFormSpec : ChangeSpec := { name := "fnStampsForm", fn := fun _ => fun
  | [d1, d2] => { results := [.lit (.bool true)], args := [d1, d2] }
  | _ => none }
def fnStampsFormRow : OpenClaim := { program := "ytneleojjadbdcaa", sum := "2c5b49b9149d73508af0a26ce10bca276a9064f62d48373c59a4d9242c07f928", func := "loop.example/depositary/laws.FnStampsForm", spec := "fnStampsForm", apart := false }
def FnStampsFormSaid : Prop := fnStampsFormRow.holds Try.pinned (OpenSpec.ofChange fnStampsFormSpec)

/-- ITS FALSE NEIGHBOUR: 'it returns false'. Refute it at one input. -/
def fnStampsFormWrong : ChangeSpec := { name := "fnStampsForm", fn := fun _ => fun
  | [d1, d2] => { results := [.lit (.bool false)], args := [d1, d2] }
  | _ => none }
def FnStampsFormWrongFalsely : Prop := fnStampsFormRow.holds Try.pinned (OpenSpec.ofChange fnStampsFormWrong)

/-- 'laws.FnKeepLast': WHATEVER THE INPUT: true; the input reads as it did. -/
def fnKeepLastSpec : ChangeSpec := { name := "fnKeepLast", fn := fun _ => fun
  | [d] => { results := [.lit (.bool true)], args := [d] }
  | _ => none }
def fnKeepLastRow : OpenClaim := { program := "ytneleojjadbdcaa", sum := "2c5b49b9149d73508af0a26ce10bca276a9064f62d48373c59a4d9242c07f928", func := "loop.example/depositary/laws.FnKeepLast", spec := "fnKeepLast", apart := false }
def FnKeepLastSaid : Prop := fnKeepLastRow.holds Try.pinned (OpenSpec.ofChange fnKeepLastSpec)

/-- ITS FALSE NEIGHBOUR: 'it returns false'. Refute it at one input. -/
def fnKeepLastWrong : ChangeSpec := { name := "fnKeepLast", fn := fun _ => fun
  | [d] => { results := [.lit (.bool false)], args := [d] }
  | _ => none }
def FnKeepLastWrongFalsely : Prop := fnKeepLastRow.holds Try.pinned (OpenSpec.ofChange fnKeepLastWrong)

/-- 'laws.FnKeepMore': WHATEVER THE INPUT: true; the input reads as it did. -/
def fnKeepMoreSpec : ChangeSpec := { name := "fnKeepMore", fn := fun _ => fun
  | [d1, d2] => { results := [.lit (.bool true)], args := [d1, d2] }
  | _ => none }
def fnKeepMoreRow : OpenClaim := { program := "ytneleojjadbdcaa", sum := "2c5b49b9149d73508af0a26ce10bca276a9064f62d48373c59a4d9242c07f928", func := "loop.example/depositary/laws.FnKeepMore", spec := "fnKeepMore", apart := false }
def FnKeepMoreSaid : Prop := fnKeepMoreRow.holds Try.pinned (OpenSpec.ofChange fnKeepMoreSpec)

/-- ITS FALSE NEIGHBOUR: 'it returns false'. Refute it at one input. -/
def fnKeepMoreWrong : ChangeSpec := { name := "fnKeepMore", fn := fun _ => fun
  | [d1, d2] => { results := [.lit (.bool false)], args := [d1, d2] }
  | _ => none }
def FnKeepMoreWrongFalsely : Prop := fnKeepMoreRow.holds Try.pinned (OpenSpec.ofChange fnKeepMoreWrong)

/-- 'laws.FnKeepDays': WHATEVER THE INPUT: true; the input reads as it did. -/
def fnKeepDaysSpec : ChangeSpec := { name := "fnKeepDays", fn := fun _ => fun
  | [d] => { results := [.lit (.bool true)], args := [d] }
  | _ => none }
def fnKeepDaysRow : OpenClaim := { program := "ytneleojjadbdcaa", sum := "2c5b49b9149d73508af0a26ce10bca276a9064f62d48373c59a4d9242c07f928", func := "loop.example/depositary/laws.FnKeepDays", spec := "fnKeepDays", apart := false }
def FnKeepDaysSaid : Prop := fnKeepDaysRow.holds Try.pinned (OpenSpec.ofChange fnKeepDaysSpec)

/-- ITS FALSE NEIGHBOUR: 'it returns false'. Refute it at one input. -/
def fnKeepDaysWrong : ChangeSpec := { name := "fnKeepDays", fn := fun _ => fun
  | [d] => { results := [.lit (.bool false)], args := [d] }
  | _ => none }
def FnKeepDaysWrongFalsely : Prop := fnKeepDaysRow.holds Try.pinned (OpenSpec.ofChange fnKeepDaysWrong)

/-- 'laws.FnKeepWeeks': WHATEVER THE INPUT: true; the input reads as it did. -/
def fnKeepWeeksSpec : ChangeSpec := { name := "fnKeepWeeks", fn := fun _ => fun
  | [d] => { results := [.lit (.bool true)], args := [d] }
  | _ => none }
def fnKeepWeeksRow : OpenClaim := { program := "ytneleojjadbdcaa", sum := "2c5b49b9149d73508af0a26ce10bca276a9064f62d48373c59a4d9242c07f928", func := "loop.example/depositary/laws.FnKeepWeeks", spec := "fnKeepWeeks", apart := false }
def FnKeepWeeksSaid : Prop := fnKeepWeeksRow.holds Try.pinned (OpenSpec.ofChange fnKeepWeeksSpec)

/-- ITS FALSE NEIGHBOUR: 'it returns false'. Refute it at one input. -/
def fnKeepWeeksWrong : ChangeSpec := { name := "fnKeepWeeks", fn := fun _ => fun
  | [d] => { results := [.lit (.bool false)], args := [d] }
  | _ => none }
def FnKeepWeeksWrongFalsely : Prop := fnKeepWeeksRow.holds Try.pinned (OpenSpec.ofChange fnKeepWeeksWrong)

/-- 'laws.FnExactKeepLast': WHATEVER THE INPUT: true; the input reads as it did. -/
def fnExactKeepLastSpec : ChangeSpec := { name := "fnExactKeepLast", fn := fun _ => fun
  | [d1, d2] => { results := [.lit (.bool true)], args := [d1, d2] }
  | _ => none }
def fnExactKeepLastRow : OpenClaim := { program := "ytneleojjadbdcaa", sum := "2c5b49b9149d73508af0a26ce10bca276a9064f62d48373c59a4d9242c07f928", func := "loop.example/depositary/laws.FnExactKeepLast", spec := "fnExactKeepLast", apart := false }
def FnExactKeepLastSaid : Prop := fnExactKeepLastRow.holds Try.pinned (OpenSpec.ofChange fnExactKeepLastSpec)

/-- ITS FALSE NEIGHBOUR: 'it returns false'. Refute it at one input. -/
def fnExactKeepLastWrong : ChangeSpec := { name := "fnExactKeepLast", fn := fun _ => fun
  | [d1, d2] => { results := [.lit (.bool false)], args := [d1, d2] }
  | _ => none }
def FnExactKeepLastWrongFalsely : Prop := fnExactKeepLastRow.holds Try.pinned (OpenSpec.ofChange fnExactKeepLastWrong)

/-- 'laws.FnExactKeepDays': WHATEVER THE INPUT: true; the input reads as it did. -/
def fnExactKeepDaysSpec : ChangeSpec := { name := "fnExactKeepDays", fn := fun _ => fun
  | [d1, d2, d3] => { results := [.lit (.bool true)], args := [d1, d2, d3] }
  | _ => none }
def fnExactKeepDaysRow : OpenClaim := { program := "ytneleojjadbdcaa", sum := "2c5b49b9149d73508af0a26ce10bca276a9064f62d48373c59a4d9242c07f928", func := "loop.example/depositary/laws.FnExactKeepDays", spec := "fnExactKeepDays", apart := false }
def FnExactKeepDaysSaid : Prop := fnExactKeepDaysRow.holds Try.pinned (OpenSpec.ofChange fnExactKeepDaysSpec)

/-- ITS FALSE NEIGHBOUR: 'it returns false'. Refute it at one input. -/
def fnExactKeepDaysWrong : ChangeSpec := { name := "fnExactKeepDays", fn := fun _ => fun
  | [d1, d2, d3] => { results := [.lit (.bool false)], args := [d1, d2, d3] }
  | _ => none }
def FnExactKeepDaysWrongFalsely : Prop := fnExactKeepDaysRow.holds Try.pinned (OpenSpec.ofChange fnExactKeepDaysWrong)

/- THE SECOND FORM. 'bulk': how many values and letters a reading holds, each counted each time it is reached (what is shared counts as often as it is met; a slice's spare places count too). A statement '..UptoSaid' is the law's where the arguments, and the package variables that the reading takes, are together of bulk at most 1048576: NARROWER than '..Said'. Prove '..Said' where nothing that the law and all that it calls make is longer than what came in: it says more and counts as full. Else prove '..UptoSaid'. A law counts once. -/
mutual
def uptoBulk {H : Type} : DataW H → Nat
  | .lit (.string bytes) => bytes.length + 1
  | .lit _ => 1
  | .nil => 1
  | .ptr d => uptoBulk d + 1
  | .slice elems spare => uptoBulkAll elems + uptoBulkAll spare + 1
  | .agg parts => uptoBulkAll parts + 1
  | .iface _ d => uptoBulk d + 1
  | .map entries => uptoBulkEntries entries + 1
  | .held _ => 1
def uptoBulkAll {H : Type} : List (DataW H) → Nat
  | [] => 0
  | d :: r => uptoBulk d + uptoBulkAll r
def uptoBulkEntries {H : Type} : List (Lit × DataW H) → Nat
  | [] => 0
  | x :: r => uptoBulkEntry x + uptoBulkEntries r
def uptoBulkEntry {H : Type} : Lit × DataW H → Nat
  | (.string bytes, d) => bytes.length + uptoBulk d + 1
  | (_, d) => uptoBulk d + 1
 end
def uptoSmall : (H : Type) → List (DataW H) → Bool := fun _ ds => decide (uptoBulkAll ds ≤ 1048576)
def OpenSpec.upto (s : _root_.Go.ChangeSpec) : _root_.Go.OpenSpec := { _root_.Go.OpenSpec.ofChange s with cond := some uptoSmall }

/-- 'laws.FnExactStampsOk', WHERE WHAT IT READS IS OF BULK AT MOST 1048576: true; the input reads as it did. -/
def fnExactStampsOkUptoRow : OpenClaim := { program := "ytneleojjadbdcaa", sum := "2c5b49b9149d73508af0a26ce10bca276a9064f62d48373c59a4d9242c07f928", func := "loop.example/depositary/laws.FnExactStampsOk", spec := "fnExactStampsOk", apart := false, narrowed := true }
def FnExactStampsOkUptoSaid : Prop := fnExactStampsOkUptoRow.holds Try.pinned (OpenSpec.upto fnExactStampsOkSpec)

/-- 'laws.FnStampsForm', WHERE WHAT IT READS IS OF BULK AT MOST 1048576: true; the input reads as it did. -/
def fnStampsFormUptoRow : OpenClaim := { program := "ytneleojjadbdcaa", sum := "2c5b49b9149d73508af0a26ce10bca276a9064f62d48373c59a4d9242c07f928", func := "loop.example/depositary/laws.FnStampsForm", spec := "fnStampsForm", apart := false, narrowed := true }
def FnStampsFormUptoSaid : Prop := fnStampsFormUptoRow.holds Try.pinned (OpenSpec.upto fnStampsFormSpec)

/-- 'laws.FnKeepLast', WHERE WHAT IT READS IS OF BULK AT MOST 1048576: true; the input reads as it did. -/
def fnKeepLastUptoRow : OpenClaim := { program := "ytneleojjadbdcaa", sum := "2c5b49b9149d73508af0a26ce10bca276a9064f62d48373c59a4d9242c07f928", func := "loop.example/depositary/laws.FnKeepLast", spec := "fnKeepLast", apart := false, narrowed := true }
def FnKeepLastUptoSaid : Prop := fnKeepLastUptoRow.holds Try.pinned (OpenSpec.upto fnKeepLastSpec)

/-- 'laws.FnKeepMore', WHERE WHAT IT READS IS OF BULK AT MOST 1048576: true; the input reads as it did. -/
def fnKeepMoreUptoRow : OpenClaim := { program := "ytneleojjadbdcaa", sum := "2c5b49b9149d73508af0a26ce10bca276a9064f62d48373c59a4d9242c07f928", func := "loop.example/depositary/laws.FnKeepMore", spec := "fnKeepMore", apart := false, narrowed := true }
def FnKeepMoreUptoSaid : Prop := fnKeepMoreUptoRow.holds Try.pinned (OpenSpec.upto fnKeepMoreSpec)

/-- 'laws.FnKeepDays', WHERE WHAT IT READS IS OF BULK AT MOST 1048576: true; the input reads as it did. -/
def fnKeepDaysUptoRow : OpenClaim := { program := "ytneleojjadbdcaa", sum := "2c5b49b9149d73508af0a26ce10bca276a9064f62d48373c59a4d9242c07f928", func := "loop.example/depositary/laws.FnKeepDays", spec := "fnKeepDays", apart := false, narrowed := true }
def FnKeepDaysUptoSaid : Prop := fnKeepDaysUptoRow.holds Try.pinned (OpenSpec.upto fnKeepDaysSpec)

/-- 'laws.FnKeepWeeks', WHERE WHAT IT READS IS OF BULK AT MOST 1048576: true; the input reads as it did. -/
def fnKeepWeeksUptoRow : OpenClaim := { program := "ytneleojjadbdcaa", sum := "2c5b49b9149d73508af0a26ce10bca276a9064f62d48373c59a4d9242c07f928", func := "loop.example/depositary/laws.FnKeepWeeks", spec := "fnKeepWeeks", apart := false, narrowed := true }
def FnKeepWeeksUptoSaid : Prop := fnKeepWeeksUptoRow.holds Try.pinned (OpenSpec.upto fnKeepWeeksSpec)

/-- 'laws.FnExactKeepLast', WHERE WHAT IT READS IS OF BULK AT MOST 1048576: true; the input reads as it did. -/
def fnExactKeepLastUptoRow : OpenClaim := { program := "ytneleojjadbdcaa", sum := "2c5b49b9149d73508af0a26ce10bca276a9064f62d48373c59a4d9242c07f928", func := "loop.example/depositary/laws.FnExactKeepLast", spec := "fnExactKeepLast", apart := false, narrowed := true }
def FnExactKeepLastUptoSaid : Prop := fnExactKeepLastUptoRow.holds Try.pinned (OpenSpec.upto fnExactKeepLastSpec)

/-- 'laws.FnExactKeepDays', WHERE WHAT IT READS IS OF BULK AT MOST 1048576: true; the input reads as it did. -/
def fnExactKeepDaysUptoRow : OpenClaim := { program := "ytneleojjadbdcaa", sum := "2c5b49b9149d73508af0a26ce10bca276a9064f62d48373c59a4d9242c07f928", func := "loop.example/depositary/laws.FnExactKeepDays", spec := "fnExactKeepDays", apart := false, narrowed := true }
def FnExactKeepDaysUptoSaid : Prop := fnExactKeepDaysUptoRow.holds Try.pinned (OpenSpec.upto fnExactKeepDaysSpec)

end Rows
end Go.Proofs.Ytneleojjadbdcaa
