/-
  No cell of these rows narrows 'for every input' (looked for: loops, veiled, ifaces, maps, wideKeys, modest, calm, conditions, laid).
  DERIVED. THE GIVEN ROWS OF THIS SEAT. 18 by the template 'for every input the law returns true; each argument reads behind the call as it read before'; 0 by the template 'total and deterministic' (their statements: YtjkagmelpgpjgaaTotals.lean).
  GIVEN WITH THE SEED: the statements are not yours to turn. If you find one false, say at which input.
  Laid BY PROGRAM, IN A SANDBOX (cutbox-rows.mjs): the forced cells as the released guide's own fill.sh prints them over the translation 56b8bb9afffa69ae… (all of the seat's roots in one cut). By AI agents, Wed Nov 11 2026. No macro, syntax, notation, axiom, sorry.
-/
import Derived.Test.YtjkagmelpgpjgaaChecked
import GoSem.Claim
import GoSem.ClaimJoined
import GoSem.ClaimMapViews
import Derived.JoinedTies
import Derived.KernelRfl
namespace Go.Proofs.Ytjkagmelpgpjgaa
/- THE CELL 'sum', in the pinned program and in every row, IS THE sha256 OF THE DUMP (.gsa) THAT YtjkagmelpgpjgaaProg.lean LOADS. Nothing in Lean hashes anything: it is a label: what it is worth is what the hold of that sum in a sandbox is worth. -/
noncomputable def Try.pinned : Pinned := { name := "ytjkagmelpgpjgaa", sum := "56b8bb9afffa69aeff3eb021a11dff3060d10c12a4c89c31e220a227a90fe5ee", checked := Try.checked }
namespace Rows
def none {H : Type} : Left H := { results := [], args := [] }

/-- 'laws.FnLogForm': WHATEVER THE INPUT: true; the input reads as it did. -/
def fnLogFormSpec : ChangeSpec := { name := "fnLogForm", fn := fun _ => fun
  | [d1, d2] => { results := [.lit (.bool true)], args := [d1, d2] }
  | _ => none }
def fnLogFormRow : OpenClaim := { program := "ytjkagmelpgpjgaa", sum := "56b8bb9afffa69aeff3eb021a11dff3060d10c12a4c89c31e220a227a90fe5ee", func := "loop.example/depositary/laws.FnLogForm", spec := "fnLogForm", unfollowed := true, recurses := true, apart := false }
def FnLogFormSaid : Prop := fnLogFormRow.holds Try.pinned (OpenSpec.ofChange fnLogFormSpec)

/-- ITS FALSE NEIGHBOUR: 'it returns false'. Refute it at one input. -/
def fnLogFormWrong : ChangeSpec := { name := "fnLogForm", fn := fun _ => fun
  | [d1, d2] => { results := [.lit (.bool false)], args := [d1, d2] }
  | _ => none }
def FnLogFormWrongFalsely : Prop := fnLogFormRow.holds Try.pinned (OpenSpec.ofChange fnLogFormWrong)

/-- 'laws.FnExactLogOk': WHATEVER THE INPUT: true; the input reads as it did. -/
def fnExactLogOkSpec : ChangeSpec := { name := "fnExactLogOk", fn := fun _ => fun
  | [d] => { results := [.lit (.bool true)], args := [d] }
  | _ => none }
def fnExactLogOkRow : OpenClaim := { program := "ytjkagmelpgpjgaa", sum := "56b8bb9afffa69aeff3eb021a11dff3060d10c12a4c89c31e220a227a90fe5ee", func := "loop.example/depositary/laws.FnExactLogOk", spec := "fnExactLogOk", unfollowed := true, recurses := true, apart := false }
def FnExactLogOkSaid : Prop := fnExactLogOkRow.holds Try.pinned (OpenSpec.ofChange fnExactLogOkSpec)

/-- ITS FALSE NEIGHBOUR: 'it returns false'. Refute it at one input. -/
def fnExactLogOkWrong : ChangeSpec := { name := "fnExactLogOk", fn := fun _ => fun
  | [d] => { results := [.lit (.bool false)], args := [d] }
  | _ => none }
def FnExactLogOkWrongFalsely : Prop := fnExactLogOkRow.holds Try.pinned (OpenSpec.ofChange fnExactLogOkWrong)

/-- 'laws.FnExactLogFork': WHATEVER THE INPUT: true; the input reads as it did. -/
def fnExactLogForkSpec : ChangeSpec := { name := "fnExactLogFork", fn := fun _ => fun
  | [d1, d2] => { results := [.lit (.bool true)], args := [d1, d2] }
  | _ => none }
def fnExactLogForkRow : OpenClaim := { program := "ytjkagmelpgpjgaa", sum := "56b8bb9afffa69aeff3eb021a11dff3060d10c12a4c89c31e220a227a90fe5ee", func := "loop.example/depositary/laws.FnExactLogFork", spec := "fnExactLogFork", unfollowed := true, recurses := true, apart := false }
def FnExactLogForkSaid : Prop := fnExactLogForkRow.holds Try.pinned (OpenSpec.ofChange fnExactLogForkSpec)

/-- ITS FALSE NEIGHBOUR: 'it returns false'. Refute it at one input. -/
def fnExactLogForkWrong : ChangeSpec := { name := "fnExactLogFork", fn := fun _ => fun
  | [d1, d2] => { results := [.lit (.bool false)], args := [d1, d2] }
  | _ => none }
def FnExactLogForkWrongFalsely : Prop := fnExactLogForkRow.holds Try.pinned (OpenSpec.ofChange fnExactLogForkWrong)

/-- 'laws.FnExactLogSum': WHATEVER THE INPUT: true; the input reads as it did. -/
def fnExactLogSumSpec : ChangeSpec := { name := "fnExactLogSum", fn := fun _ => fun
  | [d] => { results := [.lit (.bool true)], args := [d] }
  | _ => none }
def fnExactLogSumRow : OpenClaim := { program := "ytjkagmelpgpjgaa", sum := "56b8bb9afffa69aeff3eb021a11dff3060d10c12a4c89c31e220a227a90fe5ee", func := "loop.example/depositary/laws.FnExactLogSum", spec := "fnExactLogSum", unfollowed := true, recurses := true, apart := false }
def FnExactLogSumSaid : Prop := fnExactLogSumRow.holds Try.pinned (OpenSpec.ofChange fnExactLogSumSpec)

/-- ITS FALSE NEIGHBOUR: 'it returns false'. Refute it at one input. -/
def fnExactLogSumWrong : ChangeSpec := { name := "fnExactLogSum", fn := fun _ => fun
  | [d] => { results := [.lit (.bool false)], args := [d] }
  | _ => none }
def FnExactLogSumWrongFalsely : Prop := fnExactLogSumRow.holds Try.pinned (OpenSpec.ofChange fnExactLogSumWrong)

/-- 'laws.FnLogSum': WHATEVER THE INPUT: true; the input reads as it did. -/
def fnLogSumSpec : ChangeSpec := { name := "fnLogSum", fn := fun _ => fun
  | [d1, d2] => { results := [.lit (.bool true)], args := [d1, d2] }
  | _ => none }
def fnLogSumRow : OpenClaim := { program := "ytjkagmelpgpjgaa", sum := "56b8bb9afffa69aeff3eb021a11dff3060d10c12a4c89c31e220a227a90fe5ee", func := "loop.example/depositary/laws.FnLogSum", spec := "fnLogSum", unfollowed := true, recurses := true, apart := false }
def FnLogSumSaid : Prop := fnLogSumRow.holds Try.pinned (OpenSpec.ofChange fnLogSumSpec)

/-- ITS FALSE NEIGHBOUR: 'it returns false'. Refute it at one input. -/
def fnLogSumWrong : ChangeSpec := { name := "fnLogSum", fn := fun _ => fun
  | [d1, d2] => { results := [.lit (.bool false)], args := [d1, d2] }
  | _ => none }
def FnLogSumWrongFalsely : Prop := fnLogSumRow.holds Try.pinned (OpenSpec.ofChange fnLogSumWrong)

/-- 'laws.FnExactLogBegins': WHATEVER THE INPUT: true; the input reads as it did. -/
def fnExactLogBeginsSpec : ChangeSpec := { name := "fnExactLogBegins", fn := fun _ => fun
  | [d1, d2] => { results := [.lit (.bool true)], args := [d1, d2] }
  | _ => none }
def fnExactLogBeginsRow : OpenClaim := { program := "ytjkagmelpgpjgaa", sum := "56b8bb9afffa69aeff3eb021a11dff3060d10c12a4c89c31e220a227a90fe5ee", func := "loop.example/depositary/laws.FnExactLogBegins", spec := "fnExactLogBegins", unfollowed := true, recurses := true, apart := false }
def FnExactLogBeginsSaid : Prop := fnExactLogBeginsRow.holds Try.pinned (OpenSpec.ofChange fnExactLogBeginsSpec)

/-- ITS FALSE NEIGHBOUR: 'it returns false'. Refute it at one input. -/
def fnExactLogBeginsWrong : ChangeSpec := { name := "fnExactLogBegins", fn := fun _ => fun
  | [d1, d2] => { results := [.lit (.bool false)], args := [d1, d2] }
  | _ => none }
def FnExactLogBeginsWrongFalsely : Prop := fnExactLogBeginsRow.holds Try.pinned (OpenSpec.ofChange fnExactLogBeginsWrong)

/-- 'laws.FnExactLogAdd': WHATEVER THE INPUT: true; the input reads as it did. -/
def fnExactLogAddSpec : ChangeSpec := { name := "fnExactLogAdd", fn := fun _ => fun
  | [d1, d2] => { results := [.lit (.bool true)], args := [d1, d2] }
  | _ => none }
def fnExactLogAddRow : OpenClaim := { program := "ytjkagmelpgpjgaa", sum := "56b8bb9afffa69aeff3eb021a11dff3060d10c12a4c89c31e220a227a90fe5ee", func := "loop.example/depositary/laws.FnExactLogAdd", spec := "fnExactLogAdd", unfollowed := true, recurses := true, apart := false }
def FnExactLogAddSaid : Prop := fnExactLogAddRow.holds Try.pinned (OpenSpec.ofChange fnExactLogAddSpec)

/-- ITS FALSE NEIGHBOUR: 'it returns false'. Refute it at one input. -/
def fnExactLogAddWrong : ChangeSpec := { name := "fnExactLogAdd", fn := fun _ => fun
  | [d1, d2] => { results := [.lit (.bool false)], args := [d1, d2] }
  | _ => none }
def FnExactLogAddWrongFalsely : Prop := fnExactLogAddRow.holds Try.pinned (OpenSpec.ofChange fnExactLogAddWrong)

/-- 'laws.FnLogFork': WHATEVER THE INPUT: true; the input reads as it did. -/
def fnLogForkSpec : ChangeSpec := { name := "fnLogFork", fn := fun _ => fun
  | [d] => { results := [.lit (.bool true)], args := [d] }
  | _ => none }
def fnLogForkRow : OpenClaim := { program := "ytjkagmelpgpjgaa", sum := "56b8bb9afffa69aeff3eb021a11dff3060d10c12a4c89c31e220a227a90fe5ee", func := "loop.example/depositary/laws.FnLogFork", spec := "fnLogFork", unfollowed := true, recurses := true, apart := false }
def FnLogForkSaid : Prop := fnLogForkRow.holds Try.pinned (OpenSpec.ofChange fnLogForkSpec)

/-- ITS FALSE NEIGHBOUR: 'it returns false'. Refute it at one input. -/
def fnLogForkWrong : ChangeSpec := { name := "fnLogFork", fn := fun _ => fun
  | [d] => { results := [.lit (.bool false)], args := [d] }
  | _ => none }
def FnLogForkWrongFalsely : Prop := fnLogForkRow.holds Try.pinned (OpenSpec.ofChange fnLogForkWrong)

/-- 'laws.FnLogBegins': WHATEVER THE INPUT: true; the input reads as it did. -/
def fnLogBeginsSpec : ChangeSpec := { name := "fnLogBegins", fn := fun _ => fun
  | [d] => { results := [.lit (.bool true)], args := [d] }
  | _ => none }
def fnLogBeginsRow : OpenClaim := { program := "ytjkagmelpgpjgaa", sum := "56b8bb9afffa69aeff3eb021a11dff3060d10c12a4c89c31e220a227a90fe5ee", func := "loop.example/depositary/laws.FnLogBegins", spec := "fnLogBegins", unfollowed := true, recurses := true, apart := false }
def FnLogBeginsSaid : Prop := fnLogBeginsRow.holds Try.pinned (OpenSpec.ofChange fnLogBeginsSpec)

/-- ITS FALSE NEIGHBOUR: 'it returns false'. Refute it at one input. -/
def fnLogBeginsWrong : ChangeSpec := { name := "fnLogBegins", fn := fun _ => fun
  | [d] => { results := [.lit (.bool false)], args := [d] }
  | _ => none }
def FnLogBeginsWrongFalsely : Prop := fnLogBeginsRow.holds Try.pinned (OpenSpec.ofChange fnLogBeginsWrong)

/-- 'laws.FnForkAdd': WHATEVER THE INPUT: true; the input reads as it did. -/
def fnForkAddSpec : ChangeSpec := { name := "fnForkAdd", fn := fun _ => fun
  | [d1, d2] => { results := [.lit (.bool true)], args := [d1, d2] }
  | _ => none }
def fnForkAddRow : OpenClaim := { program := "ytjkagmelpgpjgaa", sum := "56b8bb9afffa69aeff3eb021a11dff3060d10c12a4c89c31e220a227a90fe5ee", func := "loop.example/depositary/laws.FnForkAdd", spec := "fnForkAdd", unfollowed := true, recurses := true, apart := false }
def FnForkAddSaid : Prop := fnForkAddRow.holds Try.pinned (OpenSpec.ofChange fnForkAddSpec)

/-- ITS FALSE NEIGHBOUR: 'it returns false'. Refute it at one input. -/
def fnForkAddWrong : ChangeSpec := { name := "fnForkAdd", fn := fun _ => fun
  | [d1, d2] => { results := [.lit (.bool false)], args := [d1, d2] }
  | _ => none }
def FnForkAddWrongFalsely : Prop := fnForkAddRow.holds Try.pinned (OpenSpec.ofChange fnForkAddWrong)

/-- 'laws.FnSeeBack': WHATEVER THE INPUT: true; the input reads as it did. -/
def fnSeeBackSpec : ChangeSpec := { name := "fnSeeBack", fn := fun _ => fun
  | [d1, d2] => { results := [.lit (.bool true)], args := [d1, d2] }
  | _ => none }
def fnSeeBackRow : OpenClaim := { program := "ytjkagmelpgpjgaa", sum := "56b8bb9afffa69aeff3eb021a11dff3060d10c12a4c89c31e220a227a90fe5ee", func := "loop.example/depositary/laws.FnSeeBack", spec := "fnSeeBack", unfollowed := true, recurses := true, apart := false }
def FnSeeBackSaid : Prop := fnSeeBackRow.holds Try.pinned (OpenSpec.ofChange fnSeeBackSpec)

/-- ITS FALSE NEIGHBOUR: 'it returns false'. Refute it at one input. -/
def fnSeeBackWrong : ChangeSpec := { name := "fnSeeBack", fn := fun _ => fun
  | [d1, d2] => { results := [.lit (.bool false)], args := [d1, d2] }
  | _ => none }
def FnSeeBackWrongFalsely : Prop := fnSeeBackRow.holds Try.pinned (OpenSpec.ofChange fnSeeBackWrong)

/-- 'laws.FnSeeWell': WHATEVER THE INPUT: true; the input reads as it did. -/
def fnSeeWellSpec : ChangeSpec := { name := "fnSeeWell", fn := fun _ => fun
  | [d] => { results := [.lit (.bool true)], args := [d] }
  | _ => none }
def fnSeeWellRow : OpenClaim := { program := "ytjkagmelpgpjgaa", sum := "56b8bb9afffa69aeff3eb021a11dff3060d10c12a4c89c31e220a227a90fe5ee", func := "loop.example/depositary/laws.FnSeeWell", spec := "fnSeeWell", unfollowed := true, recurses := true, apart := false }
def FnSeeWellSaid : Prop := fnSeeWellRow.holds Try.pinned (OpenSpec.ofChange fnSeeWellSpec)

/-- ITS FALSE NEIGHBOUR: 'it returns false'. Refute it at one input. -/
def fnSeeWellWrong : ChangeSpec := { name := "fnSeeWell", fn := fun _ => fun
  | [d] => { results := [.lit (.bool false)], args := [d] }
  | _ => none }
def FnSeeWellWrongFalsely : Prop := fnSeeWellRow.holds Try.pinned (OpenSpec.ofChange fnSeeWellWrong)

/-- 'laws.FnLogThree': WHATEVER THE INPUT: true; the input reads as it did. -/
def fnLogThreeSpec : ChangeSpec := { name := "fnLogThree", fn := fun _ => fun
  | [d1, d2] => { results := [.lit (.bool true)], args := [d1, d2] }
  | _ => none }
def fnLogThreeRow : OpenClaim := { program := "ytjkagmelpgpjgaa", sum := "56b8bb9afffa69aeff3eb021a11dff3060d10c12a4c89c31e220a227a90fe5ee", func := "loop.example/depositary/laws.FnLogThree", spec := "fnLogThree", unfollowed := true, recurses := true, apart := false }
def FnLogThreeSaid : Prop := fnLogThreeRow.holds Try.pinned (OpenSpec.ofChange fnLogThreeSpec)

/-- ITS FALSE NEIGHBOUR: 'it returns false'. Refute it at one input. -/
def fnLogThreeWrong : ChangeSpec := { name := "fnLogThree", fn := fun _ => fun
  | [d1, d2] => { results := [.lit (.bool false)], args := [d1, d2] }
  | _ => none }
def FnLogThreeWrongFalsely : Prop := fnLogThreeRow.holds Try.pinned (OpenSpec.ofChange fnLogThreeWrong)

/-- 'laws.FnLogAdd': WHATEVER THE INPUT: true; the input reads as it did. -/
def fnLogAddSpec : ChangeSpec := { name := "fnLogAdd", fn := fun _ => fun
  | [d] => { results := [.lit (.bool true)], args := [d] }
  | _ => none }
def fnLogAddRow : OpenClaim := { program := "ytjkagmelpgpjgaa", sum := "56b8bb9afffa69aeff3eb021a11dff3060d10c12a4c89c31e220a227a90fe5ee", func := "loop.example/depositary/laws.FnLogAdd", spec := "fnLogAdd", unfollowed := true, recurses := true, apart := false }
def FnLogAddSaid : Prop := fnLogAddRow.holds Try.pinned (OpenSpec.ofChange fnLogAddSpec)

/-- ITS FALSE NEIGHBOUR: 'it returns false'. Refute it at one input. -/
def fnLogAddWrong : ChangeSpec := { name := "fnLogAdd", fn := fun _ => fun
  | [d] => { results := [.lit (.bool false)], args := [d] }
  | _ => none }
def FnLogAddWrongFalsely : Prop := fnLogAddRow.holds Try.pinned (OpenSpec.ofChange fnLogAddWrong)

/-- 'laws.FnSeeTwo': WHATEVER THE INPUT: true; the input reads as it did. -/
def fnSeeTwoSpec : ChangeSpec := { name := "fnSeeTwo", fn := fun _ => fun
  | [d] => { results := [.lit (.bool true)], args := [d] }
  | _ => none }
def fnSeeTwoRow : OpenClaim := { program := "ytjkagmelpgpjgaa", sum := "56b8bb9afffa69aeff3eb021a11dff3060d10c12a4c89c31e220a227a90fe5ee", func := "loop.example/depositary/laws.FnSeeTwo", spec := "fnSeeTwo", unfollowed := true, recurses := true, apart := false }
def FnSeeTwoSaid : Prop := fnSeeTwoRow.holds Try.pinned (OpenSpec.ofChange fnSeeTwoSpec)

/-- ITS FALSE NEIGHBOUR: 'it returns false'. Refute it at one input. -/
def fnSeeTwoWrong : ChangeSpec := { name := "fnSeeTwo", fn := fun _ => fun
  | [d] => { results := [.lit (.bool false)], args := [d] }
  | _ => none }
def FnSeeTwoWrongFalsely : Prop := fnSeeTwoRow.holds Try.pinned (OpenSpec.ofChange fnSeeTwoWrong)

/-- 'laws.FnExactMemorySee': WHATEVER THE INPUT: true; the input reads as it did. -/
def fnExactMemorySeeSpec : ChangeSpec := { name := "fnExactMemorySee", fn := fun _ => fun
  | [d1, d2] => { results := [.lit (.bool true)], args := [d1, d2] }
  | _ => none }
def fnExactMemorySeeRow : OpenClaim := { program := "ytjkagmelpgpjgaa", sum := "56b8bb9afffa69aeff3eb021a11dff3060d10c12a4c89c31e220a227a90fe5ee", func := "loop.example/depositary/laws.FnExactMemorySee", spec := "fnExactMemorySee", unfollowed := true, recurses := true, apart := false }
def FnExactMemorySeeSaid : Prop := fnExactMemorySeeRow.holds Try.pinned (OpenSpec.ofChange fnExactMemorySeeSpec)

/-- ITS FALSE NEIGHBOUR: 'it returns false'. Refute it at one input. -/
def fnExactMemorySeeWrong : ChangeSpec := { name := "fnExactMemorySee", fn := fun _ => fun
  | [d1, d2] => { results := [.lit (.bool false)], args := [d1, d2] }
  | _ => none }
def FnExactMemorySeeWrongFalsely : Prop := fnExactMemorySeeRow.holds Try.pinned (OpenSpec.ofChange fnExactMemorySeeWrong)

/-- 'laws.FnMemoryGrows': WHATEVER THE INPUT: true; the input reads as it did. -/
def fnMemoryGrowsSpec : ChangeSpec := { name := "fnMemoryGrows", fn := fun _ => fun
  | [d1, d2] => { results := [.lit (.bool true)], args := [d1, d2] }
  | _ => none }
def fnMemoryGrowsRow : OpenClaim := { program := "ytjkagmelpgpjgaa", sum := "56b8bb9afffa69aeff3eb021a11dff3060d10c12a4c89c31e220a227a90fe5ee", func := "loop.example/depositary/laws.FnMemoryGrows", spec := "fnMemoryGrows", unfollowed := true, recurses := true, apart := false }
def FnMemoryGrowsSaid : Prop := fnMemoryGrowsRow.holds Try.pinned (OpenSpec.ofChange fnMemoryGrowsSpec)

/-- ITS FALSE NEIGHBOUR: 'it returns false'. Refute it at one input. -/
def fnMemoryGrowsWrong : ChangeSpec := { name := "fnMemoryGrows", fn := fun _ => fun
  | [d1, d2] => { results := [.lit (.bool false)], args := [d1, d2] }
  | _ => none }
def FnMemoryGrowsWrongFalsely : Prop := fnMemoryGrowsRow.holds Try.pinned (OpenSpec.ofChange fnMemoryGrowsWrong)

/-- 'laws.FnSeeFork': WHATEVER THE INPUT: true; the input reads as it did. -/
def fnSeeForkSpec : ChangeSpec := { name := "fnSeeFork", fn := fun _ => fun
  | [d1, d2] => { results := [.lit (.bool true)], args := [d1, d2] }
  | _ => none }
def fnSeeForkRow : OpenClaim := { program := "ytjkagmelpgpjgaa", sum := "56b8bb9afffa69aeff3eb021a11dff3060d10c12a4c89c31e220a227a90fe5ee", func := "loop.example/depositary/laws.FnSeeFork", spec := "fnSeeFork", unfollowed := true, recurses := true, apart := false }
def FnSeeForkSaid : Prop := fnSeeForkRow.holds Try.pinned (OpenSpec.ofChange fnSeeForkSpec)

/-- ITS FALSE NEIGHBOUR: 'it returns false'. Refute it at one input. -/
def fnSeeForkWrong : ChangeSpec := { name := "fnSeeFork", fn := fun _ => fun
  | [d1, d2] => { results := [.lit (.bool false)], args := [d1, d2] }
  | _ => none }
def FnSeeForkWrongFalsely : Prop := fnSeeForkRow.holds Try.pinned (OpenSpec.ofChange fnSeeForkWrong)

/- THE SECOND FORM. 'bulk': how many values and letters a reading holds, each counted each time it is reached (what is shared counts as often as it is met; a slice's spare places count too). A statement '..UptoSaid' is the law's where the arguments, and the package variables that the reading takes, are together of bulk at most 1048576: NARROWER than '..Said'. Prove '..Said' where nothing that the law and all that it calls make is longer than what came in: it says more and counts as full. Else prove '..UptoSaid'. A law counts once. -/
mutual
def uptoBulk {H : Type} : DataW H → Nat
  | .lit (.string bytes) => bytes.length + 1
  | .lit _ => 1
  | .nil => 1
  | .ptr d => uptoBulk d + 1
  | .slice elems spare => uptoBulkAll elems + uptoBulkAll spare + 1
  | .agg parts => uptoBulkAll parts + 1
  | .iface _ d => uptoBulk d + 1
  | .map entries => uptoBulkEntries entries + 1
  | .held _ => 1
def uptoBulkAll {H : Type} : List (DataW H) → Nat
  | [] => 0
  | d :: r => uptoBulk d + uptoBulkAll r
def uptoBulkEntries {H : Type} : List (Lit × DataW H) → Nat
  | [] => 0
  | x :: r => uptoBulkEntry x + uptoBulkEntries r
def uptoBulkEntry {H : Type} : Lit × DataW H → Nat
  | (.string bytes, d) => bytes.length + uptoBulk d + 1
  | (_, d) => uptoBulk d + 1
 end
def uptoSmall : (H : Type) → List (DataW H) → Bool := fun _ ds => decide (uptoBulkAll ds ≤ 1048576)
def OpenSpec.upto (s : _root_.Go.ChangeSpec) : _root_.Go.OpenSpec := { _root_.Go.OpenSpec.ofChange s with cond := some uptoSmall }

/-- 'laws.FnLogForm', WHERE WHAT IT READS IS OF BULK AT MOST 1048576: true; the input reads as it did. -/
def fnLogFormUptoRow : OpenClaim := { program := "ytjkagmelpgpjgaa", sum := "56b8bb9afffa69aeff3eb021a11dff3060d10c12a4c89c31e220a227a90fe5ee", func := "loop.example/depositary/laws.FnLogForm", spec := "fnLogForm", unfollowed := true, recurses := true, apart := false, narrowed := true }
def FnLogFormUptoSaid : Prop := fnLogFormUptoRow.holds Try.pinned (OpenSpec.upto fnLogFormSpec)

/-- 'laws.FnExactLogOk', WHERE WHAT IT READS IS OF BULK AT MOST 1048576: true; the input reads as it did. -/
def fnExactLogOkUptoRow : OpenClaim := { program := "ytjkagmelpgpjgaa", sum := "56b8bb9afffa69aeff3eb021a11dff3060d10c12a4c89c31e220a227a90fe5ee", func := "loop.example/depositary/laws.FnExactLogOk", spec := "fnExactLogOk", unfollowed := true, recurses := true, apart := false, narrowed := true }
def FnExactLogOkUptoSaid : Prop := fnExactLogOkUptoRow.holds Try.pinned (OpenSpec.upto fnExactLogOkSpec)

/-- 'laws.FnExactLogFork', WHERE WHAT IT READS IS OF BULK AT MOST 1048576: true; the input reads as it did. -/
def fnExactLogForkUptoRow : OpenClaim := { program := "ytjkagmelpgpjgaa", sum := "56b8bb9afffa69aeff3eb021a11dff3060d10c12a4c89c31e220a227a90fe5ee", func := "loop.example/depositary/laws.FnExactLogFork", spec := "fnExactLogFork", unfollowed := true, recurses := true, apart := false, narrowed := true }
def FnExactLogForkUptoSaid : Prop := fnExactLogForkUptoRow.holds Try.pinned (OpenSpec.upto fnExactLogForkSpec)

/-- 'laws.FnExactLogSum', WHERE WHAT IT READS IS OF BULK AT MOST 1048576: true; the input reads as it did. -/
def fnExactLogSumUptoRow : OpenClaim := { program := "ytjkagmelpgpjgaa", sum := "56b8bb9afffa69aeff3eb021a11dff3060d10c12a4c89c31e220a227a90fe5ee", func := "loop.example/depositary/laws.FnExactLogSum", spec := "fnExactLogSum", unfollowed := true, recurses := true, apart := false, narrowed := true }
def FnExactLogSumUptoSaid : Prop := fnExactLogSumUptoRow.holds Try.pinned (OpenSpec.upto fnExactLogSumSpec)

/-- 'laws.FnLogSum', WHERE WHAT IT READS IS OF BULK AT MOST 1048576: true; the input reads as it did. -/
def fnLogSumUptoRow : OpenClaim := { program := "ytjkagmelpgpjgaa", sum := "56b8bb9afffa69aeff3eb021a11dff3060d10c12a4c89c31e220a227a90fe5ee", func := "loop.example/depositary/laws.FnLogSum", spec := "fnLogSum", unfollowed := true, recurses := true, apart := false, narrowed := true }
def FnLogSumUptoSaid : Prop := fnLogSumUptoRow.holds Try.pinned (OpenSpec.upto fnLogSumSpec)

/-- 'laws.FnExactLogBegins', WHERE WHAT IT READS IS OF BULK AT MOST 1048576: true; the input reads as it did. -/
def fnExactLogBeginsUptoRow : OpenClaim := { program := "ytjkagmelpgpjgaa", sum := "56b8bb9afffa69aeff3eb021a11dff3060d10c12a4c89c31e220a227a90fe5ee", func := "loop.example/depositary/laws.FnExactLogBegins", spec := "fnExactLogBegins", unfollowed := true, recurses := true, apart := false, narrowed := true }
def FnExactLogBeginsUptoSaid : Prop := fnExactLogBeginsUptoRow.holds Try.pinned (OpenSpec.upto fnExactLogBeginsSpec)

/-- 'laws.FnExactLogAdd', WHERE WHAT IT READS IS OF BULK AT MOST 1048576: true; the input reads as it did. -/
def fnExactLogAddUptoRow : OpenClaim := { program := "ytjkagmelpgpjgaa", sum := "56b8bb9afffa69aeff3eb021a11dff3060d10c12a4c89c31e220a227a90fe5ee", func := "loop.example/depositary/laws.FnExactLogAdd", spec := "fnExactLogAdd", unfollowed := true, recurses := true, apart := false, narrowed := true }
def FnExactLogAddUptoSaid : Prop := fnExactLogAddUptoRow.holds Try.pinned (OpenSpec.upto fnExactLogAddSpec)

/-- 'laws.FnLogFork', WHERE WHAT IT READS IS OF BULK AT MOST 1048576: true; the input reads as it did. -/
def fnLogForkUptoRow : OpenClaim := { program := "ytjkagmelpgpjgaa", sum := "56b8bb9afffa69aeff3eb021a11dff3060d10c12a4c89c31e220a227a90fe5ee", func := "loop.example/depositary/laws.FnLogFork", spec := "fnLogFork", unfollowed := true, recurses := true, apart := false, narrowed := true }
def FnLogForkUptoSaid : Prop := fnLogForkUptoRow.holds Try.pinned (OpenSpec.upto fnLogForkSpec)

/-- 'laws.FnLogBegins', WHERE WHAT IT READS IS OF BULK AT MOST 1048576: true; the input reads as it did. -/
def fnLogBeginsUptoRow : OpenClaim := { program := "ytjkagmelpgpjgaa", sum := "56b8bb9afffa69aeff3eb021a11dff3060d10c12a4c89c31e220a227a90fe5ee", func := "loop.example/depositary/laws.FnLogBegins", spec := "fnLogBegins", unfollowed := true, recurses := true, apart := false, narrowed := true }
def FnLogBeginsUptoSaid : Prop := fnLogBeginsUptoRow.holds Try.pinned (OpenSpec.upto fnLogBeginsSpec)

/-- 'laws.FnForkAdd', WHERE WHAT IT READS IS OF BULK AT MOST 1048576: true; the input reads as it did. -/
def fnForkAddUptoRow : OpenClaim := { program := "ytjkagmelpgpjgaa", sum := "56b8bb9afffa69aeff3eb021a11dff3060d10c12a4c89c31e220a227a90fe5ee", func := "loop.example/depositary/laws.FnForkAdd", spec := "fnForkAdd", unfollowed := true, recurses := true, apart := false, narrowed := true }
def FnForkAddUptoSaid : Prop := fnForkAddUptoRow.holds Try.pinned (OpenSpec.upto fnForkAddSpec)

/-- 'laws.FnSeeBack', WHERE WHAT IT READS IS OF BULK AT MOST 1048576: true; the input reads as it did. -/
def fnSeeBackUptoRow : OpenClaim := { program := "ytjkagmelpgpjgaa", sum := "56b8bb9afffa69aeff3eb021a11dff3060d10c12a4c89c31e220a227a90fe5ee", func := "loop.example/depositary/laws.FnSeeBack", spec := "fnSeeBack", unfollowed := true, recurses := true, apart := false, narrowed := true }
def FnSeeBackUptoSaid : Prop := fnSeeBackUptoRow.holds Try.pinned (OpenSpec.upto fnSeeBackSpec)

/-- 'laws.FnSeeWell', WHERE WHAT IT READS IS OF BULK AT MOST 1048576: true; the input reads as it did. -/
def fnSeeWellUptoRow : OpenClaim := { program := "ytjkagmelpgpjgaa", sum := "56b8bb9afffa69aeff3eb021a11dff3060d10c12a4c89c31e220a227a90fe5ee", func := "loop.example/depositary/laws.FnSeeWell", spec := "fnSeeWell", unfollowed := true, recurses := true, apart := false, narrowed := true }
def FnSeeWellUptoSaid : Prop := fnSeeWellUptoRow.holds Try.pinned (OpenSpec.upto fnSeeWellSpec)

/-- 'laws.FnLogThree', WHERE WHAT IT READS IS OF BULK AT MOST 1048576: true; the input reads as it did. -/
def fnLogThreeUptoRow : OpenClaim := { program := "ytjkagmelpgpjgaa", sum := "56b8bb9afffa69aeff3eb021a11dff3060d10c12a4c89c31e220a227a90fe5ee", func := "loop.example/depositary/laws.FnLogThree", spec := "fnLogThree", unfollowed := true, recurses := true, apart := false, narrowed := true }
def FnLogThreeUptoSaid : Prop := fnLogThreeUptoRow.holds Try.pinned (OpenSpec.upto fnLogThreeSpec)

/-- 'laws.FnLogAdd', WHERE WHAT IT READS IS OF BULK AT MOST 1048576: true; the input reads as it did. -/
def fnLogAddUptoRow : OpenClaim := { program := "ytjkagmelpgpjgaa", sum := "56b8bb9afffa69aeff3eb021a11dff3060d10c12a4c89c31e220a227a90fe5ee", func := "loop.example/depositary/laws.FnLogAdd", spec := "fnLogAdd", unfollowed := true, recurses := true, apart := false, narrowed := true }
def FnLogAddUptoSaid : Prop := fnLogAddUptoRow.holds Try.pinned (OpenSpec.upto fnLogAddSpec)

/-- 'laws.FnSeeTwo', WHERE WHAT IT READS IS OF BULK AT MOST 1048576: true; the input reads as it did. -/
def fnSeeTwoUptoRow : OpenClaim := { program := "ytjkagmelpgpjgaa", sum := "56b8bb9afffa69aeff3eb021a11dff3060d10c12a4c89c31e220a227a90fe5ee", func := "loop.example/depositary/laws.FnSeeTwo", spec := "fnSeeTwo", unfollowed := true, recurses := true, apart := false, narrowed := true }
def FnSeeTwoUptoSaid : Prop := fnSeeTwoUptoRow.holds Try.pinned (OpenSpec.upto fnSeeTwoSpec)

/-- 'laws.FnExactMemorySee', WHERE WHAT IT READS IS OF BULK AT MOST 1048576: true; the input reads as it did. -/
def fnExactMemorySeeUptoRow : OpenClaim := { program := "ytjkagmelpgpjgaa", sum := "56b8bb9afffa69aeff3eb021a11dff3060d10c12a4c89c31e220a227a90fe5ee", func := "loop.example/depositary/laws.FnExactMemorySee", spec := "fnExactMemorySee", unfollowed := true, recurses := true, apart := false, narrowed := true }
def FnExactMemorySeeUptoSaid : Prop := fnExactMemorySeeUptoRow.holds Try.pinned (OpenSpec.upto fnExactMemorySeeSpec)

/-- 'laws.FnMemoryGrows', WHERE WHAT IT READS IS OF BULK AT MOST 1048576: true; the input reads as it did. -/
def fnMemoryGrowsUptoRow : OpenClaim := { program := "ytjkagmelpgpjgaa", sum := "56b8bb9afffa69aeff3eb021a11dff3060d10c12a4c89c31e220a227a90fe5ee", func := "loop.example/depositary/laws.FnMemoryGrows", spec := "fnMemoryGrows", unfollowed := true, recurses := true, apart := false, narrowed := true }
def FnMemoryGrowsUptoSaid : Prop := fnMemoryGrowsUptoRow.holds Try.pinned (OpenSpec.upto fnMemoryGrowsSpec)

/-- 'laws.FnSeeFork', WHERE WHAT IT READS IS OF BULK AT MOST 1048576: true; the input reads as it did. -/
def fnSeeForkUptoRow : OpenClaim := { program := "ytjkagmelpgpjgaa", sum := "56b8bb9afffa69aeff3eb021a11dff3060d10c12a4c89c31e220a227a90fe5ee", func := "loop.example/depositary/laws.FnSeeFork", spec := "fnSeeFork", unfollowed := true, recurses := true, apart := false, narrowed := true }
def FnSeeForkUptoSaid : Prop := fnSeeForkUptoRow.holds Try.pinned (OpenSpec.upto fnSeeForkSpec)

end Rows
end Go.Proofs.Ytjkagmelpgpjgaa
