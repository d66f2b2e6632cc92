/-
  No cell of these rows narrows 'for every input' (looked for: loops, veiled, ifaces, maps, wideKeys, modest, calm, conditions, laid).
  DERIVED. THE GIVEN ROWS OF THIS SEAT. 3 by the template 'for every input the law returns true; each argument reads behind the call as it read before'; 0 by the template 'total and deterministic' (their statements: YtdgidcbahbkabaaTotals.lean).
  GIVEN WITH THE SEED: the statements are not yours to turn. If you find one false, say at which input.
  Laid BY PROGRAM, IN A SANDBOX (cutbox-rows.mjs): the forced cells as the released guide's own fill.sh prints them over the translation bdcb362181299a76… (all of the seat's roots in one cut). By AI agents, Wed Nov 11 2026. No macro, syntax, notation, axiom, sorry.
-/
import Derived.Test.YtdgidcbahbkabaaChecked
import GoSem.Claim
import GoSem.ClaimJoined
import GoSem.ClaimMapViews
import Derived.JoinedTies
import Derived.KernelRfl
namespace Go.Proofs.Ytdgidcbahbkabaa
/- THE CELL 'sum', in the pinned program and in every row, IS THE sha256 OF THE DUMP (.gsa) THAT YtdgidcbahbkabaaProg.lean LOADS. Nothing in Lean hashes anything: it is a label: what it is worth is what the hold of that sum in a sandbox is worth. -/
noncomputable def Try.pinned : Pinned := { name := "ytdgidcbahbkabaa", sum := "bdcb362181299a762872bc692d365897519edebba35b6494e52054052a7e302e", checked := Try.checked }
namespace Rows
def none {H : Type} : Left H := { results := [], args := [] }

/-- 'laws.FnExactSnapNames': WHATEVER THE INPUT: true; the input reads as it did. -/
def fnExactSnapNamesSpec : ChangeSpec := { name := "fnExactSnapNames", fn := fun _ => fun
  | [d] => { results := [.lit (.bool true)], args := [d] }
  | _ => none }
def fnExactSnapNamesRow : OpenClaim := { program := "ytdgidcbahbkabaa", sum := "bdcb362181299a762872bc692d365897519edebba35b6494e52054052a7e302e", func := "loop.example/depositary/laws.FnExactSnapNames", spec := "fnExactSnapNames", recurses := true, apart := false }
def FnExactSnapNamesSaid : Prop := fnExactSnapNamesRow.holds Try.pinned (OpenSpec.ofChange fnExactSnapNamesSpec)

/-- ITS FALSE NEIGHBOUR: 'it returns false'. Refute it at one input. -/
def fnExactSnapNamesWrong : ChangeSpec := { name := "fnExactSnapNames", fn := fun _ => fun
  | [d] => { results := [.lit (.bool false)], args := [d] }
  | _ => none }
def FnExactSnapNamesWrongFalsely : Prop := fnExactSnapNamesRow.holds Try.pinned (OpenSpec.ofChange fnExactSnapNamesWrong)

/-- 'laws.FnSnapNames': WHATEVER THE INPUT: true; the input reads as it did. -/
def fnSnapNamesSpec : ChangeSpec := { name := "fnSnapNames", fn := fun _ => fun
  | [d] => { results := [.lit (.bool true)], args := [d] }
  | _ => none }
def fnSnapNamesRow : OpenClaim := { program := "ytdgidcbahbkabaa", sum := "bdcb362181299a762872bc692d365897519edebba35b6494e52054052a7e302e", func := "loop.example/depositary/laws.FnSnapNames", spec := "fnSnapNames", recurses := true, apart := false }
def FnSnapNamesSaid : Prop := fnSnapNamesRow.holds Try.pinned (OpenSpec.ofChange fnSnapNamesSpec)

/-- ITS FALSE NEIGHBOUR: 'it returns false'. Refute it at one input. -/
def fnSnapNamesWrong : ChangeSpec := { name := "fnSnapNames", fn := fun _ => fun
  | [d] => { results := [.lit (.bool false)], args := [d] }
  | _ => none }
def FnSnapNamesWrongFalsely : Prop := fnSnapNamesRow.holds Try.pinned (OpenSpec.ofChange fnSnapNamesWrong)

/-- 'laws.FnSnapSame': WHATEVER THE INPUT: true; the input reads as it did. -/
def fnSnapSameSpec : ChangeSpec := { name := "fnSnapSame", fn := fun _ => fun
  | [d] => { results := [.lit (.bool true)], args := [d] }
  | _ => none }
def fnSnapSameRow : OpenClaim := { program := "ytdgidcbahbkabaa", sum := "bdcb362181299a762872bc692d365897519edebba35b6494e52054052a7e302e", func := "loop.example/depositary/laws.FnSnapSame", spec := "fnSnapSame", unfollowed := true, recurses := true, apart := false }
def FnSnapSameSaid : Prop := fnSnapSameRow.holds Try.pinned (OpenSpec.ofChange fnSnapSameSpec)

/-- ITS FALSE NEIGHBOUR: 'it returns false'. Refute it at one input. -/
def fnSnapSameWrong : ChangeSpec := { name := "fnSnapSame", fn := fun _ => fun
  | [d] => { results := [.lit (.bool false)], args := [d] }
  | _ => none }
def FnSnapSameWrongFalsely : Prop := fnSnapSameRow.holds Try.pinned (OpenSpec.ofChange fnSnapSameWrong)

/- THE SECOND FORM. 'bulk': how many values and letters a reading holds, each counted each time it is reached (what is shared counts as often as it is met; a slice's spare places count too). A statement '..UptoSaid' is the law's where the arguments, and the package variables that the reading takes, are together of bulk at most 1048576: NARROWER than '..Said'. Prove '..Said' where nothing that the law and all that it calls make is longer than what came in: it says more and counts as full. Else prove '..UptoSaid'. A law counts once. -/
mutual
def uptoBulk {H : Type} : DataW H → Nat
  | .lit (.string bytes) => bytes.length + 1
  | .lit _ => 1
  | .nil => 1
  | .ptr d => uptoBulk d + 1
  | .slice elems spare => uptoBulkAll elems + uptoBulkAll spare + 1
  | .agg parts => uptoBulkAll parts + 1
  | .iface _ d => uptoBulk d + 1
  | .map entries => uptoBulkEntries entries + 1
  | .held _ => 1
def uptoBulkAll {H : Type} : List (DataW H) → Nat
  | [] => 0
  | d :: r => uptoBulk d + uptoBulkAll r
def uptoBulkEntries {H : Type} : List (Lit × DataW H) → Nat
  | [] => 0
  | x :: r => uptoBulkEntry x + uptoBulkEntries r
def uptoBulkEntry {H : Type} : Lit × DataW H → Nat
  | (.string bytes, d) => bytes.length + uptoBulk d + 1
  | (_, d) => uptoBulk d + 1
 end
def uptoSmall : (H : Type) → List (DataW H) → Bool := fun _ ds => decide (uptoBulkAll ds ≤ 1048576)
def OpenSpec.upto (s : _root_.Go.ChangeSpec) : _root_.Go.OpenSpec := { _root_.Go.OpenSpec.ofChange s with cond := some uptoSmall }

/-- 'laws.FnExactSnapNames', WHERE WHAT IT READS IS OF BULK AT MOST 1048576: true; the input reads as it did. -/
def fnExactSnapNamesUptoRow : OpenClaim := { program := "ytdgidcbahbkabaa", sum := "bdcb362181299a762872bc692d365897519edebba35b6494e52054052a7e302e", func := "loop.example/depositary/laws.FnExactSnapNames", spec := "fnExactSnapNames", recurses := true, apart := false, narrowed := true }
def FnExactSnapNamesUptoSaid : Prop := fnExactSnapNamesUptoRow.holds Try.pinned (OpenSpec.upto fnExactSnapNamesSpec)

/-- 'laws.FnSnapNames', WHERE WHAT IT READS IS OF BULK AT MOST 1048576: true; the input reads as it did. -/
def fnSnapNamesUptoRow : OpenClaim := { program := "ytdgidcbahbkabaa", sum := "bdcb362181299a762872bc692d365897519edebba35b6494e52054052a7e302e", func := "loop.example/depositary/laws.FnSnapNames", spec := "fnSnapNames", recurses := true, apart := false, narrowed := true }
def FnSnapNamesUptoSaid : Prop := fnSnapNamesUptoRow.holds Try.pinned (OpenSpec.upto fnSnapNamesSpec)

/-- 'laws.FnSnapSame', WHERE WHAT IT READS IS OF BULK AT MOST 1048576: true; the input reads as it did. -/
def fnSnapSameUptoRow : OpenClaim := { program := "ytdgidcbahbkabaa", sum := "bdcb362181299a762872bc692d365897519edebba35b6494e52054052a7e302e", func := "loop.example/depositary/laws.FnSnapSame", spec := "fnSnapSame", unfollowed := true, recurses := true, apart := false, narrowed := true }
def FnSnapSameUptoSaid : Prop := fnSnapSameUptoRow.holds Try.pinned (OpenSpec.upto fnSnapSameSpec)

end Rows
end Go.Proofs.Ytdgidcbahbkabaa
