/-
  No cell of these rows narrows 'for every input' (looked for: loops, veiled, ifaces, maps, wideKeys, modest, calm, conditions, laid).
  DERIVED. THE GIVEN ROWS OF THIS SEAT. 5 by the template 'for every input the law returns true; each argument reads behind the call as it read before'; 0 by the template 'total and deterministic' (their statements: YthpldilmeoggkaaTotals.lean).
  GIVEN WITH THE SEED: the statements are not yours to turn. If you find one false, say at which input.
  Laid BY PROGRAM, IN A SANDBOX (cutbox-rows.mjs): the forced cells as the released guide's own fill.sh prints them over the translation 61348f1698043565… (all of the seat's roots in one cut). By AI agents, Wed Nov 11 2026. No macro, syntax, notation, axiom, sorry.
-/
import Derived.Test.YthpldilmeoggkaaChecked
import GoSem.Claim
import GoSem.ClaimJoined
import GoSem.ClaimMapViews
import Derived.JoinedTies
import Derived.KernelRfl
namespace Go.Proofs.Ythpldilmeoggkaa
/- THE CELL 'sum', in the pinned program and in every row, IS THE sha256 OF THE DUMP (.gsa) THAT YthpldilmeoggkaaProg.lean LOADS. Nothing in Lean hashes anything: it is a label: what it is worth is what the hold of that sum in a sandbox is worth. -/
noncomputable def Try.pinned : Pinned := { name := "ythpldilmeoggkaa", sum := "61348f1698043565c4d6d0f5245b94d8b762c124796fb5cc82292dfdd72db5b0", checked := Try.checked }
namespace Rows
def none {H : Type} : Left H := { results := [], args := [] }

/-- 'laws.FnIndexTwice': WHATEVER THE INPUT: true; the input reads as it did. -/
def fnIndexTwiceSpec : ChangeSpec := { name := "fnIndexTwice", fn := fun _ => fun
  | [d1, d2] => { results := [.lit (.bool true)], args := [d1, d2] }
  | _ => none }
def fnIndexTwiceRow : OpenClaim := { program := "ythpldilmeoggkaa", sum := "61348f1698043565c4d6d0f5245b94d8b762c124796fb5cc82292dfdd72db5b0", func := "loop.example/depositary/laws.FnIndexTwice", spec := "fnIndexTwice", recurses := true, apart := false }
def FnIndexTwiceSaid : Prop := fnIndexTwiceRow.holds Try.pinned (OpenSpec.ofChange fnIndexTwiceSpec)

/-- ITS FALSE NEIGHBOUR: 'it returns false'. Refute it at one input. -/
def fnIndexTwiceWrong : ChangeSpec := { name := "fnIndexTwice", fn := fun _ => fun
  | [d1, d2] => { results := [.lit (.bool false)], args := [d1, d2] }
  | _ => none }
def FnIndexTwiceWrongFalsely : Prop := fnIndexTwiceRow.holds Try.pinned (OpenSpec.ofChange fnIndexTwiceWrong)

/-- 'laws.FnMergeThree': WHATEVER THE INPUT: true; the input reads as it did. -/
def fnMergeThreeSpec : ChangeSpec := { name := "fnMergeThree", fn := fun _ => fun
  | [d1, d2] => { results := [.lit (.bool true)], args := [d1, d2] }
  | _ => none }
def fnMergeThreeRow : OpenClaim := { program := "ythpldilmeoggkaa", sum := "61348f1698043565c4d6d0f5245b94d8b762c124796fb5cc82292dfdd72db5b0", func := "loop.example/depositary/laws.FnMergeThree", spec := "fnMergeThree", recurses := true, apart := false }
def FnMergeThreeSaid : Prop := fnMergeThreeRow.holds Try.pinned (OpenSpec.ofChange fnMergeThreeSpec)

/-- ITS FALSE NEIGHBOUR: 'it returns false'. Refute it at one input. -/
def fnMergeThreeWrong : ChangeSpec := { name := "fnMergeThree", fn := fun _ => fun
  | [d1, d2] => { results := [.lit (.bool false)], args := [d1, d2] }
  | _ => none }
def FnMergeThreeWrongFalsely : Prop := fnMergeThreeRow.holds Try.pinned (OpenSpec.ofChange fnMergeThreeWrong)

/-- 'laws.FnExactIndexPut': WHATEVER THE INPUT: true; the input reads as it did. -/
def fnExactIndexPutSpec : ChangeSpec := { name := "fnExactIndexPut", fn := fun _ => fun
  | [d1, d2] => { results := [.lit (.bool true)], args := [d1, d2] }
  | _ => none }
def fnExactIndexPutRow : OpenClaim := { program := "ythpldilmeoggkaa", sum := "61348f1698043565c4d6d0f5245b94d8b762c124796fb5cc82292dfdd72db5b0", func := "loop.example/depositary/laws.FnExactIndexPut", spec := "fnExactIndexPut", recurses := true, apart := false }
def FnExactIndexPutSaid : Prop := fnExactIndexPutRow.holds Try.pinned (OpenSpec.ofChange fnExactIndexPutSpec)

/-- ITS FALSE NEIGHBOUR: 'it returns false'. Refute it at one input. -/
def fnExactIndexPutWrong : ChangeSpec := { name := "fnExactIndexPut", fn := fun _ => fun
  | [d1, d2] => { results := [.lit (.bool false)], args := [d1, d2] }
  | _ => none }
def FnExactIndexPutWrongFalsely : Prop := fnExactIndexPutRow.holds Try.pinned (OpenSpec.ofChange fnExactIndexPutWrong)

/-- 'laws.FnIndexPut': WHATEVER THE INPUT: true; the input reads as it did. -/
def fnIndexPutSpec : ChangeSpec := { name := "fnIndexPut", fn := fun _ => fun
  | [d] => { results := [.lit (.bool true)], args := [d] }
  | _ => none }
def fnIndexPutRow : OpenClaim := { program := "ythpldilmeoggkaa", sum := "61348f1698043565c4d6d0f5245b94d8b762c124796fb5cc82292dfdd72db5b0", func := "loop.example/depositary/laws.FnIndexPut", spec := "fnIndexPut", recurses := true, apart := false }
def FnIndexPutSaid : Prop := fnIndexPutRow.holds Try.pinned (OpenSpec.ofChange fnIndexPutSpec)

/-- ITS FALSE NEIGHBOUR: 'it returns false'. Refute it at one input. -/
def fnIndexPutWrong : ChangeSpec := { name := "fnIndexPut", fn := fun _ => fun
  | [d] => { results := [.lit (.bool false)], args := [d] }
  | _ => none }
def FnIndexPutWrongFalsely : Prop := fnIndexPutRow.holds Try.pinned (OpenSpec.ofChange fnIndexPutWrong)

/-- 'laws.FnExactSnapSame': WHATEVER THE INPUT: true; the input reads as it did. -/
def fnExactSnapSameSpec : ChangeSpec := { name := "fnExactSnapSame", fn := fun _ => fun
  | [d1, d2] => { results := [.lit (.bool true)], args := [d1, d2] }
  | _ => none }
def fnExactSnapSameRow : OpenClaim := { program := "ythpldilmeoggkaa", sum := "61348f1698043565c4d6d0f5245b94d8b762c124796fb5cc82292dfdd72db5b0", func := "loop.example/depositary/laws.FnExactSnapSame", spec := "fnExactSnapSame", unfollowed := true, recurses := true, apart := false }
def FnExactSnapSameSaid : Prop := fnExactSnapSameRow.holds Try.pinned (OpenSpec.ofChange fnExactSnapSameSpec)

/-- ITS FALSE NEIGHBOUR: 'it returns false'. Refute it at one input. -/
def fnExactSnapSameWrong : ChangeSpec := { name := "fnExactSnapSame", fn := fun _ => fun
  | [d1, d2] => { results := [.lit (.bool false)], args := [d1, d2] }
  | _ => none }
def FnExactSnapSameWrongFalsely : Prop := fnExactSnapSameRow.holds Try.pinned (OpenSpec.ofChange fnExactSnapSameWrong)

/- THE SECOND FORM. 'bulk': how many values and letters a reading holds, each counted each time it is reached (what is shared counts as often as it is met; a slice's spare places count too). A statement '..UptoSaid' is the law's where the arguments, and the package variables that the reading takes, are together of bulk at most 1048576: NARROWER than '..Said'. Prove '..Said' where nothing that the law and all that it calls make is longer than what came in: it says more and counts as full. Else prove '..UptoSaid'. A law counts once. -/
mutual
def uptoBulk {H : Type} : DataW H → Nat
  | .lit (.string bytes) => bytes.length + 1
  | .lit _ => 1
  | .nil => 1
  | .ptr d => uptoBulk d + 1
  | .slice elems spare => uptoBulkAll elems + uptoBulkAll spare + 1
  | .agg parts => uptoBulkAll parts + 1
  | .iface _ d => uptoBulk d + 1
  | .map entries => uptoBulkEntries entries + 1
  | .held _ => 1
def uptoBulkAll {H : Type} : List (DataW H) → Nat
  | [] => 0
  | d :: r => uptoBulk d + uptoBulkAll r
def uptoBulkEntries {H : Type} : List (Lit × DataW H) → Nat
  | [] => 0
  | x :: r => uptoBulkEntry x + uptoBulkEntries r
def uptoBulkEntry {H : Type} : Lit × DataW H → Nat
  | (.string bytes, d) => bytes.length + uptoBulk d + 1
  | (_, d) => uptoBulk d + 1
 end
def uptoSmall : (H : Type) → List (DataW H) → Bool := fun _ ds => decide (uptoBulkAll ds ≤ 1048576)
def OpenSpec.upto (s : _root_.Go.ChangeSpec) : _root_.Go.OpenSpec := { _root_.Go.OpenSpec.ofChange s with cond := some uptoSmall }

/-- 'laws.FnIndexTwice', WHERE WHAT IT READS IS OF BULK AT MOST 1048576: true; the input reads as it did. -/
def fnIndexTwiceUptoRow : OpenClaim := { program := "ythpldilmeoggkaa", sum := "61348f1698043565c4d6d0f5245b94d8b762c124796fb5cc82292dfdd72db5b0", func := "loop.example/depositary/laws.FnIndexTwice", spec := "fnIndexTwice", recurses := true, apart := false, narrowed := true }
def FnIndexTwiceUptoSaid : Prop := fnIndexTwiceUptoRow.holds Try.pinned (OpenSpec.upto fnIndexTwiceSpec)

/-- 'laws.FnMergeThree', WHERE WHAT IT READS IS OF BULK AT MOST 1048576: true; the input reads as it did. -/
def fnMergeThreeUptoRow : OpenClaim := { program := "ythpldilmeoggkaa", sum := "61348f1698043565c4d6d0f5245b94d8b762c124796fb5cc82292dfdd72db5b0", func := "loop.example/depositary/laws.FnMergeThree", spec := "fnMergeThree", recurses := true, apart := false, narrowed := true }
def FnMergeThreeUptoSaid : Prop := fnMergeThreeUptoRow.holds Try.pinned (OpenSpec.upto fnMergeThreeSpec)

/-- 'laws.FnExactIndexPut', WHERE WHAT IT READS IS OF BULK AT MOST 1048576: true; the input reads as it did. -/
def fnExactIndexPutUptoRow : OpenClaim := { program := "ythpldilmeoggkaa", sum := "61348f1698043565c4d6d0f5245b94d8b762c124796fb5cc82292dfdd72db5b0", func := "loop.example/depositary/laws.FnExactIndexPut", spec := "fnExactIndexPut", recurses := true, apart := false, narrowed := true }
def FnExactIndexPutUptoSaid : Prop := fnExactIndexPutUptoRow.holds Try.pinned (OpenSpec.upto fnExactIndexPutSpec)

/-- 'laws.FnIndexPut', WHERE WHAT IT READS IS OF BULK AT MOST 1048576: true; the input reads as it did. -/
def fnIndexPutUptoRow : OpenClaim := { program := "ythpldilmeoggkaa", sum := "61348f1698043565c4d6d0f5245b94d8b762c124796fb5cc82292dfdd72db5b0", func := "loop.example/depositary/laws.FnIndexPut", spec := "fnIndexPut", recurses := true, apart := false, narrowed := true }
def FnIndexPutUptoSaid : Prop := fnIndexPutUptoRow.holds Try.pinned (OpenSpec.upto fnIndexPutSpec)

/-- 'laws.FnExactSnapSame', WHERE WHAT IT READS IS OF BULK AT MOST 1048576: true; the input reads as it did. -/
def fnExactSnapSameUptoRow : OpenClaim := { program := "ythpldilmeoggkaa", sum := "61348f1698043565c4d6d0f5245b94d8b762c124796fb5cc82292dfdd72db5b0", func := "loop.example/depositary/laws.FnExactSnapSame", spec := "fnExactSnapSame", unfollowed := true, recurses := true, apart := false, narrowed := true }
def FnExactSnapSameUptoSaid : Prop := fnExactSnapSameUptoRow.holds Try.pinned (OpenSpec.upto fnExactSnapSameSpec)

end Rows
end Go.Proofs.Ythpldilmeoggkaa
