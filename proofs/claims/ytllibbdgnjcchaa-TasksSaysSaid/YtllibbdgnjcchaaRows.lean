/-
  No cell of these rows narrows 'for every input' (looked for: loops, veiled, ifaces, maps, wideKeys, modest, calm, conditions, laid).
  DERIVED. THE GIVEN ROWS OF THIS SEAT. 5 by the template 'for every input the law returns true; each argument reads behind the call as it read before'; 0 by the template 'total and deterministic' (their statements: YtllibbdgnjcchaaTotals.lean).
  GIVEN WITH THE SEED: the statements are not yours to turn. If you find one false, say at which input.
  Laid BY PROGRAM, IN A SANDBOX (cutbox-rows.mjs): the forced cells as the released guide's own fill.sh prints them over the translation d8ec32a120c7ec6e… (all of the seat's roots in one cut). By AI agents, Wed Nov 11 2026. No macro, syntax, notation, axiom, sorry.
-/
import Derived.Test.YtllibbdgnjcchaaChecked
import GoSem.Claim
import GoSem.ClaimJoined
import GoSem.ClaimMapViews
import Derived.JoinedTies
import Derived.KernelRfl
namespace Go.Proofs.Ytllibbdgnjcchaa
/- THE CELL 'sum', in the pinned program and in every row, IS THE sha256 OF THE DUMP (.gsa) THAT YtllibbdgnjcchaaProg.lean LOADS. Nothing in Lean hashes anything: it is a label: what it is worth is what the hold of that sum in a sandbox is worth. -/
noncomputable def Try.pinned : Pinned := { name := "ytllibbdgnjcchaa", sum := "d8ec32a120c7ec6e78423dfe3cff1fd77359b88973d31b2be19e79e8f06b3d1b", checked := Try.checked }
namespace Rows
def none {H : Type} : Left H := { results := [], args := [] }

/-- 'threshfloorlaw.QueueSays': WHATEVER THE INPUT: true; the input reads as it did. -/
def queueSaysSpec : ChangeSpec := { name := "queueSays", fn := fun _ => fun
  | [d1, d2, d3] => { results := [.lit (.bool true)], args := [d1, d2, d3] }
  | _ => none }
def queueSaysRow : OpenClaim := { program := "ytllibbdgnjcchaa", sum := "d8ec32a120c7ec6e78423dfe3cff1fd77359b88973d31b2be19e79e8f06b3d1b", func := "threshfloor/threshfloorlaw.QueueSays", spec := "queueSays", apart := false }
def QueueSaysSaid : Prop := queueSaysRow.holds Try.pinned (OpenSpec.ofChange queueSaysSpec)

/-- ITS FALSE NEIGHBOUR: 'it returns false'. Refute it at one input. -/
def queueSaysWrong : ChangeSpec := { name := "queueSays", fn := fun _ => fun
  | [d1, d2, d3] => { results := [.lit (.bool false)], args := [d1, d2, d3] }
  | _ => none }
def QueueSaysWrongFalsely : Prop := queueSaysRow.holds Try.pinned (OpenSpec.ofChange queueSaysWrong)

/-- 'threshfloorlaw.FoldSays': WHATEVER THE INPUT: true; the input reads as it did. -/
def foldSaysSpec : ChangeSpec := { name := "foldSays", fn := fun _ => fun
  | [d1, d2, d3, d4] => { results := [.lit (.bool true)], args := [d1, d2, d3, d4] }
  | _ => none }
def foldSaysRow : OpenClaim := { program := "ytllibbdgnjcchaa", sum := "d8ec32a120c7ec6e78423dfe3cff1fd77359b88973d31b2be19e79e8f06b3d1b", func := "threshfloor/threshfloorlaw.FoldSays", spec := "foldSays", apart := false }
def FoldSaysSaid : Prop := foldSaysRow.holds Try.pinned (OpenSpec.ofChange foldSaysSpec)

/-- ITS FALSE NEIGHBOUR: 'it returns false'. Refute it at one input. -/
def foldSaysWrong : ChangeSpec := { name := "foldSays", fn := fun _ => fun
  | [d1, d2, d3, d4] => { results := [.lit (.bool false)], args := [d1, d2, d3, d4] }
  | _ => none }
def FoldSaysWrongFalsely : Prop := foldSaysRow.holds Try.pinned (OpenSpec.ofChange foldSaysWrong)

/-- 'threshfloorlaw.BenchSays': WHATEVER THE INPUT: true; the input reads as it did. -/
def benchSaysSpec : ChangeSpec := { name := "benchSays", fn := fun _ => fun
  | [d1, d2, d3] => { results := [.lit (.bool true)], args := [d1, d2, d3] }
  | _ => none }
def benchSaysRow : OpenClaim := { program := "ytllibbdgnjcchaa", sum := "d8ec32a120c7ec6e78423dfe3cff1fd77359b88973d31b2be19e79e8f06b3d1b", func := "threshfloor/threshfloorlaw.BenchSays", spec := "benchSays", unfollowed := true, recurses := true, apart := false }
def BenchSaysSaid : Prop := benchSaysRow.holds Try.pinned (OpenSpec.ofChange benchSaysSpec)

/-- ITS FALSE NEIGHBOUR: 'it returns false'. Refute it at one input. -/
def benchSaysWrong : ChangeSpec := { name := "benchSays", fn := fun _ => fun
  | [d1, d2, d3] => { results := [.lit (.bool false)], args := [d1, d2, d3] }
  | _ => none }
def BenchSaysWrongFalsely : Prop := benchSaysRow.holds Try.pinned (OpenSpec.ofChange benchSaysWrong)

/-- 'threshfloorlaw.TasksSays': WHATEVER THE INPUT: true; the input reads as it did. -/
def tasksSaysSpec : ChangeSpec := { name := "tasksSays", fn := fun _ => fun
  | [d1, d2, d3] => { results := [.lit (.bool true)], args := [d1, d2, d3] }
  | _ => none }
def tasksSaysRow : OpenClaim := { program := "ytllibbdgnjcchaa", sum := "d8ec32a120c7ec6e78423dfe3cff1fd77359b88973d31b2be19e79e8f06b3d1b", func := "threshfloor/threshfloorlaw.TasksSays", spec := "tasksSays", unfollowed := true, recurses := true, apart := false }
def TasksSaysSaid : Prop := tasksSaysRow.holds Try.pinned (OpenSpec.ofChange tasksSaysSpec)

/-- ITS FALSE NEIGHBOUR: 'it returns false'. Refute it at one input. -/
def tasksSaysWrong : ChangeSpec := { name := "tasksSays", fn := fun _ => fun
  | [d1, d2, d3] => { results := [.lit (.bool false)], args := [d1, d2, d3] }
  | _ => none }
def TasksSaysWrongFalsely : Prop := tasksSaysRow.holds Try.pinned (OpenSpec.ofChange tasksSaysWrong)

/-- 'threshfloorlaw.OrderSays': WHATEVER THE INPUT: true; the input reads as it did. -/
def orderSaysSpec : ChangeSpec := { name := "orderSays", fn := fun _ => fun
  | [d1, d2] => { results := [.lit (.bool true)], args := [d1, d2] }
  | _ => none }
def orderSaysRow : OpenClaim := { program := "ytllibbdgnjcchaa", sum := "d8ec32a120c7ec6e78423dfe3cff1fd77359b88973d31b2be19e79e8f06b3d1b", func := "threshfloor/threshfloorlaw.OrderSays", spec := "orderSays", unfollowed := true, recurses := true, apart := false }
def OrderSaysSaid : Prop := orderSaysRow.holds Try.pinned (OpenSpec.ofChange orderSaysSpec)

/-- ITS FALSE NEIGHBOUR: 'it returns false'. Refute it at one input. -/
def orderSaysWrong : ChangeSpec := { name := "orderSays", fn := fun _ => fun
  | [d1, d2] => { results := [.lit (.bool false)], args := [d1, d2] }
  | _ => none }
def OrderSaysWrongFalsely : Prop := orderSaysRow.holds Try.pinned (OpenSpec.ofChange orderSaysWrong)

/- THE SECOND FORM. 'bulk': how many values and letters a reading holds, each counted each time it is reached (what is shared counts as often as it is met; a slice's spare places count too). A statement '..UptoSaid' is the law's where the arguments, and the package variables that the reading takes, are together of bulk at most 1048576: NARROWER than '..Said'. Prove '..Said' where nothing that the law and all that it calls make is longer than what came in: it says more and counts as full. Else prove '..UptoSaid'. A law counts once. -/
mutual
def uptoBulk {H : Type} : DataW H → Nat
  | .lit (.string bytes) => bytes.length + 1
  | .lit _ => 1
  | .nil => 1
  | .ptr d => uptoBulk d + 1
  | .slice elems spare => uptoBulkAll elems + uptoBulkAll spare + 1
  | .agg parts => uptoBulkAll parts + 1
  | .iface _ d => uptoBulk d + 1
  | .map entries => uptoBulkEntries entries + 1
  | .held _ => 1
def uptoBulkAll {H : Type} : List (DataW H) → Nat
  | [] => 0
  | d :: r => uptoBulk d + uptoBulkAll r
def uptoBulkEntries {H : Type} : List (Lit × DataW H) → Nat
  | [] => 0
  | x :: r => uptoBulkEntry x + uptoBulkEntries r
def uptoBulkEntry {H : Type} : Lit × DataW H → Nat
  | (.string bytes, d) => bytes.length + uptoBulk d + 1
  | (_, d) => uptoBulk d + 1
 end
def uptoSmall : (H : Type) → List (DataW H) → Bool := fun _ ds => decide (uptoBulkAll ds ≤ 1048576)
def OpenSpec.upto (s : _root_.Go.ChangeSpec) : _root_.Go.OpenSpec := { _root_.Go.OpenSpec.ofChange s with cond := some uptoSmall }

/-- 'threshfloorlaw.QueueSays', WHERE WHAT IT READS IS OF BULK AT MOST 1048576: true; the input reads as it did. -/
def queueSaysUptoRow : OpenClaim := { program := "ytllibbdgnjcchaa", sum := "d8ec32a120c7ec6e78423dfe3cff1fd77359b88973d31b2be19e79e8f06b3d1b", func := "threshfloor/threshfloorlaw.QueueSays", spec := "queueSays", apart := false, narrowed := true }
def QueueSaysUptoSaid : Prop := queueSaysUptoRow.holds Try.pinned (OpenSpec.upto queueSaysSpec)

/-- 'threshfloorlaw.FoldSays', WHERE WHAT IT READS IS OF BULK AT MOST 1048576: true; the input reads as it did. -/
def foldSaysUptoRow : OpenClaim := { program := "ytllibbdgnjcchaa", sum := "d8ec32a120c7ec6e78423dfe3cff1fd77359b88973d31b2be19e79e8f06b3d1b", func := "threshfloor/threshfloorlaw.FoldSays", spec := "foldSays", apart := false, narrowed := true }
def FoldSaysUptoSaid : Prop := foldSaysUptoRow.holds Try.pinned (OpenSpec.upto foldSaysSpec)

/-- 'threshfloorlaw.BenchSays', WHERE WHAT IT READS IS OF BULK AT MOST 1048576: true; the input reads as it did. -/
def benchSaysUptoRow : OpenClaim := { program := "ytllibbdgnjcchaa", sum := "d8ec32a120c7ec6e78423dfe3cff1fd77359b88973d31b2be19e79e8f06b3d1b", func := "threshfloor/threshfloorlaw.BenchSays", spec := "benchSays", unfollowed := true, recurses := true, apart := false, narrowed := true }
def BenchSaysUptoSaid : Prop := benchSaysUptoRow.holds Try.pinned (OpenSpec.upto benchSaysSpec)

/-- 'threshfloorlaw.TasksSays', WHERE WHAT IT READS IS OF BULK AT MOST 1048576: true; the input reads as it did. -/
def tasksSaysUptoRow : OpenClaim := { program := "ytllibbdgnjcchaa", sum := "d8ec32a120c7ec6e78423dfe3cff1fd77359b88973d31b2be19e79e8f06b3d1b", func := "threshfloor/threshfloorlaw.TasksSays", spec := "tasksSays", unfollowed := true, recurses := true, apart := false, narrowed := true }
def TasksSaysUptoSaid : Prop := tasksSaysUptoRow.holds Try.pinned (OpenSpec.upto tasksSaysSpec)

/-- 'threshfloorlaw.OrderSays', WHERE WHAT IT READS IS OF BULK AT MOST 1048576: true; the input reads as it did. -/
def orderSaysUptoRow : OpenClaim := { program := "ytllibbdgnjcchaa", sum := "d8ec32a120c7ec6e78423dfe3cff1fd77359b88973d31b2be19e79e8f06b3d1b", func := "threshfloor/threshfloorlaw.OrderSays", spec := "orderSays", unfollowed := true, recurses := true, apart := false, narrowed := true }
def OrderSaysUptoSaid : Prop := orderSaysUptoRow.holds Try.pinned (OpenSpec.upto orderSaysSpec)

end Rows
end Go.Proofs.Ytllibbdgnjcchaa
