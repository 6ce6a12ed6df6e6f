/-
  No cell of these rows narrows 'for every input' (looked for: loops, veiled, ifaces, maps, wideKeys, modest, calm, conditions, laid).
  DERIVED. THE GIVEN ROWS OF THIS SEAT. 3 by the template 'for every input the law returns true; each argument reads behind the call as it read before'; 0 by the template 'total and deterministic' (their statements: YtidhjpjeehoglaaTotals.lean).
  GIVEN WITH THE SEED: the statements are not yours to turn. If you find one false, say at which input.
  Laid BY PROGRAM, IN A SANDBOX (cutbox-rows.mjs): the forced cells as the released guide's own fill.sh prints them over the translation 932a8cbcc4d8ae91… (all of the seat's roots in one cut). By AI agents, Wed Nov 11 2026. No macro, syntax, notation, axiom, sorry.
-/
import Derived.Test.YtidhjpjeehoglaaChecked
import GoSem.Claim
import GoSem.ClaimJoined
import GoSem.ClaimMapViews
import Derived.JoinedTies
import Derived.KernelRfl
namespace Go.Proofs.Ytidhjpjeehoglaa
/- THE CELL 'sum', in the pinned program and in every row, IS THE sha256 OF THE DUMP (.gsa) THAT YtidhjpjeehoglaaProg.lean LOADS. Nothing in Lean hashes anything: it is a label: what it is worth is what the hold of that sum in a sandbox is worth. -/
noncomputable def Try.pinned : Pinned := { name := "ytidhjpjeehoglaa", sum := "932a8cbcc4d8ae9113d5480f607194fb5fdd1020045c9da053c7e30a71da33f9", checked := Try.checked }
namespace Rows
def none {H : Type} : Left H := { results := [], args := [] }

/-- 'threshfloorlaw.BenchSays': WHATEVER THE INPUT: true; the input reads as it did. -/
def benchSaysSpec : ChangeSpec := { name := "benchSays", fn := fun _ => fun
  | [d1, d2, d3] => { results := [.lit (.bool true)], args := [d1, d2, d3] }
  | _ => none }
def benchSaysRow : OpenClaim := { program := "ytidhjpjeehoglaa", sum := "932a8cbcc4d8ae9113d5480f607194fb5fdd1020045c9da053c7e30a71da33f9", func := "threshfloor/threshfloorlaw.BenchSays", spec := "benchSays", unfollowed := true, recurses := true, apart := false }
def BenchSaysSaid : Prop := benchSaysRow.holds Try.pinned (OpenSpec.ofChange benchSaysSpec)

/-- ITS FALSE NEIGHBOUR: 'it returns false'. Refute it at one input. -/
def benchSaysWrong : ChangeSpec := { name := "benchSays", fn := fun _ => fun
  | [d1, d2, d3] => { results := [.lit (.bool false)], args := [d1, d2, d3] }
  | _ => none }
def BenchSaysWrongFalsely : Prop := benchSaysRow.holds Try.pinned (OpenSpec.ofChange benchSaysWrong)

/-- 'threshfloorlaw.OrderSays': WHATEVER THE INPUT: true; the input reads as it did. -/
def orderSaysSpec : ChangeSpec := { name := "orderSays", fn := fun _ => fun
  | [d1, d2] => { results := [.lit (.bool true)], args := [d1, d2] }
  | _ => none }
def orderSaysRow : OpenClaim := { program := "ytidhjpjeehoglaa", sum := "932a8cbcc4d8ae9113d5480f607194fb5fdd1020045c9da053c7e30a71da33f9", func := "threshfloor/threshfloorlaw.OrderSays", spec := "orderSays", unfollowed := true, recurses := true, apart := false }
def OrderSaysSaid : Prop := orderSaysRow.holds Try.pinned (OpenSpec.ofChange orderSaysSpec)

/-- ITS FALSE NEIGHBOUR: 'it returns false'. Refute it at one input. -/
def orderSaysWrong : ChangeSpec := { name := "orderSays", fn := fun _ => fun
  | [d1, d2] => { results := [.lit (.bool false)], args := [d1, d2] }
  | _ => none }
def OrderSaysWrongFalsely : Prop := orderSaysRow.holds Try.pinned (OpenSpec.ofChange orderSaysWrong)

/-- 'threshfloortop.TopFold': WHATEVER THE INPUT: true; the input reads as it did. -/
def topFoldSpec : ChangeSpec := { name := "topFold", fn := fun _ => fun
  | [d1, d2, d3, d4, d5] => { results := [.lit (.bool true)], args := [d1, d2, d3, d4, d5] }
  | _ => none }
def topFoldRow : OpenClaim := { program := "ytidhjpjeehoglaa", sum := "932a8cbcc4d8ae9113d5480f607194fb5fdd1020045c9da053c7e30a71da33f9", func := "threshfloor/threshfloortop.TopFold", spec := "topFold", unfollowed := true, recurses := true, apart := false }
def TopFoldSaid : Prop := topFoldRow.holds Try.pinned (OpenSpec.ofChange topFoldSpec)

/-- ITS FALSE NEIGHBOUR: 'it returns false'. Refute it at one input. -/
def topFoldWrong : ChangeSpec := { name := "topFold", fn := fun _ => fun
  | [d1, d2, d3, d4, d5] => { results := [.lit (.bool false)], args := [d1, d2, d3, d4, d5] }
  | _ => none }
def TopFoldWrongFalsely : Prop := topFoldRow.holds Try.pinned (OpenSpec.ofChange topFoldWrong)

/- THE SECOND FORM. 'bulk': how many values and letters a reading holds, each counted each time it is reached (what is shared counts as often as it is met; a slice's spare places count too). A statement '..UptoSaid' is the law's where the arguments, and the package variables that the reading takes, are together of bulk at most 1048576: NARROWER than '..Said'. Prove '..Said' where nothing that the law and all that it calls make is longer than what came in: it says more and counts as full. Else prove '..UptoSaid'. A law counts once. -/
mutual
def uptoBulk {H : Type} : DataW H → Nat
  | .lit (.string bytes) => bytes.length + 1
  | .lit _ => 1
  | .nil => 1
  | .ptr d => uptoBulk d + 1
  | .slice elems spare => uptoBulkAll elems + uptoBulkAll spare + 1
  | .agg parts => uptoBulkAll parts + 1
  | .iface _ d => uptoBulk d + 1
  | .map entries => uptoBulkEntries entries + 1
  | .held _ => 1
def uptoBulkAll {H : Type} : List (DataW H) → Nat
  | [] => 0
  | d :: r => uptoBulk d + uptoBulkAll r
def uptoBulkEntries {H : Type} : List (Lit × DataW H) → Nat
  | [] => 0
  | x :: r => uptoBulkEntry x + uptoBulkEntries r
def uptoBulkEntry {H : Type} : Lit × DataW H → Nat
  | (.string bytes, d) => bytes.length + uptoBulk d + 1
  | (_, d) => uptoBulk d + 1
 end
def uptoSmall : (H : Type) → List (DataW H) → Bool := fun _ ds => decide (uptoBulkAll ds ≤ 1048576)
def OpenSpec.upto (s : _root_.Go.ChangeSpec) : _root_.Go.OpenSpec := { _root_.Go.OpenSpec.ofChange s with cond := some uptoSmall }

/-- 'threshfloorlaw.BenchSays', WHERE WHAT IT READS IS OF BULK AT MOST 1048576: true; the input reads as it did. -/
def benchSaysUptoRow : OpenClaim := { program := "ytidhjpjeehoglaa", sum := "932a8cbcc4d8ae9113d5480f607194fb5fdd1020045c9da053c7e30a71da33f9", func := "threshfloor/threshfloorlaw.BenchSays", spec := "benchSays", unfollowed := true, recurses := true, apart := false, narrowed := true }
def BenchSaysUptoSaid : Prop := benchSaysUptoRow.holds Try.pinned (OpenSpec.upto benchSaysSpec)

/-- 'threshfloorlaw.OrderSays', WHERE WHAT IT READS IS OF BULK AT MOST 1048576: true; the input reads as it did. -/
def orderSaysUptoRow : OpenClaim := { program := "ytidhjpjeehoglaa", sum := "932a8cbcc4d8ae9113d5480f607194fb5fdd1020045c9da053c7e30a71da33f9", func := "threshfloor/threshfloorlaw.OrderSays", spec := "orderSays", unfollowed := true, recurses := true, apart := false, narrowed := true }
def OrderSaysUptoSaid : Prop := orderSaysUptoRow.holds Try.pinned (OpenSpec.upto orderSaysSpec)

/-- 'threshfloortop.TopFold', WHERE WHAT IT READS IS OF BULK AT MOST 1048576: true; the input reads as it did. -/
def topFoldUptoRow : OpenClaim := { program := "ytidhjpjeehoglaa", sum := "932a8cbcc4d8ae9113d5480f607194fb5fdd1020045c9da053c7e30a71da33f9", func := "threshfloor/threshfloortop.TopFold", spec := "topFold", unfollowed := true, recurses := true, apart := false, narrowed := true }
def TopFoldUptoSaid : Prop := topFoldUptoRow.holds Try.pinned (OpenSpec.upto topFoldSpec)

end Rows
end Go.Proofs.Ytidhjpjeehoglaa
