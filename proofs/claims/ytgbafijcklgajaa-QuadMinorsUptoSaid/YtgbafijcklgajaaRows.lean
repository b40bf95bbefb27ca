/-
  No cell of these rows narrows 'for every input' (looked for: loops, veiled, ifaces, maps, wideKeys, modest, calm, conditions, laid).
  DERIVED. THE GIVEN ROWS OF THIS SEAT. 11 by the template 'for every input the law returns true; each argument reads behind the call as it read before'; 0 by the template 'total and deterministic' (their statements: YtgbafijcklgajaaTotals.lean).
  GIVEN WITH THE SEED: the statements are not yours to turn. If you find one false, say at which input.
  Laid BY PROGRAM, IN A SANDBOX (cutbox-rows.mjs): the forced cells as the released guide's own fill.sh prints them over the translation af44bc62cf495f5f… (all of the seat's roots in one cut). By AI agents, Wed Nov 11 2026. No macro, syntax, notation, axiom, sorry.
-/
import Derived.Test.YtgbafijcklgajaaChecked
import GoSem.Claim
import GoSem.ClaimJoined
import GoSem.ClaimMapViews
import Derived.JoinedTies
import Derived.KernelRfl
namespace Go.Proofs.Ytgbafijcklgajaa
/- THE CELL 'sum', in the pinned program and in every row, IS THE sha256 OF THE DUMP (.gsa) THAT YtgbafijcklgajaaProg.lean LOADS. Nothing in Lean hashes anything: it is a label: what it is worth is what the hold of that sum in a sandbox is worth. -/
noncomputable def Try.pinned : Pinned := { name := "ytgbafijcklgajaa", sum := "af44bc62cf495f5f0ca748c6070dee69a3b4d294db2cc3dd83a1ae037b2adf4d", checked := Try.checked }
namespace Rows
def none {H : Type} : Left H := { results := [], args := [] }

/-- 'trammellaw15.PoolNames': WHATEVER THE INPUT: true; the input reads as it did. -/
def poolNamesSpec : ChangeSpec := { name := "poolNames", fn := fun _ => fun
  | [] => { results := [.lit (.bool true)], args := [] }
  | _ => none }
def poolNamesRow : OpenClaim := { program := "ytgbafijcklgajaa", sum := "af44bc62cf495f5f0ca748c6070dee69a3b4d294db2cc3dd83a1ae037b2adf4d", func := "trammel/trammellaw15.PoolNames", spec := "poolNames", apart := false }
def PoolNamesSaid : Prop := poolNamesRow.holds Try.pinned (OpenSpec.ofChange poolNamesSpec)

/-- ITS FALSE NEIGHBOUR: 'it returns false'. Refute it at one input. -/
def poolNamesWrong : ChangeSpec := { name := "poolNames", fn := fun _ => fun
  | [] => { results := [.lit (.bool false)], args := [] }
  | _ => none }
def PoolNamesWrongFalsely : Prop := poolNamesRow.holds Try.pinned (OpenSpec.ofChange poolNamesWrong)

/-- 'trammellaw24.KnapSeals': WHATEVER THE INPUT: true; the input reads as it did. -/
def knapSealsSpec : ChangeSpec := { name := "knapSeals", fn := fun _ => fun
  | [d1, d2] => { results := [.lit (.bool true)], args := [d1, d2] }
  | _ => none }
def knapSealsRow : OpenClaim := { program := "ytgbafijcklgajaa", sum := "af44bc62cf495f5f0ca748c6070dee69a3b4d294db2cc3dd83a1ae037b2adf4d", func := "trammel/trammellaw24.KnapSeals", spec := "knapSeals", apart := false }
def KnapSealsSaid : Prop := knapSealsRow.holds Try.pinned (OpenSpec.ofChange knapSealsSpec)

/-- ITS FALSE NEIGHBOUR: 'it returns false'. Refute it at one input. -/
def knapSealsWrong : ChangeSpec := { name := "knapSeals", fn := fun _ => fun
  | [d1, d2] => { results := [.lit (.bool false)], args := [d1, d2] }
  | _ => none }
def KnapSealsWrongFalsely : Prop := knapSealsRow.holds Try.pinned (OpenSpec.ofChange knapSealsWrong)

/-- 'trammellaw24.KnapGreedy': WHATEVER THE INPUT: true; the input reads as it did. -/
def knapGreedySpec : ChangeSpec := { name := "knapGreedy", fn := fun _ => fun
  | [d1, d2] => { results := [.lit (.bool true)], args := [d1, d2] }
  | _ => none }
def knapGreedyRow : OpenClaim := { program := "ytgbafijcklgajaa", sum := "af44bc62cf495f5f0ca748c6070dee69a3b4d294db2cc3dd83a1ae037b2adf4d", func := "trammel/trammellaw24.KnapGreedy", spec := "knapGreedy", recurses := true, apart := false }
def KnapGreedySaid : Prop := knapGreedyRow.holds Try.pinned (OpenSpec.ofChange knapGreedySpec)

/-- ITS FALSE NEIGHBOUR: 'it returns false'. Refute it at one input. -/
def knapGreedyWrong : ChangeSpec := { name := "knapGreedy", fn := fun _ => fun
  | [d1, d2] => { results := [.lit (.bool false)], args := [d1, d2] }
  | _ => none }
def KnapGreedyWrongFalsely : Prop := knapGreedyRow.holds Try.pinned (OpenSpec.ofChange knapGreedyWrong)

/-- 'trammellaw22.QuadBinaries': WHATEVER THE INPUT: true; the input reads as it did. -/
def quadBinariesSpec : ChangeSpec := { name := "quadBinaries", fn := fun _ => fun
  | [d1, d2] => { results := [.lit (.bool true)], args := [d1, d2] }
  | _ => none }
def quadBinariesRow : OpenClaim := { program := "ytgbafijcklgajaa", sum := "af44bc62cf495f5f0ca748c6070dee69a3b4d294db2cc3dd83a1ae037b2adf4d", func := "trammel/trammellaw22.QuadBinaries", spec := "quadBinaries", apart := false }
def QuadBinariesSaid : Prop := quadBinariesRow.holds Try.pinned (OpenSpec.ofChange quadBinariesSpec)

/-- ITS FALSE NEIGHBOUR: 'it returns false'. Refute it at one input. -/
def quadBinariesWrong : ChangeSpec := { name := "quadBinaries", fn := fun _ => fun
  | [d1, d2] => { results := [.lit (.bool false)], args := [d1, d2] }
  | _ => none }
def QuadBinariesWrongFalsely : Prop := quadBinariesRow.holds Try.pinned (OpenSpec.ofChange quadBinariesWrong)

/-- 'trammellaw24.KnapWeights': WHATEVER THE INPUT: true; the input reads as it did. -/
def knapWeightsSpec : ChangeSpec := { name := "knapWeights", fn := fun _ => fun
  | [d1, d2] => { results := [.lit (.bool true)], args := [d1, d2] }
  | _ => none }
def knapWeightsRow : OpenClaim := { program := "ytgbafijcklgajaa", sum := "af44bc62cf495f5f0ca748c6070dee69a3b4d294db2cc3dd83a1ae037b2adf4d", func := "trammel/trammellaw24.KnapWeights", spec := "knapWeights", apart := false }
def KnapWeightsSaid : Prop := knapWeightsRow.holds Try.pinned (OpenSpec.ofChange knapWeightsSpec)

/-- ITS FALSE NEIGHBOUR: 'it returns false'. Refute it at one input. -/
def knapWeightsWrong : ChangeSpec := { name := "knapWeights", fn := fun _ => fun
  | [d1, d2] => { results := [.lit (.bool false)], args := [d1, d2] }
  | _ => none }
def KnapWeightsWrongFalsely : Prop := knapWeightsRow.holds Try.pinned (OpenSpec.ofChange knapWeightsWrong)

/-- 'trammellaw24.KnapKeys': WHATEVER THE INPUT: true; the input reads as it did. -/
def knapKeysSpec : ChangeSpec := { name := "knapKeys", fn := fun _ => fun
  | [d1, d2] => { results := [.lit (.bool true)], args := [d1, d2] }
  | _ => none }
def knapKeysRow : OpenClaim := { program := "ytgbafijcklgajaa", sum := "af44bc62cf495f5f0ca748c6070dee69a3b4d294db2cc3dd83a1ae037b2adf4d", func := "trammel/trammellaw24.KnapKeys", spec := "knapKeys", recurses := true, apart := false }
def KnapKeysSaid : Prop := knapKeysRow.holds Try.pinned (OpenSpec.ofChange knapKeysSpec)

/-- ITS FALSE NEIGHBOUR: 'it returns false'. Refute it at one input. -/
def knapKeysWrong : ChangeSpec := { name := "knapKeys", fn := fun _ => fun
  | [d1, d2] => { results := [.lit (.bool false)], args := [d1, d2] }
  | _ => none }
def KnapKeysWrongFalsely : Prop := knapKeysRow.holds Try.pinned (OpenSpec.ofChange knapKeysWrong)

/-- 'trammellaw22.QuadValues': WHATEVER THE INPUT: true; the input reads as it did. -/
def quadValuesSpec : ChangeSpec := { name := "quadValues", fn := fun _ => fun
  | [d1, d2] => { results := [.lit (.bool true)], args := [d1, d2] }
  | _ => none }
def quadValuesRow : OpenClaim := { program := "ytgbafijcklgajaa", sum := "af44bc62cf495f5f0ca748c6070dee69a3b4d294db2cc3dd83a1ae037b2adf4d", func := "trammel/trammellaw22.QuadValues", spec := "quadValues", apart := false }
def QuadValuesSaid : Prop := quadValuesRow.holds Try.pinned (OpenSpec.ofChange quadValuesSpec)

/-- ITS FALSE NEIGHBOUR: 'it returns false'. Refute it at one input. -/
def quadValuesWrong : ChangeSpec := { name := "quadValues", fn := fun _ => fun
  | [d1, d2] => { results := [.lit (.bool false)], args := [d1, d2] }
  | _ => none }
def QuadValuesWrongFalsely : Prop := quadValuesRow.holds Try.pinned (OpenSpec.ofChange quadValuesWrong)

/-- 'trammellaw16.ShortChecks': WHATEVER THE INPUT: true; the input reads as it did. -/
def shortChecksSpec : ChangeSpec := { name := "shortChecks", fn := fun _ => fun
  | [d1, d2] => { results := [.lit (.bool true)], args := [d1, d2] }
  | _ => none }
def shortChecksRow : OpenClaim := { program := "ytgbafijcklgajaa", sum := "af44bc62cf495f5f0ca748c6070dee69a3b4d294db2cc3dd83a1ae037b2adf4d", func := "trammel/trammellaw16.ShortChecks", spec := "shortChecks", apart := false }
def ShortChecksSaid : Prop := shortChecksRow.holds Try.pinned (OpenSpec.ofChange shortChecksSpec)

/-- ITS FALSE NEIGHBOUR: 'it returns false'. Refute it at one input. -/
def shortChecksWrong : ChangeSpec := { name := "shortChecks", fn := fun _ => fun
  | [d1, d2] => { results := [.lit (.bool false)], args := [d1, d2] }
  | _ => none }
def ShortChecksWrongFalsely : Prop := shortChecksRow.holds Try.pinned (OpenSpec.ofChange shortChecksWrong)

/-- 'trammellaw22.QuadClasses': WHATEVER THE INPUT: true; the input reads as it did. -/
def quadClassesSpec : ChangeSpec := { name := "quadClasses", fn := fun _ => fun
  | [d] => { results := [.lit (.bool true)], args := [d] }
  | _ => none }
def quadClassesRow : OpenClaim := { program := "ytgbafijcklgajaa", sum := "af44bc62cf495f5f0ca748c6070dee69a3b4d294db2cc3dd83a1ae037b2adf4d", func := "trammel/trammellaw22.QuadClasses", spec := "quadClasses", unfollowed := true, recurses := true, apart := false }
def QuadClassesSaid : Prop := quadClassesRow.holds Try.pinned (OpenSpec.ofChange quadClassesSpec)

/-- ITS FALSE NEIGHBOUR: 'it returns false'. Refute it at one input. -/
def quadClassesWrong : ChangeSpec := { name := "quadClasses", fn := fun _ => fun
  | [d] => { results := [.lit (.bool false)], args := [d] }
  | _ => none }
def QuadClassesWrongFalsely : Prop := quadClassesRow.holds Try.pinned (OpenSpec.ofChange quadClassesWrong)

/-- 'trammellaw22.QuadRows': WHATEVER THE INPUT: true; the input reads as it did. -/
def quadRowsSpec : ChangeSpec := { name := "quadRows", fn := fun _ => fun
  | [d1, d2] => { results := [.lit (.bool true)], args := [d1, d2] }
  | _ => none }
def quadRowsRow : OpenClaim := { program := "ytgbafijcklgajaa", sum := "af44bc62cf495f5f0ca748c6070dee69a3b4d294db2cc3dd83a1ae037b2adf4d", func := "trammel/trammellaw22.QuadRows", spec := "quadRows", unfollowed := true, recurses := true, apart := false }
def QuadRowsSaid : Prop := quadRowsRow.holds Try.pinned (OpenSpec.ofChange quadRowsSpec)

/-- ITS FALSE NEIGHBOUR: 'it returns false'. Refute it at one input. -/
def quadRowsWrong : ChangeSpec := { name := "quadRows", fn := fun _ => fun
  | [d1, d2] => { results := [.lit (.bool false)], args := [d1, d2] }
  | _ => none }
def QuadRowsWrongFalsely : Prop := quadRowsRow.holds Try.pinned (OpenSpec.ofChange quadRowsWrong)

/-- 'trammellaw22.QuadMinors': WHATEVER THE INPUT: true; the input reads as it did. -/
def quadMinorsSpec : ChangeSpec := { name := "quadMinors", fn := fun _ => fun
  | [d] => { results := [.lit (.bool true)], args := [d] }
  | _ => none }
def quadMinorsRow : OpenClaim := { program := "ytgbafijcklgajaa", sum := "af44bc62cf495f5f0ca748c6070dee69a3b4d294db2cc3dd83a1ae037b2adf4d", func := "trammel/trammellaw22.QuadMinors", spec := "quadMinors", unfollowed := true, recurses := true, apart := false }
def QuadMinorsSaid : Prop := quadMinorsRow.holds Try.pinned (OpenSpec.ofChange quadMinorsSpec)

/-- ITS FALSE NEIGHBOUR: 'it returns false'. Refute it at one input. -/
def quadMinorsWrong : ChangeSpec := { name := "quadMinors", fn := fun _ => fun
  | [d] => { results := [.lit (.bool false)], args := [d] }
  | _ => none }
def QuadMinorsWrongFalsely : Prop := quadMinorsRow.holds Try.pinned (OpenSpec.ofChange quadMinorsWrong)

/- THE SECOND FORM. 'bulk': how many values and letters a reading holds, each counted each time it is reached (what is shared counts as often as it is met; a slice's spare places count too). A statement '..UptoSaid' is the law's where the arguments, and the package variables that the reading takes, are together of bulk at most 1048576: NARROWER than '..Said'. Prove '..Said' where nothing that the law and all that it calls make is longer than what came in: it says more and counts as full. Else prove '..UptoSaid'. A law counts once. -/
mutual
def uptoBulk {H : Type} : DataW H → Nat
  | .lit (.string bytes) => bytes.length + 1
  | .lit _ => 1
  | .nil => 1
  | .ptr d => uptoBulk d + 1
  | .slice elems spare => uptoBulkAll elems + uptoBulkAll spare + 1
  | .agg parts => uptoBulkAll parts + 1
  | .iface _ d => uptoBulk d + 1
  | .map entries => uptoBulkEntries entries + 1
  | .held _ => 1
def uptoBulkAll {H : Type} : List (DataW H) → Nat
  | [] => 0
  | d :: r => uptoBulk d + uptoBulkAll r
def uptoBulkEntries {H : Type} : List (Lit × DataW H) → Nat
  | [] => 0
  | x :: r => uptoBulkEntry x + uptoBulkEntries r
def uptoBulkEntry {H : Type} : Lit × DataW H → Nat
  | (.string bytes, d) => bytes.length + uptoBulk d + 1
  | (_, d) => uptoBulk d + 1
 end
def uptoSmall : (H : Type) → List (DataW H) → Bool := fun _ ds => decide (uptoBulkAll ds ≤ 1048576)
def OpenSpec.upto (s : _root_.Go.ChangeSpec) : _root_.Go.OpenSpec := { _root_.Go.OpenSpec.ofChange s with cond := some uptoSmall }

/-- 'trammellaw15.PoolNames', WHERE WHAT IT READS IS OF BULK AT MOST 1048576: true; the input reads as it did. -/
def poolNamesUptoRow : OpenClaim := { program := "ytgbafijcklgajaa", sum := "af44bc62cf495f5f0ca748c6070dee69a3b4d294db2cc3dd83a1ae037b2adf4d", func := "trammel/trammellaw15.PoolNames", spec := "poolNames", apart := false, narrowed := true }
def PoolNamesUptoSaid : Prop := poolNamesUptoRow.holds Try.pinned (OpenSpec.upto poolNamesSpec)

/-- 'trammellaw24.KnapSeals', WHERE WHAT IT READS IS OF BULK AT MOST 1048576: true; the input reads as it did. -/
def knapSealsUptoRow : OpenClaim := { program := "ytgbafijcklgajaa", sum := "af44bc62cf495f5f0ca748c6070dee69a3b4d294db2cc3dd83a1ae037b2adf4d", func := "trammel/trammellaw24.KnapSeals", spec := "knapSeals", apart := false, narrowed := true }
def KnapSealsUptoSaid : Prop := knapSealsUptoRow.holds Try.pinned (OpenSpec.upto knapSealsSpec)

/-- 'trammellaw24.KnapGreedy', WHERE WHAT IT READS IS OF BULK AT MOST 1048576: true; the input reads as it did. -/
def knapGreedyUptoRow : OpenClaim := { program := "ytgbafijcklgajaa", sum := "af44bc62cf495f5f0ca748c6070dee69a3b4d294db2cc3dd83a1ae037b2adf4d", func := "trammel/trammellaw24.KnapGreedy", spec := "knapGreedy", recurses := true, apart := false, narrowed := true }
def KnapGreedyUptoSaid : Prop := knapGreedyUptoRow.holds Try.pinned (OpenSpec.upto knapGreedySpec)

/-- 'trammellaw22.QuadBinaries', WHERE WHAT IT READS IS OF BULK AT MOST 1048576: true; the input reads as it did. -/
def quadBinariesUptoRow : OpenClaim := { program := "ytgbafijcklgajaa", sum := "af44bc62cf495f5f0ca748c6070dee69a3b4d294db2cc3dd83a1ae037b2adf4d", func := "trammel/trammellaw22.QuadBinaries", spec := "quadBinaries", apart := false, narrowed := true }
def QuadBinariesUptoSaid : Prop := quadBinariesUptoRow.holds Try.pinned (OpenSpec.upto quadBinariesSpec)

/-- 'trammellaw24.KnapWeights', WHERE WHAT IT READS IS OF BULK AT MOST 1048576: true; the input reads as it did. -/
def knapWeightsUptoRow : OpenClaim := { program := "ytgbafijcklgajaa", sum := "af44bc62cf495f5f0ca748c6070dee69a3b4d294db2cc3dd83a1ae037b2adf4d", func := "trammel/trammellaw24.KnapWeights", spec := "knapWeights", apart := false, narrowed := true }
def KnapWeightsUptoSaid : Prop := knapWeightsUptoRow.holds Try.pinned (OpenSpec.upto knapWeightsSpec)

/-- 'trammellaw24.KnapKeys', WHERE WHAT IT READS IS OF BULK AT MOST 1048576: true; the input reads as it did. -/
def knapKeysUptoRow : OpenClaim := { program := "ytgbafijcklgajaa", sum := "af44bc62cf495f5f0ca748c6070dee69a3b4d294db2cc3dd83a1ae037b2adf4d", func := "trammel/trammellaw24.KnapKeys", spec := "knapKeys", recurses := true, apart := false, narrowed := true }
def KnapKeysUptoSaid : Prop := knapKeysUptoRow.holds Try.pinned (OpenSpec.upto knapKeysSpec)

/-- 'trammellaw22.QuadValues', WHERE WHAT IT READS IS OF BULK AT MOST 1048576: true; the input reads as it did. -/
def quadValuesUptoRow : OpenClaim := { program := "ytgbafijcklgajaa", sum := "af44bc62cf495f5f0ca748c6070dee69a3b4d294db2cc3dd83a1ae037b2adf4d", func := "trammel/trammellaw22.QuadValues", spec := "quadValues", apart := false, narrowed := true }
def QuadValuesUptoSaid : Prop := quadValuesUptoRow.holds Try.pinned (OpenSpec.upto quadValuesSpec)

/-- 'trammellaw16.ShortChecks', WHERE WHAT IT READS IS OF BULK AT MOST 1048576: true; the input reads as it did. -/
def shortChecksUptoRow : OpenClaim := { program := "ytgbafijcklgajaa", sum := "af44bc62cf495f5f0ca748c6070dee69a3b4d294db2cc3dd83a1ae037b2adf4d", func := "trammel/trammellaw16.ShortChecks", spec := "shortChecks", apart := false, narrowed := true }
def ShortChecksUptoSaid : Prop := shortChecksUptoRow.holds Try.pinned (OpenSpec.upto shortChecksSpec)

/-- 'trammellaw22.QuadClasses', WHERE WHAT IT READS IS OF BULK AT MOST 1048576: true; the input reads as it did. -/
def quadClassesUptoRow : OpenClaim := { program := "ytgbafijcklgajaa", sum := "af44bc62cf495f5f0ca748c6070dee69a3b4d294db2cc3dd83a1ae037b2adf4d", func := "trammel/trammellaw22.QuadClasses", spec := "quadClasses", unfollowed := true, recurses := true, apart := false, narrowed := true }
def QuadClassesUptoSaid : Prop := quadClassesUptoRow.holds Try.pinned (OpenSpec.upto quadClassesSpec)

/-- 'trammellaw22.QuadRows', WHERE WHAT IT READS IS OF BULK AT MOST 1048576: true; the input reads as it did. -/
def quadRowsUptoRow : OpenClaim := { program := "ytgbafijcklgajaa", sum := "af44bc62cf495f5f0ca748c6070dee69a3b4d294db2cc3dd83a1ae037b2adf4d", func := "trammel/trammellaw22.QuadRows", spec := "quadRows", unfollowed := true, recurses := true, apart := false, narrowed := true }
def QuadRowsUptoSaid : Prop := quadRowsUptoRow.holds Try.pinned (OpenSpec.upto quadRowsSpec)

/-- 'trammellaw22.QuadMinors', WHERE WHAT IT READS IS OF BULK AT MOST 1048576: true; the input reads as it did. -/
def quadMinorsUptoRow : OpenClaim := { program := "ytgbafijcklgajaa", sum := "af44bc62cf495f5f0ca748c6070dee69a3b4d294db2cc3dd83a1ae037b2adf4d", func := "trammel/trammellaw22.QuadMinors", spec := "quadMinors", unfollowed := true, recurses := true, apart := false, narrowed := true }
def QuadMinorsUptoSaid : Prop := quadMinorsUptoRow.holds Try.pinned (OpenSpec.upto quadMinorsSpec)

end Rows
end Go.Proofs.Ytgbafijcklgajaa
