/-
  No cell of these rows narrows 'for every input' (looked for: loops, veiled, ifaces, maps, wideKeys, modest, calm, conditions, laid).
  DERIVED. THE GIVEN ROWS OF THIS SEAT. 5 by the template 'for every input the law returns true; each argument reads behind the call as it read before'; 0 by the template 'total and deterministic' (their statements: YtjbfmocbophmlaaGreatTotals.lean).
  GIVEN WITH THE SEED: the statements are not yours to turn. If you find one false, say at which input.
  Laid BY PROGRAM, IN A SANDBOX (cutbox-rows.mjs): the forced cells as the released guide's own fill.sh prints them over the translation b6412f71db04501d… (all of the seat's roots in one cut). By AI agents, Wed Nov 11 2026. No macro, syntax, notation, axiom, sorry.
-/
import Derived.Test.YtjbfmocbophmlaaGreatChecked
import GoSem.Claim
import GoSem.ClaimJoined
import GoSem.ClaimMapViews
import Derived.JoinedTies
import Derived.KernelRfl
namespace Go.Proofs.YtjbfmocbophmlaaGreat
/- THE CELL 'sum', in the pinned program and in every row, IS THE sha256 OF THE DUMP (.gsa) THAT YtjbfmocbophmlaaGreatProg.lean LOADS. Nothing in Lean hashes anything: it is a label: what it is worth is what the hold of that sum in a sandbox is worth. -/
noncomputable def Tryz.pinned : Pinned := { name := "ytjbfmocbophmlaagreat", sum := "b6412f71db04501d0da324143efeefc50f2ef1435b29de97da9875e1f6c08ccc", checked := Tryz.checked }
namespace Rows
def none {H : Type} : Left H := { results := [], args := [] }

/-- 'trammellaw16.ShortPlans': WHATEVER THE INPUT: true; the input reads as it did. -/
def shortPlansSpec : ChangeSpec := { name := "shortPlans", fn := fun _ => fun
  | [d] => { results := [.lit (.bool true)], args := [d] }
  | _ => none }
def shortPlansRow : OpenClaim := { program := "ytjbfmocbophmlaagreat", sum := "b6412f71db04501d0da324143efeefc50f2ef1435b29de97da9875e1f6c08ccc", func := "trammel/trammellaw16.ShortPlans", spec := "shortPlans", unfollowed := true, recurses := true, apart := false }
def ShortPlansSaid : Prop := shortPlansRow.holds Tryz.pinned (OpenSpec.ofChange shortPlansSpec)

/-- ITS FALSE NEIGHBOUR: 'it returns false'. Refute it at one input. -/
def shortPlansWrong : ChangeSpec := { name := "shortPlans", fn := fun _ => fun
  | [d] => { results := [.lit (.bool false)], args := [d] }
  | _ => none }
def ShortPlansWrongFalsely : Prop := shortPlansRow.holds Tryz.pinned (OpenSpec.ofChange shortPlansWrong)

/-- 'trammellaw18.CloseChecks': WHATEVER THE INPUT: true; the input reads as it did. -/
def closeChecksSpec : ChangeSpec := { name := "closeChecks", fn := fun _ => fun
  | [d1, d2, d3] => { results := [.lit (.bool true)], args := [d1, d2, d3] }
  | _ => none }
def closeChecksRow : OpenClaim := { program := "ytjbfmocbophmlaagreat", sum := "b6412f71db04501d0da324143efeefc50f2ef1435b29de97da9875e1f6c08ccc", func := "trammel/trammellaw18.CloseChecks", spec := "closeChecks", unfollowed := true, recurses := true, apart := false }
def CloseChecksSaid : Prop := closeChecksRow.holds Tryz.pinned (OpenSpec.ofChange closeChecksSpec)

/-- ITS FALSE NEIGHBOUR: 'it returns false'. Refute it at one input. -/
def closeChecksWrong : ChangeSpec := { name := "closeChecks", fn := fun _ => fun
  | [d1, d2, d3] => { results := [.lit (.bool false)], args := [d1, d2, d3] }
  | _ => none }
def CloseChecksWrongFalsely : Prop := closeChecksRow.holds Tryz.pinned (OpenSpec.ofChange closeChecksWrong)

/-- 'trammellaw22.QuadReduces': WHATEVER THE INPUT: true; the input reads as it did. -/
def quadReducesSpec : ChangeSpec := { name := "quadReduces", fn := fun _ => fun
  | [d1, d2] => { results := [.lit (.bool true)], args := [d1, d2] }
  | _ => none }
def quadReducesRow : OpenClaim := { program := "ytjbfmocbophmlaagreat", sum := "b6412f71db04501d0da324143efeefc50f2ef1435b29de97da9875e1f6c08ccc", func := "trammel/trammellaw22.QuadReduces", spec := "quadReduces", unfollowed := true, recurses := true, apart := false }
def QuadReducesSaid : Prop := quadReducesRow.holds Tryz.pinned (OpenSpec.ofChange quadReducesSpec)

/-- ITS FALSE NEIGHBOUR: 'it returns false'. Refute it at one input. -/
def quadReducesWrong : ChangeSpec := { name := "quadReduces", fn := fun _ => fun
  | [d1, d2] => { results := [.lit (.bool false)], args := [d1, d2] }
  | _ => none }
def QuadReducesWrongFalsely : Prop := quadReducesRow.holds Tryz.pinned (OpenSpec.ofChange quadReducesWrong)

/-- 'trammellaw18.ClosePlans': WHATEVER THE INPUT: true; the input reads as it did. -/
def closePlansSpec : ChangeSpec := { name := "closePlans", fn := fun _ => fun
  | [d1, d2, d3] => { results := [.lit (.bool true)], args := [d1, d2, d3] }
  | _ => none }
def closePlansRow : OpenClaim := { program := "ytjbfmocbophmlaagreat", sum := "b6412f71db04501d0da324143efeefc50f2ef1435b29de97da9875e1f6c08ccc", func := "trammel/trammellaw18.ClosePlans", spec := "closePlans", unfollowed := true, recurses := true, apart := false }
def ClosePlansSaid : Prop := closePlansRow.holds Tryz.pinned (OpenSpec.ofChange closePlansSpec)

/-- ITS FALSE NEIGHBOUR: 'it returns false'. Refute it at one input. -/
def closePlansWrong : ChangeSpec := { name := "closePlans", fn := fun _ => fun
  | [d1, d2, d3] => { results := [.lit (.bool false)], args := [d1, d2, d3] }
  | _ => none }
def ClosePlansWrongFalsely : Prop := closePlansRow.holds Tryz.pinned (OpenSpec.ofChange closePlansWrong)

/-- 'trammellaw18.CloseGuesses': WHATEVER THE INPUT: true; the input reads as it did. -/
def closeGuessesSpec : ChangeSpec := { name := "closeGuesses", fn := fun _ => fun
  | [d1, d2] => { results := [.lit (.bool true)], args := [d1, d2] }
  | _ => none }
def closeGuessesRow : OpenClaim := { program := "ytjbfmocbophmlaagreat", sum := "b6412f71db04501d0da324143efeefc50f2ef1435b29de97da9875e1f6c08ccc", func := "trammel/trammellaw18.CloseGuesses", spec := "closeGuesses", unfollowed := true, recurses := true, apart := false }
def CloseGuessesSaid : Prop := closeGuessesRow.holds Tryz.pinned (OpenSpec.ofChange closeGuessesSpec)

/-- ITS FALSE NEIGHBOUR: 'it returns false'. Refute it at one input. -/
def closeGuessesWrong : ChangeSpec := { name := "closeGuesses", fn := fun _ => fun
  | [d1, d2] => { results := [.lit (.bool false)], args := [d1, d2] }
  | _ => none }
def CloseGuessesWrongFalsely : Prop := closeGuessesRow.holds Tryz.pinned (OpenSpec.ofChange closeGuessesWrong)

/- THE SECOND FORM. 'bulk': how many values and letters a reading holds, each counted each time it is reached (what is shared counts as often as it is met; a slice's spare places count too). A statement '..UptoSaid' is the law's where the arguments, and the package variables that the reading takes, are together of bulk at most 1048576: NARROWER than '..Said'. Prove '..Said' where nothing that the law and all that it calls make is longer than what came in: it says more and counts as full. Else prove '..UptoSaid'. A law counts once. -/
mutual
def uptoBulk {H : Type} : DataW H → Nat
  | .lit (.string bytes) => bytes.length + 1
  | .lit _ => 1
  | .nil => 1
  | .ptr d => uptoBulk d + 1
  | .slice elems spare => uptoBulkAll elems + uptoBulkAll spare + 1
  | .agg parts => uptoBulkAll parts + 1
  | .iface _ d => uptoBulk d + 1
  | .map entries => uptoBulkEntries entries + 1
  | .held _ => 1
def uptoBulkAll {H : Type} : List (DataW H) → Nat
  | [] => 0
  | d :: r => uptoBulk d + uptoBulkAll r
def uptoBulkEntries {H : Type} : List (Lit × DataW H) → Nat
  | [] => 0
  | x :: r => uptoBulkEntry x + uptoBulkEntries r
def uptoBulkEntry {H : Type} : Lit × DataW H → Nat
  | (.string bytes, d) => bytes.length + uptoBulk d + 1
  | (_, d) => uptoBulk d + 1
 end
def uptoSmall : (H : Type) → List (DataW H) → Bool := fun _ ds => decide (uptoBulkAll ds ≤ 1048576)
def OpenSpec.upto (s : _root_.Go.ChangeSpec) : _root_.Go.OpenSpec := { _root_.Go.OpenSpec.ofChange s with cond := some uptoSmall }

/-- 'trammellaw16.ShortPlans', WHERE WHAT IT READS IS OF BULK AT MOST 1048576: true; the input reads as it did. -/
def shortPlansUptoRow : OpenClaim := { program := "ytjbfmocbophmlaagreat", sum := "b6412f71db04501d0da324143efeefc50f2ef1435b29de97da9875e1f6c08ccc", func := "trammel/trammellaw16.ShortPlans", spec := "shortPlans", unfollowed := true, recurses := true, apart := false, narrowed := true }
def ShortPlansUptoSaid : Prop := shortPlansUptoRow.holds Tryz.pinned (OpenSpec.upto shortPlansSpec)

/-- 'trammellaw18.CloseChecks', WHERE WHAT IT READS IS OF BULK AT MOST 1048576: true; the input reads as it did. -/
def closeChecksUptoRow : OpenClaim := { program := "ytjbfmocbophmlaagreat", sum := "b6412f71db04501d0da324143efeefc50f2ef1435b29de97da9875e1f6c08ccc", func := "trammel/trammellaw18.CloseChecks", spec := "closeChecks", unfollowed := true, recurses := true, apart := false, narrowed := true }
def CloseChecksUptoSaid : Prop := closeChecksUptoRow.holds Tryz.pinned (OpenSpec.upto closeChecksSpec)

/-- 'trammellaw22.QuadReduces', WHERE WHAT IT READS IS OF BULK AT MOST 1048576: true; the input reads as it did. -/
def quadReducesUptoRow : OpenClaim := { program := "ytjbfmocbophmlaagreat", sum := "b6412f71db04501d0da324143efeefc50f2ef1435b29de97da9875e1f6c08ccc", func := "trammel/trammellaw22.QuadReduces", spec := "quadReduces", unfollowed := true, recurses := true, apart := false, narrowed := true }
def QuadReducesUptoSaid : Prop := quadReducesUptoRow.holds Tryz.pinned (OpenSpec.upto quadReducesSpec)

/-- 'trammellaw18.ClosePlans', WHERE WHAT IT READS IS OF BULK AT MOST 1048576: true; the input reads as it did. -/
def closePlansUptoRow : OpenClaim := { program := "ytjbfmocbophmlaagreat", sum := "b6412f71db04501d0da324143efeefc50f2ef1435b29de97da9875e1f6c08ccc", func := "trammel/trammellaw18.ClosePlans", spec := "closePlans", unfollowed := true, recurses := true, apart := false, narrowed := true }
def ClosePlansUptoSaid : Prop := closePlansUptoRow.holds Tryz.pinned (OpenSpec.upto closePlansSpec)

/-- 'trammellaw18.CloseGuesses', WHERE WHAT IT READS IS OF BULK AT MOST 1048576: true; the input reads as it did. -/
def closeGuessesUptoRow : OpenClaim := { program := "ytjbfmocbophmlaagreat", sum := "b6412f71db04501d0da324143efeefc50f2ef1435b29de97da9875e1f6c08ccc", func := "trammel/trammellaw18.CloseGuesses", spec := "closeGuesses", unfollowed := true, recurses := true, apart := false, narrowed := true }
def CloseGuessesUptoSaid : Prop := closeGuessesUptoRow.holds Tryz.pinned (OpenSpec.upto closeGuessesSpec)

end Rows
end Go.Proofs.YtjbfmocbophmlaaGreat
