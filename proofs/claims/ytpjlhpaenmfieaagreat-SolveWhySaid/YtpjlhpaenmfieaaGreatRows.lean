/-
  No cell of these rows narrows 'for every input' (looked for: loops, veiled, ifaces, maps, wideKeys, modest, calm, conditions, laid).
  DERIVED. THE GIVEN ROWS OF THIS SEAT. 5 by the template 'for every input the law returns true; each argument reads behind the call as it read before'; 0 by the template 'total and deterministic' (their statements: YtpjlhpaenmfieaaGreatTotals.lean).
  GIVEN WITH THE SEED: the statements are not yours to turn. If you find one false, say at which input.
  Laid BY PROGRAM, IN A SANDBOX (cutbox-rows.mjs): the forced cells as the released guide's own fill.sh prints them over the translation 5cb87f124d50ca19… (all of the seat's roots in one cut). By AI agents, Wed Nov 11 2026. No macro, syntax, notation, axiom, sorry.
-/
import Derived.Test.YtpjlhpaenmfieaaGreatChecked
import GoSem.Claim
import GoSem.ClaimJoined
import GoSem.ClaimMapViews
import Derived.JoinedTies
import Derived.KernelRfl
namespace Go.Proofs.YtpjlhpaenmfieaaGreat
/- THE CELL 'sum', in the pinned program and in every row, IS THE sha256 OF THE DUMP (.gsa) THAT YtpjlhpaenmfieaaGreatProg.lean LOADS. Nothing in Lean hashes anything: it is a label: what it is worth is what the hold of that sum in a sandbox is worth. -/
noncomputable def Tryz.pinned : Pinned := { name := "ytpjlhpaenmfieaagreat", sum := "5cb87f124d50ca1988c0b4d979591ce75b668c374073e19e142e8ad08975aaae", checked := Tryz.checked }
namespace Rows
def none {H : Type} : Left H := { results := [], args := [] }

/-- 'blindfoldlaw12.LabelsReads': WHATEVER THE INPUT: true; the input reads as it did. -/
def labelsReadsSpec : ChangeSpec := { name := "labelsReads", fn := fun _ => fun
  | [d1, d2] => { results := [.lit (.bool true)], args := [d1, d2] }
  | _ => none }
def labelsReadsRow : OpenClaim := { program := "ytpjlhpaenmfieaagreat", sum := "5cb87f124d50ca1988c0b4d979591ce75b668c374073e19e142e8ad08975aaae", func := "blindfold/blindfoldlaw12.LabelsReads", spec := "labelsReads", inPlace := ["internal/reflectlite.ValueOf", "internal/reflectlite.Swapper", "(internal/reflectlite.Value).Len", "internal/abi.NoEscape", "internal/bytealg.MakeNoZero"], unfollowed := true, recurses := true, apart := false }
def LabelsReadsSaid : Prop := labelsReadsRow.holds Tryz.pinned (OpenSpec.ofChange labelsReadsSpec)

/-- ITS FALSE NEIGHBOUR: 'it returns false'. Refute it at one input. -/
def labelsReadsWrong : ChangeSpec := { name := "labelsReads", fn := fun _ => fun
  | [d1, d2] => { results := [.lit (.bool false)], args := [d1, d2] }
  | _ => none }
def LabelsReadsWrongFalsely : Prop := labelsReadsRow.holds Tryz.pinned (OpenSpec.ofChange labelsReadsWrong)

/-- 'blindfoldlaw12.LabelsHighest': WHATEVER THE INPUT: true; the input reads as it did. -/
def labelsHighestSpec : ChangeSpec := { name := "labelsHighest", fn := fun _ => fun
  | [d1, d2, d3] => { results := [.lit (.bool true)], args := [d1, d2, d3] }
  | _ => none }
def labelsHighestRow : OpenClaim := { program := "ytpjlhpaenmfieaagreat", sum := "5cb87f124d50ca1988c0b4d979591ce75b668c374073e19e142e8ad08975aaae", func := "blindfold/blindfoldlaw12.LabelsHighest", spec := "labelsHighest", inPlace := ["internal/reflectlite.ValueOf", "internal/reflectlite.Swapper", "(internal/reflectlite.Value).Len", "internal/abi.NoEscape", "internal/bytealg.MakeNoZero"], unfollowed := true, recurses := true, apart := false }
def LabelsHighestSaid : Prop := labelsHighestRow.holds Tryz.pinned (OpenSpec.ofChange labelsHighestSpec)

/-- ITS FALSE NEIGHBOUR: 'it returns false'. Refute it at one input. -/
def labelsHighestWrong : ChangeSpec := { name := "labelsHighest", fn := fun _ => fun
  | [d1, d2, d3] => { results := [.lit (.bool false)], args := [d1, d2, d3] }
  | _ => none }
def LabelsHighestWrongFalsely : Prop := labelsHighestRow.holds Tryz.pinned (OpenSpec.ofChange labelsHighestWrong)

/-- 'blindfoldlaw12.LabelsJoin': WHATEVER THE INPUT: true; the input reads as it did. -/
def labelsJoinSpec : ChangeSpec := { name := "labelsJoin", fn := fun _ => fun
  | [d1, d2, d3] => { results := [.lit (.bool true)], args := [d1, d2, d3] }
  | _ => none }
def labelsJoinRow : OpenClaim := { program := "ytpjlhpaenmfieaagreat", sum := "5cb87f124d50ca1988c0b4d979591ce75b668c374073e19e142e8ad08975aaae", func := "blindfold/blindfoldlaw12.LabelsJoin", spec := "labelsJoin", inPlace := ["internal/reflectlite.ValueOf", "internal/reflectlite.Swapper", "(internal/reflectlite.Value).Len", "internal/abi.NoEscape", "internal/bytealg.MakeNoZero"], unfollowed := true, recurses := true, apart := false }
def LabelsJoinSaid : Prop := labelsJoinRow.holds Tryz.pinned (OpenSpec.ofChange labelsJoinSpec)

/-- ITS FALSE NEIGHBOUR: 'it returns false'. Refute it at one input. -/
def labelsJoinWrong : ChangeSpec := { name := "labelsJoin", fn := fun _ => fun
  | [d1, d2, d3] => { results := [.lit (.bool false)], args := [d1, d2, d3] }
  | _ => none }
def LabelsJoinWrongFalsely : Prop := labelsJoinRow.holds Tryz.pinned (OpenSpec.ofChange labelsJoinWrong)

/-- 'blindfoldlaw44.SolveSolves': WHATEVER THE INPUT: true; the input reads as it did. -/
def solveSolvesSpec : ChangeSpec := { name := "solveSolves", fn := fun _ => fun
  | [d1, d2, d3] => { results := [.lit (.bool true)], args := [d1, d2, d3] }
  | _ => none }
def solveSolvesRow : OpenClaim := { program := "ytpjlhpaenmfieaagreat", sum := "5cb87f124d50ca1988c0b4d979591ce75b668c374073e19e142e8ad08975aaae", func := "blindfold/blindfoldlaw44.SolveSolves", spec := "solveSolves", inPlace := ["internal/reflectlite.ValueOf", "internal/reflectlite.Swapper", "(internal/reflectlite.Value).Len"], unfollowed := true, recurses := true, apart := false }
def SolveSolvesSaid : Prop := solveSolvesRow.holds Tryz.pinned (OpenSpec.ofChange solveSolvesSpec)

/-- ITS FALSE NEIGHBOUR: 'it returns false'. Refute it at one input. -/
def solveSolvesWrong : ChangeSpec := { name := "solveSolves", fn := fun _ => fun
  | [d1, d2, d3] => { results := [.lit (.bool false)], args := [d1, d2, d3] }
  | _ => none }
def SolveSolvesWrongFalsely : Prop := solveSolvesRow.holds Tryz.pinned (OpenSpec.ofChange solveSolvesWrong)

/-- 'blindfoldlaw44.SolveWhy': WHATEVER THE INPUT: true; the input reads as it did. -/
def solveWhySpec : ChangeSpec := { name := "solveWhy", fn := fun _ => fun
  | [d1, d2, d3] => { results := [.lit (.bool true)], args := [d1, d2, d3] }
  | _ => none }
def solveWhyRow : OpenClaim := { program := "ytpjlhpaenmfieaagreat", sum := "5cb87f124d50ca1988c0b4d979591ce75b668c374073e19e142e8ad08975aaae", func := "blindfold/blindfoldlaw44.SolveWhy", spec := "solveWhy", inPlace := ["internal/reflectlite.ValueOf", "internal/reflectlite.Swapper", "(internal/reflectlite.Value).Len"], unfollowed := true, recurses := true, apart := false }
def SolveWhySaid : Prop := solveWhyRow.holds Tryz.pinned (OpenSpec.ofChange solveWhySpec)

/-- ITS FALSE NEIGHBOUR: 'it returns false'. Refute it at one input. -/
def solveWhyWrong : ChangeSpec := { name := "solveWhy", fn := fun _ => fun
  | [d1, d2, d3] => { results := [.lit (.bool false)], args := [d1, d2, d3] }
  | _ => none }
def SolveWhyWrongFalsely : Prop := solveWhyRow.holds Tryz.pinned (OpenSpec.ofChange solveWhyWrong)

/- THE SECOND FORM. 'bulk': how many values and letters a reading holds, each counted each time it is reached (what is shared counts as often as it is met; a slice's spare places count too). A statement '..UptoSaid' is the law's where the arguments, and the package variables that the reading takes, are together of bulk at most 1048576: NARROWER than '..Said'. Prove '..Said' where nothing that the law and all that it calls make is longer than what came in: it says more and counts as full. Else prove '..UptoSaid'. A law counts once. -/
mutual
def uptoBulk {H : Type} : DataW H → Nat
  | .lit (.string bytes) => bytes.length + 1
  | .lit _ => 1
  | .nil => 1
  | .ptr d => uptoBulk d + 1
  | .slice elems spare => uptoBulkAll elems + uptoBulkAll spare + 1
  | .agg parts => uptoBulkAll parts + 1
  | .iface _ d => uptoBulk d + 1
  | .map entries => uptoBulkEntries entries + 1
  | .held _ => 1
def uptoBulkAll {H : Type} : List (DataW H) → Nat
  | [] => 0
  | d :: r => uptoBulk d + uptoBulkAll r
def uptoBulkEntries {H : Type} : List (Lit × DataW H) → Nat
  | [] => 0
  | x :: r => uptoBulkEntry x + uptoBulkEntries r
def uptoBulkEntry {H : Type} : Lit × DataW H → Nat
  | (.string bytes, d) => bytes.length + uptoBulk d + 1
  | (_, d) => uptoBulk d + 1
 end
def uptoSmall : (H : Type) → List (DataW H) → Bool := fun _ ds => decide (uptoBulkAll ds ≤ 1048576)
def OpenSpec.upto (s : _root_.Go.ChangeSpec) : _root_.Go.OpenSpec := { _root_.Go.OpenSpec.ofChange s with cond := some uptoSmall }

/-- 'blindfoldlaw12.LabelsReads', WHERE WHAT IT READS IS OF BULK AT MOST 1048576: true; the input reads as it did. -/
def labelsReadsUptoRow : OpenClaim := { program := "ytpjlhpaenmfieaagreat", sum := "5cb87f124d50ca1988c0b4d979591ce75b668c374073e19e142e8ad08975aaae", func := "blindfold/blindfoldlaw12.LabelsReads", spec := "labelsReads", inPlace := ["internal/reflectlite.ValueOf", "internal/reflectlite.Swapper", "(internal/reflectlite.Value).Len", "internal/abi.NoEscape", "internal/bytealg.MakeNoZero"], unfollowed := true, recurses := true, apart := false, narrowed := true }
def LabelsReadsUptoSaid : Prop := labelsReadsUptoRow.holds Tryz.pinned (OpenSpec.upto labelsReadsSpec)

/-- 'blindfoldlaw12.LabelsHighest', WHERE WHAT IT READS IS OF BULK AT MOST 1048576: true; the input reads as it did. -/
def labelsHighestUptoRow : OpenClaim := { program := "ytpjlhpaenmfieaagreat", sum := "5cb87f124d50ca1988c0b4d979591ce75b668c374073e19e142e8ad08975aaae", func := "blindfold/blindfoldlaw12.LabelsHighest", spec := "labelsHighest", inPlace := ["internal/reflectlite.ValueOf", "internal/reflectlite.Swapper", "(internal/reflectlite.Value).Len", "internal/abi.NoEscape", "internal/bytealg.MakeNoZero"], unfollowed := true, recurses := true, apart := false, narrowed := true }
def LabelsHighestUptoSaid : Prop := labelsHighestUptoRow.holds Tryz.pinned (OpenSpec.upto labelsHighestSpec)

/-- 'blindfoldlaw12.LabelsJoin', WHERE WHAT IT READS IS OF BULK AT MOST 1048576: true; the input reads as it did. -/
def labelsJoinUptoRow : OpenClaim := { program := "ytpjlhpaenmfieaagreat", sum := "5cb87f124d50ca1988c0b4d979591ce75b668c374073e19e142e8ad08975aaae", func := "blindfold/blindfoldlaw12.LabelsJoin", spec := "labelsJoin", inPlace := ["internal/reflectlite.ValueOf", "internal/reflectlite.Swapper", "(internal/reflectlite.Value).Len", "internal/abi.NoEscape", "internal/bytealg.MakeNoZero"], unfollowed := true, recurses := true, apart := false, narrowed := true }
def LabelsJoinUptoSaid : Prop := labelsJoinUptoRow.holds Tryz.pinned (OpenSpec.upto labelsJoinSpec)

/-- 'blindfoldlaw44.SolveSolves', WHERE WHAT IT READS IS OF BULK AT MOST 1048576: true; the input reads as it did. -/
def solveSolvesUptoRow : OpenClaim := { program := "ytpjlhpaenmfieaagreat", sum := "5cb87f124d50ca1988c0b4d979591ce75b668c374073e19e142e8ad08975aaae", func := "blindfold/blindfoldlaw44.SolveSolves", spec := "solveSolves", inPlace := ["internal/reflectlite.ValueOf", "internal/reflectlite.Swapper", "(internal/reflectlite.Value).Len"], unfollowed := true, recurses := true, apart := false, narrowed := true }
def SolveSolvesUptoSaid : Prop := solveSolvesUptoRow.holds Tryz.pinned (OpenSpec.upto solveSolvesSpec)

/-- 'blindfoldlaw44.SolveWhy', WHERE WHAT IT READS IS OF BULK AT MOST 1048576: true; the input reads as it did. -/
def solveWhyUptoRow : OpenClaim := { program := "ytpjlhpaenmfieaagreat", sum := "5cb87f124d50ca1988c0b4d979591ce75b668c374073e19e142e8ad08975aaae", func := "blindfold/blindfoldlaw44.SolveWhy", spec := "solveWhy", inPlace := ["internal/reflectlite.ValueOf", "internal/reflectlite.Swapper", "(internal/reflectlite.Value).Len"], unfollowed := true, recurses := true, apart := false, narrowed := true }
def SolveWhyUptoSaid : Prop := solveWhyUptoRow.holds Tryz.pinned (OpenSpec.upto solveWhySpec)

end Rows
end Go.Proofs.YtpjlhpaenmfieaaGreat
