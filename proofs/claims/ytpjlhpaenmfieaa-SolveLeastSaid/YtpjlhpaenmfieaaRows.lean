/-
  No cell of these rows narrows 'for every input' (looked for: loops, veiled, ifaces, maps, wideKeys, modest, calm, conditions, laid).
  DERIVED. THE GIVEN ROWS OF THIS SEAT. 7 by the template 'for every input the law returns true; each argument reads behind the call as it read before'; 0 by the template 'total and deterministic' (their statements: YtpjlhpaenmfieaaTotals.lean).
  GIVEN WITH THE SEED: the statements are not yours to turn. If you find one false, say at which input.
  Laid BY PROGRAM, IN A SANDBOX (cutbox-rows.mjs): the forced cells as the released guide's own fill.sh prints them over the translation 3b9b07687921b3d9… (all of the seat's roots in one cut). By AI agents, Wed Nov 11 2026. No macro, syntax, notation, axiom, sorry.
-/
import Derived.Test.YtpjlhpaenmfieaaChecked
import GoSem.Claim
import GoSem.ClaimJoined
import GoSem.ClaimMapViews
import Derived.JoinedTies
import Derived.KernelRfl
namespace Go.Proofs.Ytpjlhpaenmfieaa
/- THE CELL 'sum', in the pinned program and in every row, IS THE sha256 OF THE DUMP (.gsa) THAT YtpjlhpaenmfieaaProg.lean LOADS. Nothing in Lean hashes anything: it is a label: what it is worth is what the hold of that sum in a sandbox is worth. -/
noncomputable def Try.pinned : Pinned := { name := "ytpjlhpaenmfieaa", sum := "3b9b07687921b3d9fb4b6f87d33873c519107eee64569cf24ee536041e6f0bfa", checked := Try.checked }
namespace Rows
def none {H : Type} : Left H := { results := [], args := [] }

/-- 'blindfoldlaw11.LatticeBuilds': WHATEVER THE INPUT: true; the input reads as it did. -/
def latticeBuildsSpec : ChangeSpec := { name := "latticeBuilds", fn := fun _ => fun
  | [d1, d2] => { results := [.lit (.bool true)], args := [d1, d2] }
  | _ => none }
def latticeBuildsRow : OpenClaim := { program := "ytpjlhpaenmfieaa", sum := "3b9b07687921b3d9fb4b6f87d33873c519107eee64569cf24ee536041e6f0bfa", func := "blindfold/blindfoldlaw11.LatticeBuilds", spec := "latticeBuilds", inPlace := ["internal/reflectlite.ValueOf", "internal/reflectlite.Swapper", "(internal/reflectlite.Value).Len"], unfollowed := true, recurses := true, apart := false }
def LatticeBuildsSaid : Prop := latticeBuildsRow.holds Try.pinned (OpenSpec.ofChange latticeBuildsSpec)

/-- ITS FALSE NEIGHBOUR: 'it returns false'. Refute it at one input. -/
def latticeBuildsWrong : ChangeSpec := { name := "latticeBuilds", fn := fun _ => fun
  | [d1, d2] => { results := [.lit (.bool false)], args := [d1, d2] }
  | _ => none }
def LatticeBuildsWrongFalsely : Prop := latticeBuildsRow.holds Try.pinned (OpenSpec.ofChange latticeBuildsWrong)

/-- 'blindfoldlaw11.LatticeUndoes': WHATEVER THE INPUT: true; the input reads as it did. -/
def latticeUndoesSpec : ChangeSpec := { name := "latticeUndoes", fn := fun _ => fun
  | [d1, d2, d3] => { results := [.lit (.bool true)], args := [d1, d2, d3] }
  | _ => none }
def latticeUndoesRow : OpenClaim := { program := "ytpjlhpaenmfieaa", sum := "3b9b07687921b3d9fb4b6f87d33873c519107eee64569cf24ee536041e6f0bfa", func := "blindfold/blindfoldlaw11.LatticeUndoes", spec := "latticeUndoes", inPlace := ["internal/reflectlite.ValueOf", "internal/reflectlite.Swapper", "(internal/reflectlite.Value).Len"], unfollowed := true, recurses := true, apart := false }
def LatticeUndoesSaid : Prop := latticeUndoesRow.holds Try.pinned (OpenSpec.ofChange latticeUndoesSpec)

/-- ITS FALSE NEIGHBOUR: 'it returns false'. Refute it at one input. -/
def latticeUndoesWrong : ChangeSpec := { name := "latticeUndoes", fn := fun _ => fun
  | [d1, d2, d3] => { results := [.lit (.bool false)], args := [d1, d2, d3] }
  | _ => none }
def LatticeUndoesWrongFalsely : Prop := latticeUndoesRow.holds Try.pinned (OpenSpec.ofChange latticeUndoesWrong)

/-- 'blindfoldlaw11.LatticeTells': WHATEVER THE INPUT: true; the input reads as it did. -/
def latticeTellsSpec : ChangeSpec := { name := "latticeTells", fn := fun _ => fun
  | [d1, d2, d3] => { results := [.lit (.bool true)], args := [d1, d2, d3] }
  | _ => none }
def latticeTellsRow : OpenClaim := { program := "ytpjlhpaenmfieaa", sum := "3b9b07687921b3d9fb4b6f87d33873c519107eee64569cf24ee536041e6f0bfa", func := "blindfold/blindfoldlaw11.LatticeTells", spec := "latticeTells", inPlace := ["internal/reflectlite.ValueOf", "internal/reflectlite.Swapper", "(internal/reflectlite.Value).Len"], unfollowed := true, recurses := true, apart := false }
def LatticeTellsSaid : Prop := latticeTellsRow.holds Try.pinned (OpenSpec.ofChange latticeTellsSpec)

/-- ITS FALSE NEIGHBOUR: 'it returns false'. Refute it at one input. -/
def latticeTellsWrong : ChangeSpec := { name := "latticeTells", fn := fun _ => fun
  | [d1, d2, d3] => { results := [.lit (.bool false)], args := [d1, d2, d3] }
  | _ => none }
def LatticeTellsWrongFalsely : Prop := latticeTellsRow.holds Try.pinned (OpenSpec.ofChange latticeTellsWrong)

/-- 'blindfoldlaw11.LatticeNone': WHATEVER THE INPUT: true; the input reads as it did. -/
def latticeNoneSpec : ChangeSpec := { name := "latticeNone", fn := fun _ => fun
  | [d1, d2, d3] => { results := [.lit (.bool true)], args := [d1, d2, d3] }
  | _ => none }
def latticeNoneRow : OpenClaim := { program := "ytpjlhpaenmfieaa", sum := "3b9b07687921b3d9fb4b6f87d33873c519107eee64569cf24ee536041e6f0bfa", func := "blindfold/blindfoldlaw11.LatticeNone", spec := "latticeNone", inPlace := ["internal/reflectlite.ValueOf", "internal/reflectlite.Swapper", "(internal/reflectlite.Value).Len"], unfollowed := true, recurses := true, apart := false }
def LatticeNoneSaid : Prop := latticeNoneRow.holds Try.pinned (OpenSpec.ofChange latticeNoneSpec)

/-- ITS FALSE NEIGHBOUR: 'it returns false'. Refute it at one input. -/
def latticeNoneWrong : ChangeSpec := { name := "latticeNone", fn := fun _ => fun
  | [d1, d2, d3] => { results := [.lit (.bool false)], args := [d1, d2, d3] }
  | _ => none }
def LatticeNoneWrongFalsely : Prop := latticeNoneRow.holds Try.pinned (OpenSpec.ofChange latticeNoneWrong)

/-- 'blindfoldlaw44.SolveHolds': WHATEVER THE INPUT: true; the input reads as it did. -/
def solveHoldsSpec : ChangeSpec := { name := "solveHolds", fn := fun _ => fun
  | [d1, d2, d3] => { results := [.lit (.bool true)], args := [d1, d2, d3] }
  | _ => none }
def solveHoldsRow : OpenClaim := { program := "ytpjlhpaenmfieaa", sum := "3b9b07687921b3d9fb4b6f87d33873c519107eee64569cf24ee536041e6f0bfa", func := "blindfold/blindfoldlaw44.SolveHolds", spec := "solveHolds", inPlace := ["internal/reflectlite.ValueOf", "internal/reflectlite.Swapper", "(internal/reflectlite.Value).Len"], unfollowed := true, recurses := true, apart := false }
def SolveHoldsSaid : Prop := solveHoldsRow.holds Try.pinned (OpenSpec.ofChange solveHoldsSpec)

/-- ITS FALSE NEIGHBOUR: 'it returns false'. Refute it at one input. -/
def solveHoldsWrong : ChangeSpec := { name := "solveHolds", fn := fun _ => fun
  | [d1, d2, d3] => { results := [.lit (.bool false)], args := [d1, d2, d3] }
  | _ => none }
def SolveHoldsWrongFalsely : Prop := solveHoldsRow.holds Try.pinned (OpenSpec.ofChange solveHoldsWrong)

/-- 'blindfoldlaw44.SolveLeast': WHATEVER THE INPUT: true; the input reads as it did. -/
def solveLeastSpec : ChangeSpec := { name := "solveLeast", fn := fun _ => fun
  | [d1, d2, d3] => { results := [.lit (.bool true)], args := [d1, d2, d3] }
  | _ => none }
def solveLeastRow : OpenClaim := { program := "ytpjlhpaenmfieaa", sum := "3b9b07687921b3d9fb4b6f87d33873c519107eee64569cf24ee536041e6f0bfa", func := "blindfold/blindfoldlaw44.SolveLeast", spec := "solveLeast", inPlace := ["internal/reflectlite.ValueOf", "internal/reflectlite.Swapper", "(internal/reflectlite.Value).Len"], unfollowed := true, recurses := true, apart := false }
def SolveLeastSaid : Prop := solveLeastRow.holds Try.pinned (OpenSpec.ofChange solveLeastSpec)

/-- ITS FALSE NEIGHBOUR: 'it returns false'. Refute it at one input. -/
def solveLeastWrong : ChangeSpec := { name := "solveLeast", fn := fun _ => fun
  | [d1, d2, d3] => { results := [.lit (.bool false)], args := [d1, d2, d3] }
  | _ => none }
def SolveLeastWrongFalsely : Prop := solveLeastRow.holds Try.pinned (OpenSpec.ofChange solveLeastWrong)

/-- 'blindfoldlaw12.LabelsSame': WHATEVER THE INPUT: true; the input reads as it did. -/
def labelsSameSpec : ChangeSpec := { name := "labelsSame", fn := fun _ => fun
  | [d1, d2, d3] => { results := [.lit (.bool true)], args := [d1, d2, d3] }
  | _ => none }
def labelsSameRow : OpenClaim := { program := "ytpjlhpaenmfieaa", sum := "3b9b07687921b3d9fb4b6f87d33873c519107eee64569cf24ee536041e6f0bfa", func := "blindfold/blindfoldlaw12.LabelsSame", spec := "labelsSame", inPlace := ["internal/reflectlite.ValueOf", "internal/reflectlite.Swapper", "(internal/reflectlite.Value).Len", "internal/abi.NoEscape", "internal/bytealg.MakeNoZero"], unfollowed := true, recurses := true, apart := false }
def LabelsSameSaid : Prop := labelsSameRow.holds Try.pinned (OpenSpec.ofChange labelsSameSpec)

/-- ITS FALSE NEIGHBOUR: 'it returns false'. Refute it at one input. -/
def labelsSameWrong : ChangeSpec := { name := "labelsSame", fn := fun _ => fun
  | [d1, d2, d3] => { results := [.lit (.bool false)], args := [d1, d2, d3] }
  | _ => none }
def LabelsSameWrongFalsely : Prop := labelsSameRow.holds Try.pinned (OpenSpec.ofChange labelsSameWrong)

/- THE SECOND FORM. 'bulk': how many values and letters a reading holds, each counted each time it is reached (what is shared counts as often as it is met; a slice's spare places count too). A statement '..UptoSaid' is the law's where the arguments, and the package variables that the reading takes, are together of bulk at most 1048576: NARROWER than '..Said'. Prove '..Said' where nothing that the law and all that it calls make is longer than what came in: it says more and counts as full. Else prove '..UptoSaid'. A law counts once. -/
mutual
def uptoBulk {H : Type} : DataW H → Nat
  | .lit (.string bytes) => bytes.length + 1
  | .lit _ => 1
  | .nil => 1
  | .ptr d => uptoBulk d + 1
  | .slice elems spare => uptoBulkAll elems + uptoBulkAll spare + 1
  | .agg parts => uptoBulkAll parts + 1
  | .iface _ d => uptoBulk d + 1
  | .map entries => uptoBulkEntries entries + 1
  | .held _ => 1
def uptoBulkAll {H : Type} : List (DataW H) → Nat
  | [] => 0
  | d :: r => uptoBulk d + uptoBulkAll r
def uptoBulkEntries {H : Type} : List (Lit × DataW H) → Nat
  | [] => 0
  | x :: r => uptoBulkEntry x + uptoBulkEntries r
def uptoBulkEntry {H : Type} : Lit × DataW H → Nat
  | (.string bytes, d) => bytes.length + uptoBulk d + 1
  | (_, d) => uptoBulk d + 1
 end
def uptoSmall : (H : Type) → List (DataW H) → Bool := fun _ ds => decide (uptoBulkAll ds ≤ 1048576)
def OpenSpec.upto (s : _root_.Go.ChangeSpec) : _root_.Go.OpenSpec := { _root_.Go.OpenSpec.ofChange s with cond := some uptoSmall }

/-- 'blindfoldlaw11.LatticeBuilds', WHERE WHAT IT READS IS OF BULK AT MOST 1048576: true; the input reads as it did. -/
def latticeBuildsUptoRow : OpenClaim := { program := "ytpjlhpaenmfieaa", sum := "3b9b07687921b3d9fb4b6f87d33873c519107eee64569cf24ee536041e6f0bfa", func := "blindfold/blindfoldlaw11.LatticeBuilds", spec := "latticeBuilds", inPlace := ["internal/reflectlite.ValueOf", "internal/reflectlite.Swapper", "(internal/reflectlite.Value).Len"], unfollowed := true, recurses := true, apart := false, narrowed := true }
def LatticeBuildsUptoSaid : Prop := latticeBuildsUptoRow.holds Try.pinned (OpenSpec.upto latticeBuildsSpec)

/-- 'blindfoldlaw11.LatticeUndoes', WHERE WHAT IT READS IS OF BULK AT MOST 1048576: true; the input reads as it did. -/
def latticeUndoesUptoRow : OpenClaim := { program := "ytpjlhpaenmfieaa", sum := "3b9b07687921b3d9fb4b6f87d33873c519107eee64569cf24ee536041e6f0bfa", func := "blindfold/blindfoldlaw11.LatticeUndoes", spec := "latticeUndoes", inPlace := ["internal/reflectlite.ValueOf", "internal/reflectlite.Swapper", "(internal/reflectlite.Value).Len"], unfollowed := true, recurses := true, apart := false, narrowed := true }
def LatticeUndoesUptoSaid : Prop := latticeUndoesUptoRow.holds Try.pinned (OpenSpec.upto latticeUndoesSpec)

/-- 'blindfoldlaw11.LatticeTells', WHERE WHAT IT READS IS OF BULK AT MOST 1048576: true; the input reads as it did. -/
def latticeTellsUptoRow : OpenClaim := { program := "ytpjlhpaenmfieaa", sum := "3b9b07687921b3d9fb4b6f87d33873c519107eee64569cf24ee536041e6f0bfa", func := "blindfold/blindfoldlaw11.LatticeTells", spec := "latticeTells", inPlace := ["internal/reflectlite.ValueOf", "internal/reflectlite.Swapper", "(internal/reflectlite.Value).Len"], unfollowed := true, recurses := true, apart := false, narrowed := true }
def LatticeTellsUptoSaid : Prop := latticeTellsUptoRow.holds Try.pinned (OpenSpec.upto latticeTellsSpec)

/-- 'blindfoldlaw11.LatticeNone', WHERE WHAT IT READS IS OF BULK AT MOST 1048576: true; the input reads as it did. -/
def latticeNoneUptoRow : OpenClaim := { program := "ytpjlhpaenmfieaa", sum := "3b9b07687921b3d9fb4b6f87d33873c519107eee64569cf24ee536041e6f0bfa", func := "blindfold/blindfoldlaw11.LatticeNone", spec := "latticeNone", inPlace := ["internal/reflectlite.ValueOf", "internal/reflectlite.Swapper", "(internal/reflectlite.Value).Len"], unfollowed := true, recurses := true, apart := false, narrowed := true }
def LatticeNoneUptoSaid : Prop := latticeNoneUptoRow.holds Try.pinned (OpenSpec.upto latticeNoneSpec)

/-- 'blindfoldlaw44.SolveHolds', WHERE WHAT IT READS IS OF BULK AT MOST 1048576: true; the input reads as it did. -/
def solveHoldsUptoRow : OpenClaim := { program := "ytpjlhpaenmfieaa", sum := "3b9b07687921b3d9fb4b6f87d33873c519107eee64569cf24ee536041e6f0bfa", func := "blindfold/blindfoldlaw44.SolveHolds", spec := "solveHolds", inPlace := ["internal/reflectlite.ValueOf", "internal/reflectlite.Swapper", "(internal/reflectlite.Value).Len"], unfollowed := true, recurses := true, apart := false, narrowed := true }
def SolveHoldsUptoSaid : Prop := solveHoldsUptoRow.holds Try.pinned (OpenSpec.upto solveHoldsSpec)

/-- 'blindfoldlaw44.SolveLeast', WHERE WHAT IT READS IS OF BULK AT MOST 1048576: true; the input reads as it did. -/
def solveLeastUptoRow : OpenClaim := { program := "ytpjlhpaenmfieaa", sum := "3b9b07687921b3d9fb4b6f87d33873c519107eee64569cf24ee536041e6f0bfa", func := "blindfold/blindfoldlaw44.SolveLeast", spec := "solveLeast", inPlace := ["internal/reflectlite.ValueOf", "internal/reflectlite.Swapper", "(internal/reflectlite.Value).Len"], unfollowed := true, recurses := true, apart := false, narrowed := true }
def SolveLeastUptoSaid : Prop := solveLeastUptoRow.holds Try.pinned (OpenSpec.upto solveLeastSpec)

/-- 'blindfoldlaw12.LabelsSame', WHERE WHAT IT READS IS OF BULK AT MOST 1048576: true; the input reads as it did. -/
def labelsSameUptoRow : OpenClaim := { program := "ytpjlhpaenmfieaa", sum := "3b9b07687921b3d9fb4b6f87d33873c519107eee64569cf24ee536041e6f0bfa", func := "blindfold/blindfoldlaw12.LabelsSame", spec := "labelsSame", inPlace := ["internal/reflectlite.ValueOf", "internal/reflectlite.Swapper", "(internal/reflectlite.Value).Len", "internal/abi.NoEscape", "internal/bytealg.MakeNoZero"], unfollowed := true, recurses := true, apart := false, narrowed := true }
def LabelsSameUptoSaid : Prop := labelsSameUptoRow.holds Try.pinned (OpenSpec.upto labelsSameSpec)

end Rows
end Go.Proofs.Ytpjlhpaenmfieaa
