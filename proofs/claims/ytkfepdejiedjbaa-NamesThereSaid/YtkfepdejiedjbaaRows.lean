/-
  No cell of these rows narrows 'for every input' (looked for: loops, veiled, ifaces, maps, wideKeys, modest, calm, conditions, laid).
  DERIVED. THE GIVEN ROWS OF THIS SEAT. 12 by the template 'for every input the law returns true; each argument reads behind the call as it read before'; 0 by the template 'total and deterministic' (their statements: YtkfepdejiedjbaaTotals.lean).
  GIVEN WITH THE SEED: the statements are not yours to turn. If you find one false, say at which input.
  Laid BY PROGRAM, IN A SANDBOX (cutbox-rows.mjs): the forced cells as the released guide's own fill.sh prints them over the translation a341c12c44ad83d0… (all of the seat's roots in one cut). By AI agents, Wed Nov 11 2026. No macro, syntax, notation, axiom, sorry.
-/
import Derived.Test.YtkfepdejiedjbaaChecked
import GoSem.Claim
import GoSem.ClaimJoined
import GoSem.ClaimMapViews
import Derived.JoinedTies
import Derived.KernelRfl
namespace Go.Proofs.Ytkfepdejiedjbaa
/- THE CELL 'sum', in the pinned program and in every row, IS THE sha256 OF THE DUMP (.gsa) THAT YtkfepdejiedjbaaProg.lean LOADS. Nothing in Lean hashes anything: it is a label: what it is worth is what the hold of that sum in a sandbox is worth. -/
noncomputable def Try.pinned : Pinned := { name := "ytkfepdejiedjbaa", sum := "a341c12c44ad83d0d0cca5bca7bb05d04f3a1bb8a2c97f2e178d4df00d86d47c", checked := Try.checked }
namespace Rows
def none {H : Type} : Left H := { results := [], args := [] }

/-- 'blindfoldlaw10.RelCloses': WHATEVER THE INPUT: true; the input reads as it did. -/
def relClosesSpec : ChangeSpec := { name := "relCloses", fn := fun _ => fun
  | [d1, d2, d3] => { results := [.lit (.bool true)], args := [d1, d2, d3] }
  | _ => none }
def relClosesRow : OpenClaim := { program := "ytkfepdejiedjbaa", sum := "a341c12c44ad83d0d0cca5bca7bb05d04f3a1bb8a2c97f2e178d4df00d86d47c", func := "blindfold/blindfoldlaw10.RelCloses", spec := "relCloses", apart := false }
def RelClosesSaid : Prop := relClosesRow.holds Try.pinned (OpenSpec.ofChange relClosesSpec)

/-- ITS FALSE NEIGHBOUR: 'it returns false'. Refute it at one input. -/
def relClosesWrong : ChangeSpec := { name := "relCloses", fn := fun _ => fun
  | [d1, d2, d3] => { results := [.lit (.bool false)], args := [d1, d2, d3] }
  | _ => none }
def RelClosesWrongFalsely : Prop := relClosesRow.holds Try.pinned (OpenSpec.ofChange relClosesWrong)

/-- 'blindfoldlaw10.RelOrders': WHATEVER THE INPUT: true; the input reads as it did. -/
def relOrdersSpec : ChangeSpec := { name := "relOrders", fn := fun _ => fun
  | [d1, d2] => { results := [.lit (.bool true)], args := [d1, d2] }
  | _ => none }
def relOrdersRow : OpenClaim := { program := "ytkfepdejiedjbaa", sum := "a341c12c44ad83d0d0cca5bca7bb05d04f3a1bb8a2c97f2e178d4df00d86d47c", func := "blindfold/blindfoldlaw10.RelOrders", spec := "relOrders", apart := false }
def RelOrdersSaid : Prop := relOrdersRow.holds Try.pinned (OpenSpec.ofChange relOrdersSpec)

/-- ITS FALSE NEIGHBOUR: 'it returns false'. Refute it at one input. -/
def relOrdersWrong : ChangeSpec := { name := "relOrders", fn := fun _ => fun
  | [d1, d2] => { results := [.lit (.bool false)], args := [d1, d2] }
  | _ => none }
def RelOrdersWrongFalsely : Prop := relOrdersRow.holds Try.pinned (OpenSpec.ofChange relOrdersWrong)

/-- 'blindfoldlaw10.RelSound': WHATEVER THE INPUT: true; the input reads as it did. -/
def relSoundSpec : ChangeSpec := { name := "relSound", fn := fun _ => fun
  | [d1, d2, d3] => { results := [.lit (.bool true)], args := [d1, d2, d3] }
  | _ => none }
def relSoundRow : OpenClaim := { program := "ytkfepdejiedjbaa", sum := "a341c12c44ad83d0d0cca5bca7bb05d04f3a1bb8a2c97f2e178d4df00d86d47c", func := "blindfold/blindfoldlaw10.RelSound", spec := "relSound", apart := false }
def RelSoundSaid : Prop := relSoundRow.holds Try.pinned (OpenSpec.ofChange relSoundSpec)

/-- ITS FALSE NEIGHBOUR: 'it returns false'. Refute it at one input. -/
def relSoundWrong : ChangeSpec := { name := "relSound", fn := fun _ => fun
  | [d1, d2, d3] => { results := [.lit (.bool false)], args := [d1, d2, d3] }
  | _ => none }
def RelSoundWrongFalsely : Prop := relSoundRow.holds Try.pinned (OpenSpec.ofChange relSoundWrong)

/-- 'blindfoldlaw03.PinnedTells': WHATEVER THE INPUT: true; the input reads as it did. -/
def pinnedTellsSpec : ChangeSpec := { name := "pinnedTells", fn := fun _ => fun
  | [d] => { results := [.lit (.bool true)], args := [d] }
  | _ => none }
def pinnedTellsRow : OpenClaim := { program := "ytkfepdejiedjbaa", sum := "a341c12c44ad83d0d0cca5bca7bb05d04f3a1bb8a2c97f2e178d4df00d86d47c", func := "blindfold/blindfoldlaw03.PinnedTells", spec := "pinnedTells", apart := false }
def PinnedTellsSaid : Prop := pinnedTellsRow.holds Try.pinned (OpenSpec.ofChange pinnedTellsSpec)

/-- ITS FALSE NEIGHBOUR: 'it returns false'. Refute it at one input. -/
def pinnedTellsWrong : ChangeSpec := { name := "pinnedTells", fn := fun _ => fun
  | [d] => { results := [.lit (.bool false)], args := [d] }
  | _ => none }
def PinnedTellsWrongFalsely : Prop := pinnedTellsRow.holds Try.pinned (OpenSpec.ofChange pinnedTellsWrong)

/-- 'blindfoldlaw02.RangesJoins': WHATEVER THE INPUT: true; the input reads as it did. -/
def rangesJoinsSpec : ChangeSpec := { name := "rangesJoins", fn := fun _ => fun
  | [d1, d2] => { results := [.lit (.bool true)], args := [d1, d2] }
  | _ => none }
def rangesJoinsRow : OpenClaim := { program := "ytkfepdejiedjbaa", sum := "a341c12c44ad83d0d0cca5bca7bb05d04f3a1bb8a2c97f2e178d4df00d86d47c", func := "blindfold/blindfoldlaw02.RangesJoins", spec := "rangesJoins", inPlace := ["internal/reflectlite.ValueOf", "internal/reflectlite.Swapper", "(internal/reflectlite.Value).Len"], unfollowed := true, recurses := true, apart := false }
def RangesJoinsSaid : Prop := rangesJoinsRow.holds Try.pinned (OpenSpec.ofChange rangesJoinsSpec)

/-- ITS FALSE NEIGHBOUR: 'it returns false'. Refute it at one input. -/
def rangesJoinsWrong : ChangeSpec := { name := "rangesJoins", fn := fun _ => fun
  | [d1, d2] => { results := [.lit (.bool false)], args := [d1, d2] }
  | _ => none }
def RangesJoinsWrongFalsely : Prop := rangesJoinsRow.holds Try.pinned (OpenSpec.ofChange rangesJoinsWrong)

/-- 'blindfoldlaw02.RangesMakes': WHATEVER THE INPUT: true; the input reads as it did. -/
def rangesMakesSpec : ChangeSpec := { name := "rangesMakes", fn := fun _ => fun
  | [d1, d2] => { results := [.lit (.bool true)], args := [d1, d2] }
  | _ => none }
def rangesMakesRow : OpenClaim := { program := "ytkfepdejiedjbaa", sum := "a341c12c44ad83d0d0cca5bca7bb05d04f3a1bb8a2c97f2e178d4df00d86d47c", func := "blindfold/blindfoldlaw02.RangesMakes", spec := "rangesMakes", inPlace := ["internal/reflectlite.ValueOf", "internal/reflectlite.Swapper", "(internal/reflectlite.Value).Len"], unfollowed := true, recurses := true, apart := false }
def RangesMakesSaid : Prop := rangesMakesRow.holds Try.pinned (OpenSpec.ofChange rangesMakesSpec)

/-- ITS FALSE NEIGHBOUR: 'it returns false'. Refute it at one input. -/
def rangesMakesWrong : ChangeSpec := { name := "rangesMakes", fn := fun _ => fun
  | [d1, d2] => { results := [.lit (.bool false)], args := [d1, d2] }
  | _ => none }
def RangesMakesWrongFalsely : Prop := rangesMakesRow.holds Try.pinned (OpenSpec.ofChange rangesMakesWrong)

/-- 'blindfoldlaw02.RangesOne': WHATEVER THE INPUT: true; the input reads as it did. -/
def rangesOneSpec : ChangeSpec := { name := "rangesOne", fn := fun _ => fun
  | [d1, d2] => { results := [.lit (.bool true)], args := [d1, d2] }
  | _ => none }
def rangesOneRow : OpenClaim := { program := "ytkfepdejiedjbaa", sum := "a341c12c44ad83d0d0cca5bca7bb05d04f3a1bb8a2c97f2e178d4df00d86d47c", func := "blindfold/blindfoldlaw02.RangesOne", spec := "rangesOne", inPlace := ["internal/reflectlite.ValueOf", "internal/reflectlite.Swapper", "(internal/reflectlite.Value).Len"], unfollowed := true, recurses := true, apart := false }
def RangesOneSaid : Prop := rangesOneRow.holds Try.pinned (OpenSpec.ofChange rangesOneSpec)

/-- ITS FALSE NEIGHBOUR: 'it returns false'. Refute it at one input. -/
def rangesOneWrong : ChangeSpec := { name := "rangesOne", fn := fun _ => fun
  | [d1, d2] => { results := [.lit (.bool false)], args := [d1, d2] }
  | _ => none }
def RangesOneWrongFalsely : Prop := rangesOneRow.holds Try.pinned (OpenSpec.ofChange rangesOneWrong)

/-- 'blindfoldlaw08.NamesTells': WHATEVER THE INPUT: true; the input reads as it did. -/
def namesTellsSpec : ChangeSpec := { name := "namesTells", fn := fun _ => fun
  | [d1, d2] => { results := [.lit (.bool true)], args := [d1, d2] }
  | _ => none }
def namesTellsRow : OpenClaim := { program := "ytkfepdejiedjbaa", sum := "a341c12c44ad83d0d0cca5bca7bb05d04f3a1bb8a2c97f2e178d4df00d86d47c", func := "blindfold/blindfoldlaw08.NamesTells", spec := "namesTells", inPlace := ["internal/reflectlite.ValueOf", "internal/reflectlite.Swapper", "(internal/reflectlite.Value).Len"], unfollowed := true, recurses := true, apart := false }
def NamesTellsSaid : Prop := namesTellsRow.holds Try.pinned (OpenSpec.ofChange namesTellsSpec)

/-- ITS FALSE NEIGHBOUR: 'it returns false'. Refute it at one input. -/
def namesTellsWrong : ChangeSpec := { name := "namesTells", fn := fun _ => fun
  | [d1, d2] => { results := [.lit (.bool false)], args := [d1, d2] }
  | _ => none }
def NamesTellsWrongFalsely : Prop := namesTellsRow.holds Try.pinned (OpenSpec.ofChange namesTellsWrong)

/-- 'blindfoldlaw08.NamesFinds': WHATEVER THE INPUT: true; the input reads as it did. -/
def namesFindsSpec : ChangeSpec := { name := "namesFinds", fn := fun _ => fun
  | [d1, d2] => { results := [.lit (.bool true)], args := [d1, d2] }
  | _ => none }
def namesFindsRow : OpenClaim := { program := "ytkfepdejiedjbaa", sum := "a341c12c44ad83d0d0cca5bca7bb05d04f3a1bb8a2c97f2e178d4df00d86d47c", func := "blindfold/blindfoldlaw08.NamesFinds", spec := "namesFinds", inPlace := ["internal/reflectlite.ValueOf", "internal/reflectlite.Swapper", "(internal/reflectlite.Value).Len"], unfollowed := true, recurses := true, apart := false }
def NamesFindsSaid : Prop := namesFindsRow.holds Try.pinned (OpenSpec.ofChange namesFindsSpec)

/-- ITS FALSE NEIGHBOUR: 'it returns false'. Refute it at one input. -/
def namesFindsWrong : ChangeSpec := { name := "namesFinds", fn := fun _ => fun
  | [d1, d2] => { results := [.lit (.bool false)], args := [d1, d2] }
  | _ => none }
def NamesFindsWrongFalsely : Prop := namesFindsRow.holds Try.pinned (OpenSpec.ofChange namesFindsWrong)

/-- 'blindfoldlaw08.NamesThere': WHATEVER THE INPUT: true; the input reads as it did. -/
def namesThereSpec : ChangeSpec := { name := "namesThere", fn := fun _ => fun
  | [d] => { results := [.lit (.bool true)], args := [d] }
  | _ => none }
def namesThereRow : OpenClaim := { program := "ytkfepdejiedjbaa", sum := "a341c12c44ad83d0d0cca5bca7bb05d04f3a1bb8a2c97f2e178d4df00d86d47c", func := "blindfold/blindfoldlaw08.NamesThere", spec := "namesThere", inPlace := ["internal/reflectlite.ValueOf", "internal/reflectlite.Swapper", "(internal/reflectlite.Value).Len"], unfollowed := true, recurses := true, apart := false }
def NamesThereSaid : Prop := namesThereRow.holds Try.pinned (OpenSpec.ofChange namesThereSpec)

/-- ITS FALSE NEIGHBOUR: 'it returns false'. Refute it at one input. -/
def namesThereWrong : ChangeSpec := { name := "namesThere", fn := fun _ => fun
  | [d] => { results := [.lit (.bool false)], args := [d] }
  | _ => none }
def NamesThereWrongFalsely : Prop := namesThereRow.holds Try.pinned (OpenSpec.ofChange namesThereWrong)

/-- 'blindfoldlaw03.PinnedApart': WHATEVER THE INPUT: true; the input reads as it did. -/
def pinnedApartSpec : ChangeSpec := { name := "pinnedApart", fn := fun _ => fun
  | [d] => { results := [.lit (.bool true)], args := [d] }
  | _ => none }
def pinnedApartRow : OpenClaim := { program := "ytkfepdejiedjbaa", sum := "a341c12c44ad83d0d0cca5bca7bb05d04f3a1bb8a2c97f2e178d4df00d86d47c", func := "blindfold/blindfoldlaw03.PinnedApart", spec := "pinnedApart", inPlace := ["internal/reflectlite.ValueOf", "internal/reflectlite.Swapper", "(internal/reflectlite.Value).Len"], unfollowed := true, recurses := true, apart := false }
def PinnedApartSaid : Prop := pinnedApartRow.holds Try.pinned (OpenSpec.ofChange pinnedApartSpec)

/-- ITS FALSE NEIGHBOUR: 'it returns false'. Refute it at one input. -/
def pinnedApartWrong : ChangeSpec := { name := "pinnedApart", fn := fun _ => fun
  | [d] => { results := [.lit (.bool false)], args := [d] }
  | _ => none }
def PinnedApartWrongFalsely : Prop := pinnedApartRow.holds Try.pinned (OpenSpec.ofChange pinnedApartWrong)

/-- 'blindfoldlaw03.PinnedSets': WHATEVER THE INPUT: true; the input reads as it did. -/
def pinnedSetsSpec : ChangeSpec := { name := "pinnedSets", fn := fun _ => fun
  | [d] => { results := [.lit (.bool true)], args := [d] }
  | _ => none }
def pinnedSetsRow : OpenClaim := { program := "ytkfepdejiedjbaa", sum := "a341c12c44ad83d0d0cca5bca7bb05d04f3a1bb8a2c97f2e178d4df00d86d47c", func := "blindfold/blindfoldlaw03.PinnedSets", spec := "pinnedSets", inPlace := ["internal/reflectlite.ValueOf", "internal/reflectlite.Swapper", "(internal/reflectlite.Value).Len"], unfollowed := true, recurses := true, apart := false }
def PinnedSetsSaid : Prop := pinnedSetsRow.holds Try.pinned (OpenSpec.ofChange pinnedSetsSpec)

/-- ITS FALSE NEIGHBOUR: 'it returns false'. Refute it at one input. -/
def pinnedSetsWrong : ChangeSpec := { name := "pinnedSets", fn := fun _ => fun
  | [d] => { results := [.lit (.bool false)], args := [d] }
  | _ => none }
def PinnedSetsWrongFalsely : Prop := pinnedSetsRow.holds Try.pinned (OpenSpec.ofChange pinnedSetsWrong)

/- THE SECOND FORM. 'bulk': how many values and letters a reading holds, each counted each time it is reached (what is shared counts as often as it is met; a slice's spare places count too). A statement '..UptoSaid' is the law's where the arguments, and the package variables that the reading takes, are together of bulk at most 1048576: NARROWER than '..Said'. Prove '..Said' where nothing that the law and all that it calls make is longer than what came in: it says more and counts as full. Else prove '..UptoSaid'. A law counts once. -/
mutual
def uptoBulk {H : Type} : DataW H → Nat
  | .lit (.string bytes) => bytes.length + 1
  | .lit _ => 1
  | .nil => 1
  | .ptr d => uptoBulk d + 1
  | .slice elems spare => uptoBulkAll elems + uptoBulkAll spare + 1
  | .agg parts => uptoBulkAll parts + 1
  | .iface _ d => uptoBulk d + 1
  | .map entries => uptoBulkEntries entries + 1
  | .held _ => 1
def uptoBulkAll {H : Type} : List (DataW H) → Nat
  | [] => 0
  | d :: r => uptoBulk d + uptoBulkAll r
def uptoBulkEntries {H : Type} : List (Lit × DataW H) → Nat
  | [] => 0
  | x :: r => uptoBulkEntry x + uptoBulkEntries r
def uptoBulkEntry {H : Type} : Lit × DataW H → Nat
  | (.string bytes, d) => bytes.length + uptoBulk d + 1
  | (_, d) => uptoBulk d + 1
 end
def uptoSmall : (H : Type) → List (DataW H) → Bool := fun _ ds => decide (uptoBulkAll ds ≤ 1048576)
def OpenSpec.upto (s : _root_.Go.ChangeSpec) : _root_.Go.OpenSpec := { _root_.Go.OpenSpec.ofChange s with cond := some uptoSmall }

/-- 'blindfoldlaw10.RelCloses', WHERE WHAT IT READS IS OF BULK AT MOST 1048576: true; the input reads as it did. -/
def relClosesUptoRow : OpenClaim := { program := "ytkfepdejiedjbaa", sum := "a341c12c44ad83d0d0cca5bca7bb05d04f3a1bb8a2c97f2e178d4df00d86d47c", func := "blindfold/blindfoldlaw10.RelCloses", spec := "relCloses", apart := false, narrowed := true }
def RelClosesUptoSaid : Prop := relClosesUptoRow.holds Try.pinned (OpenSpec.upto relClosesSpec)

/-- 'blindfoldlaw10.RelOrders', WHERE WHAT IT READS IS OF BULK AT MOST 1048576: true; the input reads as it did. -/
def relOrdersUptoRow : OpenClaim := { program := "ytkfepdejiedjbaa", sum := "a341c12c44ad83d0d0cca5bca7bb05d04f3a1bb8a2c97f2e178d4df00d86d47c", func := "blindfold/blindfoldlaw10.RelOrders", spec := "relOrders", apart := false, narrowed := true }
def RelOrdersUptoSaid : Prop := relOrdersUptoRow.holds Try.pinned (OpenSpec.upto relOrdersSpec)

/-- 'blindfoldlaw10.RelSound', WHERE WHAT IT READS IS OF BULK AT MOST 1048576: true; the input reads as it did. -/
def relSoundUptoRow : OpenClaim := { program := "ytkfepdejiedjbaa", sum := "a341c12c44ad83d0d0cca5bca7bb05d04f3a1bb8a2c97f2e178d4df00d86d47c", func := "blindfold/blindfoldlaw10.RelSound", spec := "relSound", apart := false, narrowed := true }
def RelSoundUptoSaid : Prop := relSoundUptoRow.holds Try.pinned (OpenSpec.upto relSoundSpec)

/-- 'blindfoldlaw03.PinnedTells', WHERE WHAT IT READS IS OF BULK AT MOST 1048576: true; the input reads as it did. -/
def pinnedTellsUptoRow : OpenClaim := { program := "ytkfepdejiedjbaa", sum := "a341c12c44ad83d0d0cca5bca7bb05d04f3a1bb8a2c97f2e178d4df00d86d47c", func := "blindfold/blindfoldlaw03.PinnedTells", spec := "pinnedTells", apart := false, narrowed := true }
def PinnedTellsUptoSaid : Prop := pinnedTellsUptoRow.holds Try.pinned (OpenSpec.upto pinnedTellsSpec)

/-- 'blindfoldlaw02.RangesJoins', WHERE WHAT IT READS IS OF BULK AT MOST 1048576: true; the input reads as it did. -/
def rangesJoinsUptoRow : OpenClaim := { program := "ytkfepdejiedjbaa", sum := "a341c12c44ad83d0d0cca5bca7bb05d04f3a1bb8a2c97f2e178d4df00d86d47c", func := "blindfold/blindfoldlaw02.RangesJoins", spec := "rangesJoins", inPlace := ["internal/reflectlite.ValueOf", "internal/reflectlite.Swapper", "(internal/reflectlite.Value).Len"], unfollowed := true, recurses := true, apart := false, narrowed := true }
def RangesJoinsUptoSaid : Prop := rangesJoinsUptoRow.holds Try.pinned (OpenSpec.upto rangesJoinsSpec)

/-- 'blindfoldlaw02.RangesMakes', WHERE WHAT IT READS IS OF BULK AT MOST 1048576: true; the input reads as it did. -/
def rangesMakesUptoRow : OpenClaim := { program := "ytkfepdejiedjbaa", sum := "a341c12c44ad83d0d0cca5bca7bb05d04f3a1bb8a2c97f2e178d4df00d86d47c", func := "blindfold/blindfoldlaw02.RangesMakes", spec := "rangesMakes", inPlace := ["internal/reflectlite.ValueOf", "internal/reflectlite.Swapper", "(internal/reflectlite.Value).Len"], unfollowed := true, recurses := true, apart := false, narrowed := true }
def RangesMakesUptoSaid : Prop := rangesMakesUptoRow.holds Try.pinned (OpenSpec.upto rangesMakesSpec)

/-- 'blindfoldlaw02.RangesOne', WHERE WHAT IT READS IS OF BULK AT MOST 1048576: true; the input reads as it did. -/
def rangesOneUptoRow : OpenClaim := { program := "ytkfepdejiedjbaa", sum := "a341c12c44ad83d0d0cca5bca7bb05d04f3a1bb8a2c97f2e178d4df00d86d47c", func := "blindfold/blindfoldlaw02.RangesOne", spec := "rangesOne", inPlace := ["internal/reflectlite.ValueOf", "internal/reflectlite.Swapper", "(internal/reflectlite.Value).Len"], unfollowed := true, recurses := true, apart := false, narrowed := true }
def RangesOneUptoSaid : Prop := rangesOneUptoRow.holds Try.pinned (OpenSpec.upto rangesOneSpec)

/-- 'blindfoldlaw08.NamesTells', WHERE WHAT IT READS IS OF BULK AT MOST 1048576: true; the input reads as it did. -/
def namesTellsUptoRow : OpenClaim := { program := "ytkfepdejiedjbaa", sum := "a341c12c44ad83d0d0cca5bca7bb05d04f3a1bb8a2c97f2e178d4df00d86d47c", func := "blindfold/blindfoldlaw08.NamesTells", spec := "namesTells", inPlace := ["internal/reflectlite.ValueOf", "internal/reflectlite.Swapper", "(internal/reflectlite.Value).Len"], unfollowed := true, recurses := true, apart := false, narrowed := true }
def NamesTellsUptoSaid : Prop := namesTellsUptoRow.holds Try.pinned (OpenSpec.upto namesTellsSpec)

/-- 'blindfoldlaw08.NamesFinds', WHERE WHAT IT READS IS OF BULK AT MOST 1048576: true; the input reads as it did. -/
def namesFindsUptoRow : OpenClaim := { program := "ytkfepdejiedjbaa", sum := "a341c12c44ad83d0d0cca5bca7bb05d04f3a1bb8a2c97f2e178d4df00d86d47c", func := "blindfold/blindfoldlaw08.NamesFinds", spec := "namesFinds", inPlace := ["internal/reflectlite.ValueOf", "internal/reflectlite.Swapper", "(internal/reflectlite.Value).Len"], unfollowed := true, recurses := true, apart := false, narrowed := true }
def NamesFindsUptoSaid : Prop := namesFindsUptoRow.holds Try.pinned (OpenSpec.upto namesFindsSpec)

/-- 'blindfoldlaw08.NamesThere', WHERE WHAT IT READS IS OF BULK AT MOST 1048576: true; the input reads as it did. -/
def namesThereUptoRow : OpenClaim := { program := "ytkfepdejiedjbaa", sum := "a341c12c44ad83d0d0cca5bca7bb05d04f3a1bb8a2c97f2e178d4df00d86d47c", func := "blindfold/blindfoldlaw08.NamesThere", spec := "namesThere", inPlace := ["internal/reflectlite.ValueOf", "internal/reflectlite.Swapper", "(internal/reflectlite.Value).Len"], unfollowed := true, recurses := true, apart := false, narrowed := true }
def NamesThereUptoSaid : Prop := namesThereUptoRow.holds Try.pinned (OpenSpec.upto namesThereSpec)

/-- 'blindfoldlaw03.PinnedApart', WHERE WHAT IT READS IS OF BULK AT MOST 1048576: true; the input reads as it did. -/
def pinnedApartUptoRow : OpenClaim := { program := "ytkfepdejiedjbaa", sum := "a341c12c44ad83d0d0cca5bca7bb05d04f3a1bb8a2c97f2e178d4df00d86d47c", func := "blindfold/blindfoldlaw03.PinnedApart", spec := "pinnedApart", inPlace := ["internal/reflectlite.ValueOf", "internal/reflectlite.Swapper", "(internal/reflectlite.Value).Len"], unfollowed := true, recurses := true, apart := false, narrowed := true }
def PinnedApartUptoSaid : Prop := pinnedApartUptoRow.holds Try.pinned (OpenSpec.upto pinnedApartSpec)

/-- 'blindfoldlaw03.PinnedSets', WHERE WHAT IT READS IS OF BULK AT MOST 1048576: true; the input reads as it did. -/
def pinnedSetsUptoRow : OpenClaim := { program := "ytkfepdejiedjbaa", sum := "a341c12c44ad83d0d0cca5bca7bb05d04f3a1bb8a2c97f2e178d4df00d86d47c", func := "blindfold/blindfoldlaw03.PinnedSets", spec := "pinnedSets", inPlace := ["internal/reflectlite.ValueOf", "internal/reflectlite.Swapper", "(internal/reflectlite.Value).Len"], unfollowed := true, recurses := true, apart := false, narrowed := true }
def PinnedSetsUptoSaid : Prop := pinnedSetsUptoRow.holds Try.pinned (OpenSpec.upto pinnedSetsSpec)

end Rows
end Go.Proofs.Ytkfepdejiedjbaa
