/-
  NARROWER THAN 'FOR EVERY INPUT', by the rows' own cells (each row's printed sentence says how): EffectChecks: loops · EffectWalks: loops · EffectReaches: loops · EffectRises: loops.
  DERIVED. THE GIVEN ROWS OF THIS SEAT. 4 by the template 'for every input the law returns true; each argument reads behind the call as it read before'; 0 by the template 'total and deterministic' (their statements: YtanpljalbijfkaaGreatTotals.lean).
  GIVEN WITH THE SEED: the statements are not yours to turn. If you find one false, say at which input.
  Laid BY PROGRAM, IN A SANDBOX (cutbox-rows.mjs): the forced cells as the released guide's own fill.sh prints them over the translation aabbe8ec53403322… (all of the seat's roots in one cut). By AI agents, Wed Nov 11 2026. No macro, syntax, notation, axiom, sorry.
-/
import Derived.Test.YtanpljalbijfkaaGreatChecked
import GoSem.Claim
import GoSem.ClaimJoined
import GoSem.ClaimMapViews
import Derived.JoinedTies
import Derived.KernelRfl
namespace Go.Proofs.YtanpljalbijfkaaGreat
/- THE CELL 'sum', in the pinned program and in every row, IS THE sha256 OF THE DUMP (.gsa) THAT YtanpljalbijfkaaGreatProg.lean LOADS. Nothing in Lean hashes anything: it is a label: what it is worth is what the hold of that sum in a sandbox is worth. -/
noncomputable def Tryz.pinned : Pinned := { name := "ytanpljalbijfkaagreat", sum := "aabbe8ec53403322e5ebca2a6b337536b96599de0d67b410e7feee28afc0dd1f", checked := Tryz.checked }
namespace Rows
def none {H : Type} : Left H := { results := [], args := [] }

/-- 'blindfoldlaw20.EffectChecks': WHATEVER THE INPUT: true; the input reads as it did. -/
def effectChecksSpec : ChangeSpec := { name := "effectChecks", fn := fun _ => fun
  | [d] => { results := [.lit (.bool true)], args := [d] }
  | _ => none }
def effectChecksRow : OpenClaim := { program := "ytanpljalbijfkaagreat", sum := "aabbe8ec53403322e5ebca2a6b337536b96599de0d67b410e7feee28afc0dd1f", func := "blindfold/blindfoldlaw20.EffectChecks", spec := "effectChecks", inPlace := ["internal/reflectlite.ValueOf", "internal/reflectlite.Swapper", "(internal/reflectlite.Value).Len"], unfollowed := true, recurses := true, loops := true, plainKeys := false, apart := false }
def EffectChecksSaid : Prop := effectChecksRow.holds Tryz.pinned (OpenSpec.ofChange effectChecksSpec)

/-- ITS FALSE NEIGHBOUR: 'it returns false'. Refute it at one input. -/
def effectChecksWrong : ChangeSpec := { name := "effectChecks", fn := fun _ => fun
  | [d] => { results := [.lit (.bool false)], args := [d] }
  | _ => none }
def EffectChecksWrongFalsely : Prop := effectChecksRow.holds Tryz.pinned (OpenSpec.ofChange effectChecksWrong)

/-- 'blindfoldlaw20.EffectWalks': WHATEVER THE INPUT: true; the input reads as it did. -/
def effectWalksSpec : ChangeSpec := { name := "effectWalks", fn := fun _ => fun
  | [d1, d2] => { results := [.lit (.bool true)], args := [d1, d2] }
  | _ => none }
def effectWalksRow : OpenClaim := { program := "ytanpljalbijfkaagreat", sum := "aabbe8ec53403322e5ebca2a6b337536b96599de0d67b410e7feee28afc0dd1f", func := "blindfold/blindfoldlaw20.EffectWalks", spec := "effectWalks", inPlace := ["internal/reflectlite.ValueOf", "internal/reflectlite.Swapper", "(internal/reflectlite.Value).Len"], unfollowed := true, recurses := true, loops := true, plainKeys := false, apart := false }
def EffectWalksSaid : Prop := effectWalksRow.holds Tryz.pinned (OpenSpec.ofChange effectWalksSpec)

/-- ITS FALSE NEIGHBOUR: 'it returns false'. Refute it at one input. -/
def effectWalksWrong : ChangeSpec := { name := "effectWalks", fn := fun _ => fun
  | [d1, d2] => { results := [.lit (.bool false)], args := [d1, d2] }
  | _ => none }
def EffectWalksWrongFalsely : Prop := effectWalksRow.holds Tryz.pinned (OpenSpec.ofChange effectWalksWrong)

/-- 'blindfoldlaw20.EffectReaches': WHATEVER THE INPUT: true; the input reads as it did. -/
def effectReachesSpec : ChangeSpec := { name := "effectReaches", fn := fun _ => fun
  | [d] => { results := [.lit (.bool true)], args := [d] }
  | _ => none }
def effectReachesRow : OpenClaim := { program := "ytanpljalbijfkaagreat", sum := "aabbe8ec53403322e5ebca2a6b337536b96599de0d67b410e7feee28afc0dd1f", func := "blindfold/blindfoldlaw20.EffectReaches", spec := "effectReaches", inPlace := ["internal/reflectlite.ValueOf", "internal/reflectlite.Swapper", "(internal/reflectlite.Value).Len"], unfollowed := true, recurses := true, loops := true, plainKeys := false, apart := false }
def EffectReachesSaid : Prop := effectReachesRow.holds Tryz.pinned (OpenSpec.ofChange effectReachesSpec)

/-- ITS FALSE NEIGHBOUR: 'it returns false'. Refute it at one input. -/
def effectReachesWrong : ChangeSpec := { name := "effectReaches", fn := fun _ => fun
  | [d] => { results := [.lit (.bool false)], args := [d] }
  | _ => none }
def EffectReachesWrongFalsely : Prop := effectReachesRow.holds Tryz.pinned (OpenSpec.ofChange effectReachesWrong)

/-- 'blindfoldlaw20.EffectRises': WHATEVER THE INPUT: true; the input reads as it did. -/
def effectRisesSpec : ChangeSpec := { name := "effectRises", fn := fun _ => fun
  | [d1, d2] => { results := [.lit (.bool true)], args := [d1, d2] }
  | _ => none }
def effectRisesRow : OpenClaim := { program := "ytanpljalbijfkaagreat", sum := "aabbe8ec53403322e5ebca2a6b337536b96599de0d67b410e7feee28afc0dd1f", func := "blindfold/blindfoldlaw20.EffectRises", spec := "effectRises", inPlace := ["internal/reflectlite.ValueOf", "internal/reflectlite.Swapper", "(internal/reflectlite.Value).Len"], unfollowed := true, recurses := true, loops := true, plainKeys := false, apart := false }
def EffectRisesSaid : Prop := effectRisesRow.holds Tryz.pinned (OpenSpec.ofChange effectRisesSpec)

/-- ITS FALSE NEIGHBOUR: 'it returns false'. Refute it at one input. -/
def effectRisesWrong : ChangeSpec := { name := "effectRises", fn := fun _ => fun
  | [d1, d2] => { results := [.lit (.bool false)], args := [d1, d2] }
  | _ => none }
def EffectRisesWrongFalsely : Prop := effectRisesRow.holds Tryz.pinned (OpenSpec.ofChange effectRisesWrong)

/- THE SECOND FORM. 'bulk': how many values and letters a reading holds, each counted each time it is reached (what is shared counts as often as it is met; a slice's spare places count too). A statement '..UptoSaid' is the law's where the arguments, and the package variables that the reading takes, are together of bulk at most 1048576: NARROWER than '..Said'. Prove '..Said' where nothing that the law and all that it calls make is longer than what came in: it says more and counts as full. Else prove '..UptoSaid'. A law counts once. -/
mutual
def uptoBulk {H : Type} : DataW H → Nat
  | .lit (.string bytes) => bytes.length + 1
  | .lit _ => 1
  | .nil => 1
  | .ptr d => uptoBulk d + 1
  | .slice elems spare => uptoBulkAll elems + uptoBulkAll spare + 1
  | .agg parts => uptoBulkAll parts + 1
  | .iface _ d => uptoBulk d + 1
  | .map entries => uptoBulkEntries entries + 1
  | .held _ => 1
def uptoBulkAll {H : Type} : List (DataW H) → Nat
  | [] => 0
  | d :: r => uptoBulk d + uptoBulkAll r
def uptoBulkEntries {H : Type} : List (Lit × DataW H) → Nat
  | [] => 0
  | x :: r => uptoBulkEntry x + uptoBulkEntries r
def uptoBulkEntry {H : Type} : Lit × DataW H → Nat
  | (.string bytes, d) => bytes.length + uptoBulk d + 1
  | (_, d) => uptoBulk d + 1
 end
def uptoSmall : (H : Type) → List (DataW H) → Bool := fun _ ds => decide (uptoBulkAll ds ≤ 1048576)
def OpenSpec.upto (s : _root_.Go.ChangeSpec) : _root_.Go.OpenSpec := { _root_.Go.OpenSpec.ofChange s with cond := some uptoSmall }

/-- 'blindfoldlaw20.EffectChecks', WHERE WHAT IT READS IS OF BULK AT MOST 1048576: true; the input reads as it did. -/
def effectChecksUptoRow : OpenClaim := { program := "ytanpljalbijfkaagreat", sum := "aabbe8ec53403322e5ebca2a6b337536b96599de0d67b410e7feee28afc0dd1f", func := "blindfold/blindfoldlaw20.EffectChecks", spec := "effectChecks", inPlace := ["internal/reflectlite.ValueOf", "internal/reflectlite.Swapper", "(internal/reflectlite.Value).Len"], unfollowed := true, recurses := true, loops := true, plainKeys := false, apart := false, narrowed := true }
def EffectChecksUptoSaid : Prop := effectChecksUptoRow.holds Tryz.pinned (OpenSpec.upto effectChecksSpec)

/-- 'blindfoldlaw20.EffectWalks', WHERE WHAT IT READS IS OF BULK AT MOST 1048576: true; the input reads as it did. -/
def effectWalksUptoRow : OpenClaim := { program := "ytanpljalbijfkaagreat", sum := "aabbe8ec53403322e5ebca2a6b337536b96599de0d67b410e7feee28afc0dd1f", func := "blindfold/blindfoldlaw20.EffectWalks", spec := "effectWalks", inPlace := ["internal/reflectlite.ValueOf", "internal/reflectlite.Swapper", "(internal/reflectlite.Value).Len"], unfollowed := true, recurses := true, loops := true, plainKeys := false, apart := false, narrowed := true }
def EffectWalksUptoSaid : Prop := effectWalksUptoRow.holds Tryz.pinned (OpenSpec.upto effectWalksSpec)

/-- 'blindfoldlaw20.EffectReaches', WHERE WHAT IT READS IS OF BULK AT MOST 1048576: true; the input reads as it did. -/
def effectReachesUptoRow : OpenClaim := { program := "ytanpljalbijfkaagreat", sum := "aabbe8ec53403322e5ebca2a6b337536b96599de0d67b410e7feee28afc0dd1f", func := "blindfold/blindfoldlaw20.EffectReaches", spec := "effectReaches", inPlace := ["internal/reflectlite.ValueOf", "internal/reflectlite.Swapper", "(internal/reflectlite.Value).Len"], unfollowed := true, recurses := true, loops := true, plainKeys := false, apart := false, narrowed := true }
def EffectReachesUptoSaid : Prop := effectReachesUptoRow.holds Tryz.pinned (OpenSpec.upto effectReachesSpec)

/-- 'blindfoldlaw20.EffectRises', WHERE WHAT IT READS IS OF BULK AT MOST 1048576: true; the input reads as it did. -/
def effectRisesUptoRow : OpenClaim := { program := "ytanpljalbijfkaagreat", sum := "aabbe8ec53403322e5ebca2a6b337536b96599de0d67b410e7feee28afc0dd1f", func := "blindfold/blindfoldlaw20.EffectRises", spec := "effectRises", inPlace := ["internal/reflectlite.ValueOf", "internal/reflectlite.Swapper", "(internal/reflectlite.Value).Len"], unfollowed := true, recurses := true, loops := true, plainKeys := false, apart := false, narrowed := true }
def EffectRisesUptoSaid : Prop := effectRisesUptoRow.holds Tryz.pinned (OpenSpec.upto effectRisesSpec)

end Rows
end Go.Proofs.YtanpljalbijfkaaGreat
