/- The shelf's contracts laid at this program: the table of numbers, the facts of each body. -/
import Derived.Shelf.SlSorted.Search
import Derived.Test.YtkfepdejiedjbaaProg
namespace Go.Proofs.Ytkfepdejiedjbaa
open Go.Shelf
def Try.sl16_ren : Go.Shelf.Ren := ⟨fun | 16 => 82 | n => n, fun | 3 => 3 | 35 => 90 | 4 => 4 | 38 => 96 | n => n, fun | n => n⟩
theorem Try.sl16 : Go.Proofs.SlLaysO.n16 Try.prog Try.sl16_ren := {
  mixed := by kernel_rfl
  f16 := Try.func82.trans (congrArg some (by kernel_rfl))
  t3 := Try.underlying3
  a3 := Try.isAgg3
  z3 := Try.sizeOf3
  v3 := Try.zeroValue3
  t4 := Try.underlying4
  a4 := Try.isAgg4
  z4 := Try.sizeOf4
  v4 := Try.zeroValue4
  t35 := Try.underlying90
  a35 := Try.isAgg90
  z35 := Try.sizeOf90
  v35 := Try.zeroValue90
  t38 := Try.underlying96
  a38 := Try.isAgg96
  z38 := Try.sizeOf96
  v38 := Try.zeroValue96 }
end Go.Proofs.Ytkfepdejiedjbaa
