/- The shelf's contracts laid at this program: the table of numbers, the facts of each body. -/
import Derived.Shelf.SlSorted.Search
import Derived.Test.YtanpljalbijfkaaProg
namespace Go.Proofs.Ytanpljalbijfkaa
open Go.Shelf
def Try.sl16_ren : Go.Shelf.Ren := ⟨fun | 16 => 55 | n => n, fun | 3 => 3 | 35 => 81 | 4 => 4 | 38 => 91 | n => n, fun | n => n⟩
theorem Try.sl16 : Go.Proofs.SlLaysO.n16 Try.prog Try.sl16_ren := {
  mixed := by kernel_rfl
  f16 := Try.func55.trans (congrArg some (by kernel_rfl))
  t3 := Try.underlying3
  a3 := Try.isAgg3
  z3 := Try.sizeOf3
  v3 := Try.zeroValue3
  t4 := Try.underlying4
  a4 := Try.isAgg4
  z4 := Try.sizeOf4
  v4 := Try.zeroValue4
  t35 := Try.underlying81
  a35 := Try.isAgg81
  z35 := Try.sizeOf81
  v35 := Try.zeroValue81
  t38 := Try.underlying91
  a38 := Try.isAgg91
  z38 := Try.sizeOf91
  v38 := Try.zeroValue91 }
end Go.Proofs.Ytanpljalbijfkaa
