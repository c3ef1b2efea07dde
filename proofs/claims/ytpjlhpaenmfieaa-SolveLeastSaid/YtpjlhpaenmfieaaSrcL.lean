/- The shelf's contracts laid at this program: the table of numbers, the facts of each body. -/
import Derived.Shelf.SlSorted.Search
import Derived.Test.YtpjlhpaenmfieaaProg
namespace Go.Proofs.Ytpjlhpaenmfieaa
open Go.Shelf
def Try.sl16_ren : Go.Shelf.Ren := ⟨fun | 16 => 84 | n => n, fun | 3 => 3 | 35 => 101 | 4 => 4 | 38 => 155 | n => n, fun | n => n⟩
theorem Try.sl16 : Go.Proofs.SlLaysO.n16 Try.prog Try.sl16_ren := {
  mixed := by kernel_rfl
  f16 := Try.func84.trans (congrArg some (by kernel_rfl))
  t3 := Try.underlying3
  a3 := Try.isAgg3
  z3 := Try.sizeOf3
  v3 := Try.zeroValue3
  t4 := Try.underlying4
  a4 := Try.isAgg4
  z4 := Try.sizeOf4
  v4 := Try.zeroValue4
  t35 := Try.underlying101
  a35 := Try.isAgg101
  z35 := Try.sizeOf101
  v35 := Try.zeroValue101
  t38 := Try.underlying155
  a38 := Try.isAgg155
  z38 := Try.sizeOf155
  v38 := Try.zeroValue155 }
end Go.Proofs.Ytpjlhpaenmfieaa
