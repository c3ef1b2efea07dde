/- The shelf's contracts laid at this program: the table of numbers, the facts of each body. -/
import Derived.Shelf.SlSorted.Search
import Derived.Test.YtpjlhpaenmfieaaGreatProg
namespace Go.Proofs.YtpjlhpaenmfieaaGreat
open Go.Shelf
def Tryz.sl16_ren : Go.Shelf.Ren := ⟨fun | 16 => 107 | n => n, fun | 3 => 3 | 35 => 99 | 4 => 4 | 38 => 160 | n => n, fun | n => n⟩
theorem Tryz.sl16 : Go.Proofs.SlLaysO.n16 Tryz.prog Tryz.sl16_ren := {
  mixed := by kernel_rfl
  f16 := Tryz.func107.trans (congrArg some (by kernel_rfl))
  t3 := Tryz.underlying3
  a3 := Tryz.isAgg3
  z3 := Tryz.sizeOf3
  v3 := Tryz.zeroValue3
  t4 := Tryz.underlying4
  a4 := Tryz.isAgg4
  z4 := Tryz.sizeOf4
  v4 := Tryz.zeroValue4
  t35 := Tryz.underlying99
  a35 := Tryz.isAgg99
  z35 := Tryz.sizeOf99
  v35 := Tryz.zeroValue99
  t38 := Tryz.underlying160
  a38 := Tryz.isAgg160
  z38 := Tryz.sizeOf160
  v38 := Tryz.zeroValue160 }
end Go.Proofs.YtpjlhpaenmfieaaGreat
