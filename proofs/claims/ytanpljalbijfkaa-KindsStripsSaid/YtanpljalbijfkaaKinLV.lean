/- kinds: the law's lives, walked. -/
import Derived.Test.YtanpljalbijfkaaKinL
namespace Go.Proofs.Ytanpljalbijfkaa
open Go.RowKit

set_option maxRecDepth 100000 in
theorem kLives_any (w : World) : Calls Try.prog 7 #[] w (fun e w' => e = .returned (.bool true) ∧ Ext w w') := by
  have hq := run_eqIn_fl
  go_enter Try.func7, Try.ntmps7
  go_wp2_with fail
  refine (right_int w).mono ?_
  rintro e w1 ⟨rfl, hE1⟩
  have HE1 := hide hE1
  clear hE1
  unfold fltV
  go_wp2_with fail
  refine (right_bool w1).mono ?_
  rintro e w2 ⟨rfl, hE2⟩
  have HE2 := hide (HE1.out.trans' hE2)
  clear hE2
  unfold fltV
  go_wp2_with fail
  go_ret
  exact ⟨rfl, HE2.out⟩
end Go.Proofs.Ytanpljalbijfkaa
