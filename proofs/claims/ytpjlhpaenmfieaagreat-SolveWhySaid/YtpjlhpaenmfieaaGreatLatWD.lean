/- The law's example, built. -/
import Derived.Test.YtpjlhpaenmfieaaGreatLatVD
import Derived.Test.YtpjlhpaenmfieaaGreatLatK
import Derived.Test.YtpjlhpaenmfieaaGreatLatQ
namespace Go.Proofs.YtpjlhpaenmfieaaGreat
open Go.RowKit

theorem dJoin : joinI 4 (leqL dWs dOs) 1 2 = 3 := by decide +kernel
theorem dMeet : joinI 4 (turnL (leqL dWs dOs)) 1 2 = 0 := by decide +kernel
theorem dSize (i : Nat) : (wNm dWs i).size ≤ maxLen := by
  by_cases h : i < 4
  · have : i = 0 ∨ i = 1 ∨ i = 2 ∨ i = 3 := by omega
    rcases this with rfl | rfl | rfl | rfl <;> decide +kernel
  · have : wNm dWs i = ⟨#[]⟩ := by
      unfold wNm
      rw [List.getD_eq_getElem?_getD, List.getElem?_eq_none (show dWs.length ≤ i by show 4 ≤ i; omega)]
      rfl
    rw [this]; decide
theorem dGood : GoodL dWs dOs := good_of (by rw [dWrong])

/-- The example, built. -/
def DiaBuilt (w : World) (e : Ending) (w' : World) : Prop := ∃ g, e = .returned (.tuple #[.pointer (some ⟨g, 0, none⟩), fltV (0, 0)]) ∧ LatAt w' g dWs dOs ∧ Ext w w'
set_option maxRecDepth 100000 in
theorem dBuild_any (w : World) (gl go : Nat) (h1 : WdsAt w w.heap.size (some ⟨gl, 0, none⟩) dWs) (h2 : OdsAt w w.heap.size (some ⟨go, 0, none⟩) dOs) :
    Calls Tryz.prog 10 #[.slice (some ⟨gl, 0, none⟩) 4 4, .slice (some ⟨go, 0, none⟩) 4 4] w (DiaBuilt w) := by
  refine (build_any (some ⟨gl, 0, none⟩) 4 4 dWs (some ⟨go, 0, none⟩) 4 4 dOs w h1 dSize rfl h2 rfl).mono ?_
  rintro e w' (⟨h, _⟩ | ⟨_, g, rfl, hL, hE⟩)
  · rw [dWrong] at h
    exact absurd rfl h
  · exact ⟨g, rfl, hL, hE⟩

end Go.Proofs.YtpjlhpaenmfieaaGreat
