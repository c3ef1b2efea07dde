/- The law's example, walked: lives. -/
import Derived.Test.YtpjlhpaenmfieaaLatV
import Derived.Test.YtpjlhpaenmfieaaLatK
import Derived.Test.YtpjlhpaenmfieaaLatQ
namespace Go.Proofs.Ytpjlhpaenmfieaa
open Go.RowKit

theorem dJoin : joinI 4 (leqL dWs dOs) 1 2 = 3 := by decide +kernel
theorem dMeet : joinI 4 (turnL (leqL dWs dOs)) 1 2 = 0 := by decide +kernel
theorem dSize (i : Nat) : (wNm dWs i).size ≤ maxLen := by
  by_cases h : i < 4
  · have : i = 0 ∨ i = 1 ∨ i = 2 ∨ i = 3 := by omega
    rcases this with rfl | rfl | rfl | rfl <;> decide +kernel
  · have : wNm dWs i = ⟨#[]⟩ := by
      unfold wNm
      rw [List.getD_eq_getElem?_getD, List.getElem?_eq_none (show dWs.length ≤ i by show 4 ≤ i; omega)]
      rfl
    rw [this]; decide
theorem dGood : GoodL dWs dOs := good_of (by rw [dWrong])

/-- The example, built. -/
def DiaBuilt (w : World) (e : Ending) (w' : World) : Prop := ∃ g, e = .returned (.tuple #[.pointer (some ⟨g, 0, none⟩), fltV (0, 0)]) ∧ LatAt w' g dWs dOs ∧ Ext w w'
set_option maxRecDepth 100000 in
theorem dBuild_any (w : World) (gl go : Nat) (h1 : WdsAt w w.heap.size (some ⟨gl, 0, none⟩) dWs) (h2 : OdsAt w w.heap.size (some ⟨go, 0, none⟩) dOs) :
    Calls Try.prog 12 #[.slice (some ⟨gl, 0, none⟩) 4 4, .slice (some ⟨go, 0, none⟩) 4 4] w (DiaBuilt w) := by
  refine (build_any (some ⟨gl, 0, none⟩) 4 4 dWs (some ⟨go, 0, none⟩) 4 4 dOs w h1 dSize rfl h2 rfl).mono ?_
  rintro e w' (⟨h, _⟩ | ⟨_, g, rfl, hL, hE⟩)
  · rw [dWrong] at h
    exact absurd rfl h
  · exact ⟨g, rfl, hL, hE⟩

set_option maxRecDepth 100000 in
set_option maxHeartbeats 1000000 in
theorem latLives_any (w : World) : Calls Try.prog 11 #[] w (BoolPost true w) := by
  have HD := hide (dia_any w)
  have HB := hide dBuild_any
  have HJ := hide (fun (w : World) g (h : LatAt w g dWs dOs) => latJoin_any g dWs dOs w h (by decide) 1 2)
  have HM := hide (fun (w : World) g (h : LatAt w g dWs dOs) => latMeet_any g dWs dOs w h (by decide) 1 2)
  have HT := hide (fun (w : World) g (h : LatAt w g dWs dOs) => latTop_any g dWs dOs w h (by decide) dGood.lat)
  rw [show dWs.length = 4 from rfl] at HJ HM HT
  rw [dJoin] at HJ
  rw [dMeet] at HM
  rw [dTop] at HT
  go_enter Try.func11, Try.ntmps11
  go_wp2_with fail
  refine HD.out.mono ?_
  rintro e w1 ⟨gl, go, rfl, hl, ho, hE1⟩
  have HL := hide hl
  have HO := hide ho
  have HE1 := hide hE1
  clear hl ho hE1
  go_wp2_with fail
  refine (HB.out w1 gl go HL.out HO.out).mono ?_
  rintro e w2 ⟨g, rfl, hG, hE2⟩
  obtain ⟨w3, hw3⟩ : ∃ w3, w3 = w2.alloc (.cells #[.int .i64 0, .int .i64 0] 29) := ⟨_, rfl⟩
  have hE3 : Ext w2 w3 := by rw [hw3]; exact (Ext.rfl' w2).alloc (Nat.le_refl _) _
  have HG := hide (hG.ext hE3)
  have HE := hide ((HE1.out.trans' hE2).trans' hE3)
  have HW3 := hide hw3
  have hB : Blk w3 w2.heap.size 29 #[.int .i64 0, .int .i64 0] := by rw [hw3]; exact Blk.new _ _ _
  have b0 := hB.cell 0
  have b1 := hB.cell 1
  simp only [List.getElem?_toArray, List.getElem?_cons_zero, List.getElem?_cons_succ] at b0 b1
  have hq := run_eqIn_flt
  clear hG hE2 hE3 hw3 hB HL HO HE1
  unfold fltV
  go_wp2_with fail
  rw [← HW3.out]
  go_wp2_with fail
  refine (HJ.out _ _ HG.out).mono ?_
  rintro e w' ⟨rfl, rfl⟩
  go_wp2_with fail
  refine (HM.out _ _ HG.out).mono ?_
  rintro e w' ⟨rfl, rfl⟩
  go_wp2_with fail
  refine (HT.out _ _ HG.out).mono ?_
  rintro e w' ⟨rfl, rfl⟩
  go_wp2_with fail
  go_ret
  exact ⟨rfl, HE.out⟩
end Go.Proofs.Ytpjlhpaenmfieaa
