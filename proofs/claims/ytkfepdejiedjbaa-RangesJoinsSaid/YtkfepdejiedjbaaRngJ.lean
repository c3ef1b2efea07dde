/- RangesJoins: the walk. -/
import Derived.Test.YtkfepdejiedjbaaRngI
namespace Go.Proofs.Ytkfepdejiedjbaa
open Go.RowKit

set_option maxRecDepth 100000 in
set_option maxHeartbeats 2000000 in
theorem joinsA (A : Option Addr) (c : Nat) (a : List (Int × Int)) (A2 : Option Addr) (c2 : Nat) (b : List (Int × Int)) (w : World) (h : RngAt w w.heap.size A a) (h2 : RngAt w w.heap.size A2 b) (hl : a.length ≤ 9223372036854775807) (hl2 : b.length ≤ 9223372036854775807) (h32 : in32 a) (h322 : in32 b) :
    Calls Try.prog 7 #[.slice A a.length c, .slice A2 b.length c2] w (fun e w' => e = .returned (.bool true) ∧ Ext w w') := by
  have H32 := hide h32
  have H322 := hide h322
  clear h32 h322
  have fin : Calls Try.prog 33 #[] w (fun e w' => e = .returned (.bool true) ∧ Ext w w') := lives2_any w
  have FIN := hide fin
  clear fin
  by_cases hbig : a.length ≤ 80
  · by_cases hbig2 : b.length ≤ 80
    · have HA := hide h
      have HB := hide h2
      obtain ⟨N, hN⟩ : ∃ N, N = a.length := ⟨_, rfl⟩
      obtain ⟨M, hM⟩ : ∃ M, M = b.length := ⟨_, rfl⟩
      rw [← hN] at hbig ⊢
      rw [← hM] at hbig2 ⊢
      have HN := hide hN
      have HM := hide hM
      clear h h2 hN hM hl hl2
      go_enter Try.func7, Try.ntmps7
      go_wp2_with fail
      refine (newQ a HA.out (by rw [← HN.out]; omega) HN.out).mono ?_
      rintro e x1 ⟨A3, c3, n3, s, rfl, hS, hE⟩
      have HX1 := hide hE
      have HS1 := hide hS
      clear hE hS
      go_wp2_with fail
      refine (newQ b (HB.out.ext HX1.out) (by rw [← HM.out]; omega) HM.out).mono ?_
      rintro e x2 ⟨A4, c4, n4, t, rfl, hS, hE⟩
      have HX2 := hide (HX1.out.trans' hE)
      have HS := hide (HS1.out.ext hE)
      have HT := hide hS
      clear hE hS
      go_upto_region 4 with fail
      obtain ⟨W, hW⟩ : ∃ W, W = (x2.alloc (.cells #[.slice A3 n3 c3] 49)).alloc (.cells #[.slice A4 n4 c4] 49) := ⟨_, rfl⟩
      rw [← hW]
      have hE : Ext x2 W := by rw [hW]; exact ((Ext.rfl' _).alloc (Nat.le_refl _) _).alloc (by simp) _
      have HX := hide (HX2.out.trans' hE)
      have HSW := hide (HS.out.ext hE)
      have HTW := hide (HT.out.ext hE)
      have HB5 := hide (by rw [hW]; exact (Blk.new _ _ _).alloc _ : Blk W x2.heap.size 49 #[.slice A3 n3 c3])
      have HB6 := hide (by rw [hW]; exact Blk.new_at _ _ _ (by simp) : Blk W (x2.heap.size + 1) 49 #[.slice A4 n4 c4])
      have HAW := hide (HA.out.ext HX.out)
      have HBW := hide (HB.out.ext HX.out)
      have HY0 := hide (Ext.rfl' W)
      clear hE hW
      have b5 := (HB5.out.ext HY0.out).cell 0
      have b6 := (HB6.out.ext HY0.out).cell 0
      simp only [List.getElem?_toArray, List.getElem?_cons_zero] at b5 b6
      go_wp2_with fail
      refine (joinQ (HSW.out.ext HY0.out) (HTW.out.ext HY0.out)).mono ?_
      rintro e ya0 ⟨Aa0, ca0, na0, o0, rfl, hS, hE⟩
      have HYa0 := hide (HY0.out.trans' hE)
      have HSa0 := hide hS
      clear hE hS b5 b6
      go_wp2_with fail
      refine (rangesQ HSa0.out).mono ?_
      rintro e yb0 ⟨Ab0, cb0, rfl, hR, hE⟩
      have HYb0 := hide (HYa0.out.trans' hE)
      have HRb0 := hide hR
      clear hE hR
      go_wp2_with fail
      refine (refQ a b 1 (HAW.out.ext HYb0.out) (HBW.out.ext HYb0.out) (by rw [← HN.out]; omega) (by rw [← HM.out]; omega) H32.out H322.out HN.out HM.out HSa0.out.canon (fun r => (HSa0.out.mem r).trans (by simp [kindL])) HSa0.out.len).mono ?_
      rintro e yc0 ⟨Ac0, cc0, rfl, hR, hE⟩
      have HYc0 := hide (HYb0.out.trans' hE)
      have HRc0 := hide hR
      have HRd0 := hide (HRb0.out.ext hE)
      clear hE hR
      go_wp2_with fail
      refine (sameQ HRd0.out HRc0.out HSa0.out.len HSa0.out.most).mono ?_
      rintro e yd0 ⟨rfl, hE⟩
      have HY1 := hide (HYc0.out.trans' hE)
      clear hE
      have b5 := (HB5.out.ext HY1.out).cell 0
      have b6 := (HB6.out.ext HY1.out).cell 0
      simp only [List.getElem?_toArray, List.getElem?_cons_zero] at b5 b6
      go_wp2_with fail
      refine (bothQ (HSW.out.ext HY1.out) (HTW.out.ext HY1.out)).mono ?_
      rintro e ya1 ⟨Aa1, ca1, na1, o1, rfl, hS, hE⟩
      have HYa1 := hide (HY1.out.trans' hE)
      have HSa1 := hide hS
      clear hE hS b5 b6
      go_wp2_with fail
      refine (rangesQ HSa1.out).mono ?_
      rintro e yb1 ⟨Ab1, cb1, rfl, hR, hE⟩
      have HYb1 := hide (HYa1.out.trans' hE)
      have HRb1 := hide hR
      clear hE hR
      go_wp2_with fail
      refine (refQ a b 2 (HAW.out.ext HYb1.out) (HBW.out.ext HYb1.out) (by rw [← HN.out]; omega) (by rw [← HM.out]; omega) H32.out H322.out HN.out HM.out HSa1.out.canon (fun r => (HSa1.out.mem r).trans (by simp [kindL])) HSa1.out.len).mono ?_
      rintro e yc1 ⟨Ac1, cc1, rfl, hR, hE⟩
      have HYc1 := hide (HYb1.out.trans' hE)
      have HRc1 := hide hR
      have HRd1 := hide (HRb1.out.ext hE)
      clear hE hR
      go_wp2_with fail
      refine (sameQ HRd1.out HRc1.out HSa1.out.len HSa1.out.most).mono ?_
      rintro e yd1 ⟨rfl, hE⟩
      have HY2 := hide (HYc1.out.trans' hE)
      clear hE
      have b5 := (HB5.out.ext HY2.out).cell 0
      have b6 := (HB6.out.ext HY2.out).cell 0
      simp only [List.getElem?_toArray, List.getElem?_cons_zero] at b5 b6
      go_wp2_with fail
      refine (lessQ (HSW.out.ext HY2.out) (HTW.out.ext HY2.out)).mono ?_
      rintro e ya2 ⟨Aa2, ca2, na2, o2, rfl, hS, hE⟩
      have HYa2 := hide (HY2.out.trans' hE)
      have HSa2 := hide hS
      clear hE hS b5 b6
      go_wp2_with fail
      refine (rangesQ HSa2.out).mono ?_
      rintro e yb2 ⟨Ab2, cb2, rfl, hR, hE⟩
      have HYb2 := hide (HYa2.out.trans' hE)
      have HRb2 := hide hR
      clear hE hR
      go_wp2_with fail
      refine (refQ a b 3 (HAW.out.ext HYb2.out) (HBW.out.ext HYb2.out) (by rw [← HN.out]; omega) (by rw [← HM.out]; omega) H32.out H322.out HN.out HM.out HSa2.out.canon (fun r => (HSa2.out.mem r).trans (by simp [kindL])) HSa2.out.len).mono ?_
      rintro e yc2 ⟨Ac2, cc2, rfl, hR, hE⟩
      have HYc2 := hide (HYb2.out.trans' hE)
      have HRc2 := hide hR
      have HRd2 := hide (HRb2.out.ext hE)
      clear hE hR
      go_wp2_with fail
      refine (sameQ HRd2.out HRc2.out HSa2.out.len HSa2.out.most).mono ?_
      rintro e yd2 ⟨rfl, hE⟩
      have HY3 := hide (HYc2.out.trans' hE)
      clear hE
      go_wp2_with fail
      refine (lives2_any _).mono ?_
      rintro e ye ⟨rfl, hE⟩
      have HZ := hide (HX.out.trans' (HY3.out.trans' hE))
      clear hE
      go_wp2_with fail
      go_ret
      exact ⟨rfl, HZ.out⟩
    · go_enter Try.func7, Try.ntmps7
      go_wp2_with fail
      refine FIN.out.mono ?_
      rintro e ye ⟨rfl, hE⟩
      have HZ := hide hE
      clear hE
      go_wp2_with fail
      go_ret
      exact ⟨rfl, HZ.out⟩
  · go_enter Try.func7, Try.ntmps7
    go_wp2_with fail
    refine FIN.out.mono ?_
    rintro e ye ⟨rfl, hE⟩
    have HZ := hide hE
    clear hE
    go_wp2_with fail
    go_ret
    exact ⟨rfl, HZ.out⟩
end Go.Proofs.Ytkfepdejiedjbaa
