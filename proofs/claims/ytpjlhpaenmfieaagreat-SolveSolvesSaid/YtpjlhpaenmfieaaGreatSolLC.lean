/- The law SolveSolves, walked. -/
import Derived.Test.YtpjlhpaenmfieaaGreatSolZ
import Derived.Test.YtpjlhpaenmfieaaGreatSolS
import Derived.Test.YtpjlhpaenmfieaaGreatSolR
import Derived.Test.YtpjlhpaenmfieaaGreatSolPl
namespace Go.Proofs.YtpjlhpaenmfieaaGreat
open Go.RowKit

set_option maxRecDepth 100000 in
set_option maxHeartbeats 8000000 in
theorem solveSolves_any (A : Option Addr) (c n : Nat) (ws : List Wd) (A2 : Option Addr) (c2 m : Nat) (os : List (Wd × Wd)) (np : Int) (A5 : Option Addr) (c5 z : Nat) (rs : List Ru) (w : World) (h : WdsAt w w.heap.size A ws) (hsz : ∀ i, (wNm ws i).size ≤ maxLen) (hn : n = ws.length) (h2 : OdsAt w w.heap.size A2 os) (hm : m = os.length) (h5 : RlsAt w w.heap.size A5 rs) (hz : z = rs.length) :
    Calls Tryz.prog 6 #[.agg #[.slice A n c, .slice A2 m c2], .int .i64 np, .slice A5 z c5] w (BoolPost true w) := by
  obtain ⟨w0, hw0⟩ : ∃ w0, w0 = w.alloc (.cells #[.slice A n c, .slice A2 m c2] 56) := ⟨_, rfl⟩
  obtain ⟨gw, hgw⟩ : ∃ g, g = w.heap.size := ⟨_, rfl⟩
  have hB : Blk w0 gw 56 #[.slice A n c, .slice A2 m c2] := by rw [hw0, hgw]; exact Blk.new _ _ _
  have hE0 : Ext w w0 := by rw [hw0]; exact (Ext.rfl' w).alloc (Nat.le_refl _) _
  have HGr := hide (solGreat_any A c n ws A2 c2 m os w0 (h.ext hE0) hsz hn (h2.ext hE0) hm A5 c5 z)
  have HBd := hide (fun (w1 : World) (hE : Ext w w1) => build_any A c n ws A2 c2 m os w1 (h.ext hE) hsz hn (h2.ext hE) hm)
  have HLq := hide (fun (w1 : World) (hE : Ext w w1) (h64 : n ≤ 64) (h1000 : m ≤ 1000) (hok : okPs ws.length (prs ws os) = true) => refLeq_any A c n ws A2 c2 m os w1 (h.ext hE) hn h64 (h2.ext hE) hm h1000 hok)
  have HSO := hide (fun (w1 : World) (hE : Ext w w1) (g : Nat) (hL : LatAt w1 g ws os) (gd : GoodL ws os) (h60 : z ≤ 60) => solve_any g ws os np A5 c5 z rs w1 hL gd (h5.ext hE) hz (by omega))
  have HOW := hide (fun (w1 : World) (hE : Ext w w1) (h60 : z ≤ 60) => own44_any A5 c5 z rs w1 (h5.ext hE) hz (by omega))
  have HN := hide hn
  have HM := hide hm
  have HZ := hide hz
  have HBW := hide hB
  have w00 := hB.cell 0
  have w01 := hB.cell 1
  simp only [List.getElem?_toArray, List.getElem?_cons_zero, List.getElem?_cons_succ] at w00 w01
  have HW0 := hide hw0
  have HGW := hide hgw
  have HE0 := hide hE0
  have hq := run_eqIn_flt
  clear h h2 h5 hn hm hz hsz hB hw0 hgw hE0
  go_enter Tryz.func6, Tryz.ntmps6
  go_upto_region 1 with fail
  rw [← HW0.out, ← HGW.out]
  go_cut [25] (fun v wx => ∃ r : Bool, v = .bool r ∧ Hid (r = false → z ≤ 60 ∧ wrongL ws os = (0, 0)) ∧ Ext w0 wx)
  case first =>
    go_wp2_with fail
    refine HGr.out.mono ?_
    rintro e w1 ⟨r, rfl, hr, hE1⟩
    have HR := hide hr
    have HE1 := hide hE1
    clear hr hE1 w00 w01
    cases r with
    | true =>
      go_wp2_with fail
      go_meet
      exact ⟨true, rfl, (fun h => absurd h (by decide)), HE1.out⟩
    | false =>
      by_cases hb1 : (20 : Int) < np
      · by_cases hb2 : np ≤ 64
        · go_wp2_with fail
          go_meet
          exact ⟨true, rfl, (fun h => absurd h (by decide)), HE1.out⟩
        · have HB2 := hide hb2
          go_wp2_with fail
          go_meet
          exact ⟨false, congrArg Value.bool (decide_eq_false (Int.not_le.2 HB2.out)), (fun _ => HR.out (by trivial)), HE1.out⟩
      · go_wp2_with fail
        go_meet
        exact ⟨false, rfl, (fun _ => HR.out (by trivial)), HE1.out⟩
  case rest =>
    obtain ⟨r, rfl, HR, hE1⟩ := hcut
    obtain ⟨w1, hw1⟩ : ∃ w1, w1 = wc := ⟨_, rfl⟩
    rw [← hw1] at hE1 ⊢
    clear hw1
    have HE1 := hide (HE0.out.trans' hE1)
    have HBW1 := hide (HBW.out.ext hE1)
    clear hE1 HE0 HBW w00 w01
    cases r with
    | true =>
      go_wp2_with fail
      refine (solLives_any w1).mono ?_
      rintro e w2 ⟨rfl, hE2⟩
      go_wp2_with fail
      go_ret
      exact ⟨rfl, HE1.out.trans' hE2⟩
    | false =>
      obtain ⟨z60, hw0⟩ := HR.out rfl
      have gd := good_of (show (wrongL ws os).1 = 0 by rw [hw0])
      have HGD := hide gd
      have n64 : n ≤ 64 := by have := gd.few; rw [HN.out]; omega
      have m1000 : m ≤ 1000 := by have := gd.fewO; rw [HM.out]; omega
      have HWZ := hide hw0
      clear hw0 gd HR
      have w10 := HBW1.out.cell 0
      have w11 := HBW1.out.cell 1
      simp only [List.getElem?_toArray, List.getElem?_cons_zero, List.getElem?_cons_succ] at w10 w11
      go_wp2_with fail
      refine (HBd.out w1 HE1.out).mono ?_
      rintro e w2 (⟨hw, _, _⟩ | ⟨_, g, rfl, hL, hE2⟩)
      · exact absurd (by rw [HWZ.out]) hw
      rw [show fltV (0, 0) = .agg #[.int .i64 0, .int .i64 0] from rfl]
      obtain ⟨w3, hw3⟩ : ∃ w3, w3 = w2.alloc (.cells #[.int .i64 0, .int .i64 0] 31) := ⟨_, rfl⟩
      have hE23 : Ext w2 w3 := by rw [hw3]; exact (Ext.rfl' w2).alloc (Nat.le_refl _) _
      have HE3 := hide ((HE1.out.trans' hE2).trans' hE23)
      have HL3 := hide (hL.ext hE23)
      have HBW3 := hide (HBW1.out.ext (hE2.trans' hE23))
      have HW3 := hide hw3
      clear hw3 hE23 hE2 hL HE1 HBW1 w10 w11 HBd
      go_upto_region 4 with fail
      rw [← HW3.out]
      go_wp2_with fail
      refine (HSO.out w3 HE3.out g HL3.out HGD.out z60).mono ?_
      rintro e w5 ⟨y, f, Ay, cy, rfl, hNy, hE5, hA⟩
      obtain ⟨f1, f2⟩ := f
      have HA := hide hA
      obtain ⟨w6, hw6⟩ : ∃ w6, w6 = w5.alloc (.cells #[.int .i64 f1, .int .i64 f2] 31) := ⟨_, rfl⟩
      obtain ⟨g6, hg6⟩ : ∃ g6, g6 = w5.heap.size := ⟨_, rfl⟩
      have hV : Blk w6 g6 31 #[.int .i64 f1, .int .i64 f2] := by rw [hw6, hg6]; exact Blk.new _ _ _
      have hE36 : Ext w3 w6 := by rw [hw6]; exact hE5.alloc hE5.size _
      have hE56 : Ext w5 w6 := by rw [hw6]; exact (Ext.rfl' w5).alloc (Nat.le_refl _) _
      have HV := hide hV
      have HE6 := hide (HE3.out.trans' hE36)
      have hBW6 := HBW3.out.ext hE36
      have w60 := hBW6.cell 0
      have w61 := hBW6.cell 1
      simp only [List.getElem?_toArray, List.getElem?_cons_zero, List.getElem?_cons_succ] at w60 w61
      have HNy6 := hide (hNy.ext hE56)
      have HW6 := hide hw6
      have HG6 := hide hg6
      clear hA hw6 hg6 hV hE5 hE36 hE56 hNy HSO HBW3 HL3 HE3 hBW6
      unfold fltV
      go_upto_region 5 with fail
      rw [← HW6.out, ← HG6.out]
      go_wp2_with fail
      refine (HLq.out w6 HE6.out n64 m1000 (prs_ok HGD.out.found)).mono ?_
      rintro e w7 ⟨AM, cM, rfl, hAM, hE7⟩
      obtain ⟨M, hM⟩ : ∃ M, M = leads ws.length (prs ws os) := ⟨_, rfl⟩
      have HSQ := hide (leads_sq ws.length (prs ws os))
      have HLE := hide (leads_length ws.length (prs ws os))
      have HMT := hide (show mat (leads ws.length (prs ws os)) = leqL ws os from rfl)
      rw [← hM] at hAM HSQ HLE HMT
      have HAM := hide hAM
      have HE7 := hide (HE6.out.trans' hE7)
      have HV7 := hide (HV.out.ext hE7)
      have HNy7 := hide (HNy6.out.ext hE7)
      rw [← HN.out]
      clear hAM hE7 hM HLq w60 w61 HV HNy6 HE6
      go_wp2_with fail
      refine (HOW.out w7 HE7.out z60).mono ?_
      rintro e w8 ⟨AR, cR, rfl, hAR, hE8⟩
      rw [← HZ.out]
      have HE8 := hide (HE7.out.trans' hE8)
      have HV8 := hide (HV7.out.ext hE8)
      have HNy8 := hide (HNy7.out.ext hE8)
      have HRS := hide (refSolve_any AM cM n M ws os np AR cR z rs w8 (HAM.out.below hE8 hE8.size) HSQ.out (by rw [HLE.out, HN.out]) n64 HN.out HMT.out HGD.out.lat hAR HZ.out (by omega))
      clear hAR hE8 HE7 HV7 HNy7 HOW
      go_wp2_with fail
      refine HRS.out.mono ?_
      rintro e w9 ⟨y', f', Az, cz, rfl, hNz, hE9, hA'⟩
      obtain ⟨rfl, rfl⟩ := HA.out.one HGD.out.lat.po hA'
      obtain ⟨w10, hw10⟩ : ∃ w6, w6 = w9.alloc (.cells #[.int .i64 f1, .int .i64 f2] 31) := ⟨_, rfl⟩
      obtain ⟨g10, hg10⟩ : ∃ g6, g6 = w9.heap.size := ⟨_, rfl⟩
      have hV : Blk w10 g10 31 #[.int .i64 f1, .int .i64 f2] := by rw [hw10, hg10]; exact Blk.new _ _ _
      have hE910 : Ext w9 w10 := by rw [hw10]; exact (Ext.rfl' w9).alloc (Nat.le_refl _) _
      have HVz := hide hV
      have HE10 := hide ((HE8.out.trans' hE9).trans' hE910)
      have HV10 := hide (HV8.out.ext (hE9.trans' hE910))
      have HNy10 := hide (HNy8.out.ext (hE9.trans' hE910))
      have HNz10 := hide (hNz.ext hE910)
      have hyl : y.length ≤ 1000000 := by
        have hA1 := HA.out
        rcases hA1 with ⟨_, _, h3⟩ | ⟨h1, x, hx, ⟨_, h4⟩ | ⟨_, _, rfl⟩⟩
        · rw [h3]; exact Nat.zero_le _
        · rw [h4]; exact Nat.zero_le _
        · have := hx.len
          obtain ⟨_, n0, n6, _, _⟩ := solBad_ok h1
          omega
      have HW10 := hide hw10
      have HG10 := hide hg10
      clear hA' hw10 hg10 hV hE9 hE910 hNz HE8 HV8 HNy8 HRS
      unfold fltV
      go_upto_region 6 with fail
      rw [← HW10.out, ← HG10.out]
      go_wp2_with fail
      refine (solve_nil np A5 c5 z w10).mono ?_
      rintro e w11 ⟨rfl, hE11⟩
      obtain ⟨w12, hw12⟩ : ∃ w6, w6 = w11.alloc (.cells #[.int .i64 1, .int .i64 0] 31) := ⟨_, rfl⟩
      obtain ⟨g12, hg12⟩ : ∃ g6, g6 = w11.heap.size := ⟨_, rfl⟩
      have hV : Blk w12 g12 31 #[.int .i64 1, .int .i64 0] := by rw [hw12, hg12]; exact Blk.new _ _ _
      have hE1012 : Ext w10 w12 := by rw [hw12]; exact hE11.alloc hE11.size _
      have HE12 := hide (HE10.out.trans' hE1012)
      have HV12 := hide (HV10.out.ext hE1012)
      have HVz12 := hide (HVz.out.ext hE1012)
      have HVn := hide hV
      have HNy12 := hide (HNy10.out.ext hE1012).ints
      have HNz12 := hide (HNz10.out.ext hE1012).ints
      have HW12 := hide hw12
      have HG12 := hide hg12
      clear hw12 hg12 hV hE11 hE1012 HE10 HV10 HVz HNy10 HNz10
      unfold fltV
      go_upto_region 7 with fail
      rw [← HW12.out, ← HG12.out]
      go_wp2_with fail
      refine (same_any Ay cy y.length (y.map fun (v : Nat) => (v : Int)) Az cz y.length (y.map fun (v : Nat) => (v : Int)) w12 HNy12.out (by rw [List.length_map]) (by omega) HNz12.out (by rw [List.length_map]) (by omega)).mono ?_
      rintro e w13 ⟨rfl, hE13⟩
      rw [show decide ((y.map fun (v : Nat) => (v : Int)) = (y.map fun (v : Nat) => (v : Int))) = true from decide_eq_true rfl]
      have hVa := HV12.out.ext hE13
      have hVb := HVz12.out.ext hE13
      have hVc := HVn.out.ext hE13
      have a0 := hVa.cell 0
      have a1 := hVa.cell 1
      have b0 := hVb.cell 0
      have b1 := hVb.cell 1
      have c0 := hVc.cell 0
      have c1 := hVc.cell 1
      simp only [List.getElem?_toArray, List.getElem?_cons_zero, List.getElem?_cons_succ] at a0 a1 b0 b1 c0 c1
      have HE13 := hide (HE12.out.trans' hE13)
      have hf1 : (f1 == f1) = true := by simp
      have hf2 : (f2 == f2) = true := by simp
      clear hVa hVb hVc hE13 HV12 HVz12 HVn HNy12 HNz12 HE12
      go_wp2_with fail
      refine (solLives_any w13).mono ?_
      rintro e w14 ⟨rfl, hE14⟩
      have HE14 := hide (HE13.out.trans' hE14)
      clear hE14
      go_wp2_with fail
      go_ret
      exact ⟨rfl, HE14.out⟩
end Go.Proofs.YtpjlhpaenmfieaaGreat
