/- The law LabelsJoin, walked: the whole. -/
import Derived.Test.YtpjlhpaenmfieaaGreatLabG
namespace Go.Proofs.YtpjlhpaenmfieaaGreat
open Go.RowKit

set_option maxRecDepth 100000 in
set_option maxHeartbeats 4000000 in
theorem labJoin_any (A : Option Addr) (c n : Nat) (ws : List Wd) (A2 : Option Addr) (c2 m : Nat) (os : List (Wd × Wd)) (A3 : Option Addr) (c3 q : Nat) (us : List Wd) (ob : Int) (w : World) (h : WdsAt w w.heap.size A ws) (hsz : ∀ i, (wNm ws i).size ≤ maxLen) (hn : n = ws.length) (h2 : OdsAt w w.heap.size A2 os) (hm : m = os.length) (h3 : WdsAt w w.heap.size A3 us) (hq3 : q = us.length) (hq' : q ≤ 9223372036854775807) :
    Calls Tryz.prog 5 #[.agg #[.slice A n c, .slice A2 m c2], .slice A3 q c3, .int .i64 ob] w (BoolPost true w) := by
  obtain ⟨w0, hw0⟩ : ∃ w0, w0 = w.alloc (.cells #[.slice A n c, .slice A2 m c2] 25) := ⟨_, rfl⟩
  obtain ⟨gw, hgw⟩ : ∃ g, g = w.heap.size := ⟨_, rfl⟩
  have hB : Blk w0 gw 25 #[.slice A n c, .slice A2 m c2] := by rw [hw0, hgw]; exact Blk.new _ _ _
  have hE0 : Ext w w0 := by rw [hw0]; exact (Ext.rfl' w).alloc (Nat.le_refl _) _
  have HGr := hide (labGreat_any A c n ws A2 c2 m os w0 (h.ext hE0) hsz hn (h2.ext hE0) hm)
  have HBd := hide (fun (w1 : World) (hE : Ext w w1) => build_any A c n ws A2 c2 m os w1 (h.ext hE) hsz hn (h2.ext hE) hm)
  have HLq := hide (fun (w1 : World) (hE : Ext w w1) (h64 : n ≤ 64) (h1000 : m ≤ 1000) (hok : okPs ws.length (prs ws os) = true) => refLeq_any A c n ws A2 c2 m os w1 (h.ext hE) hn h64 (h2.ext hE) hm h1000 hok)
  have HOf := hide (fun (w1 : World) (hE : Ext w w1) (g : Nat) (hL : LatAt w1 g ws os) (h32 : ws.length ≤ 32) (hlat : LatM.Lat ws.length (leqL ws os)) => labOf_any g ws os A3 c3 q us w1 hL h32 hlat (h3.ext hE) hq3 hq')
  have HSe := hide (fun (w1 : World) (hE : Ext w w1) (g : Nat) (hL : LatAt w1 g ws os) (h32 : ws.length ≤ 32) (hlat : LatM.Lat ws.length (leqL ws os)) (hok : okPs ws.length (prs ws os) = true) => labSees_any g ws os A3 c3 q us ob w1 hL h32 hlat hok (h3.ext hE) hq3 hq')
  have HRf := hide (fun (w1 : World) (hE : Ext w w1) (A4 : Option Addr) (c4 : Nat) (M : List (List Bool)) (hM : MatAt w1 w1.heap.size A4 M) (hsq : ∀ r ∈ M, r.length = M.length) (hMl : n = M.length) (hmat : mat M = leqL ws os) (hlat : LatM.Lat ws.length (leqL ws os)) (h64 : n ≤ 64) (hq1 : q ≤ 1000000) => refOf_any A c n ws os A4 c4 M A3 c3 q us w1 (h.ext hE) hn h64 hM hsq hMl hmat hlat (h3.ext hE) hq3 hq1)
  have HN := hide hn
  have HM := hide hm
  have HBW := hide hB
  have HW0 := hide hw0
  have HGW := hide hgw
  have HE0 := hide hE0
  have w00 := hB.cell 0
  have w01 := hB.cell 1
  simp only [List.getElem?_toArray, List.getElem?_cons_zero, List.getElem?_cons_succ] at w00 w01
  clear h h2 h3 hn hm hq3 hsz hB hw0 hgw hE0
  go_enter Tryz.func5, Tryz.ntmps5
  go_upto_region 1 with fail
  rw [← HW0.out, ← HGW.out]
  go_wp2_with fail
  refine HGr.out.mono ?_
  rintro e w1 ⟨r, rfl, hr, hE1⟩
  have HE1 := hide (HE0.out.trans' hE1)
  have HBW1 := hide (HBW.out.ext hE1)
  have HR := hide hr
  clear hr hE1 HE0 HBW w00 w01
  cases r with
  | true =>
    go_wp2_with fail
    refine (labLives_any w1).mono ?_
    rintro e w2 ⟨rfl, hE2⟩
    go_wp2_with fail
    go_ret
    exact ⟨rfl, HE1.out.trans' hE2⟩
  | false =>
    have hw0 := HR.out rfl
    have gd := good_of (show (wrongL ws os).1 = 0 by rw [hw0])
    have HGD := hide gd
    have n64 : n ≤ 64 := by have := gd.few; rw [HN.out]; omega
    have m1000 : m ≤ 1000 := by have := gd.fewO; rw [HM.out]; omega
    have HWZ := hide hw0
    clear hw0 gd HR
    by_cases hq1 : (100 : Int) < (q : Int)
    · go_wp2_with fail
      refine (labLives_any w1).mono ?_
      rintro e w2 ⟨rfl, hE2⟩
      go_wp2_with fail
      go_ret
      exact ⟨rfl, HE1.out.trans' hE2⟩
    · have w10 := HBW1.out.cell 0
      have w11 := HBW1.out.cell 1
      simp only [List.getElem?_toArray, List.getElem?_cons_zero, List.getElem?_cons_succ] at w10 w11
      go_wp2_with fail
      refine (HBd.out w1 HE1.out).mono ?_
      rintro e w2 (⟨hw, _, _⟩ | ⟨_, g, rfl, hL, hE2⟩)
      · exact absurd (by rw [HWZ.out]) hw
      rw [show fltV (0, 0) = .agg #[.int .i64 0, .int .i64 0] from rfl]
      obtain ⟨w3, hw3⟩ : ∃ w3, w3 = w2.alloc (.cells #[.int .i64 0, .int .i64 0] 31) := ⟨_, rfl⟩
      have hE23 : Ext w2 w3 := by rw [hw3]; exact (Ext.rfl' w2).alloc (Nat.le_refl _) _
      have HE3 := hide ((HE1.out.trans' hE2).trans' hE23)
      have HL3 := hide (hL.ext hE23)
      have hBW3 := HBW1.out.ext (hE2.trans' hE23)
      have HBW3 := hide hBW3
      have w30 := hBW3.cell 0
      have w31 := hBW3.cell 1
      simp only [List.getElem?_toArray, List.getElem?_cons_zero, List.getElem?_cons_succ] at w30 w31
      have HW3 := hide hw3
      clear hw3 hE23 hE2 hL HE1 HBW1 w10 w11 hBW3 HBd
      go_upto_region 4 with fail
      rw [← HW3.out]
      go_wp2_with fail
      refine (HLq.out w3 HE3.out n64 m1000 (prs_ok HGD.out.found)).mono ?_
      rintro e w4 ⟨A4, c4, rfl, hA, hE4⟩
      obtain ⟨M, hM⟩ : ∃ M, M = leads ws.length (prs ws os) := ⟨_, rfl⟩
      have HSQ := hide (leads_sq ws.length (prs ws os))
      have HLE := hide (leads_length ws.length (prs ws os))
      have HMT := hide (show mat (leads ws.length (prs ws os)) = leqL ws os from rfl)
      rw [← hM] at hA HSQ HLE HMT
      have HA4 := hide hA
      have HE4 := hide (HE3.out.trans' hE4)
      have HL4 := hide (HL3.out.ext hE4)
      have HBW4 := hide (HBW3.out.ext hE4)
      clear hA hE4 hM HE3 HL3 HBW3 HLq w30 w31
      rw [← HN.out]
      go_wp2_with fail
      refine (HOf.out w4 HE4.out g HL4.out HGD.out.few HGD.out.lat).mono ?_
      rintro e w5 ⟨rfl, hE5⟩
      obtain ⟨v, hv⟩ : ∃ v, v = ofI ws os us := ⟨_, rfl⟩
      obtain ⟨f1, hf1⟩ : ∃ f, f = (ofF ws us).1 := ⟨_, rfl⟩
      obtain ⟨f2, hf2⟩ : ∃ f, f = (ofF ws us).2 := ⟨_, rfl⟩
      have eF : fltV (ofF ws us) = .agg #[.int .i64 f1, .int .i64 f2] := by rw [hf1, hf2]; rfl
      rw [← hv, eF]
      obtain ⟨w6, hw6⟩ : ∃ w6, w6 = w5.alloc (.cells #[.int .i64 f1, .int .i64 f2] 31) := ⟨_, rfl⟩
      obtain ⟨ga, hga⟩ : ∃ g, g = w5.heap.size := ⟨_, rfl⟩
      have hE46 : Ext w4 w6 := by rw [hw6]; exact hE5.alloc hE5.size _
      have HBA := hide (show Blk w6 ga 31 #[.int .i64 f1, .int .i64 f2] by rw [hw6, hga]; exact Blk.new _ _ _)
      have HE6 := hide (HE4.out.trans' hE46)
      have HL6 := hide (HL4.out.ext hE46)
      have hBW6 := HBW4.out.ext hE46
      have HBW6 := hide hBW6
      have HA6 := hide (HA4.out.below hE46 hE46.size)
      have w60 := hBW6.cell 0
      have w61 := hBW6.cell 1
      simp only [List.getElem?_toArray, List.getElem?_cons_zero, List.getElem?_cons_succ] at w60 w61
      have HW6 := hide hw6
      have HGA := hide hga
      have HV := hide hv
      have HF1 := hide hf1
      have HF2 := hide hf2
      have HEF := hide eF
      clear hw6 hga hE46 hE5 hBW6 HE4 HL4 HBW4 HA4 hv hf1 hf2 eF HOf
      go_upto_region 6 with fail
      rw [← HW6.out, ← HGA.out]
      go_wp2_with fail
      refine (HRf.out w6 HE6.out A4 c4 M HA6.out HSQ.out (by rw [HLE.out, HN.out]) HMT.out HGD.out.lat n64 (by omega)).mono ?_
      rintro e w7 ⟨rfl, hE7⟩
      rw [← HV.out, HEF.out]
      obtain ⟨w8, hw8⟩ : ∃ w8, w8 = w7.alloc (.cells #[.int .i64 f1, .int .i64 f2] 31) := ⟨_, rfl⟩
      obtain ⟨gb, hgb⟩ : ∃ g, g = w7.heap.size := ⟨_, rfl⟩
      have hE68 : Ext w6 w8 := by rw [hw8]; exact hE7.alloc hE7.size _
      have HBB := hide (show Blk w8 gb 31 #[.int .i64 f1, .int .i64 f2] by rw [hw8, hgb]; exact Blk.new _ _ _)
      have HBA8 := hide (HBA.out.ext hE68)
      have HE8 := hide (HE6.out.trans' hE68)
      have HL8 := hide (HL6.out.ext hE68)
      have HA8 := hide (HA6.out.below hE68 hE68.size)
      have HW8 := hide hw8
      have HGB := hide hgb
      clear hw8 hgb hE68 hE7 HBA HE6 HL6 HBW6 HA6 w60 w61 HRf
      go_upto_region 7 with fail
      rw [← HW8.out, ← HGB.out]
      go_wp2_with fail
      refine (labOf_nil A3 c3 q w8).mono ?_
      rintro e w9 ⟨rfl, hE9⟩
      rw [show fltV (1, 0) = .agg #[.int .i64 1, .int .i64 0] from rfl]
      obtain ⟨w10, hw10⟩ : ∃ w10, w10 = w9.alloc (.cells #[.int .i64 1, .int .i64 0] 31) := ⟨_, rfl⟩
      obtain ⟨gc, hgc⟩ : ∃ g, g = w9.heap.size := ⟨_, rfl⟩
      have hE810 : Ext w8 w10 := by rw [hw10]; exact hE9.alloc hE9.size _
      have HBC := hide (show Blk w10 gc 31 #[.int .i64 1, .int .i64 0] by rw [hw10, hgc]; exact Blk.new _ _ _)
      have HBA10 := hide (HBA8.out.ext hE810)
      have HBB10 := hide (HBB.out.ext hE810)
      have HE10 := hide (HE8.out.trans' hE810)
      have HL10 := hide (HL8.out.ext hE810)
      have HA10 := hide (HA8.out.below hE810 hE810.size)
      have HW10 := hide hw10
      have HGC := hide hgc
      clear hw10 hgc hE810 hE9 HBA8 HBB HE8 HL8 HA8
      go_upto_region 8 with fail
      rw [← HW10.out, ← HGC.out]
      obtain ⟨S, hS⟩ : ∃ S, S = ((f1 == 0) && leqI ws os v ob) := ⟨_, rfl⟩
      have HS := hide hS
      clear hS
      have b0 := HBB10.out.cell 0
      have b1 := HBB10.out.cell 1
      simp only [List.getElem?_toArray, List.getElem?_cons_zero, List.getElem?_cons_succ] at b0 b1
      go_cut [16] (fun x wx => x = .bool S ∧ Ext w10 wx)
      case first =>
        by_cases hf0 : f1 = 0
        · obtain ⟨t, ht, hvt⟩ := ofF_zero (us := us) (os := os) HGD.out.lat (by rw [← HF1.out]; exact hf0)
          rw [← HV.out] at hvt
          subst hf0
          subst hvt
          rcases hasI_cases n ob with ⟨u, rfl, hu⟩ | ho
          · have htn : t < n := by rw [HN.out]; exact ht
            have hSe : S = leqL ws os t u := by
              rw [HS.out]
              unfold leqI
              rw [← HN.out, hasI_nat htn, hasI_nat hu, Int.toNat_natCast, Int.toNat_natCast]
              simp
            have hMr := HA10.out.form HSQ.out (by rw [HLE.out, ← HN.out]; omega)
            rw [HLE.out, ← HN.out, HMT.out] at hMr
            obtain ⟨bl, ol, rfl, _, hrows⟩ := hMr
            obtain ⟨bk, ok, ck, r1, _, r2⟩ := hrows t htn
            have r3 := r2 u hu
            rw [← hSe] at r3
            have k1 : (u : Int).tmod (n : Int) = (u : Int) := by rw [Int.tmod_eq_emod_of_nonneg (by omega)]; exact Int.emod_eq_of_lt (by omega) (by omega)
            have k2 : (u : Int) % (n : Int) = (u : Int) := Int.emod_eq_of_lt (by omega) (by omega)
            have k3 : ((n : Int) == 0) = false := by rw [beq_eq_false_iff_ne]; omega
            have i0 : (0 : Int) ≤ (u : Int) := by omega
            have i1 : (u : Int) < (n : Int) := by omega
            have i2 : (0 : Int) ≤ (t : Int) := by omega
            have i3 : (t : Int) < (n : Int) := by omega
            clear hrows r2 hSe ht htn hu
            go_quiet (fail)
            go_wp2_with fail
            go_meet
            exact ⟨rfl, below_drewN (Ext.rfl' _) _⟩
          · have hSe : S = false := by
              rw [HS.out]
              unfold leqI
              rw [← HN.out, hasI_out ho]
              simp
            subst hSe
            by_cases h0 : ob < 0
            · have h0' : ¬ (0 ≤ ob) := by omega
              clear ho ht
              go_quiet (fail)
              go_wp2_with fail
              go_meet
              exact ⟨rfl, below_drewN (Ext.rfl' _) _⟩
            · have h0' : 0 ≤ ob := by omega
              have h1' : ¬ (ob < (n : Int)) := by omega
              clear ho ht h0
              go_quiet (fail)
              go_wp2_with fail
              go_meet
              exact ⟨rfl, below_drewN (Ext.rfl' _) _⟩
        · have hf : (f1 == 0) = false := by simpa using hf0
          have hSe : S = false := by rw [HS.out, hf]; rfl
          subst hSe
          clear hf0
          go_quiet (fail)
          go_wp2_with fail
          go_meet
          exact ⟨rfl, below_drewN (Ext.rfl' _) _⟩
      case rest =>
        obtain ⟨rfl, hEc⟩ := hcut
        have a0 := (HBA10.out.ext hEc).cell 0
        have a1 := (HBA10.out.ext hEc).cell 1
        have b0 := (HBB10.out.ext hEc).cell 0
        have b1 := (HBB10.out.ext hEc).cell 1
        have d0 := (HBC.out.ext hEc).cell 0
        have d1 := (HBC.out.ext hEc).cell 1
        simp only [List.getElem?_toArray, List.getElem?_cons_zero, List.getElem?_cons_succ] at a0 a1 b0 b1 d0 d1
        have HEc := hide (HE10.out.trans' hEc)
        have HLc := hide (HL10.out.ext hEc)
        have hs := HSe.out wc HEc.out g HLc.out HGD.out.few HGD.out.lat (prs_ok HGD.out.found)
        rw [← HF1.out, ← HV.out, ← HS.out] at hs
        have HSS := hide hs
        have hq := run_eqIn_flt
        clear hEc hs HE10 HL10 HSe
        go_wp2_with fail
        refine HSS.out.mono ?_
        rintro e w11 ⟨rfl, hE11⟩
        have HE11 := hide (HEc.out.trans' hE11)
        clear hE11 a0 a1 b0 b1 d0 d1 hq
        go_wp2_with fail
        refine (labSees_nil A3 c3 q ob w11).mono ?_
        rintro e w12 ⟨rfl, hE12⟩
        have HE12 := hide (HE11.out.trans' hE12)
        clear hE12
        go_wp2_with fail
        refine (labLives_any w12).mono ?_
        rintro e w13 ⟨rfl, hE13⟩
        have HE13 := hide (HE12.out.trans' hE13)
        clear hE13
        go_wp2_with fail
        go_ret
        exact ⟨rfl, HE13.out⟩
end Go.Proofs.YtpjlhpaenmfieaaGreat
