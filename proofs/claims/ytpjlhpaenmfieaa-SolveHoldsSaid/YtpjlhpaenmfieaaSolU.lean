/- The law SolveHolds, walked. (Printed by wip/gen_sholds.py.) -/
import Derived.Test.YtpjlhpaenmfieaaSolQ
import Derived.Test.YtpjlhpaenmfieaaSolR
import Derived.Test.YtpjlhpaenmfieaaSolO
namespace Go.Proofs.Ytpjlhpaenmfieaa
open Go.RowKit

theorem holdsI_out {ws : List Wd} {os : List (Wd × Wd)} {x : List Int} {r : Ru} (h : ¬ (0 ≤ hiR x r) ∨ ¬ hiR x r < ws.length ∨ ¬ (0 ≤ loR x r) ∨ ¬ loR x r < ws.length) : holdsR ws os x r = false := by
  unfold holdsR leqI
  rcases h with h | h | h | h
  · rw [hasI_out (i := hiR x r) (by omega)]; simp
  · rw [hasI_out (i := hiR x r) (by omega)]; simp
  · rw [hasI_out (i := loR x r) (by omega)]; simp
  · rw [hasI_out (i := loR x r) (by omega)]; simp

set_option maxRecDepth 100000 in
set_option maxHeartbeats 8000000 in
theorem solveHolds_any (A : Option Addr) (c n : Nat) (ws : List Wd) (A2 : Option Addr) (c2 m : Nat) (os : List (Wd × Wd)) (A3 : Option Addr) (c3 p : Nat) (x : List Int) (k a b : Int) (w : World) (h : WdsAt w w.heap.size A ws) (hsz : ∀ i, (wNm ws i).size ≤ maxLen) (hn : n = ws.length) (h2 : OdsAt w w.heap.size A2 os) (hm : m = os.length) (h3 : IntAt w w.heap.size A3 x) (hp : p = x.length) (hp' : p ≤ 9223372036854775807) :
    Calls Try.prog 7 #[.agg #[.slice A n c, .slice A2 m c2], .slice A3 p c3, .agg #[.int .i64 k, .int .i64 a, .int .i64 b]] w (BoolPost true w) := by
  obtain ⟨w0, hw0⟩ : ∃ w0, w0 = (w.alloc (.cells #[.slice A n c, .slice A2 m c2] 58)).alloc (.cells #[.int .i64 k, .int .i64 a, .int .i64 b] 60) := ⟨_, rfl⟩
  have hB : Blk w0 w.heap.size 58 #[.slice A n c, .slice A2 m c2] := by rw [hw0]; exact (Blk.new _ _ _).alloc _
  have hBR : Blk w0 (w.heap.size + 1) 60 #[.int .i64 k, .int .i64 a, .int .i64 b] := by
    rw [hw0]; have := Blk.new (w.alloc (.cells #[.slice A n c, .slice A2 m c2] 58)) 60 #[.int .i64 k, .int .i64 a, .int .i64 b]; simpa only [World.size_alloc] using this
  have hE0 : Ext w w0 := by rw [hw0]; exact ((Ext.rfl' w).alloc (Nat.le_refl _) _).alloc (by simp only [World.size_alloc]; omega) _
  obtain ⟨hb, hhb⟩ : ∃ hb, hb = holdsR ws os x (k, a, b) := ⟨_, rfl⟩
  have HGr := hide (solGreat_any A c n ws A2 c2 m os w0 (h.ext hE0) hsz hn (h2.ext hE0) hm none 0 0)
  have HBd := hide (fun (w1 : World) (hE : Ext w w1) => build_any A c n ws A2 c2 m os w1 (h.ext hE) hsz hn (h2.ext hE) hm)
  have HLq := hide (fun (w1 : World) (hE : Ext w w1) (h64 : n ≤ 64) (h1000 : m ≤ 1000) (hok : okPs ws.length (prs ws os) = true) => refLeq_any A c n ws A2 c2 m os w1 (h.ext hE) hn h64 (h2.ext hE) hm h1000 hok)
  have hho := fun (w1 : World) (hE : Ext w w1) (g : Nat) (hL : LatAt w1 g ws os) (gd : GoodL ws os) => solHolds_any (some ⟨g, 0, none⟩) (leqI ws os) ws.length A3 c3 p x k a b w1 (h3.ext hE) hp hp' (fun w2 h2 => latLen_any g ws os w2 (hL.ext h2)) (fun w2 h2 => latLeq_any g ws os w2 (hL.ext h2) (prs_ok gd.found))
  rw [show (rightR ws.length x.length (k, a, b) && leqI ws os (loR x (k, a, b)) (hiR x (k, a, b))) = hb from hhb.symm] at hho
  have HHO := hide hho
  have HHN := hide (fun (w1 : World) (hE : Ext w w1) => holds_nil A3 c3 p k a b x w1 (h3.ext hE) hp hp')
  have HX3 := hide h3
  have HN := hide hn
  have HM := hide hm
  have HP := hide hp
  have HHB := hide hhb
  have w00 := hB.cell 0
  have w01 := hB.cell 1
  simp only [List.getElem?_toArray, List.getElem?_cons_zero, List.getElem?_cons_succ] at w00 w01
  obtain ⟨gr, hgr⟩ : ∃ g, g = w.heap.size + 1 := ⟨_, rfl⟩
  obtain ⟨gw, hgw⟩ : ∃ g, g = w.heap.size := ⟨_, rfl⟩
  rw [← hgr] at hBR
  rw [← hgw] at hB w00 w01
  have HBW := hide hB
  have HBR := hide hBR
  have HW0 := hide hw0
  have HGW := hide hgw
  have HGR := hide hgr
  have HE0 := hide hE0
  clear h h2 h3 hn hm hp hsz hB hBR hw0 hgw hgr hE0 hho hhb
  go_enter Try.func7, Try.ntmps7
  go_upto_region 1 with fail
  rw [← HW0.out, ← HGR.out, ← HGW.out]
  go_wp2_with fail
  refine HGr.out.mono ?_
  rintro e w1 ⟨r, rfl, hr, hE1⟩
  have HE1 := hide (HE0.out.trans' hE1)
  have HBW1 := hide (HBW.out.ext hE1)
  have HBR1 := hide (HBR.out.ext hE1)
  have HR := hide hr
  clear hr hE1 HE0 HBW HBR w00 w01
  cases r with
  | true =>
    go_wp2_with fail
    refine (solLives_any w1).mono ?_
    rintro e w2 ⟨rfl, hE2⟩
    go_wp2_with fail
    go_ret
    exact ⟨rfl, HE1.out.trans' hE2⟩
  | false =>
    have hw0 := (HR.out rfl).2
    have gd := good_of (show (wrongL ws os).1 = 0 by rw [hw0])
    have HGD := hide gd
    have n64 : n ≤ 64 := by have := gd.few; rw [HN.out]; omega
    have m1000 : m ≤ 1000 := by have := gd.fewO; rw [HM.out]; omega
    have HWZ := hide hw0
    clear hw0 gd HR
    by_cases hp1 : (100 : Int) < (p : Int)
    · go_wp2_with fail
      refine (solLives_any w1).mono ?_
      rintro e w2 ⟨rfl, hE2⟩
      go_wp2_with fail
      go_ret
      exact ⟨rfl, HE1.out.trans' hE2⟩
    have w10 := HBW1.out.cell 0
    have w11 := HBW1.out.cell 1
    simp only [List.getElem?_toArray, List.getElem?_cons_zero, List.getElem?_cons_succ] at w10 w11
    go_wp2_with fail
    refine (HBd.out w1 HE1.out).mono ?_
    rintro e w2 (⟨hw, _, _⟩ | ⟨_, g, rfl, hL, hE2⟩)
    · exact absurd (by rw [HWZ.out]) hw
    rw [show fltV (0, 0) = .agg #[.int .i64 0, .int .i64 0] from rfl]
    obtain ⟨w3, hw3⟩ : ∃ w3, w3 = w2.alloc (.cells #[.int .i64 0, .int .i64 0] 29) := ⟨_, rfl⟩
    have hE23 : Ext w2 w3 := by rw [hw3]; exact (Ext.rfl' w2).alloc (Nat.le_refl _) _
    have HE3 := hide ((HE1.out.trans' hE2).trans' hE23)
    have HL3 := hide (hL.ext hE23)
    have hBW3 := HBW1.out.ext (hE2.trans' hE23)
    have HBR3 := hide (HBR1.out.ext (hE2.trans' hE23))
    have w30 := hBW3.cell 0
    have w31 := hBW3.cell 1
    simp only [List.getElem?_toArray, List.getElem?_cons_zero, List.getElem?_cons_succ] at w30 w31
    have HW3 := hide hw3
    clear hw3 hE23 hE2 hL HE1 HBW1 HBR1 w10 w11 hBW3 HBd
    go_upto_region 4 with fail
    rw [← HW3.out]
    go_wp2_with fail
    refine (HLq.out w3 HE3.out n64 m1000 (prs_ok HGD.out.found)).mono ?_
    rintro e w4' ⟨AM, cM, rfl, hA, hE4⟩
    obtain ⟨M, hM⟩ : ∃ M, M = leads ws.length (prs ws os) := ⟨_, rfl⟩
    have HSQ := hide (leads_sq ws.length (prs ws os))
    have HLE := hide (leads_length ws.length (prs ws os))
    have HMT := hide (show mat (leads ws.length (prs ws os)) = leqL ws os from rfl)
    rw [← hM] at hA HSQ HLE HMT
    have hBR4 := HBR3.out.ext hE4
    have b0 := hBR4.cell 0
    have b1 := hBR4.cell 1
    have b2 := hBR4.cell 2
    simp only [List.getElem?_toArray, List.getElem?_cons_zero, List.getElem?_cons_succ] at b0 b1 b2
    have HRT := hide (ref44Right_any n p k a b w4')
    have HA4' := hide hA
    have HE4' := hide (HE3.out.trans' hE4)
    have HL4' := hide (HL3.out.ext hE4)
    have HBR4' := hide hBR4
    obtain ⟨R, hR⟩ : ∃ R, R = rightR n p (k, a, b) := ⟨_, rfl⟩
    rw [← hR] at HRT
    have HRR := hide hR
    clear hA hE4 hM HE3 HL3 HBR3 HLq w30 w31 hBR4 hR
    rw [← HN.out]
    go_wp2_with fail
    refine HRT.out.mono ?_
    rintro e w4 ⟨rfl, hE⟩
    have HE4 := hide (HE4'.out.trans' hE)
    have HA4 := hide (HA4'.out.below hE hE.size)
    have HL4 := hide (HL4'.out.ext hE)
    have hBR4 := HBR4'.out.ext hE
    have b0 := hBR4.cell 0
    have b1 := hBR4.cell 1
    have b2 := hBR4.cell 2
    simp only [List.getElem?_toArray, List.getElem?_cons_zero, List.getElem?_cons_succ] at b0 b1 b2
    have HBR4 := hide hBR4
    have HX4 := hide (HX3.out.ext HE4.out)
    clear hE HE4' HA4' HL4' HBR4' HRT hBR4
    cases R with
    | false =>
      have hf : hb = false := by
        rw [HHB.out]; unfold holdsR
        rw [← HN.out, ← HP.out, ← HRR.out]; rfl
      go_upto_region 10 with fail
      go_cut [10] (fun v wx => v = .bool hb ∧ Ext w4 wx)
      case first =>
        go_wp2_with fail
        go_meet
        exact ⟨by rw [hf], Ext.rfl' _⟩
      case rest =>
        obtain ⟨rfl, hEc⟩ := hcut
        have HEc := hide (HE4.out.trans' hEc)
        have HLc := hide (HL4.out.ext hEc)
        have hBc := HBR4.out.ext hEc
        have c0 := hBc.cell 0
        have c1 := hBc.cell 1
        have c2 := hBc.cell 2
        simp only [List.getElem?_toArray, List.getElem?_cons_zero, List.getElem?_cons_succ] at c0 c1 c2
        have HBRc := hide hBc
        clear hEc hBc 
        go_wp2_with fail
        refine (HHO.out wc HEc.out g HLc.out HGD.out).mono ?_
        rintro e w6 ⟨rfl, hE6⟩
        have HE6 := hide (HEc.out.trans' hE6)
        have hB6 := HBRc.out.ext hE6
        have d0 := hB6.cell 0
        have d1 := hB6.cell 1
        have d2 := hB6.cell 2
        simp only [List.getElem?_toArray, List.getElem?_cons_zero, List.getElem?_cons_succ] at d0 d1 d2
        have hbb : (hb == hb) = true := by simp
        clear hE6 hB6 c0 c1 c2
        go_wp2_with fail
        refine (HHN.out w6 HE6.out).mono ?_
        rintro e w7 ⟨rfl, hE7⟩
        have HE7 := hide (HE6.out.trans' hE7)
        clear hE7 d0 d1 d2
        go_wp2_with fail
        refine (solLives_any w7).mono ?_
        rintro e w8 ⟨rfl, hE8⟩
        have HE8 := hide (HE7.out.trans' hE8)
        clear hE8
        go_wp2_with fail
        go_ret
        exact ⟨rfl, HE8.out⟩
    | true =>
      have hr := HRR.out.symm
      have HRT := hide hr
      unfold rightR at hr
      by_cases k1 : k = 1
      · rw [if_pos k1, Bool.and_eq_true, HP.out, inZ_iff] at hr
        obtain ⟨b', o', kb, rfl, _, hbk, hkb, hcell⟩ := int_at HX4.out hr.2
        obtain ⟨ka, hka⟩ := Int.eq_ofNat_of_zero_le hr.1.1
        have hkan : ka < n := by have := hr.1.2; omega
        have hlo : loR x (k, a, b) = ka := by unfold loR; rw [if_pos k1]; exact hka
        obtain ⟨v, hv⟩ : ∃ v, v = x.getD b.toNat 0 := ⟨_, rfl⟩
        have hhi : hiR x (k, a, b) = v := by unfold hiR; rw [if_neg (by show ¬ k = 3; omega), hv]
        rw [← hv] at hcell
        have HLO := hide hlo
        have HHI := hide hhi
        subst k1
        subst hbk
        have i0 : (0 : Int) ≤ (kb : Int) := by omega
        have i1 : (kb : Int) < (p : Int) := by have := HP.out; omega
        clear hr hlo hhi hv hkb
        by_cases q0 : 0 ≤ v
        · by_cases q1 : v < (n : Int)
          · obtain ⟨vn, rfl⟩ := Int.eq_ofNat_of_zero_le q0
            subst hka
            have hbt : hb = mat M ka vn := by
              rw [HHB.out, HMT.out]; unfold holdsR
              rw [← HN.out, ← HP.out, HRT.out, HLO.out, HHI.out, leqI_cast (by rw [← HN.out]; omega) (by rw [← HN.out]; omega)]; rfl
            have HRH := hide (refHolds_any AM cM n M _ c3 p x _ _ _ w4 HA4.out HSQ.out (by rw [HLE.out, HN.out]) HX4.out HP.out HRT.out ka vn HLO.out HHI.out (by omega) (by omega))
            rw [← hbt] at HRH
            
            clear hbt
            go_upto_region 10 with fail
            go_cut [10] (fun v wx => v = .bool hb ∧ Ext w4 wx)
            case first =>
              go_wp2_with fail
              refine HRH.out.mono ?_
              rintro e w5 ⟨rfl, hE5⟩
              have HE5 := hide hE5
              clear hE5
              go_wp2_with fail
              go_meet
              exact ⟨rfl, HE5.out⟩
            case rest =>
              obtain ⟨rfl, hEc⟩ := hcut
              have HEc := hide (HE4.out.trans' hEc)
              have HLc := hide (HL4.out.ext hEc)
              have hBc := HBR4.out.ext hEc
              have c0 := hBc.cell 0
              have c1 := hBc.cell 1
              have c2 := hBc.cell 2
              simp only [List.getElem?_toArray, List.getElem?_cons_zero, List.getElem?_cons_succ] at c0 c1 c2
              have HBRc := hide hBc
              clear hEc hBc 
              go_wp2_with fail
              refine (HHO.out wc HEc.out g HLc.out HGD.out).mono ?_
              rintro e w6 ⟨rfl, hE6⟩
              have HE6 := hide (HEc.out.trans' hE6)
              have hB6 := HBRc.out.ext hE6
              have d0 := hB6.cell 0
              have d1 := hB6.cell 1
              have d2 := hB6.cell 2
              simp only [List.getElem?_toArray, List.getElem?_cons_zero, List.getElem?_cons_succ] at d0 d1 d2
              have hbb : (hb == hb) = true := by simp
              clear hE6 hB6 c0 c1 c2
              go_wp2_with fail
              refine (HHN.out w6 HE6.out).mono ?_
              rintro e w7 ⟨rfl, hE7⟩
              have HE7 := hide (HE6.out.trans' hE7)
              clear hE7 d0 d1 d2
              go_wp2_with fail
              refine (solLives_any w7).mono ?_
              rintro e w8 ⟨rfl, hE8⟩
              have HE8 := hide (HE7.out.trans' hE8)
              clear hE8
              go_wp2_with fail
              go_ret
              exact ⟨rfl, HE8.out⟩
          · subst hka
            have hf : hb = false := by rw [HHB.out]; exact holdsI_out (by rw [HLO.out, HHI.out, ← HN.out]; omega)
            go_upto_region 10 with fail
            go_cut [10] (fun v wx => v = .bool hb ∧ Ext w4 wx)
            case first =>
              go_wp2_with fail
              go_meet
              exact ⟨by rw [hf], Ext.rfl' _⟩
            case rest =>
              obtain ⟨rfl, hEc⟩ := hcut
              have HEc := hide (HE4.out.trans' hEc)
              have HLc := hide (HL4.out.ext hEc)
              have hBc := HBR4.out.ext hEc
              have c0 := hBc.cell 0
              have c1 := hBc.cell 1
              have c2 := hBc.cell 2
              simp only [List.getElem?_toArray, List.getElem?_cons_zero, List.getElem?_cons_succ] at c0 c1 c2
              have HBRc := hide hBc
              clear hEc hBc 
              go_wp2_with fail
              refine (HHO.out wc HEc.out g HLc.out HGD.out).mono ?_
              rintro e w6 ⟨rfl, hE6⟩
              have HE6 := hide (HEc.out.trans' hE6)
              have hB6 := HBRc.out.ext hE6
              have d0 := hB6.cell 0
              have d1 := hB6.cell 1
              have d2 := hB6.cell 2
              simp only [List.getElem?_toArray, List.getElem?_cons_zero, List.getElem?_cons_succ] at d0 d1 d2
              have hbb : (hb == hb) = true := by simp
              clear hE6 hB6 c0 c1 c2
              go_wp2_with fail
              refine (HHN.out w6 HE6.out).mono ?_
              rintro e w7 ⟨rfl, hE7⟩
              have HE7 := hide (HE6.out.trans' hE7)
              clear hE7 d0 d1 d2
              go_wp2_with fail
              refine (solLives_any w7).mono ?_
              rintro e w8 ⟨rfl, hE8⟩
              have HE8 := hide (HE7.out.trans' hE8)
              clear hE8
              go_wp2_with fail
              go_ret
              exact ⟨rfl, HE8.out⟩
        · subst hka
          have hf : hb = false := by rw [HHB.out]; exact holdsI_out (by rw [HLO.out, HHI.out, ← HN.out]; omega)
          go_upto_region 10 with fail
          go_cut [10] (fun v wx => v = .bool hb ∧ Ext w4 wx)
          case first =>
            go_wp2_with fail
            go_meet
            exact ⟨by rw [hf], Ext.rfl' _⟩
          case rest =>
            obtain ⟨rfl, hEc⟩ := hcut
            have HEc := hide (HE4.out.trans' hEc)
            have HLc := hide (HL4.out.ext hEc)
            have hBc := HBR4.out.ext hEc
            have c0 := hBc.cell 0
            have c1 := hBc.cell 1
            have c2 := hBc.cell 2
            simp only [List.getElem?_toArray, List.getElem?_cons_zero, List.getElem?_cons_succ] at c0 c1 c2
            have HBRc := hide hBc
            clear hEc hBc 
            go_wp2_with fail
            refine (HHO.out wc HEc.out g HLc.out HGD.out).mono ?_
            rintro e w6 ⟨rfl, hE6⟩
            have HE6 := hide (HEc.out.trans' hE6)
            have hB6 := HBRc.out.ext hE6
            have d0 := hB6.cell 0
            have d1 := hB6.cell 1
            have d2 := hB6.cell 2
            simp only [List.getElem?_toArray, List.getElem?_cons_zero, List.getElem?_cons_succ] at d0 d1 d2
            have hbb : (hb == hb) = true := by simp
            clear hE6 hB6 c0 c1 c2
            go_wp2_with fail
            refine (HHN.out w6 HE6.out).mono ?_
            rintro e w7 ⟨rfl, hE7⟩
            have HE7 := hide (HE6.out.trans' hE7)
            clear hE7 d0 d1 d2
            go_wp2_with fail
            refine (solLives_any w7).mono ?_
            rintro e w8 ⟨rfl, hE8⟩
            have HE8 := hide (HE7.out.trans' hE8)
            clear hE8
            go_wp2_with fail
            go_ret
            exact ⟨rfl, HE8.out⟩
      · rw [if_neg k1] at hr
        by_cases k2 : k = 2
        · rw [if_pos k2, Bool.and_eq_true, HP.out] at hr
          obtain ⟨b', o', ka, hA, _, hak, hka, hcella⟩ := int_at HX4.out hr.1
          obtain ⟨b'', o'', kb, hA2, _, hbk, hkb, hcellb⟩ := int_at HX4.out hr.2
          rw [hA] at hA2
          obtain ⟨rfl, rfl⟩ : b' = b'' ∧ o' = o'' := by injection hA2 with h; injection h with h1 h2; exact ⟨h1, h2⟩
          subst hA
          obtain ⟨u, hu⟩ : ∃ v, v = x.getD a.toNat 0 := ⟨_, rfl⟩
          obtain ⟨v, hv⟩ : ∃ v, v = x.getD b.toNat 0 := ⟨_, rfl⟩
          have hlo : loR x (k, a, b) = u := by unfold loR; rw [if_neg (by show ¬ k = 1; omega), hu]
          have hhi : hiR x (k, a, b) = v := by unfold hiR; rw [if_neg (by show ¬ k = 3; omega), hv]
          rw [← hu] at hcella
          rw [← hv] at hcellb
          have HLO := hide hlo
          have HHI := hide hhi
          subst k2
          subst hak
          subst hbk
          have i0 : (0 : Int) ≤ (kb : Int) := by omega
          have i1 : (kb : Int) < (p : Int) := by have := HP.out; omega
          have i2 : (0 : Int) ≤ (ka : Int) := by omega
          have i3 : (ka : Int) < (p : Int) := by have := HP.out; omega
          clear hr hlo hhi hv hu hkb hka hA2 k1
          by_cases q0 : 0 ≤ v
          · by_cases q1 : v < (n : Int)
            · by_cases q2 : 0 ≤ u
              · by_cases q3 : u < (n : Int)
                · obtain ⟨vn, rfl⟩ := Int.eq_ofNat_of_zero_le q0
                  obtain ⟨un, rfl⟩ := Int.eq_ofNat_of_zero_le q2
                  have hbt : hb = mat M un vn := by
                    rw [HHB.out, HMT.out]; unfold holdsR
                    rw [← HN.out, ← HP.out, HRT.out, HLO.out, HHI.out, leqI_cast (by rw [← HN.out]; omega) (by rw [← HN.out]; omega)]; rfl
                  have HRH := hide (refHolds_any AM cM n M _ c3 p x _ _ _ w4 HA4.out HSQ.out (by rw [HLE.out, HN.out]) HX4.out HP.out HRT.out un vn HLO.out HHI.out (by omega) (by omega))
                  rw [← hbt] at HRH
                  
                  clear hbt
                  go_upto_region 10 with fail
                  go_cut [10] (fun v wx => v = .bool hb ∧ Ext w4 wx)
                  case first =>
                    go_wp2_with fail
                    refine HRH.out.mono ?_
                    rintro e w5 ⟨rfl, hE5⟩
                    have HE5 := hide hE5
                    clear hE5
                    go_wp2_with fail
                    go_meet
                    exact ⟨rfl, HE5.out⟩
                  case rest =>
                    obtain ⟨rfl, hEc⟩ := hcut
                    have HEc := hide (HE4.out.trans' hEc)
                    have HLc := hide (HL4.out.ext hEc)
                    have hBc := HBR4.out.ext hEc
                    have c0 := hBc.cell 0
                    have c1 := hBc.cell 1
                    have c2 := hBc.cell 2
                    simp only [List.getElem?_toArray, List.getElem?_cons_zero, List.getElem?_cons_succ] at c0 c1 c2
                    have HBRc := hide hBc
                    clear hEc hBc 
                    go_wp2_with fail
                    refine (HHO.out wc HEc.out g HLc.out HGD.out).mono ?_
                    rintro e w6 ⟨rfl, hE6⟩
                    have HE6 := hide (HEc.out.trans' hE6)
                    have hB6 := HBRc.out.ext hE6
                    have d0 := hB6.cell 0
                    have d1 := hB6.cell 1
                    have d2 := hB6.cell 2
                    simp only [List.getElem?_toArray, List.getElem?_cons_zero, List.getElem?_cons_succ] at d0 d1 d2
                    have hbb : (hb == hb) = true := by simp
                    clear hE6 hB6 c0 c1 c2
                    go_wp2_with fail
                    refine (HHN.out w6 HE6.out).mono ?_
                    rintro e w7 ⟨rfl, hE7⟩
                    have HE7 := hide (HE6.out.trans' hE7)
                    clear hE7 d0 d1 d2
                    go_wp2_with fail
                    refine (solLives_any w7).mono ?_
                    rintro e w8 ⟨rfl, hE8⟩
                    have HE8 := hide (HE7.out.trans' hE8)
                    clear hE8
                    go_wp2_with fail
                    go_ret
                    exact ⟨rfl, HE8.out⟩
                · have hf : hb = false := by rw [HHB.out]; exact holdsI_out (by rw [HLO.out, HHI.out, ← HN.out]; omega)
                  go_upto_region 10 with fail
                  go_cut [10] (fun v wx => v = .bool hb ∧ Ext w4 wx)
                  case first =>
                    go_wp2_with fail
                    go_meet
                    exact ⟨by rw [hf], Ext.rfl' _⟩
                  case rest =>
                    obtain ⟨rfl, hEc⟩ := hcut
                    have HEc := hide (HE4.out.trans' hEc)
                    have HLc := hide (HL4.out.ext hEc)
                    have hBc := HBR4.out.ext hEc
                    have c0 := hBc.cell 0
                    have c1 := hBc.cell 1
                    have c2 := hBc.cell 2
                    simp only [List.getElem?_toArray, List.getElem?_cons_zero, List.getElem?_cons_succ] at c0 c1 c2
                    have HBRc := hide hBc
                    clear hEc hBc 
                    go_wp2_with fail
                    refine (HHO.out wc HEc.out g HLc.out HGD.out).mono ?_
                    rintro e w6 ⟨rfl, hE6⟩
                    have HE6 := hide (HEc.out.trans' hE6)
                    have hB6 := HBRc.out.ext hE6
                    have d0 := hB6.cell 0
                    have d1 := hB6.cell 1
                    have d2 := hB6.cell 2
                    simp only [List.getElem?_toArray, List.getElem?_cons_zero, List.getElem?_cons_succ] at d0 d1 d2
                    have hbb : (hb == hb) = true := by simp
                    clear hE6 hB6 c0 c1 c2
                    go_wp2_with fail
                    refine (HHN.out w6 HE6.out).mono ?_
                    rintro e w7 ⟨rfl, hE7⟩
                    have HE7 := hide (HE6.out.trans' hE7)
                    clear hE7 d0 d1 d2
                    go_wp2_with fail
                    refine (solLives_any w7).mono ?_
                    rintro e w8 ⟨rfl, hE8⟩
                    have HE8 := hide (HE7.out.trans' hE8)
                    clear hE8
                    go_wp2_with fail
                    go_ret
                    exact ⟨rfl, HE8.out⟩
              · have hf : hb = false := by rw [HHB.out]; exact holdsI_out (by rw [HLO.out, HHI.out, ← HN.out]; omega)
                go_upto_region 10 with fail
                go_cut [10] (fun v wx => v = .bool hb ∧ Ext w4 wx)
                case first =>
                  go_wp2_with fail
                  go_meet
                  exact ⟨by rw [hf], Ext.rfl' _⟩
                case rest =>
                  obtain ⟨rfl, hEc⟩ := hcut
                  have HEc := hide (HE4.out.trans' hEc)
                  have HLc := hide (HL4.out.ext hEc)
                  have hBc := HBR4.out.ext hEc
                  have c0 := hBc.cell 0
                  have c1 := hBc.cell 1
                  have c2 := hBc.cell 2
                  simp only [List.getElem?_toArray, List.getElem?_cons_zero, List.getElem?_cons_succ] at c0 c1 c2
                  have HBRc := hide hBc
                  clear hEc hBc 
                  go_wp2_with fail
                  refine (HHO.out wc HEc.out g HLc.out HGD.out).mono ?_
                  rintro e w6 ⟨rfl, hE6⟩
                  have HE6 := hide (HEc.out.trans' hE6)
                  have hB6 := HBRc.out.ext hE6
                  have d0 := hB6.cell 0
                  have d1 := hB6.cell 1
                  have d2 := hB6.cell 2
                  simp only [List.getElem?_toArray, List.getElem?_cons_zero, List.getElem?_cons_succ] at d0 d1 d2
                  have hbb : (hb == hb) = true := by simp
                  clear hE6 hB6 c0 c1 c2
                  go_wp2_with fail
                  refine (HHN.out w6 HE6.out).mono ?_
                  rintro e w7 ⟨rfl, hE7⟩
                  have HE7 := hide (HE6.out.trans' hE7)
                  clear hE7 d0 d1 d2
                  go_wp2_with fail
                  refine (solLives_any w7).mono ?_
                  rintro e w8 ⟨rfl, hE8⟩
                  have HE8 := hide (HE7.out.trans' hE8)
                  clear hE8
                  go_wp2_with fail
                  go_ret
                  exact ⟨rfl, HE8.out⟩
            · have hf : hb = false := by rw [HHB.out]; exact holdsI_out (by rw [HLO.out, HHI.out, ← HN.out]; omega)
              go_upto_region 10 with fail
              go_cut [10] (fun v wx => v = .bool hb ∧ Ext w4 wx)
              case first =>
                go_wp2_with fail
                go_meet
                exact ⟨by rw [hf], Ext.rfl' _⟩
              case rest =>
                obtain ⟨rfl, hEc⟩ := hcut
                have HEc := hide (HE4.out.trans' hEc)
                have HLc := hide (HL4.out.ext hEc)
                have hBc := HBR4.out.ext hEc
                have c0 := hBc.cell 0
                have c1 := hBc.cell 1
                have c2 := hBc.cell 2
                simp only [List.getElem?_toArray, List.getElem?_cons_zero, List.getElem?_cons_succ] at c0 c1 c2
                have HBRc := hide hBc
                clear hEc hBc 
                go_wp2_with fail
                refine (HHO.out wc HEc.out g HLc.out HGD.out).mono ?_
                rintro e w6 ⟨rfl, hE6⟩
                have HE6 := hide (HEc.out.trans' hE6)
                have hB6 := HBRc.out.ext hE6
                have d0 := hB6.cell 0
                have d1 := hB6.cell 1
                have d2 := hB6.cell 2
                simp only [List.getElem?_toArray, List.getElem?_cons_zero, List.getElem?_cons_succ] at d0 d1 d2
                have hbb : (hb == hb) = true := by simp
                clear hE6 hB6 c0 c1 c2
                go_wp2_with fail
                refine (HHN.out w6 HE6.out).mono ?_
                rintro e w7 ⟨rfl, hE7⟩
                have HE7 := hide (HE6.out.trans' hE7)
                clear hE7 d0 d1 d2
                go_wp2_with fail
                refine (solLives_any w7).mono ?_
                rintro e w8 ⟨rfl, hE8⟩
                have HE8 := hide (HE7.out.trans' hE8)
                clear hE8
                go_wp2_with fail
                go_ret
                exact ⟨rfl, HE8.out⟩
          · have hf : hb = false := by rw [HHB.out]; exact holdsI_out (by rw [HLO.out, HHI.out, ← HN.out]; omega)
            go_upto_region 10 with fail
            go_cut [10] (fun v wx => v = .bool hb ∧ Ext w4 wx)
            case first =>
              go_wp2_with fail
              go_meet
              exact ⟨by rw [hf], Ext.rfl' _⟩
            case rest =>
              obtain ⟨rfl, hEc⟩ := hcut
              have HEc := hide (HE4.out.trans' hEc)
              have HLc := hide (HL4.out.ext hEc)
              have hBc := HBR4.out.ext hEc
              have c0 := hBc.cell 0
              have c1 := hBc.cell 1
              have c2 := hBc.cell 2
              simp only [List.getElem?_toArray, List.getElem?_cons_zero, List.getElem?_cons_succ] at c0 c1 c2
              have HBRc := hide hBc
              clear hEc hBc 
              go_wp2_with fail
              refine (HHO.out wc HEc.out g HLc.out HGD.out).mono ?_
              rintro e w6 ⟨rfl, hE6⟩
              have HE6 := hide (HEc.out.trans' hE6)
              have hB6 := HBRc.out.ext hE6
              have d0 := hB6.cell 0
              have d1 := hB6.cell 1
              have d2 := hB6.cell 2
              simp only [List.getElem?_toArray, List.getElem?_cons_zero, List.getElem?_cons_succ] at d0 d1 d2
              have hbb : (hb == hb) = true := by simp
              clear hE6 hB6 c0 c1 c2
              go_wp2_with fail
              refine (HHN.out w6 HE6.out).mono ?_
              rintro e w7 ⟨rfl, hE7⟩
              have HE7 := hide (HE6.out.trans' hE7)
              clear hE7 d0 d1 d2
              go_wp2_with fail
              refine (solLives_any w7).mono ?_
              rintro e w8 ⟨rfl, hE8⟩
              have HE8 := hide (HE7.out.trans' hE8)
              clear hE8
              go_wp2_with fail
              go_ret
              exact ⟨rfl, HE8.out⟩
        · rw [if_neg k2] at hr
          by_cases k3 : k = 3
          · rw [if_pos k3, Bool.and_eq_true, HP.out, inZ_iff (i := b)] at hr
            obtain ⟨b', o', ka, rfl, _, hak, hka, hcella⟩ := int_at HX4.out hr.1
            obtain ⟨kb, hkb⟩ := Int.eq_ofNat_of_zero_le hr.2.1
            have hkbn : kb < n := by have := hr.2.2; omega
            have hhi : hiR x (k, a, b) = kb := by unfold hiR; rw [if_pos k3]; exact hkb
            obtain ⟨u, hu⟩ : ∃ v, v = x.getD a.toNat 0 := ⟨_, rfl⟩
            have hlo : loR x (k, a, b) = u := by unfold loR; rw [if_neg (by show ¬ k = 1; omega), hu]
            rw [← hu] at hcella
            have HLO := hide hlo
            have HHI := hide hhi
            subst k3
            subst hak
            have i2 : (0 : Int) ≤ (ka : Int) := by omega
            have i3 : (ka : Int) < (p : Int) := by have := HP.out; omega
            clear hr hlo hhi hu hka k1 k2
            by_cases q2 : 0 ≤ u
            · by_cases q3 : u < (n : Int)
              · obtain ⟨un, rfl⟩ := Int.eq_ofNat_of_zero_le q2
                subst hkb
                have hbt : hb = mat M un kb := by
                  rw [HHB.out, HMT.out]; unfold holdsR
                  rw [← HN.out, ← HP.out, HRT.out, HLO.out, HHI.out, leqI_cast (by rw [← HN.out]; omega) (by rw [← HN.out]; omega)]; rfl
                have HRH := hide (refHolds_any AM cM n M _ c3 p x _ _ _ w4 HA4.out HSQ.out (by rw [HLE.out, HN.out]) HX4.out HP.out HRT.out un kb HLO.out HHI.out (by omega) (by omega))
                rw [← hbt] at HRH
                
                clear hbt
                go_upto_region 10 with fail
                go_cut [10] (fun v wx => v = .bool hb ∧ Ext w4 wx)
                case first =>
                  go_wp2_with fail
                  refine HRH.out.mono ?_
                  rintro e w5 ⟨rfl, hE5⟩
                  have HE5 := hide hE5
                  clear hE5
                  go_wp2_with fail
                  go_meet
                  exact ⟨rfl, HE5.out⟩
                case rest =>
                  obtain ⟨rfl, hEc⟩ := hcut
                  have HEc := hide (HE4.out.trans' hEc)
                  have HLc := hide (HL4.out.ext hEc)
                  have hBc := HBR4.out.ext hEc
                  have c0 := hBc.cell 0
                  have c1 := hBc.cell 1
                  have c2 := hBc.cell 2
                  simp only [List.getElem?_toArray, List.getElem?_cons_zero, List.getElem?_cons_succ] at c0 c1 c2
                  have HBRc := hide hBc
                  clear hEc hBc 
                  go_wp2_with fail
                  refine (HHO.out wc HEc.out g HLc.out HGD.out).mono ?_
                  rintro e w6 ⟨rfl, hE6⟩
                  have HE6 := hide (HEc.out.trans' hE6)
                  have hB6 := HBRc.out.ext hE6
                  have d0 := hB6.cell 0
                  have d1 := hB6.cell 1
                  have d2 := hB6.cell 2
                  simp only [List.getElem?_toArray, List.getElem?_cons_zero, List.getElem?_cons_succ] at d0 d1 d2
                  have hbb : (hb == hb) = true := by simp
                  clear hE6 hB6 c0 c1 c2
                  go_wp2_with fail
                  refine (HHN.out w6 HE6.out).mono ?_
                  rintro e w7 ⟨rfl, hE7⟩
                  have HE7 := hide (HE6.out.trans' hE7)
                  clear hE7 d0 d1 d2
                  go_wp2_with fail
                  refine (solLives_any w7).mono ?_
                  rintro e w8 ⟨rfl, hE8⟩
                  have HE8 := hide (HE7.out.trans' hE8)
                  clear hE8
                  go_wp2_with fail
                  go_ret
                  exact ⟨rfl, HE8.out⟩
              · subst hkb
                have hf : hb = false := by rw [HHB.out]; exact holdsI_out (by rw [HLO.out, HHI.out, ← HN.out]; omega)
                go_upto_region 10 with fail
                go_cut [10] (fun v wx => v = .bool hb ∧ Ext w4 wx)
                case first =>
                  go_wp2_with fail
                  go_meet
                  exact ⟨by rw [hf], Ext.rfl' _⟩
                case rest =>
                  obtain ⟨rfl, hEc⟩ := hcut
                  have HEc := hide (HE4.out.trans' hEc)
                  have HLc := hide (HL4.out.ext hEc)
                  have hBc := HBR4.out.ext hEc
                  have c0 := hBc.cell 0
                  have c1 := hBc.cell 1
                  have c2 := hBc.cell 2
                  simp only [List.getElem?_toArray, List.getElem?_cons_zero, List.getElem?_cons_succ] at c0 c1 c2
                  have HBRc := hide hBc
                  clear hEc hBc 
                  go_wp2_with fail
                  refine (HHO.out wc HEc.out g HLc.out HGD.out).mono ?_
                  rintro e w6 ⟨rfl, hE6⟩
                  have HE6 := hide (HEc.out.trans' hE6)
                  have hB6 := HBRc.out.ext hE6
                  have d0 := hB6.cell 0
                  have d1 := hB6.cell 1
                  have d2 := hB6.cell 2
                  simp only [List.getElem?_toArray, List.getElem?_cons_zero, List.getElem?_cons_succ] at d0 d1 d2
                  have hbb : (hb == hb) = true := by simp
                  clear hE6 hB6 c0 c1 c2
                  go_wp2_with fail
                  refine (HHN.out w6 HE6.out).mono ?_
                  rintro e w7 ⟨rfl, hE7⟩
                  have HE7 := hide (HE6.out.trans' hE7)
                  clear hE7 d0 d1 d2
                  go_wp2_with fail
                  refine (solLives_any w7).mono ?_
                  rintro e w8 ⟨rfl, hE8⟩
                  have HE8 := hide (HE7.out.trans' hE8)
                  clear hE8
                  go_wp2_with fail
                  go_ret
                  exact ⟨rfl, HE8.out⟩
            · subst hkb
              have hf : hb = false := by rw [HHB.out]; exact holdsI_out (by rw [HLO.out, HHI.out, ← HN.out]; omega)
              go_upto_region 10 with fail
              go_cut [10] (fun v wx => v = .bool hb ∧ Ext w4 wx)
              case first =>
                go_wp2_with fail
                go_meet
                exact ⟨by rw [hf], Ext.rfl' _⟩
              case rest =>
                obtain ⟨rfl, hEc⟩ := hcut
                have HEc := hide (HE4.out.trans' hEc)
                have HLc := hide (HL4.out.ext hEc)
                have hBc := HBR4.out.ext hEc
                have c0 := hBc.cell 0
                have c1 := hBc.cell 1
                have c2 := hBc.cell 2
                simp only [List.getElem?_toArray, List.getElem?_cons_zero, List.getElem?_cons_succ] at c0 c1 c2
                have HBRc := hide hBc
                clear hEc hBc 
                go_wp2_with fail
                refine (HHO.out wc HEc.out g HLc.out HGD.out).mono ?_
                rintro e w6 ⟨rfl, hE6⟩
                have HE6 := hide (HEc.out.trans' hE6)
                have hB6 := HBRc.out.ext hE6
                have d0 := hB6.cell 0
                have d1 := hB6.cell 1
                have d2 := hB6.cell 2
                simp only [List.getElem?_toArray, List.getElem?_cons_zero, List.getElem?_cons_succ] at d0 d1 d2
                have hbb : (hb == hb) = true := by simp
                clear hE6 hB6 c0 c1 c2
                go_wp2_with fail
                refine (HHN.out w6 HE6.out).mono ?_
                rintro e w7 ⟨rfl, hE7⟩
                have HE7 := hide (HE6.out.trans' hE7)
                clear hE7 d0 d1 d2
                go_wp2_with fail
                refine (solLives_any w7).mono ?_
                rintro e w8 ⟨rfl, hE8⟩
                have HE8 := hide (HE7.out.trans' hE8)
                clear hE8
                go_wp2_with fail
                go_ret
                exact ⟨rfl, HE8.out⟩
          · rw [if_neg k3] at hr; cases hr
end Go.Proofs.Ytpjlhpaenmfieaa
