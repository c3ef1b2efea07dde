/- The law SolveWhy, walked. -/
import Derived.Test.YtpjlhpaenmfieaaGreatSolZ
import Derived.Test.YtpjlhpaenmfieaaGreatSolDc
import Derived.Test.YtpjlhpaenmfieaaGreatSolS
import Derived.Test.YtpjlhpaenmfieaaGreatSolR
import Derived.Test.YtpjlhpaenmfieaaGreatSolPl
namespace Go.Proofs.YtpjlhpaenmfieaaGreat
open Go.RowKit

/-- What a failed high says of the places, and of the rules that lead to it. -/
theorem flow_start {ws : List Wd} {os : List (Wd × Wd)} {np : Int} {rs : List Ru} {y : List Nat} {f : Int × Int} (hl : LatM.Lat ws.length (leqL ws os)) (h : SolAns ws os np rs y f) (h18 : f.1 = 18) (h0 : Nat) (h2 : f.2 = h0) :
    (∃ k : Nat, np = k ∧ k ≤ 64 ∧ ∀ r ∈ rs, rightR ws.length k r = true) ∧ ∃ d, startsB (leqI ws os) rs (rl rs h0).2.1 d (rl rs h0).2.2 = true := by
  rcases h with ⟨_, h3, _⟩ | ⟨h1, x, hx, ⟨h4, _⟩ | ⟨_, h5, _⟩⟩
  · rw [h3] at h18
    rcases solBad_cases ws.length np rs with h | h | h | h <;> rw [h] at h18 <;> cases h18
  · obtain ⟨_, n0, n64, _, hfit⟩ := solBad_ok h1
    obtain ⟨m, rfl⟩ := Int.eq_ofNat_of_zero_le n0
    rw [Int.toNat_natCast] at hx
    refine ⟨⟨m, rfl, by omega, hfit⟩, ?_⟩
    obtain ⟨i, hi, e⟩ := firstOf_some h4
    unfold hBad at e
    split at e
    · cases e
    · next hno =>
      injection e with e
      obtain rfl : i = h0 := by rw [← e] at h2; simp only at h2; omega
      have hrm := rl_mem hi
      have hf := hfit _ hrm
      unfold holdsR at hno
      rw [List.length_map, hx.len, hf, Bool.true_and, Bool.not_eq_true] at hno
      have h3 : (rl rs i).1 = 3 := Classical.byContradiction fun h3 => by
        rw [holds_ok hf hx.len hx.lt h3, hx.ok _ hrm] at hno
        cases hno
      have hff := hf
      unfold rightR at hff
      rw [if_neg (by omega), if_neg (by omega), if_pos h3, Bool.and_eq_true, inZ_iff, inZ_iff] at hff
      obtain ⟨a, ha⟩ := Int.eq_ofNat_of_zero_le hff.1.1
      obtain ⟨b, hb⟩ := Int.eq_ofNat_of_zero_le hff.2.1
      have han : a < m := by omega
      have hbn : b < ws.length := by omega
      have hxa := LatM.getD_lt hx.lt (show a < x.length by rw [hx.len]; exact han)
      unfold loR hiR at hno
      rw [if_neg (by omega), if_pos h3, getD_cast, ha, hb, Int.toNat_natCast, leqI_cast hxa hbn] at hno
      rw [ha, hb]
      exact start_of hl hx hfit han hbn hno
  · rw [h5] at h18; cases h18
def SeesAt (L : List Nat) (w : World) (v : Value) (w' : World) : Prop := ∃ A c, v = .slice A L.length c ∧ NatAt w' w'.heap.size A L ∧ Ext w w'

set_option maxRecDepth 100000 in
set_option maxHeartbeats 8000000 in
theorem solveWhy_any (A : Option Addr) (c n : Nat) (ws : List Wd) (A2 : Option Addr) (c2 m : Nat) (os : List (Wd × Wd)) (np : Int) (A5 : Option Addr) (c5 z : Nat) (rs : List Ru) (w : World) (h : WdsAt w w.heap.size A ws) (hsz : ∀ i, (wNm ws i).size ≤ maxLen) (hn : n = ws.length) (h2 : OdsAt w w.heap.size A2 os) (hm : m = os.length) (h5 : RlsAt w w.heap.size A5 rs) (hz : z = rs.length) :
    Calls Tryz.prog 7 #[.agg #[.slice A n c, .slice A2 m c2], .int .i64 np, .slice A5 z c5] w (BoolPost true w) := by
  obtain ⟨w0, hw0⟩ : ∃ w0, w0 = w.alloc (.cells #[.slice A n c, .slice A2 m c2] 56) := ⟨_, rfl⟩
  obtain ⟨gw, hgw⟩ : ∃ g, g = w.heap.size := ⟨_, rfl⟩
  have hB : Blk w0 gw 56 #[.slice A n c, .slice A2 m c2] := by rw [hw0, hgw]; exact Blk.new _ _ _
  have hE0 : Ext w w0 := by rw [hw0]; exact (Ext.rfl' w).alloc (Nat.le_refl _) _
  have HGr := hide (solGreat_any A c n ws A2 c2 m os w0 (h.ext hE0) hsz hn (h2.ext hE0) hm A5 c5 z)
  have HBd := hide (fun (w1 : World) (hE : Ext w w1) => build_any A c n ws A2 c2 m os w1 (h.ext hE) hsz hn (h2.ext hE) hm)
  have HLq := hide (fun (w1 : World) (hE : Ext w w1) (h64 : n ≤ 64) (h1000 : m ≤ 1000) (hok : okPs ws.length (prs ws os) = true) => refLeq_any A c n ws A2 c2 m os w1 (h.ext hE) hn h64 (h2.ext hE) hm h1000 hok)
  have HWY := hide (fun (w1 : World) (hE : Ext w w1) (g : Nat) (hL : LatAt w1 g ws os) (gd : GoodL ws os) (h60 : z ≤ 60) => why_any g ws os np A5 c5 z rs w1 hL gd (h5.ext hE) hz (by omega))
  have HOW := hide (fun (w1 : World) (hE : Ext w w1) (h60 : z ≤ 60) => own44_any A5 c5 z rs w1 (h5.ext hE) hz (by omega))
  have HN := hide hn
  have HM := hide hm
  have HZ := hide hz
  have HBW := hide hB
  have w00 := hB.cell 0
  have w01 := hB.cell 1
  simp only [List.getElem?_toArray, List.getElem?_cons_zero, List.getElem?_cons_succ] at w00 w01
  have HW0 := hide hw0
  have HGW := hide hgw
  have HE0 := hide hE0
  have hq := run_eqIn_flt
  clear h h2 h5 hn hm hz hsz hB hw0 hgw hE0
  go_enter Tryz.func7, Tryz.ntmps7
  go_upto_region 1 with fail
  rw [← HW0.out, ← HGW.out]
  go_cut [19] (fun v wx => ∃ r : Bool, v = .bool r ∧ Hid (r = false → z ≤ 60 ∧ wrongL ws os = (0, 0)) ∧ Ext w0 wx)
  case first =>
    go_wp2_with fail
    refine HGr.out.mono ?_
    rintro e w1 ⟨r, rfl, hr, hE1⟩
    have HR := hide hr
    have HE1 := hide hE1
    clear hr hE1 w00 w01
    cases r with
    | true =>
      go_wp2_with fail
      go_meet
      exact ⟨true, rfl, (fun h => absurd h (by decide)), HE1.out⟩
    | false =>
      by_cases hb1 : (20 : Int) < np
      · go_wp2_with fail
        go_meet
        exact ⟨true, by first | rfl | simp [hb1], (fun h => absurd h (by decide)), HE1.out⟩
      · go_wp2_with fail
        go_meet
        exact ⟨false, by first | rfl | simp [hb1], (fun _ => HR.out (by trivial)), HE1.out⟩
  case rest =>
    obtain ⟨r, rfl, HR, hE1⟩ := hcut
    obtain ⟨w1, hw1⟩ : ∃ w1, w1 = wc := ⟨_, rfl⟩
    rw [← hw1] at hE1 ⊢
    clear hw1
    have HE1 := hide (HE0.out.trans' hE1)
    have HBW1 := hide (HBW.out.ext hE1)
    clear hE1 HE0 HBW w00 w01
    cases r with
    | true =>
      go_wp2_with fail
      refine (solLives_any w1).mono ?_
      rintro e w2 ⟨rfl, hE2⟩
      go_wp2_with fail
      go_ret
      exact ⟨rfl, HE1.out.trans' hE2⟩
    | false =>
      obtain ⟨z60, hw0⟩ := HR.out rfl
      have gd := good_of (show (wrongL ws os).1 = 0 by rw [hw0])
      have HGD := hide gd
      have n64 : n ≤ 64 := by have := gd.few; rw [HN.out]; omega
      have m1000 : m ≤ 1000 := by have := gd.fewO; rw [HM.out]; omega
      have HWZ := hide hw0
      clear hw0 gd HR
      have w10 := HBW1.out.cell 0
      have w11 := HBW1.out.cell 1
      simp only [List.getElem?_toArray, List.getElem?_cons_zero, List.getElem?_cons_succ] at w10 w11
      go_wp2_with fail
      refine (HBd.out w1 HE1.out).mono ?_
      rintro e w2 (⟨hw, _, _⟩ | ⟨_, g, rfl, hL, hE2⟩)
      · exact absurd (by rw [HWZ.out]) hw
      rw [show fltV (0, 0) = .agg #[.int .i64 0, .int .i64 0] from rfl]
      obtain ⟨w3, hw3⟩ : ∃ w3, w3 = w2.alloc (.cells #[.int .i64 0, .int .i64 0] 31) := ⟨_, rfl⟩
      have hE23 : Ext w2 w3 := by rw [hw3]; exact (Ext.rfl' w2).alloc (Nat.le_refl _) _
      have HE3 := hide ((HE1.out.trans' hE2).trans' hE23)
      have HL3 := hide (hL.ext hE23)
      have HBW3 := hide (HBW1.out.ext (hE2.trans' hE23))
      have HW3 := hide hw3
      clear hw3 hE23 hE2 hL HE1 HBW1 w10 w11 HBd
      go_upto_region 4 with fail
      rw [← HW3.out]
      have hBW3 := HBW3.out
      have w30 := hBW3.cell 0
      have w31 := hBW3.cell 1
      simp only [List.getElem?_toArray, List.getElem?_cons_zero, List.getElem?_cons_succ] at w30 w31
      clear hBW3
      go_wp2_with fail
      refine (HLq.out w3 HE3.out n64 m1000 (prs_ok HGD.out.found)).mono ?_
      rintro e w7 ⟨AM, cM, rfl, hAM, hE7⟩
      obtain ⟨M, hM⟩ : ∃ M, M = leads ws.length (prs ws os) := ⟨_, rfl⟩
      have HSQ := hide (leads_sq ws.length (prs ws os))
      have HLE := hide (leads_length ws.length (prs ws os))
      have HMT := hide (show mat (leads ws.length (prs ws os)) = leqL ws os from rfl)
      rw [← hM] at hAM HSQ HLE HMT
      have HAM := hide hAM
      have HE7 := hide (HE3.out.trans' hE7)
      have HL7 := hide (HL3.out.ext hE7)
      rw [← HN.out]
      clear hAM hE7 hM HLq w30 w31 HBW3 HL3 HE3
      go_wp2_with fail
      refine (HOW.out w7 HE7.out z60).mono ?_
      rintro e w8 ⟨AR, cR, rfl, hAR, hE8⟩
      rw [← HZ.out]
      have HE8 := hide (HE7.out.trans' hE8)
      have HL8 := hide (HL7.out.ext hE8)
      have hA8 := HAM.out.below hE8 hE8.size
      have HA8 := hide hA8
      have HRS := hide (refSolve_any AM cM n M ws os np AR cR z rs w8 hA8 HSQ.out (by rw [HLE.out, HN.out]) n64 HN.out HMT.out HGD.out.lat hAR HZ.out (by omega))
      clear hAR hE8 HE7 HL7 HAM hA8
      go_wp2_with fail
      refine HRS.out.mono ?_
      rintro e w9 ⟨y, f, Az, cz, rfl, _, hE9, hA⟩
      obtain ⟨f1, f2⟩ := f
      have HA := hide hA
      obtain ⟨w10, hw10⟩ : ∃ w6, w6 = w9.alloc (.cells #[.int .i64 f1, .int .i64 f2] 31) := ⟨_, rfl⟩
      obtain ⟨g10, hg10⟩ : ∃ g6, g6 = w9.heap.size := ⟨_, rfl⟩
      have hV : Blk w10 g10 31 #[.int .i64 f1, .int .i64 f2] := by rw [hw10, hg10]; exact Blk.new _ _ _
      have hE810 : Ext w8 w10 := by rw [hw10]; exact hE9.alloc hE9.size _
      have HV := hide hV
      have HE10 := hide (HE8.out.trans' hE810)
      have HL10 := hide (HL8.out.ext hE810)
      have HA10 := hide (HA8.out.below hE810 hE810.size)
      have v0 := hV.cell 0
      have v1 := hV.cell 1
      simp only [List.getElem?_toArray, List.getElem?_cons_zero, List.getElem?_cons_succ] at v0 v1
      have HW10 := hide hw10
      have HG10 := hide hg10
      clear hw10 hg10 hV hE9 hE810 HE8 HL8 HRS HA8 hA
      unfold fltV
      go_upto_region 6 with fail
      rw [← HW10.out, ← HG10.out]
      have HTAIL := hide (fun (w1 : World) (hE : Ext w10 w1) => HWY.out w1 (HE10.out.trans' hE) g (HL10.out.ext hE) HGD.out z60)
      have key : ∃ L : List Nat, L = whyL (leqI ws os) rs (f1, f2) := ⟨_, rfl⟩
      obtain ⟨L, hL⟩ := key
      have hLb : L.length ≤ 1000000 := by
        rw [hL]
        unfold whyL
        split
        · have h1 := rowP_le (leqI ws os) rs (rl rs f2.toNat).2.2 (flowsN (leqI ws os) rs f2.toNat) (rl rs f2.toNat).2.1
          have h2 := firstD_le (fun d => startsB (leqI ws os) rs (rl rs f2.toNat).2.1 d (rl rs f2.toNat).2.2) rs.length
          have h3 : ∀ (o : Option Nat), o.toList.length ≤ 1 := fun o => by cases o <;> simp
          have h4 := h3 (fIdx (lowAt (leqI ws os) rs (rl rs f2.toNat).2.2 (rowH (leqI ws os) rs f2.toNat).2) rs.length)
          have h5 := HZ.out
          show (traceL (leqI ws os) rs f2.toNat).length ≤ _
          unfold traceL
          simp only [List.length_reverse, List.length_append, List.length_cons]
          unfold rowH at h4 ⊢
          unfold flowsN at h1 h4 ⊢
          omega
        · exact Nat.zero_le _
      have HL := hide hL
      clear hL
      by_cases h18 : f1 = 18
      · subst h18
        obtain ⟨h0, hf2, hh0, hk3, hrow, hno⟩ := flow_case HGD.out.lat HA.out rfl
        obtain ⟨hsb, hst⟩ := flow_start HGD.out.lat HA.out rfl h0 hf2
        simp only at hf2
        subst hf2
        obtain ⟨k, hk, hk64, hfit⟩ := hsb
        obtain ⟨d0, hd0⟩ := hst
        have hLt : traceL (leqI ws os) rs h0 = L := by rw [HL.out]; unfold whyL; rw [if_pos rfl]; rfl
        have HWh := hide (fun (w1 : World) (hE1 : Ext w10 w1) (AQ : Option Addr) (cQ : Nat) (hr : RlsAt w1 w1.heap.size AQ rs) => refWhy_any AM cM n M ws os AQ cQ z k rs h0 d0 w1 (HA10.out.below hE1 hE1.size) HSQ.out (by rw [HLE.out, HN.out]) HN.out HMT.out hr HZ.out z60 hk64 (by rw [HN.out]; exact hfit) hh0 hk3 hd0)
        rw [hLt] at HWh
        clear hno hrow hLt hk hfit hd0 hk3 hh0
        go_upto_region 8 with fail
        have hS := v1
        have HX := hide ((Ext.rfl' w10).drew')
        go_cut [12] (fun v wx => SeesAt L w10 v wx)
        case first =>
          go_region_held3 (fun w' => w'.cell? ⟨g10, 1, none⟩ = some (.int .i64 (h0 : Nat))) (first | go_keep | exact hS)
            ((first
              | (go_at_call 28
                 refine (HOW.out _ (HE10.out.trans' HX.out) z60).mono ?_
                 rintro e w1 ⟨A4, c4, rfl, hA, hE⟩
                 have HX := hide (Ext.trans' HX.out hE)
                 have HMX := hide hA
                 rw [← HZ.out]
                 have hS := (HV.out.ext HX.out).cell 1
                 simp only [List.getElem?_toArray, List.getElem?_cons_zero, List.getElem?_cons_succ] at hS
                 clear hE hA)
              | (go_at_call 29
                 refine (HWh.out _ HX.out _ _ HMX.out).mono ?_
                 rintro e w1 ⟨A6, c6, rfl, hP, hE⟩
                 have HX := hide (Ext.trans' HX.out hE)
                 have HPX := hide hP
                 have hS := (HV.out.ext HX.out).cell 1
                 simp only [List.getElem?_toArray, List.getElem?_cons_zero, List.getElem?_cons_succ] at hS
                 clear hE hP)))
          all_goals (go_wp2_with fail; go_meet)
          all_goals exact ⟨_, _, rfl, HPX.out, HX.out⟩
        case rest =>
          obtain ⟨A12, c12, rfl, hN12, hEc⟩ := hcut
          obtain ⟨w11, hw11⟩ : ∃ w1, w1 = wc := ⟨_, rfl⟩
          rw [← hw11] at hN12 hEc ⊢
          clear hw11
          have HN12 := hide hN12
          have HEC := hide hEc
          have HT1 := hide (HTAIL.out w11 hEc)
          clear hN12 hEc v0 v1
          go_wp2_with fail
          refine HT1.out.mono ?_
          rintro e w13 ⟨y', f', hA', A13, c13, rfl, hN13, hE13⟩
          obtain ⟨rfl, rfl⟩ := HA.out.one HGD.out.lat.po hA'
          rw [← HL.out] at hN13 ⊢
          have HN13 := hide hN13.ints
          have HN12 := hide (HN12.out.ext hE13).ints
          have HE13 := hide (HEC.out.trans' hE13)
          clear hN13 hE13 hA' HT1
          go_wp2_with fail
          refine (same_any A13 c13 L.length (L.map fun (v : Nat) => (v : Int)) A12 c12 L.length (L.map fun (v : Nat) => (v : Int)) w13 HN13.out (by rw [List.length_map]) (by omega) HN12.out (by rw [List.length_map]) (by omega)).mono ?_
          rintro e w14 ⟨rfl, hE14⟩
          rw [show decide ((L.map fun (v : Nat) => (v : Int)) = (L.map fun (v : Nat) => (v : Int))) = true from decide_eq_true rfl]
          have HE14 := hide (HE13.out.trans' hE14)
          clear hE14 HN12 HN13
          go_wp2_with fail
          refine (why_nil np A5 c5 z w14).mono ?_
          rintro e w15 ⟨rfl, hE15⟩
          have HE15 := hide (HE14.out.trans' hE15)
          clear hE15
          go_wp2_with fail
          refine (solLives_any w15).mono ?_
          rintro e w16 ⟨rfl, hE16⟩
          have HE16 := hide (HE10.out.trans' (HE15.out.trans' hE16))
          clear hE16
          go_wp2_with fail
          go_ret
          exact ⟨rfl, HE16.out⟩
      · have hne : (f1 == 18) = false := by simpa using h18
        have hLe : L = [] := by rw [HL.out]; unfold whyL; rw [if_neg h18]
        subst hLe
        have HN12 := hide (show IntAt w10 w10.heap.size none [] from Reads.none_)
        have HT1 := hide (HTAIL.out w10 (Ext.rfl' w10))
        go_wp2_with fail
        refine HT1.out.mono ?_
        rintro e w13 ⟨y', f', hA', A13, c13, rfl, hN13, hE13⟩
        obtain ⟨rfl, rfl⟩ := HA.out.one HGD.out.lat.po hA'
        rw [← HL.out] at hN13 ⊢
        have HN13 := hide hN13.ints
        have HN12 := hide (HN12.out.ext hE13)
        have HE13 := hide hE13
        clear hN13 hE13 hA' HT1 v0 v1
        go_wp2_with fail
        refine (same_any A13 c13 0 [] none 0 0 [] w13 HN13.out rfl (by omega) HN12.out rfl (by omega)).mono ?_
        rintro e w14 ⟨rfl, hE14⟩
        rw [show decide (([] : List Int) = []) = true from rfl]
        have HE14 := hide (HE13.out.trans' hE14)
        clear hE14 HN12 HN13
        go_wp2_with fail
        refine (why_nil np A5 c5 z w14).mono ?_
        rintro e w15 ⟨rfl, hE15⟩
        have HE15 := hide (HE14.out.trans' hE15)
        clear hE15
        go_wp2_with fail
        refine (solLives_any w15).mono ?_
        rintro e w16 ⟨rfl, hE16⟩
        have HE16 := hide (HE10.out.trans' (HE15.out.trans' hE16))
        clear hE16
        go_wp2_with fail
        go_ret
        exact ⟨rfl, HE16.out⟩
end Go.Proofs.YtpjlhpaenmfieaaGreat
