/- lattice: Build, walked. -/
import Derived.Test.YtpjlhpaenmfieaaGreatLatJ
namespace Go.Proofs.YtpjlhpaenmfieaaGreat
open Go.RowKit

theorem loopBad_some {ws : List Wd} {os : List (Wd × Wd)} {a : Nat} (h : refLoop (leads ws.length (prs ws os)) = some a) : loopBad ws os = (11, wPl ws a) ∧ a < ws.length := by
  unfold loopBad
  rw [h]
  refine ⟨rfl, ?_⟩
  have := List.mem_of_find?_eq_some h
  rw [List.mem_range, leads_length] at this
  exact this
theorem loopBad_none {ws : List Wd} {os : List (Wd × Wd)} (h : refLoop (leads ws.length (prs ws os)) = none) : loopBad ws os = boundBad ws os := by
  unfold loopBad
  rw [h]
theorem bounds_cases (n : Nat) (L : Nat → Nat → Bool) : LatM.boundsL n L = -1 ∨ ∃ b : Nat, b < n ∧ LatM.boundsL n L = b := by
  unfold LatM.boundsL
  cases hf : (List.range n).find? (LatM.lacks n L) with
  | none => exact .inl rfl
  | some b => exact .inr ⟨b, List.mem_range.1 (List.mem_of_find?_eq_some hf), rfl⟩
theorem boundBad_some {ws : List Wd} {os : List (Wd × Wd)} {b : Nat} (h : LatM.boundsL ws.length (leqL ws os) = b) : boundBad ws os = (12, wPl ws b) := by
  unfold boundBad
  rw [h, if_neg (by omega), Int.toNat_natCast]
theorem boundBad_none {ws : List Wd} {os : List (Wd × Wd)} (h : LatM.boundsL ws.length (leqL ws os) = -1) : boundBad ws os = (0, 0) := by
  unfold boundBad
  rw [h, if_pos (by omega)]

set_option maxRecDepth 100000 in
set_option maxHeartbeats 4000000 in
theorem build_any (A : Option Addr) (c n : Nat) (ws : List Wd) (A2 : Option Addr) (c2 m : Nat) (os : List (Wd × Wd)) (w : World) (h : WdsAt w w.heap.size A ws) (hsz : ∀ i, (wNm ws i).size ≤ maxLen) (hn : n = ws.length) (h2 : OdsAt w w.heap.size A2 os) (hm : m = os.length) :
    Calls Tryz.prog 10 #[.slice A n c, .slice A2 m c2] w (BuildPost ws os w) := by
  have HN := hide hn
  have HM := hide hm
  have HMany := hide (fun (w1 : World) (hE : Ext w w1) => many_any A c n ws A2 c2 m os w1 (h.ext hE) hn (h2.ext hE) hm)
  have HCal := hide (fun (w1 : World) (hE : Ext w w1) (hle : n ≤ 1000) => called_any A c n ws w1 (h.ext hE) hsz hn hle)
  have HNum := hide (fun (w1 : World) (hE : Ext w w1) (gt : Nat) (hT : TabAt w1 gt (nms ws)) (hle : n ≤ 1000) (hle2 : m ≤ 1000) => numbered_any gt ws A2 c2 m os w1 hT (by omega) (h2.ext hE) hm hle2)
  have HW := hide h
  clear h h2
  rcases many_split ws os with ⟨hf, hp, hs, ho⟩ | ⟨x, y, hf, hx, hw⟩
  · rw [hf, show fltV (0, 0) = .agg #[.int .i64 0, .int .i64 0] from rfl] at HMany
    have hn0 : 0 < n := by omega
    have hn1 : n ≤ 32 := by omega
    have hm1 : m ≤ 256 := by omega
    obtain ⟨hw1, hw2, hw3⟩ := wrong_few hp hs ho
    have HW1 := hide hw1
    have HW2 := hide hw2
    have HW3 := hide hw3
    clear hf hp hs ho hw1 hw2 hw3 hn hm
    go_enter Tryz.func10, Tryz.ntmps10
    go_wp2_with fail
    refine (HMany.out _ ((Ext.rfl' w).alloc (Nat.le_refl _) _)).mono ?_
    rintro e w1 ⟨rfl, hE1⟩
    have hF := (Blk.new w 31 #[.int .i64 0, .int .i64 0]).ext hE1
    have HE1 := hide (Ext.trans' ((Ext.rfl' w).alloc (Nat.le_refl _) _) hE1)
    have HF := hide hF
    clear hE1 hF HMany
    go_wp2_with fail
    refine (HCal.out _ (HE1.out.alloc HE1.out.size _) (by omega)).mono ?_
    rintro e w2 (⟨⟨x, y⟩, hx, rfl, hE2⟩ | ⟨hx, A3, c3, rfl, hS, hE2⟩)
    · have hw := HW1.out _ (by rw [← HN.out]; exact hx)
      have hx0 := nameBad_ne hx
      have hxb : ((x : Int) != 0) = true := by rw [bne_iff_ne]; exact hx0
      have hF := (HF.out.alloc (.cells #[.int .i64 0, .int .i64 0] 31)).ext hE2
      have b0 := hF.cell 0
      have b1 := hF.cell 1
      have f0 := hF.free 0
      have f1 := hF.free 1
      have l0 := hF.lt
      simp only [List.getElem?_toArray, List.getElem?_cons_zero, List.getElem?_cons_succ] at b0 b1
      have HE2 := hide (Ext.trans' (HE1.out.alloc HE1.out.size _) hE2)
      have HFF := hide hF
      have HWW := hide hw
      have HX := hide hx0
      rw [show fltV (x, y) = .agg #[.int .i64 x, .int .i64 y] from rfl]
      clear hE2 hF hw hx0 hx
      go_wp2_with fail
      go_region
      go_wp2_with fail
      exact val_flt_ret (f := (x, y)) (g := w.heap.size) (v := .pointer none) (((HFF.out.set_ 0 _).set_ 1 _).alloc _) rfl rfl rfl rfl (.inl ⟨by rw [HWW.out]; exact HX.out, by rw [HWW.out], ((ext_two HE2.out _ _).alloc (by simpa using HE2.out.size) _).drew⟩)
    · have HX := hide hx
      have hF := (HF.out.alloc (.cells #[.int .i64 0, .int .i64 0] 31)).ext hE2
      have HE2 := hide (Ext.trans' (HE1.out.alloc HE1.out.size _) hE2)
      have HFF := hide hF
      have HS := hide hS
      have HNew := hide (fun (w4 : World) (hE : Ext w2 w4) => tabNew_any A3 c3 n (nms ws) w4 (hS.ext hE) (by rw [nms_length]; exact HN.out) (by omega))
      rw [show fltV (0, 0) = .agg #[.int .i64 0, .int .i64 0] from rfl]
      clear hE2 hF hS HF HE1 hx
      go_wp2_with fail
      refine (HNew.out _ ((Ext.rfl' w2).alloc (Nat.le_refl _) _)).mono ?_
      rintro e w3 ⟨gt, rfl, hT, hE3⟩
      have HE23 := hide (Ext.trans' ((Ext.rfl' w2).alloc (Nat.le_refl _) _) hE3)
      have HG := hide ((Blk.new w2 31 #[.int .i64 0, .int .i64 0]).ext hE3)
      have HT := hide hT
      clear hE3 hT HNew
      go_wp2_with ((with_reducible refine wpList_build_lat rfl _ _ rfl (.slice A3 n c3) (.pointer (some ⟨gt, 0, none⟩)) rfl rfl rfl rfl ?_); intro cs hcs; have q1 := hcs.out.2.2.1)
      clear q1
      obtain ⟨g, hg⟩ : ∃ g, g = w3.heap.size := ⟨_, rfl⟩
      rw [← hg]
      have hL := hcs.out.blk (Blk.new_eq w3 78 cs hg)
      obtain ⟨w4, hw4⟩ : ∃ w4, w4 = w3.alloc (.cells cs 78) := ⟨_, rfl⟩
      have hE4 : Ext w3 w4 := by rw [hw4]; exact (Ext.rfl' w3).alloc (Nat.le_refl _) _
      rw [← hw4] at hL ⊢
      have HL := hide hL
      have HG4 := hide (HG.out.ext hE4)
      have HT4 := hide (HT.out.ext hE4)
      have HE24 := hide (HE23.out.trans' hE4)
      have HE34 := hide hE4
      have HGG := hide hg
      have HT3 := hide HT.out
      clear hcs hL hE4 hw4 hg HG HT
      refine (HNum.out _ (HE2.out.trans' HE24.out) gt HT4.out (by omega) (by omega)).mono ?_
      rintro e w5 (⟨⟨x, y⟩, hx, rfl, hE5⟩ | ⟨hx2, A5, c5, rfl, hP, hE5⟩)
      · have hw := HW2.out (by rw [← HN.out]; exact HX.out) _ (by rw [← HM.out]; exact hx)
        have hx0 := orderBad_ne hx
        have hxb : ((x : Int) != 0) = true := by rw [bne_iff_ne]; exact hx0
        have hF := (HFF.out.ext HE24.out).ext hE5
        have hG := HG4.out.ext hE5
        have b0 := hF.cell 0
        have b1 := hF.cell 1
        have f0 := hF.free 0
        have f1 := hF.free 1
        have l0 := hF.lt
        have d0 := hG.cell 0
        have d1 := hG.cell 1
        have g0 := hG.free 0
        have g1 := hG.free 1
        have l1 := hG.lt
        have l2 := HFF.out.lt
        have l3 : w.heap.size ≠ w2.heap.size := by omega
        have l4 : w2.heap.size ≠ w.heap.size := by omega
        simp only [List.getElem?_toArray, List.getElem?_cons_zero, List.getElem?_cons_succ] at b0 b1 d0 d1
        have HE5 := hide ((HE2.out.trans' HE24.out).trans' hE5)
        have HF5 := hide hF
        have HWW := hide hw
        have HX0 := hide hx0
        rw [show fltV (x, y) = .agg #[.int .i64 x, .int .i64 y] from rfl]
        clear hE5 hF hG hw hx0 hx
        go_wp2_with fail
        go_region
        go_wp2_with fail
        exact val_flt_ret (f := (x, y)) (g := w.heap.size) (v := .pointer none) ((((HF5.out.far (p := ⟨w2.heap.size, 0, none⟩) l3 _).far (p := ⟨w2.heap.size, 1, none⟩) l3 _).set_ 0 _).set_ 1 _) rfl rfl rfl rfl
          (.inl ⟨by rw [HWW.out]; exact HX0.out, by rw [HWW.out], (ext_two ((HE5.out.setCell (p := ⟨w2.heap.size, 0, none⟩) (show w.heap.size ≤ w2.heap.size by omega) _).setCell (p := ⟨w2.heap.size, 1, none⟩) (show w.heap.size ≤ w2.heap.size by omega) _) _ _).drew⟩)
      · have HOK := hide (prs_ok (firstOf_miss.1 (by rw [← HM.out]; exact hx2)))
        have HX2 := hide hx2
        have hlen : (prs ws os).length = m := by rw [prs_length]; exact HM.out.symm
        have HRN : Hid (Calls Tryz.prog 36 #[.int .i64 n, .slice A5 m c5] w5 (NewPost n (prs ws os) w5)) := by rw [← hlen]; exact hide (relNew_any n (by omega) A5 c5 (prs ws os) w5 hP (by omega))
        have hG := HG4.out.ext hE5
        have s0 := setCell_same w5 hG (i := 0) (v := .int .i64 0) rfl
        have s1 := setCell_same w5 hG (i := 1) (v := .int .i64 0) rfl
        have d0 := hG.cell 0
        have d1 := hG.cell 1
        have g0 := hG.free 0
        have g1 := hG.free 1
        have l1 := hG.lt
        simp only [List.getElem?_toArray, List.getElem?_cons_zero, List.getElem?_cons_succ] at d0 d1
        have HE35 := hide (HE34.out.trans' hE5)
        have HL5 := hide (HL.out.ext hE5)
        rw [show fltV (0, 0) = .agg #[.int .i64 0, .int .i64 0] from rfl]
        clear hE5 hG hlen hP hx2 HNum
        go_wp2_with fail
        refine HRN.out.mono ?_
        rintro e w6 (⟨hok, bo, rfl, hR, hE6⟩ | ⟨hok, _⟩)
        · have HR := hide hR
          have HOK2 := hide hok
          have HE36 := hide (HE35.out.trans' hE6)
          have HL6 := hide (HL5.out.ext hE6)
          clear hE6 hok hR s0 s1 d0 d1 g0 g1 l1 HRN
          go_wp2_with fail
          refine (relLoop_any bo _ _ HR.out).mono ?_
          rintro e w7 ⟨rfl, hE7⟩
          have hlp := loop_eq (show n ≤ 64 by omega) HOK2.out
          obtain ⟨lp, hlpe⟩ : ∃ lp, lp = loopOf (RelM.close (newRows n (prs ws os))) := ⟨_, rfl⟩
          rw [← hlpe] at hlp ⊢
          have HLP := hide hlp
          have HE37 := hide (HE36.out.trans' hE7)
          have HL7 := hide (HL6.out.ext hE7)
          have HR7 := hide (HR.out.ext hE7)
          clear hlpe hE7 hlp
          cases lp with
          | some a =>
            obtain ⟨hlb, han⟩ := loopBad_some (by rw [← HN.out]; exact HLP.out.symm)
            have hw := (HW3.out (by rw [← HN.out]; exact HX.out) (by rw [← HM.out]; exact HX2.out)).trans hlb
            rw [← HN.out] at han
            have hE7 := (HE2.out.trans' (HE23.out.trans' HE37.out))
            obtain ⟨b, o, rfl, hbs, hcell⟩ := HW.out.cell (by rw [← HN.out]; omega)
            have hp := (hcell a (by rw [← HN.out]; exact han)).2
            obtain ⟨p, hpe⟩ : ∃ p, p = wPl ws a := ⟨_, rfl⟩
            rw [← hpe] at hp hw
            have q1 : w7.cell? ⟨b, o + a * 2 + 1, none⟩ = some (.int .i64 p) := (hE7.cell (p := ⟨b, o + a * 2 + 1, none⟩) hbs).trans hp
            have hF := HFF.out.ext (HE23.out.trans' HE37.out)
            have b0 := hF.cell 0
            have b1 := hF.cell 1
            have f0 := hF.free 0
            have f1 := hF.free 1
            simp only [List.getElem?_toArray, List.getElem?_cons_zero, List.getElem?_cons_succ] at b0 b1
            have i0 : (0 : Int) ≤ (a : Int) := by omega
            have i1 : (a : Int) < (n : Int) := by omega
            have HE7 := hide hE7
            have HF7 := hide hF
            have HWW := hide hw
            clear hE7 hF hw hlb hpe hp hcell hbs
            go_wp2_with fail
            go_region
            go_wp2_with fail
            exact val_flt_ret (f := (11, p)) (g := w.heap.size) (v := .pointer none) ((HF7.out.set_ 0 _).set_ 1 _) rfl rfl rfl rfl (.inl ⟨by rw [HWW.out]; exact show (11 : Int) ≠ 0 by decide, by rw [HWW.out], (ext_two HE7.out _ _).drew⟩)
          | none =>
            have HW4 := hide ((HW3.out (by rw [← HN.out]; exact HX.out) (by rw [← HM.out]; exact HX2.out)).trans (loopBad_none (by rw [← HN.out]; exact HLP.out.symm)))
            have HPO := hide (po_of HOK2.out HLP.out.symm)
            go_wp2_with fail
            refine (relClose_any bo _ _ HR7.out).mono ?_
            rintro e w8 ⟨gr, rfl, hC, hE8⟩
            have HE38 := hide (HE37.out.trans' hE8)
            have hL8 := HL7.out.ext hE8
            have c2f := hL8.free 2
            have c20 := hL8.cell2
            have l8 := hL8.lt
            have HL8 := hide hL8
            have HC := hide hC
            clear hE8 hL8 hC HL7 HR7
            go_wp2_with fail
            have hL9 := HL8.out.set2 (.pointer (some ⟨gr, 0, none⟩))
            have hR9 : RelAt (w8.setCell ⟨g, 2, none⟩ (.pointer (some ⟨gr, 0, none⟩))) gr (RelM.close (newRows n (prs ws os))) := by
              obtain ⟨cs, hB, _⟩ := HL8.out
              exact HC.out.kept hB (by decide) (by decide) (fun k _ hk => Below.heap_setCell w8 _ _ k hk)
            have hE9 : Ext w3 (w8.setCell ⟨g, 2, none⟩ (.pointer (some ⟨gr, 0, none⟩))) := HE38.out.setCell (p := ⟨g, 2, none⟩) (by rw [HGG.out]; exact Nat.le_refl _) _
            obtain ⟨w9, hw9⟩ : ∃ w9, w9 = w8.setCell ⟨g, 2, none⟩ (.pointer (some ⟨gr, 0, none⟩)) := ⟨_, rfl⟩
            rw [← hw9] at hL9 hR9 hE9 ⊢
            clear hw9 c2f c20 l8 HL8 HC
            refine (bounds_any g gr n c3 A3 _ _ _ _ (leqL ws os) w9 hL9 hR9 hn1 (by rw [HN.out] at HPO ⊢; exact HPO.out) (fun a b ha hb => by rw [close_has_mat HOK2.out a b ha hb, HN.out]; rfl)).mono ?_
            rintro e w10 ⟨rfl, hG, hres⟩
            have hE10 : Ext w3 w10 := hE9.grown hG hE9.size (fun k hk => by cases hk; rw [HGG.out]; exact Nat.le_refl _)
            have hF := HFF.out.ext (HE23.out.trans' hE10)
            have b0 := hF.cell 0
            have b1 := hF.cell 1
            have f0 := hF.free 0
            have f1 := hF.free 1
            simp only [List.getElem?_toArray, List.getElem?_cons_zero, List.getElem?_cons_succ] at b0 b1
            have HE3 := hide hE10
            have HE10 := hide (HE2.out.trans' (HE23.out.trans' hE10))
            have HF10 := hide hF
            have hbc := bounds_cases n (leqL ws os)
            obtain ⟨bb, hbb⟩ : ∃ bb, bb = LatM.boundsL n (leqL ws os) := ⟨_, rfl⟩
            rw [← hbb] at hres hbc ⊢
            have HRES := hide hres
            have HBB := hide hbb
            clear hE9 hL9 hR9 hG hE10 hres hbb
            rcases hbc with rfl | ⟨b, hbn, rfl⟩
            · have s0 := setCell_same w10 hF (i := 0) (v := .int .i64 0) rfl
              have s1 := setCell_same w10 hF (i := 1) (v := .int .i64 0) rfl
              clear hF
              go_wp2_with fail
              obtain ⟨hR, J, M, hL, hJM⟩ := HRES.out (by decide)
              exact val_flt_ret (f := (0, 0)) (g := w.heap.size) (v := .pointer (some ⟨g, 0, none⟩)) HF10.out rfl rfl rfl rfl
                (.inr ⟨HW4.out.trans (boundBad_none (by rw [← HN.out]; exact HBB.out.symm)), g, rfl, ⟨A3, c3, gt, gr, J, M, by rw [← HN.out]; exact hL, HS.out.ext (HE23.out.trans' HE3.out), HT3.out.ext HE3.out, by rw [← HN.out]; exact hR, by rw [← HN.out]; exact hJM⟩, HE10.out⟩)
            · have hw := HW4.out.trans (boundBad_some (by rw [← HN.out]; exact HBB.out.symm))
              obtain ⟨b', o, rfl, hbs, hcell⟩ := HW.out.cell (by rw [← HN.out]; omega)
              have hp := (hcell b (by rw [← HN.out]; exact hbn)).2
              obtain ⟨p, hpe⟩ : ∃ p, p = wPl ws b := ⟨_, rfl⟩
              rw [← hpe] at hp hw
              have q1 : w10.cell? ⟨b', o + b * 2 + 1, none⟩ = some (.int .i64 p) := (HE10.out.cell (p := ⟨b', o + b * 2 + 1, none⟩) hbs).trans hp
              have i0 : (0 : Int) ≤ (b : Int) := by omega
              have i1 : (b : Int) < (n : Int) := by omega
              have i2 : ((b : Int) != -1) = true := by rw [bne_iff_ne]; omega
              have HWW := hide hw
              clear hF hw hpe hp hcell hbs
              go_wp2_with fail
              go_region
              go_wp2_with fail
              exact val_flt_ret (f := (12, p)) (g := w.heap.size) (v := .pointer none) ((HF10.out.set_ 0 _).set_ 1 _) rfl rfl rfl rfl (.inl ⟨by rw [HWW.out]; exact show (12 : Int) ≠ 0 by decide, by rw [HWW.out], (ext_two HE10.out _ _).drew⟩)
        · rw [HN.out, HOK.out] at hok; cases hok
  · rw [hf, show fltV (x, y) = .agg #[.int .i64 x, .int .i64 y] from rfl] at HMany
    have hxb : ((x : Int) != 0) = true := by rw [bne_iff_ne]; exact hx
    have HX := hide hx
    have HWW := hide hw
    clear hf hx hw hn hm
    go_enter Tryz.func10, Tryz.ntmps10
    go_wp2_with fail
    refine (HMany.out _ ((Ext.rfl' w).alloc (Nat.le_refl _) _)).mono ?_
    rintro e w1 ⟨rfl, hE1⟩
    have hF := (Blk.new w 31 #[.int .i64 0, .int .i64 0]).ext hE1
    have b0 := hF.cell 0
    have b1 := hF.cell 1
    have f0 := hF.free 0
    have f1 := hF.free 1
    have l0 := hF.lt
    simp only [List.getElem?_toArray, List.getElem?_cons_zero, List.getElem?_cons_succ] at b0 b1
    have HE1 := hide (Ext.trans' ((Ext.rfl' w).alloc (Nat.le_refl _) _) hE1)
    have HF := hide hF
    clear hE1 hF HMany
    go_wp2_with fail
    go_region
    go_wp2_with fail
    exact val_flt_ret (f := (x, y)) (g := w.heap.size) (v := .pointer none) (((HF.out.set_ 0 _).set_ 1 _).alloc _) rfl rfl rfl rfl (.inl ⟨by rw [HWW.out]; exact HX.out, by rw [HWW.out], ((ext_two HE1.out _ _).alloc (by simpa using HE1.out.size) _).drew⟩)
end Go.Proofs.YtpjlhpaenmfieaaGreat
