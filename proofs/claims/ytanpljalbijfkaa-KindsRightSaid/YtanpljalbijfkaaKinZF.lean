/- kinds: the document's parts, walked, by Wrong's contract. (Printed by wip/gen_kinzf.py.) -/
import Derived.Test.YtanpljalbijfkaaKinZE
import Derived.Test.YtanpljalbijfkaaKinZB
namespace Go.Proofs.Ytanpljalbijfkaa
open Go.RowKit

theorem ext_of_grw {gc : Nat} {w w' : World} (h : Grw gc w w') (hg : w.heap.size ≤ gc) : Ext w w' :=
  ext_of_grown ⟨h.os, h.tape, h.output, h.size, fun i hi _ => h.block i hi (fun e => by cases e; exact absurd hi (Nat.not_lt.2 hg))⟩

set_option maxRecDepth 100000 in
set_option maxHeartbeats 8000000 in
theorem rparts_7 (a lo hi mo s1 : Int) (s0 : ByteArray) (nn cn cp n : Nat) (An Ap : Option Addr) (p : Nat → PtH) (t : Nat → Ty) (d m : Int) (w : World) (hP : PartsAt w w.heap.size Ap n p t) (hsz : ∀ i, i < n → (p i).name.1.size ≤ maxLen ∧ WdsSz (p i).label ∧ WdsSz (p i).cl ∧ TySz (t i)) (hsub : ∀ i, i < n → WrgC (t i) (IntKind.i64.wrap (d + 1))) :
    Calls Try.prog 23 #[.agg #[.int .i64 0, .int .i64 0, .int .i64 m], .agg #[.int .i64 7, .int .i64 a, .int .i64 lo, .int .i64 hi, .int .i64 mo, .slice An nn cn, .slice Ap n cp, .string s0, .int .i64 s1], .int .i64 d] w (fun e w' => e = .returned (wrV (if 64 < n then ((8, (p 64).name.2), m) else goTo (stepF 7 n p t (fun i m' => chk (t i) (IntKind.i64.wrap (d + 1)) m')) n m)) ∧ Ext w w') := by
  have e1 := IntWalk.i64_left (d + 1)
  rw [e1] at hsub ⊢
  clear e1
  obtain ⟨w0, hw0⟩ : ∃ x, x = ((w.alloc (.cells #[.int .i64 0, .int .i64 0, .int .i64 m] 35)).alloc (.cells #[.int .i64 7, .int .i64 a, .int .i64 lo, .int .i64 hi, .int .i64 mo, .slice An nn cn, .slice Ap n cp, .string s0, .int .i64 s1] 27)).alloc (.cells #[.int .i64 0, .int .i64 0, .int .i64 0] 35) := ⟨_, rfl⟩
  have hV : Blk w0 w.heap.size 35 #[.int .i64 0, .int .i64 0, .int .i64 m] := by rw [hw0]; exact ((Blk.new _ _ _).alloc _).alloc _
  have hT : Blk w0 (w.heap.size + 1) 27 #[.int .i64 7, .int .i64 a, .int .i64 lo, .int .i64 hi, .int .i64 mo, .slice An nn cn, .slice Ap n cp, .string s0, .int .i64 s1] := by
    rw [hw0]; have := Blk.new (w.alloc (.cells #[.int .i64 0, .int .i64 0, .int .i64 m] 35)) 27 #[.int .i64 7, .int .i64 a, .int .i64 lo, .int .i64 hi, .int .i64 mo, .slice An nn cn, .slice Ap n cp, .string s0, .int .i64 s1]; exact Blk.alloc (by simpa only [World.size_alloc] using this) _
  have hF : Blk w0 (w.heap.size + 2) 35 #[.int .i64 0, .int .i64 0, .int .i64 0] := by
    rw [hw0]; have := Blk.new ((w.alloc (.cells #[.int .i64 0, .int .i64 0, .int .i64 m] 35)).alloc (.cells #[.int .i64 7, .int .i64 a, .int .i64 lo, .int .i64 hi, .int .i64 mo, .slice An nn cn, .slice Ap n cp, .string s0, .int .i64 s1] 27)) 35 #[.int .i64 0, .int .i64 0, .int .i64 0]; simpa only [World.size_alloc] using this
  have hE : Ext w w0 := by rw [hw0]; exact (((Ext.rfl' w).alloc (Nat.le_refl _) _).alloc (by simp only [World.size_alloc]; omega) _).alloc (by simp only [World.size_alloc]; omega) _
  have hs0 : w0.heap.size = w.heap.size + 3 := by rw [hw0]; simp only [World.size_alloc]
  have n1 : w.heap.size + 2 ≠ w.heap.size := by omega
  have n2 : w.heap.size + 1 ≠ w.heap.size := by omega
  have hlo : w.heap.size ≤ w.heap.size + 2 := by omega
  have hgl : w.heap.size ≤ w.heap.size := Nat.le_refl _
  have hP0 := hP.ext hE
  obtain ⟨gf, hgf⟩ : ∃ g, g = w.heap.size + 2 := ⟨_, rfl⟩
  obtain ⟨gt, hgt⟩ : ∃ g, g = w.heap.size + 1 := ⟨_, rfl⟩
  obtain ⟨gw, hgw⟩ : ∃ g, g = w.heap.size := ⟨_, rfl⟩
  rw [← hgf] at hF hlo n1
  rw [← hgt] at hT n2
  have hgl2 : gw < w0.heap.size := by omega
  rw [← hgw] at hV
  have n1' : gf ≠ gw := by rw [hgw]; exact n1
  have n2' : gt ≠ gw := by rw [hgw]; exact n2
  have hgl' : w.heap.size ≤ gw := by rw [hgw]; exact hgl
  have HW := hide hw0
  have HGF := hide hgf
  have HGT := hide hgt
  have HGW := hide hgw
  have HF := hide hF
  have HE := hide hE
  have HW0 := hide hV
  have HT := hide hT
  have HN := hide n1'
  have HN2 := hide n2'
  have HLO := hide hlo
  have HGL := hide hgl'
  have HGL2 := hide hgl2
  have HG0 := hide (show Grw gw w0 w0 from .of_ext (Ext.rfl' _))
  have HF0 := HF
  have HT0 := HT
  have b0 := HF0.out.cell 0
  have b1 := HF0.out.cell 1
  have b2 := HF0.out.cell 2
  have f0 := HF0.out.free 0
  have f1 := HF0.out.free 1
  have f2 := HF0.out.free 2
  have c0 := HW0.out.cell 0
  have c1 := HW0.out.cell 1
  have c2 := HW0.out.cell 2
  have g0 := HW0.out.free 0
  have g1 := HW0.out.free 1
  have g2 := HW0.out.free 2
  have t0 := HT0.out.cell 0
  have t1 := HT0.out.cell 1
  have t6 := HT0.out.cell 6
  simp only [List.getElem?_toArray, List.getElem?_cons_zero, List.getElem?_cons_succ] at b0 b1 b2 c0 c1 c2 t0 t1 t6
  clear hw0 hF hE hV hT n1 n2 n1' n2' hlo hgf hgt hgw hgl hgl' hgl2 hs0
  by_cases z1 : 64 < n
  · obtain ⟨R, hR⟩ : ∃ R : Wr, R = ((8, (p 64).name.2), m) := ⟨_, rfl⟩
    rw [if_pos z1, ← hR]
    obtain ⟨b, o, rfl, hbs, _⟩ := hP0 (by omega)
    obtain ⟨_, d1⟩ := part_cell hP0 rfl z1
    obtain ⟨x, hx⟩ : ∃ x, x = (p 64).name.2 := ⟨_, rfl⟩
    rw [← hx] at d1 hR
    have HR := hide hR
    have i0 : ((n : Int) == 0) = false := by simp; omega
    have i1 : (64 : Int) < (n : Int) := by omega
    clear hP hP0 hsz hsub hR hx hbs
    go_enter Try.func23, Try.ntmps23
    go_upto_region 1 with fail
    rw [← HW.out, ← HGF.out, ← HGT.out, ← HGW.out]
    go_upto_region 4 with fail
    go_still_tail 7, (by kernel_rfl)
    change wpList _ _ _ _ _ w0.drew
    go_wp2_with fail
    refine (with_any 0 0 m 8 x _).mono ?_
    rintro e w5 ⟨rfl, hE5'⟩
    have hE5 := ((Ext.rfl' w0).drew').trans' hE5'
    have HG5 := hide (HG0.out.ext hE5)
    have HW5 := hide (HW0.out.ext hE5)
    have HF5 := hide (HG5.out.blk HF.out HN.out)
    have HT5 := hide (HG5.out.blk HT.out HN2.out)
    have b0 := HF5.out.cell 0
    have b1 := HF5.out.cell 1
    have b2 := HF5.out.cell 2
    have f0 := HF5.out.free 0
    have f1 := HF5.out.free 1
    have f2 := HF5.out.free 2
    have c0 := HW5.out.cell 0
    have c1 := HW5.out.cell 1
    have c2 := HW5.out.cell 2
    have g0 := HW5.out.free 0
    have g1 := HW5.out.free 1
    have g2 := HW5.out.free 2
    have t0 := HT5.out.cell 0
    have t1 := HT5.out.cell 1
    have t6 := HT5.out.cell 6
    simp only [List.getElem?_toArray, List.getElem?_cons_zero, List.getElem?_cons_succ] at b0 b1 b2 c0 c1 c2 t0 t1 t6
    unfold wrV
    clear hE5
    go_wp2_with fail
    exact wr_ret (r := ((8, x), m)) (g := gf) (((HF5.out.set_ 0 _).set_ 1 _).set_ 2 _) rfl rfl rfl ⟨by rw [HR.out], (((ext_of_grw ((Grw.of_ext HE.out).trans HG5.out) HGL.out).setCell HLO.out _).setCell HLO.out _).setCell HLO.out _⟩
  rw [if_neg z1]
  obtain ⟨g, hg⟩ : ∃ g, g = stepF 7 n p t (fun i m' => chk (t i) (wrap64 (d + 1)) m') := ⟨_, rfl⟩
  rw [← hg]
  have HSTEP := hide (fun k m' (hl : listE (pNames n p) k = 0) => (show g k m' = partR false (p k) (t k) (fun m => chk (t k) (wrap64 (d + 1)) m) m' by rw [hg]; exact stepF_part false (by decide) hl))
  have HBAD := hide (fun k m' (hl : listE (pNames n p) k ≠ 0) => (show g k m' = ((listE (pNames n p) k, (p k).name.2), m') by rw [hg]; exact stepF_bad hl))
  have hz : ∀ i m', i < n → (g i m').1.1 = 0 → (g i m').1 = (0, 0) := fun i m' _ e => by rw [hg] at e ⊢; exact stepF_zero e
  have HZ := hide (fun (h : (goTo g n m).1.1 = 0) => goTo_zero hz (Nat.le_refl _) h)
  have HPP := hide hP
  have HSZ := hide hsz
  have HSUB := hide hsub
  have i0 : ((n : Int) == 0) = false ∨ n = 0 := by by_cases h : n = 0; exact .inr h; exact .inl (by simp; omega)
  have i1 : ¬ (64 : Int) < (n : Int) := by omega
  have H64 := hide z1
  clear hg hz hP hP0 hsz hsub z1
  clear i0
  go_enter Try.func23, Try.ntmps23
  go_upto_region 1 with fail
  rw [← HW.out, ← HGF.out, ← HGT.out, ← HGW.out]
  go_wp2_with fail
  clear b0 b1 b2 f0 f1 f2 c0 c1 c2 g0 g1 g2 t0 t1 t6
  go_loopw [7] (fun i wr => ∃ k : Nat, k ≤ n ∧ i = .int .i64 k ∧ Grw gw w0 wr ∧ (goTo g k m).1.1 = 0 ∧ Blk wr gw 35 #[.int .i64 0, .int .i64 0, .int .i64 (goTo g k m).2]) (fun i _ => n - (intOf i).toNat)
  case atStart => exact ⟨0, Nat.zero_le _, rfl, .of_ext (Ext.rfl' _), rfl, HW0.out⟩
  case round =>
    obtain ⟨k, hk, rfl, hG, hgo, hWk⟩ := hrel
    have HG4 := hide hG
    have hEw : Ext w wr := ext_of_grw ((Grw.of_ext HE.out).trans hG) HGL.out
    by_cases hlt : k < n
    · obtain ⟨b, o, rfl, hbs, hcell⟩ := HPP.out (by omega)
      obtain ⟨vs, hr0, hpa⟩ := hcell k hlt
      have hs := HSZ.out k hlt
      have hr1 : wr.rangeAt b (o + k * 18) vs := fun j v hv => (hEw.cell (p := ⟨b, o + k * 18 + j, none⟩) hbs).trans (hr0 j v hv)
      have hvl : vs.length = 18 := hpa.len
      have hvo : vs.toArray.all (·.oneCell') = true := hpa.one
      obtain ⟨Al, cl, Ac, cc, vt, hvs, hlb, hcc, htt⟩ := id hpa
      have hv0 : vs[0]? = some (.string (p k).name.1) := by rw [hvs]; rfl
      have hv1 : vs[1]? = some (.int .i64 (p k).name.2) := by rw [hvs]; rfl
      have hv2 : vs[2]? = some (.bool (p k).bare) := by rw [hvs]; rfl
      have hv3 : vs[3]? = some (.slice Al (p k).label.length cl) := by rw [hvs]; rfl
      have hv4 : vs[4]? = some (.int .i64 (p k).wide) := by rw [hvs]; rfl
      have htl : vt.length = 9 := by obtain ⟨y0, y1, y2, y3, y4, y5, y6, y7, y8, e⟩ := htt.nine; rw [e]; rfl
      have hrg : ∀ w1 gv, Blk w1 gv 52 vs.toArray → w1.rangeAt gv 9 vt := fun w1 gv hB j v hv => by
        have := blk_range hB (9 + j) v (by rw [hvs, List.getElem?_append_right (by show 9 ≤ 9 + j; omega)]; rw [show 9 + j - (ptV (p k) Al cl Ac cc).length = j by show 9 + j - 9 = j; omega]; exact hv)
        rwa [Nat.zero_add] at this
      have hnms := fun (w1 : World) (hE : Ext w w1) => refNames_any (some ⟨b, o, none⟩) cp n p t w1 (PartsAt.ext (fun h => HPP.out h) hE) (by have := H64.out; omega)
      have hlst := fun (w1 : World) (A : Option Addr) (c : Nat) (h : WdsAt w1 w1.heap.size A (pWds n p)) => refListed_any A c n k (pWds n p) w1 h (pWds_length n p).symm hlt (by have := H64.out; omega) (fun j => by
        unfold wNm
        rcases Nat.lt_or_ge j n with hj | hj
        · rw [pWds_at hj]; exact (HSZ.out j hj).1
        · rw [List.getD_eq_getElem?_getD, List.getElem?_eq_none (by rw [pWds_length]; exact hj)]; exact Nat.zero_le _)
      have hlab := fun w1 (hE : Ext w w1) => refLabel_any Al cl (p k).label.length (p k).label w1 (hlb.ext hE) rfl hs.2.1
      have hco := fun w1 (hE : Ext w w1) => refCoarse_any (p k) (t k) w1 vs (hpa.ext hE) hs.2.2.1
      have hzero := fun w1 (hE : Ext w w1) => zero_any (t k) w1 vt (htt.ext hE) hs.2.2.2
      have hpl := fun w1 (hE : Ext w w1) => plain_any (p k) (zPt wd0 true) (t k) zTy w1 vs (ptV (zPt wd0 true) none 0 none 0 ++ zCells) (hpa.ext hE) (zPt_at _ _ _ _) hs.2.1 hs.2.2.1
      have hwrg := fun w1 (hE : Ext w w1) => HSUB.out k hlt (goTo g k m).2 w1 vt (htt.ext hE)
      have hbad := fun hh => HBAD.out k (goTo g k m).2 hh
      have hstp := fun hh => HSTEP.out k (goTo g k m).2 hh
      have hnx : goTo g (k + 1) m = g k (goTo g k m).2 := goTo_next hgo
      have hstk : (goTo g (k + 1) m).1.1 ≠ 0 → goTo g n m = goTo g (k + 1) m := goTo_stick hlt
      have hpr : partR false (p k) (t k) (fun m => chk (t k) (wrap64 (d + 1)) m) (goTo g k m).2 = if (p k).bare = true then (if false = true ∧ (plainB (p k) (zPt wd0 true) && sameT (t k) zTy) = true then ((0, 0), (goTo g k m).2) else ((19, (p k).name.2), (goTo g k m).2)) else if (partF (p k)).1 ≠ 0 then (partF (p k), (goTo g k m).2) else chk (t k) (wrap64 (d + 1)) (goTo g k m).2 := by
        unfold partR
        rw [show bareB (p k) (t k) = (plainB (p k) (zPt wd0 true) && sameT (t k) zTy) by unfold bareB ptEq; rw [show decide ((p k).name.1 = (zPt (p k).name true).name.1) = true from decide_eq_true rfl, Bool.true_and]; rfl]
      have hckz : ∀ {m'}, (chk (t k) (wrap64 (d + 1)) m').1.1 = 0 → (chk (t k) (wrap64 (d + 1)) m').1 = (0, 0) := fun e => chk_zero (t k) e
      have hckz := @hckz (goTo g k m).2
      have hpf : partF (p k) = if (p k).wide < 0 ∨ 64 < (p k).wide then (20, (p k).name.2) else if (labelF (p k).label).1 = 0 then coarseF (p k) else labelF (p k).label := rfl
      rw [pWds_nms] at hlst
      rw [hpr] at hstp
      generalize plainB (p k) (zPt wd0 true) = PB at hpl hstp
      generalize sameT (t k) zTy = ZB at hzero hstp
      generalize partF (p k) = PF at hstp hpf
      generalize labelF (p k).label = LF at hlab hpf
      generalize coarseF (p k) = CF at hco hpf
      generalize chk (t k) (wrap64 (d + 1)) (goTo g k m).2 = CK at hstp hwrg hckz
      obtain ⟨NX, hNX⟩ : ∃ x, x = goTo g (k + 1) m := ⟨_, rfl⟩
      obtain ⟨R, hRn⟩ : ∃ x, x = goTo g n m := ⟨_, rfl⟩
      rw [← hNX] at hnx hstk
      rw [← hRn] at hstk
      have HNXE := hide hNX
      have HRN := hide hRn
      clear hNX hRn hpr
      generalize (goTo g k m).2 = mk at hWk hbad hstp hnx hwrg
      obtain ⟨y, hy⟩ : ∃ y, y = (p k).name.2 := ⟨_, rfl⟩
      obtain ⟨x, hx⟩ : ∃ y, y = (p k).name.1 := ⟨_, rfl⟩
      obtain ⟨br, hbr⟩ : ∃ y, y = (p k).bare := ⟨_, rfl⟩
      obtain ⟨wi, hwi⟩ : ∃ y, y = (p k).wide := ⟨_, rfl⟩
      obtain ⟨nl, hnl⟩ : ∃ y, y = (p k).label.length := ⟨_, rfl⟩
      obtain ⟨ev, hev⟩ : ∃ v, v = listE (pNames n p) k := ⟨_, rfl⟩
      rw [← hx] at hv0
      rw [← hy] at hbad hv1 hstp hpf
      rw [← hbr] at hv2 hstp
      rw [← hnl] at hv3 hlab
      rw [← hwi] at hv4 hpf
      rw [← hev] at hbad hstp hlst
      obtain ⟨w1, hw1⟩ : ∃ wz, wz = wr.alloc (.cells vs.toArray 52) := ⟨_, rfl⟩
      have hE1 : Ext wr w1 := by rw [hw1]; exact (Ext.rfl' wr).alloc (Nat.le_refl _) _
      have hB1 : Blk w1 wr.heap.size 52 vs.toArray := by rw [hw1]; exact Blk.new _ _ _
      obtain ⟨gv, hgv⟩ : ∃ g, g = wr.heap.size := ⟨_, rfl⟩
      rw [← hgv] at hB1
      have HV0 := hide hv0
      have HV1 := hide hv1
      have HV2 := hide hv2
      have HV3 := hide hv3
      have HV4 := hide hv4
      have HP1 := hide hB1
      have HW4 := hide hWk
      have HG1 := hide (HG4.out.ext hE1)
      have HW1 := hide (HW4.out.ext hE1)
      have HF1 := hide (HG1.out.blk HF.out HN.out)
      have HT1 := hide (HG1.out.blk HT.out HN2.out)
      have ht6 := (HG4.out.blk HT.out HN2.out).cell 6
      simp only [List.getElem?_toArray, List.getElem?_cons_zero, List.getElem?_cons_succ] at ht6
      have b0 := HF1.out.cell 0
      have b1 := HF1.out.cell 1
      have b2 := HF1.out.cell 2
      have f0 := HF1.out.free 0
      have f1 := HF1.out.free 1
      have f2 := HF1.out.free 2
      have c0 := HW1.out.cell 0
      have c1 := HW1.out.cell 1
      have c2 := HW1.out.cell 2
      have g0 := HW1.out.free 0
      have g1 := HW1.out.free 1
      have g2 := HW1.out.free 2
      have t0 := HT1.out.cell 0
      have t1 := HT1.out.cell 1
      have t6 := HT1.out.cell 6
      simp only [List.getElem?_toArray, List.getElem?_cons_zero, List.getElem?_cons_succ] at b0 b1 b2 c0 c1 c2 t0 t1 t6
      have v0 := blk_at HP1.out HV0.out
      have v1 := blk_at HP1.out HV1.out
      have v2 := blk_at HP1.out HV2.out
      have v3 := blk_at HP1.out HV3.out
      have v4 := blk_at HP1.out HV4.out
      have HAL := hide hw1
      have HAG := hide hgv
      have HNMS := hide hnms
      have HLST := hide hlst
      have HLAB := hide hlab
      have HCO := hide hco
      have HZERO := hide hzero
      have HPL := hide (show ∀ w1, Ext w w1 → Calls Try.prog 22 #[.agg vs.toArray, .agg #[.string ⟨#[]⟩, .int .i64 0, .bool true, .slice none 0 0, .int .i64 0, .int .i64 0, .int .i64 0, .int .i64 0, .slice none 0 0, .int .i64 0, .int .i64 0, .int .i64 0, .int .i64 0, .int .i64 0, .slice none 0 0, .slice none 0 0, .string ⟨#[]⟩, .int .i64 0]] w1 (fun e w' => e = .returned (.bool PB) ∧ Ext w1 w') from hpl)
      have HWRG := hide hwrg
      have HBADK := hide hbad
      have HSTP := hide hstp
      have HNX := hide hnx
      have HSTK := hide hstk
      have HCKZ := hide hckz
      have HPF := hide hpf
      have HVL := hide hvl
      have HVO := hide hvo
      have HTL := hide htl
      have HR1 := hide hr1
      have HRG := hide hrg
      have i2 : (0 : Int) ≤ (k : Int) := by omega
      have i3 : (k : Int) < (n : Int) := by omega
      clear hw1 hE1 hB1 hgv hnms hlst hlab hco hzero hpl hwrg hbad hstp hnx hstk hckz hpf hvl hvo htl hr1 hr0 hrg hv0 hv1 hv2 hv3 hv4 hpa hlb hcc htt hvs hcell hs hgo hWk hG hEw hx hy hbr hwi hnl hev HZ hbs
      have t6 := ht6
      go_upto_region 8 with fail
      refine wp_region_lit ?_
      refine wpList_plain rfl ?_
      intro K1 hK1
      go_simp
      refine hK1 _ _ ?_
      refine wpList_plain rfl ?_
      intro K2 hK2
      go_simp
      refine hK2 _ _ ?_
      refine wpList_plain rfl ?_
      intro K3 hK3
      go_simp
      refine hK3 _ _ ?_
      refine wpList_plain rfl ?_
      intro K4 hK4
      go_simp
      refine hK4 _ _ ?_
      refine wpList_load_mid rfl 52 _ rfl b (o + k * 18) rfl vs _ HR1.out Try.underlying52 rfl (infoPart' HVL.out) ?_
      refine wpList_plain rfl ?_
      intro K5 hK5
      go_simp
      refine hK5 _ _ ?_
      refine wpList_store_new rfl 52 _ _ rfl _ vs.toArray rfl rfl (infoPartA HVL.out) (by show _ = vs.length; rw [HVL.out]; rfl) HVO.out ?_
      go_upto_region 9 with fail
      rw [← HAL.out, ← HAG.out]
      have t6 := HT1.out.cell 6
      simp only [List.getElem?_toArray, List.getElem?_cons_zero, List.getElem?_cons_succ] at t6
      clear ht6
      go_wp2_with fail
      refine (HNMS.out _ (ext_of_grw ((Grw.of_ext HE.out).trans HG1.out) HGL.out)).mono ?_
      rintro e w2 ⟨A, c, rfl, hA, hE2⟩
      have hE2g := hE2
      have HG2 := hide (HG1.out.ext hE2)
      have HW2 := hide (HW1.out.ext hE2)
      have HP2 := hide (HP1.out.ext hE2)
      have HLI := hide (HLST.out w2 A c hA)
      clear hA hE2 hE2g b0 b1 b2 f0 f1 f2 c0 c1 c2 g0 g1 g2 t0 t1 t6 v0 v1 v2 v3 v4
      go_wp2_with fail
      refine HLI.out.mono ?_
      rintro e w3 ⟨rfl, hE3⟩
      have HG3 := hide (HG2.out.ext hE3)
      have HW3 := hide (HW2.out.ext hE3)
      have HF3 := hide (HG3.out.blk HF.out HN.out)
      have HT3 := hide (HG3.out.blk HT.out HN2.out)
      have HP3 := hide (HP2.out.ext hE3)
      have b0 := HF3.out.cell 0
      have b1 := HF3.out.cell 1
      have b2 := HF3.out.cell 2
      have f0 := HF3.out.free 0
      have f1 := HF3.out.free 1
      have f2 := HF3.out.free 2
      have c0 := HW3.out.cell 0
      have c1 := HW3.out.cell 1
      have c2 := HW3.out.cell 2
      have g0 := HW3.out.free 0
      have g1 := HW3.out.free 1
      have g2 := HW3.out.free 2
      have t0 := HT3.out.cell 0
      have t1 := HT3.out.cell 1
      have t6 := HT3.out.cell 6
      simp only [List.getElem?_toArray, List.getElem?_cons_zero, List.getElem?_cons_succ] at b0 b1 b2 c0 c1 c2 t0 t1 t6
      have v0 := blk_at HP3.out HV0.out
      have v1 := blk_at HP3.out HV1.out
      have v2 := blk_at HP3.out HV2.out
      have v3 := blk_at HP3.out HV3.out
      have v4 := blk_at HP3.out HV4.out
      clear hE3
      by_cases he : ev = 0
      · have HPR := hide (HSTP.out he)
        subst he
        clear HBADK HSTP
        cases br with
        | true =>
          have HPR2 := hide (show g k mk = ((19, y), mk) by rw [HPR.out, if_pos rfl, if_neg (fun hh => by cases hh.1)])
          have HR := hide (show R = ((19, y), mk) by rw [HSTK.out (by rw [HNX.out, HPR2.out]; show (19 : Int) ≠ 0; decide), HNX.out, HPR2.out])
          clear HSTK HNX HPR HPR2
          go_wp2_with fail
          refine (with_any 0 0 mk 19 y _).mono ?_
          rintro e w5 ⟨rfl, hE5⟩
          have HG5 := hide (HG3.out.ext hE5)
          have HW5 := hide (HW3.out.ext hE5)
          have HF5 := hide (HG5.out.blk HF.out HN.out)
          have HT5 := hide (HG5.out.blk HT.out HN2.out)
          have HP5 := hide (HP3.out.ext hE5)
          have b0 := HF5.out.cell 0
          have b1 := HF5.out.cell 1
          have b2 := HF5.out.cell 2
          have f0 := HF5.out.free 0
          have f1 := HF5.out.free 1
          have f2 := HF5.out.free 2
          have c0 := HW5.out.cell 0
          have c1 := HW5.out.cell 1
          have c2 := HW5.out.cell 2
          have g0 := HW5.out.free 0
          have g1 := HW5.out.free 1
          have g2 := HW5.out.free 2
          have t0 := HT5.out.cell 0
          have t1 := HT5.out.cell 1
          have t6 := HT5.out.cell 6
          simp only [List.getElem?_toArray, List.getElem?_cons_zero, List.getElem?_cons_succ] at b0 b1 b2 c0 c1 c2 t0 t1 t6
          have v0 := blk_at HP5.out HV0.out
          have v1 := blk_at HP5.out HV1.out
          have v2 := blk_at HP5.out HV2.out
          have v3 := blk_at HP5.out HV3.out
          have v4 := blk_at HP5.out HV4.out
          unfold wrV
          clear hE5
          go_wp2_with fail
          exact wr_ret (r := ((19, y), mk)) (g := gf) (((HF5.out.set_ 0 _).set_ 1 _).set_ 2 _) rfl rfl rfl ⟨by rw [← HRN.out, HR.out], (((ext_of_grw ((Grw.of_ext HE.out).trans HG5.out) HGL.out).setCell HLO.out _).setCell HLO.out _).setCell HLO.out _⟩
        | false =>
          have HPR1 := hide (show g k mk = if PF.1 ≠ 0 then (PF, mk) else CK by rw [HPR.out, if_neg (by decide)])
          clear HPR
          obtain ⟨w6, hw6⟩ : ∃ wz, wz = w3.alloc (.cells #[.int .i64 0, .int .i64 0] 32) := ⟨_, rfl⟩
          have hE6 : Ext w3 w6 := by rw [hw6]; exact (Ext.rfl' w3).alloc (Nat.le_refl _) _
          have hz6 : Blk w6 w3.heap.size 32 #[.int .i64 0, .int .i64 0] := by rw [hw6]; exact Blk.new _ _ _
          obtain ⟨gz, hgz⟩ : ∃ g, g = w3.heap.size := ⟨_, rfl⟩
          rw [← hgz] at hz6
          have hzn : gz ≠ gw := by have := HG3.out.sz; have := HGL2.out; omega
          have hzf : gz ≠ gf := by have := HG3.out.sz; have := HF.out.lt; omega
          have hzl : w.heap.size ≤ gz := by have := HG3.out.sz; have := HGL2.out; have := HGL.out; omega
          have hzl0 : w0.heap.size ≤ gz := by have := HG3.out.sz; omega
          have hzv : gv ≠ gz := by have := HP3.out.lt; omega
          have HZV := hide hzv
          have HZB6 := hide hz6
          have HZN := hide hzn
          have HZF := hide hzf
          have HZL0 := hide hzl0
          have HAL6 := hide hw6
          have HAG6 := hide hgz
          have HG6 := hide (HG3.out.ext hE6)
          have HW6 := hide (HW3.out.ext hE6)
          have HF6 := hide (HG6.out.blk HF.out HN.out)
          have HT6 := hide (HG6.out.blk HT.out HN2.out)
          have HP6 := hide (HP3.out.ext hE6)
          have b0 := HF6.out.cell 0
          have b1 := HF6.out.cell 1
          have b2 := HF6.out.cell 2
          have f0 := HF6.out.free 0
          have f1 := HF6.out.free 1
          have f2 := HF6.out.free 2
          have c0 := HW6.out.cell 0
          have c1 := HW6.out.cell 1
          have c2 := HW6.out.cell 2
          have g0 := HW6.out.free 0
          have g1 := HW6.out.free 1
          have g2 := HW6.out.free 2
          have t0 := HT6.out.cell 0
          have t1 := HT6.out.cell 1
          have t6 := HT6.out.cell 6
          simp only [List.getElem?_toArray, List.getElem?_cons_zero, List.getElem?_cons_succ] at b0 b1 b2 c0 c1 c2 t0 t1 t6
          have v0 := blk_at HP6.out HV0.out
          have v1 := blk_at HP6.out HV1.out
          have v2 := blk_at HP6.out HV2.out
          have v3 := blk_at HP6.out HV3.out
          have v4 := blk_at HP6.out HV4.out
          have u0 := HZB6.out.cell 0
          have u1 := HZB6.out.cell 1
          have x0 := HZB6.out.free 0
          have x1 := HZB6.out.free 1
          simp only [List.getElem?_toArray, List.getElem?_cons_zero, List.getElem?_cons_succ] at u0 u1
          clear hw6 hE6 hz6 hgz hzv hzn hzf hzl hzl0
          go_upto_region 16 with fail
          rw [← HAL6.out, ← HAG6.out]
          by_cases e1 : wi < 0
          · have HPF2 := hide (show PF = (20, y) by rw [HPF.out, if_pos (.inl e1)])
            have HPR2 := hide (show g k mk = ((20, y), mk) by rw [HPR1.out, HPF2.out]; rfl)
            have HR := hide (show R = ((20, y), mk) by rw [HSTK.out (by rw [HNX.out, HPR2.out]; show (20 : Int) ≠ 0; decide), HNX.out, HPR2.out])
            clear HSTK HNX HPR1 HPR2 HPF HPF2
            go_upto_region 17 with fail
            obtain ⟨w7, hw7⟩ : ∃ wz, wz = (w6.setCell ⟨gz, 0, none⟩ (.int .i64 20)).setCell ⟨gz, 1, none⟩ (.int .i64 y) := ⟨_, rfl⟩
            have HG7 := hide (show Grw gw w0 w7 by rw [hw7]; exact (HG6.out.set (.inl HZL0.out) _).set (.inl HZL0.out) _)
            have HW7 := hide (show Blk w7 gw 35 #[.int .i64 0, .int .i64 0, .int .i64 mk] by rw [hw7]; exact (HW6.out.far HZN.out.symm _).far HZN.out.symm _)
            have HP7 := hide (show Blk w7 gv 52 vs.toArray by rw [hw7]; exact (HP6.out.far HZV.out _).far HZV.out _)
            have HZB7 := hide (show Blk w7 gz 32 #[.int .i64 20, .int .i64 y] by rw [hw7]; exact (HZB6.out.set_ 0 _).set_ 1 _)
            have HF7 := hide (HG7.out.blk HF.out HN.out)
            have HT7 := hide (HG7.out.blk HT.out HN2.out)
            have HS7 := hide hw7
            have u0 := HZB6.out.cell 0
            have u1 := HZB6.out.cell 1
            have x0 := HZB6.out.free 0
            have x1 := HZB6.out.free 1
            simp only [List.getElem?_toArray, List.getElem?_cons_zero, List.getElem?_cons_succ] at u0 u1
            clear hw7
            go_upto_region 18 with fail
            rw [← HS7.out]
            have u0 := HZB7.out.cell 0
            have u1 := HZB7.out.cell 1
            have x0 := HZB7.out.free 0
            have x1 := HZB7.out.free 1
            simp only [List.getElem?_toArray, List.getElem?_cons_zero, List.getElem?_cons_succ] at u0 u1
            have b0 := HF7.out.cell 0
            have b1 := HF7.out.cell 1
            have b2 := HF7.out.cell 2
            have f0 := HF7.out.free 0
            have f1 := HF7.out.free 1
            have f2 := HF7.out.free 2
            have c0 := HW7.out.cell 0
            have c1 := HW7.out.cell 1
            have c2 := HW7.out.cell 2
            have g0 := HW7.out.free 0
            have g1 := HW7.out.free 1
            have g2 := HW7.out.free 2
            have t0 := HT7.out.cell 0
            have t1 := HT7.out.cell 1
            have t6 := HT7.out.cell 6
            simp only [List.getElem?_toArray, List.getElem?_cons_zero, List.getElem?_cons_succ] at b0 b1 b2 c0 c1 c2 t0 t1 t6
            have v0 := blk_at HP7.out HV0.out
            have v1 := blk_at HP7.out HV1.out
            have v2 := blk_at HP7.out HV2.out
            have v3 := blk_at HP7.out HV3.out
            have v4 := blk_at HP7.out HV4.out
            go_wp2_with fail
            exact wr_ret (r := ((20, y), mk)) (g := gf) (((HF7.out.set_ 0 _).set_ 1 _).set_ 2 _) rfl rfl rfl ⟨by rw [← HRN.out, HR.out], (((ext_of_grw ((Grw.of_ext HE.out).trans HG7.out) HGL.out).setCell HLO.out _).setCell HLO.out _).setCell HLO.out _⟩
          by_cases e2 : 64 < wi
          · have HPF2 := hide (show PF = (20, y) by rw [HPF.out, if_pos (.inr e2)])
            have HPR2 := hide (show g k mk = ((20, y), mk) by rw [HPR1.out, HPF2.out]; rfl)
            have HR := hide (show R = ((20, y), mk) by rw [HSTK.out (by rw [HNX.out, HPR2.out]; show (20 : Int) ≠ 0; decide), HNX.out, HPR2.out])
            clear HSTK HNX HPR1 HPR2 HPF HPF2
            go_upto_region 17 with fail
            obtain ⟨w7, hw7⟩ : ∃ wz, wz = (w6.setCell ⟨gz, 0, none⟩ (.int .i64 20)).setCell ⟨gz, 1, none⟩ (.int .i64 y) := ⟨_, rfl⟩
            have HG7 := hide (show Grw gw w0 w7 by rw [hw7]; exact (HG6.out.set (.inl HZL0.out) _).set (.inl HZL0.out) _)
            have HW7 := hide (show Blk w7 gw 35 #[.int .i64 0, .int .i64 0, .int .i64 mk] by rw [hw7]; exact (HW6.out.far HZN.out.symm _).far HZN.out.symm _)
            have HP7 := hide (show Blk w7 gv 52 vs.toArray by rw [hw7]; exact (HP6.out.far HZV.out _).far HZV.out _)
            have HZB7 := hide (show Blk w7 gz 32 #[.int .i64 20, .int .i64 y] by rw [hw7]; exact (HZB6.out.set_ 0 _).set_ 1 _)
            have HF7 := hide (HG7.out.blk HF.out HN.out)
            have HT7 := hide (HG7.out.blk HT.out HN2.out)
            have HS7 := hide hw7
            have u0 := HZB6.out.cell 0
            have u1 := HZB6.out.cell 1
            have x0 := HZB6.out.free 0
            have x1 := HZB6.out.free 1
            simp only [List.getElem?_toArray, List.getElem?_cons_zero, List.getElem?_cons_succ] at u0 u1
            clear hw7
            go_upto_region 18 with fail
            rw [← HS7.out]
            have u0 := HZB7.out.cell 0
            have u1 := HZB7.out.cell 1
            have x0 := HZB7.out.free 0
            have x1 := HZB7.out.free 1
            simp only [List.getElem?_toArray, List.getElem?_cons_zero, List.getElem?_cons_succ] at u0 u1
            have b0 := HF7.out.cell 0
            have b1 := HF7.out.cell 1
            have b2 := HF7.out.cell 2
            have f0 := HF7.out.free 0
            have f1 := HF7.out.free 1
            have f2 := HF7.out.free 2
            have c0 := HW7.out.cell 0
            have c1 := HW7.out.cell 1
            have c2 := HW7.out.cell 2
            have g0 := HW7.out.free 0
            have g1 := HW7.out.free 1
            have g2 := HW7.out.free 2
            have t0 := HT7.out.cell 0
            have t1 := HT7.out.cell 1
            have t6 := HT7.out.cell 6
            simp only [List.getElem?_toArray, List.getElem?_cons_zero, List.getElem?_cons_succ] at b0 b1 b2 c0 c1 c2 t0 t1 t6
            have v0 := blk_at HP7.out HV0.out
            have v1 := blk_at HP7.out HV1.out
            have v2 := blk_at HP7.out HV2.out
            have v3 := blk_at HP7.out HV3.out
            have v4 := blk_at HP7.out HV4.out
            go_wp2_with fail
            exact wr_ret (r := ((20, y), mk)) (g := gf) (((HF7.out.set_ 0 _).set_ 1 _).set_ 2 _) rfl rfl rfl ⟨by rw [← HRN.out, HR.out], (((ext_of_grw ((Grw.of_ext HE.out).trans HG7.out) HGL.out).setCell HLO.out _).setCell HLO.out _).setCell HLO.out _⟩
          have HPF2 := hide (show PF = if LF.1 = 0 then CF else LF by rw [HPF.out, if_neg (fun hh => hh.elim e1 e2)])
          clear HPF
          go_upto_region 19 with fail
          clear b0 b1 b2 f0 f1 f2 c0 c1 c2 g0 g1 g2 t0 t1 t6 u0 u1 x0 x1
          go_wp2_with fail
          refine (HLAB.out _ (ext_of_grw ((Grw.of_ext HE.out).trans HG6.out) HGL.out)).mono ?_
          rintro e w7 ⟨rfl, hE7⟩
          obtain ⟨L1, L2⟩ := LF
          have HG7 := hide (HG6.out.ext hE7)
          have HW7 := hide (HW6.out.ext hE7)
          have HP7 := hide (HP6.out.ext hE7)
          have HZB7 := hide (HZB6.out.ext hE7)
          obtain ⟨w8, hw8⟩ : ∃ wz, wz = (w7.setCell ⟨gz, 0, none⟩ (.int .i64 L1)).setCell ⟨gz, 1, none⟩ (.int .i64 L2) := ⟨_, rfl⟩
          have HG8 := hide (show Grw gw w0 w8 by rw [hw8]; exact (HG7.out.set (.inl HZL0.out) _).set (.inl HZL0.out) _)
          have HW8 := hide (show Blk w8 gw 35 #[.int .i64 0, .int .i64 0, .int .i64 mk] by rw [hw8]; exact (HW7.out.far HZN.out.symm _).far HZN.out.symm _)
          have HP8 := hide (show Blk w8 gv 52 vs.toArray by rw [hw8]; exact (HP7.out.far HZV.out _).far HZV.out _)
          have HZB8 := hide (show Blk w8 gz 32 #[.int .i64 L1, .int .i64 L2] by rw [hw8]; exact (HZB7.out.set_ 0 _).set_ 1 _)
          have HF8 := hide (HG8.out.blk HF.out HN.out)
          have HT8 := hide (HG8.out.blk HT.out HN2.out)
          have HS8 := hide hw8
          have u0 := HZB7.out.cell 0
          have u1 := HZB7.out.cell 1
          have x0 := HZB7.out.free 0
          have x1 := HZB7.out.free 1
          simp only [List.getElem?_toArray, List.getElem?_cons_zero, List.getElem?_cons_succ] at u0 u1
          clear hw8 hE7
          unfold fltV
          go_upto_region 20 with fail
          rw [← HS8.out]
          have u0 := HZB8.out.cell 0
          have u1 := HZB8.out.cell 1
          have x0 := HZB8.out.free 0
          have x1 := HZB8.out.free 1
          simp only [List.getElem?_toArray, List.getElem?_cons_zero, List.getElem?_cons_succ] at u0 u1
          have b0 := HF8.out.cell 0
          have b1 := HF8.out.cell 1
          have b2 := HF8.out.cell 2
          have f0 := HF8.out.free 0
          have f1 := HF8.out.free 1
          have f2 := HF8.out.free 2
          have c0 := HW8.out.cell 0
          have c1 := HW8.out.cell 1
          have c2 := HW8.out.cell 2
          have g0 := HW8.out.free 0
          have g1 := HW8.out.free 1
          have g2 := HW8.out.free 2
          have t0 := HT8.out.cell 0
          have t1 := HT8.out.cell 1
          have t6 := HT8.out.cell 6
          simp only [List.getElem?_toArray, List.getElem?_cons_zero, List.getElem?_cons_succ] at b0 b1 b2 c0 c1 c2 t0 t1 t6
          have v0 := blk_at HP8.out HV0.out
          have v1 := blk_at HP8.out HV1.out
          have v2 := blk_at HP8.out HV2.out
          have v3 := blk_at HP8.out HV3.out
          have v4 := blk_at HP8.out HV4.out
          by_cases l1 : L1 = 0
          · subst l1
            have HPF3 := hide (show PF = CF by rw [HPF2.out]; rfl)
            clear HPF2
            go_upto_region 21 with fail
            refine wp_region_lit ?_
            refine wpList_load_mid rfl 52 _ rfl gv 0 rfl vs _ (blk_range HP8.out) Try.underlying52 rfl (infoPart' HVL.out) ?_
            clear b0 b1 b2 f0 f1 f2 c0 c1 c2 g0 g1 g2 t0 t1 t6 u0 u1 x0 x1 v0 v1 v2 v3 v4
            go_wp2_with fail
            refine (HCO.out _ (ext_of_grw ((Grw.of_ext HE.out).trans HG8.out) HGL.out)).mono ?_
            rintro e w9 ⟨rfl, hE9⟩
            obtain ⟨C1, C2⟩ := CF
            have HG9 := hide (HG8.out.ext hE9)
            have HW9 := hide (HW8.out.ext hE9)
            have HP9 := hide (HP8.out.ext hE9)
            have HZB9 := hide (HZB8.out.ext hE9)
            obtain ⟨w10, hw10⟩ : ∃ wz, wz = (w9.setCell ⟨gz, 0, none⟩ (.int .i64 C1)).setCell ⟨gz, 1, none⟩ (.int .i64 C2) := ⟨_, rfl⟩
            have HG10 := hide (show Grw gw w0 w10 by rw [hw10]; exact (HG9.out.set (.inl HZL0.out) _).set (.inl HZL0.out) _)
            have HW10 := hide (show Blk w10 gw 35 #[.int .i64 0, .int .i64 0, .int .i64 mk] by rw [hw10]; exact (HW9.out.far HZN.out.symm _).far HZN.out.symm _)
            have HP10 := hide (show Blk w10 gv 52 vs.toArray by rw [hw10]; exact (HP9.out.far HZV.out _).far HZV.out _)
            have HZB10 := hide (show Blk w10 gz 32 #[.int .i64 C1, .int .i64 C2] by rw [hw10]; exact (HZB9.out.set_ 0 _).set_ 1 _)
            have HF10 := hide (HG10.out.blk HF.out HN.out)
            have HT10 := hide (HG10.out.blk HT.out HN2.out)
            have HS10 := hide hw10
            have u0 := HZB9.out.cell 0
            have u1 := HZB9.out.cell 1
            have x0 := HZB9.out.free 0
            have x1 := HZB9.out.free 1
            simp only [List.getElem?_toArray, List.getElem?_cons_zero, List.getElem?_cons_succ] at u0 u1
            clear hw10 hE9
            unfold fltV
            go_upto_region 22 with fail
            rw [← HS10.out]
            have u0 := HZB10.out.cell 0
            have u1 := HZB10.out.cell 1
            have x0 := HZB10.out.free 0
            have x1 := HZB10.out.free 1
            simp only [List.getElem?_toArray, List.getElem?_cons_zero, List.getElem?_cons_succ] at u0 u1
            have b0 := HF10.out.cell 0
            have b1 := HF10.out.cell 1
            have b2 := HF10.out.cell 2
            have f0 := HF10.out.free 0
            have f1 := HF10.out.free 1
            have f2 := HF10.out.free 2
            have c0 := HW10.out.cell 0
            have c1 := HW10.out.cell 1
            have c2 := HW10.out.cell 2
            have g0 := HW10.out.free 0
            have g1 := HW10.out.free 1
            have g2 := HW10.out.free 2
            have t0 := HT10.out.cell 0
            have t1 := HT10.out.cell 1
            have t6 := HT10.out.cell 6
            simp only [List.getElem?_toArray, List.getElem?_cons_zero, List.getElem?_cons_succ] at b0 b1 b2 c0 c1 c2 t0 t1 t6
            have v0 := blk_at HP10.out HV0.out
            have v1 := blk_at HP10.out HV1.out
            have v2 := blk_at HP10.out HV2.out
            have v3 := blk_at HP10.out HV3.out
            have v4 := blk_at HP10.out HV4.out
            by_cases l2 : C1 = 0
            · subst l2
              have HPR2 := hide (show g k mk = CK by rw [HPR1.out, HPF3.out]; rfl)
              clear HPR1 HPF3
              go_upto_region 24 with fail
              refine wp_region_lit ?_
              refine wpList_plain rfl ?_
              intro K31 hK31
              go_simp
              refine hK31 _ _ ?_
              refine wpList_plain rfl ?_
              intro K32 hK32
              go_simp
              refine hK32 _ _ ?_
              refine wpList_load_mid rfl 27 _ rfl gv 9 rfl vt _ (HRG.out _ _ HP10.out) Try.underlying27 rfl (infoTy' HTL.out) ?_
              clear b0 b1 b2 f0 f1 f2 t0 t1 t6 u0 u1 x0 x1 v0 v1 v2 v3 v4
              go_wp2_with fail
              refine (HWRG.out _ (ext_of_grw ((Grw.of_ext HE.out).trans HG10.out) HGL.out)).mono ?_
              rintro e w11 ⟨rfl, hE11⟩
              obtain ⟨⟨D1, D2⟩, D3⟩ := CK
              have HG11 := hide (HG10.out.ext hE11)
              have HW11 := hide (HW10.out.ext hE11)
              obtain ⟨w12, hw12⟩ : ∃ wz, wz = ((w11.setCell ⟨gw, 0, none⟩ (.int .i64 D1)).setCell ⟨gw, 1, none⟩ (.int .i64 D2)).setCell ⟨gw, 2, none⟩ (.int .i64 D3) := ⟨_, rfl⟩
              have HG12 := hide (show Grw gw w0 w12 by rw [hw12]; exact ((HG11.out.set (.inr rfl) _).set (.inr rfl) _).set (.inr rfl) _)
              have HW12 := hide (show Blk w12 gw 35 #[.int .i64 D1, .int .i64 D2, .int .i64 D3] by rw [hw12]; exact ((HW11.out.set_ 0 _).set_ 1 _).set_ 2 _)
              have HF12 := hide (HG12.out.blk HF.out HN.out)
              have HT12 := hide (HG12.out.blk HT.out HN2.out)
              have HS12 := hide hw12
              have c0 := HW11.out.cell 0
              have c1 := HW11.out.cell 1
              have c2 := HW11.out.cell 2
              have g0 := HW11.out.free 0
              have g1 := HW11.out.free 1
              have g2 := HW11.out.free 2
              simp only [List.getElem?_toArray, List.getElem?_cons_zero, List.getElem?_cons_succ] at c0 c1 c2
              clear hw12 hE11
              unfold wrV
              go_upto_region 25 with fail
              rw [← HS12.out]
              have b0 := HF12.out.cell 0
              have b1 := HF12.out.cell 1
              have b2 := HF12.out.cell 2
              have f0 := HF12.out.free 0
              have f1 := HF12.out.free 1
              have f2 := HF12.out.free 2
              have c0 := HW12.out.cell 0
              have c1 := HW12.out.cell 1
              have c2 := HW12.out.cell 2
              have g0 := HW12.out.free 0
              have g1 := HW12.out.free 1
              have g2 := HW12.out.free 2
              have t0 := HT12.out.cell 0
              have t1 := HT12.out.cell 1
              have t6 := HT12.out.cell 6
              simp only [List.getElem?_toArray, List.getElem?_cons_zero, List.getElem?_cons_succ] at b0 b1 b2 c0 c1 c2 t0 t1 t6
              by_cases l3 : D1 = 0
              · have hcz := HCKZ.out l3
                have h2 : D2 = 0 := congrArg Prod.snd hcz
                clear hcz
                subst l3 h2
                have HNX2 := hide (show NX.1.1 = 0 by rw [HNX.out, HPR2.out])
                have HNX3 := hide (show NX.2 = D3 by rw [HNX.out, HPR2.out])
                clear HSTK HNX HPR2 HCKZ
                go_wp2_with fail
                go_roundw
                case rel => exact ⟨k + 1, by omega, by go_num, HG12.out, by rw [← HNXE.out]; exact HNX2.out, by rw [← HNXE.out, HNX3.out]; exact HW12.out⟩
                case measure => simp [intOf]; omega
              · have HR := hide (show R = ((D1, D2), D3) by rw [HSTK.out (by rw [HNX.out, HPR2.out]; exact l3), HNX.out, HPR2.out])
                have j0 : (D1 == 0) = false := by simpa using l3
                clear HSTK HNX HPR2 HCKZ l3
                go_wp2_with fail
                exact wr_ret (r := ((D1, D2), D3)) (g := gf) (((HF12.out.set_ 0 _).set_ 1 _).set_ 2 _) rfl rfl rfl ⟨by rw [← HRN.out, HR.out], (((ext_of_grw ((Grw.of_ext HE.out).trans HG12.out) HGL.out).setCell HLO.out _).setCell HLO.out _).setCell HLO.out _⟩
            · have HPR2 := hide (show g k mk = ((C1, C2), mk) by rw [HPR1.out, HPF3.out]; exact if_pos l2)
              have HR := hide (show R = ((C1, C2), mk) by rw [HSTK.out (by rw [HNX.out, HPR2.out]; exact l2), HNX.out, HPR2.out])
              have j0 : (C1 == 0) = false := by simpa using l2
              clear HSTK HNX HPR1 HPR2 HPF3 l2
              go_wp2_with fail
              exact wr_ret (r := ((C1, C2), mk)) (g := gf) (((HF10.out.set_ 0 _).set_ 1 _).set_ 2 _) rfl rfl rfl ⟨by rw [← HRN.out, HR.out], (((ext_of_grw ((Grw.of_ext HE.out).trans HG10.out) HGL.out).setCell HLO.out _).setCell HLO.out _).setCell HLO.out _⟩
          · have HPF3 := hide (show PF = (L1, L2) by rw [HPF2.out]; exact if_neg l1)
            have HPR2 := hide (show g k mk = ((L1, L2), mk) by rw [HPR1.out, HPF3.out]; exact if_pos l1)
            have HR := hide (show R = ((L1, L2), mk) by rw [HSTK.out (by rw [HNX.out, HPR2.out]; exact l1), HNX.out, HPR2.out])
            have j0 : (L1 == 0) = false := by simpa using l1
            clear HSTK HNX HPR1 HPR2 HPF2 HPF3 l1
            go_wp2_with fail
            exact wr_ret (r := ((L1, L2), mk)) (g := gf) (((HF8.out.set_ 0 _).set_ 1 _).set_ 2 _) rfl rfl rfl ⟨by rw [← HRN.out, HR.out], (((ext_of_grw ((Grw.of_ext HE.out).trans HG8.out) HGL.out).setCell HLO.out _).setCell HLO.out _).setCell HLO.out _⟩
      · have HGK := hide (HBADK.out he)
        have HR := hide (show R = ((ev, y), mk) by rw [HSTK.out (by rw [HNX.out, HGK.out]; exact he), HNX.out, HGK.out])
        have j0 : (ev == 0) = false := by simpa using he
        clear HBADK HSTP HSTK HNX HGK he
        go_wp2_with fail
        refine (with_any 0 0 mk ev y _).mono ?_
        rintro e w5 ⟨rfl, hE5⟩
        have HG5 := hide (HG3.out.ext hE5)
        have HW5 := hide (HW3.out.ext hE5)
        have HF5 := hide (HG5.out.blk HF.out HN.out)
        have HT5 := hide (HG5.out.blk HT.out HN2.out)
        have HP5 := hide (HP3.out.ext hE5)
        have b0 := HF5.out.cell 0
        have b1 := HF5.out.cell 1
        have b2 := HF5.out.cell 2
        have f0 := HF5.out.free 0
        have f1 := HF5.out.free 1
        have f2 := HF5.out.free 2
        have c0 := HW5.out.cell 0
        have c1 := HW5.out.cell 1
        have c2 := HW5.out.cell 2
        have g0 := HW5.out.free 0
        have g1 := HW5.out.free 1
        have g2 := HW5.out.free 2
        have t0 := HT5.out.cell 0
        have t1 := HT5.out.cell 1
        have t6 := HT5.out.cell 6
        simp only [List.getElem?_toArray, List.getElem?_cons_zero, List.getElem?_cons_succ] at b0 b1 b2 c0 c1 c2 t0 t1 t6
        have v0 := blk_at HP5.out HV0.out
        have v1 := blk_at HP5.out HV1.out
        have v2 := blk_at HP5.out HV2.out
        have v3 := blk_at HP5.out HV3.out
        have v4 := blk_at HP5.out HV4.out
        unfold wrV
        clear hE5
        go_wp2_with fail
        exact wr_ret (r := ((ev, y), mk)) (g := gf) (((HF5.out.set_ 0 _).set_ 1 _).set_ 2 _) rfl rfl rfl ⟨by rw [← HRN.out, HR.out], (((ext_of_grw ((Grw.of_ext HE.out).trans HG5.out) HGL.out).setCell HLO.out _).setCell HLO.out _).setCell HLO.out _⟩
    · obtain rfl : k = n := by omega
      have HX := hide (HZ.out hgo)
      have HWr := hide hWk
      have HGr := HG4
      have HFr := hide (HGr.out.blk HF.out HN.out)
      have HTr := hide (HGr.out.blk HT.out HN2.out)
      have b0 := HFr.out.cell 0
      have b1 := HFr.out.cell 1
      have b2 := HFr.out.cell 2
      have f0 := HFr.out.free 0
      have f1 := HFr.out.free 1
      have f2 := HFr.out.free 2
      have c0 := HWr.out.cell 0
      have c1 := HWr.out.cell 1
      have c2 := HWr.out.cell 2
      have g0 := HWr.out.free 0
      have g1 := HWr.out.free 1
      have g2 := HWr.out.free 2
      have t0 := HTr.out.cell 0
      have t1 := HTr.out.cell 1
      have t6 := HTr.out.cell 6
      simp only [List.getElem?_toArray, List.getElem?_cons_zero, List.getElem?_cons_succ] at b0 b1 b2 c0 c1 c2 t0 t1 t6
      clear hG hgo hWk hEw
      go_wp2_with fail
      exact wr_ret (r := ((0, 0), (goTo g k m).2)) (g := gf) (((HFr.out.set_ 0 _).set_ 1 _).set_ 2 _) rfl rfl rfl ⟨by unfold wrV; rw [HX.out], (((ext_of_grw ((Grw.of_ext HE.out).trans HGr.out) HGL.out).setCell HLO.out _).setCell HLO.out _).setCell HLO.out _⟩

set_option maxRecDepth 100000 in
set_option maxHeartbeats 8000000 in
theorem rparts_8 (a lo hi mo s1 : Int) (s0 : ByteArray) (nn cn cp n : Nat) (An Ap : Option Addr) (p : Nat → PtH) (t : Nat → Ty) (d m : Int) (w : World) (hP : PartsAt w w.heap.size Ap n p t) (hsz : ∀ i, i < n → (p i).name.1.size ≤ maxLen ∧ WdsSz (p i).label ∧ WdsSz (p i).cl ∧ TySz (t i)) (hsub : ∀ i, i < n → WrgC (t i) (IntKind.i64.wrap (d + 1))) :
    Calls Try.prog 23 #[.agg #[.int .i64 0, .int .i64 0, .int .i64 m], .agg #[.int .i64 8, .int .i64 a, .int .i64 lo, .int .i64 hi, .int .i64 mo, .slice An nn cn, .slice Ap n cp, .string s0, .int .i64 s1], .int .i64 d] w (fun e w' => e = .returned (wrV (if n = 0 then ((15, a), m) else if 64 < n then ((8, (p 64).name.2), m) else goTo (stepF 8 n p t (fun i m' => chk (t i) (IntKind.i64.wrap (d + 1)) m')) n m)) ∧ Ext w w') := by
  have e1 := IntWalk.i64_left (d + 1)
  rw [e1] at hsub ⊢
  clear e1
  obtain ⟨w0, hw0⟩ : ∃ x, x = ((w.alloc (.cells #[.int .i64 0, .int .i64 0, .int .i64 m] 35)).alloc (.cells #[.int .i64 8, .int .i64 a, .int .i64 lo, .int .i64 hi, .int .i64 mo, .slice An nn cn, .slice Ap n cp, .string s0, .int .i64 s1] 27)).alloc (.cells #[.int .i64 0, .int .i64 0, .int .i64 0] 35) := ⟨_, rfl⟩
  have hV : Blk w0 w.heap.size 35 #[.int .i64 0, .int .i64 0, .int .i64 m] := by rw [hw0]; exact ((Blk.new _ _ _).alloc _).alloc _
  have hT : Blk w0 (w.heap.size + 1) 27 #[.int .i64 8, .int .i64 a, .int .i64 lo, .int .i64 hi, .int .i64 mo, .slice An nn cn, .slice Ap n cp, .string s0, .int .i64 s1] := by
    rw [hw0]; have := Blk.new (w.alloc (.cells #[.int .i64 0, .int .i64 0, .int .i64 m] 35)) 27 #[.int .i64 8, .int .i64 a, .int .i64 lo, .int .i64 hi, .int .i64 mo, .slice An nn cn, .slice Ap n cp, .string s0, .int .i64 s1]; exact Blk.alloc (by simpa only [World.size_alloc] using this) _
  have hF : Blk w0 (w.heap.size + 2) 35 #[.int .i64 0, .int .i64 0, .int .i64 0] := by
    rw [hw0]; have := Blk.new ((w.alloc (.cells #[.int .i64 0, .int .i64 0, .int .i64 m] 35)).alloc (.cells #[.int .i64 8, .int .i64 a, .int .i64 lo, .int .i64 hi, .int .i64 mo, .slice An nn cn, .slice Ap n cp, .string s0, .int .i64 s1] 27)) 35 #[.int .i64 0, .int .i64 0, .int .i64 0]; simpa only [World.size_alloc] using this
  have hE : Ext w w0 := by rw [hw0]; exact (((Ext.rfl' w).alloc (Nat.le_refl _) _).alloc (by simp only [World.size_alloc]; omega) _).alloc (by simp only [World.size_alloc]; omega) _
  have hs0 : w0.heap.size = w.heap.size + 3 := by rw [hw0]; simp only [World.size_alloc]
  have n1 : w.heap.size + 2 ≠ w.heap.size := by omega
  have n2 : w.heap.size + 1 ≠ w.heap.size := by omega
  have hlo : w.heap.size ≤ w.heap.size + 2 := by omega
  have hgl : w.heap.size ≤ w.heap.size := Nat.le_refl _
  have hP0 := hP.ext hE
  obtain ⟨gf, hgf⟩ : ∃ g, g = w.heap.size + 2 := ⟨_, rfl⟩
  obtain ⟨gt, hgt⟩ : ∃ g, g = w.heap.size + 1 := ⟨_, rfl⟩
  obtain ⟨gw, hgw⟩ : ∃ g, g = w.heap.size := ⟨_, rfl⟩
  rw [← hgf] at hF hlo n1
  rw [← hgt] at hT n2
  have hgl2 : gw < w0.heap.size := by omega
  rw [← hgw] at hV
  have n1' : gf ≠ gw := by rw [hgw]; exact n1
  have n2' : gt ≠ gw := by rw [hgw]; exact n2
  have hgl' : w.heap.size ≤ gw := by rw [hgw]; exact hgl
  have HW := hide hw0
  have HGF := hide hgf
  have HGT := hide hgt
  have HGW := hide hgw
  have HF := hide hF
  have HE := hide hE
  have HW0 := hide hV
  have HT := hide hT
  have HN := hide n1'
  have HN2 := hide n2'
  have HLO := hide hlo
  have HGL := hide hgl'
  have HGL2 := hide hgl2
  have HG0 := hide (show Grw gw w0 w0 from .of_ext (Ext.rfl' _))
  have HF0 := HF
  have HT0 := HT
  have b0 := HF0.out.cell 0
  have b1 := HF0.out.cell 1
  have b2 := HF0.out.cell 2
  have f0 := HF0.out.free 0
  have f1 := HF0.out.free 1
  have f2 := HF0.out.free 2
  have c0 := HW0.out.cell 0
  have c1 := HW0.out.cell 1
  have c2 := HW0.out.cell 2
  have g0 := HW0.out.free 0
  have g1 := HW0.out.free 1
  have g2 := HW0.out.free 2
  have t0 := HT0.out.cell 0
  have t1 := HT0.out.cell 1
  have t6 := HT0.out.cell 6
  simp only [List.getElem?_toArray, List.getElem?_cons_zero, List.getElem?_cons_succ] at b0 b1 b2 c0 c1 c2 t0 t1 t6
  clear hw0 hF hE hV hT n1 n2 n1' n2' hlo hgf hgt hgw hgl hgl' hgl2 hs0
  by_cases z0 : n = 0
  · obtain ⟨R, hR⟩ : ∃ R : Wr, R = ((15, a), m) := ⟨_, rfl⟩
    have HR := hide hR
    rw [if_pos z0, ← hR]
    subst z0
    clear hP hP0 hsz hsub hR
    go_enter Try.func23, Try.ntmps23
    go_upto_region 1 with fail
    rw [← HW.out, ← HGF.out, ← HGT.out, ← HGW.out]
    go_wp2_with fail
    refine (with_any 0 0 m 15 a _).mono ?_
    rintro e w5 ⟨rfl, hE5⟩
    have HG5 := hide (HG0.out.ext hE5)
    have HW5 := hide (HW0.out.ext hE5)
    have HF5 := hide (HG5.out.blk HF.out HN.out)
    have HT5 := hide (HG5.out.blk HT.out HN2.out)
    have b0 := HF5.out.cell 0
    have b1 := HF5.out.cell 1
    have b2 := HF5.out.cell 2
    have f0 := HF5.out.free 0
    have f1 := HF5.out.free 1
    have f2 := HF5.out.free 2
    have c0 := HW5.out.cell 0
    have c1 := HW5.out.cell 1
    have c2 := HW5.out.cell 2
    have g0 := HW5.out.free 0
    have g1 := HW5.out.free 1
    have g2 := HW5.out.free 2
    have t0 := HT5.out.cell 0
    have t1 := HT5.out.cell 1
    have t6 := HT5.out.cell 6
    simp only [List.getElem?_toArray, List.getElem?_cons_zero, List.getElem?_cons_succ] at b0 b1 b2 c0 c1 c2 t0 t1 t6
    unfold wrV
    clear hE5
    go_wp2_with fail
    exact wr_ret (r := ((15, a), m)) (g := gf) (((HF5.out.set_ 0 _).set_ 1 _).set_ 2 _) rfl rfl rfl ⟨by rw [HR.out], (((ext_of_grw ((Grw.of_ext HE.out).trans HG5.out) HGL.out).setCell HLO.out _).setCell HLO.out _).setCell HLO.out _⟩
  rw [if_neg z0]
  by_cases z1 : 64 < n
  · obtain ⟨R, hR⟩ : ∃ R : Wr, R = ((8, (p 64).name.2), m) := ⟨_, rfl⟩
    rw [if_pos z1, ← hR]
    obtain ⟨b, o, rfl, hbs, _⟩ := hP0 (by omega)
    obtain ⟨_, d1⟩ := part_cell hP0 rfl z1
    obtain ⟨x, hx⟩ : ∃ x, x = (p 64).name.2 := ⟨_, rfl⟩
    rw [← hx] at d1 hR
    have HR := hide hR
    have i0 : ((n : Int) == 0) = false := by simp; omega
    have i1 : (64 : Int) < (n : Int) := by omega
    clear hP hP0 hsz hsub hR hx hbs
    go_enter Try.func23, Try.ntmps23
    go_upto_region 1 with fail
    rw [← HW.out, ← HGF.out, ← HGT.out, ← HGW.out]
    go_upto_region 4 with fail
    go_still_tail 7, (by kernel_rfl)
    change wpList _ _ _ _ _ w0.drew
    go_wp2_with fail
    refine (with_any 0 0 m 8 x _).mono ?_
    rintro e w5 ⟨rfl, hE5'⟩
    have hE5 := ((Ext.rfl' w0).drew').trans' hE5'
    have HG5 := hide (HG0.out.ext hE5)
    have HW5 := hide (HW0.out.ext hE5)
    have HF5 := hide (HG5.out.blk HF.out HN.out)
    have HT5 := hide (HG5.out.blk HT.out HN2.out)
    have b0 := HF5.out.cell 0
    have b1 := HF5.out.cell 1
    have b2 := HF5.out.cell 2
    have f0 := HF5.out.free 0
    have f1 := HF5.out.free 1
    have f2 := HF5.out.free 2
    have c0 := HW5.out.cell 0
    have c1 := HW5.out.cell 1
    have c2 := HW5.out.cell 2
    have g0 := HW5.out.free 0
    have g1 := HW5.out.free 1
    have g2 := HW5.out.free 2
    have t0 := HT5.out.cell 0
    have t1 := HT5.out.cell 1
    have t6 := HT5.out.cell 6
    simp only [List.getElem?_toArray, List.getElem?_cons_zero, List.getElem?_cons_succ] at b0 b1 b2 c0 c1 c2 t0 t1 t6
    unfold wrV
    clear hE5
    go_wp2_with fail
    exact wr_ret (r := ((8, x), m)) (g := gf) (((HF5.out.set_ 0 _).set_ 1 _).set_ 2 _) rfl rfl rfl ⟨by rw [HR.out], (((ext_of_grw ((Grw.of_ext HE.out).trans HG5.out) HGL.out).setCell HLO.out _).setCell HLO.out _).setCell HLO.out _⟩
  rw [if_neg z1]
  obtain ⟨g, hg⟩ : ∃ g, g = stepF 8 n p t (fun i m' => chk (t i) (wrap64 (d + 1)) m') := ⟨_, rfl⟩
  rw [← hg]
  have HSTEP := hide (fun k m' (hl : listE (pNames n p) k = 0) => (show g k m' = partR true (p k) (t k) (fun m => chk (t k) (wrap64 (d + 1)) m) m' by rw [hg]; exact stepF_part true (by decide) hl))
  have HBAD := hide (fun k m' (hl : listE (pNames n p) k ≠ 0) => (show g k m' = ((listE (pNames n p) k, (p k).name.2), m') by rw [hg]; exact stepF_bad hl))
  have hz : ∀ i m', i < n → (g i m').1.1 = 0 → (g i m').1 = (0, 0) := fun i m' _ e => by rw [hg] at e ⊢; exact stepF_zero e
  have HZ := hide (fun (h : (goTo g n m).1.1 = 0) => goTo_zero hz (Nat.le_refl _) h)
  have HPP := hide hP
  have HSZ := hide hsz
  have HSUB := hide hsub
  have i0 : ((n : Int) == 0) = false ∨ n = 0 := by by_cases h : n = 0; exact .inr h; exact .inl (by simp; omega)
  have i1 : ¬ (64 : Int) < (n : Int) := by omega
  have H64 := hide z1
  clear hg hz hP hP0 hsz hsub z1
  replace i0 := i0.resolve_right z0
  clear z0
  go_enter Try.func23, Try.ntmps23
  go_upto_region 1 with fail
  rw [← HW.out, ← HGF.out, ← HGT.out, ← HGW.out]
  go_wp2_with fail
  clear b0 b1 b2 f0 f1 f2 c0 c1 c2 g0 g1 g2 t0 t1 t6
  go_loopw [7] (fun i wr => ∃ k : Nat, k ≤ n ∧ i = .int .i64 k ∧ Grw gw w0 wr ∧ (goTo g k m).1.1 = 0 ∧ Blk wr gw 35 #[.int .i64 0, .int .i64 0, .int .i64 (goTo g k m).2]) (fun i _ => n - (intOf i).toNat)
  case atStart => exact ⟨0, Nat.zero_le _, rfl, .of_ext (Ext.rfl' _), rfl, HW0.out⟩
  case round =>
    obtain ⟨k, hk, rfl, hG, hgo, hWk⟩ := hrel
    have HG4 := hide hG
    have hEw : Ext w wr := ext_of_grw ((Grw.of_ext HE.out).trans hG) HGL.out
    by_cases hlt : k < n
    · obtain ⟨b, o, rfl, hbs, hcell⟩ := HPP.out (by omega)
      obtain ⟨vs, hr0, hpa⟩ := hcell k hlt
      have hs := HSZ.out k hlt
      have hr1 : wr.rangeAt b (o + k * 18) vs := fun j v hv => (hEw.cell (p := ⟨b, o + k * 18 + j, none⟩) hbs).trans (hr0 j v hv)
      have hvl : vs.length = 18 := hpa.len
      have hvo : vs.toArray.all (·.oneCell') = true := hpa.one
      obtain ⟨Al, cl, Ac, cc, vt, hvs, hlb, hcc, htt⟩ := id hpa
      have hv0 : vs[0]? = some (.string (p k).name.1) := by rw [hvs]; rfl
      have hv1 : vs[1]? = some (.int .i64 (p k).name.2) := by rw [hvs]; rfl
      have hv2 : vs[2]? = some (.bool (p k).bare) := by rw [hvs]; rfl
      have hv3 : vs[3]? = some (.slice Al (p k).label.length cl) := by rw [hvs]; rfl
      have hv4 : vs[4]? = some (.int .i64 (p k).wide) := by rw [hvs]; rfl
      have htl : vt.length = 9 := by obtain ⟨y0, y1, y2, y3, y4, y5, y6, y7, y8, e⟩ := htt.nine; rw [e]; rfl
      have hrg : ∀ w1 gv, Blk w1 gv 52 vs.toArray → w1.rangeAt gv 9 vt := fun w1 gv hB j v hv => by
        have := blk_range hB (9 + j) v (by rw [hvs, List.getElem?_append_right (by show 9 ≤ 9 + j; omega)]; rw [show 9 + j - (ptV (p k) Al cl Ac cc).length = j by show 9 + j - 9 = j; omega]; exact hv)
        rwa [Nat.zero_add] at this
      have hnms := fun (w1 : World) (hE : Ext w w1) => refNames_any (some ⟨b, o, none⟩) cp n p t w1 (PartsAt.ext (fun h => HPP.out h) hE) (by have := H64.out; omega)
      have hlst := fun (w1 : World) (A : Option Addr) (c : Nat) (h : WdsAt w1 w1.heap.size A (pWds n p)) => refListed_any A c n k (pWds n p) w1 h (pWds_length n p).symm hlt (by have := H64.out; omega) (fun j => by
        unfold wNm
        rcases Nat.lt_or_ge j n with hj | hj
        · rw [pWds_at hj]; exact (HSZ.out j hj).1
        · rw [List.getD_eq_getElem?_getD, List.getElem?_eq_none (by rw [pWds_length]; exact hj)]; exact Nat.zero_le _)
      have hlab := fun w1 (hE : Ext w w1) => refLabel_any Al cl (p k).label.length (p k).label w1 (hlb.ext hE) rfl hs.2.1
      have hco := fun w1 (hE : Ext w w1) => refCoarse_any (p k) (t k) w1 vs (hpa.ext hE) hs.2.2.1
      have hzero := fun w1 (hE : Ext w w1) => zero_any (t k) w1 vt (htt.ext hE) hs.2.2.2
      have hpl := fun w1 (hE : Ext w w1) => plain_any (p k) (zPt wd0 true) (t k) zTy w1 vs (ptV (zPt wd0 true) none 0 none 0 ++ zCells) (hpa.ext hE) (zPt_at _ _ _ _) hs.2.1 hs.2.2.1
      have hwrg := fun w1 (hE : Ext w w1) => HSUB.out k hlt (goTo g k m).2 w1 vt (htt.ext hE)
      have hbad := fun hh => HBAD.out k (goTo g k m).2 hh
      have hstp := fun hh => HSTEP.out k (goTo g k m).2 hh
      have hnx : goTo g (k + 1) m = g k (goTo g k m).2 := goTo_next hgo
      have hstk : (goTo g (k + 1) m).1.1 ≠ 0 → goTo g n m = goTo g (k + 1) m := goTo_stick hlt
      have hpr : partR true (p k) (t k) (fun m => chk (t k) (wrap64 (d + 1)) m) (goTo g k m).2 = if (p k).bare = true then (if true = true ∧ (plainB (p k) (zPt wd0 true) && sameT (t k) zTy) = true then ((0, 0), (goTo g k m).2) else ((19, (p k).name.2), (goTo g k m).2)) else if (partF (p k)).1 ≠ 0 then (partF (p k), (goTo g k m).2) else chk (t k) (wrap64 (d + 1)) (goTo g k m).2 := by
        unfold partR
        rw [show bareB (p k) (t k) = (plainB (p k) (zPt wd0 true) && sameT (t k) zTy) by unfold bareB ptEq; rw [show decide ((p k).name.1 = (zPt (p k).name true).name.1) = true from decide_eq_true rfl, Bool.true_and]; rfl]
      have hckz : ∀ {m'}, (chk (t k) (wrap64 (d + 1)) m').1.1 = 0 → (chk (t k) (wrap64 (d + 1)) m').1 = (0, 0) := fun e => chk_zero (t k) e
      have hckz := @hckz (goTo g k m).2
      have hpf : partF (p k) = if (p k).wide < 0 ∨ 64 < (p k).wide then (20, (p k).name.2) else if (labelF (p k).label).1 = 0 then coarseF (p k) else labelF (p k).label := rfl
      rw [pWds_nms] at hlst
      rw [hpr] at hstp
      generalize plainB (p k) (zPt wd0 true) = PB at hpl hstp
      generalize sameT (t k) zTy = ZB at hzero hstp
      generalize partF (p k) = PF at hstp hpf
      generalize labelF (p k).label = LF at hlab hpf
      generalize coarseF (p k) = CF at hco hpf
      generalize chk (t k) (wrap64 (d + 1)) (goTo g k m).2 = CK at hstp hwrg hckz
      obtain ⟨NX, hNX⟩ : ∃ x, x = goTo g (k + 1) m := ⟨_, rfl⟩
      obtain ⟨R, hRn⟩ : ∃ x, x = goTo g n m := ⟨_, rfl⟩
      rw [← hNX] at hnx hstk
      rw [← hRn] at hstk
      have HNXE := hide hNX
      have HRN := hide hRn
      clear hNX hRn hpr
      generalize (goTo g k m).2 = mk at hWk hbad hstp hnx hwrg
      obtain ⟨y, hy⟩ : ∃ y, y = (p k).name.2 := ⟨_, rfl⟩
      obtain ⟨x, hx⟩ : ∃ y, y = (p k).name.1 := ⟨_, rfl⟩
      obtain ⟨br, hbr⟩ : ∃ y, y = (p k).bare := ⟨_, rfl⟩
      obtain ⟨wi, hwi⟩ : ∃ y, y = (p k).wide := ⟨_, rfl⟩
      obtain ⟨nl, hnl⟩ : ∃ y, y = (p k).label.length := ⟨_, rfl⟩
      obtain ⟨ev, hev⟩ : ∃ v, v = listE (pNames n p) k := ⟨_, rfl⟩
      rw [← hx] at hv0
      rw [← hy] at hbad hv1 hstp hpf
      rw [← hbr] at hv2 hstp
      rw [← hnl] at hv3 hlab
      rw [← hwi] at hv4 hpf
      rw [← hev] at hbad hstp hlst
      obtain ⟨w1, hw1⟩ : ∃ wz, wz = wr.alloc (.cells vs.toArray 52) := ⟨_, rfl⟩
      have hE1 : Ext wr w1 := by rw [hw1]; exact (Ext.rfl' wr).alloc (Nat.le_refl _) _
      have hB1 : Blk w1 wr.heap.size 52 vs.toArray := by rw [hw1]; exact Blk.new _ _ _
      obtain ⟨gv, hgv⟩ : ∃ g, g = wr.heap.size := ⟨_, rfl⟩
      rw [← hgv] at hB1
      have HV0 := hide hv0
      have HV1 := hide hv1
      have HV2 := hide hv2
      have HV3 := hide hv3
      have HV4 := hide hv4
      have HP1 := hide hB1
      have HW4 := hide hWk
      have HG1 := hide (HG4.out.ext hE1)
      have HW1 := hide (HW4.out.ext hE1)
      have HF1 := hide (HG1.out.blk HF.out HN.out)
      have HT1 := hide (HG1.out.blk HT.out HN2.out)
      have ht6 := (HG4.out.blk HT.out HN2.out).cell 6
      simp only [List.getElem?_toArray, List.getElem?_cons_zero, List.getElem?_cons_succ] at ht6
      have b0 := HF1.out.cell 0
      have b1 := HF1.out.cell 1
      have b2 := HF1.out.cell 2
      have f0 := HF1.out.free 0
      have f1 := HF1.out.free 1
      have f2 := HF1.out.free 2
      have c0 := HW1.out.cell 0
      have c1 := HW1.out.cell 1
      have c2 := HW1.out.cell 2
      have g0 := HW1.out.free 0
      have g1 := HW1.out.free 1
      have g2 := HW1.out.free 2
      have t0 := HT1.out.cell 0
      have t1 := HT1.out.cell 1
      have t6 := HT1.out.cell 6
      simp only [List.getElem?_toArray, List.getElem?_cons_zero, List.getElem?_cons_succ] at b0 b1 b2 c0 c1 c2 t0 t1 t6
      have v0 := blk_at HP1.out HV0.out
      have v1 := blk_at HP1.out HV1.out
      have v2 := blk_at HP1.out HV2.out
      have v3 := blk_at HP1.out HV3.out
      have v4 := blk_at HP1.out HV4.out
      have HAL := hide hw1
      have HAG := hide hgv
      have HNMS := hide hnms
      have HLST := hide hlst
      have HLAB := hide hlab
      have HCO := hide hco
      have HZERO := hide hzero
      have HPL := hide (show ∀ w1, Ext w w1 → Calls Try.prog 22 #[.agg vs.toArray, .agg #[.string ⟨#[]⟩, .int .i64 0, .bool true, .slice none 0 0, .int .i64 0, .int .i64 0, .int .i64 0, .int .i64 0, .slice none 0 0, .int .i64 0, .int .i64 0, .int .i64 0, .int .i64 0, .int .i64 0, .slice none 0 0, .slice none 0 0, .string ⟨#[]⟩, .int .i64 0]] w1 (fun e w' => e = .returned (.bool PB) ∧ Ext w1 w') from hpl)
      have HWRG := hide hwrg
      have HBADK := hide hbad
      have HSTP := hide hstp
      have HNX := hide hnx
      have HSTK := hide hstk
      have HCKZ := hide hckz
      have HPF := hide hpf
      have HVL := hide hvl
      have HVO := hide hvo
      have HTL := hide htl
      have HR1 := hide hr1
      have HRG := hide hrg
      have i2 : (0 : Int) ≤ (k : Int) := by omega
      have i3 : (k : Int) < (n : Int) := by omega
      clear hw1 hE1 hB1 hgv hnms hlst hlab hco hzero hpl hwrg hbad hstp hnx hstk hckz hpf hvl hvo htl hr1 hr0 hrg hv0 hv1 hv2 hv3 hv4 hpa hlb hcc htt hvs hcell hs hgo hWk hG hEw hx hy hbr hwi hnl hev HZ hbs
      have t6 := ht6
      go_upto_region 8 with fail
      refine wp_region_lit ?_
      refine wpList_plain rfl ?_
      intro K1 hK1
      go_simp
      refine hK1 _ _ ?_
      refine wpList_plain rfl ?_
      intro K2 hK2
      go_simp
      refine hK2 _ _ ?_
      refine wpList_plain rfl ?_
      intro K3 hK3
      go_simp
      refine hK3 _ _ ?_
      refine wpList_plain rfl ?_
      intro K4 hK4
      go_simp
      refine hK4 _ _ ?_
      refine wpList_load_mid rfl 52 _ rfl b (o + k * 18) rfl vs _ HR1.out Try.underlying52 rfl (infoPart' HVL.out) ?_
      refine wpList_plain rfl ?_
      intro K5 hK5
      go_simp
      refine hK5 _ _ ?_
      refine wpList_store_new rfl 52 _ _ rfl _ vs.toArray rfl rfl (infoPartA HVL.out) (by show _ = vs.length; rw [HVL.out]; rfl) HVO.out ?_
      go_upto_region 9 with fail
      rw [← HAL.out, ← HAG.out]
      have t6 := HT1.out.cell 6
      simp only [List.getElem?_toArray, List.getElem?_cons_zero, List.getElem?_cons_succ] at t6
      clear ht6
      go_wp2_with fail
      refine (HNMS.out _ (ext_of_grw ((Grw.of_ext HE.out).trans HG1.out) HGL.out)).mono ?_
      rintro e w2 ⟨A, c, rfl, hA, hE2⟩
      have hE2g := hE2
      have HG2 := hide (HG1.out.ext hE2)
      have HW2 := hide (HW1.out.ext hE2)
      have HP2 := hide (HP1.out.ext hE2)
      have HLI := hide (HLST.out w2 A c hA)
      clear hA hE2 hE2g b0 b1 b2 f0 f1 f2 c0 c1 c2 g0 g1 g2 t0 t1 t6 v0 v1 v2 v3 v4
      go_wp2_with fail
      refine HLI.out.mono ?_
      rintro e w3 ⟨rfl, hE3⟩
      have HG3 := hide (HG2.out.ext hE3)
      have HW3 := hide (HW2.out.ext hE3)
      have HF3 := hide (HG3.out.blk HF.out HN.out)
      have HT3 := hide (HG3.out.blk HT.out HN2.out)
      have HP3 := hide (HP2.out.ext hE3)
      have b0 := HF3.out.cell 0
      have b1 := HF3.out.cell 1
      have b2 := HF3.out.cell 2
      have f0 := HF3.out.free 0
      have f1 := HF3.out.free 1
      have f2 := HF3.out.free 2
      have c0 := HW3.out.cell 0
      have c1 := HW3.out.cell 1
      have c2 := HW3.out.cell 2
      have g0 := HW3.out.free 0
      have g1 := HW3.out.free 1
      have g2 := HW3.out.free 2
      have t0 := HT3.out.cell 0
      have t1 := HT3.out.cell 1
      have t6 := HT3.out.cell 6
      simp only [List.getElem?_toArray, List.getElem?_cons_zero, List.getElem?_cons_succ] at b0 b1 b2 c0 c1 c2 t0 t1 t6
      have v0 := blk_at HP3.out HV0.out
      have v1 := blk_at HP3.out HV1.out
      have v2 := blk_at HP3.out HV2.out
      have v3 := blk_at HP3.out HV3.out
      have v4 := blk_at HP3.out HV4.out
      clear hE3
      by_cases he : ev = 0
      · have HPR := hide (HSTP.out he)
        subst he
        clear HBADK HSTP
        cases br with
        | true =>
          have HPR1 := hide (show g k mk = if (PB && ZB) = true then ((0, 0), mk) else ((19, y), mk) by rw [HPR.out, if_pos rfl]; cases PB <;> cases ZB <;> rfl)
          clear HPR
          go_upto_region 13 with fail
          refine wp_region_lit ?_
          refine wpList_plain rfl ?_
          intro K11 hK11
          go_simp
          refine hK11 _ _ ?_
          refine wpList_plain rfl ?_
          intro K12 hK12
          go_simp
          refine hK12 _ _ ?_
          refine wpList_plain rfl ?_
          intro K13 hK13
          go_simp
          refine hK13 _ _ ?_
          refine wpList_plain rfl ?_
          intro K14 hK14
          go_simp
          refine hK14 _ _ ?_
          refine wpList_unguard' (by rfl) ?_
          refine wpList_plain rfl ?_
          intro K15 hK15
          go_simp
          refine hK15 _ _ ?_
          refine wpList_unguard' (by rfl) ?_
          refine wpList_load_mid rfl 27 _ rfl gv 9 rfl vt _ (HRG.out _ _ HP3.out) Try.underlying27 rfl (infoTy' HTL.out) ?_
          clear b0 b1 b2 f0 f1 f2 c0 c1 c2 g0 g1 g2 t0 t1 t6 v0 v1 v2 v3 v4
          go_wp2_with fail
          refine (HZERO.out _ (ext_of_grw ((Grw.of_ext HE.out).trans HG3.out) HGL.out)).mono ?_
          rintro e w6 ⟨rfl, hE6⟩
          have HG6 := hide (HG3.out.ext hE6)
          have HW6 := hide (HW3.out.ext hE6)
          have HF6 := hide (HG6.out.blk HF.out HN.out)
          have HT6 := hide (HG6.out.blk HT.out HN2.out)
          have HP6 := hide (HP3.out.ext hE6)
          have b0 := HF6.out.cell 0
          have b1 := HF6.out.cell 1
          have b2 := HF6.out.cell 2
          have f0 := HF6.out.free 0
          have f1 := HF6.out.free 1
          have f2 := HF6.out.free 2
          have c0 := HW6.out.cell 0
          have c1 := HW6.out.cell 1
          have c2 := HW6.out.cell 2
          have g0 := HW6.out.free 0
          have g1 := HW6.out.free 1
          have g2 := HW6.out.free 2
          have t0 := HT6.out.cell 0
          have t1 := HT6.out.cell 1
          have t6 := HT6.out.cell 6
          simp only [List.getElem?_toArray, List.getElem?_cons_zero, List.getElem?_cons_succ] at b0 b1 b2 c0 c1 c2 t0 t1 t6
          have v0 := blk_at HP6.out HV0.out
          have v1 := blk_at HP6.out HV1.out
          have v2 := blk_at HP6.out HV2.out
          have v3 := blk_at HP6.out HV3.out
          have v4 := blk_at HP6.out HV4.out
          clear hE6
          cases ZB with
          | false =>
            have HPR2 := hide (show g k mk = ((19, y), mk) by rw [HPR1.out, Bool.and_false]; rfl)
            have HR := hide (show R = ((19, y), mk) by rw [HSTK.out (by rw [HNX.out, HPR2.out]; show (19 : Int) ≠ 0; decide), HNX.out, HPR2.out])
            clear HSTK HNX HPR1 HPR2
            go_wp2_with fail
            refine (with_any 0 0 mk 19 y _).mono ?_
            rintro e w5 ⟨rfl, hE5⟩
            have HG5 := hide (HG6.out.ext hE5)
            have HW5 := hide (HW6.out.ext hE5)
            have HF5 := hide (HG5.out.blk HF.out HN.out)
            have HT5 := hide (HG5.out.blk HT.out HN2.out)
            have HP5 := hide (HP6.out.ext hE5)
            have b0 := HF5.out.cell 0
            have b1 := HF5.out.cell 1
            have b2 := HF5.out.cell 2
            have f0 := HF5.out.free 0
            have f1 := HF5.out.free 1
            have f2 := HF5.out.free 2
            have c0 := HW5.out.cell 0
            have c1 := HW5.out.cell 1
            have c2 := HW5.out.cell 2
            have g0 := HW5.out.free 0
            have g1 := HW5.out.free 1
            have g2 := HW5.out.free 2
            have t0 := HT5.out.cell 0
            have t1 := HT5.out.cell 1
            have t6 := HT5.out.cell 6
            simp only [List.getElem?_toArray, List.getElem?_cons_zero, List.getElem?_cons_succ] at b0 b1 b2 c0 c1 c2 t0 t1 t6
            have v0 := blk_at HP5.out HV0.out
            have v1 := blk_at HP5.out HV1.out
            have v2 := blk_at HP5.out HV2.out
            have v3 := blk_at HP5.out HV3.out
            have v4 := blk_at HP5.out HV4.out
            unfold wrV
            clear hE5
            go_wp2_with fail
            exact wr_ret (r := ((19, y), mk)) (g := gf) (((HF5.out.set_ 0 _).set_ 1 _).set_ 2 _) rfl rfl rfl ⟨by rw [← HRN.out, HR.out], (((ext_of_grw ((Grw.of_ext HE.out).trans HG5.out) HGL.out).setCell HLO.out _).setCell HLO.out _).setCell HLO.out _⟩
          | true =>
            simp only []
            rename_i Kz hKz
            refine hKz _ _ ?_
            refine wpList_unguard' (by rfl) ?_
            refine wpList_plain rfl ?_
            intro K21 hK21
            go_simp
            refine hK21 _ _ ?_
            refine wpList_plain rfl ?_
            intro K22 hK22
            go_simp
            refine hK22 _ _ ?_
            refine wpList_plain rfl ?_
            intro K23 hK23
            go_simp
            refine hK23 _ _ ?_
            refine wpList_unguard' (by rfl) ?_
            refine wpList_load_mid rfl 52 _ rfl gv 0 rfl vs _ (blk_range HP6.out) Try.underlying52 rfl (infoPart' HVL.out) ?_
            clear b0 b1 b2 f0 f1 f2 c0 c1 c2 g0 g1 g2 t0 t1 t6 v0 v1 v2 v3 v4
            go_wp2_with fail
            refine (HPL.out _ (ext_of_grw ((Grw.of_ext HE.out).trans HG6.out) HGL.out)).mono ?_
            rintro e w7 ⟨rfl, hE7⟩
            have HG7 := hide (HG6.out.ext hE7)
            have HW7 := hide (HW6.out.ext hE7)
            have HF7 := hide (HG7.out.blk HF.out HN.out)
            have HT7 := hide (HG7.out.blk HT.out HN2.out)
            have HP7 := hide (HP6.out.ext hE7)
            have b0 := HF7.out.cell 0
            have b1 := HF7.out.cell 1
            have b2 := HF7.out.cell 2
            have f0 := HF7.out.free 0
            have f1 := HF7.out.free 1
            have f2 := HF7.out.free 2
            have c0 := HW7.out.cell 0
            have c1 := HW7.out.cell 1
            have c2 := HW7.out.cell 2
            have g0 := HW7.out.free 0
            have g1 := HW7.out.free 1
            have g2 := HW7.out.free 2
            have t0 := HT7.out.cell 0
            have t1 := HT7.out.cell 1
            have t6 := HT7.out.cell 6
            simp only [List.getElem?_toArray, List.getElem?_cons_zero, List.getElem?_cons_succ] at b0 b1 b2 c0 c1 c2 t0 t1 t6
            have v0 := blk_at HP7.out HV0.out
            have v1 := blk_at HP7.out HV1.out
            have v2 := blk_at HP7.out HV2.out
            have v3 := blk_at HP7.out HV3.out
            have v4 := blk_at HP7.out HV4.out
            clear hE7
        
            cases PB with
            | false =>
              have HPR2 := hide (show g k mk = ((19, y), mk) by rw [HPR1.out]; rfl)
              have HR := hide (show R = ((19, y), mk) by rw [HSTK.out (by rw [HNX.out, HPR2.out]; show (19 : Int) ≠ 0; decide), HNX.out, HPR2.out])
              clear HSTK HNX HPR1 HPR2
              go_wp2_with fail
              refine (with_any 0 0 mk 19 y _).mono ?_
              rintro e w5 ⟨rfl, hE5⟩
              have HG5 := hide (HG7.out.ext hE5)
              have HW5 := hide (HW7.out.ext hE5)
              have HF5 := hide (HG5.out.blk HF.out HN.out)
              have HT5 := hide (HG5.out.blk HT.out HN2.out)
              have HP5 := hide (HP7.out.ext hE5)
              have b0 := HF5.out.cell 0
              have b1 := HF5.out.cell 1
              have b2 := HF5.out.cell 2
              have f0 := HF5.out.free 0
              have f1 := HF5.out.free 1
              have f2 := HF5.out.free 2
              have c0 := HW5.out.cell 0
              have c1 := HW5.out.cell 1
              have c2 := HW5.out.cell 2
              have g0 := HW5.out.free 0
              have g1 := HW5.out.free 1
              have g2 := HW5.out.free 2
              have t0 := HT5.out.cell 0
              have t1 := HT5.out.cell 1
              have t6 := HT5.out.cell 6
              simp only [List.getElem?_toArray, List.getElem?_cons_zero, List.getElem?_cons_succ] at b0 b1 b2 c0 c1 c2 t0 t1 t6
              have v0 := blk_at HP5.out HV0.out
              have v1 := blk_at HP5.out HV1.out
              have v2 := blk_at HP5.out HV2.out
              have v3 := blk_at HP5.out HV3.out
              have v4 := blk_at HP5.out HV4.out
              unfold wrV
              clear hE5
              go_wp2_with fail
              exact wr_ret (r := ((19, y), mk)) (g := gf) (((HF5.out.set_ 0 _).set_ 1 _).set_ 2 _) rfl rfl rfl ⟨by rw [← HRN.out, HR.out], (((ext_of_grw ((Grw.of_ext HE.out).trans HG5.out) HGL.out).setCell HLO.out _).setCell HLO.out _).setCell HLO.out _⟩
            | true =>
              have HPR2 := hide (show g k mk = ((0, 0), mk) by rw [HPR1.out]; rfl)
              have HNX2 := hide (show NX.1.1 = 0 by rw [HNX.out, HPR2.out])
              have HNX3 := hide (show NX.2 = mk by rw [HNX.out, HPR2.out])
              clear HSTK HNX HPR1 HPR2
              go_wp2_with fail
              go_roundw
              case rel => exact ⟨k + 1, by omega, by go_num, HG7.out, by rw [← HNXE.out]; exact HNX2.out, by rw [← HNXE.out, HNX3.out]; exact HW7.out⟩
              case measure => simp [intOf]; omega
        | false =>
          have HPR1 := hide (show g k mk = if PF.1 ≠ 0 then (PF, mk) else CK by rw [HPR.out, if_neg (by decide)])
          clear HPR
          obtain ⟨w6, hw6⟩ : ∃ wz, wz = w3.alloc (.cells #[.int .i64 0, .int .i64 0] 32) := ⟨_, rfl⟩
          have hE6 : Ext w3 w6 := by rw [hw6]; exact (Ext.rfl' w3).alloc (Nat.le_refl _) _
          have hz6 : Blk w6 w3.heap.size 32 #[.int .i64 0, .int .i64 0] := by rw [hw6]; exact Blk.new _ _ _
          obtain ⟨gz, hgz⟩ : ∃ g, g = w3.heap.size := ⟨_, rfl⟩
          rw [← hgz] at hz6
          have hzn : gz ≠ gw := by have := HG3.out.sz; have := HGL2.out; omega
          have hzf : gz ≠ gf := by have := HG3.out.sz; have := HF.out.lt; omega
          have hzl : w.heap.size ≤ gz := by have := HG3.out.sz; have := HGL2.out; have := HGL.out; omega
          have hzl0 : w0.heap.size ≤ gz := by have := HG3.out.sz; omega
          have hzv : gv ≠ gz := by have := HP3.out.lt; omega
          have HZV := hide hzv
          have HZB6 := hide hz6
          have HZN := hide hzn
          have HZF := hide hzf
          have HZL0 := hide hzl0
          have HAL6 := hide hw6
          have HAG6 := hide hgz
          have HG6 := hide (HG3.out.ext hE6)
          have HW6 := hide (HW3.out.ext hE6)
          have HF6 := hide (HG6.out.blk HF.out HN.out)
          have HT6 := hide (HG6.out.blk HT.out HN2.out)
          have HP6 := hide (HP3.out.ext hE6)
          have b0 := HF6.out.cell 0
          have b1 := HF6.out.cell 1
          have b2 := HF6.out.cell 2
          have f0 := HF6.out.free 0
          have f1 := HF6.out.free 1
          have f2 := HF6.out.free 2
          have c0 := HW6.out.cell 0
          have c1 := HW6.out.cell 1
          have c2 := HW6.out.cell 2
          have g0 := HW6.out.free 0
          have g1 := HW6.out.free 1
          have g2 := HW6.out.free 2
          have t0 := HT6.out.cell 0
          have t1 := HT6.out.cell 1
          have t6 := HT6.out.cell 6
          simp only [List.getElem?_toArray, List.getElem?_cons_zero, List.getElem?_cons_succ] at b0 b1 b2 c0 c1 c2 t0 t1 t6
          have v0 := blk_at HP6.out HV0.out
          have v1 := blk_at HP6.out HV1.out
          have v2 := blk_at HP6.out HV2.out
          have v3 := blk_at HP6.out HV3.out
          have v4 := blk_at HP6.out HV4.out
          have u0 := HZB6.out.cell 0
          have u1 := HZB6.out.cell 1
          have x0 := HZB6.out.free 0
          have x1 := HZB6.out.free 1
          simp only [List.getElem?_toArray, List.getElem?_cons_zero, List.getElem?_cons_succ] at u0 u1
          clear hw6 hE6 hz6 hgz hzv hzn hzf hzl hzl0
          go_upto_region 16 with fail
          rw [← HAL6.out, ← HAG6.out]
          by_cases e1 : wi < 0
          · have HPF2 := hide (show PF = (20, y) by rw [HPF.out, if_pos (.inl e1)])
            have HPR2 := hide (show g k mk = ((20, y), mk) by rw [HPR1.out, HPF2.out]; rfl)
            have HR := hide (show R = ((20, y), mk) by rw [HSTK.out (by rw [HNX.out, HPR2.out]; show (20 : Int) ≠ 0; decide), HNX.out, HPR2.out])
            clear HSTK HNX HPR1 HPR2 HPF HPF2
            go_upto_region 17 with fail
            obtain ⟨w7, hw7⟩ : ∃ wz, wz = (w6.setCell ⟨gz, 0, none⟩ (.int .i64 20)).setCell ⟨gz, 1, none⟩ (.int .i64 y) := ⟨_, rfl⟩
            have HG7 := hide (show Grw gw w0 w7 by rw [hw7]; exact (HG6.out.set (.inl HZL0.out) _).set (.inl HZL0.out) _)
            have HW7 := hide (show Blk w7 gw 35 #[.int .i64 0, .int .i64 0, .int .i64 mk] by rw [hw7]; exact (HW6.out.far HZN.out.symm _).far HZN.out.symm _)
            have HP7 := hide (show Blk w7 gv 52 vs.toArray by rw [hw7]; exact (HP6.out.far HZV.out _).far HZV.out _)
            have HZB7 := hide (show Blk w7 gz 32 #[.int .i64 20, .int .i64 y] by rw [hw7]; exact (HZB6.out.set_ 0 _).set_ 1 _)
            have HF7 := hide (HG7.out.blk HF.out HN.out)
            have HT7 := hide (HG7.out.blk HT.out HN2.out)
            have HS7 := hide hw7
            have u0 := HZB6.out.cell 0
            have u1 := HZB6.out.cell 1
            have x0 := HZB6.out.free 0
            have x1 := HZB6.out.free 1
            simp only [List.getElem?_toArray, List.getElem?_cons_zero, List.getElem?_cons_succ] at u0 u1
            clear hw7
            go_upto_region 18 with fail
            rw [← HS7.out]
            have u0 := HZB7.out.cell 0
            have u1 := HZB7.out.cell 1
            have x0 := HZB7.out.free 0
            have x1 := HZB7.out.free 1
            simp only [List.getElem?_toArray, List.getElem?_cons_zero, List.getElem?_cons_succ] at u0 u1
            have b0 := HF7.out.cell 0
            have b1 := HF7.out.cell 1
            have b2 := HF7.out.cell 2
            have f0 := HF7.out.free 0
            have f1 := HF7.out.free 1
            have f2 := HF7.out.free 2
            have c0 := HW7.out.cell 0
            have c1 := HW7.out.cell 1
            have c2 := HW7.out.cell 2
            have g0 := HW7.out.free 0
            have g1 := HW7.out.free 1
            have g2 := HW7.out.free 2
            have t0 := HT7.out.cell 0
            have t1 := HT7.out.cell 1
            have t6 := HT7.out.cell 6
            simp only [List.getElem?_toArray, List.getElem?_cons_zero, List.getElem?_cons_succ] at b0 b1 b2 c0 c1 c2 t0 t1 t6
            have v0 := blk_at HP7.out HV0.out
            have v1 := blk_at HP7.out HV1.out
            have v2 := blk_at HP7.out HV2.out
            have v3 := blk_at HP7.out HV3.out
            have v4 := blk_at HP7.out HV4.out
            go_wp2_with fail
            exact wr_ret (r := ((20, y), mk)) (g := gf) (((HF7.out.set_ 0 _).set_ 1 _).set_ 2 _) rfl rfl rfl ⟨by rw [← HRN.out, HR.out], (((ext_of_grw ((Grw.of_ext HE.out).trans HG7.out) HGL.out).setCell HLO.out _).setCell HLO.out _).setCell HLO.out _⟩
          by_cases e2 : 64 < wi
          · have HPF2 := hide (show PF = (20, y) by rw [HPF.out, if_pos (.inr e2)])
            have HPR2 := hide (show g k mk = ((20, y), mk) by rw [HPR1.out, HPF2.out]; rfl)
            have HR := hide (show R = ((20, y), mk) by rw [HSTK.out (by rw [HNX.out, HPR2.out]; show (20 : Int) ≠ 0; decide), HNX.out, HPR2.out])
            clear HSTK HNX HPR1 HPR2 HPF HPF2
            go_upto_region 17 with fail
            obtain ⟨w7, hw7⟩ : ∃ wz, wz = (w6.setCell ⟨gz, 0, none⟩ (.int .i64 20)).setCell ⟨gz, 1, none⟩ (.int .i64 y) := ⟨_, rfl⟩
            have HG7 := hide (show Grw gw w0 w7 by rw [hw7]; exact (HG6.out.set (.inl HZL0.out) _).set (.inl HZL0.out) _)
            have HW7 := hide (show Blk w7 gw 35 #[.int .i64 0, .int .i64 0, .int .i64 mk] by rw [hw7]; exact (HW6.out.far HZN.out.symm _).far HZN.out.symm _)
            have HP7 := hide (show Blk w7 gv 52 vs.toArray by rw [hw7]; exact (HP6.out.far HZV.out _).far HZV.out _)
            have HZB7 := hide (show Blk w7 gz 32 #[.int .i64 20, .int .i64 y] by rw [hw7]; exact (HZB6.out.set_ 0 _).set_ 1 _)
            have HF7 := hide (HG7.out.blk HF.out HN.out)
            have HT7 := hide (HG7.out.blk HT.out HN2.out)
            have HS7 := hide hw7
            have u0 := HZB6.out.cell 0
            have u1 := HZB6.out.cell 1
            have x0 := HZB6.out.free 0
            have x1 := HZB6.out.free 1
            simp only [List.getElem?_toArray, List.getElem?_cons_zero, List.getElem?_cons_succ] at u0 u1
            clear hw7
            go_upto_region 18 with fail
            rw [← HS7.out]
            have u0 := HZB7.out.cell 0
            have u1 := HZB7.out.cell 1
            have x0 := HZB7.out.free 0
            have x1 := HZB7.out.free 1
            simp only [List.getElem?_toArray, List.getElem?_cons_zero, List.getElem?_cons_succ] at u0 u1
            have b0 := HF7.out.cell 0
            have b1 := HF7.out.cell 1
            have b2 := HF7.out.cell 2
            have f0 := HF7.out.free 0
            have f1 := HF7.out.free 1
            have f2 := HF7.out.free 2
            have c0 := HW7.out.cell 0
            have c1 := HW7.out.cell 1
            have c2 := HW7.out.cell 2
            have g0 := HW7.out.free 0
            have g1 := HW7.out.free 1
            have g2 := HW7.out.free 2
            have t0 := HT7.out.cell 0
            have t1 := HT7.out.cell 1
            have t6 := HT7.out.cell 6
            simp only [List.getElem?_toArray, List.getElem?_cons_zero, List.getElem?_cons_succ] at b0 b1 b2 c0 c1 c2 t0 t1 t6
            have v0 := blk_at HP7.out HV0.out
            have v1 := blk_at HP7.out HV1.out
            have v2 := blk_at HP7.out HV2.out
            have v3 := blk_at HP7.out HV3.out
            have v4 := blk_at HP7.out HV4.out
            go_wp2_with fail
            exact wr_ret (r := ((20, y), mk)) (g := gf) (((HF7.out.set_ 0 _).set_ 1 _).set_ 2 _) rfl rfl rfl ⟨by rw [← HRN.out, HR.out], (((ext_of_grw ((Grw.of_ext HE.out).trans HG7.out) HGL.out).setCell HLO.out _).setCell HLO.out _).setCell HLO.out _⟩
          have HPF2 := hide (show PF = if LF.1 = 0 then CF else LF by rw [HPF.out, if_neg (fun hh => hh.elim e1 e2)])
          clear HPF
          go_upto_region 19 with fail
          clear b0 b1 b2 f0 f1 f2 c0 c1 c2 g0 g1 g2 t0 t1 t6 u0 u1 x0 x1
          go_wp2_with fail
          refine (HLAB.out _ (ext_of_grw ((Grw.of_ext HE.out).trans HG6.out) HGL.out)).mono ?_
          rintro e w7 ⟨rfl, hE7⟩
          obtain ⟨L1, L2⟩ := LF
          have HG7 := hide (HG6.out.ext hE7)
          have HW7 := hide (HW6.out.ext hE7)
          have HP7 := hide (HP6.out.ext hE7)
          have HZB7 := hide (HZB6.out.ext hE7)
          obtain ⟨w8, hw8⟩ : ∃ wz, wz = (w7.setCell ⟨gz, 0, none⟩ (.int .i64 L1)).setCell ⟨gz, 1, none⟩ (.int .i64 L2) := ⟨_, rfl⟩
          have HG8 := hide (show Grw gw w0 w8 by rw [hw8]; exact (HG7.out.set (.inl HZL0.out) _).set (.inl HZL0.out) _)
          have HW8 := hide (show Blk w8 gw 35 #[.int .i64 0, .int .i64 0, .int .i64 mk] by rw [hw8]; exact (HW7.out.far HZN.out.symm _).far HZN.out.symm _)
          have HP8 := hide (show Blk w8 gv 52 vs.toArray by rw [hw8]; exact (HP7.out.far HZV.out _).far HZV.out _)
          have HZB8 := hide (show Blk w8 gz 32 #[.int .i64 L1, .int .i64 L2] by rw [hw8]; exact (HZB7.out.set_ 0 _).set_ 1 _)
          have HF8 := hide (HG8.out.blk HF.out HN.out)
          have HT8 := hide (HG8.out.blk HT.out HN2.out)
          have HS8 := hide hw8
          have u0 := HZB7.out.cell 0
          have u1 := HZB7.out.cell 1
          have x0 := HZB7.out.free 0
          have x1 := HZB7.out.free 1
          simp only [List.getElem?_toArray, List.getElem?_cons_zero, List.getElem?_cons_succ] at u0 u1
          clear hw8 hE7
          unfold fltV
          go_upto_region 20 with fail
          rw [← HS8.out]
          have u0 := HZB8.out.cell 0
          have u1 := HZB8.out.cell 1
          have x0 := HZB8.out.free 0
          have x1 := HZB8.out.free 1
          simp only [List.getElem?_toArray, List.getElem?_cons_zero, List.getElem?_cons_succ] at u0 u1
          have b0 := HF8.out.cell 0
          have b1 := HF8.out.cell 1
          have b2 := HF8.out.cell 2
          have f0 := HF8.out.free 0
          have f1 := HF8.out.free 1
          have f2 := HF8.out.free 2
          have c0 := HW8.out.cell 0
          have c1 := HW8.out.cell 1
          have c2 := HW8.out.cell 2
          have g0 := HW8.out.free 0
          have g1 := HW8.out.free 1
          have g2 := HW8.out.free 2
          have t0 := HT8.out.cell 0
          have t1 := HT8.out.cell 1
          have t6 := HT8.out.cell 6
          simp only [List.getElem?_toArray, List.getElem?_cons_zero, List.getElem?_cons_succ] at b0 b1 b2 c0 c1 c2 t0 t1 t6
          have v0 := blk_at HP8.out HV0.out
          have v1 := blk_at HP8.out HV1.out
          have v2 := blk_at HP8.out HV2.out
          have v3 := blk_at HP8.out HV3.out
          have v4 := blk_at HP8.out HV4.out
          by_cases l1 : L1 = 0
          · subst l1
            have HPF3 := hide (show PF = CF by rw [HPF2.out]; rfl)
            clear HPF2
            go_upto_region 21 with fail
            refine wp_region_lit ?_
            refine wpList_load_mid rfl 52 _ rfl gv 0 rfl vs _ (blk_range HP8.out) Try.underlying52 rfl (infoPart' HVL.out) ?_
            clear b0 b1 b2 f0 f1 f2 c0 c1 c2 g0 g1 g2 t0 t1 t6 u0 u1 x0 x1 v0 v1 v2 v3 v4
            go_wp2_with fail
            refine (HCO.out _ (ext_of_grw ((Grw.of_ext HE.out).trans HG8.out) HGL.out)).mono ?_
            rintro e w9 ⟨rfl, hE9⟩
            obtain ⟨C1, C2⟩ := CF
            have HG9 := hide (HG8.out.ext hE9)
            have HW9 := hide (HW8.out.ext hE9)
            have HP9 := hide (HP8.out.ext hE9)
            have HZB9 := hide (HZB8.out.ext hE9)
            obtain ⟨w10, hw10⟩ : ∃ wz, wz = (w9.setCell ⟨gz, 0, none⟩ (.int .i64 C1)).setCell ⟨gz, 1, none⟩ (.int .i64 C2) := ⟨_, rfl⟩
            have HG10 := hide (show Grw gw w0 w10 by rw [hw10]; exact (HG9.out.set (.inl HZL0.out) _).set (.inl HZL0.out) _)
            have HW10 := hide (show Blk w10 gw 35 #[.int .i64 0, .int .i64 0, .int .i64 mk] by rw [hw10]; exact (HW9.out.far HZN.out.symm _).far HZN.out.symm _)
            have HP10 := hide (show Blk w10 gv 52 vs.toArray by rw [hw10]; exact (HP9.out.far HZV.out _).far HZV.out _)
            have HZB10 := hide (show Blk w10 gz 32 #[.int .i64 C1, .int .i64 C2] by rw [hw10]; exact (HZB9.out.set_ 0 _).set_ 1 _)
            have HF10 := hide (HG10.out.blk HF.out HN.out)
            have HT10 := hide (HG10.out.blk HT.out HN2.out)
            have HS10 := hide hw10
            have u0 := HZB9.out.cell 0
            have u1 := HZB9.out.cell 1
            have x0 := HZB9.out.free 0
            have x1 := HZB9.out.free 1
            simp only [List.getElem?_toArray, List.getElem?_cons_zero, List.getElem?_cons_succ] at u0 u1
            clear hw10 hE9
            unfold fltV
            go_upto_region 22 with fail
            rw [← HS10.out]
            have u0 := HZB10.out.cell 0
            have u1 := HZB10.out.cell 1
            have x0 := HZB10.out.free 0
            have x1 := HZB10.out.free 1
            simp only [List.getElem?_toArray, List.getElem?_cons_zero, List.getElem?_cons_succ] at u0 u1
            have b0 := HF10.out.cell 0
            have b1 := HF10.out.cell 1
            have b2 := HF10.out.cell 2
            have f0 := HF10.out.free 0
            have f1 := HF10.out.free 1
            have f2 := HF10.out.free 2
            have c0 := HW10.out.cell 0
            have c1 := HW10.out.cell 1
            have c2 := HW10.out.cell 2
            have g0 := HW10.out.free 0
            have g1 := HW10.out.free 1
            have g2 := HW10.out.free 2
            have t0 := HT10.out.cell 0
            have t1 := HT10.out.cell 1
            have t6 := HT10.out.cell 6
            simp only [List.getElem?_toArray, List.getElem?_cons_zero, List.getElem?_cons_succ] at b0 b1 b2 c0 c1 c2 t0 t1 t6
            have v0 := blk_at HP10.out HV0.out
            have v1 := blk_at HP10.out HV1.out
            have v2 := blk_at HP10.out HV2.out
            have v3 := blk_at HP10.out HV3.out
            have v4 := blk_at HP10.out HV4.out
            by_cases l2 : C1 = 0
            · subst l2
              have HPR2 := hide (show g k mk = CK by rw [HPR1.out, HPF3.out]; rfl)
              clear HPR1 HPF3
              go_upto_region 24 with fail
              refine wp_region_lit ?_
              refine wpList_plain rfl ?_
              intro K31 hK31
              go_simp
              refine hK31 _ _ ?_
              refine wpList_plain rfl ?_
              intro K32 hK32
              go_simp
              refine hK32 _ _ ?_
              refine wpList_load_mid rfl 27 _ rfl gv 9 rfl vt _ (HRG.out _ _ HP10.out) Try.underlying27 rfl (infoTy' HTL.out) ?_
              clear b0 b1 b2 f0 f1 f2 t0 t1 t6 u0 u1 x0 x1 v0 v1 v2 v3 v4
              go_wp2_with fail
              refine (HWRG.out _ (ext_of_grw ((Grw.of_ext HE.out).trans HG10.out) HGL.out)).mono ?_
              rintro e w11 ⟨rfl, hE11⟩
              obtain ⟨⟨D1, D2⟩, D3⟩ := CK
              have HG11 := hide (HG10.out.ext hE11)
              have HW11 := hide (HW10.out.ext hE11)
              obtain ⟨w12, hw12⟩ : ∃ wz, wz = ((w11.setCell ⟨gw, 0, none⟩ (.int .i64 D1)).setCell ⟨gw, 1, none⟩ (.int .i64 D2)).setCell ⟨gw, 2, none⟩ (.int .i64 D3) := ⟨_, rfl⟩
              have HG12 := hide (show Grw gw w0 w12 by rw [hw12]; exact ((HG11.out.set (.inr rfl) _).set (.inr rfl) _).set (.inr rfl) _)
              have HW12 := hide (show Blk w12 gw 35 #[.int .i64 D1, .int .i64 D2, .int .i64 D3] by rw [hw12]; exact ((HW11.out.set_ 0 _).set_ 1 _).set_ 2 _)
              have HF12 := hide (HG12.out.blk HF.out HN.out)
              have HT12 := hide (HG12.out.blk HT.out HN2.out)
              have HS12 := hide hw12
              have c0 := HW11.out.cell 0
              have c1 := HW11.out.cell 1
              have c2 := HW11.out.cell 2
              have g0 := HW11.out.free 0
              have g1 := HW11.out.free 1
              have g2 := HW11.out.free 2
              simp only [List.getElem?_toArray, List.getElem?_cons_zero, List.getElem?_cons_succ] at c0 c1 c2
              clear hw12 hE11
              unfold wrV
              go_upto_region 25 with fail
              rw [← HS12.out]
              have b0 := HF12.out.cell 0
              have b1 := HF12.out.cell 1
              have b2 := HF12.out.cell 2
              have f0 := HF12.out.free 0
              have f1 := HF12.out.free 1
              have f2 := HF12.out.free 2
              have c0 := HW12.out.cell 0
              have c1 := HW12.out.cell 1
              have c2 := HW12.out.cell 2
              have g0 := HW12.out.free 0
              have g1 := HW12.out.free 1
              have g2 := HW12.out.free 2
              have t0 := HT12.out.cell 0
              have t1 := HT12.out.cell 1
              have t6 := HT12.out.cell 6
              simp only [List.getElem?_toArray, List.getElem?_cons_zero, List.getElem?_cons_succ] at b0 b1 b2 c0 c1 c2 t0 t1 t6
              by_cases l3 : D1 = 0
              · have hcz := HCKZ.out l3
                have h2 : D2 = 0 := congrArg Prod.snd hcz
                clear hcz
                subst l3 h2
                have HNX2 := hide (show NX.1.1 = 0 by rw [HNX.out, HPR2.out])
                have HNX3 := hide (show NX.2 = D3 by rw [HNX.out, HPR2.out])
                clear HSTK HNX HPR2 HCKZ
                go_wp2_with fail
                go_roundw
                case rel => exact ⟨k + 1, by omega, by go_num, HG12.out, by rw [← HNXE.out]; exact HNX2.out, by rw [← HNXE.out, HNX3.out]; exact HW12.out⟩
                case measure => simp [intOf]; omega
              · have HR := hide (show R = ((D1, D2), D3) by rw [HSTK.out (by rw [HNX.out, HPR2.out]; exact l3), HNX.out, HPR2.out])
                have j0 : (D1 == 0) = false := by simpa using l3
                clear HSTK HNX HPR2 HCKZ l3
                go_wp2_with fail
                exact wr_ret (r := ((D1, D2), D3)) (g := gf) (((HF12.out.set_ 0 _).set_ 1 _).set_ 2 _) rfl rfl rfl ⟨by rw [← HRN.out, HR.out], (((ext_of_grw ((Grw.of_ext HE.out).trans HG12.out) HGL.out).setCell HLO.out _).setCell HLO.out _).setCell HLO.out _⟩
            · have HPR2 := hide (show g k mk = ((C1, C2), mk) by rw [HPR1.out, HPF3.out]; exact if_pos l2)
              have HR := hide (show R = ((C1, C2), mk) by rw [HSTK.out (by rw [HNX.out, HPR2.out]; exact l2), HNX.out, HPR2.out])
              have j0 : (C1 == 0) = false := by simpa using l2
              clear HSTK HNX HPR1 HPR2 HPF3 l2
              go_wp2_with fail
              exact wr_ret (r := ((C1, C2), mk)) (g := gf) (((HF10.out.set_ 0 _).set_ 1 _).set_ 2 _) rfl rfl rfl ⟨by rw [← HRN.out, HR.out], (((ext_of_grw ((Grw.of_ext HE.out).trans HG10.out) HGL.out).setCell HLO.out _).setCell HLO.out _).setCell HLO.out _⟩
          · have HPF3 := hide (show PF = (L1, L2) by rw [HPF2.out]; exact if_neg l1)
            have HPR2 := hide (show g k mk = ((L1, L2), mk) by rw [HPR1.out, HPF3.out]; exact if_pos l1)
            have HR := hide (show R = ((L1, L2), mk) by rw [HSTK.out (by rw [HNX.out, HPR2.out]; exact l1), HNX.out, HPR2.out])
            have j0 : (L1 == 0) = false := by simpa using l1
            clear HSTK HNX HPR1 HPR2 HPF2 HPF3 l1
            go_wp2_with fail
            exact wr_ret (r := ((L1, L2), mk)) (g := gf) (((HF8.out.set_ 0 _).set_ 1 _).set_ 2 _) rfl rfl rfl ⟨by rw [← HRN.out, HR.out], (((ext_of_grw ((Grw.of_ext HE.out).trans HG8.out) HGL.out).setCell HLO.out _).setCell HLO.out _).setCell HLO.out _⟩
      · have HGK := hide (HBADK.out he)
        have HR := hide (show R = ((ev, y), mk) by rw [HSTK.out (by rw [HNX.out, HGK.out]; exact he), HNX.out, HGK.out])
        have j0 : (ev == 0) = false := by simpa using he
        clear HBADK HSTP HSTK HNX HGK he
        go_wp2_with fail
        refine (with_any 0 0 mk ev y _).mono ?_
        rintro e w5 ⟨rfl, hE5⟩
        have HG5 := hide (HG3.out.ext hE5)
        have HW5 := hide (HW3.out.ext hE5)
        have HF5 := hide (HG5.out.blk HF.out HN.out)
        have HT5 := hide (HG5.out.blk HT.out HN2.out)
        have HP5 := hide (HP3.out.ext hE5)
        have b0 := HF5.out.cell 0
        have b1 := HF5.out.cell 1
        have b2 := HF5.out.cell 2
        have f0 := HF5.out.free 0
        have f1 := HF5.out.free 1
        have f2 := HF5.out.free 2
        have c0 := HW5.out.cell 0
        have c1 := HW5.out.cell 1
        have c2 := HW5.out.cell 2
        have g0 := HW5.out.free 0
        have g1 := HW5.out.free 1
        have g2 := HW5.out.free 2
        have t0 := HT5.out.cell 0
        have t1 := HT5.out.cell 1
        have t6 := HT5.out.cell 6
        simp only [List.getElem?_toArray, List.getElem?_cons_zero, List.getElem?_cons_succ] at b0 b1 b2 c0 c1 c2 t0 t1 t6
        have v0 := blk_at HP5.out HV0.out
        have v1 := blk_at HP5.out HV1.out
        have v2 := blk_at HP5.out HV2.out
        have v3 := blk_at HP5.out HV3.out
        have v4 := blk_at HP5.out HV4.out
        unfold wrV
        clear hE5
        go_wp2_with fail
        exact wr_ret (r := ((ev, y), mk)) (g := gf) (((HF5.out.set_ 0 _).set_ 1 _).set_ 2 _) rfl rfl rfl ⟨by rw [← HRN.out, HR.out], (((ext_of_grw ((Grw.of_ext HE.out).trans HG5.out) HGL.out).setCell HLO.out _).setCell HLO.out _).setCell HLO.out _⟩
    · obtain rfl : k = n := by omega
      have HX := hide (HZ.out hgo)
      have HWr := hide hWk
      have HGr := HG4
      have HFr := hide (HGr.out.blk HF.out HN.out)
      have HTr := hide (HGr.out.blk HT.out HN2.out)
      have b0 := HFr.out.cell 0
      have b1 := HFr.out.cell 1
      have b2 := HFr.out.cell 2
      have f0 := HFr.out.free 0
      have f1 := HFr.out.free 1
      have f2 := HFr.out.free 2
      have c0 := HWr.out.cell 0
      have c1 := HWr.out.cell 1
      have c2 := HWr.out.cell 2
      have g0 := HWr.out.free 0
      have g1 := HWr.out.free 1
      have g2 := HWr.out.free 2
      have t0 := HTr.out.cell 0
      have t1 := HTr.out.cell 1
      have t6 := HTr.out.cell 6
      simp only [List.getElem?_toArray, List.getElem?_cons_zero, List.getElem?_cons_succ] at b0 b1 b2 c0 c1 c2 t0 t1 t6
      clear hG hgo hWk hEw
      go_wp2_with fail
      exact wr_ret (r := ((0, 0), (goTo g k m).2)) (g := gf) (((HFr.out.set_ 0 _).set_ 1 _).set_ 2 _) rfl rfl rfl ⟨by unfold wrV; rw [HX.out], (((ext_of_grw ((Grw.of_ext HE.out).trans HGr.out) HGL.out).setCell HLO.out _).setCell HLO.out _).setCell HLO.out _⟩
end Go.Proofs.Ytanpljalbijfkaa
