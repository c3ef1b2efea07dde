/- kinds: what is wrong with a part's Coarse, walked: the code's and the document's. (Printed by wip/gen_kint.py.) -/
import Derived.Test.YtanpljalbijfkaaKinSm
namespace Go.Proofs.Ytanpljalbijfkaa
open Go.RowKit

set_option maxRecDepth 100000 in
set_option maxHeartbeats 4000000 in
theorem coarse_any (q : PtH) (t : Ty) (w : World) (vs : List Value) (h : PartAt w w.heap.size q t vs) (hs2 : WdsSz q.cl) :
    Calls Try.prog 48 #[.agg vs.toArray] w (fun e w' => e = .returned (fltV (coarseF q)) ∧ Ext w w') := by
  obtain ⟨Al, cl, Ac, cc, vt, rfl, hl, hc, ht⟩ := h
  obtain ⟨x0, x1, x2, x3, x4, x5, x6, x7, x8, rfl⟩ := ht.nine
  have hlab := fun w1 (hE : Ext w w1) => label_any Ac cc q.cl.length q.cl w1 (hc.ext hE) rfl hs2
  have hx : coarseF q = if q.ck = 0 then (if q.cn = 0 ∧ q.cl.length = 0 then (0, 0) else (19, q.name.2)) else if q.ck < 0 ∨ 3 < q.ck then (14, q.cat) else
    if (q.ck = 1 ∧ q.cn < 1) ∨ (q.ck = 2 ∧ (q.cn < 0 ∨ 4096 < q.cn)) ∨ (q.ck = 3 ∧ q.cn ≠ 0) then (20, q.cat) else labelF q.cl := rfl
  have hnil : q.cl.length = 0 → labelF q.cl = (0, 0) := fun e => by rw [List.eq_nil_of_length_eq_zero e]; rfl
  unfold ptV
  simp only [List.cons_append, List.nil_append]
  obtain ⟨nm, hnm⟩ : ∃ x, x = q.name.1 := ⟨_, rfl⟩
  obtain ⟨a, ha⟩ : ∃ x, x = q.name.2 := ⟨_, rfl⟩
  obtain ⟨br, hbr⟩ : ∃ x, x = q.bare := ⟨_, rfl⟩
  obtain ⟨nl, hnl⟩ : ∃ x, x = q.label.length := ⟨_, rfl⟩
  obtain ⟨wi, hwi⟩ : ∃ x, x = q.wide := ⟨_, rfl⟩
  obtain ⟨ck, hck⟩ : ∃ x, x = q.ck := ⟨_, rfl⟩
  obtain ⟨cn, hcn⟩ : ∃ x, x = q.cn := ⟨_, rfl⟩
  obtain ⟨ca, hca⟩ : ∃ x, x = q.cat := ⟨_, rfl⟩
  obtain ⟨nc, hnc⟩ : ∃ x, x = q.cl.length := ⟨_, rfl⟩
  obtain ⟨L, hL⟩ : ∃ x, x = labelF q.cl := ⟨_, rfl⟩
  obtain ⟨R, hR⟩ : ∃ x, x = coarseF q := ⟨_, rfl⟩
  rw [← hR] at hx ⊢
  rw [← ha, ← hck, ← hcn, ← hca, ← hnc, ← hL] at hx
  rw [← hnc, ← hL] at hnil
  rw [← hnc, ← hL] at hlab
  rw [← hnm, ← ha, ← hbr, ← hnl, ← hwi, ← hck, ← hcn, ← hca, ← hnc]
  obtain ⟨L1, L2⟩ := L
  have HL := hide hlab
  obtain ⟨w0, hw0⟩ : ∃ x, x = (w.alloc (.cells #[.string nm, .int .i64 a, .bool br, .slice Al nl cl, .int .i64 wi, .int .i64 ck, .int .i64 cn, .int .i64 ca, .slice Ac nc cc, x0, x1, x2, x3, x4, x5, x6, x7, x8] 52)).alloc (.cells #[.int .i64 0, .int .i64 0] 32) := ⟨_, rfl⟩
  have hP : Blk w0 w.heap.size 52 #[.string nm, .int .i64 a, .bool br, .slice Al nl cl, .int .i64 wi, .int .i64 ck, .int .i64 cn, .int .i64 ca, .slice Ac nc cc, x0, x1, x2, x3, x4, x5, x6, x7, x8] := by rw [hw0]; exact (Blk.new _ _ _).alloc _
  have hF : Blk w0 (w.heap.size + 1) 32 #[.int .i64 0, .int .i64 0] := by
    rw [hw0]; have := Blk.new (w.alloc (.cells #[.string nm, .int .i64 a, .bool br, .slice Al nl cl, .int .i64 wi, .int .i64 ck, .int .i64 cn, .int .i64 ca, .slice Ac nc cc, x0, x1, x2, x3, x4, x5, x6, x7, x8] 52)) 32 #[.int .i64 0, .int .i64 0]; simpa only [World.size_alloc] using this
  have hE0 : Ext w w0 := by rw [hw0]; exact ((Ext.rfl' w).alloc (Nat.le_refl _) _).alloc (by simp only [World.size_alloc]; omega) _
  obtain ⟨w1, hw1⟩ : ∃ x, x = w0.alloc (.cells #[.int .i64 ck, .int .i64 cn, .int .i64 ca, .slice Ac nc cc] 50) := ⟨_, rfl⟩
  have hC : Blk w1 w0.heap.size 50 #[.int .i64 ck, .int .i64 cn, .int .i64 ca, .slice Ac nc cc] := by rw [hw1]; exact Blk.new _ _ _
  have hP1 : Blk w1 w.heap.size 52 #[.string nm, .int .i64 a, .bool br, .slice Al nl cl, .int .i64 wi, .int .i64 ck, .int .i64 cn, .int .i64 ca, .slice Ac nc cc, x0, x1, x2, x3, x4, x5, x6, x7, x8] := by rw [hw1]; exact hP.alloc _
  have hF1 : Blk w1 (w.heap.size + 1) 32 #[.int .i64 0, .int .i64 0] := by rw [hw1]; exact hF.alloc _
  have hE1 : Ext w w1 := by rw [hw1]; exact hE0.alloc hE0.size _
  have hlo : w.heap.size ≤ w.heap.size + 1 := Nat.le_succ _
  obtain ⟨gf, hgf⟩ : ∃ g, g = w.heap.size + 1 := ⟨_, rfl⟩
  obtain ⟨gc, hgc⟩ : ∃ g, g = w0.heap.size := ⟨_, rfl⟩
  obtain ⟨gp, hgp⟩ : ∃ g, g = w.heap.size := ⟨_, rfl⟩
  rw [← hgf] at hF hF1 hlo
  rw [← hgc] at hC
  rw [← hgp] at hP hP1
  have q5 := hP.cell 5
  have q6 := hP.cell 6
  have q7 := hP.cell 7
  have q8 := hP.cell 8
  have p1 := hP1.cell 1
  have c0 := hC.cell 0
  have c1 := hC.cell 1
  have c2 := hC.cell 2
  have c3 := hC.cell 3
  have b0 := hF1.cell 0
  have b1 := hF1.cell 1
  have f0 := hF1.free 0
  have f1 := hF1.free 1
  simp only [List.getElem?_toArray, List.getElem?_cons_zero, List.getElem?_cons_succ] at q5 q6 q7 q8 p1 c0 c1 c2 c3 b0 b1
  have HF := hide hF1
  have HE := hide hE1
  have HLO := hide hlo
  have HX := hide hx
  have HNIL := hide hnil
  have HW0 := hide hw0
  have HW1 := hide hw1
  have HGF := hide hgf
  have HGC := hide hgc
  have HGP := hide hgp
  clear hP hF hC hP1 hF1 hE0 hE1 hlo hx hnil hw0 hw1 hgf hgc hgp hR hL hnc hca hcn hck hwi hnl hbr ha hnm hlab hl hc ht hs2
  go_enter Try.func48, Try.ntmps48
  go_upto_region 1 with fail
  rw [← HW0.out, ← HGF.out, ← HGP.out]
  go_upto_region 2 with fail
  rw [← HW1.out, ← HGC.out]
  clear q5 q6 q7 q8
  by_cases k0 : ck = 0
  · by_cases d : cn = 0
    · by_cases d2 : nc = 0
      · have hz := HNIL.out d2
        have HR := hide (show R = (0, 0) by rw [HX.out]; rw [if_pos (show ck = 0 by omega)]; rw [if_pos (show (cn = 0 ∧ nc = 0) by omega)])
        subst k0; subst d; subst d2
        have HZ := hide hz
        clear hz
        go_wp2_with fail
        refine (HL.out _ HE.out).mono ?_
        rintro e w5 ⟨rfl, hE5⟩
        have HF5 := hide (HF.out.ext hE5)
        have HE5 := hide (HE.out.trans' hE5)
        have b0 := HF5.out.cell 0
        have b1 := HF5.out.cell 1
        have f0 := HF5.out.free 0
        have f1 := HF5.out.free 1
        simp only [List.getElem?_toArray, List.getElem?_cons_zero, List.getElem?_cons_succ] at b0 b1
        unfold fltV
        clear hE5
        go_wp2_with fail
        exact fault_ret (f := (L1, L2)) (g := gf) ((HF5.out.set_ 0 _).set_ 1 _) rfl rfl rfl ⟨by rw [HR.out, ← HZ.out], ext_two' HE5.out HLO.out _ _⟩
      · have HR := hide (show R = (19, a) by rw [HX.out]; rw [if_pos (show ck = 0 by omega)]; rw [if_neg (show ¬ (cn = 0 ∧ nc = 0) by omega)])
        have i0 : (0 : Int) < (nc : Int) := by omega
        have i1 : ((nc : Int) == 0) = false := by simp; omega
        subst k0; subst d
        go_wp2_with fail
        refine (bad_any 19 a _).mono ?_
        rintro e w5 ⟨rfl, hE5⟩
        have HF5 := hide (HF.out.ext hE5)
        have HE5 := hide (HE.out.trans' hE5)
        have b0 := HF5.out.cell 0
        have b1 := HF5.out.cell 1
        have f0 := HF5.out.free 0
        have f1 := HF5.out.free 1
        simp only [List.getElem?_toArray, List.getElem?_cons_zero, List.getElem?_cons_succ] at b0 b1
        unfold fltV
        clear hE5
        go_wp2_with fail
        exact fault_ret (f := (19, a)) (g := gf) ((HF5.out.set_ 0 _).set_ 1 _) rfl rfl rfl ⟨by rw [HR.out], ext_two' HE5.out HLO.out _ _⟩
    · have HR := hide (show R = (19, a) by rw [HX.out]; rw [if_pos (show ck = 0 by omega)]; rw [if_neg (show ¬ (cn = 0 ∧ nc = 0) by omega)])
      have i0 : (cn == 0) = false := by simpa using d
      subst k0
      go_wp2_with fail
      refine (bad_any 19 a _).mono ?_
      rintro e w5 ⟨rfl, hE5⟩
      have HF5 := hide (HF.out.ext hE5)
      have HE5 := hide (HE.out.trans' hE5)
      have b0 := HF5.out.cell 0
      have b1 := HF5.out.cell 1
      have f0 := HF5.out.free 0
      have f1 := HF5.out.free 1
      simp only [List.getElem?_toArray, List.getElem?_cons_zero, List.getElem?_cons_succ] at b0 b1
      unfold fltV
      clear hE5
      go_wp2_with fail
      exact fault_ret (f := (19, a)) (g := gf) ((HF5.out.set_ 0 _).set_ 1 _) rfl rfl rfl ⟨by rw [HR.out], ext_two' HE5.out HLO.out _ _⟩
  by_cases k1 : ck = 1
  · by_cases d : cn < 1
    · have HR := hide (show R = (20, ca) by rw [HX.out]; rw [if_neg (show ¬ ck = 0 by omega)]; rw [if_neg (show ¬ (ck < 0 ∨ 3 < ck) by omega)]; rw [if_pos (show ((ck = 1 ∧ cn < 1) ∨ (ck = 2 ∧ (cn < 0 ∨ 4096 < cn)) ∨ (ck = 3 ∧ cn ≠ 0)) by omega)])
      have i0 : ¬ 0 < cn := by omega
      subst k1
      go_wp2_with fail
      refine (bad_any 20 ca _).mono ?_
      rintro e w5 ⟨rfl, hE5⟩
      have HF5 := hide (HF.out.ext hE5)
      have HE5 := hide (HE.out.trans' hE5)
      have b0 := HF5.out.cell 0
      have b1 := HF5.out.cell 1
      have f0 := HF5.out.free 0
      have f1 := HF5.out.free 1
      simp only [List.getElem?_toArray, List.getElem?_cons_zero, List.getElem?_cons_succ] at b0 b1
      unfold fltV
      clear hE5
      go_wp2_with fail
      exact fault_ret (f := (20, ca)) (g := gf) ((HF5.out.set_ 0 _).set_ 1 _) rfl rfl rfl ⟨by rw [HR.out], ext_two' HE5.out HLO.out _ _⟩
    · have HR := hide (show R = (L1, L2) by rw [HX.out]; rw [if_neg (show ¬ ck = 0 by omega)]; rw [if_neg (show ¬ (ck < 0 ∨ 3 < ck) by omega)]; rw [if_neg (show ¬ ((ck = 1 ∧ cn < 1) ∨ (ck = 2 ∧ (cn < 0 ∨ 4096 < cn)) ∨ (ck = 3 ∧ cn ≠ 0)) by omega)])
      have i0 : 0 < cn := by omega
      subst k1
      go_wp2_with fail
      refine (HL.out _ HE.out).mono ?_
      rintro e w5 ⟨rfl, hE5⟩
      have HF5 := hide (HF.out.ext hE5)
      have HE5 := hide (HE.out.trans' hE5)
      have b0 := HF5.out.cell 0
      have b1 := HF5.out.cell 1
      have f0 := HF5.out.free 0
      have f1 := HF5.out.free 1
      simp only [List.getElem?_toArray, List.getElem?_cons_zero, List.getElem?_cons_succ] at b0 b1
      unfold fltV
      clear hE5
      go_wp2_with fail
      exact fault_ret (f := (L1, L2)) (g := gf) ((HF5.out.set_ 0 _).set_ 1 _) rfl rfl rfl ⟨by rw [HR.out], ext_two' HE5.out HLO.out _ _⟩
  by_cases k2 : ck = 2
  · by_cases d : cn < 0
    · have HR := hide (show R = (20, ca) by rw [HX.out]; rw [if_neg (show ¬ ck = 0 by omega)]; rw [if_neg (show ¬ (ck < 0 ∨ 3 < ck) by omega)]; rw [if_pos (show ((ck = 1 ∧ cn < 1) ∨ (ck = 2 ∧ (cn < 0 ∨ 4096 < cn)) ∨ (ck = 3 ∧ cn ≠ 0)) by omega)])
      have i0 : ¬ 0 ≤ cn := by omega
      subst k2
      go_wp2_with fail
      refine (bad_any 20 ca _).mono ?_
      rintro e w5 ⟨rfl, hE5⟩
      have HF5 := hide (HF.out.ext hE5)
      have HE5 := hide (HE.out.trans' hE5)
      have b0 := HF5.out.cell 0
      have b1 := HF5.out.cell 1
      have f0 := HF5.out.free 0
      have f1 := HF5.out.free 1
      simp only [List.getElem?_toArray, List.getElem?_cons_zero, List.getElem?_cons_succ] at b0 b1
      unfold fltV
      clear hE5
      go_wp2_with fail
      exact fault_ret (f := (20, ca)) (g := gf) ((HF5.out.set_ 0 _).set_ 1 _) rfl rfl rfl ⟨by rw [HR.out], ext_two' HE5.out HLO.out _ _⟩
    by_cases d2 : 4096 < cn
    · have HR := hide (show R = (20, ca) by rw [HX.out]; rw [if_neg (show ¬ ck = 0 by omega)]; rw [if_neg (show ¬ (ck < 0 ∨ 3 < ck) by omega)]; rw [if_pos (show ((ck = 1 ∧ cn < 1) ∨ (ck = 2 ∧ (cn < 0 ∨ 4096 < cn)) ∨ (ck = 3 ∧ cn ≠ 0)) by omega)])
      have i0 : 0 ≤ cn := by omega
      have i1 : ¬ cn ≤ 4096 := by omega
      subst k2
      go_wp2_with fail
      refine (bad_any 20 ca _).mono ?_
      rintro e w5 ⟨rfl, hE5⟩
      have HF5 := hide (HF.out.ext hE5)
      have HE5 := hide (HE.out.trans' hE5)
      have b0 := HF5.out.cell 0
      have b1 := HF5.out.cell 1
      have f0 := HF5.out.free 0
      have f1 := HF5.out.free 1
      simp only [List.getElem?_toArray, List.getElem?_cons_zero, List.getElem?_cons_succ] at b0 b1
      unfold fltV
      clear hE5
      go_wp2_with fail
      exact fault_ret (f := (20, ca)) (g := gf) ((HF5.out.set_ 0 _).set_ 1 _) rfl rfl rfl ⟨by rw [HR.out], ext_two' HE5.out HLO.out _ _⟩
    · have HR := hide (show R = (L1, L2) by rw [HX.out]; rw [if_neg (show ¬ ck = 0 by omega)]; rw [if_neg (show ¬ (ck < 0 ∨ 3 < ck) by omega)]; rw [if_neg (show ¬ ((ck = 1 ∧ cn < 1) ∨ (ck = 2 ∧ (cn < 0 ∨ 4096 < cn)) ∨ (ck = 3 ∧ cn ≠ 0)) by omega)])
      have i0 : 0 ≤ cn := by omega
      have i1 : cn ≤ 4096 := by omega
      subst k2
      go_wp2_with fail
      refine (HL.out _ HE.out).mono ?_
      rintro e w5 ⟨rfl, hE5⟩
      have HF5 := hide (HF.out.ext hE5)
      have HE5 := hide (HE.out.trans' hE5)
      have b0 := HF5.out.cell 0
      have b1 := HF5.out.cell 1
      have f0 := HF5.out.free 0
      have f1 := HF5.out.free 1
      simp only [List.getElem?_toArray, List.getElem?_cons_zero, List.getElem?_cons_succ] at b0 b1
      unfold fltV
      clear hE5
      go_wp2_with fail
      exact fault_ret (f := (L1, L2)) (g := gf) ((HF5.out.set_ 0 _).set_ 1 _) rfl rfl rfl ⟨by rw [HR.out], ext_two' HE5.out HLO.out _ _⟩
  by_cases k3 : ck = 3
  · by_cases d : cn = 0
    · have HR := hide (show R = (L1, L2) by rw [HX.out]; rw [if_neg (show ¬ ck = 0 by omega)]; rw [if_neg (show ¬ (ck < 0 ∨ 3 < ck) by omega)]; rw [if_neg (show ¬ ((ck = 1 ∧ cn < 1) ∨ (ck = 2 ∧ (cn < 0 ∨ 4096 < cn)) ∨ (ck = 3 ∧ cn ≠ 0)) by omega)])
      subst k3; subst d
      go_wp2_with fail
      refine (HL.out _ HE.out).mono ?_
      rintro e w5 ⟨rfl, hE5⟩
      have HF5 := hide (HF.out.ext hE5)
      have HE5 := hide (HE.out.trans' hE5)
      have b0 := HF5.out.cell 0
      have b1 := HF5.out.cell 1
      have f0 := HF5.out.free 0
      have f1 := HF5.out.free 1
      simp only [List.getElem?_toArray, List.getElem?_cons_zero, List.getElem?_cons_succ] at b0 b1
      unfold fltV
      clear hE5
      go_wp2_with fail
      exact fault_ret (f := (L1, L2)) (g := gf) ((HF5.out.set_ 0 _).set_ 1 _) rfl rfl rfl ⟨by rw [HR.out], ext_two' HE5.out HLO.out _ _⟩
    · have HR := hide (show R = (20, ca) by rw [HX.out]; rw [if_neg (show ¬ ck = 0 by omega)]; rw [if_neg (show ¬ (ck < 0 ∨ 3 < ck) by omega)]; rw [if_pos (show ((ck = 1 ∧ cn < 1) ∨ (ck = 2 ∧ (cn < 0 ∨ 4096 < cn)) ∨ (ck = 3 ∧ cn ≠ 0)) by omega)])
      have i0 : (cn == 0) = false := by simpa using d
      subst k3
      go_wp2_with fail
      refine (bad_any 20 ca _).mono ?_
      rintro e w5 ⟨rfl, hE5⟩
      have HF5 := hide (HF.out.ext hE5)
      have HE5 := hide (HE.out.trans' hE5)
      have b0 := HF5.out.cell 0
      have b1 := HF5.out.cell 1
      have f0 := HF5.out.free 0
      have f1 := HF5.out.free 1
      simp only [List.getElem?_toArray, List.getElem?_cons_zero, List.getElem?_cons_succ] at b0 b1
      unfold fltV
      clear hE5
      go_wp2_with fail
      exact fault_ret (f := (20, ca)) (g := gf) ((HF5.out.set_ 0 _).set_ 1 _) rfl rfl rfl ⟨by rw [HR.out], ext_two' HE5.out HLO.out _ _⟩
  have HR := hide (show R = (14, ca) by rw [HX.out]; rw [if_neg k0]; rw [if_pos (show (ck < 0 ∨ 3 < ck) by omega)])
  have j0 : (ck == 0) = false := by simpa using k0
  have j1 : (ck == 1) = false := by simpa using k1
  have j2 : (ck == 2) = false := by simpa using k2
  have j3 : (ck == 3) = false := by simpa using k3
  by_cases d : ck < 0
  · go_wp2_with fail
    refine (bad_any 14 ca _).mono ?_
    rintro e w5 ⟨rfl, hE5⟩
    have HF5 := hide (HF.out.ext hE5)
    have HE5 := hide (HE.out.trans' hE5)
    have b0 := HF5.out.cell 0
    have b1 := HF5.out.cell 1
    have f0 := HF5.out.free 0
    have f1 := HF5.out.free 1
    simp only [List.getElem?_toArray, List.getElem?_cons_zero, List.getElem?_cons_succ] at b0 b1
    unfold fltV
    clear hE5
    go_wp2_with fail
    exact fault_ret (f := (14, ca)) (g := gf) ((HF5.out.set_ 0 _).set_ 1 _) rfl rfl rfl ⟨by rw [HR.out], ext_two' HE5.out HLO.out _ _⟩
  · have i1 : 3 < ck := by omega
    go_wp2_with fail
    refine (bad_any 14 ca _).mono ?_
    rintro e w5 ⟨rfl, hE5⟩
    have HF5 := hide (HF.out.ext hE5)
    have HE5 := hide (HE.out.trans' hE5)
    have b0 := HF5.out.cell 0
    have b1 := HF5.out.cell 1
    have f0 := HF5.out.free 0
    have f1 := HF5.out.free 1
    simp only [List.getElem?_toArray, List.getElem?_cons_zero, List.getElem?_cons_succ] at b0 b1
    unfold fltV
    clear hE5
    go_wp2_with fail
    exact fault_ret (f := (14, ca)) (g := gf) ((HF5.out.set_ 0 _).set_ 1 _) rfl rfl rfl ⟨by rw [HR.out], ext_two' HE5.out HLO.out _ _⟩

set_option maxRecDepth 100000 in
set_option maxHeartbeats 4000000 in
theorem refCoarse_any (q : PtH) (t : Ty) (w : World) (vs : List Value) (h : PartAt w w.heap.size q t vs) (hs2 : WdsSz q.cl) :
    Calls Try.prog 40 #[.agg vs.toArray] w (fun e w' => e = .returned (fltV (coarseF q)) ∧ Ext w w') := by
  obtain ⟨Al, cl, Ac, cc, vt, rfl, hl, hc, ht⟩ := h
  obtain ⟨x0, x1, x2, x3, x4, x5, x6, x7, x8, rfl⟩ := ht.nine
  have hlab := fun w1 (hE : Ext w w1) => refLabel_any Ac cc q.cl.length q.cl w1 (hc.ext hE) rfl hs2
  have hx : coarseF q = if q.ck = 0 then (if q.cn = 0 ∧ q.cl.length = 0 then (0, 0) else (19, q.name.2)) else if q.ck < 0 ∨ 3 < q.ck then (14, q.cat) else
    if (q.ck = 1 ∧ q.cn < 1) ∨ (q.ck = 2 ∧ (q.cn < 0 ∨ 4096 < q.cn)) ∨ (q.ck = 3 ∧ q.cn ≠ 0) then (20, q.cat) else labelF q.cl := rfl
  have hnil : q.cl.length = 0 → labelF q.cl = (0, 0) := fun e => by rw [List.eq_nil_of_length_eq_zero e]; rfl
  unfold ptV
  simp only [List.cons_append, List.nil_append]
  obtain ⟨nm, hnm⟩ : ∃ x, x = q.name.1 := ⟨_, rfl⟩
  obtain ⟨a, ha⟩ : ∃ x, x = q.name.2 := ⟨_, rfl⟩
  obtain ⟨br, hbr⟩ : ∃ x, x = q.bare := ⟨_, rfl⟩
  obtain ⟨nl, hnl⟩ : ∃ x, x = q.label.length := ⟨_, rfl⟩
  obtain ⟨wi, hwi⟩ : ∃ x, x = q.wide := ⟨_, rfl⟩
  obtain ⟨ck, hck⟩ : ∃ x, x = q.ck := ⟨_, rfl⟩
  obtain ⟨cn, hcn⟩ : ∃ x, x = q.cn := ⟨_, rfl⟩
  obtain ⟨ca, hca⟩ : ∃ x, x = q.cat := ⟨_, rfl⟩
  obtain ⟨nc, hnc⟩ : ∃ x, x = q.cl.length := ⟨_, rfl⟩
  obtain ⟨L, hL⟩ : ∃ x, x = labelF q.cl := ⟨_, rfl⟩
  obtain ⟨R, hR⟩ : ∃ x, x = coarseF q := ⟨_, rfl⟩
  rw [← hR] at hx ⊢
  rw [← ha, ← hck, ← hcn, ← hca, ← hnc, ← hL] at hx
  rw [← hnc, ← hL] at hnil
  rw [← hnc, ← hL] at hlab
  rw [← hnm, ← ha, ← hbr, ← hnl, ← hwi, ← hck, ← hcn, ← hca, ← hnc]
  obtain ⟨L1, L2⟩ := L
  have HL := hide hlab
  obtain ⟨w0, hw0⟩ : ∃ x, x = (w.alloc (.cells #[.string nm, .int .i64 a, .bool br, .slice Al nl cl, .int .i64 wi, .int .i64 ck, .int .i64 cn, .int .i64 ca, .slice Ac nc cc, x0, x1, x2, x3, x4, x5, x6, x7, x8] 52)).alloc (.cells #[.int .i64 0, .int .i64 0] 32) := ⟨_, rfl⟩
  have hP : Blk w0 w.heap.size 52 #[.string nm, .int .i64 a, .bool br, .slice Al nl cl, .int .i64 wi, .int .i64 ck, .int .i64 cn, .int .i64 ca, .slice Ac nc cc, x0, x1, x2, x3, x4, x5, x6, x7, x8] := by rw [hw0]; exact (Blk.new _ _ _).alloc _
  have hF : Blk w0 (w.heap.size + 1) 32 #[.int .i64 0, .int .i64 0] := by
    rw [hw0]; have := Blk.new (w.alloc (.cells #[.string nm, .int .i64 a, .bool br, .slice Al nl cl, .int .i64 wi, .int .i64 ck, .int .i64 cn, .int .i64 ca, .slice Ac nc cc, x0, x1, x2, x3, x4, x5, x6, x7, x8] 52)) 32 #[.int .i64 0, .int .i64 0]; simpa only [World.size_alloc] using this
  have hE0 : Ext w w0 := by rw [hw0]; exact ((Ext.rfl' w).alloc (Nat.le_refl _) _).alloc (by simp only [World.size_alloc]; omega) _
  obtain ⟨w1, hw1⟩ : ∃ x, x = w0.alloc (.cells #[.int .i64 ck, .int .i64 cn, .int .i64 ca, .slice Ac nc cc] 50) := ⟨_, rfl⟩
  have hC : Blk w1 w0.heap.size 50 #[.int .i64 ck, .int .i64 cn, .int .i64 ca, .slice Ac nc cc] := by rw [hw1]; exact Blk.new _ _ _
  have hP1 : Blk w1 w.heap.size 52 #[.string nm, .int .i64 a, .bool br, .slice Al nl cl, .int .i64 wi, .int .i64 ck, .int .i64 cn, .int .i64 ca, .slice Ac nc cc, x0, x1, x2, x3, x4, x5, x6, x7, x8] := by rw [hw1]; exact hP.alloc _
  have hF1 : Blk w1 (w.heap.size + 1) 32 #[.int .i64 0, .int .i64 0] := by rw [hw1]; exact hF.alloc _
  have hE1 : Ext w w1 := by rw [hw1]; exact hE0.alloc hE0.size _
  have hlo : w.heap.size ≤ w.heap.size + 1 := Nat.le_succ _
  obtain ⟨gf, hgf⟩ : ∃ g, g = w.heap.size + 1 := ⟨_, rfl⟩
  obtain ⟨gc, hgc⟩ : ∃ g, g = w0.heap.size := ⟨_, rfl⟩
  obtain ⟨gp, hgp⟩ : ∃ g, g = w.heap.size := ⟨_, rfl⟩
  rw [← hgf] at hF hF1 hlo
  rw [← hgc] at hC
  rw [← hgp] at hP hP1
  have q5 := hP.cell 5
  have q6 := hP.cell 6
  have q7 := hP.cell 7
  have q8 := hP.cell 8
  have p1 := hP1.cell 1
  have c0 := hC.cell 0
  have c1 := hC.cell 1
  have c2 := hC.cell 2
  have c3 := hC.cell 3
  have b0 := hF1.cell 0
  have b1 := hF1.cell 1
  have f0 := hF1.free 0
  have f1 := hF1.free 1
  simp only [List.getElem?_toArray, List.getElem?_cons_zero, List.getElem?_cons_succ] at q5 q6 q7 q8 p1 c0 c1 c2 c3 b0 b1
  have HF := hide hF1
  have HE := hide hE1
  have HLO := hide hlo
  have HX := hide hx
  have HNIL := hide hnil
  have HW0 := hide hw0
  have HW1 := hide hw1
  have HGF := hide hgf
  have HGC := hide hgc
  have HGP := hide hgp
  clear hP hF hC hP1 hF1 hE0 hE1 hlo hx hnil hw0 hw1 hgf hgc hgp hR hL hnc hca hcn hck hwi hnl hbr ha hnm hlab hl hc ht hs2
  go_enter Try.func40, Try.ntmps40
  go_upto_region 1 with fail
  rw [← HW0.out, ← HGF.out, ← HGP.out]
  go_upto_region 2 with fail
  rw [← HW1.out, ← HGC.out]
  clear q5 q6 q7 q8
  by_cases k0 : ck = 0
  · by_cases d : cn = 0
    · by_cases d2 : nc = 0
      · have hz := HNIL.out d2
        have HR := hide (show R = (0, 0) by rw [HX.out]; rw [if_pos (show ck = 0 by omega)]; rw [if_pos (show (cn = 0 ∧ nc = 0) by omega)])
        subst k0; subst d; subst d2
        clear hz
        go_wp2_with fail
        exact fault_ret (f := (0, 0)) (g := gf) ((HF.out.set_ 0 _).set_ 1 _) rfl rfl rfl ⟨by rw [HR.out], ext_two' HE.out HLO.out _ _⟩
      · have HR := hide (show R = (19, a) by rw [HX.out]; rw [if_pos (show ck = 0 by omega)]; rw [if_neg (show ¬ (cn = 0 ∧ nc = 0) by omega)])
        have i0 : (0 : Int) < (nc : Int) := by omega
        have i1 : ((nc : Int) == 0) = false := by simp; omega
        subst k0; subst d
        go_wp2_with fail
        exact fault_ret (f := (19, a)) (g := gf) ((HF.out.set_ 0 _).set_ 1 _) rfl rfl rfl ⟨by rw [HR.out], ext_two' HE.out HLO.out _ _⟩
    · have HR := hide (show R = (19, a) by rw [HX.out]; rw [if_pos (show ck = 0 by omega)]; rw [if_neg (show ¬ (cn = 0 ∧ nc = 0) by omega)])
      have i0 : (cn == 0) = false := by simpa using d
      subst k0
      go_wp2_with fail
      exact fault_ret (f := (19, a)) (g := gf) ((HF.out.set_ 0 _).set_ 1 _) rfl rfl rfl ⟨by rw [HR.out], ext_two' HE.out HLO.out _ _⟩
  by_cases k1 : ck = 1
  · by_cases d : cn < 1
    · have HR := hide (show R = (20, ca) by rw [HX.out]; rw [if_neg (show ¬ ck = 0 by omega)]; rw [if_neg (show ¬ (ck < 0 ∨ 3 < ck) by omega)]; rw [if_pos (show ((ck = 1 ∧ cn < 1) ∨ (ck = 2 ∧ (cn < 0 ∨ 4096 < cn)) ∨ (ck = 3 ∧ cn ≠ 0)) by omega)])
      have i0 : ¬ 0 < cn := by omega
      subst k1
      go_wp2_with fail
      exact fault_ret (f := (20, ca)) (g := gf) ((HF.out.set_ 0 _).set_ 1 _) rfl rfl rfl ⟨by rw [HR.out], ext_two' HE.out HLO.out _ _⟩
    · have HR := hide (show R = (L1, L2) by rw [HX.out]; rw [if_neg (show ¬ ck = 0 by omega)]; rw [if_neg (show ¬ (ck < 0 ∨ 3 < ck) by omega)]; rw [if_neg (show ¬ ((ck = 1 ∧ cn < 1) ∨ (ck = 2 ∧ (cn < 0 ∨ 4096 < cn)) ∨ (ck = 3 ∧ cn ≠ 0)) by omega)])
      have i0 : 0 < cn := by omega
      subst k1
      go_wp2_with fail
      refine (HL.out _ HE.out).mono ?_
      rintro e w5 ⟨rfl, hE5⟩
      have HF5 := hide (HF.out.ext hE5)
      have HE5 := hide (HE.out.trans' hE5)
      have b0 := HF5.out.cell 0
      have b1 := HF5.out.cell 1
      have f0 := HF5.out.free 0
      have f1 := HF5.out.free 1
      simp only [List.getElem?_toArray, List.getElem?_cons_zero, List.getElem?_cons_succ] at b0 b1
      unfold fltV
      clear hE5
      go_wp2_with fail
      exact fault_ret (f := (L1, L2)) (g := gf) ((HF5.out.set_ 0 _).set_ 1 _) rfl rfl rfl ⟨by rw [HR.out], ext_two' HE5.out HLO.out _ _⟩
  by_cases k2 : ck = 2
  · by_cases d : cn < 0
    · have HR := hide (show R = (20, ca) by rw [HX.out]; rw [if_neg (show ¬ ck = 0 by omega)]; rw [if_neg (show ¬ (ck < 0 ∨ 3 < ck) by omega)]; rw [if_pos (show ((ck = 1 ∧ cn < 1) ∨ (ck = 2 ∧ (cn < 0 ∨ 4096 < cn)) ∨ (ck = 3 ∧ cn ≠ 0)) by omega)])
      have i0 : ¬ 0 ≤ cn := by omega
      subst k2
      go_wp2_with fail
      exact fault_ret (f := (20, ca)) (g := gf) ((HF.out.set_ 0 _).set_ 1 _) rfl rfl rfl ⟨by rw [HR.out], ext_two' HE.out HLO.out _ _⟩
    by_cases d2 : 4096 < cn
    · have HR := hide (show R = (20, ca) by rw [HX.out]; rw [if_neg (show ¬ ck = 0 by omega)]; rw [if_neg (show ¬ (ck < 0 ∨ 3 < ck) by omega)]; rw [if_pos (show ((ck = 1 ∧ cn < 1) ∨ (ck = 2 ∧ (cn < 0 ∨ 4096 < cn)) ∨ (ck = 3 ∧ cn ≠ 0)) by omega)])
      have i0 : 0 ≤ cn := by omega
      have i1 : ¬ cn ≤ 4096 := by omega
      subst k2
      go_wp2_with fail
      exact fault_ret (f := (20, ca)) (g := gf) ((HF.out.set_ 0 _).set_ 1 _) rfl rfl rfl ⟨by rw [HR.out], ext_two' HE.out HLO.out _ _⟩
    · have HR := hide (show R = (L1, L2) by rw [HX.out]; rw [if_neg (show ¬ ck = 0 by omega)]; rw [if_neg (show ¬ (ck < 0 ∨ 3 < ck) by omega)]; rw [if_neg (show ¬ ((ck = 1 ∧ cn < 1) ∨ (ck = 2 ∧ (cn < 0 ∨ 4096 < cn)) ∨ (ck = 3 ∧ cn ≠ 0)) by omega)])
      have i0 : 0 ≤ cn := by omega
      have i1 : cn ≤ 4096 := by omega
      subst k2
      go_wp2_with fail
      refine (HL.out _ HE.out).mono ?_
      rintro e w5 ⟨rfl, hE5⟩
      have HF5 := hide (HF.out.ext hE5)
      have HE5 := hide (HE.out.trans' hE5)
      have b0 := HF5.out.cell 0
      have b1 := HF5.out.cell 1
      have f0 := HF5.out.free 0
      have f1 := HF5.out.free 1
      simp only [List.getElem?_toArray, List.getElem?_cons_zero, List.getElem?_cons_succ] at b0 b1
      unfold fltV
      clear hE5
      go_wp2_with fail
      exact fault_ret (f := (L1, L2)) (g := gf) ((HF5.out.set_ 0 _).set_ 1 _) rfl rfl rfl ⟨by rw [HR.out], ext_two' HE5.out HLO.out _ _⟩
  by_cases k3 : ck = 3
  · by_cases d : cn = 0
    · have HR := hide (show R = (L1, L2) by rw [HX.out]; rw [if_neg (show ¬ ck = 0 by omega)]; rw [if_neg (show ¬ (ck < 0 ∨ 3 < ck) by omega)]; rw [if_neg (show ¬ ((ck = 1 ∧ cn < 1) ∨ (ck = 2 ∧ (cn < 0 ∨ 4096 < cn)) ∨ (ck = 3 ∧ cn ≠ 0)) by omega)])
      subst k3; subst d
      go_wp2_with fail
      refine (HL.out _ HE.out).mono ?_
      rintro e w5 ⟨rfl, hE5⟩
      have HF5 := hide (HF.out.ext hE5)
      have HE5 := hide (HE.out.trans' hE5)
      have b0 := HF5.out.cell 0
      have b1 := HF5.out.cell 1
      have f0 := HF5.out.free 0
      have f1 := HF5.out.free 1
      simp only [List.getElem?_toArray, List.getElem?_cons_zero, List.getElem?_cons_succ] at b0 b1
      unfold fltV
      clear hE5
      go_wp2_with fail
      exact fault_ret (f := (L1, L2)) (g := gf) ((HF5.out.set_ 0 _).set_ 1 _) rfl rfl rfl ⟨by rw [HR.out], ext_two' HE5.out HLO.out _ _⟩
    · have HR := hide (show R = (20, ca) by rw [HX.out]; rw [if_neg (show ¬ ck = 0 by omega)]; rw [if_neg (show ¬ (ck < 0 ∨ 3 < ck) by omega)]; rw [if_pos (show ((ck = 1 ∧ cn < 1) ∨ (ck = 2 ∧ (cn < 0 ∨ 4096 < cn)) ∨ (ck = 3 ∧ cn ≠ 0)) by omega)])
      have i0 : (cn == 0) = false := by simpa using d
      subst k3
      go_wp2_with fail
      exact fault_ret (f := (20, ca)) (g := gf) ((HF.out.set_ 0 _).set_ 1 _) rfl rfl rfl ⟨by rw [HR.out], ext_two' HE.out HLO.out _ _⟩
  have HR := hide (show R = (14, ca) by rw [HX.out]; rw [if_neg k0]; rw [if_pos (show (ck < 0 ∨ 3 < ck) by omega)])
  have j0 : (ck == 0) = false := by simpa using k0
  have j1 : (ck == 1) = false := by simpa using k1
  have j2 : (ck == 2) = false := by simpa using k2
  have j3 : (ck == 3) = false := by simpa using k3
  by_cases d : ck < 0
  · go_wp2_with fail
    exact fault_ret (f := (14, ca)) (g := gf) ((HF.out.set_ 0 _).set_ 1 _) rfl rfl rfl ⟨by rw [HR.out], ext_two' HE.out HLO.out _ _⟩
  · have i1 : 3 < ck := by omega
    go_wp2_with fail
    exact fault_ret (f := (14, ca)) (g := gf) ((HF.out.set_ 0 _).set_ 1 _) rfl rfl rfl ⟨by rw [HR.out], ext_two' HE.out HLO.out _ _⟩
end Go.Proofs.Ytanpljalbijfkaa
