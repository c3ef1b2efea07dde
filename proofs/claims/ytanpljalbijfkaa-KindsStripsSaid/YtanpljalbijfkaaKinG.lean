/- kinds.samePart, walked, by Same's contract. (Printed by wip/gen_king.py.) -/
import Derived.Test.YtanpljalbijfkaaKinF
namespace Go.Proofs.Ytanpljalbijfkaa
open Go.RowKit

set_option maxRecDepth 100000 in
set_option maxHeartbeats 4000000 in
theorem samePart_any (p q : PtH) (t u : Ty) (w : World) (vs us : List Value) (h : PartAt w w.heap.size p t vs) (h' : PartAt w w.heap.size q u us) (hs : WdsSz p.label) (hs2 : WdsSz p.cl) (hsq : WdsSz q.label) (hsq2 : WdsSz q.cl)
    (hsame : ∀ (w1 : World) (vt ut : List Value), Ext w w1 → TyAt w1 w1.heap.size t vt → TyAt w1 w1.heap.size u ut → Calls Try.prog 13 #[.agg vt.toArray, .agg ut.toArray] w1 (fun e w' => e = .returned (.bool (sameT t u)) ∧ Ext w1 w')) :
    Calls Try.prog 26 #[.agg vs.toArray, .agg us.toArray] w (fun e w' => e = .returned (.bool (ptEq p q && sameT t u)) ∧ Ext w w') := by
  obtain ⟨Al1, cl1, Ac1, cc1, vt, rfl, hl1, hc1, ht1⟩ := h
  obtain ⟨Al2, cl2, Ac2, cc2, ut, rfl, hl2, hc2, ht2⟩ := h'
  have hsm := fun w1 (hE : Ext w w1) => hsame w1 vt ut hE (ht1.ext hE) (ht2.ext hE)
  obtain ⟨x01, x11, x21, x31, x41, x51, x61, x71, x81, rfl⟩ := ht1.nine
  obtain ⟨x02, x12, x22, x32, x42, x52, x62, x72, x82, rfl⟩ := ht2.nine
  have hw1 := fun w1 (hE : Ext w w1) => sameWords_any Al1 cl1 p.label.length p.label Al2 cl2 q.label.length q.label w1 (hl1.ext hE) rfl hs.1 (hl2.ext hE) rfl hsq.1
  have hw2 := fun w1 (hE : Ext w w1) => sameWords_any Ac1 cc1 p.cl.length p.cl Ac2 cc2 q.cl.length q.cl w1 (hc1.ext hE) rfl hs2.1 (hc2.ext hE) rfl hsq2.1
  have hx : (ptEq p q && sameT t u) = (((p.name.1.toList == q.name.1.toList) && (p.bare == q.bare) && (p.wide == q.wide) && wdsEq p.label q.label) && ((p.ck == q.ck) && (p.cn == q.cn) && wdsEq p.cl q.cl) && sameT t u) := by
    unfold ptEq plainB
    rw [str_eq]
    simp only [Bool.and_assoc]
    rfl
  clear ht1 ht2 hl1 hl2 hc1 hc2 hs hs2 hsq hsq2 hsame
  unfold ptV
  simp only [List.cons_append, List.nil_append]
  obtain ⟨n1, hn1⟩ : ∃ x, x = p.name.1 := ⟨_, rfl⟩
  rw [← hn1] at hx ⊢
  obtain ⟨a1, ha1⟩ : ∃ x, x = p.name.2 := ⟨_, rfl⟩
  rw [← ha1] at ⊢
  obtain ⟨b1, hb1⟩ : ∃ x, x = p.bare := ⟨_, rfl⟩
  rw [← hb1] at hx ⊢
  obtain ⟨l1, hl1⟩ : ∃ x, x = p.label.length := ⟨_, rfl⟩
  rw [← hl1] at hw1 ⊢
  obtain ⟨wi1, hwi1⟩ : ∃ x, x = p.wide := ⟨_, rfl⟩
  rw [← hwi1] at hx ⊢
  obtain ⟨ck1, hck1⟩ : ∃ x, x = p.ck := ⟨_, rfl⟩
  rw [← hck1] at hx ⊢
  obtain ⟨cn1, hcn1⟩ : ∃ x, x = p.cn := ⟨_, rfl⟩
  rw [← hcn1] at hx ⊢
  obtain ⟨ca1, hca1⟩ : ∃ x, x = p.cat := ⟨_, rfl⟩
  rw [← hca1] at ⊢
  obtain ⟨lc1, hlc1⟩ : ∃ x, x = p.cl.length := ⟨_, rfl⟩
  rw [← hlc1] at hw2 ⊢
  obtain ⟨n2, hn2⟩ : ∃ x, x = q.name.1 := ⟨_, rfl⟩
  rw [← hn2] at hx ⊢
  obtain ⟨a2, ha2⟩ : ∃ x, x = q.name.2 := ⟨_, rfl⟩
  rw [← ha2] at ⊢
  obtain ⟨b2, hb2⟩ : ∃ x, x = q.bare := ⟨_, rfl⟩
  rw [← hb2] at hx ⊢
  obtain ⟨l2, hl2⟩ : ∃ x, x = q.label.length := ⟨_, rfl⟩
  rw [← hl2] at hw1 ⊢
  obtain ⟨wi2, hwi2⟩ : ∃ x, x = q.wide := ⟨_, rfl⟩
  rw [← hwi2] at hx ⊢
  obtain ⟨ck2, hck2⟩ : ∃ x, x = q.ck := ⟨_, rfl⟩
  rw [← hck2] at hx ⊢
  obtain ⟨cn2, hcn2⟩ : ∃ x, x = q.cn := ⟨_, rfl⟩
  rw [← hcn2] at hx ⊢
  obtain ⟨ca2, hca2⟩ : ∃ x, x = q.cat := ⟨_, rfl⟩
  rw [← hca2] at ⊢
  obtain ⟨lc2, hlc2⟩ : ∃ x, x = q.cl.length := ⟨_, rfl⟩
  rw [← hlc2] at hw2 ⊢
  obtain ⟨W1, hW1⟩ : ∃ x, x = wdsEq p.label q.label := ⟨_, rfl⟩
  obtain ⟨W2, hW2⟩ : ∃ x, x = wdsEq p.cl q.cl := ⟨_, rfl⟩
  obtain ⟨S, hS⟩ : ∃ x, x = sameT t u := ⟨_, rfl⟩
  obtain ⟨R, hR⟩ : ∃ R, R = (ptEq p q && sameT t u) := ⟨_, rfl⟩
  rw [← hR] at hx ⊢
  rw [← hW1] at hw1 hx
  rw [← hW2] at hw2 hx
  rw [← hS] at hsm hx
  obtain ⟨B0, hB0⟩ : ∃ x, x = (n1.toList == n2.toList) := ⟨_, rfl⟩
  obtain ⟨B1, hB1⟩ : ∃ x, x = (b1 == b2) := ⟨_, rfl⟩
  obtain ⟨B2, hB2⟩ : ∃ x, x = (wi1 == wi2) := ⟨_, rfl⟩
  obtain ⟨B3, hB3⟩ : ∃ x, x = (ck1 == ck2) := ⟨_, rfl⟩
  obtain ⟨B4, hB4⟩ : ∃ x, x = (cn1 == cn2) := ⟨_, rfl⟩
  rw [← hB0, ← hB1, ← hB2, ← hB3, ← hB4] at hx
  have e0 := hB0.symm
  have e1 := hB1.symm
  have e2 := hB2.symm
  have e3 := hB3.symm
  have e4 := hB4.symm
  obtain ⟨PL, hPL⟩ : ∃ x, x = (B0 && B1 && B2 && W1) := ⟨_, rfl⟩
  obtain ⟨CO, hCO⟩ : ∃ x, x = (B3 && B4 && W2) := ⟨_, rfl⟩
  rw [← hPL, ← hCO] at hx
  have HX := hide hx
  have HPL := hide hPL
  have HCO := hide hCO
  have HW1 := hide hw1
  have HW2 := hide hw2
  have HSM := hide (show ∀ w1, Ext w w1 → Calls Try.prog 13 #[.agg #[x01, x11, x21, x31, x41, x51, x61, x71, x81], .agg #[x02, x12, x22, x32, x42, x52, x62, x72, x82]] w1 (fun e w' => e = .returned (.bool S) ∧ Ext w1 w') from hsm)
  obtain ⟨w0, hw0⟩ : ∃ w0, w0 = (w.alloc (.cells #[.string n1, .int .i64 a1, .bool b1, .slice Al1 l1 cl1, .int .i64 wi1, .int .i64 ck1, .int .i64 cn1, .int .i64 ca1, .slice Ac1 lc1 cc1, x01, x11, x21, x31, x41, x51, x61, x71, x81] 52)).alloc (.cells #[.string n2, .int .i64 a2, .bool b2, .slice Al2 l2 cl2, .int .i64 wi2, .int .i64 ck2, .int .i64 cn2, .int .i64 ca2, .slice Ac2 lc2 cc2, x02, x12, x22, x32, x42, x52, x62, x72, x82] 52) := ⟨_, rfl⟩
  have hBa : Blk w0 w.heap.size 52 #[.string n1, .int .i64 a1, .bool b1, .slice Al1 l1 cl1, .int .i64 wi1, .int .i64 ck1, .int .i64 cn1, .int .i64 ca1, .slice Ac1 lc1 cc1, x01, x11, x21, x31, x41, x51, x61, x71, x81] := by rw [hw0]; exact (Blk.new _ _ _).alloc _
  have hBb : Blk w0 (w.heap.size + 1) 52 #[.string n2, .int .i64 a2, .bool b2, .slice Al2 l2 cl2, .int .i64 wi2, .int .i64 ck2, .int .i64 cn2, .int .i64 ca2, .slice Ac2 lc2 cc2, x02, x12, x22, x32, x42, x52, x62, x72, x82] := by
    rw [hw0]; have := Blk.new (w.alloc (.cells #[.string n1, .int .i64 a1, .bool b1, .slice Al1 l1 cl1, .int .i64 wi1, .int .i64 ck1, .int .i64 cn1, .int .i64 ca1, .slice Ac1 lc1 cc1, x01, x11, x21, x31, x41, x51, x61, x71, x81] 52)) 52 #[.string n2, .int .i64 a2, .bool b2, .slice Al2 l2 cl2, .int .i64 wi2, .int .i64 ck2, .int .i64 cn2, .int .i64 ca2, .slice Ac2 lc2 cc2, x02, x12, x22, x32, x42, x52, x62, x72, x82]; simpa only [World.size_alloc] using this
  have HE0 := hide (show Ext w w0 by rw [hw0]; exact ((Ext.rfl' w).alloc (Nat.le_refl _) _).alloc (by simp only [World.size_alloc]; omega) _)
  obtain ⟨gb, hgb⟩ : ∃ g, g = w.heap.size + 1 := ⟨_, rfl⟩
  obtain ⟨ga, hga⟩ : ∃ g, g = w.heap.size := ⟨_, rfl⟩
  rw [← hgb] at hBb
  rw [← hga] at hBa
  have HBa := hide hBa
  have HBb := hide hBb
  have v0a := (HBa.out).cell 0
  have v2a := (HBa.out).cell 2
  have v3a := (HBa.out).cell 3
  have v4a := (HBa.out).cell 4
  have v0b := (HBb.out).cell 0
  have v2b := (HBb.out).cell 2
  have v3b := (HBb.out).cell 3
  have v4b := (HBb.out).cell 4
  simp only [List.getElem?_toArray, List.getElem?_cons_zero, List.getElem?_cons_succ] at v0a v2a v3a v4a v0b v2b v3b v4b
  have HW0 := hide hw0
  have HGa := hide hga
  have HGb := hide hgb
  clear hBa hBb hw0 hga hgb hw1 hw2 hx hB0 hB1 hB2 hB3 hB4 hW1 hW2 hS hsm hPL hCO hR hn1 ha1 hb1 hl1 hwi1 hck1 hcn1 hca1 hlc1 hn2 ha2 hb2 hl2 hwi2 hck2 hcn2 hca2 hlc2
  go_enter Try.func26, Try.ntmps26
  go_upto_region 1 with fail
  rw [← HW0.out, ← HGb.out, ← HGa.out]
  go_cut [5] (fun v wx => v = .bool PL ∧ Ext w0 wx)
  case first =>
    cases B0 with
    | false =>
      go_wp2_with fail
      go_meet
      exact ⟨by rw [HPL.out]; rfl, Ext.rfl' _⟩
    | true =>
      cases B1 with
      | false =>
        go_wp2_with fail
        go_meet
        exact ⟨by rw [HPL.out]; rfl, Ext.rfl' _⟩
      | true =>
        cases B2 with
        | false =>
          go_wp2_with fail
          go_meet
          exact ⟨by rw [HPL.out]; rfl, Ext.rfl' _⟩
        | true =>
          go_wp2_with fail
          refine (HW1.out w0 HE0.out).mono ?_
          rintro e w3 ⟨rfl, hE3⟩
          have HE3 := hide hE3
          clear hE3
          go_wp2_with fail
          go_meet
          exact ⟨by rw [HPL.out]; rfl, HE3.out⟩
  case rest =>
    obtain ⟨rfl, hEc⟩ := hcut
    obtain ⟨w1, hw1⟩ : ∃ w1, w1 = wc := ⟨_, rfl⟩
    rw [← hw1] at hEc ⊢
    have HE1 := hide (HE0.out.trans' hEc)
    have u5a := (HBa.out.ext hEc).cell 5
    have u6a := (HBa.out.ext hEc).cell 6
    have u8a := (HBa.out.ext hEc).cell 8
    have u5b := (HBb.out.ext hEc).cell 5
    have u6b := (HBb.out.ext hEc).cell 6
    have u8b := (HBb.out.ext hEc).cell 8
    simp only [List.getElem?_toArray, List.getElem?_cons_zero, List.getElem?_cons_succ] at u5a u6a u8a u5b u6b u8b
    have HBa := hide (HBa.out.ext hEc)
    have HBb := hide (HBb.out.ext hEc)
    clear hw1 hEc v0a v2a v3a v4a v0b v2b v3b v4b e0 e1 e2 HPL
    go_upto_region 2 with fail
    go_cut [6] (fun v wx => v = .bool CO ∧ Ext w1 wx)
    case first =>
      cases B3 with
      | false =>
        go_wp2_with fail
        go_meet
        exact ⟨by rw [HCO.out]; rfl, Ext.rfl' _⟩
      | true =>
        cases B4 with
        | false =>
          go_wp2_with fail
          go_meet
          exact ⟨by rw [HCO.out]; rfl, Ext.rfl' _⟩
        | true =>
          go_wp2_with fail
          refine (HW2.out w1 HE1.out).mono ?_
          rintro e w3 ⟨rfl, hE3⟩
          have HE3 := hide hE3
          clear hE3
          go_wp2_with fail
          go_meet
          exact ⟨by rw [HCO.out]; rfl, HE3.out⟩
    case rest =>
      obtain ⟨rfl, hEc⟩ := hcut
      obtain ⟨w2, hw2⟩ : ∃ w2, w2 = wc := ⟨_, rfl⟩
      rw [← hw2] at hEc ⊢
      have HE2 := hide (HE1.out.trans' hEc)
      have z9a := (HBa.out.ext hEc).cell 9
      have z10a := (HBa.out.ext hEc).cell 10
      have z11a := (HBa.out.ext hEc).cell 11
      have z12a := (HBa.out.ext hEc).cell 12
      have z13a := (HBa.out.ext hEc).cell 13
      have z14a := (HBa.out.ext hEc).cell 14
      have z15a := (HBa.out.ext hEc).cell 15
      have z16a := (HBa.out.ext hEc).cell 16
      have z17a := (HBa.out.ext hEc).cell 17
      have z9b := (HBb.out.ext hEc).cell 9
      have z10b := (HBb.out.ext hEc).cell 10
      have z11b := (HBb.out.ext hEc).cell 11
      have z12b := (HBb.out.ext hEc).cell 12
      have z13b := (HBb.out.ext hEc).cell 13
      have z14b := (HBb.out.ext hEc).cell 14
      have z15b := (HBb.out.ext hEc).cell 15
      have z16b := (HBb.out.ext hEc).cell 16
      have z17b := (HBb.out.ext hEc).cell 17
      simp only [List.getElem?_toArray, List.getElem?_cons_zero, List.getElem?_cons_succ] at z9a z10a z11a z12a z13a z14a z15a z16a z17a z9b z10b z11b z12b z13b z14b z15b z16b z17b
      clear hw2 hEc u5a u6a u8a u5b u6b u8b e3 e4 HCO HBa HBb
      cases PL with
      | false =>
        go_wp2_with fail
        go_ret
        exact ⟨ret_bool (by rw [HX.out]; rfl), HE2.out⟩
      | true =>
        cases CO with
        | false =>
          go_wp2_with fail
          go_ret
          exact ⟨ret_bool (by rw [HX.out]; rfl), HE2.out⟩
        | true =>
          go_wp2_with fail
          refine (HSM.out w2 HE2.out).mono ?_
          rintro e w4 ⟨rfl, hE4⟩
          have HE4 := hide (HE2.out.trans' hE4)
          clear hE4
          go_wp2_with fail
          go_ret
          exact ⟨ret_bool (by rw [HX.out]; rfl), HE4.out⟩
end Go.Proofs.Ytanpljalbijfkaa
