/- kinds: the checker's one, walked, by check's contract. (Printed by wip/gen_kinz.py.) -/
import Derived.Test.YtanpljalbijfkaaKinYs
namespace Go.Proofs.Ytanpljalbijfkaa
open Go.RowKit

set_option maxRecDepth 100000 in
set_option maxHeartbeats 4000000 in
theorem one_any (h : TyH) (n : Nat) (p : Nat → PtH) (t : Nat → Ty) (d m : Int) (gc B : Nat) (An Ap : Option Addr) (cn cp : Nat) (w : World) (hP : PartsAt w B Ap n p t) (hsz : ∀ i, i < n → WdsSz (p i).label ∧ WdsSz (p i).cl) (hBg : B ≤ gc) (hC : Blk w gc 44 #[.int .i64 m]) (hsub : 0 < n → ChkC (t 0) (IntKind.i64.wrap (d + 1)) B) :
    Calls Try.prog 33 #[.pointer (some ⟨gc, 0, none⟩), .agg (tyV h An cn Ap n cp).toArray, .int .i64 d] w (ChkPost (oneF h n p (fun m => chk (t 0) (IntKind.i64.wrap (d + 1)) m) m) gc w) := by
  have e1 := IntWalk.i64_left (d + 1)
  rw [e1] at hsub ⊢
  clear e1
  have hx : oneF h n p (fun m => chk (t 0) (wrap64 (d + 1)) m) m = if n = 1 ∧ ptEq (p 0) (zPt wd0 false) = true then (if h.most < 0 ∨ 1024 < h.most then ((20, h.at_), m) else chk (t 0) (wrap64 (d + 1)) m) else ((19, h.at_), m) := rfl
  generalize hRR : oneF h n p (fun m => chk (t 0) (wrap64 (d + 1)) m) m = R at hx ⊢
  clear hRR
  obtain ⟨vs0, hv0⟩ : ∃ x, x = (tyV h An cn Ap n cp).toArray := ⟨_, rfl⟩
  rw [← hv0]
  unfold tyV at hv0
  generalize h.kind = kd at hv0
  generalize h.at_ = a at hv0 hx
  generalize h.lo = lo at hv0
  generalize h.hi = hi at hv0
  generalize h.most = mo at hv0 hx
  generalize h.names.length = nn at hv0
  generalize h.name.1 = s0 at hv0
  generalize h.name.2 = s1 at hv0
  subst hv0
  obtain ⟨w0, hw0⟩ : ∃ x, x = (w.alloc (.cells #[.int .i64 kd, .int .i64 a, .int .i64 lo, .int .i64 hi, .int .i64 mo, .slice An nn cn, .slice Ap n cp, .string s0, .int .i64 s1] 27)).alloc (.cells #[.int .i64 0, .int .i64 0] 32) := ⟨_, rfl⟩
  have hT : Blk w0 w.heap.size 27 #[.int .i64 kd, .int .i64 a, .int .i64 lo, .int .i64 hi, .int .i64 mo, .slice An nn cn, .slice Ap n cp, .string s0, .int .i64 s1] := by rw [hw0]; exact (Blk.new _ _ _).alloc _
  have hF : Blk w0 (w.heap.size + 1) 32 #[.int .i64 0, .int .i64 0] := by
    rw [hw0]; have := Blk.new (w.alloc (.cells #[.int .i64 kd, .int .i64 a, .int .i64 lo, .int .i64 hi, .int .i64 mo, .slice An nn cn, .slice Ap n cp, .string s0, .int .i64 s1] 27)) 32 #[.int .i64 0, .int .i64 0]; simpa only [World.size_alloc] using this
  have hE : Ext w w0 := by rw [hw0]; exact ((Ext.rfl' w).alloc (Nat.le_refl _) _).alloc (by simp only [World.size_alloc]; omega) _
  have hS : w0.heap.size = w.heap.size + 2 := by rw [hw0]; simp only [World.size_alloc]
  have hC1 : Blk w0 gc 44 #[.int .i64 m] := hC.ext hE
  have hgl := hC.lt
  have hBw : B ≤ w.heap.size := Nat.le_of_lt (Nat.lt_of_le_of_lt hBg hgl)
  have n1 : w.heap.size + 1 ≠ gc := by omega
  have n2 : w.heap.size ≠ gc := by omega
  have hlo : w.heap.size ≤ w.heap.size + 1 := Nat.le_succ _
  generalize hCK : chk (t 0) (wrap64 (d + 1)) m = CK at hx
  obtain ⟨gf, hgf⟩ : ∃ g, g = w.heap.size + 1 := ⟨_, rfl⟩
  obtain ⟨gt, hgt⟩ : ∃ g, g = w.heap.size := ⟨_, rfl⟩
  rw [← hgf] at hF hlo n1
  rw [← hgt] at hT n2
  have HX := hide hx
  have HW := hide hw0
  have HGF := hide hgf
  have HGT := hide hgt
  have HF := hide hF
  have HE := hide hE
  have HC := hide hC1
  have HT := hide hT
  have HN := hide n1
  have HN2 := hide n2
  have HLO := hide hlo
  have HBW := hide hBw
  have HBG := hide hBg
  have t1 := hT.cell 1
  have t4 := hT.cell 4
  have t6 := hT.cell 6
  have b0 := HF.out.cell 0
  have b1 := HF.out.cell 1
  have f0 := HF.out.free 0
  have f1 := HF.out.free 1
  simp only [List.getElem?_toArray, List.getElem?_cons_zero, List.getElem?_cons_succ] at b0 b1
  simp only [List.getElem?_toArray, List.getElem?_cons_zero, List.getElem?_cons_succ] at t1 t4 t6
  clear hx hw0 hF hE hC1 hT n1 n2 hlo hgf hgt hS hBw hBg hgl hC
  by_cases hn : n = 1
  · subst hn
    obtain ⟨b, o, rfl, hb, hc⟩ := hP (by omega)
    obtain ⟨vs, r0, hpa⟩ := hc 0 (by omega)
    rw [Nat.zero_mul, Nat.add_zero] at r0
    have hs := hsz 0 (by omega)
    have hsb := hsub (by omega)
    obtain ⟨Al, cl, Ac, cc, vt, hvs, hl, hcc, htt⟩ := id hpa
    have hpw : PartAt w w.heap.size (p 0) (t 0) vs := hpa.more HBW.out
    have hem := empty_any (p 0) (t 0) w0 vs (hpw.ext HE.out) hs.1 hs.2
    have hchk := fun w1 (hE : Ext w w1) (hC1 : Blk w1 gc 44 #[.int .i64 m]) => hsb gc m w1 vt (htt.keep fun q hq => hE.cell (Nat.lt_of_lt_of_le hq HBW.out)) HBG.out hC1
    rw [hCK] at hchk
    have hvl : vs.length = 18 := hpw.len
    have htl : vt.length = 9 := by obtain ⟨y0, y1, y2, y3, y4, y5, y6, y7, y8, e⟩ := htt.nine; rw [e]; rfl
    have hr1 : w0.rangeAt b o vs := fun j v hv => (HE.out.cell (p := ⟨b, o + j, none⟩) (Nat.lt_of_lt_of_le hb HBW.out)).trans (r0 j v hv)
    have hrt : w.rangeAt b (o + 9) vt := fun j v hv => by
      have := r0 (9 + j) v (by rw [hvs, List.getElem?_append_right (by show 9 ≤ 9 + j; omega)]; rw [show 9 + j - (ptV (p 0) Al cl Ac cc).length = j by show 9 + j - 9 = j; omega]; exact hv)
      rwa [← Nat.add_assoc] at this
    have hbw := Nat.lt_of_lt_of_le hb HBW.out
    generalize ptEq (p 0) (zPt wd0 false) = SB at hem HX
    have HEM := hide hem
    have HCHK := hide hchk
    have HVL := hide hvl
    have HTL := hide htl
    have HR1 := hide hr1
    have HRT := hide hrt
    have HB := hide hbw
    clear hem hchk hvl htl hr1 hrt hbw hpw hvs hl hcc htt hs hsb hpa r0 hc hb hsz hsub hP hCK
    cases SB with
    | false =>
      have HR := hide (show R = ((19, a), m) by rw [HX.out, if_neg (fun hh => by cases hh.2)])
      go_enter Try.func33, Try.ntmps33
      go_upto_region 1 with fail
      rw [← HW.out, ← HGF.out, ← HGT.out]
      refine wp_region_lit ?_
      refine wpList_plain rfl ?_
      intro K1 hK1
      go_simp
      refine hK1 _ _ ?_
      refine wpList_plain rfl ?_
      intro K2 hK2
      go_simp
      refine hK2 _ _ ?_
      refine wpList_plain rfl ?_
      intro K3 hK3
      go_simp
      refine hK3 _ _ ?_
      refine wpList_plain rfl ?_
      intro K4 hK4
      go_simp
      refine hK4 _ _ ?_
      refine wpList_plain rfl ?_
      intro K5 hK5
      go_simp
      refine hK5 _ _ ?_
      refine wpList_unguard' (by rfl) ?_
      refine wpList_plain rfl ?_
      intro K6 hK6
      go_simp
      refine hK6 _ _ ?_
      refine wpList_unguard' (by rfl) ?_
      refine wpList_plain rfl ?_
      intro K7 hK7
      go_simp
      refine hK7 _ _ ?_
      refine wpList_unguard' (by rfl) ?_
      refine wpList_plain rfl ?_
      intro K8 hK8
      go_simp
      refine hK8 _ _ ?_
      refine wpList_unguard' (by rfl) ?_
      refine wpList_load_mid rfl 52 _ rfl b o rfl vs _ HR1.out Try.underlying52 rfl (infoPart' HVL.out) ?_
      go_wp2_with fail
      refine HEM.out.mono ?_
      rintro e w3 ⟨rfl, hE3⟩
      have HF3 := hide (HF.out.ext hE3)
      have HE3 := hide (HE.out.trans' hE3)
      have HC3 := hide (HC.out.ext hE3)
      have hT3 := HT.out.ext hE3
      have t1 := hT3.cell 1
      have t4 := hT3.cell 4
      have t6 := hT3.cell 6
      have b0 := HF3.out.cell 0
      have b1 := HF3.out.cell 1
      have f0 := HF3.out.free 0
      have f1 := HF3.out.free 1
      simp only [List.getElem?_toArray, List.getElem?_cons_zero, List.getElem?_cons_succ] at b0 b1
      simp only [List.getElem?_toArray, List.getElem?_cons_zero, List.getElem?_cons_succ] at t1 t4 t6
      clear hE3 hT3
      go_wp2_with fail
      refine (bad_any 19 a _).mono ?_
      rintro e w5 ⟨rfl, hE5⟩
      have HF5 := hide (HF3.out.ext hE5)
      have HE5 := hide (HE3.out.trans' hE5)
      have HC5 := hide (HC3.out.ext hE5)
      have b0 := HF5.out.cell 0
      have b1 := HF5.out.cell 1
      have f0 := HF5.out.free 0
      have f1 := HF5.out.free 1
      simp only [List.getElem?_toArray, List.getElem?_cons_zero, List.getElem?_cons_succ] at b0 b1
      unfold fltV
      clear hE5
      go_wp2_with fail
      exact fault_ret (f := (19, a)) (g := gf) ((HF5.out.set_ 0 _).set_ 1 _) rfl rfl rfl ⟨by rw [HR.out], ((Grw.of_ext HE5.out).set (.inl HLO.out) _).set (.inl HLO.out) _, by rw [HR.out]; exact (HC5.out.far HN.out.symm _).far HN.out.symm _⟩
    | true =>
      have HX2 := hide (show R = if mo < 0 ∨ 1024 < mo then ((20, a), m) else CK by rw [HX.out, if_pos ⟨rfl, rfl⟩])
      by_cases c1 : mo < 0
      · have HR := hide (show R = ((20, a), m) by rw [HX2.out, if_pos (.inl c1)])
        go_enter Try.func33, Try.ntmps33
        go_upto_region 1 with fail
        rw [← HW.out, ← HGF.out, ← HGT.out]
        refine wp_region_lit ?_
        refine wpList_plain rfl ?_
        intro K1 hK1
        go_simp
        refine hK1 _ _ ?_
        refine wpList_plain rfl ?_
        intro K2 hK2
        go_simp
        refine hK2 _ _ ?_
        refine wpList_plain rfl ?_
        intro K3 hK3
        go_simp
        refine hK3 _ _ ?_
        refine wpList_plain rfl ?_
        intro K4 hK4
        go_simp
        refine hK4 _ _ ?_
        refine wpList_plain rfl ?_
        intro K5 hK5
        go_simp
        refine hK5 _ _ ?_
        refine wpList_unguard' (by rfl) ?_
        refine wpList_plain rfl ?_
        intro K6 hK6
        go_simp
        refine hK6 _ _ ?_
        refine wpList_unguard' (by rfl) ?_
        refine wpList_plain rfl ?_
        intro K7 hK7
        go_simp
        refine hK7 _ _ ?_
        refine wpList_unguard' (by rfl) ?_
        refine wpList_plain rfl ?_
        intro K8 hK8
        go_simp
        refine hK8 _ _ ?_
        refine wpList_unguard' (by rfl) ?_
        refine wpList_load_mid rfl 52 _ rfl b o rfl vs _ HR1.out Try.underlying52 rfl (infoPart' HVL.out) ?_
        go_wp2_with fail
        refine HEM.out.mono ?_
        rintro e w3 ⟨rfl, hE3⟩
        have HF3 := hide (HF.out.ext hE3)
        have HE3 := hide (HE.out.trans' hE3)
        have HC3 := hide (HC.out.ext hE3)
        have hT3 := HT.out.ext hE3
        have t1 := hT3.cell 1
        have t4 := hT3.cell 4
        have t6 := hT3.cell 6
        have b0 := HF3.out.cell 0
        have b1 := HF3.out.cell 1
        have f0 := HF3.out.free 0
        have f1 := HF3.out.free 1
        simp only [List.getElem?_toArray, List.getElem?_cons_zero, List.getElem?_cons_succ] at b0 b1
        simp only [List.getElem?_toArray, List.getElem?_cons_zero, List.getElem?_cons_succ] at t1 t4 t6
        clear hE3 hT3
        go_wp2_with fail
        refine (bad_any 20 a _).mono ?_
        rintro e w5 ⟨rfl, hE5⟩
        have HF5 := hide (HF3.out.ext hE5)
        have HE5 := hide (HE3.out.trans' hE5)
        have HC5 := hide (HC3.out.ext hE5)
        have b0 := HF5.out.cell 0
        have b1 := HF5.out.cell 1
        have f0 := HF5.out.free 0
        have f1 := HF5.out.free 1
        simp only [List.getElem?_toArray, List.getElem?_cons_zero, List.getElem?_cons_succ] at b0 b1
        unfold fltV
        clear hE5
        go_wp2_with fail
        exact fault_ret (f := (20, a)) (g := gf) ((HF5.out.set_ 0 _).set_ 1 _) rfl rfl rfl ⟨by rw [HR.out], ((Grw.of_ext HE5.out).set (.inl HLO.out) _).set (.inl HLO.out) _, by rw [HR.out]; exact (HC5.out.far HN.out.symm _).far HN.out.symm _⟩
      by_cases c2 : 1024 < mo
      · have HR := hide (show R = ((20, a), m) by rw [HX2.out, if_pos (.inr c2)])
        go_enter Try.func33, Try.ntmps33
        go_upto_region 1 with fail
        rw [← HW.out, ← HGF.out, ← HGT.out]
        refine wp_region_lit ?_
        refine wpList_plain rfl ?_
        intro K1 hK1
        go_simp
        refine hK1 _ _ ?_
        refine wpList_plain rfl ?_
        intro K2 hK2
        go_simp
        refine hK2 _ _ ?_
        refine wpList_plain rfl ?_
        intro K3 hK3
        go_simp
        refine hK3 _ _ ?_
        refine wpList_plain rfl ?_
        intro K4 hK4
        go_simp
        refine hK4 _ _ ?_
        refine wpList_plain rfl ?_
        intro K5 hK5
        go_simp
        refine hK5 _ _ ?_
        refine wpList_unguard' (by rfl) ?_
        refine wpList_plain rfl ?_
        intro K6 hK6
        go_simp
        refine hK6 _ _ ?_
        refine wpList_unguard' (by rfl) ?_
        refine wpList_plain rfl ?_
        intro K7 hK7
        go_simp
        refine hK7 _ _ ?_
        refine wpList_unguard' (by rfl) ?_
        refine wpList_plain rfl ?_
        intro K8 hK8
        go_simp
        refine hK8 _ _ ?_
        refine wpList_unguard' (by rfl) ?_
        refine wpList_load_mid rfl 52 _ rfl b o rfl vs _ HR1.out Try.underlying52 rfl (infoPart' HVL.out) ?_
        go_wp2_with fail
        refine HEM.out.mono ?_
        rintro e w3 ⟨rfl, hE3⟩
        have HF3 := hide (HF.out.ext hE3)
        have HE3 := hide (HE.out.trans' hE3)
        have HC3 := hide (HC.out.ext hE3)
        have hT3 := HT.out.ext hE3
        have t1 := hT3.cell 1
        have t4 := hT3.cell 4
        have t6 := hT3.cell 6
        have b0 := HF3.out.cell 0
        have b1 := HF3.out.cell 1
        have f0 := HF3.out.free 0
        have f1 := HF3.out.free 1
        simp only [List.getElem?_toArray, List.getElem?_cons_zero, List.getElem?_cons_succ] at b0 b1
        simp only [List.getElem?_toArray, List.getElem?_cons_zero, List.getElem?_cons_succ] at t1 t4 t6
        clear hE3 hT3
        go_wp2_with fail
        refine (bad_any 20 a _).mono ?_
        rintro e w5 ⟨rfl, hE5⟩
        have HF5 := hide (HF3.out.ext hE5)
        have HE5 := hide (HE3.out.trans' hE5)
        have HC5 := hide (HC3.out.ext hE5)
        have b0 := HF5.out.cell 0
        have b1 := HF5.out.cell 1
        have f0 := HF5.out.free 0
        have f1 := HF5.out.free 1
        simp only [List.getElem?_toArray, List.getElem?_cons_zero, List.getElem?_cons_succ] at b0 b1
        unfold fltV
        clear hE5
        go_wp2_with fail
        exact fault_ret (f := (20, a)) (g := gf) ((HF5.out.set_ 0 _).set_ 1 _) rfl rfl rfl ⟨by rw [HR.out], ((Grw.of_ext HE5.out).set (.inl HLO.out) _).set (.inl HLO.out) _, by rw [HR.out]; exact (HC5.out.far HN.out.symm _).far HN.out.symm _⟩
      have HR := hide (show R = CK by rw [HX2.out, if_neg (fun hh => hh.elim c1 c2)])
      go_enter Try.func33, Try.ntmps33
      go_upto_region 1 with fail
      rw [← HW.out, ← HGF.out, ← HGT.out]
      refine wp_region_lit ?_
      refine wpList_plain rfl ?_
      intro K1 hK1
      go_simp
      refine hK1 _ _ ?_
      refine wpList_plain rfl ?_
      intro K2 hK2
      go_simp
      refine hK2 _ _ ?_
      refine wpList_plain rfl ?_
      intro K3 hK3
      go_simp
      refine hK3 _ _ ?_
      refine wpList_plain rfl ?_
      intro K4 hK4
      go_simp
      refine hK4 _ _ ?_
      refine wpList_plain rfl ?_
      intro K5 hK5
      go_simp
      refine hK5 _ _ ?_
      refine wpList_unguard' (by rfl) ?_
      refine wpList_plain rfl ?_
      intro K6 hK6
      go_simp
      refine hK6 _ _ ?_
      refine wpList_unguard' (by rfl) ?_
      refine wpList_plain rfl ?_
      intro K7 hK7
      go_simp
      refine hK7 _ _ ?_
      refine wpList_unguard' (by rfl) ?_
      refine wpList_plain rfl ?_
      intro K8 hK8
      go_simp
      refine hK8 _ _ ?_
      refine wpList_unguard' (by rfl) ?_
      refine wpList_load_mid rfl 52 _ rfl b o rfl vs _ HR1.out Try.underlying52 rfl (infoPart' HVL.out) ?_
      go_wp2_with fail
      refine HEM.out.mono ?_
      rintro e w3 ⟨rfl, hE3⟩
      have HF3 := hide (HF.out.ext hE3)
      have HE3 := hide (HE.out.trans' hE3)
      have HC3 := hide (HC.out.ext hE3)
      have hT3 := HT.out.ext hE3
      have t1 := hT3.cell 1
      have t4 := hT3.cell 4
      have t6 := hT3.cell 6
      have b0 := HF3.out.cell 0
      have b1 := HF3.out.cell 1
      have f0 := HF3.out.free 0
      have f1 := HF3.out.free 1
      simp only [List.getElem?_toArray, List.getElem?_cons_zero, List.getElem?_cons_succ] at b0 b1
      simp only [List.getElem?_toArray, List.getElem?_cons_zero, List.getElem?_cons_succ] at t1 t4 t6
      clear hE3 hT3
      go_upto_region 5 with fail
      have HRT3 := hide (show w3.rangeAt b (o + 9) vt from fun j v hv => (HE3.out.cell (p := ⟨b, o + 9 + j, none⟩) HB.out).trans (HRT.out j v hv))
      refine wp_region_lit ?_
      refine wpList_plain rfl ?_
      intro K11 hK11
      go_simp
      refine hK11 _ _ ?_
      refine wpList_plain rfl ?_
      intro K12 hK12
      go_simp
      refine hK12 _ _ ?_
      refine wpList_plain rfl ?_
      intro K13 hK13
      go_simp
      refine hK13 _ _ ?_
      refine wpList_plain rfl ?_
      intro K14 hK14
      go_simp
      refine hK14 _ _ ?_
      refine wpList_plain rfl ?_
      intro K15 hK15
      go_simp
      refine hK15 _ _ ?_
      refine wpList_load_mid rfl 27 _ rfl b (o + 9) rfl vt _ HRT3.out Try.underlying27 rfl (infoTy' HTL.out) ?_
      go_wp2_with fail
      refine (HCHK.out _ HE3.out HC3.out).mono ?_
      rintro e w8 ⟨rfl, hE8, hC8⟩
      obtain ⟨⟨D1, D2⟩, D3⟩ := CK
      have HF8 := hide (hE8.blk HF3.out HN.out)
      have HE8 := hide ((Grw.of_ext HE3.out).trans hE8)
      have HC8 := hide hC8
      have b0 := HF8.out.cell 0
      have b1 := HF8.out.cell 1
      have f0 := HF8.out.free 0
      have f1 := HF8.out.free 1
      simp only [List.getElem?_toArray, List.getElem?_cons_zero, List.getElem?_cons_succ] at b0 b1
      unfold fltV
      clear hE8 hC8
      go_wp2_with fail
      exact fault_ret (f := (D1, D2)) (g := gf) ((HF8.out.set_ 0 _).set_ 1 _) rfl rfl rfl ⟨by rw [HR.out], (HE8.out.set (.inl HLO.out) _).set (.inl HLO.out) _, by rw [HR.out]; exact (HC8.out.far HN.out.symm _).far HN.out.symm _⟩
  · have HR := hide (show R = ((19, a), m) by rw [HX.out, if_neg (fun hh => hn hh.1)])
    have i0 : ((n : Int) != 1) = true := by simp; omega
    clear hP hsz hsub hCK
    go_enter Try.func33, Try.ntmps33
    go_upto_region 1 with fail
    rw [← HW.out, ← HGF.out, ← HGT.out]
    go_wp2_with fail
    refine (bad_any 19 a _).mono ?_
    rintro e w5 ⟨rfl, hE5⟩
    have HF5 := hide (HF.out.ext hE5)
    have HE5 := hide (HE.out.trans' hE5)
    have HC5 := hide (HC.out.ext hE5)
    have b0 := HF5.out.cell 0
    have b1 := HF5.out.cell 1
    have f0 := HF5.out.free 0
    have f1 := HF5.out.free 1
    simp only [List.getElem?_toArray, List.getElem?_cons_zero, List.getElem?_cons_succ] at b0 b1
    unfold fltV
    clear hE5
    go_wp2_with fail
    exact fault_ret (f := (19, a)) (g := gf) ((HF5.out.set_ 0 _).set_ 1 _) rfl rfl rfl ⟨by rw [HR.out], ((Grw.of_ext HE5.out).set (.inl HLO.out) _).set (.inl HLO.out) _, by rw [HR.out]; exact (HC5.out.far HN.out.symm _).far HN.out.symm _⟩
end Go.Proofs.Ytanpljalbijfkaa
