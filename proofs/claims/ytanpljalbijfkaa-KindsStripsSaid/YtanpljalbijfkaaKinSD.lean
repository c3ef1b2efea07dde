/- kinds: the document's still, and Placeless of a stripped type, walked. (Printed by wip/gen_kinsd.py.) -/
import Derived.Test.YtanpljalbijfkaaKinSC
import Derived.Test.YtanpljalbijfkaaKinZB
namespace Go.Proofs.Ytanpljalbijfkaa
open Go.RowKit

set_option maxRecDepth 100000 in
set_option maxHeartbeats 1000000 in
theorem still_any (A : Option Addr) (c n : Nat) (l : List Wd) (w : World) (h : WdsAt w w.heap.size A (bareWs l)) (hn : n = l.length) (hle : n ≤ 5864062014634) :
    Calls Try.prog 29 #[.slice A n c] w (fun e w' => e = .returned (.bool true) ∧ Ext w w') := by
  have HH := hide h
  have HN := hide hn
  clear h hn
  go_enter Try.func29, Try.ntmps29
  go_wp2_with fail
  go_loop [3] (fun i => ∃ k : Nat, k ≤ n ∧ i = .int .i64 k) (fun i => n - (intOf i).toNat)
  case atStart => exact ⟨0, Nat.zero_le _, rfl⟩
  case round =>
    obtain ⟨k, hk, rfl⟩ := hrel
    by_cases hlt : k < n
    · obtain ⟨b, o, rfl, hbs, hcell⟩ := HH.out.cell (by rw [bareWs_length, ← HN.out]; omega)
      have p2 := (hcell k (by rw [bareWs_length, ← HN.out]; exact hlt)).2
      rw [wPl_bare] at p2
      have i0 : (0 : Int) ≤ (k : Int) := by omega
      have i1 : (k : Int) < (n : Int) := by omega
      clear hcell
      go_wp2_with fail
      go_round
      case rel => exact ⟨k + 1, by omega, by go_num⟩
      case measure => simp [intOf]; omega
    · obtain rfl : k = n := by omega
      go_wp2_with fail
      go_ret
      exact ⟨rfl, Ext.rfl' _⟩

def PlC (t : Ty) : Prop := ∀ (w : World) (vs : List Value), TyAt w w.heap.size (strip t) vs → Calls Try.prog 16 #[.agg vs.toArray] w (fun e w' => e = .returned (.bool true) ∧ Ext w w')
set_option maxRecDepth 100000 in
set_option maxHeartbeats 4000000 in
theorem placeless_walk (h : TyH) (n : Nat) (p : Nat → PtH) (t : Nat → Ty) (w : World) (vs : List Value) (hT : TyAt w w.heap.size (strip (.mk h n p t)) vs) (hsz : TySz (.mk h n p t)) (hsub : ∀ i, i < n → PlC (t i)) :
    Calls Try.prog 16 #[.agg vs.toArray] w (fun e w' => e = .returned (.bool true) ∧ Ext w w') := by
  rw [strip_mk] at hT
  obtain ⟨An, cn, Ap, cp, hvs, hwd, hpp⟩ := hT.open_
  have hst := fun w1 (hE : Ext w w1) => still_any An cn h.names.length h.names w1 (hwd.ext hE) rfl hsz.1.1
  have hszp := hsz.2.2.2
  have hnB := hsz.2.2.1
  rw [show strH h = ⟨h.kind, 0, h.lo, h.hi, h.most, bareWs h.names, (h.name.1, 0)⟩ from rfl] at hvs
  unfold tyV at hvs
  simp only [bareWs_length] at hvs
  subst hvs
  generalize h.kind = kd
  generalize h.lo = lo
  generalize h.hi = hi
  generalize h.most = mo
  generalize h.name.1 = s0
  generalize h.names.length = nn at hst ⊢
  show Calls Try.prog 16 #[.agg #[.int .i64 kd, .int .i64 0, .int .i64 lo, .int .i64 hi, .int .i64 mo, .slice An nn cn, .slice Ap n cp, .string s0, .int .i64 0]] w _
  obtain ⟨w0, hw0⟩ : ∃ x, x = w.alloc (.cells #[.int .i64 kd, .int .i64 0, .int .i64 lo, .int .i64 hi, .int .i64 mo, .slice An nn cn, .slice Ap n cp, .string s0, .int .i64 0] 27) := ⟨_, rfl⟩
  have hT0 : Blk w0 w.heap.size 27 #[.int .i64 kd, .int .i64 0, .int .i64 lo, .int .i64 hi, .int .i64 mo, .slice An nn cn, .slice Ap n cp, .string s0, .int .i64 0] := by rw [hw0]; exact Blk.new _ _ _
  have hE0 : Ext w w0 := by rw [hw0]; exact (Ext.rfl' w).alloc (Nat.le_refl _) _
  obtain ⟨gt, hgt⟩ : ∃ g, g = w.heap.size := ⟨_, rfl⟩
  rw [← hgt] at hT0
  have t1 := hT0.cell 1
  have t5 := hT0.cell 5
  have t6 := hT0.cell 6
  have t8 := hT0.cell 8
  simp only [List.getElem?_toArray, List.getElem?_cons_zero, List.getElem?_cons_succ] at t1 t5 t6 t8
  have HST := hide hst
  have HPP := hide hpp
  have HSZP := hide hszp
  have HNB := hide hnB
  have HSUB := hide hsub
  have HW0 := hide hw0
  have HGT := hide hgt
  have HT0 := hide hT0
  have HE0 := hide hE0
  clear hst hpp hszp hnB hsub hw0 hgt hT0 hE0 hsz hT hwd
  go_enter Try.func16, Try.ntmps16
  go_upto_region 1 with fail
  rw [← HW0.out, ← HGT.out]
  go_wp2_with fail
  refine (HST.out _ HE0.out).mono ?_
  rintro e w1 ⟨rfl, hE1⟩
  have HT1 := hide (HT0.out.ext hE1)
  have HE1 := hide (HE0.out.trans' hE1)
  clear hE1 t1 t5 t6 t8
  go_wp2_with fail
  go_loopw [3] (fun i wr => ∃ k : Nat, k ≤ n ∧ i = .int .i64 k ∧ Ext w wr ∧ Blk wr gt 27 #[.int .i64 kd, .int .i64 0, .int .i64 lo, .int .i64 hi, .int .i64 mo, .slice An nn cn, .slice Ap n cp, .string s0, .int .i64 0]) (fun i _ => n - (intOf i).toNat)
  case atStart => exact ⟨0, Nat.zero_le _, rfl, HE1.out, HT1.out⟩
  case round =>
    obtain ⟨k, hk, rfl, hE, hTr⟩ := hrel
    have HE := hide hE
    have HTr := hide hTr
    have t1 := hTr.cell 1
    have t5 := hTr.cell 5
    have t6 := hTr.cell 6
    have t8 := hTr.cell 8
    simp only [List.getElem?_toArray, List.getElem?_cons_zero, List.getElem?_cons_succ] at t1 t5 t6 t8
    by_cases hlt : k < n
    · obtain ⟨b, o, rfl, hbs, hcell⟩ := HPP.out (by omega)
      obtain ⟨vs, hr0, hpa⟩ := hcell k hlt
      have hs := HSZP.out k hlt
      have hr1 : wr.rangeAt b (o + k * 18) vs := fun j v hv => (hE.cell (p := ⟨b, o + k * 18 + j, none⟩) hbs).trans (hr0 j v hv)
      have hvl : vs.length = 18 := hpa.len
      have hvo : vs.toArray.all (·.oneCell') = true := hpa.one
      obtain ⟨Al, cl, Ac, cc, vt, hvs, hlb, hcc, htt⟩ := id hpa
      have htl : vt.length = 9 := by obtain ⟨y0, y1, y2, y3, y4, y5, y6, y7, y8, e⟩ := htt.nine; rw [e]; rfl
      have hwl := fun w1 (hE : Ext w w1) => still_any Al cl (p k).label.length (p k).label w1 (WdsAt.ext (ws := bareWs (p k).label) hlb hE) rfl hs.2.1.1
      have hwc := fun w1 (hE : Ext w w1) => still_any Ac cc (p k).cl.length (p k).cl w1 (WdsAt.ext (ws := bareWs (p k).cl) hcc hE) rfl hs.2.2.1.1
      have hpl := fun w1 (hE : Ext w w1) => HSUB.out k hlt w1 vt (htt.ext hE)
      have hrg : ∀ w1 gv, Blk w1 gv 52 vs.toArray → w1.rangeAt gv 9 vt := fun w1 gv hB j v hv => by
        have := blk_range hB (9 + j) v (by rw [hvs, List.getElem?_append_right (by show 9 ≤ 9 + j; omega)]; rw [show 9 + j - (ptV (strP (p k)) Al cl Ac cc).length = j by show 9 + j - 9 = j; omega]; exact hv)
        rwa [Nat.zero_add] at this
      have hv0 : vs[0]? = some (.string (p k).name.1) := by rw [hvs]; rfl
      have hv1 : vs[1]? = some (.int .i64 0) := by rw [hvs]; rfl
      have hv2 : vs[2]? = some (.bool (p k).bare) := by rw [hvs]; rfl
      have hv3 : vs[3]? = some (.slice Al (p k).label.length cl) := by rw [hvs]; show some (Value.slice Al (bareWs (p k).label).length cl) = _; rw [bareWs_length]
      have hv4 : vs[4]? = some (.int .i64 (p k).wide) := by rw [hvs]; rfl
      have hv7 : vs[7]? = some (.int .i64 0) := by rw [hvs]; rfl
      have hv8 : vs[8]? = some (.slice Ac (p k).cl.length cc) := by rw [hvs]; show some (Value.slice Ac (bareWs (p k).cl).length cc) = _; rw [bareWs_length]
      generalize (p k).label.length = nl at hv3 hwl
      generalize (p k).cl.length = nc at hv8 hwc
      generalize (p k).name.1 = nm at hv0
      generalize (p k).bare = br at hv2
      generalize (p k).wide = wi at hv4
      obtain ⟨w2, hw2⟩ : ∃ wz, wz = wr.alloc (.cells vs.toArray 52) := ⟨_, rfl⟩
      have hE2 : Ext wr w2 := by rw [hw2]; exact (Ext.rfl' wr).alloc (Nat.le_refl _) _
      have hP2 : Blk w2 wr.heap.size 52 vs.toArray := by rw [hw2]; exact Blk.new _ _ _
      obtain ⟨gv, hgv⟩ : ∃ g, g = wr.heap.size := ⟨_, rfl⟩
      rw [← hgv] at hP2
      have HV0 := hide hv0
      have HV1 := hide hv1
      have HV2 := hide hv2
      have HV3 := hide hv3
      have HV4 := hide hv4
      have HV7 := hide hv7
      have HV8 := hide hv8
      have HP2 := hide hP2
      have HE2 := hide (hE.trans' hE2)
      have HT2 := hide (hTr.ext hE2)
      have HW2 := hide hw2
      have HGV := hide hgv
      have HWL := hide hwl
      have HWC := hide hwc
      have HPL := hide hpl
      have HRG := hide hrg
      have HVL := hide hvl
      have HVO := hide hvo
      have HTL := hide htl
      have HR1 := hide hr1
      have HK := hide hlt
      have v0 := blk_at hP2 HV0.out
      have v1 := blk_at hP2 HV1.out
      have v2 := blk_at hP2 HV2.out
      have v3 := blk_at hP2 HV3.out
      have v4 := blk_at hP2 HV4.out
      have v7 := blk_at hP2 HV7.out
      have v8 := blk_at hP2 HV8.out
      have i2 : (0 : Int) ≤ (k : Int) := by omega
      have i3 : (k : Int) < (n : Int) := by omega
      clear hE hTr hcell hr0 hpa hs hr1 hvl hvo hvs hlb hcc htt htl hwl hwc hpl hrg hv0 hv1 hv2 hv3 hv4 hv7 hv8 hw2 hE2 hP2 hgv
      go_upto_region 6 with fail
      refine wp_region_lit ?_
      refine wpList_plain rfl ?_
      intro K1 hK1
      go_simp
      refine hK1 _ _ ?_
      refine wpList_plain rfl ?_
      intro K2 hK2
      go_simp
      refine hK2 _ _ ?_
      refine wpList_plain rfl ?_
      intro K3 hK3
      go_simp
      refine hK3 _ _ ?_
      refine wpList_plain rfl ?_
      intro K4 hK4
      go_simp
      refine hK4 _ _ ?_
      refine wpList_load_mid rfl 52 _ rfl b (o + k * 18) rfl vs _ HR1.out Try.underlying52 rfl (infoPart' HVL.out) ?_
      refine wpList_plain rfl ?_
      intro K5 hK5
      go_simp
      refine hK5 _ _ ?_
      refine wpList_store_new rfl 52 _ _ rfl _ vs.toArray rfl rfl (infoPartA HVL.out) (by show _ = vs.length; rw [HVL.out]; rfl) HVO.out ?_
      go_upto_region 7 with fail
      rw [← HW2.out, ← HGV.out]
      clear t1 t5 t6 t8
      go_wp2_with fail
      refine (HWL.out _ HE2.out).mono ?_
      rintro e w3 ⟨rfl, hE3⟩
      have HP3 := hide (HP2.out.ext hE3)
      have HE3 := hide (HE2.out.trans' hE3)
      have HT3 := hide (HT2.out.ext hE3)
      clear hE3 v0 v1 v2 v3 v4 v7 v8
      have v0 := blk_at HP3.out HV0.out
      have v1 := blk_at HP3.out HV1.out
      have v2 := blk_at HP3.out HV2.out
      have v3 := blk_at HP3.out HV3.out
      have v4 := blk_at HP3.out HV4.out
      have v7 := blk_at HP3.out HV7.out
      have v8 := blk_at HP3.out HV8.out
      go_wp2_with fail
      refine (HWC.out _ HE3.out).mono ?_
      rintro e w4 ⟨rfl, hE4⟩
      have HP4 := hide (HP3.out.ext hE4)
      have HE4 := hide (HE3.out.trans' hE4)
      have HT4 := hide (HT3.out.ext hE4)
      clear hE4 v0 v1 v2 v3 v4 v7 v8
      simp only []
      rename_i Kz hKz
      refine hKz _ _ ?_
      refine wpList_unguard' (by rfl) ?_
      refine wpList_plain rfl ?_
      intro K21 hK21
      go_simp
      refine hK21 _ _ ?_
      refine wpList_plain rfl ?_
      intro K22 hK22
      go_simp
      refine hK22 _ _ ?_
      refine wpList_plain rfl ?_
      intro K23 hK23
      go_simp
      refine hK23 _ _ ?_
      refine wpList_unguard' (by rfl) ?_
      refine wpList_plain rfl ?_
      intro K24 hK24
      go_simp
      refine hK24 _ _ ?_
      refine wpList_unguard' (by rfl) ?_
      refine wpList_load_mid rfl 27 _ rfl gv 9 rfl vt _ (HRG.out _ _ HP4.out) Try.underlying27 rfl (infoTy' HTL.out) ?_
      go_wp2_with fail
      refine (HPL.out _ HE4.out).mono ?_
      rintro e w5 ⟨rfl, hE5⟩
      have HE5 := hide (HE4.out.trans' hE5)
      have HT5 := hide (HT4.out.ext hE5)
      have hkk := HK.out
      have hnb := HNB.out
      clear hE5
      go_wp2_with fail
      go_roundw
      case rel => exact ⟨k + 1, HK.out, by go_num, HE5.out, HT5.out⟩
      case measure => simp [intOf]; omega
    · obtain rfl : k = n := by omega
      clear hE hTr
      go_wp2_with fail
      go_ret
      exact ⟨rfl, HE.out⟩
theorem placeless_any (t : Ty) : TySz t → PlC t := by
  induction t with
  | nil => intro h; exact h.elim
  | mk h n p t ih => exact fun hsz w vs hT => placeless_walk h n p t w vs hT hsz (fun i hi => ih i (hsz.2.2.2 i hi).2.2.2)
end Go.Proofs.Ytanpljalbijfkaa
