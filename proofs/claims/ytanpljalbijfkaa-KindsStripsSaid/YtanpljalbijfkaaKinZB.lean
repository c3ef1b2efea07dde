/- kinds: the checker's parts, walked, by check's contract. (Printed by wip/gen_kinzb.py.) -/
import Derived.Test.YtanpljalbijfkaaKinYs
namespace Go.Proofs.Ytanpljalbijfkaa
open Go.RowKit

theorem blk_at {w : World} {g : Nat} {t : TypeId} {vs : List Value} (h : Blk w g t vs.toArray) {j : Nat} {v : Value} (hv : vs[j]? = some v) : w.cell? ⟨g, j, none⟩ = some v := by
  rw [h.cell]; simpa using hv
theorem Grw.append {gc base size n : Nat} {e : TypeId} {v : Value} {xs : List Value} {w0 w1 w3 wr : World} (h : Grw gc w0 w1) (hg : w1.grownBy w3 v.ownBlock) (hO : wr.ownsRow base e size v n xs) (hb : w0.heap.size ≤ base) : Grw gc w0 w3 :=
  ⟨h.os |> fun q => hg.os.trans q, hg.tape.trans h.tape, hg.output.trans h.output, Nat.le_trans h.size hg.size, fun i hi hr => (hg.block i (Nat.lt_of_lt_of_le hi h.size) (fun e => by have := hO.lt i e.symm; omega)).trans (h.block i hi hr)⟩
theorem own_grw {gc base size n : Nat} {e : TypeId} {v : Value} {xs : List Value} {w w' : World} (hO : w.ownsRow base e size v n xs) (h : Grw gc w w') (hb : gc < base) : w'.ownsRow base e size v n xs :=
  hO.kept h (.inr fun e => by have := hO.lt gc e; omega)
theorem partR_zero {u : Bool} {q : PtH} {t : Ty} {sub : Int → Wr} {m : Int} (hs : ∀ m', (sub m').1.1 = 0 → (sub m').1 = (0, 0)) (h : (partR u q t sub m).1.1 = 0) : (partR u q t sub m).1 = (0, 0) := by
  unfold partR at h ⊢
  split
  · rw [if_pos (by assumption)] at h
    split
    · rfl
    · rw [if_neg (by assumption)] at h; cases h
  · rw [if_neg (by assumption)] at h
    split
    · rw [if_pos (by assumption)] at h; contradiction
    · rw [if_neg (by assumption)] at h; exact hs _ h
theorem stepF_bad {k : Int} {n : Nat} {p : Nat → PtH} {t : Nat → Ty} {sub : Nat → Int → Wr} {i : Nat} {m : Int} (h : listE (pNames n p) i ≠ 0) : stepF k n p t sub i m = ((listE (pNames n p) i, (p i).name.2), m) := if_pos h
theorem stepF_part {k : Int} {n : Nat} {p : Nat → PtH} {t : Nat → Ty} {sub : Nat → Int → Wr} {i : Nat} {m : Int} (u : Bool) (hu : u = true ↔ k = 8) (h : listE (pNames n p) i = 0) : stepF k n p t sub i m = partR u (p i) (t i) (sub i) m := by
  unfold stepF partR
  rw [if_neg (show ¬ listE (pNames n p) i ≠ 0 from fun hh => hh h)]
  simp only [hu]
theorem pNames_more (n : Nat) (p : Nat → PtH) : pNames (n + 1) p = pNames n p ++ [(p n).name.1] := by simp [pNames, List.range_succ]
/-- A step that is no fault is none at all. -/
theorem stepF_zero {k : Int} {n : Nat} {p : Nat → PtH} {t : Nat → Ty} {d1 : Int} {i : Nat} {m : Int} (h : (stepF k n p t (fun i m' => chk (t i) d1 m') i m).1.1 = 0) : (stepF k n p t (fun i m' => chk (t i) d1 m') i m).1 = (0, 0) := by
  by_cases hl : listE (pNames n p) i = 0
  · rw [stepF_part (decide (k = 8)) (by simp) hl] at h ⊢
    exact partR_zero (fun m' e => chk_zero (t i) e) h
  · rw [stepF_bad hl] at h; exact absurd h hl

set_option maxRecDepth 100000 in
set_option maxHeartbeats 4000000 in
theorem parts_7 (a lo hi mo s1 : Int) (s0 : ByteArray) (nn cn cp n : Nat) (An Ap : Option Addr) (p : Nat → PtH) (t : Nat → Ty) (d m : Int) (gc B : Nat) (w : World) (hP : PartsAt w B Ap n p t) (hsz : ∀ i, i < n → (p i).name.1.size ≤ maxLen ∧ WdsSz (p i).label ∧ WdsSz (p i).cl ∧ TySz (t i)) (hBg : B ≤ gc) (hC : Blk w gc 44 #[.int .i64 m]) (hsub : ∀ i, i < n → ChkC (t i) (IntKind.i64.wrap (d + 1)) B) :
    Calls Try.prog 34 #[.pointer (some ⟨gc, 0, none⟩), .agg #[.int .i64 7, .int .i64 a, .int .i64 lo, .int .i64 hi, .int .i64 mo, .slice An nn cn, .slice Ap n cp, .string s0, .int .i64 s1], .int .i64 d] w (ChkPost (if 64 < n then ((8, (p 64).name.2), m) else goTo (stepF 7 n p t (fun i m' => chk (t i) (IntKind.i64.wrap (d + 1)) m')) n m) gc w) := by
  have e1 := IntWalk.i64_left (d + 1)
  rw [e1] at hsub ⊢
  clear e1
  obtain ⟨w0, hw0⟩ : ∃ x, x = (w.alloc (.cells #[.int .i64 7, .int .i64 a, .int .i64 lo, .int .i64 hi, .int .i64 mo, .slice An nn cn, .slice Ap n cp, .string s0, .int .i64 s1] 27)).alloc (.cells #[.int .i64 0, .int .i64 0] 32) := ⟨_, rfl⟩
  have hT : Blk w0 w.heap.size 27 #[.int .i64 7, .int .i64 a, .int .i64 lo, .int .i64 hi, .int .i64 mo, .slice An nn cn, .slice Ap n cp, .string s0, .int .i64 s1] := by rw [hw0]; exact (Blk.new _ _ _).alloc _
  have hF : Blk w0 (w.heap.size + 1) 32 #[.int .i64 0, .int .i64 0] := by
    rw [hw0]; have := Blk.new (w.alloc (.cells #[.int .i64 7, .int .i64 a, .int .i64 lo, .int .i64 hi, .int .i64 mo, .slice An nn cn, .slice Ap n cp, .string s0, .int .i64 s1] 27)) 32 #[.int .i64 0, .int .i64 0]; simpa only [World.size_alloc] using this
  have hE : Ext w w0 := by rw [hw0]; exact ((Ext.rfl' w).alloc (Nat.le_refl _) _).alloc (by simp only [World.size_alloc]; omega) _
  have hS : w0.heap.size = w.heap.size + 2 := by rw [hw0]; simp only [World.size_alloc]
  have hC1 : Blk w0 gc 44 #[.int .i64 m] := hC.ext hE
  have hgl := hC.lt
  have hBw : B ≤ w.heap.size := Nat.le_of_lt (Nat.lt_of_le_of_lt hBg hgl)
  have n1 : w.heap.size + 1 ≠ gc := by omega
  have n2 : w.heap.size ≠ gc := by omega
  have hlo : w.heap.size ≤ w.heap.size + 1 := Nat.le_succ _
  have hP0 : PartsAt w0 B Ap n p t := hP.keep fun q hq => hE.cell (Nat.lt_of_lt_of_le hq hBw)
  have hBw0 : B ≤ w0.heap.size := Nat.le_trans hBw hE.size
  have hgc0 : gc < w0.heap.size := Nat.lt_of_lt_of_le hgl hE.size
  obtain ⟨gf, hgf⟩ : ∃ g, g = w.heap.size + 1 := ⟨_, rfl⟩
  obtain ⟨gt, hgt⟩ : ∃ g, g = w.heap.size := ⟨_, rfl⟩
  rw [← hgf] at hF hlo n1
  rw [← hgt] at hT n2
  have HW := hide hw0
  have HGF := hide hgf
  have HGT := hide hgt
  have HF := hide hF
  have HE := hide hE
  have HC := hide hC1
  have HT := hide hT
  have HN := hide n1
  have HN2 := hide n2
  have HLO := hide hlo
  have HBW := hide hBw0
  have HBG := hide hBg
  have HGC := hide hgc0
  have t0 := hT.cell 0
  have t1 := hT.cell 1
  have t6 := hT.cell 6
  have b0 := HF.out.cell 0
  have b1 := HF.out.cell 1
  have f0 := HF.out.free 0
  have f1 := HF.out.free 1
  simp only [List.getElem?_toArray, List.getElem?_cons_zero, List.getElem?_cons_succ] at b0 b1
  simp only [List.getElem?_toArray, List.getElem?_cons_zero, List.getElem?_cons_succ] at t0 t1 t6
  clear hw0 hF hE hC1 hT n1 n2 hlo hgf hgt hS hBw hBg hgl hC hP hBw0 hgc0
  by_cases c1 : 64 < n
  · obtain ⟨R, hR⟩ : ∃ R : Wr, R = ((8, (p 64).name.2), m) := ⟨_, rfl⟩
    rw [if_pos c1, ← hR]
    obtain ⟨b, o, rfl, hbs, _⟩ := hP0 (by omega)
    obtain ⟨_, d1⟩ := part_cell hP0 rfl c1
    obtain ⟨x, hx⟩ : ∃ x, x = (p 64).name.2 := ⟨_, rfl⟩
    rw [← hx] at d1 hR
    have HR := hide hR
    have i0 : ((n : Int) == 0) = false := by simp; omega
    have i1 : (64 : Int) < (n : Int) := by omega
    clear hP0 hsz hsub hR hx hbs
    go_enter Try.func34, Try.ntmps34
    go_upto_region 1 with fail
    rw [← HW.out, ← HGF.out, ← HGT.out]
    go_wp2_with fail
    refine (bad_any 8 x _).mono ?_
    rintro e w5 ⟨rfl, hE5⟩
    have HF5 := hide (HF.out.ext hE5)
    have HE5 := hide (HE.out.trans' hE5)
    have HC5 := hide (HC.out.ext hE5)
    have b0 := HF5.out.cell 0
    have b1 := HF5.out.cell 1
    have f0 := HF5.out.free 0
    have f1 := HF5.out.free 1
    simp only [List.getElem?_toArray, List.getElem?_cons_zero, List.getElem?_cons_succ] at b0 b1
    unfold fltV
    clear hE5
    go_wp2_with fail
    exact fault_ret (f := (8, x)) (g := gf) ((HF5.out.set_ 0 _).set_ 1 _) rfl rfl rfl ⟨by rw [HR.out], ((Grw.of_ext HE5.out).set (.inl HLO.out) _).set (.inl HLO.out) _, by rw [HR.out]; exact (HC5.out.far HN.out.symm _).far HN.out.symm _⟩
  rw [if_neg c1]
  obtain ⟨g, hg⟩ : ∃ g, g = stepF 7 n p t (fun i m' => chk (t i) (wrap64 (d + 1)) m') := ⟨_, rfl⟩
  rw [← hg]
  have HSTEP := hide (fun k m' (hl : listE (pNames n p) k = 0) => (show g k m' = partR false (p k) (t k) (fun m => chk (t k) (wrap64 (d + 1)) m) m' by rw [hg]; exact stepF_part false (by decide) hl))
  have HBAD := hide (fun k m' (hl : listE (pNames n p) k ≠ 0) => (show g k m' = ((listE (pNames n p) k, (p k).name.2), m') by rw [hg]; exact stepF_bad hl))
  have hz : ∀ i m', i < n → (g i m').1.1 = 0 → (g i m').1 = (0, 0) := fun i m' _ e => by rw [hg] at e ⊢; exact stepF_zero e
  have HZ := hide (fun (h : (goTo g n m).1.1 = 0) => goTo_zero hz (Nat.le_refl _) h)
  have HPP := hide hP0
  have HSZ := hide hsz
  have HSUB := hide hsub
  have i0 : ((n : Int) == 0) = false ∨ n = 0 := by by_cases h : n = 0; exact .inr h; exact .inl (by simp; omega)
  have i1 : ¬ (64 : Int) < (n : Int) := by omega
  have H64 := hide c1
  obtain ⟨base, hbase⟩ : ∃ x, x = w0.heap.size := ⟨_, rfl⟩
  have HBASE := hide hbase
  clear hg hz hP0 hsz hsub c1 hbase
  clear i0
  go_enter Try.func34, Try.ntmps34
  go_upto_region 1 with fail
  rw [← HW.out, ← HGF.out, ← HGT.out]
  go_wp2_with fail
  go_loopw [40, 7] (fun i o wr => ∃ (k : Nat) (Ao : Option Addr) (co : Nat), k ≤ n ∧ i = .int .i64 k ∧ o = .slice Ao k co ∧ Grw gc w0 wr ∧ (goTo g k m).1.1 = 0 ∧ Blk wr gc 44 #[.int .i64 (goTo g k m).2] ∧ wr.ownsRow base 9 1 (.slice Ao k co) k (strCells (pNames k p)) ∧ Hid (∀ j, j < k → listE (pNames n p) j = 0)) (fun i _ _ => n - (intOf i).toNat)
  case atStart => exact ⟨0, none, 0, Nat.zero_le _, rfl, rfl, .of_ext (Ext.rfl' _), rfl, HC.out, World.ownsRow_nil _ _ _ _, fun j hj => absurd hj (by omega)⟩
  case round =>
    obtain ⟨k, Ao, co, hk, rfl, rfl, hG, hgo, hCk, hO, HA⟩ := hrel
    have HO := hide hO
    have HCK := hide hCk
    have HG := hide hG
    have HGO := hide hgo
    have hbs0 : base ≤ wr.heap.size := by rw [HBASE.out]; exact hG.sz
    by_cases hlt : k < n
    · have hkn : k < (pNames n p).length := by rw [pNames_length]; exact hlt
      obtain ⟨b, o, rfl, hbs, hcell⟩ := HPP.out (by omega)
      obtain ⟨vs, hr0, hpa⟩ := hcell k hlt
      have hs := HSZ.out k hlt
      have hcells := hG.cells HBW.out HBG.out
      have hr1 : wr.rangeAt b (o + k * 18) vs := fun j v hv => (hcells ⟨b, o + k * 18 + j, none⟩ hbs).trans (hr0 j v hv)
      have hvl : vs.length = 18 := hpa.len
      have hvo : vs.toArray.all (·.oneCell') = true := hpa.one
      have hv0 : vs[0]? = some (.string (p k).name.1) := by obtain ⟨Al, cl, Ac, cc, vt, rfl, _⟩ := hpa; rfl
      have hv1 : vs[1]? = some (.int .i64 (p k).name.2) := by obtain ⟨Al, cl, Ac, cc, vt, rfl, _⟩ := hpa; rfl
      have hne := listed_next hkn (p k).name.2 HA.out
      have HST := hide (fun hh => below_st HA.out (show listE (pNames n p) k = 0 from hh))
      have hst := pNames_more k p
      have htk : (pNames n p).take (k + 1) = pNames (k + 1) p := pNames_take hlt
      rw [htk] at hne
      have hgd : (pNames (k + 1) p).getD k ⟨#[]⟩ = (p k).name.1 := by
        rw [List.getD_eq_getElem?_getD, List.getElem?_eq_getElem (by rw [pNames_length]; exact Nat.lt_succ_self k), pNames_at]; rfl
      have hxs := hs.1
      rw [← hgd] at hxs
      have hbad := fun hh => HBAD.out k (goTo g k m).2 hh
      have hstp := fun hh => HSTEP.out k (goTo g k m).2 hh
      have hnx : goTo g (k + 1) m = g k (goTo g k m).2 := goTo_next hgo
      have hstk : (goTo g (k + 1) m).1.1 ≠ 0 → goTo g n m = goTo g (k + 1) m := goTo_stick hlt
      have HPA := hide (fun w6 (hG6 : Grw gc w0 w6) (hC6 : Blk w6 gc 44 #[.int .i64 (goTo g k m).2]) => (by have hq := part_any false (p k) (t k) d (goTo g k m).2 gc B w6 vs (hpa.keep (hG6.cells HBW.out HBG.out)) hs.2.1 hs.2.2.1 hs.2.2.2 HBG.out hC6 (by rw [IntWalk.i64_left]; exact HSUB.out k hlt); rw [IntWalk.i64_left] at hq; exact hq : Calls Try.prog 44 #[.pointer (some ⟨gc, 0, none⟩), .agg vs.toArray, .bool false, .int .i64 d] w6 (ChkPost (partR false (p k) (t k) (fun m => chk (t k) (wrap64 (d + 1)) m) (goTo g k m).2) gc w6)))
      obtain ⟨NX, hNX⟩ : ∃ x, x = goTo g (k + 1) m := ⟨_, rfl⟩
      obtain ⟨R, hRn⟩ : ∃ x, x = goTo g n m := ⟨_, rfl⟩
      rw [← hNX] at hnx hstk
      rw [← hRn] at hstk
      have HNXE := hide hNX
      have HRN := hide hRn
      clear hNX hRn
      generalize (goTo g k m).2 = mk at HCK hbad hstp hnx HPA
      generalize partR false (p k) (t k) (fun m => chk (t k) (wrap64 (d + 1)) m) mk = PR at hstp HPA
      obtain ⟨x, hx⟩ : ∃ x, x = (p k).name.1 := ⟨_, rfl⟩
      obtain ⟨y, hy⟩ : ∃ y, y = (p k).name.2 := ⟨_, rfl⟩
      obtain ⟨ev, hev⟩ : ∃ v, v = listE (pNames n p) k := ⟨_, rfl⟩
      rw [← hx] at hst hv0
      rw [← hy] at hne hbad hv1
      rw [← hev] at hne hbad hstp HST
      obtain ⟨w1, hw1⟩ : ∃ wz, wz = wr.alloc (.cells vs.toArray 52) := ⟨_, rfl⟩
      have hV : Blk w1 wr.heap.size 52 vs.toArray := by rw [hw1]; exact Blk.new _ _ _
      have hC1 : Blk w1 gc 44 #[.int .i64 mk] := by rw [hw1]; exact HCK.out.alloc _
      have hO1 : w1.ownsRow base 9 1 (.slice Ao k co) k (strCells (pNames k p)) := by rw [hw1]; exact hO.alloc _
      have hG1 : Grw gc w0 w1 := by rw [hw1]; exact hG.ext ((Ext.rfl' wr).alloc (Nat.le_refl _) _)
      have hs1 : w1.heap.size = wr.heap.size + 1 := by rw [hw1]; simp only [World.size_alloc]
      obtain ⟨gv, hgv⟩ : ∃ g, g = wr.heap.size := ⟨_, rfl⟩
      rw [← hgv] at hV
      have hgvb : base ≤ gv := by rw [hgv]; exact hbs0
      have hgvc : gv ≠ gc := by have := HGC.out; rw [← HBASE.out] at this; omega
      have hgvO : ∀ g, Value.ownBlock (.slice Ao k co) = some g → g < gv := fun g e => by rw [hgv]; exact (HO.out.lt g e).2
      have v0 := blk_at hV hv0
      have v1 := blk_at hV hv1
      have HNE := hide hne
      have HHIT := hide hbad
      have HSTP := hide hstp
      have HNX := hide hnx
      have HSTK := hide hstk
      have HST2 := hide hst
      have HXS := hide hxs
      have HW1 := hide hw1
      have HG1 := hide hgv
      have HV1 := hide hV
      have HC1 := hide hC1
      have HO1 := hide hO1
      have HGR1 := hide hG1
      have HGV := hide hgvO
      have HGVC := hide hgvc
      have hbs1 : base ≤ w1.heap.size := by rw [hs1]; omega
      have HVL := hide hvl
      have HVO := hide hvo
      have HV0 := hide hv0
      have HV1c := hide hv1
      have HR1 := hide hr1
      have i2 : (0 : Int) ≤ (k : Int) := by omega
      have i3 : (k : Int) < (n : Int) := by omega
      clear hw1 hV hC1 hO1 hG1 hs1 hgv hgvO hgvc hne hbad hstp hnx hstk hst hxs hx hy hev hgd hkn hcell hO hG hgo hCk HO HG HCK HGO HZ hvl hvo hv0 hv1 hr0 hr1 hpa hs hcells htk
      go_upto_region 8 with fail
      refine wp_region_lit ?_
      refine wpList_plain rfl ?_
      intro K1 hK1
      go_simp
      refine hK1 _ _ ?_
      refine wpList_load_mid rfl 52 _ rfl b (o + k * 18) rfl vs _ HR1.out Try.underlying52 rfl (infoPart' HVL.out) ?_
      refine wpList_plain rfl ?_
      intro K2 hK2
      go_simp
      refine hK2 _ _ ?_
      refine wpList_store_new rfl 52 _ _ rfl _ vs.toArray rfl rfl (infoPartA HVL.out) (by show _ = vs.length; rw [HVL.out]; rfl) HVO.out ?_
      go_upto_region 9 with fail
      rw [← HW1.out, ← HG1.out]
      go_wp2_with (at_builtin; refine wpList_append_S _ rfl _ _ rfl base _ k (pNames k p) rfl w1.heap.size x _ rfl (HO1.out.alloc _) (reads_at _ _ _ _ rfl) (by omega) (by simp; omega) ?_)
      intro A3 c3 w3 hown3 hgrow3 _
      have hG3 : Grw gc w0 w3 := (HGR1.out.ext ((Ext.rfl' w1).alloc (Nat.le_refl _) _)).append hgrow3 HO1.out (by rw [HBASE.out]; exact Nat.le_refl _)
      have hC3 := blk_grown (HC1.out.alloc (.cells #[.string x] 9)) hgrow3 HO1.out (.inl (by rw [HBASE.out]; exact HGC.out))
      have hV3 : Blk w3 gv 52 vs.toArray := by
        refine (hgrow3.block gv (HV1.out.alloc _).lt ?_).trans (HV1.out.alloc _)
        intro e
        exact absurd (HGV.out gv e.symm) (Nat.lt_irrefl _)
      have v0 := blk_at hV3 HV0.out
      have v1 := blk_at hV3 HV1c.out
      rw [← HST2.out] at hown3
      have hlen : k + 1 = (pNames (k + 1) p).length := by rw [pNames_length]
      have hsa : StrAt w3 w3.heap.size A3 (pNames (k + 1) p) := by
        unfold StrAt
        rw [← hlen]
        exact Reads.of_own hown3
      have hli := listed_any A3 c3 (k + 1) k y _ w3 hsa hlen rfl (by have := H64.out; omega) HXS.out
      rw [HNE.out] at hli
      have HLI := hide hli
      have HC3 := hide hC3
      have HG3 := hide hG3
      have HO3 := hide hown3
      have HV3 := hide hV3
      clear hgrow3 hown3 hC3 hV3 hG3 hli hsa hlen HNE HV1
      by_cases he : ev = 0
      · have hli := HLI.out
        rw [if_pos he] at hli
        have HLJ := hide hli
        have HA2 := hide (HST.out he)
        have HPR := hide (HSTP.out he)
        clear hli HLI HST HHIT HA he HSTP
        go_upto_region 10 with fail
        go_wp2_with fail
        refine HLJ.out.mono ?_
        rintro e w5 ⟨rfl, hE5⟩
        obtain ⟨w6, hw6⟩ : ∃ x, x = w5.alloc (.cells #[.int .i64 0, .int .i64 0] 32) := ⟨_, rfl⟩
        have hE6 : Ext w3 w6 := by rw [hw6]; exact hE5.alloc hE5.size _
        have HC6 := hide (HC3.out.ext hE6)
        have HG6 := hide (HG3.out.ext hE6)
        have HV6 := hide (HV3.out.ext hE6)
        have HO6 := hide (own_ext HO3.out hE6)
        have hf6 : Blk w6 w5.heap.size 32 #[.int .i64 0, .int .i64 0] := by rw [hw6]; exact Blk.new _ _ _
        obtain ⟨g5, hg5⟩ : ∃ g, g = w5.heap.size := ⟨_, rfl⟩
        rw [← hg5] at hf6
        have u0 := hf6.cell 0
        have u1 := hf6.cell 1
        have t0 := (HG6.out.blk HT.out HN2.out).cell 0
        simp only [List.getElem?_toArray, List.getElem?_cons_zero, List.getElem?_cons_succ] at u0 u1 t0
        have HW6 := hide hw6
        have HG5 := hide hg5
        clear hw6 hg5 hf6 hE6 hE5 v0 v1
        unfold fltV
        go_upto_region 11 with fail
        rw [← HW6.out, ← HG5.out]
        go_upto_region 13 with fail
        refine wp_region_lit ?_
        refine wpList_plain rfl ?_
        intro K3 hK3
        go_simp
        refine hK3 _ _ ?_
        refine wpList_load_mid rfl 52 _ rfl gv 0 rfl vs _ (blk_range HV6.out) Try.underlying52 rfl (infoPart' HVL.out) ?_
        go_wp2_with fail
        refine (HPA.out _ HG6.out HC6.out).mono ?_
        rintro e w8 ⟨rfl, hE8, hC8⟩
        obtain ⟨⟨P1, P2⟩, P3⟩ := PR
        obtain ⟨w9, hw9⟩ : ∃ x, x = w8.alloc (.cells #[.int .i64 P1, .int .i64 P2] 32) := ⟨_, rfl⟩
        have hE9 : Ext w8 w9 := by rw [hw9]; exact (Ext.rfl' w8).alloc (Nat.le_refl _) _
        have HC9 := hide (show Blk w9 gc 44 #[.int .i64 P3] from hC8.ext hE9)
        have HG9 := hide ((HG6.out.trans hE8).ext hE9)
        have HO9 := hide (own_ext (own_grw HO6.out hE8 (by rw [HBASE.out]; exact HGC.out)) hE9)
        have hf9 : Blk w9 w8.heap.size 32 #[.int .i64 P1, .int .i64 P2] := by rw [hw9]; exact Blk.new _ _ _
        obtain ⟨g8, hg8⟩ : ∃ g, g = w8.heap.size := ⟨_, rfl⟩
        rw [← hg8] at hf9
        have u0 := hf9.cell 0
        have u1 := hf9.cell 1
        have HF9 := hide (HG9.out.blk HF.out HN.out)
        have b0 := HF9.out.cell 0
        have b1 := HF9.out.cell 1
        have f0 := HF9.out.free 0
        have f1 := HF9.out.free 1
        simp only [List.getElem?_toArray, List.getElem?_cons_zero, List.getElem?_cons_succ] at b0 b1
        simp only [List.getElem?_toArray, List.getElem?_cons_zero, List.getElem?_cons_succ] at u0 u1
        have HW9 := hide hw9
        have HG8 := hide hg8
        clear hw9 hg8 hf9 hE9 hE8 hC8 t0
        unfold fltV
        go_upto_region 14 with fail
        rw [← HW9.out, ← HG8.out]
        by_cases c4 : P1 = 0
        · have HNX2 := hide (show NX.1.1 = 0 by rw [HNX.out, HPR.out]; exact c4)
          have HNX3 := hide (show NX.2 = P3 by rw [HNX.out, HPR.out])
          subst c4
          clear b0 b1 f0 f1 HNX HSTK HPR
          go_wp2_with fail
          go_roundw
          case rel => exact ⟨k + 1, A3, c3, by omega, by go_num, rfl, HG9.out, by rw [← HNXE.out]; exact HNX2.out, by rw [← HNXE.out, HNX3.out]; exact HC9.out, HO9.out, HA2.out⟩
          case measure => simp [intOf]; omega
        · have HR := hide (show R = ((P1, P2), P3) by rw [HSTK.out (by rw [HNX.out, HPR.out]; exact c4), HNX.out, HPR.out])
          have j0 : (P1 == 0) = false := by simpa using c4
          clear HNX HSTK HPR c4
          go_wp2_with fail
          exact fault_ret (f := (P1, P2)) (g := gf) ((HF9.out.set_ 0 _).set_ 1 _) rfl rfl rfl ⟨by rw [← HRN.out, HR.out], (((Grw.of_ext HE.out).trans HG9.out).set (.inl HLO.out) _).set (.inl HLO.out) _, by rw [← HRN.out, HR.out]; exact (HC9.out.far HN.out.symm _).far HN.out.symm _⟩
      · have hli := HLI.out
        rw [if_neg he] at hli
        have HLJ := hide hli
        have HGK := hide (HHIT.out he)
        have HR := hide (show R = ((ev, y), mk) by rw [HSTK.out (by rw [HNX.out, HGK.out]; exact he), HNX.out, HGK.out])
        have j0 : (ev == 0) = false := by simpa using he
        clear hli HLI HST HHIT HA he HSTP HGK HNX HSTK
        go_upto_region 10 with fail
        go_wp2_with fail
        refine HLJ.out.mono ?_
        rintro e w5 ⟨rfl, hE5⟩
        obtain ⟨w6, hw6⟩ : ∃ x, x = w5.alloc (.cells #[.int .i64 ev, .int .i64 y] 32) := ⟨_, rfl⟩
        have hE6 : Ext w3 w6 := by rw [hw6]; exact hE5.alloc hE5.size _
        have HC6 := hide (HC3.out.ext hE6)
        have HG6 := hide (HG3.out.ext hE6)
        have HF6 := hide (HG6.out.blk HF.out HN.out)
        have hf6 : Blk w6 w5.heap.size 32 #[.int .i64 ev, .int .i64 y] := by rw [hw6]; exact Blk.new _ _ _
        obtain ⟨g5, hg5⟩ : ∃ g, g = w5.heap.size := ⟨_, rfl⟩
        rw [← hg5] at hf6
        have u0 := hf6.cell 0
        have u1 := hf6.cell 1
        have b0 := HF6.out.cell 0
        have b1 := HF6.out.cell 1
        have f0 := HF6.out.free 0
        have f1 := HF6.out.free 1
        simp only [List.getElem?_toArray, List.getElem?_cons_zero, List.getElem?_cons_succ] at b0 b1
        simp only [List.getElem?_toArray, List.getElem?_cons_zero, List.getElem?_cons_succ] at u0 u1
        have HW6 := hide hw6
        have HG5 := hide hg5
        clear hw6 hg5 hf6 hE6 hE5 v0 v1
        unfold fltV
        go_upto_region 11 with fail
        rw [← HW6.out, ← HG5.out]
        go_wp2_with fail
        exact fault_ret (f := (ev, y)) (g := gf) ((HF6.out.set_ 0 _).set_ 1 _) rfl rfl rfl ⟨by rw [← HRN.out, HR.out], (((Grw.of_ext HE.out).trans HG6.out).set (.inl HLO.out) _).set (.inl HLO.out) _, by rw [← HRN.out, HR.out]; exact (HC6.out.far HN.out.symm _).far HN.out.symm _⟩
    · obtain rfl : k = n := by omega
      have HX := hide (HZ.out hgo)
      have HFr := hide (hG.blk HF.out HN.out)
      have b0 := HFr.out.cell 0
      have b1 := HFr.out.cell 1
      have f0 := HFr.out.free 0
      have f1 := HFr.out.free 1
      simp only [List.getElem?_toArray, List.getElem?_cons_zero, List.getElem?_cons_succ] at b0 b1
      clear hO hG hgo hCk HA
      go_wp2_with fail
      exact fault_ret (f := (0, 0)) (g := gf) ((HFr.out.set_ 0 _).set_ 1 _) rfl rfl rfl ⟨by rw [HX.out], (((Grw.of_ext HE.out).trans HG.out).set (.inl HLO.out) _).set (.inl HLO.out) _, (HCK.out.far HN.out.symm _).far HN.out.symm _⟩

set_option maxRecDepth 100000 in
set_option maxHeartbeats 4000000 in
theorem parts_8 (a lo hi mo s1 : Int) (s0 : ByteArray) (nn cn cp n : Nat) (An Ap : Option Addr) (p : Nat → PtH) (t : Nat → Ty) (d m : Int) (gc B : Nat) (w : World) (hP : PartsAt w B Ap n p t) (hsz : ∀ i, i < n → (p i).name.1.size ≤ maxLen ∧ WdsSz (p i).label ∧ WdsSz (p i).cl ∧ TySz (t i)) (hBg : B ≤ gc) (hC : Blk w gc 44 #[.int .i64 m]) (hsub : ∀ i, i < n → ChkC (t i) (IntKind.i64.wrap (d + 1)) B) :
    Calls Try.prog 34 #[.pointer (some ⟨gc, 0, none⟩), .agg #[.int .i64 8, .int .i64 a, .int .i64 lo, .int .i64 hi, .int .i64 mo, .slice An nn cn, .slice Ap n cp, .string s0, .int .i64 s1], .int .i64 d] w (ChkPost (if n = 0 then ((15, a), m) else if 64 < n then ((8, (p 64).name.2), m) else goTo (stepF 8 n p t (fun i m' => chk (t i) (IntKind.i64.wrap (d + 1)) m')) n m) gc w) := by
  have e1 := IntWalk.i64_left (d + 1)
  rw [e1] at hsub ⊢
  clear e1
  obtain ⟨w0, hw0⟩ : ∃ x, x = (w.alloc (.cells #[.int .i64 8, .int .i64 a, .int .i64 lo, .int .i64 hi, .int .i64 mo, .slice An nn cn, .slice Ap n cp, .string s0, .int .i64 s1] 27)).alloc (.cells #[.int .i64 0, .int .i64 0] 32) := ⟨_, rfl⟩
  have hT : Blk w0 w.heap.size 27 #[.int .i64 8, .int .i64 a, .int .i64 lo, .int .i64 hi, .int .i64 mo, .slice An nn cn, .slice Ap n cp, .string s0, .int .i64 s1] := by rw [hw0]; exact (Blk.new _ _ _).alloc _
  have hF : Blk w0 (w.heap.size + 1) 32 #[.int .i64 0, .int .i64 0] := by
    rw [hw0]; have := Blk.new (w.alloc (.cells #[.int .i64 8, .int .i64 a, .int .i64 lo, .int .i64 hi, .int .i64 mo, .slice An nn cn, .slice Ap n cp, .string s0, .int .i64 s1] 27)) 32 #[.int .i64 0, .int .i64 0]; simpa only [World.size_alloc] using this
  have hE : Ext w w0 := by rw [hw0]; exact ((Ext.rfl' w).alloc (Nat.le_refl _) _).alloc (by simp only [World.size_alloc]; omega) _
  have hS : w0.heap.size = w.heap.size + 2 := by rw [hw0]; simp only [World.size_alloc]
  have hC1 : Blk w0 gc 44 #[.int .i64 m] := hC.ext hE
  have hgl := hC.lt
  have hBw : B ≤ w.heap.size := Nat.le_of_lt (Nat.lt_of_le_of_lt hBg hgl)
  have n1 : w.heap.size + 1 ≠ gc := by omega
  have n2 : w.heap.size ≠ gc := by omega
  have hlo : w.heap.size ≤ w.heap.size + 1 := Nat.le_succ _
  have hP0 : PartsAt w0 B Ap n p t := hP.keep fun q hq => hE.cell (Nat.lt_of_lt_of_le hq hBw)
  have hBw0 : B ≤ w0.heap.size := Nat.le_trans hBw hE.size
  have hgc0 : gc < w0.heap.size := Nat.lt_of_lt_of_le hgl hE.size
  obtain ⟨gf, hgf⟩ : ∃ g, g = w.heap.size + 1 := ⟨_, rfl⟩
  obtain ⟨gt, hgt⟩ : ∃ g, g = w.heap.size := ⟨_, rfl⟩
  rw [← hgf] at hF hlo n1
  rw [← hgt] at hT n2
  have HW := hide hw0
  have HGF := hide hgf
  have HGT := hide hgt
  have HF := hide hF
  have HE := hide hE
  have HC := hide hC1
  have HT := hide hT
  have HN := hide n1
  have HN2 := hide n2
  have HLO := hide hlo
  have HBW := hide hBw0
  have HBG := hide hBg
  have HGC := hide hgc0
  have t0 := hT.cell 0
  have t1 := hT.cell 1
  have t6 := hT.cell 6
  have b0 := HF.out.cell 0
  have b1 := HF.out.cell 1
  have f0 := HF.out.free 0
  have f1 := HF.out.free 1
  simp only [List.getElem?_toArray, List.getElem?_cons_zero, List.getElem?_cons_succ] at b0 b1
  simp only [List.getElem?_toArray, List.getElem?_cons_zero, List.getElem?_cons_succ] at t0 t1 t6
  clear hw0 hF hE hC1 hT n1 n2 hlo hgf hgt hS hBw hBg hgl hC hP hBw0 hgc0
  by_cases c0 : n = 0
  · obtain ⟨R, hR⟩ : ∃ R : Wr, R = ((15, a), m) := ⟨_, rfl⟩
    have HR := hide hR
    rw [if_pos c0, ← hR]
    subst c0
    clear hP0 hsz hsub hR
    go_enter Try.func34, Try.ntmps34
    go_upto_region 1 with fail
    rw [← HW.out, ← HGF.out, ← HGT.out]
    go_wp2_with fail
    refine (bad_any 15 a _).mono ?_
    rintro e w5 ⟨rfl, hE5⟩
    have HF5 := hide (HF.out.ext hE5)
    have HE5 := hide (HE.out.trans' hE5)
    have HC5 := hide (HC.out.ext hE5)
    have b0 := HF5.out.cell 0
    have b1 := HF5.out.cell 1
    have f0 := HF5.out.free 0
    have f1 := HF5.out.free 1
    simp only [List.getElem?_toArray, List.getElem?_cons_zero, List.getElem?_cons_succ] at b0 b1
    unfold fltV
    clear hE5
    go_wp2_with fail
    exact fault_ret (f := (15, a)) (g := gf) ((HF5.out.set_ 0 _).set_ 1 _) rfl rfl rfl ⟨by rw [HR.out], ((Grw.of_ext HE5.out).set (.inl HLO.out) _).set (.inl HLO.out) _, by rw [HR.out]; exact (HC5.out.far HN.out.symm _).far HN.out.symm _⟩
  rw [if_neg c0]
  by_cases c1 : 64 < n
  · obtain ⟨R, hR⟩ : ∃ R : Wr, R = ((8, (p 64).name.2), m) := ⟨_, rfl⟩
    rw [if_pos c1, ← hR]
    obtain ⟨b, o, rfl, hbs, _⟩ := hP0 (by omega)
    obtain ⟨_, d1⟩ := part_cell hP0 rfl c1
    obtain ⟨x, hx⟩ : ∃ x, x = (p 64).name.2 := ⟨_, rfl⟩
    rw [← hx] at d1 hR
    have HR := hide hR
    have i0 : ((n : Int) == 0) = false := by simp; omega
    have i1 : (64 : Int) < (n : Int) := by omega
    clear hP0 hsz hsub hR hx hbs
    go_enter Try.func34, Try.ntmps34
    go_upto_region 1 with fail
    rw [← HW.out, ← HGF.out, ← HGT.out]
    go_wp2_with fail
    refine (bad_any 8 x _).mono ?_
    rintro e w5 ⟨rfl, hE5⟩
    have HF5 := hide (HF.out.ext hE5)
    have HE5 := hide (HE.out.trans' hE5)
    have HC5 := hide (HC.out.ext hE5)
    have b0 := HF5.out.cell 0
    have b1 := HF5.out.cell 1
    have f0 := HF5.out.free 0
    have f1 := HF5.out.free 1
    simp only [List.getElem?_toArray, List.getElem?_cons_zero, List.getElem?_cons_succ] at b0 b1
    unfold fltV
    clear hE5
    go_wp2_with fail
    exact fault_ret (f := (8, x)) (g := gf) ((HF5.out.set_ 0 _).set_ 1 _) rfl rfl rfl ⟨by rw [HR.out], ((Grw.of_ext HE5.out).set (.inl HLO.out) _).set (.inl HLO.out) _, by rw [HR.out]; exact (HC5.out.far HN.out.symm _).far HN.out.symm _⟩
  rw [if_neg c1]
  obtain ⟨g, hg⟩ : ∃ g, g = stepF 8 n p t (fun i m' => chk (t i) (wrap64 (d + 1)) m') := ⟨_, rfl⟩
  rw [← hg]
  have HSTEP := hide (fun k m' (hl : listE (pNames n p) k = 0) => (show g k m' = partR true (p k) (t k) (fun m => chk (t k) (wrap64 (d + 1)) m) m' by rw [hg]; exact stepF_part true (by decide) hl))
  have HBAD := hide (fun k m' (hl : listE (pNames n p) k ≠ 0) => (show g k m' = ((listE (pNames n p) k, (p k).name.2), m') by rw [hg]; exact stepF_bad hl))
  have hz : ∀ i m', i < n → (g i m').1.1 = 0 → (g i m').1 = (0, 0) := fun i m' _ e => by rw [hg] at e ⊢; exact stepF_zero e
  have HZ := hide (fun (h : (goTo g n m).1.1 = 0) => goTo_zero hz (Nat.le_refl _) h)
  have HPP := hide hP0
  have HSZ := hide hsz
  have HSUB := hide hsub
  have i0 : ((n : Int) == 0) = false ∨ n = 0 := by by_cases h : n = 0; exact .inr h; exact .inl (by simp; omega)
  have i1 : ¬ (64 : Int) < (n : Int) := by omega
  have H64 := hide c1
  obtain ⟨base, hbase⟩ : ∃ x, x = w0.heap.size := ⟨_, rfl⟩
  have HBASE := hide hbase
  clear hg hz hP0 hsz hsub c1 hbase
  replace i0 := i0.resolve_right c0
  clear c0
  go_enter Try.func34, Try.ntmps34
  go_upto_region 1 with fail
  rw [← HW.out, ← HGF.out, ← HGT.out]
  go_wp2_with fail
  go_loopw [40, 7] (fun i o wr => ∃ (k : Nat) (Ao : Option Addr) (co : Nat), k ≤ n ∧ i = .int .i64 k ∧ o = .slice Ao k co ∧ Grw gc w0 wr ∧ (goTo g k m).1.1 = 0 ∧ Blk wr gc 44 #[.int .i64 (goTo g k m).2] ∧ wr.ownsRow base 9 1 (.slice Ao k co) k (strCells (pNames k p)) ∧ Hid (∀ j, j < k → listE (pNames n p) j = 0)) (fun i _ _ => n - (intOf i).toNat)
  case atStart => exact ⟨0, none, 0, Nat.zero_le _, rfl, rfl, .of_ext (Ext.rfl' _), rfl, HC.out, World.ownsRow_nil _ _ _ _, fun j hj => absurd hj (by omega)⟩
  case round =>
    obtain ⟨k, Ao, co, hk, rfl, rfl, hG, hgo, hCk, hO, HA⟩ := hrel
    have HO := hide hO
    have HCK := hide hCk
    have HG := hide hG
    have HGO := hide hgo
    have hbs0 : base ≤ wr.heap.size := by rw [HBASE.out]; exact hG.sz
    by_cases hlt : k < n
    · have hkn : k < (pNames n p).length := by rw [pNames_length]; exact hlt
      obtain ⟨b, o, rfl, hbs, hcell⟩ := HPP.out (by omega)
      obtain ⟨vs, hr0, hpa⟩ := hcell k hlt
      have hs := HSZ.out k hlt
      have hcells := hG.cells HBW.out HBG.out
      have hr1 : wr.rangeAt b (o + k * 18) vs := fun j v hv => (hcells ⟨b, o + k * 18 + j, none⟩ hbs).trans (hr0 j v hv)
      have hvl : vs.length = 18 := hpa.len
      have hvo : vs.toArray.all (·.oneCell') = true := hpa.one
      have hv0 : vs[0]? = some (.string (p k).name.1) := by obtain ⟨Al, cl, Ac, cc, vt, rfl, _⟩ := hpa; rfl
      have hv1 : vs[1]? = some (.int .i64 (p k).name.2) := by obtain ⟨Al, cl, Ac, cc, vt, rfl, _⟩ := hpa; rfl
      have hne := listed_next hkn (p k).name.2 HA.out
      have HST := hide (fun hh => below_st HA.out (show listE (pNames n p) k = 0 from hh))
      have hst := pNames_more k p
      have htk : (pNames n p).take (k + 1) = pNames (k + 1) p := pNames_take hlt
      rw [htk] at hne
      have hgd : (pNames (k + 1) p).getD k ⟨#[]⟩ = (p k).name.1 := by
        rw [List.getD_eq_getElem?_getD, List.getElem?_eq_getElem (by rw [pNames_length]; exact Nat.lt_succ_self k), pNames_at]; rfl
      have hxs := hs.1
      rw [← hgd] at hxs
      have hbad := fun hh => HBAD.out k (goTo g k m).2 hh
      have hstp := fun hh => HSTEP.out k (goTo g k m).2 hh
      have hnx : goTo g (k + 1) m = g k (goTo g k m).2 := goTo_next hgo
      have hstk : (goTo g (k + 1) m).1.1 ≠ 0 → goTo g n m = goTo g (k + 1) m := goTo_stick hlt
      have HPA := hide (fun w6 (hG6 : Grw gc w0 w6) (hC6 : Blk w6 gc 44 #[.int .i64 (goTo g k m).2]) => (by have hq := part_any true (p k) (t k) d (goTo g k m).2 gc B w6 vs (hpa.keep (hG6.cells HBW.out HBG.out)) hs.2.1 hs.2.2.1 hs.2.2.2 HBG.out hC6 (by rw [IntWalk.i64_left]; exact HSUB.out k hlt); rw [IntWalk.i64_left] at hq; exact hq : Calls Try.prog 44 #[.pointer (some ⟨gc, 0, none⟩), .agg vs.toArray, .bool true, .int .i64 d] w6 (ChkPost (partR true (p k) (t k) (fun m => chk (t k) (wrap64 (d + 1)) m) (goTo g k m).2) gc w6)))
      obtain ⟨NX, hNX⟩ : ∃ x, x = goTo g (k + 1) m := ⟨_, rfl⟩
      obtain ⟨R, hRn⟩ : ∃ x, x = goTo g n m := ⟨_, rfl⟩
      rw [← hNX] at hnx hstk
      rw [← hRn] at hstk
      have HNXE := hide hNX
      have HRN := hide hRn
      clear hNX hRn
      generalize (goTo g k m).2 = mk at HCK hbad hstp hnx HPA
      generalize partR true (p k) (t k) (fun m => chk (t k) (wrap64 (d + 1)) m) mk = PR at hstp HPA
      obtain ⟨x, hx⟩ : ∃ x, x = (p k).name.1 := ⟨_, rfl⟩
      obtain ⟨y, hy⟩ : ∃ y, y = (p k).name.2 := ⟨_, rfl⟩
      obtain ⟨ev, hev⟩ : ∃ v, v = listE (pNames n p) k := ⟨_, rfl⟩
      rw [← hx] at hst hv0
      rw [← hy] at hne hbad hv1
      rw [← hev] at hne hbad hstp HST
      obtain ⟨w1, hw1⟩ : ∃ wz, wz = wr.alloc (.cells vs.toArray 52) := ⟨_, rfl⟩
      have hV : Blk w1 wr.heap.size 52 vs.toArray := by rw [hw1]; exact Blk.new _ _ _
      have hC1 : Blk w1 gc 44 #[.int .i64 mk] := by rw [hw1]; exact HCK.out.alloc _
      have hO1 : w1.ownsRow base 9 1 (.slice Ao k co) k (strCells (pNames k p)) := by rw [hw1]; exact hO.alloc _
      have hG1 : Grw gc w0 w1 := by rw [hw1]; exact hG.ext ((Ext.rfl' wr).alloc (Nat.le_refl _) _)
      have hs1 : w1.heap.size = wr.heap.size + 1 := by rw [hw1]; simp only [World.size_alloc]
      obtain ⟨gv, hgv⟩ : ∃ g, g = wr.heap.size := ⟨_, rfl⟩
      rw [← hgv] at hV
      have hgvb : base ≤ gv := by rw [hgv]; exact hbs0
      have hgvc : gv ≠ gc := by have := HGC.out; rw [← HBASE.out] at this; omega
      have hgvO : ∀ g, Value.ownBlock (.slice Ao k co) = some g → g < gv := fun g e => by rw [hgv]; exact (HO.out.lt g e).2
      have v0 := blk_at hV hv0
      have v1 := blk_at hV hv1
      have HNE := hide hne
      have HHIT := hide hbad
      have HSTP := hide hstp
      have HNX := hide hnx
      have HSTK := hide hstk
      have HST2 := hide hst
      have HXS := hide hxs
      have HW1 := hide hw1
      have HG1 := hide hgv
      have HV1 := hide hV
      have HC1 := hide hC1
      have HO1 := hide hO1
      have HGR1 := hide hG1
      have HGV := hide hgvO
      have HGVC := hide hgvc
      have hbs1 : base ≤ w1.heap.size := by rw [hs1]; omega
      have HVL := hide hvl
      have HVO := hide hvo
      have HV0 := hide hv0
      have HV1c := hide hv1
      have HR1 := hide hr1
      have i2 : (0 : Int) ≤ (k : Int) := by omega
      have i3 : (k : Int) < (n : Int) := by omega
      clear hw1 hV hC1 hO1 hG1 hs1 hgv hgvO hgvc hne hbad hstp hnx hstk hst hxs hx hy hev hgd hkn hcell hO hG hgo hCk HO HG HCK HGO HZ hvl hvo hv0 hv1 hr0 hr1 hpa hs hcells htk
      go_upto_region 8 with fail
      refine wp_region_lit ?_
      refine wpList_plain rfl ?_
      intro K1 hK1
      go_simp
      refine hK1 _ _ ?_
      refine wpList_load_mid rfl 52 _ rfl b (o + k * 18) rfl vs _ HR1.out Try.underlying52 rfl (infoPart' HVL.out) ?_
      refine wpList_plain rfl ?_
      intro K2 hK2
      go_simp
      refine hK2 _ _ ?_
      refine wpList_store_new rfl 52 _ _ rfl _ vs.toArray rfl rfl (infoPartA HVL.out) (by show _ = vs.length; rw [HVL.out]; rfl) HVO.out ?_
      go_upto_region 9 with fail
      rw [← HW1.out, ← HG1.out]
      go_wp2_with (at_builtin; refine wpList_append_S _ rfl _ _ rfl base _ k (pNames k p) rfl w1.heap.size x _ rfl (HO1.out.alloc _) (reads_at _ _ _ _ rfl) (by omega) (by simp; omega) ?_)
      intro A3 c3 w3 hown3 hgrow3 _
      have hG3 : Grw gc w0 w3 := (HGR1.out.ext ((Ext.rfl' w1).alloc (Nat.le_refl _) _)).append hgrow3 HO1.out (by rw [HBASE.out]; exact Nat.le_refl _)
      have hC3 := blk_grown (HC1.out.alloc (.cells #[.string x] 9)) hgrow3 HO1.out (.inl (by rw [HBASE.out]; exact HGC.out))
      have hV3 : Blk w3 gv 52 vs.toArray := by
        refine (hgrow3.block gv (HV1.out.alloc _).lt ?_).trans (HV1.out.alloc _)
        intro e
        exact absurd (HGV.out gv e.symm) (Nat.lt_irrefl _)
      have v0 := blk_at hV3 HV0.out
      have v1 := blk_at hV3 HV1c.out
      rw [← HST2.out] at hown3
      have hlen : k + 1 = (pNames (k + 1) p).length := by rw [pNames_length]
      have hsa : StrAt w3 w3.heap.size A3 (pNames (k + 1) p) := by
        unfold StrAt
        rw [← hlen]
        exact Reads.of_own hown3
      have hli := listed_any A3 c3 (k + 1) k y _ w3 hsa hlen rfl (by have := H64.out; omega) HXS.out
      rw [HNE.out] at hli
      have HLI := hide hli
      have HC3 := hide hC3
      have HG3 := hide hG3
      have HO3 := hide hown3
      have HV3 := hide hV3
      clear hgrow3 hown3 hC3 hV3 hG3 hli hsa hlen HNE HV1
      by_cases he : ev = 0
      · have hli := HLI.out
        rw [if_pos he] at hli
        have HLJ := hide hli
        have HA2 := hide (HST.out he)
        have HPR := hide (HSTP.out he)
        clear hli HLI HST HHIT HA he HSTP
        go_upto_region 10 with fail
        go_wp2_with fail
        refine HLJ.out.mono ?_
        rintro e w5 ⟨rfl, hE5⟩
        obtain ⟨w6, hw6⟩ : ∃ x, x = w5.alloc (.cells #[.int .i64 0, .int .i64 0] 32) := ⟨_, rfl⟩
        have hE6 : Ext w3 w6 := by rw [hw6]; exact hE5.alloc hE5.size _
        have HC6 := hide (HC3.out.ext hE6)
        have HG6 := hide (HG3.out.ext hE6)
        have HV6 := hide (HV3.out.ext hE6)
        have HO6 := hide (own_ext HO3.out hE6)
        have hf6 : Blk w6 w5.heap.size 32 #[.int .i64 0, .int .i64 0] := by rw [hw6]; exact Blk.new _ _ _
        obtain ⟨g5, hg5⟩ : ∃ g, g = w5.heap.size := ⟨_, rfl⟩
        rw [← hg5] at hf6
        have u0 := hf6.cell 0
        have u1 := hf6.cell 1
        have t0 := (HG6.out.blk HT.out HN2.out).cell 0
        simp only [List.getElem?_toArray, List.getElem?_cons_zero, List.getElem?_cons_succ] at u0 u1 t0
        have HW6 := hide hw6
        have HG5 := hide hg5
        clear hw6 hg5 hf6 hE6 hE5 v0 v1
        unfold fltV
        go_upto_region 11 with fail
        rw [← HW6.out, ← HG5.out]
        go_upto_region 13 with fail
        refine wp_region_lit ?_
        refine wpList_plain rfl ?_
        intro K3 hK3
        go_simp
        refine hK3 _ _ ?_
        refine wpList_load_mid rfl 52 _ rfl gv 0 rfl vs _ (blk_range HV6.out) Try.underlying52 rfl (infoPart' HVL.out) ?_
        go_wp2_with fail
        refine (HPA.out _ HG6.out HC6.out).mono ?_
        rintro e w8 ⟨rfl, hE8, hC8⟩
        obtain ⟨⟨P1, P2⟩, P3⟩ := PR
        obtain ⟨w9, hw9⟩ : ∃ x, x = w8.alloc (.cells #[.int .i64 P1, .int .i64 P2] 32) := ⟨_, rfl⟩
        have hE9 : Ext w8 w9 := by rw [hw9]; exact (Ext.rfl' w8).alloc (Nat.le_refl _) _
        have HC9 := hide (show Blk w9 gc 44 #[.int .i64 P3] from hC8.ext hE9)
        have HG9 := hide ((HG6.out.trans hE8).ext hE9)
        have HO9 := hide (own_ext (own_grw HO6.out hE8 (by rw [HBASE.out]; exact HGC.out)) hE9)
        have hf9 : Blk w9 w8.heap.size 32 #[.int .i64 P1, .int .i64 P2] := by rw [hw9]; exact Blk.new _ _ _
        obtain ⟨g8, hg8⟩ : ∃ g, g = w8.heap.size := ⟨_, rfl⟩
        rw [← hg8] at hf9
        have u0 := hf9.cell 0
        have u1 := hf9.cell 1
        have HF9 := hide (HG9.out.blk HF.out HN.out)
        have b0 := HF9.out.cell 0
        have b1 := HF9.out.cell 1
        have f0 := HF9.out.free 0
        have f1 := HF9.out.free 1
        simp only [List.getElem?_toArray, List.getElem?_cons_zero, List.getElem?_cons_succ] at b0 b1
        simp only [List.getElem?_toArray, List.getElem?_cons_zero, List.getElem?_cons_succ] at u0 u1
        have HW9 := hide hw9
        have HG8 := hide hg8
        clear hw9 hg8 hf9 hE9 hE8 hC8 t0
        unfold fltV
        go_upto_region 14 with fail
        rw [← HW9.out, ← HG8.out]
        by_cases c4 : P1 = 0
        · have HNX2 := hide (show NX.1.1 = 0 by rw [HNX.out, HPR.out]; exact c4)
          have HNX3 := hide (show NX.2 = P3 by rw [HNX.out, HPR.out])
          subst c4
          clear b0 b1 f0 f1 HNX HSTK HPR
          go_wp2_with fail
          go_roundw
          case rel => exact ⟨k + 1, A3, c3, by omega, by go_num, rfl, HG9.out, by rw [← HNXE.out]; exact HNX2.out, by rw [← HNXE.out, HNX3.out]; exact HC9.out, HO9.out, HA2.out⟩
          case measure => simp [intOf]; omega
        · have HR := hide (show R = ((P1, P2), P3) by rw [HSTK.out (by rw [HNX.out, HPR.out]; exact c4), HNX.out, HPR.out])
          have j0 : (P1 == 0) = false := by simpa using c4
          clear HNX HSTK HPR c4
          go_wp2_with fail
          exact fault_ret (f := (P1, P2)) (g := gf) ((HF9.out.set_ 0 _).set_ 1 _) rfl rfl rfl ⟨by rw [← HRN.out, HR.out], (((Grw.of_ext HE.out).trans HG9.out).set (.inl HLO.out) _).set (.inl HLO.out) _, by rw [← HRN.out, HR.out]; exact (HC9.out.far HN.out.symm _).far HN.out.symm _⟩
      · have hli := HLI.out
        rw [if_neg he] at hli
        have HLJ := hide hli
        have HGK := hide (HHIT.out he)
        have HR := hide (show R = ((ev, y), mk) by rw [HSTK.out (by rw [HNX.out, HGK.out]; exact he), HNX.out, HGK.out])
        have j0 : (ev == 0) = false := by simpa using he
        clear hli HLI HST HHIT HA he HSTP HGK HNX HSTK
        go_upto_region 10 with fail
        go_wp2_with fail
        refine HLJ.out.mono ?_
        rintro e w5 ⟨rfl, hE5⟩
        obtain ⟨w6, hw6⟩ : ∃ x, x = w5.alloc (.cells #[.int .i64 ev, .int .i64 y] 32) := ⟨_, rfl⟩
        have hE6 : Ext w3 w6 := by rw [hw6]; exact hE5.alloc hE5.size _
        have HC6 := hide (HC3.out.ext hE6)
        have HG6 := hide (HG3.out.ext hE6)
        have HF6 := hide (HG6.out.blk HF.out HN.out)
        have hf6 : Blk w6 w5.heap.size 32 #[.int .i64 ev, .int .i64 y] := by rw [hw6]; exact Blk.new _ _ _
        obtain ⟨g5, hg5⟩ : ∃ g, g = w5.heap.size := ⟨_, rfl⟩
        rw [← hg5] at hf6
        have u0 := hf6.cell 0
        have u1 := hf6.cell 1
        have b0 := HF6.out.cell 0
        have b1 := HF6.out.cell 1
        have f0 := HF6.out.free 0
        have f1 := HF6.out.free 1
        simp only [List.getElem?_toArray, List.getElem?_cons_zero, List.getElem?_cons_succ] at b0 b1
        simp only [List.getElem?_toArray, List.getElem?_cons_zero, List.getElem?_cons_succ] at u0 u1
        have HW6 := hide hw6
        have HG5 := hide hg5
        clear hw6 hg5 hf6 hE6 hE5 v0 v1
        unfold fltV
        go_upto_region 11 with fail
        rw [← HW6.out, ← HG5.out]
        go_wp2_with fail
        exact fault_ret (f := (ev, y)) (g := gf) ((HF6.out.set_ 0 _).set_ 1 _) rfl rfl rfl ⟨by rw [← HRN.out, HR.out], (((Grw.of_ext HE.out).trans HG6.out).set (.inl HLO.out) _).set (.inl HLO.out) _, by rw [← HRN.out, HR.out]; exact (HC6.out.far HN.out.symm _).far HN.out.symm _⟩
    · obtain rfl : k = n := by omega
      have HX := hide (HZ.out hgo)
      have HFr := hide (hG.blk HF.out HN.out)
      have b0 := HFr.out.cell 0
      have b1 := HFr.out.cell 1
      have f0 := HFr.out.free 0
      have f1 := HFr.out.free 1
      simp only [List.getElem?_toArray, List.getElem?_cons_zero, List.getElem?_cons_succ] at b0 b1
      clear hO hG hgo hCk HA
      go_wp2_with fail
      exact fault_ret (f := (0, 0)) (g := gf) ((HFr.out.set_ 0 _).set_ 1 _) rfl rfl rfl ⟨by rw [HX.out], (((Grw.of_ext HE.out).trans HG.out).set (.inl HLO.out) _).set (.inl HLO.out) _, (HCK.out.far HN.out.symm _).far HN.out.symm _⟩
end Go.Proofs.Ytanpljalbijfkaa
