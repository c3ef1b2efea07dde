/- kinds: what is wrong with an enum's names, walked. -/
import Derived.Test.YtanpljalbijfkaaKinT
namespace Go.Proofs.Ytanpljalbijfkaa
open Go.RowKit

theorem nms_more (ws : List Wd) (k : Nat) (hk : k < ws.length) : (nms ws).take (k + 1) = (nms ws).take k ++ [wNm ws k] := by
  have hk' : k < (nms ws).length := by rw [nms_length]; exact hk
  rw [List.take_add_one, List.getElem?_eq_getElem hk', nms_at hk']
  rfl
theorem blk_grown {wr w0 w3 : World} {base size n g : Nat} {e t : TypeId} {v : Value} {xs : List Value} {cs : Array Value} (hB : Blk w0 g t cs) (hg : w0.grownBy w3 v.ownBlock) (hO : wr.ownsRow base e size v n xs) (hne : g < base ∨ wr.heap.size ≤ g) : Blk w3 g t cs := by
  refine (hg.block g hB.lt ?_).trans hB
  intro e
  have := hO.lt g e.symm
  omega
theorem listAt_none {l : List Wd} {k : Nat} : listAt l k = none ↔ listE (nms l) k = 0 := by
  unfold listAt
  split
  · exact ⟨fun _ => by assumption, fun _ => rfl⟩
  · exact ⟨fun h => (by cases h), fun h => (by contradiction)⟩
theorem enumF_hit {a : Int} {l : List Wd} {n k : Nat} (hn : n = l.length) (h64 : ¬ 64 < n) (hk : k < n) (h : ∀ j, j < k → listE (nms l) j = 0) (hb : ¬ listE (nms l) k = 0) : enumF a l = (listE (nms l) k, wPl l k) := by
  unfold enumF
  rw [if_neg (by omega), if_neg (by omega), firstOf_hit (k := k) (x := (listE (nms l) k, wPl l k)) (by omega) (fun j hj => listAt_none.2 (h j hj)) (if_neg hb)]
  rfl
theorem enumF_miss {a : Int} {l : List Wd} {n : Nat} (hn : n = l.length) (h0 : n ≠ 0) (h64 : ¬ 64 < n) (h : ∀ j, j < n → listE (nms l) j = 0) : enumF a l = (0, 0) := by
  unfold enumF
  rw [if_neg (by omega), if_neg (by omega), firstOf_miss.2 (fun j hj => listAt_none.2 (h j (by omega)))]
  rfl

set_option maxRecDepth 100000 in
set_option maxHeartbeats 4000000 in
theorem enum_any (a : Int) (x0 x2 x3 x4 x6 x7 x8 : Value) (A : Option Addr) (c n : Nat) (l : List Wd) (w : World) (h : WdsAt w w.heap.size A l) (hn : n = l.length) (hsz : WdsSz l) :
    Calls Try.prog 32 #[.agg #[x0, .int .i64 a, x2, x3, x4, .slice A n c, x6, x7, x8]] w (fun e w' => e = .returned (fltV (enumF a l)) ∧ Ext w w') := by
  obtain ⟨w0, hw0⟩ : ∃ x, x = (w.alloc (.cells #[x0, .int .i64 a, x2, x3, x4, .slice A n c, x6, x7, x8] 27)).alloc (.cells #[.int .i64 0, .int .i64 0] 32) := ⟨_, rfl⟩
  have hT : Blk w0 w.heap.size 27 #[x0, .int .i64 a, x2, x3, x4, .slice A n c, x6, x7, x8] := by rw [hw0]; exact (Blk.new _ _ _).alloc _
  have hF : Blk w0 (w.heap.size + 1) 32 #[.int .i64 0, .int .i64 0] := by
    rw [hw0]; have := Blk.new (w.alloc (.cells #[x0, .int .i64 a, x2, x3, x4, .slice A n c, x6, x7, x8] 27)) 32 #[.int .i64 0, .int .i64 0]; simpa only [World.size_alloc] using this
  have hE : Ext w w0 := by rw [hw0]; exact ((Ext.rfl' w).alloc (Nat.le_refl _) _).alloc (by simp only [World.size_alloc]; omega) _
  have hS : w0.heap.size = w.heap.size + 2 := by rw [hw0]; simp only [World.size_alloc]
  have h0 := h.ext hE
  have hlo : w.heap.size ≤ w.heap.size + 1 := Nat.le_succ _
  obtain ⟨gf, hgf⟩ : ∃ g, g = w.heap.size + 1 := ⟨_, rfl⟩
  obtain ⟨gt, hgt⟩ : ∃ g, g = w.heap.size := ⟨_, rfl⟩
  have hgfl : gf < w0.heap.size := by rw [hS, hgf]; omega
  have hgtl : gt < w0.heap.size := by rw [hS, hgt]; omega
  rw [← hgf] at hF hlo
  rw [← hgt] at hT
  have t1 := hT.cell 1
  have t5 := hT.cell 5
  have b0 := hF.cell 0
  have b1 := hF.cell 1
  have f0 := hF.free 0
  have f1 := hF.free 1
  simp only [List.getElem?_toArray, List.getElem?_cons_zero, List.getElem?_cons_succ] at t1 t5 b0 b1
  have HW := hide hw0
  have HGF := hide hgf
  have HGT := hide hgt
  have HF := hide hF
  have HE := hide hE
  have HLO := hide hlo
  have HGFL := hide hgfl
  clear hw0 hT hF hE hS hgf hgt hlo hgfl hgtl h
  by_cases c0 : n = 0
  · have HR := hide (show enumF a l = (15, a) by unfold enumF; rw [if_pos (by omega)])
    rw [HR.out]
    subst c0
    clear hn h0
    go_enter Try.func32, Try.ntmps32
    go_upto_region 1 with fail
    rw [← HW.out, ← HGF.out, ← HGT.out]
    go_wp2_with fail
    refine (bad_any 15 a _).mono ?_
    rintro e w5 ⟨rfl, hE5⟩
    have HF5 := hide (HF.out.ext hE5)
    have HE5 := hide (HE.out.trans' hE5)
    have b0 := HF5.out.cell 0
    have b1 := HF5.out.cell 1
    have f0 := HF5.out.free 0
    have f1 := HF5.out.free 1
    simp only [List.getElem?_toArray, List.getElem?_cons_zero, List.getElem?_cons_succ] at b0 b1
    unfold fltV
    clear hE5
    go_wp2_with fail
    exact fault_ret (f := (15, a)) (g := gf) ((HF5.out.set_ 0 _).set_ 1 _) rfl rfl rfl ⟨rfl, ext_two' HE5.out HLO.out _ _⟩
  by_cases c1 : 64 < n
  · have HR := hide (show enumF a l = (8, wPl l 64) by unfold enumF; rw [if_neg (by omega), if_pos (by omega)])
    rw [HR.out]
    obtain ⟨b, o, rfl, hbs, hcell⟩ := h0.cell (by omega)
    have d1 := (hcell 64 (by omega)).2
    obtain ⟨x, hx⟩ : ∃ x, x = wPl l 64 := ⟨_, rfl⟩
    rw [← hx] at d1 ⊢
    have i0 : ((n : Int) == 0) = false := by simp; omega
    clear hn h0 hx hcell HR
    go_enter Try.func32, Try.ntmps32
    go_upto_region 1 with fail
    rw [← HW.out, ← HGF.out, ← HGT.out]
    go_wp2_with fail
    refine (bad_any 8 x _).mono ?_
    rintro e w5 ⟨rfl, hE5⟩
    have HF5 := hide (HF.out.ext hE5)
    have HE5 := hide (HE.out.trans' hE5)
    have b0 := HF5.out.cell 0
    have b1 := HF5.out.cell 1
    have f0 := HF5.out.free 0
    have f1 := HF5.out.free 1
    simp only [List.getElem?_toArray, List.getElem?_cons_zero, List.getElem?_cons_succ] at b0 b1
    unfold fltV
    clear hE5
    go_wp2_with fail
    exact fault_ret (f := (8, x)) (g := gf) ((HF5.out.set_ 0 _).set_ 1 _) rfl rfl rfl ⟨rfl, ext_two' HE5.out HLO.out _ _⟩
  have HIT := hide (fun k (hk : k < n) hh hb => enumF_hit (a := a) (k := k) hn c1 hk hh hb)
  have HMI := hide (fun hh => enumF_miss (a := a) hn c0 c1 hh)
  obtain ⟨R, hR⟩ : ∃ R, R = enumF a l := ⟨_, rfl⟩
  rw [← hR] at HIT HMI ⊢
  have HN := hide hn
  have HH := hide h0
  have HSZ := hide hsz
  have i0 : ((n : Int) == 0) = false := by simp; omega
  have i1 : ¬ (64 : Int) < (n : Int) := by omega
  have H64 := hide c1
  obtain ⟨base, hbase⟩ : ∃ x, x = w0.heap.size := ⟨_, rfl⟩
  have HBASE := hide hbase
  clear hR hn h0 hsz c0 c1 hbase
  go_enter Try.func32, Try.ntmps32
  go_upto_region 1 with fail
  rw [← HW.out, ← HGF.out, ← HGT.out]
  go_wp2_with fail
  go_loopw [29, 3] (fun i o wr => ∃ (k : Nat) (Ao : Option Addr) (co : Nat), k ≤ n ∧ i = .int .i64 k ∧ o = .slice Ao k co ∧ Ext w0 wr ∧ Blk wr gf 32 #[.int .i64 0, .int .i64 0] ∧ wr.ownsRow base 9 1 (.slice Ao k co) k (strCells ((nms l).take k)) ∧ Hid (∀ j, j < k → listE (nms l) j = 0)) (fun i _ _ => n - (intOf i).toNat)
  case atStart => exact ⟨0, none, 0, Nat.zero_le _, rfl, rfl, Ext.rfl' _, HF.out, World.ownsRow_nil _ _ _ _, fun j hj => absurd hj (by omega)⟩
  case round =>
    obtain ⟨k, Ao, co, hk, rfl, rfl, hEr, hB, hO, HA⟩ := hrel
    have HEr := hide hEr
    have HB := hide hB
    have HO := hide hO
    have hbs0 : base ≤ wr.heap.size := by rw [HBASE.out]; exact hEr.size
    by_cases hlt : k < n
    · have hkl : k < l.length := by rw [← HN.out]; exact hlt
      have hkn : k < (nms l).length := by rw [nms_length]; exact hkl
      obtain ⟨b, o, rfl, hbs, hcell⟩ := HH.out.cell (by omega)
      obtain ⟨p1, p2⟩ := hcell k hkl
      have hne := listed_next hkn (wPl l k) HA.out
      have hhit := HIT.out k hlt HA.out
      have HST := hide (fun hh => below_st HA.out (show listE (nms l) k = 0 from hh))
      have hst := nms_more l k hkl
      have hgd : ((nms l).take (k + 1)).getD k ⟨#[]⟩ = wNm l k := by
        rw [List.getD_eq_getElem?_getD, List.getElem?_take_of_lt (Nat.lt_succ_self k), List.getElem?_eq_getElem hkn, nms_at hkn]; rfl
      have hxs := HSZ.out.2 k
      rw [← hgd] at hxs
      obtain ⟨x, hx⟩ : ∃ x, x = wNm l k := ⟨_, rfl⟩
      obtain ⟨p, hp⟩ : ∃ p, p = wPl l k := ⟨_, rfl⟩
      obtain ⟨ev, hev⟩ : ∃ v, v = listE (nms l) k := ⟨_, rfl⟩
      rw [← hx] at p1 hst
      rw [← hp] at p2 hne hhit
      rw [← hev] at hne hhit HST
      have q1 : wr.cell? ⟨b, o + k * 2, none⟩ = some (.string x) := (hEr.cell (p := ⟨b, o + k * 2, none⟩) hbs).trans p1
      have q2 : wr.cell? ⟨b, o + k * 2 + 1, none⟩ = some (.int .i64 p) := (hEr.cell (p := ⟨b, o + k * 2 + 1, none⟩) hbs).trans p2
      obtain ⟨w1, hw1⟩ : ∃ wz, wz = wr.alloc (.cells #[.string x, .int .i64 p] 25) := ⟨_, rfl⟩
      have hV : Blk w1 wr.heap.size 25 #[.string x, .int .i64 p] := by rw [hw1]; exact Blk.new _ _ _
      have hB1 : Blk w1 gf 32 #[.int .i64 0, .int .i64 0] := by rw [hw1]; exact hB.alloc _
      have hO1 : w1.ownsRow base 9 1 (.slice Ao k co) k (strCells ((nms l).take k)) := by rw [hw1]; exact hO.alloc _
      have hE1 : Ext w0 w1 := by rw [hw1]; exact hEr.alloc hEr.size _
      have hs1 : w1.heap.size = wr.heap.size + 1 := by rw [hw1]; simp only [World.size_alloc]
      obtain ⟨gv, hgv⟩ : ∃ g, g = wr.heap.size := ⟨_, rfl⟩
      rw [← hgv] at hV
      have hgvb : base ≤ gv := by rw [hgv]; exact hbs0
      have hgvO : ∀ g, Value.ownBlock (.slice Ao k co) = some g → g < gv := fun g e => by rw [hgv]; exact (HO.out.lt g e).2
      have v0 := hV.cell 0
      have v1 := hV.cell 1
      simp only [List.getElem?_toArray, List.getElem?_cons_zero, List.getElem?_cons_succ] at v0 v1
      have HNE := hide hne
      have HHIT := hide hhit
      have HST2 := hide hst
      have HXS := hide hxs
      have HW1 := hide hw1
      have HG1 := hide hgv
      have HV1 := hide hV
      have HB1 := hide hB1
      have HO1 := hide hO1
      have HE1 := hide hE1
      have HGV := hide hgvO
      have hbs1 : base ≤ w1.heap.size := by rw [hs1]; omega
      have HKL := hide hkn
      clear hw1 hV hB1 hO1 hE1 hs1 hgv hgvO hne hhit hst hxs hx hp hev hgd hkn hkl p1 p2 hcell hEr hB hO HB HO HEr HIT HMI
      go_upto_region 9 with fail
      rw [← HW1.out, ← HG1.out]
      clear q1 q2
      go_wp2_with (at_builtin; refine wpList_append_S _ rfl _ _ rfl base _ k ((nms l).take k) rfl w1.heap.size x _ rfl (HO1.out.alloc _) (reads_at _ _ _ _ rfl) (by omega) (by simp; omega) ?_)
      intro A3 c3 w3 hown3 hgrow3 _
      have hE3 : Ext w0 w3 := grown_ext' (w := w0) (wr := w1) (base := base) HE1.out ((Ext.rfl' w1).alloc (Nat.le_refl _) _) hgrow3 HO1.out (by rw [HBASE.out]; exact Nat.le_refl _)
      have hB3 := blk_grown (HB1.out.alloc (.cells #[.string x] 9)) hgrow3 HO1.out (.inl (by rw [HBASE.out]; exact HGFL.out))
      have hV3 : Blk w3 gv 25 #[.string x, .int .i64 p] := by
        refine (hgrow3.block gv (HV1.out.alloc _).lt ?_).trans (HV1.out.alloc _)
        intro e
        exact absurd (HGV.out gv e.symm) (Nat.lt_irrefl _)
      have v0 := hV3.cell 0
      have v1 := hV3.cell 1
      simp only [List.getElem?_toArray, List.getElem?_cons_zero, List.getElem?_cons_succ] at v0 v1
      rw [← HST2.out] at hown3
      have hlen : k + 1 = ((nms l).take (k + 1)).length := by rw [List.length_take]; have := HKL.out; omega
      have hsa : StrAt w3 w3.heap.size A3 ((nms l).take (k + 1)) := by
        unfold StrAt
        rw [← hlen]
        exact Reads.of_own hown3
      have hli := listed_any A3 c3 (k + 1) k p _ w3 hsa hlen rfl (by have := H64.out; omega) HXS.out
      rw [HNE.out] at hli
      have HLI := hide hli
      have HB3 := hide hB3
      have HE3 := hide hE3
      have HO3 := hide hown3
      clear hgrow3 hown3 hB3 hV3 hE3 hli hsa hlen HNE HV1
      by_cases he : ev = 0
      · have hli := HLI.out
        rw [if_pos he] at hli
        have HLJ := hide hli
        have HA2 := hide (HST.out he)
        clear hli HLI HST HHIT HA he
        go_upto_region 10 with fail
        go_wp2_with fail
        refine HLJ.out.mono ?_
        rintro e w5 ⟨rfl, hE5⟩
        obtain ⟨w6, hw6⟩ : ∃ x, x = w5.alloc (.cells #[.int .i64 0, .int .i64 0] 32) := ⟨_, rfl⟩
        have hE6 : Ext w3 w6 := by rw [hw6]; exact hE5.alloc hE5.size _
        have HB6 := hide (HB3.out.ext hE6)
        have HE6 := hide (HE3.out.trans' hE6)
        have HO6 := hide (own_ext HO3.out hE6)
        have hf6 : Blk w6 w5.heap.size 32 #[.int .i64 0, .int .i64 0] := by rw [hw6]; exact Blk.new _ _ _
        obtain ⟨g5, hg5⟩ : ∃ g, g = w5.heap.size := ⟨_, rfl⟩
        rw [← hg5] at hf6
        have u0 := hf6.cell 0
        have u1 := hf6.cell 1
        simp only [List.getElem?_toArray, List.getElem?_cons_zero, List.getElem?_cons_succ] at u0 u1
        have HW6 := hide hw6
        have HG5 := hide hg5
        clear hw6 hg5 hf6 hE6 hE5 v0 v1
        unfold fltV
        go_upto_region 11 with fail
        rw [← HW6.out, ← HG5.out]
        go_wp2_with fail
        go_roundw
        case rel => exact ⟨k + 1, A3, c3, by omega, by go_num, rfl, HE6.out, HB6.out, HO6.out, HA2.out⟩
        case measure => simp [intOf]; omega
      · have hli := HLI.out
        rw [if_neg he] at hli
        have HLJ := hide hli
        have HX := hide (HHIT.out he)
        have j0 : (ev == 0) = false := by simpa using he
        clear hli HLI HST HHIT HA he
        go_upto_region 10 with fail
        go_wp2_with fail
        refine HLJ.out.mono ?_
        rintro e w5 ⟨rfl, hE5⟩
        obtain ⟨w6, hw6⟩ : ∃ x, x = w5.alloc (.cells #[.int .i64 ev, .int .i64 p] 32) := ⟨_, rfl⟩
        have hE6 : Ext w3 w6 := by rw [hw6]; exact hE5.alloc hE5.size _
        have HB6 := hide (HB3.out.ext hE6)
        have HE6 := hide (HE.out.trans' (HE3.out.trans' hE6))
        have hf6 : Blk w6 w5.heap.size 32 #[.int .i64 ev, .int .i64 p] := by rw [hw6]; exact Blk.new _ _ _
        obtain ⟨g5, hg5⟩ : ∃ g, g = w5.heap.size := ⟨_, rfl⟩
        rw [← hg5] at hf6
        have u0 := hf6.cell 0
        have u1 := hf6.cell 1
        have b0 := HB6.out.cell 0
        have b1 := HB6.out.cell 1
        have f0 := HB6.out.free 0
        have f1 := HB6.out.free 1
        simp only [List.getElem?_toArray, List.getElem?_cons_zero, List.getElem?_cons_succ] at u0 u1 b0 b1
        have HW6 := hide hw6
        have HG5 := hide hg5
        clear hw6 hg5 hf6 hE6 hE5 v0 v1
        unfold fltV
        go_upto_region 11 with fail
        rw [← HW6.out, ← HG5.out]
        go_wp2_with fail
        exact fault_ret (f := (ev, p)) (g := gf) ((HB6.out.set_ 0 _).set_ 1 _) rfl rfl rfl ⟨by rw [HX.out], ext_two' HE6.out HLO.out _ _⟩
    · obtain rfl : k = n := by omega
      have HX := hide (HMI.out HA.out)
      have HE6 := hide (HE.out.trans' hEr)
      have b0 := hB.cell 0
      have b1 := hB.cell 1
      have f0 := hB.free 0
      have f1 := hB.free 1
      simp only [List.getElem?_toArray, List.getElem?_cons_zero, List.getElem?_cons_succ] at b0 b1
      clear hB hO hEr HA
      go_wp2_with fail
      exact fault_ret (f := (0, 0)) (g := gf) ((HB.out.set_ 0 _).set_ 1 _) rfl rfl rfl ⟨by rw [HX.out], ext_two' HE6.out HLO.out _ _⟩
end Go.Proofs.Ytanpljalbijfkaa
