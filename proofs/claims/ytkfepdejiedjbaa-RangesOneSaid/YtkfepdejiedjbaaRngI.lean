/- RangesMakes: the walk. -/
import Derived.Test.YtkfepdejiedjbaaRngK
namespace Go.Proofs.Ytkfepdejiedjbaa
open Go.RowKit


theorem kindL_one (l : List (Int × Int)) (r : Int) : kindL l [] 1 r = hasT l r := by simp [kindL, hasT, inT]


set_option maxRecDepth 100000 in
set_option maxHeartbeats 2000000 in
theorem makesA (A : Option Addr) (c : Nat) (l : List (Int × Int)) (r : Int) (w : World) (h : RngAt w w.heap.size A l) (hl : l.length ≤ 9223372036854775807) (h32 : in32 l) :
    Calls Try.prog 8 #[.slice A l.length c, .int .i32 r] w (fun e w' => e = .returned (.bool true) ∧ Ext w w') := by
  have H32 := hide h32
  clear h32
  by_cases hbig : l.length ≤ 150
  · go_enter Try.func8, Try.ntmps8
    go_wp2_with fail
    refine (newR_any A c l _ h (by omega)).mono ?_
    rintro e w1 ⟨A1, c1, out, rfl, hO, hc, hi, hln, hE⟩
    have HE1 := hide hE
    have HC := hide hc
    have HI := hide hi
    have HO := hide hO
    clear hO hc hi hE
    have hL := canon_len0 HC.out
    obtain ⟨n1, hn1⟩ : ∃ n1, n1 = out.length := ⟨_, rfl⟩
    rw [← hn1] at HO hL ⊢
    have HN := hide hn1
    clear hn1 hln
    go_wp2_with fail
    have hE2 : Ext w (w1.alloc (.cells #[.slice A1 n1 c1] 49)) := HE1.out.alloc (by have := HE1.out.size; omega) _
    refine (refRanges_any A c l none 0 [] 1 _ (h.ext hE2) Reads.none_ (by omega) (by simp) H32.out (by simp)).mono ?_
    rintro e w2 ⟨A2, c2, O, rfl, hR2, hc2, hi2, hE3⟩
    obtain rfl : out = O := canon_unique HC.out hc2 (fun r => by rw [HI.out r, hi2 r, kindL_one])
    have HE2 := hide (hE2.trans' hE3)
    have B5 : Blk w2 w1.heap.size 49 #[.slice A1 n1 c1] := (Blk.new w1 49 #[.slice A1 n1 c1]).ext hE3
    have HO2 := hide (own_ext HO.out (Ext.trans' ((Ext.rfl' w1).alloc (Nat.le_refl _) _) hE3))
    have HR2 := hide hR2
    rw [← HN.out]
    have b5 := B5.cell 0
    have l5 := B5.lt
    simp only [List.getElem?_toArray, List.getElem?_cons_zero] at b5
    obtain ⟨W, hW⟩ : ∃ W, W = w2.alloc (.cells #[.slice none 0 0] 49) := ⟨_, rfl⟩
    have hWE : Ext w2 W := by rw [hW]; exact (Ext.rfl' _).alloc (Nat.le_refl _) _
    have B7 : Blk W w2.heap.size 49 #[.slice none 0 0] := by rw [hW]; exact Blk.new _ _ _
    have B5' := B5.ext hWE
    have HE := hide (Ext.trans' HE2.out hWE)
    have HRl := hide (h.ext HE.out)
    have HRo := hide (RngAt.of_own (by rw [← HN.out]; exact own_ext HO2.out hWE) : RngAt W W.heap.size A1 out)
    have HRw := hide (HR2.out.ext hWE)
    have hok := canon_ok (by omega) HC.out
    have hb : inT out r = hasT l r := HI.out r
    have c1' := fun w' (hE : Ext W w') => setHas_any A1 c1 out r w' (HRo.out.ext hE) (by rw [← HN.out]; omega) HC.out
    have c2' := fun w' (hE : Ext W w') => refHas_any A c l r w' (HRl.out.ext hE) (by omega)
    have c3' := fun w' (hE : Ext W w') => setRanges_any A1 c1 out w' (HRo.out.ext hE) (by rw [← HN.out]; omega)
    have c4' := fun w' (hE : Ext W w') A4 c4 (h4 : RngAt w' w'.heap.size A4 out) => refSame_any A4 c4 out A2 c2 out w' h4 (HRw.out.ext hE) (by rw [← HN.out]; omega) (by rw [← HN.out]; omega) rfl
    have c5' := fun w' (hE : Ext W w') => setCount_any A1 c1 out w' (HRo.out.ext hE) (by rw [← HN.out]; omega) hok
    have c6' := fun w' (hE : Ext W w') => lawSize_any A2 c2 out w' (HRw.out.ext hE) (by rw [← HN.out]; omega) hok
    have c7' := fun w' (_ : Ext W w') => ext_ret (setHas_any none 0 [] r w' Reads.none_ (by simp) trivial) (show Value.bool (inT [] r) = .bool false from rfl)
    have c8' := fun w' (_ : Ext W w') => ext_ret (setCount_any none 0 [] w' Reads.none_ (by simp) (by simp)) (show Value.int .i64 (cntL []) = .int .i64 0 from rfl)
    rw [hb] at c1'
    unfold OwnRPost at c3'
    rw [← HN.out] at c1' c3' c4' c5' c6'
    obtain ⟨bb, hbb⟩ : ∃ bb, bb = hasT l r := ⟨_, rfl⟩
    rw [← hbb] at c1' c2'
    obtain ⟨ct, hct⟩ : ∃ ct, ct = cntL out := ⟨_, rfl⟩
    rw [← hct] at c5' c6'
    have C1 := hide c1'
    have C2 := hide c2'
    have C3 := hide c3'
    have C4 := hide c4'
    have C5 := hide c5'
    have C6 := hide c6'
    have C7 := hide c7'
    have C8 := hide c8'
    have HB5 := hide B5'
    have HB7 := hide B7
    have HW := hide hW
    clear c1' c2' c3' c4' c5' c6' c7' c8' B5 B5' B7 hWE hE2 hE3 hc2 hi2 hR2 hbb hct hb hok hW
    go_upto_region 6 with fail
    rw [← HW.out]
    clear b5 l5
    have b5 := HB5.out.cell 0
    have b7 := HB7.out.cell 0
    simp only [List.getElem?_toArray, List.getElem?_cons_zero] at b5 b7
    go_wp2_with fail
    refine (C1.out _ (Ext.rfl' _)).mono ?_
    rintro e x1 ⟨rfl, hE⟩
    have HX := hide hE
    clear hE b5 b7
    go_wp2_with fail
    refine (C2.out _ HX.out).mono ?_
    rintro e w' ⟨rfl, rfl⟩
    have b5 := (HB5.out.ext HX.out).cell 0
    simp only [List.getElem?_toArray, List.getElem?_cons_zero] at b5
    go_wp2_with fail
    refine (C3.out _ HX.out).mono ?_
    rintro e x2 ⟨A3, c3, rfl, hO3, hE⟩
    have HX2 := hide (HX.out.trans' hE)
    have HO3 := hide hO3
    clear hE b5 hO3
    go_wp2_with fail
    refine (C4.out _ HX2.out _ _ (RngAt.of_own (by rw [← HN.out]; exact HO3.out))).mono ?_
    rintro e x3 ⟨rfl, hE⟩
    have HX3 := hide (HX2.out.trans' hE)
    have b5 := (HB5.out.ext HX3.out).cell 0
    simp only [List.getElem?_toArray, List.getElem?_cons_zero] at b5
    clear hE
    go_wp2_with fail
    refine (C5.out _ HX3.out).mono ?_
    rintro e x4 ⟨rfl, hE⟩
    have HX4 := hide (HX3.out.trans' hE)
    clear hE b5
    go_wp2_with fail
    refine (C6.out _ HX4.out).mono ?_
    rintro e x5 ⟨rfl, hE⟩
    have HX5 := hide (HX4.out.trans' hE)
    have b7 := (HB7.out.ext HX5.out).cell 0
    simp only [List.getElem?_toArray, List.getElem?_cons_zero] at b7
    clear hE
    go_wp2_with fail
    refine (C7.out _ HX5.out).mono ?_
    rintro e x6 ⟨rfl, hE⟩
    have HX6 := hide (HX5.out.trans' hE)
    clear b7
    have b7 := (HB7.out.ext HX6.out).cell 0
    simp only [List.getElem?_toArray, List.getElem?_cons_zero] at b7
    clear hE
    go_wp2_with fail
    refine (C8.out _ HX6.out).mono ?_
    rintro e x7 ⟨rfl, hE⟩
    have HX7 := hide (HX6.out.trans' hE)
    clear hE b7
    go_wp2_with fail
    refine (lives2_any _).mono ?_
    rintro e x8 ⟨rfl, hE⟩
    have HX8 := hide (HE.out.trans' (HX7.out.trans' hE))
    clear hE
    go_wp2_with fail
    go_ret
    exact ⟨rfl, HX8.out⟩
  · go_enter Try.func8, Try.ntmps8
    go_wp2_with fail
    refine (lives2_any _).mono ?_
    rintro e w1 ⟨rfl, hE⟩
    have HE := hide hE
    clear hE
    go_wp2_with fail
    go_ret
    exact ⟨rfl, HE.out⟩
end Go.Proofs.Ytkfepdejiedjbaa
