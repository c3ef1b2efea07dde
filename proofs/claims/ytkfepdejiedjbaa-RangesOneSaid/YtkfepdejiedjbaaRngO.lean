/- RangesOne: the walk. -/
import Derived.Test.YtkfepdejiedjbaaRngK
import Derived.Deep.RegionHeld3
namespace Go.Proofs.Ytkfepdejiedjbaa
open Go.RowKit

/-- Behind 'all := ..': the set lies in a block that was made on the way. -/
def AllAt (W : World) (f : Int → Bool) (v : Value) (wx : World) : Prop :=
  ∃ g A n c o, v = .pointer (some ⟨g, 0, none⟩) ∧ Blk wx g 49 #[.slice A n c] ∧ SetAt wx A n o f ∧ Ext W wx

set_option maxRecDepth 100000 in
set_option maxHeartbeats 4000000 in
theorem oneA (A : Option Addr) (c : Nat) (a : List (Int × Int)) (A2 : Option Addr) (c2 : Nat) (b : List (Int × Int)) (w : World) (h : RngAt w w.heap.size A a) (h2 : RngAt w w.heap.size A2 b) (hl : a.length ≤ 17592186044416) (hl2 : b.length ≤ 17592186044416) :
    Calls Try.prog 9 #[.slice A a.length c, .slice A2 b.length c2] w (fun e w' => e = .returned (.bool true) ∧ Ext w w') := by
  have HA := hide h
  have HB := hide h2
  obtain ⟨N, hN⟩ : ∃ N, N = a.length := ⟨_, rfl⟩
  obtain ⟨M, hM⟩ : ∃ M, M = b.length := ⟨_, rfl⟩
  rw [← hN] at hl ⊢
  rw [← hM] at hl2 ⊢
  have HN := hide hN
  have HM := hide hM
  clear h h2 hN hM
  go_enter Try.func9, Try.ntmps9
  go_wp2_with fail
  refine (newQ a HA.out (by rw [← HN.out]; omega) HN.out).mono ?_
  rintro e x1 ⟨A3, c3, n3, s, rfl, hS, _, hE⟩
  have HX1 := hide hE
  have HS1 := hide hS
  clear hE hS
  go_wp2_with fail
  refine (newQ b (HB.out.ext HX1.out) (by rw [← HM.out]; omega) HM.out).mono ?_
  rintro e x2 ⟨A4, c4, n4, t, rfl, hS, _, hE⟩
  have HX2 := hide (HX1.out.trans' hE)
  have HS := hide (HS1.out.ext hE)
  have HT := hide hS
  clear hE hS
  go_upto_region 2 with fail
  obtain ⟨W, hW⟩ : ∃ W, W = (x2.alloc (.cells #[.slice A3 n3 c3] 49)).alloc (.cells #[.slice A4 n4 c4] 49) := ⟨_, rfl⟩
  rw [← hW]
  have hE : Ext x2 W := by rw [hW]; exact ((Ext.rfl' _).alloc (Nat.le_refl _) _).alloc (by simp) _
  have HXW := hide (HX2.out.trans' hE)
  have HSW := hide (HS.out.ext hE)
  have HTW := hide (HT.out.ext hE)
  have HB5 := hide (by rw [hW]; exact (Blk.new _ _ _).alloc _ : Blk W x2.heap.size 49 #[.slice A3 n3 c3])
  have HB6 := hide (by rw [hW]; exact Blk.new_at _ _ _ (by simp) : Blk W (x2.heap.size + 1) 49 #[.slice A4 n4 c4])
  obtain ⟨g5, hg5⟩ : ∃ g, g = x2.heap.size := ⟨_, rfl⟩
  obtain ⟨g6, hg6⟩ : ∃ g, g = x2.heap.size + 1 := ⟨_, rfl⟩
  rw [← hg6, ← hg5]
  rw [← hg5] at HB5
  rw [← hg6] at HB6
  clear hE hW hg5 hg6 HX1 HS1 HX2 HS HT
  generalize hasT a = f at HSW
  generalize hasT b = g at HTW
  have HX := hide ((Ext.rfl' W).drew')
  have l5 := HB5.out.lt
  have l6 := HB6.out.lt
  have b5 := HB5.out.cell 0
  have b6 := HB6.out.cell 0
  simp only [List.getElem?_toArray, List.getElem?_cons_zero] at b5 b6
  go_cut [7] (fun v wx => AllAt W (fun r => f r && !g r || f r && g r) v wx)
  case first =>
    go_region_held3 (fun w' => w'.cell? ⟨g5, 0, none⟩ = some (.slice A3 n3 c3) ∧ w'.cell? ⟨g6, 0, none⟩ = some (.slice A4 n4 c4)) (first | go_keep | exact hS | exact ⟨(World.cell?_setCell_other _ _ _ _ (by intro e; injection e with e; omega)).trans hS.1, (World.cell?_setCell_other _ _ _ _ (by intro e; injection e with e; omega)).trans hS.2⟩)
      ((first
        | (go_at_call 40
           refine (lessQ (by first | exact HSW.out.ext HX.out | exact HSW.out.ext (HX.out.alloc (by have := HX.out.size; omega) _)) (by first | exact HTW.out.ext HX.out | exact HTW.out.ext (HX.out.alloc (by have := HX.out.size; omega) _))).mono ?_
           rintro e w1 ⟨A5, c5, n5, o5, rfl, hQ, hF, hE⟩
           first | have HB7 := hide (HB7.out.ext hE) | (have HB7 := hide (Blk.ext (Blk.new _ _ _) hE); have n7 := HX.out.size) | (have HB7 := hide (Blk.ext (Blk.drew' (Blk.new _ _ _)) hE); have n7 := HX.out.size) | skip
           have HX := hide (by first | exact Ext.trans' HX.out hE | exact Ext.trans' (HX.out.alloc (by have := HX.out.size; omega) _) hE : Ext W w1)
           have HL := hide hQ
           have hS := And.intro ((HB5.out.ext HX.out).cell 0) ((HB6.out.ext HX.out).cell 0)
           simp only [List.getElem?_toArray, List.getElem?_cons_zero] at hS
           clear hQ hE hF)
        | (go_at_call 39
           refine (bothQ (by first | exact HSW.out.ext HX.out | exact HSW.out.ext (HX.out.alloc (by have := HX.out.size; omega) _)) (by first | exact HTW.out.ext HX.out | exact HTW.out.ext (HX.out.alloc (by have := HX.out.size; omega) _))).mono ?_
           rintro e w1 ⟨A5, c5, n5, o5, rfl, hQ, hF, hE⟩
           first | have HL := hide (HL.out.ext hE) | have HL := hide ((HL.out.ext ((Ext.rfl' _).alloc (Nat.le_refl _) _)).ext hE)
           first | have HB7 := hide (HB7.out.ext hE) | (have HB7 := hide (Blk.ext (Blk.new _ _ _) hE); have n7 := HX.out.size) | (have HB7 := hide (Blk.ext (Blk.drew' (Blk.new _ _ _)) hE); have n7 := HX.out.size) | skip
           have HX := hide (by first | exact Ext.trans' HX.out hE | exact Ext.trans' (HX.out.alloc (by have := HX.out.size; omega) _) hE : Ext W w1)
           have HBt := hide hQ
           have hS := And.intro ((HB5.out.ext HX.out).cell 0) ((HB6.out.ext HX.out).cell 0)
           simp only [List.getElem?_toArray, List.getElem?_cons_zero] at hS
           clear hQ hE hF)
        | (go_at_call 36
           refine (joinQ (by first | exact HL.out | exact HL.out.ext ((Ext.rfl' _).alloc (Nat.le_refl _) _)) (by first | exact HBt.out | exact HBt.out.ext ((Ext.rfl' _).alloc (Nat.le_refl _) _))).mono ?_
           rintro e w1 ⟨A5, c5, n5, o5, rfl, hQ, hF, hE⟩
           first | have k7 := HB7.out.lt | skip
           first | have HB7 := hide (HB7.out.ext hE) | (have HB7 := hide (Blk.ext (Blk.new _ _ _) hE); have n7 := HX.out.size) | (have HB7 := hide (Blk.ext (Blk.drew' (Blk.new _ _ _)) hE); have n7 := HX.out.size) | skip
           have HX := hide (by first | exact Ext.trans' HX.out hE | exact Ext.trans' (HX.out.alloc (by have := HX.out.size; omega) _) hE : Ext W w1)
           have HJ := hide hQ
           have HF := hide hF
           have hS := And.intro ((HB5.out.ext HX.out).cell 0) ((HB6.out.ext HX.out).cell 0)
           try (have b7 := HB7.out.cell 0; have f7 := HB7.out.free 0; have l7 := HB7.out.lt; simp only [List.getElem?_toArray, List.getElem?_cons_zero] at b7)
           simp only [List.getElem?_toArray, List.getElem?_cons_zero] at hS
           clear hQ hE hF)))
    all_goals (go_wp2_with fail; go_meet)
    · exact ⟨_, _, _, _, _, rfl, Blk.new _ _ _, HJ.out.ext ((Ext.rfl' _).alloc (Nat.le_refl _) _), HX.out.alloc (by have := HX.out.size; omega) _⟩
    · exact ⟨_, _, _, _, _, rfl, HB7.out.set_ 0 _, HJ.out.far HF.out (by simp) _, HX.out.setCell (by simpa using n7) _⟩
    · exact ⟨_, _, _, _, _, rfl, HB7.out.set_ 0 _, HJ.out.far HF.out k7 _, HX.out.setCell (by simpa using n7) _⟩
    · exact ⟨_, _, _, _, _, rfl, HB7.out.set_ 0 _, HJ.out.far HF.out k7 _, HX.out.setCell (Nat.le_refl _) _⟩
  case rest =>
    obtain ⟨g7, A7, n7, c7, o7, rfl, hB7, hS7, hE7⟩ := hcut
    obtain rfl : o7 = s := canon_unique hS7.canon HSW.out.canon fun r => by
      rw [hS7.mem r, HSW.out.mem r]
      cases f r <;> cases g r <;> rfl
    obtain rfl : n7 = n3 := by rw [hS7.len, HSW.out.len]
    have HS7 := hide hS7
    have HE7 := hide hE7
    have HB7 := hide hB7
    have b5 := (HB5.out.ext hE7).cell 0
    simp only [List.getElem?_toArray, List.getElem?_cons_zero] at b5
    clear hS7 hE7 hB7 b6
    go_wp2_with fail
    refine (rangesQ (HSW.out.ext HE7.out)).mono ?_
    rintro e x3 ⟨Ar, cr, rfl, hR, hE⟩
    have HE8 := hide (HE7.out.trans' hE)
    have HR := hide hR
    have HB7' := hide (HB7.out.ext hE)
    have HS7' := hide (HS7.out.ext hE)
    have hm := HSW.out.most
    clear hE hR b5
    go_wp2_with fail
    refine (newQ o7 HR.out (by rw [← HSW.out.len]; omega) HSW.out.len).mono ?_
    rintro e x4 ⟨A8, c8, n8, o8, rfl, hS8, _, hE⟩
    obtain rfl : o8 = o7 := canon_unique hS8.canon HSW.out.canon fun r => by
      rw [hS8.mem r, hasT]
      cases hx : inT o7 r with
      | false => simp
      | true => have := canonFrom_in HSW.out.canon hx; simp; omega
    obtain rfl : n8 = n7 := by rw [hS8.len, HSW.out.len]
    have HE9 := hide (HE8.out.trans' hE)
    have HB79 := hide (HB7'.out.ext hE)
    have HS79 := hide (HS7'.out.ext hE)
    have HS89 := hide hS8
    clear hE hS8
    go_upto_region 4 with fail
    obtain ⟨W2, hW2⟩ : ∃ W2, W2 = x4.alloc (.cells #[.slice A8 n8 c8] 49) := ⟨_, rfl⟩
    rw [← hW2]
    have hE : Ext x4 W2 := by rw [hW2]; exact (Ext.rfl' _).alloc (Nat.le_refl _) _
    have HZ0 := hide (HE9.out.trans' hE)
    have HZW := hide (HXW.out.trans' HZ0.out)
    have HQ5 := hide (HSW.out.ext HZ0.out)
    have HQ6 := hide (HTW.out.ext HZ0.out)
    have HQ7 := hide (HS79.out.ext hE)
    have HQ8 := hide (HS89.out.ext hE)
    have HC5 := hide (HB5.out.ext HZ0.out)
    have HC6 := hide (HB6.out.ext HZ0.out)
    have HC7 := hide (HB79.out.ext hE)
    have HC8 := hide (by rw [hW2]; exact Blk.new _ _ _ : Blk W2 x4.heap.size 49 #[.slice A8 n8 c8])
    obtain ⟨g8, hg8⟩ : ∃ g, g = x4.heap.size := ⟨_, rfl⟩
    rw [← hg8]
    rw [← hg8] at HC8
    have b5 := HC5.out.cell 0
    have b6 := HC6.out.cell 0
    have b7 := HC7.out.cell 0
    have b8 := HC8.out.cell 0
    simp only [List.getElem?_toArray, List.getElem?_cons_zero] at b5 b6 b7 b8
    obtain ⟨k1, hk1⟩ : ∃ k, k = cardF (fun r => f r && !g r) := ⟨_, rfl⟩
    obtain ⟨k2, hk2⟩ : ∃ k, k = cardF (fun r => f r && g r) := ⟨_, rfl⟩
    have hsum := cardF_split f g
    have hb1 := cardF_le (fun r => f r && !g r)
    have hb2 := cardF_le (fun r => f r && g r)
    rw [← hk1, ← hk2] at hsum
    rw [← hk1] at hb1
    rw [← hk2] at hb2
    obtain ⟨p1, p2⟩ := hb1
    obtain ⟨p3, p4⟩ := hb2
    have hw : IntKind.i64.wrap (k1 + k2) = k1 + k2 := IntWalk.i64_in _ (by omega)
    have HCN := hide (fun (w : World) A n c s (h : SetAt w A n s f) => ext_ret (countQ' (c := c) h) (congrArg (Value.int .i64) hsum.symm))
    have HCL := hide (fun (w : World) A n c s (h : SetAt w A n s (fun r => f r && !g r)) => ext_ret (countQ' (c := c) h) (congrArg (Value.int .i64) hk1.symm))
    have HCB := hide (fun (w : World) A n c s (h : SetAt w A n s (fun r => f r && g r)) => ext_ret (countQ' (c := c) h) (congrArg (Value.int .i64) hk2.symm))
    have HC0 := hide (fun (w : World) A n c s (h : SetAt w A n s (fun r => f r && !f r)) => ext_ret (countQ' (c := c) h) (congrArg (Value.int .i64) (cardF_none f)))
    have HX0 := hide ((Ext.rfl' W2).drew')
    clear hE hW2 hg8 hk1 hk2 hsum HX HB7 HB7' HS7 HS7' HE7 HE8 HE9 HB79 HS79 HS89 HR
    have HX := HX0
    clear HX0
    go_region_held3 (fun w' => w'.cell? ⟨g5, 0, none⟩ = some (.slice A3 n8 c3) ∧ w'.cell? ⟨g6, 0, none⟩ = some (.slice A4 n4 c4) ∧ w'.cell? ⟨g7, 0, none⟩ = some (.slice A7 n8 c7) ∧ w'.cell? ⟨g8, 0, none⟩ = some (.slice A8 n8 c8)) (first | go_keep | exact hS)
      ((first
        | (go_at_call 37
           refine (rangesQ (by first | exact HQ5.out.ext HX.out | exact HQ7.out.ext HX.out | exact HQ8.out.ext HX.out)).mono ?_
           rintro e w1 ⟨Ar, cr, rfl, hR, hE⟩
           try have HP := hide (HR.out.ext hE)
           have HR := hide hR
           have HX := hide (Ext.trans' HX.out hE)
           have hS := And.intro ((HC5.out.ext HX.out).cell 0) (And.intro ((HC6.out.ext HX.out).cell 0) (And.intro ((HC7.out.ext HX.out).cell 0) ((HC8.out.ext HX.out).cell 0)))
           simp only [List.getElem?_toArray, List.getElem?_cons_zero] at hS
           clear hR hE)
        | (go_at_call 35
           refine (sameQ HP.out HR.out HQ5.out.len HQ5.out.most).mono ?_
           rintro e w1 ⟨rfl, hE⟩
           clear HP HR
           have HX := hide (Ext.trans' HX.out hE)
           have hS := And.intro ((HC5.out.ext HX.out).cell 0) (And.intro ((HC6.out.ext HX.out).cell 0) (And.intro ((HC7.out.ext HX.out).cell 0) ((HC8.out.ext HX.out).cell 0)))
           simp only [List.getElem?_toArray, List.getElem?_cons_zero] at hS
           clear hE)
        | (go_at_call 40
           refine (lessQ (HQ5.out.ext HX.out) (by first | exact HQ6.out.ext HX.out | exact HQ5.out.ext HX.out)).mono ?_
           rintro e w1 ⟨A9, c9, n9, o9, rfl, hQ, _, hE⟩
           have HL := hide hQ
           have HX := hide (Ext.trans' HX.out hE)
           have hS := And.intro ((HC5.out.ext HX.out).cell 0) (And.intro ((HC6.out.ext HX.out).cell 0) (And.intro ((HC7.out.ext HX.out).cell 0) ((HC8.out.ext HX.out).cell 0)))
           simp only [List.getElem?_toArray, List.getElem?_cons_zero] at hS
           clear hQ hE)
        | (go_at_call 39
           refine (bothQ (HQ5.out.ext HX.out) (HQ6.out.ext HX.out)).mono ?_
           rintro e w1 ⟨A9, c9, n9, o9, rfl, hQ, _, hE⟩
           have HL := hide hQ
           have HX := hide (Ext.trans' HX.out hE)
           have hS := And.intro ((HC5.out.ext HX.out).cell 0) (And.intro ((HC6.out.ext HX.out).cell 0) (And.intro ((HC7.out.ext HX.out).cell 0) ((HC8.out.ext HX.out).cell 0)))
           simp only [List.getElem?_toArray, List.getElem?_cons_zero] at hS
           clear hQ hE)
        | (go_at_call 43
           (first | (with_reducible refine (HCL.out _ _ _ _ _ HL.out).mono ?_) | (with_reducible refine (HCB.out _ _ _ _ _ HL.out).mono ?_) | (with_reducible refine (HC0.out _ _ _ _ _ HL.out).mono ?_) | (with_reducible refine (HCN.out _ _ _ _ _ (HQ5.out.ext HX.out)).mono ?_))
           rintro e w1 ⟨rfl, hE⟩
           have HX := hide (Ext.trans' HX.out hE)
           have hS := And.intro ((HC5.out.ext HX.out).cell 0) (And.intro ((HC6.out.ext HX.out).cell 0) (And.intro ((HC7.out.ext HX.out).cell 0) ((HC8.out.ext HX.out).cell 0)))
           simp only [List.getElem?_toArray, List.getElem?_cons_zero] at hS
           clear hE)
        | (go_at_call 33
           refine (lives2_any _).mono ?_
           rintro e w1 ⟨rfl, hE⟩
           have HX := hide (Ext.trans' HX.out hE)
           have hS := And.intro ((HC5.out.ext HX.out).cell 0) (And.intro ((HC6.out.ext HX.out).cell 0) (And.intro ((HC7.out.ext HX.out).cell 0) ((HC8.out.ext HX.out).cell 0)))
           simp only [List.getElem?_toArray, List.getElem?_cons_zero] at hS
           clear hE)))
    all_goals
      go_wp2_with fail
      go_ret
      exact ⟨rfl, HZW.out.trans' HX.out⟩
end Go.Proofs.Ytkfepdejiedjbaa
