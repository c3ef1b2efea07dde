/- kinds: the laws' example, walked: lives. (Printed by wip/gen_kinl.py.) -/
import Derived.Test.YtanpljalbijfkaaKinI
import Derived.Laws.StructEq
namespace Go.Proofs.Ytanpljalbijfkaa
open Go.RowKit

theorem fault_ret {g : Nat} {w2 : World} {fn : Func} {p : Tmp} {a : Act} {R : Ending → World → Prop} {f : Int × Int} (hB : Blk w2 g 32 #[.int .i64 f.1, .int .i64 f.2]) (hfn : fn.results = #[.cell p 32]) (hp : a.tmps.getD p undef = .pointer (some ⟨g, 0, none⟩)) (hd : a.defers = [])
    (hR : R (.returned (fltV f)) w2) : bodyPost Try.prog fn R .ret a w2 :=
  bodyPost_ret (results_cell_row hfn _ _ g 32 _ (0, 0) _ hp hB Try.underlying32 rfl (by kernel_rfl)) hd hR
theorem bad_any (a b : Int) (w : World) : Calls Try.prog 30 #[.int .i64 a, .int .i64 b] w (fun e w' => e = .returned (fltV (a, b)) ∧ Ext w w') := by
  go_enter Try.func30, Try.ntmps30
  go_wp2_with fail
  exact fault_ret (f := (a, b)) (g := w.heap.size) (Blk.new _ _ _) rfl rfl rfl ⟨rfl, (Ext.rfl' w).alloc (Nat.le_refl _) _⟩
theorem ext_two' {w w' : World} {g i j : Nat} (hE : Ext w w') (hg : w.heap.size ≤ g) (u v : Value) : Ext w ((w'.setCell ⟨g, i, none⟩ u).setCell ⟨g, j, none⟩ v) := (hE.setCell hg u).setCell hg v
set_option maxRecDepth 100000 in
theorem own_int (w : World) : Calls Try.prog 31 #[.agg #[.int .i64 2, .int .i64 0, .int .i64 1, .int .i64 0, .int .i64 0, .slice none 0 0, .slice none 0 0, .string ⟨#[]⟩, .int .i64 0]] w (fun e w' => e = .returned (.bool true) ∧ Ext w w') := by
  have HE := hide (show Ext w (w.alloc (.cells #[.int .i64 2, .int .i64 0, .int .i64 1, .int .i64 0, .int .i64 0, .slice none 0 0, .slice none 0 0, .string ⟨#[]⟩, .int .i64 0] 27)) from (Ext.rfl' w).alloc (Nat.le_refl _) _)
  go_enter Try.func31, Try.ntmps31
  go_wp2_with fail
  go_ret
  exact ⟨rfl, HE.out⟩
set_option maxRecDepth 100000 in
theorem own_bool (w : World) : Calls Try.prog 31 #[.agg #[.int .i64 1, .int .i64 7, .int .i64 0, .int .i64 0, .int .i64 0, .slice none 0 0, .slice none 0 0, .string ⟨#[]⟩, .int .i64 0]] w (fun e w' => e = .returned (.bool true) ∧ Ext w w') := by
  have HE := hide (show Ext w (w.alloc (.cells #[.int .i64 1, .int .i64 7, .int .i64 0, .int .i64 0, .int .i64 0, .slice none 0 0, .slice none 0 0, .string ⟨#[]⟩, .int .i64 0] 27)) from (Ext.rfl' w).alloc (Nat.le_refl _) _)
  go_enter Try.func31, Try.ntmps31
  go_wp2_with fail
  go_ret
  exact ⟨rfl, HE.out⟩
set_option maxRecDepth 100000 in
set_option maxHeartbeats 2000000 in
theorem check_int (gc : Nat) (W w : World) (hW : Ext W w) (hg : W.heap.size ≤ gc) (hc : Blk w gc 44 #[.int .i64 0]) : Calls Try.prog 17 #[.pointer (some ⟨gc, 0, none⟩), .agg #[.int .i64 2, .int .i64 0, .int .i64 1, .int .i64 0, .int .i64 0, .slice none 0 0, .slice none 0 0, .string ⟨#[]⟩, .int .i64 0], .int .i64 1] w (fun e w' => e = .returned (fltV (20, 0)) ∧ Ext W w') := by
  obtain ⟨w1, hw1⟩ : ∃ w1, w1 = (w.alloc (.cells #[.int .i64 2, .int .i64 0, .int .i64 1, .int .i64 0, .int .i64 0, .slice none 0 0, .slice none 0 0, .string ⟨#[]⟩, .int .i64 0] 27)).alloc (.cells #[.int .i64 0, .int .i64 0] 32) := ⟨_, rfl⟩
  have hT : Blk w1 w.heap.size 27 #[.int .i64 2, .int .i64 0, .int .i64 1, .int .i64 0, .int .i64 0, .slice none 0 0, .slice none 0 0, .string ⟨#[]⟩, .int .i64 0] := by rw [hw1]; exact (Blk.new _ _ _).alloc _
  have hF : Blk w1 (w.heap.size + 1) 32 #[.int .i64 0, .int .i64 0] := by
    rw [hw1]; have := Blk.new (w.alloc (.cells #[.int .i64 2, .int .i64 0, .int .i64 1, .int .i64 0, .int .i64 0, .slice none 0 0, .slice none 0 0, .string ⟨#[]⟩, .int .i64 0] 27)) 32 #[.int .i64 0, .int .i64 0]; simpa only [World.size_alloc] using this
  have hE01 : Ext w w1 := by rw [hw1]; exact ((Ext.rfl' w).alloc (Nat.le_refl _) _).alloc (by simp only [World.size_alloc]; omega) _
  have hE1 : Ext W w1 := hW.trans' hE01
  have hC : Blk w1 gc 44 #[.int .i64 0] := hc.ext hE01
  have n1 : w.heap.size ≠ gc := Nat.ne_of_gt hc.lt
  have n2 : w.heap.size + 1 ≠ gc := by have := hc.lt; omega
  have l1 : W.heap.size ≤ w.heap.size + 1 := Nat.le_trans hW.size (Nat.le_succ _)
  obtain ⟨gf, hgf⟩ : ∃ g, g = w.heap.size + 1 := ⟨_, rfl⟩
  obtain ⟨gt, hgt⟩ : ∃ g, g = w.heap.size := ⟨_, rfl⟩
  rw [← hgf] at hF n2 l1
  rw [← hgt] at hT n1
  have c0 := hC.cell 0
  have f0 := hC.free 0
  simp only [List.getElem?_toArray, List.getElem?_cons_zero, List.getElem?_cons_succ] at c0
  have HW1 := hide hw1
  have HGT := hide hgt
  have HGF := hide hgf
  have hT2 := hT.far (p := ⟨gc, 0, none⟩) n1 (.int .i64 1)
  have hF2 := hF.far (p := ⟨gc, 0, none⟩) n2 (.int .i64 1)
  have hC2 := hC.set_ 0 (.int .i64 1)
  have hE2 : Ext W (w1.setCell ⟨gc, 0, none⟩ (.int .i64 1)) := hE1.setCell hg _
  clear hw1 hgt hgf hc hW hE01
  go_enter Try.func17, Try.ntmps17
  go_upto_region 1 with fail
  rw [← HW1.out, ← HGF.out, ← HGT.out]
  go_upto_region 2 with fail
  obtain ⟨w2, hw2⟩ : ∃ w2, w2 = w1.setCell ⟨gc, 0, none⟩ (.int .i64 1) := ⟨_, rfl⟩
  rw [← hw2] at hT2 hF2 hC2 hE2 ⊢
  have HT := hide hT2
  have HF := hide hF2
  have HE2 := hide hE2
  have c0 := hC2.cell 0
  have t0 := hT2.cell 0
  have t1 := hT2.cell 1
  have t2 := hT2.cell 2
  have t3 := hT2.cell 3
  have t4 := hT2.cell 4
  have t5 := hT2.cell 5
  have t6 := hT2.cell 6
  have t7 := hT2.cell 7
  have t8 := hT2.cell 8
  simp [Array.setIfInBounds] at c0
  simp only [List.getElem?_toArray, List.getElem?_cons_zero, List.getElem?_cons_succ] at t0 t1 t2 t3 t4 t5 t6 t7 t8
  clear hT hF hC hT2 hF2 hC2 hE1 hE2 hw2 f0 HW1 HGT HGF
  go_wp2_with fail
  refine (own_int w2).mono ?_
  rintro e w3 ⟨rfl, hE3⟩
  have hT3 := HT.out.ext hE3
  have hF3 := HF.out.ext hE3
  have HE3 := hide (HE2.out.trans' hE3)
  have t0 := hT3.cell 0
  have t1 := hT3.cell 1
  have t2 := hT3.cell 2
  have t3 := hT3.cell 3
  have b0 := hF3.cell 0
  have b1 := hF3.cell 1
  have g0 := hF3.free 0
  have g1 := hF3.free 1
  simp only [List.getElem?_toArray, List.getElem?_cons_zero, List.getElem?_cons_succ] at t0 t1 t2 t3 b0 b1
  have HF3 := hide hF3
  clear hT3 hF3 hE3 HT HF HE2 c0 t4 t5 t6 t7 t8
  go_wp2_with fail
  refine (bad_any 20 0 w3).mono ?_
  rintro e w4 ⟨rfl, hE4⟩
  have HF4 := hide (HF3.out.ext hE4)
  have HE4 := hide (HE3.out.trans' hE4)
  have b0 := HF4.out.cell 0
  have b1 := HF4.out.cell 1
  have g0 := HF4.out.free 0
  have g1 := HF4.out.free 1
  simp only [List.getElem?_toArray, List.getElem?_cons_zero, List.getElem?_cons_succ] at b0 b1
  unfold fltV
  clear hE4 t0 t1 t2 t3
  go_wp2_with fail
  exact fault_ret (f := (20, 0)) (g := gf) ((HF4.out.set_ 0 _).set_ 1 _) rfl rfl rfl ⟨rfl, ext_two' HE4.out l1 _ _⟩
set_option maxRecDepth 100000 in
set_option maxHeartbeats 2000000 in
theorem check_bool (gc : Nat) (W w : World) (hW : Ext W w) (hg : W.heap.size ≤ gc) (hc : Blk w gc 44 #[.int .i64 0]) : Calls Try.prog 17 #[.pointer (some ⟨gc, 0, none⟩), .agg #[.int .i64 1, .int .i64 7, .int .i64 0, .int .i64 0, .int .i64 0, .slice none 0 0, .slice none 0 0, .string ⟨#[]⟩, .int .i64 0], .int .i64 1] w (fun e w' => e = .returned (fltV (0, 0)) ∧ Ext W w') := by
  obtain ⟨w1, hw1⟩ : ∃ w1, w1 = (w.alloc (.cells #[.int .i64 1, .int .i64 7, .int .i64 0, .int .i64 0, .int .i64 0, .slice none 0 0, .slice none 0 0, .string ⟨#[]⟩, .int .i64 0] 27)).alloc (.cells #[.int .i64 0, .int .i64 0] 32) := ⟨_, rfl⟩
  have hT : Blk w1 w.heap.size 27 #[.int .i64 1, .int .i64 7, .int .i64 0, .int .i64 0, .int .i64 0, .slice none 0 0, .slice none 0 0, .string ⟨#[]⟩, .int .i64 0] := by rw [hw1]; exact (Blk.new _ _ _).alloc _
  have hF : Blk w1 (w.heap.size + 1) 32 #[.int .i64 0, .int .i64 0] := by
    rw [hw1]; have := Blk.new (w.alloc (.cells #[.int .i64 1, .int .i64 7, .int .i64 0, .int .i64 0, .int .i64 0, .slice none 0 0, .slice none 0 0, .string ⟨#[]⟩, .int .i64 0] 27)) 32 #[.int .i64 0, .int .i64 0]; simpa only [World.size_alloc] using this
  have hE01 : Ext w w1 := by rw [hw1]; exact ((Ext.rfl' w).alloc (Nat.le_refl _) _).alloc (by simp only [World.size_alloc]; omega) _
  have hE1 : Ext W w1 := hW.trans' hE01
  have hC : Blk w1 gc 44 #[.int .i64 0] := hc.ext hE01
  have n1 : w.heap.size ≠ gc := Nat.ne_of_gt hc.lt
  have n2 : w.heap.size + 1 ≠ gc := by have := hc.lt; omega
  have l1 : W.heap.size ≤ w.heap.size + 1 := Nat.le_trans hW.size (Nat.le_succ _)
  obtain ⟨gf, hgf⟩ : ∃ g, g = w.heap.size + 1 := ⟨_, rfl⟩
  obtain ⟨gt, hgt⟩ : ∃ g, g = w.heap.size := ⟨_, rfl⟩
  rw [← hgf] at hF n2 l1
  rw [← hgt] at hT n1
  have c0 := hC.cell 0
  have f0 := hC.free 0
  simp only [List.getElem?_toArray, List.getElem?_cons_zero, List.getElem?_cons_succ] at c0
  have HW1 := hide hw1
  have HGT := hide hgt
  have HGF := hide hgf
  have hT2 := hT.far (p := ⟨gc, 0, none⟩) n1 (.int .i64 1)
  have hF2 := hF.far (p := ⟨gc, 0, none⟩) n2 (.int .i64 1)
  have hC2 := hC.set_ 0 (.int .i64 1)
  have hE2 : Ext W (w1.setCell ⟨gc, 0, none⟩ (.int .i64 1)) := hE1.setCell hg _
  clear hw1 hgt hgf hc hW hE01
  go_enter Try.func17, Try.ntmps17
  go_upto_region 1 with fail
  rw [← HW1.out, ← HGF.out, ← HGT.out]
  go_upto_region 2 with fail
  obtain ⟨w2, hw2⟩ : ∃ w2, w2 = w1.setCell ⟨gc, 0, none⟩ (.int .i64 1) := ⟨_, rfl⟩
  rw [← hw2] at hT2 hF2 hC2 hE2 ⊢
  have HT := hide hT2
  have HF := hide hF2
  have HE2 := hide hE2
  have c0 := hC2.cell 0
  have t0 := hT2.cell 0
  have t1 := hT2.cell 1
  have t2 := hT2.cell 2
  have t3 := hT2.cell 3
  have t4 := hT2.cell 4
  have t5 := hT2.cell 5
  have t6 := hT2.cell 6
  have t7 := hT2.cell 7
  have t8 := hT2.cell 8
  simp [Array.setIfInBounds] at c0
  simp only [List.getElem?_toArray, List.getElem?_cons_zero, List.getElem?_cons_succ] at t0 t1 t2 t3 t4 t5 t6 t7 t8
  clear hT hF hC hT2 hF2 hC2 hE1 hE2 hw2 f0 HW1 HGT HGF
  go_wp2_with fail
  refine (own_bool w2).mono ?_
  rintro e w3 ⟨rfl, hE3⟩
  have hT3 := HT.out.ext hE3
  have hF3 := HF.out.ext hE3
  have HE3 := hide (HE2.out.trans' hE3)
  have t0 := hT3.cell 0
  have t1 := hT3.cell 1
  have t2 := hT3.cell 2
  have t3 := hT3.cell 3
  have b0 := hF3.cell 0
  have b1 := hF3.cell 1
  have g0 := hF3.free 0
  have g1 := hF3.free 1
  simp only [List.getElem?_toArray, List.getElem?_cons_zero, List.getElem?_cons_succ] at t0 t1 t2 t3 b0 b1
  have HF3 := hide hF3
  clear hT3 hF3 hE3 HT HF HE2 c0 t4 t5 t6 t7 t8
  go_wp2_with fail
  exact fault_ret (f := (0, 0)) (g := gf) ((HF3.out.set_ 0 _).set_ 1 _) rfl rfl rfl ⟨rfl, ext_two' HE3.out l1 _ _⟩
set_option maxRecDepth 100000 in
theorem right_int (w : World) : Calls Try.prog 8 #[.agg #[.int .i64 2, .int .i64 0, .int .i64 1, .int .i64 0, .int .i64 0, .slice none 0 0, .slice none 0 0, .string ⟨#[]⟩, .int .i64 0]] w (fun e w' => e = .returned (fltV (20, 0)) ∧ Ext w w') := by
  obtain ⟨w1, hw1⟩ : ∃ w1, w1 = ((w.alloc (.cells #[.int .i64 2, .int .i64 0, .int .i64 1, .int .i64 0, .int .i64 0, .slice none 0 0, .slice none 0 0, .string ⟨#[]⟩, .int .i64 0] 27)).alloc (.cells #[.int .i64 0, .int .i64 0] 32)).alloc (.cells #[.int .i64 0] 44) := ⟨_, rfl⟩
  have hT : Blk w1 w.heap.size 27 #[.int .i64 2, .int .i64 0, .int .i64 1, .int .i64 0, .int .i64 0, .slice none 0 0, .slice none 0 0, .string ⟨#[]⟩, .int .i64 0] := by rw [hw1]; exact ((Blk.new _ _ _).alloc _).alloc _
  have hF : Blk w1 (w.heap.size + 1) 32 #[.int .i64 0, .int .i64 0] := by
    rw [hw1]; have := (Blk.new (w.alloc (.cells #[.int .i64 2, .int .i64 0, .int .i64 1, .int .i64 0, .int .i64 0, .slice none 0 0, .slice none 0 0, .string ⟨#[]⟩, .int .i64 0] 27)) 32 #[.int .i64 0, .int .i64 0]).alloc (.cells #[.int .i64 0] 44); simpa only [World.size_alloc] using this
  have hC : Blk w1 (w.heap.size + 1 + 1) 44 #[.int .i64 0] := by
    rw [hw1]; have := Blk.new ((w.alloc (.cells #[.int .i64 2, .int .i64 0, .int .i64 1, .int .i64 0, .int .i64 0, .slice none 0 0, .slice none 0 0, .string ⟨#[]⟩, .int .i64 0] 27)).alloc (.cells #[.int .i64 0, .int .i64 0] 32)) 44 #[.int .i64 0]; simpa only [World.size_alloc] using this
  have hE0 : Ext w (((w.alloc (.cells #[.int .i64 2, .int .i64 0, .int .i64 1, .int .i64 0, .int .i64 0, .slice none 0 0, .slice none 0 0, .string ⟨#[]⟩, .int .i64 0] 27)).alloc (.cells #[.int .i64 0, .int .i64 0] 32))) := ((Ext.rfl' w).alloc (Nat.le_refl _) _).alloc (by simp only [World.size_alloc]; omega) _
  obtain ⟨wv, hwv⟩ : ∃ wv, wv = ((w.alloc (.cells #[.int .i64 2, .int .i64 0, .int .i64 1, .int .i64 0, .int .i64 0, .slice none 0 0, .slice none 0 0, .string ⟨#[]⟩, .int .i64 0] 27)).alloc (.cells #[.int .i64 0, .int .i64 0] 32)) := ⟨_, rfl⟩
  have hEv : Ext wv w1 := by rw [hw1, ← hwv]; exact (Ext.rfl' wv).alloc (Nat.le_refl _) _
  have hFv : Blk wv (w.heap.size + 1) 32 #[.int .i64 0, .int .i64 0] := by
    rw [hwv]; have := Blk.new (w.alloc (.cells #[.int .i64 2, .int .i64 0, .int .i64 1, .int .i64 0, .int .i64 0, .slice none 0 0, .slice none 0 0, .string ⟨#[]⟩, .int .i64 0] 27)) 32 #[.int .i64 0, .int .i64 0]; simpa only [World.size_alloc] using this
  have hsz : wv.heap.size ≤ w.heap.size + 1 + 1 := by rw [hwv]; simp only [World.size_alloc]; omega
  rw [← hwv] at hE0
  have HCK := hide (check_int (w.heap.size + 1 + 1) wv w1 hEv hsz hC)
  have HF := hide hFv
  have HE0 := hide hE0
  have l1 : w.heap.size ≤ w.heap.size + 1 := Nat.le_succ _
  have t0 := hT.cell 0
  have t1 := hT.cell 1
  have t2 := hT.cell 2
  have t3 := hT.cell 3
  have t4 := hT.cell 4
  have t5 := hT.cell 5
  have t6 := hT.cell 6
  have t7 := hT.cell 7
  have t8 := hT.cell 8
  simp only [List.getElem?_toArray, List.getElem?_cons_zero, List.getElem?_cons_succ] at t0 t1 t2 t3 t4 t5 t6 t7 t8
  have HW1 := hide hw1
  clear hw1 hT hF hC hEv hFv hE0 hwv
  go_enter Try.func8, Try.ntmps8
  go_upto_region 2 with fail
  rw [← HW1.out]
  go_wp2_with fail
  refine HCK.out.mono ?_
  rintro e w2 ⟨rfl, hE2⟩
  have HF2 := hide (HF.out.ext hE2)
  have HE2 := hide (HE0.out.trans' hE2)
  have b0 := HF2.out.cell 0
  have b1 := HF2.out.cell 1
  have g0 := HF2.out.free 0
  have g1 := HF2.out.free 1
  simp only [List.getElem?_toArray, List.getElem?_cons_zero, List.getElem?_cons_succ] at b0 b1
  unfold fltV
  clear hE2 t0 t1 t2 t3 t4 t5 t6 t7 t8
  go_wp2_with fail
  exact fault_ret (f := (20, 0)) (g := w.heap.size + 1) ((HF2.out.set_ 0 _).set_ 1 _) rfl rfl rfl ⟨rfl, ext_two' HE2.out l1 _ _⟩
set_option maxRecDepth 100000 in
theorem right_bool (w : World) : Calls Try.prog 8 #[.agg #[.int .i64 1, .int .i64 7, .int .i64 0, .int .i64 0, .int .i64 0, .slice none 0 0, .slice none 0 0, .string ⟨#[]⟩, .int .i64 0]] w (fun e w' => e = .returned (fltV (0, 0)) ∧ Ext w w') := by
  obtain ⟨w1, hw1⟩ : ∃ w1, w1 = ((w.alloc (.cells #[.int .i64 1, .int .i64 7, .int .i64 0, .int .i64 0, .int .i64 0, .slice none 0 0, .slice none 0 0, .string ⟨#[]⟩, .int .i64 0] 27)).alloc (.cells #[.int .i64 0, .int .i64 0] 32)).alloc (.cells #[.int .i64 0] 44) := ⟨_, rfl⟩
  have hT : Blk w1 w.heap.size 27 #[.int .i64 1, .int .i64 7, .int .i64 0, .int .i64 0, .int .i64 0, .slice none 0 0, .slice none 0 0, .string ⟨#[]⟩, .int .i64 0] := by rw [hw1]; exact ((Blk.new _ _ _).alloc _).alloc _
  have hF : Blk w1 (w.heap.size + 1) 32 #[.int .i64 0, .int .i64 0] := by
    rw [hw1]; have := (Blk.new (w.alloc (.cells #[.int .i64 1, .int .i64 7, .int .i64 0, .int .i64 0, .int .i64 0, .slice none 0 0, .slice none 0 0, .string ⟨#[]⟩, .int .i64 0] 27)) 32 #[.int .i64 0, .int .i64 0]).alloc (.cells #[.int .i64 0] 44); simpa only [World.size_alloc] using this
  have hC : Blk w1 (w.heap.size + 1 + 1) 44 #[.int .i64 0] := by
    rw [hw1]; have := Blk.new ((w.alloc (.cells #[.int .i64 1, .int .i64 7, .int .i64 0, .int .i64 0, .int .i64 0, .slice none 0 0, .slice none 0 0, .string ⟨#[]⟩, .int .i64 0] 27)).alloc (.cells #[.int .i64 0, .int .i64 0] 32)) 44 #[.int .i64 0]; simpa only [World.size_alloc] using this
  have hE0 : Ext w (((w.alloc (.cells #[.int .i64 1, .int .i64 7, .int .i64 0, .int .i64 0, .int .i64 0, .slice none 0 0, .slice none 0 0, .string ⟨#[]⟩, .int .i64 0] 27)).alloc (.cells #[.int .i64 0, .int .i64 0] 32))) := ((Ext.rfl' w).alloc (Nat.le_refl _) _).alloc (by simp only [World.size_alloc]; omega) _
  obtain ⟨wv, hwv⟩ : ∃ wv, wv = ((w.alloc (.cells #[.int .i64 1, .int .i64 7, .int .i64 0, .int .i64 0, .int .i64 0, .slice none 0 0, .slice none 0 0, .string ⟨#[]⟩, .int .i64 0] 27)).alloc (.cells #[.int .i64 0, .int .i64 0] 32)) := ⟨_, rfl⟩
  have hEv : Ext wv w1 := by rw [hw1, ← hwv]; exact (Ext.rfl' wv).alloc (Nat.le_refl _) _
  have hFv : Blk wv (w.heap.size + 1) 32 #[.int .i64 0, .int .i64 0] := by
    rw [hwv]; have := Blk.new (w.alloc (.cells #[.int .i64 1, .int .i64 7, .int .i64 0, .int .i64 0, .int .i64 0, .slice none 0 0, .slice none 0 0, .string ⟨#[]⟩, .int .i64 0] 27)) 32 #[.int .i64 0, .int .i64 0]; simpa only [World.size_alloc] using this
  have hsz : wv.heap.size ≤ w.heap.size + 1 + 1 := by rw [hwv]; simp only [World.size_alloc]; omega
  rw [← hwv] at hE0
  have HCK := hide (check_bool (w.heap.size + 1 + 1) wv w1 hEv hsz hC)
  have HF := hide hFv
  have HE0 := hide hE0
  have l1 : w.heap.size ≤ w.heap.size + 1 := Nat.le_succ _
  have t0 := hT.cell 0
  have t1 := hT.cell 1
  have t2 := hT.cell 2
  have t3 := hT.cell 3
  have t4 := hT.cell 4
  have t5 := hT.cell 5
  have t6 := hT.cell 6
  have t7 := hT.cell 7
  have t8 := hT.cell 8
  simp only [List.getElem?_toArray, List.getElem?_cons_zero, List.getElem?_cons_succ] at t0 t1 t2 t3 t4 t5 t6 t7 t8
  have HW1 := hide hw1
  clear hw1 hT hF hC hEv hFv hE0 hwv
  go_enter Try.func8, Try.ntmps8
  go_upto_region 2 with fail
  rw [← HW1.out]
  go_wp2_with fail
  refine HCK.out.mono ?_
  rintro e w2 ⟨rfl, hE2⟩
  have HF2 := hide (HF.out.ext hE2)
  have HE2 := hide (HE0.out.trans' hE2)
  have b0 := HF2.out.cell 0
  have b1 := HF2.out.cell 1
  have g0 := HF2.out.free 0
  have g1 := HF2.out.free 1
  simp only [List.getElem?_toArray, List.getElem?_cons_zero, List.getElem?_cons_succ] at b0 b1
  unfold fltV
  clear hE2 t0 t1 t2 t3 t4 t5 t6 t7 t8
  go_wp2_with fail
  exact fault_ret (f := (0, 0)) (g := w.heap.size + 1) ((HF2.out.set_ 0 _).set_ 1 _) rfl rfl rfl ⟨rfl, ext_two' HE2.out l1 _ _⟩
theorem run_eqIn_fl (a b c d : Int) (w : World) : (Op.equalIn 10000 32 (.agg #[.int .i64 a, .int .i64 b]) (.agg #[.int .i64 c, .int .i64 d])).run Try.prog w = .ok (a == c && b == d) w := by
  rw [run_equalIn_struct w 9999 32 _ _ (by kernel_rfl) (by kernel_rfl)]
  obtain ⟨f1, f2, hf, h1, h2, h3, h4, h5, h6⟩ : ∃ f1 f2 : Field, (Try.prog.fieldsOf 32).toList = [f1, f2] ∧ f1.name ≠ "_" ∧ f2.name ≠ "_" ∧ f1.type = 30 ∧ f2.type = 3 ∧ f1.offset = 0 ∧ f2.offset = 1 := by
    have hm : (Try.prog.fieldsOf 32).toList.map (fun f => (f.name, f.type, f.offset)) = [("E", 30, 0), ("At", 3, 1)] := by kernel_rfl
    obtain ⟨f1, f2, hl⟩ := two_of (show (Try.prog.fieldsOf 32).toList.length = 2 by have := congrArg List.length hm; simpa only [List.length_map, List.length_cons, List.length_nil] using this)
    rw [hl] at hm
    simp only [List.map_cons, List.map_nil, List.cons.injEq, Prod.mk.injEq, and_true] at hm
    obtain ⟨⟨a1, a2, a3⟩, b1, b2, b3⟩ := hm
    exact ⟨f1, f2, hl, by rw [a1]; decide, by rw [b1]; decide, a2, b2, a3, b3⟩
  have hp0 : ∀ x y : Int, (part 30 #[.int .i64 x, .int .i64 y] 0).run Try.prog w = .ok (.int .i64 x) w := fun x y => by kernel_rfl
  have hp1 : ∀ x y : Int, (part 3 #[.int .i64 x, .int .i64 y] 1).run Try.prog w = .ok (.int .i64 y) w := fun x y => by kernel_rfl
  have he : ∀ x y : Int, (Op.equalIn 9999 30 (.int .i64 x) (.int .i64 y)).run Try.prog w = .ok (x == y) w := fun x y => run_equalIn_int w 9998 _ _ .i64 x y (by kernel_rfl)
  have he2 : ∀ x y : Int, (Op.equalIn 9999 3 (.int .i64 x) (.int .i64 y)).run Try.prog w = .ok (x == y) w := fun x y => run_equalIn_int w 9998 _ _ .i64 x y (by kernel_rfl)
  rw [hf]
  unfold Op.eqFields
  rw [if_pos h1, h3, h5]
  simp only [Sem.run_bind, hp0, Result.andThen_ok, he]
  cases hx : (a == c)
  · simp
  · simp only [Bool.not_true, Bool.false_eq_true, if_false]
    unfold Op.eqFields
    rw [if_pos h2, h4, h6]
    simp only [Sem.run_bind, hp1, Result.andThen_ok, he2]
    cases hy : (b == d)
    · simp
    · simp [Op.eqFields]
end Go.Proofs.Ytanpljalbijfkaa
