/- kinds, the document's: with, Zero, walked; an empty type and an empty part in memory. -/
import Derived.Test.YtanpljalbijfkaaKinU
import Derived.Test.YtanpljalbijfkaaKinJ
namespace Go.Proofs.Ytanpljalbijfkaa
open Go.RowKit

def wrV (r : Wr) : Value := .agg #[.int .i64 r.1.1, .int .i64 r.1.2, .int .i64 r.2]
theorem wr_ret {g : Nat} {w2 : World} {fn : Func} {p : Tmp} {a : Act} {R : Ending → World → Prop} {r : Wr} (hB : Blk w2 g 35 #[.int .i64 r.1.1, .int .i64 r.1.2, .int .i64 r.2]) (hfn : fn.results = #[.cell p 35]) (hp : a.tmps.getD p undef = .pointer (some ⟨g, 0, none⟩)) (hd : a.defers = [])
    (hR : R (.returned (wrV r)) w2) : bodyPost Try.prog fn R .ret a w2 :=
  bodyPost_ret (results_cell_row hfn _ _ g 35 _ (0, 0) _ hp hB Try.underlying35 rfl (by kernel_rfl)) hd hR
set_option maxRecDepth 100000 in
theorem with_any (f1 f2 m e a : Int) (w : World) : Calls Try.prog 18 #[.agg #[.int .i64 f1, .int .i64 f2, .int .i64 m], .int .i64 e, .int .i64 a] w (fun e' w' => e' = .returned (wrV ((e, a), m)) ∧ Ext w w') := by
  obtain ⟨w0, hw0⟩ : ∃ x, x = (w.alloc (.cells #[.int .i64 f1, .int .i64 f2, .int .i64 m] 35)).alloc (.cells #[.int .i64 0, .int .i64 0, .int .i64 0] 35) := ⟨_, rfl⟩
  have hT : Blk w0 w.heap.size 35 #[.int .i64 f1, .int .i64 f2, .int .i64 m] := by rw [hw0]; exact (Blk.new _ _ _).alloc _
  have hF : Blk w0 (w.heap.size + 1) 35 #[.int .i64 0, .int .i64 0, .int .i64 0] := by
    rw [hw0]; have := Blk.new (w.alloc (.cells #[.int .i64 f1, .int .i64 f2, .int .i64 m] 35)) 35 #[.int .i64 0, .int .i64 0, .int .i64 0]; simpa only [World.size_alloc] using this
  have hE : Ext w w0 := by rw [hw0]; exact ((Ext.rfl' w).alloc (Nat.le_refl _) _).alloc (by simp only [World.size_alloc]; omega) _
  have hlo : w.heap.size ≤ w.heap.size + 1 := Nat.le_succ _
  obtain ⟨gf, hgf⟩ : ∃ g, g = w.heap.size + 1 := ⟨_, rfl⟩
  obtain ⟨gt, hgt⟩ : ∃ g, g = w.heap.size := ⟨_, rfl⟩
  rw [← hgf] at hF hlo
  rw [← hgt] at hT
  have t2 := hT.cell 2
  have b0 := hF.cell 0
  have b1 := hF.cell 1
  have b2 := hF.cell 2
  have f0 := hF.free 0
  have f1 := hF.free 1
  have f2 := hF.free 2
  simp only [List.getElem?_toArray, List.getElem?_cons_zero, List.getElem?_cons_succ] at t2 b0 b1 b2
  have HW := hide hw0
  have HGF := hide hgf
  have HGT := hide hgt
  have HF := hide hF
  have HE := hide hE
  have HLO := hide hlo
  clear hw0 hT hF hE hgf hgt hlo
  go_enter Try.func18, Try.ntmps18
  go_upto_region 1 with fail
  rw [← HW.out, ← HGF.out, ← HGT.out]
  go_wp2_with fail
  exact wr_ret (r := ((e, a), m)) (g := gf) (((HF.out.set_ 0 _).set_ 1 _).set_ 2 _) rfl rfl rfl ⟨rfl, ((HE.out.setCell HLO.out _).setCell HLO.out _).setCell HLO.out _⟩

abbrev zCells : List Value := [.int .i64 0, .int .i64 0, .int .i64 0, .int .i64 0, .int .i64 0, .slice none 0 0, .slice none 0 0, .string ⟨#[]⟩, .int .i64 0]
theorem zTy_at (w : World) (B : Nat) : TyAt w B zTy zCells := ⟨none, 0, none, 0, rfl, Reads.none_, fun h => absurd h (by omega)⟩
theorem zTy_sz : TySz zTy := by
  refine ⟨⟨Nat.zero_le _, fun k => ?_⟩, Nat.zero_le _, Nat.zero_le _, fun i hi => absurd hi (Nat.not_lt_zero i)⟩
  show (wNm [] k).size ≤ maxLen
  rw [show wNm [] k = ⟨#[]⟩ from rfl]; exact Nat.zero_le _
theorem zPt_at (w : World) (B : Nat) (nm : Wd) (b : Bool) : PartAt w B (zPt nm b) zTy (ptV (zPt nm b) none 0 none 0 ++ zCells) := ⟨none, 0, none, 0, zCells, rfl, Reads.none_, Reads.none_, zTy_at w B⟩
theorem nil_sz : WdsSz [] := ⟨Nat.zero_le _, fun k => by rw [show wNm [] k = ⟨#[]⟩ from rfl]; exact Nat.zero_le _⟩

set_option maxRecDepth 100000 in
theorem zero_any (t : Ty) (w : World) (vs : List Value) (h : TyAt w w.heap.size t vs) (hs : TySz t) : Calls Try.prog 38 #[.agg vs.toArray] w (fun e w' => e = .returned (.bool (sameT t zTy)) ∧ Ext w w') := by
  obtain ⟨w1, hw1⟩ : ∃ w1, w1 = w.alloc (.cells vs.toArray 27) := ⟨_, rfl⟩
  have hE : Ext w w1 := by rw [hw1]; exact (Ext.rfl' w).alloc (Nat.le_refl _) _
  have hsame := refSame_any t zTy w1 vs zCells (h.ext hE) (zTy_at _ _) hs zTy_sz
  obtain ⟨x0, x1, x2, x3, x4, x5, x6, x7, x8, rfl⟩ := h.nine
  obtain ⟨R, hR⟩ : ∃ x, x = sameT t zTy := ⟨_, rfl⟩
  rw [← hR] at hsame ⊢
  have HS := hide (show Calls Try.prog 14 #[.agg #[x0, x1, x2, x3, x4, x5, x6, x7, x8], .agg #[.int .i64 0, .int .i64 0, .int .i64 0, .int .i64 0, .int .i64 0, .slice none 0 0, .slice none 0 0, .string ⟨#[]⟩, .int .i64 0]] w1 (fun e w' => e = .returned (.bool R) ∧ Ext w1 w') from hsame)
  obtain ⟨g, hg⟩ : ∃ g, g = w.heap.size := ⟨_, rfl⟩
  have hB : Blk w1 g 27 #[x0, x1, x2, x3, x4, x5, x6, x7, x8] := by rw [hw1, hg]; exact Blk.new _ _ _
  have b0 := hB.cell 0
  have b1 := hB.cell 1
  have b2 := hB.cell 2
  have b3 := hB.cell 3
  have b4 := hB.cell 4
  have b5 := hB.cell 5
  have b6 := hB.cell 6
  have b7 := hB.cell 7
  have b8 := hB.cell 8
  simp only [List.getElem?_toArray, List.getElem?_cons_zero, List.getElem?_cons_succ] at b0 b1 b2 b3 b4 b5 b6 b7 b8
  have HE := hide hE
  have HW1 := hide (show w1 = w.alloc (.cells #[x0, x1, x2, x3, x4, x5, x6, x7, x8] 27) from hw1)
  have HG := hide hg
  show Calls Try.prog 38 #[.agg #[x0, x1, x2, x3, x4, x5, x6, x7, x8]] w _
  clear hsame hw1 hg hB hE h hs hR
  go_enter Try.func38, Try.ntmps38
  go_upto_region 1 with fail
  rw [← HW1.out, ← HG.out]
  go_wp2_with fail
  refine HS.out.mono ?_
  rintro e w2 ⟨rfl, hE2⟩
  have HE2 := hide (HE.out.trans' hE2)
  clear hE2
  go_wp2_with fail
  go_ret
  exact ⟨rfl, HE2.out⟩
end Go.Proofs.Ytanpljalbijfkaa
