/- The law's example of labels, walked: lives. -/
import Derived.Test.YtpjlhpaenmfieaaGreatLatWD
import Derived.Test.YtpjlhpaenmfieaaGreatLabD
namespace Go.Proofs.YtpjlhpaenmfieaaGreat
open Go.RowKit

theorem dHigh1 : LatM.highTo (leqL dWs dOs) (lvl dWs.length [0, 1, 0]) dWs.length = [1] := by decide +kernel
theorem dHigh2 : LatM.highTo (leqL dWs dOs) (lvl dWs.length [1, 2]) dWs.length = [1, 2] := by decide +kernel
theorem dText : textS dWs (LatM.highTo (leqL dWs dOs) (lvl dWs.length [2, 1]) dWs.length) = ⟨#[97, 43, 98]⟩ := by decide +kernel
theorem ints_new (w : World) (t : TypeId) (x : List Int) (cs : Array Value) (h : cs.toList = intCells x) : IntAt (w.alloc (.cells cs t)) (w.alloc (.cells cs t)).heap.size (some ⟨w.heap.size, 0, none⟩) x :=
  blk_reads (Blk.new w t cs) h (by rw [intCells_length, Nat.mul_one])

set_option maxRecDepth 100000 in
set_option maxHeartbeats 4000000 in
theorem labLives_any (w : World) : Calls Tryz.prog 9 #[] w (BoolPost true w) := by
  have HB := hide dBuild_any
  have HH := hide (fun (w : World) g (h : LatAt w g dWs dOs) (A : Option Addr) (c m : Nat) (x : List Int) (hx : IntAt w w.heap.size A x) (hm : m = x.length) (hm' : m ≤ 9223372036854775807) => labHigh_any g dWs dOs A c m x w h dGood hx hm hm')
  have HT := hide (fun (w : World) g (h : LatAt w g dWs dOs) (A : Option Addr) (c m : Nat) (x : List Int) (hx : IntAt w w.heap.size A x) (hm : m = x.length) (hm' : m ≤ 9223372036854775807) => labText_any g dWs dOs A c m x w h dGood hx hm hm')
  go_enter Tryz.func9, Tryz.ntmps9
  go_upto_region 2 with fail
  obtain ⟨w0, hw0⟩ : ∃ w0, w0 = (((w.alloc (Obj.cells #[.string ⟨#[108, 111, 119]⟩, .int .i64 0] 44)).alloc (Obj.cells #[.string ⟨#[97]⟩, .int .i64 0] 44)).alloc (Obj.cells #[.string ⟨#[98]⟩, .int .i64 0] 44)).alloc (Obj.cells #[.string ⟨#[104, 105, 103, 104]⟩, .int .i64 0] 44) := ⟨_, rfl⟩
  rw [← hw0]
  have B1 : Blk w0 w.heap.size 44 #[.string ⟨#[108, 111, 119]⟩, .int .i64 0] := by
    rw [hw0]; exact (((Blk.new _ _ _).alloc _).alloc _).alloc _
  have B2 : Blk w0 (w.heap.size + 1) 44 #[.string ⟨#[97]⟩, .int .i64 0] := by
    rw [hw0]; have := (((Blk.new (w.alloc (Obj.cells #[.string ⟨#[108, 111, 119]⟩, .int .i64 0] 44)) 44 #[.string ⟨#[97]⟩, .int .i64 0]).alloc (Obj.cells #[.string ⟨#[98]⟩, .int .i64 0] 44)).alloc (Obj.cells #[.string ⟨#[104, 105, 103, 104]⟩, .int .i64 0] 44)); simpa only [World.size_alloc] using this
  have B3 : Blk w0 (w.heap.size + 1 + 1) 44 #[.string ⟨#[98]⟩, .int .i64 0] := by
    rw [hw0]; have := ((Blk.new ((w.alloc (Obj.cells #[.string ⟨#[108, 111, 119]⟩, .int .i64 0] 44)).alloc (Obj.cells #[.string ⟨#[97]⟩, .int .i64 0] 44)) 44 #[.string ⟨#[98]⟩, .int .i64 0]).alloc (Obj.cells #[.string ⟨#[104, 105, 103, 104]⟩, .int .i64 0] 44)); simpa only [World.size_alloc] using this
  have B4 : Blk w0 (w.heap.size + 1 + 1 + 1) 44 #[.string ⟨#[104, 105, 103, 104]⟩, .int .i64 0] := by
    rw [hw0]; have := (Blk.new (((w.alloc (Obj.cells #[.string ⟨#[108, 111, 119]⟩, .int .i64 0] 44)).alloc (Obj.cells #[.string ⟨#[97]⟩, .int .i64 0] 44)).alloc (Obj.cells #[.string ⟨#[98]⟩, .int .i64 0] 44)) 44 #[.string ⟨#[104, 105, 103, 104]⟩, .int .i64 0]); simpa only [World.size_alloc] using this
  have hE : Ext w w0 := by
    rw [hw0]; exact ((((Ext.rfl' w).alloc (Nat.le_refl _) _).alloc (by simp only [World.size_alloc]; omega) _).alloc (by simp only [World.size_alloc]; omega) _).alloc (by simp only [World.size_alloc]; omega) _
  have c10 := B1.cell 0
  have c11 := B1.cell 1
  have c20 := B2.cell 0
  have c21 := B2.cell 1
  have c30 := B3.cell 0
  have c31 := B3.cell 1
  have c40 := B4.cell 0
  have c41 := B4.cell 1
  have l1 := B1.lt
  have l2 := B2.lt
  have l3 := B3.lt
  have l4 := B4.lt
  simp only [List.getElem?_toArray, List.getElem?_cons_zero, List.getElem?_cons_succ] at c10 c11 c20 c21 c30 c31 c40 c41
  generalize w.heap.size + 1 + 1 + 1 = g4 at c40 c41 l4 ⊢
  generalize w.heap.size + 1 + 1 = g3 at c30 c31 l3 ⊢
  generalize w.heap.size + 1 = g2 at c20 c21 l2 ⊢
  generalize w.heap.size = g1 at c10 c11 l1 ⊢
  have HE := hide hE
  clear B1 B2 B3 B4 hw0 hE
  go_wp2_with fail
  obtain ⟨h1, h2, hE1⟩ := dia_two (w0 := w0) (t := 44) (t' := 68) (cs := #[.string ⟨#[108, 111, 119]⟩, .int .i64 0, .string ⟨#[97]⟩, .int .i64 0, .string ⟨#[98]⟩, .int .i64 0, .string ⟨#[104, 105, 103, 104]⟩, .int .i64 0]) (cs' := #[.string ⟨#[108, 111, 119]⟩, .int .i64 0, .string ⟨#[97]⟩, .int .i64 0, .string ⟨#[108, 111, 119]⟩, .int .i64 0, .string ⟨#[98]⟩, .int .i64 0, .string ⟨#[97]⟩, .int .i64 0, .string ⟨#[104, 105, 103, 104]⟩, .int .i64 0, .string ⟨#[98]⟩, .int .i64 0, .string ⟨#[104, 105, 103, 104]⟩, .int .i64 0]) rfl rfl
  refine (HB.out _ _ _ h1 h2).mono ?_
  rintro e w2 ⟨g, rfl, hG, hE2⟩
  obtain ⟨w3, hw3⟩ : ∃ w3, w3 = w2.alloc (.cells #[.int .i64 0, .int .i64 0] 31) := ⟨_, rfl⟩
  have hE3 : Ext w2 w3 := by rw [hw3]; exact (Ext.rfl' w2).alloc (Nat.le_refl _) _
  have HG := hide (hG.ext hE3)
  have HE3 := hide (((HE.out.trans' hE1).trans' hE2).trans' hE3)
  have HW3 := hide hw3
  clear hG hE1 hE2 hE3 hw3 h1 h2 c10 c11 c20 c21 c30 c31 c40 c41 l1 l2 l3 l4 HE
  unfold fltV
  go_upto_region 3 with fail
  rw [← HW3.out]
  go_wp2_with fail
  refine (HH.out _ g (HG.out.ext ((Ext.rfl' w3).alloc (Nat.le_refl _) _)) _ _ 3 [0, 1, 0] (ints_new w3 _ _ _ rfl) rfl (by decide)).mono ?_
  rintro e w4 ⟨A4, k4, rfl, hN4, hE4⟩
  rw [dHigh1] at hN4 ⊢
  have HE4 := hide (Ext.trans' ((Ext.rfl' w3).alloc (Nat.le_refl _) _) hE4)
  have HN4 := hide hN4.ints
  clear hN4 hE4
  go_wp2_with fail
  refine (same_any A4 k4 1 [1] _ 1 1 [1] _ (HN4.out.ext ((Ext.rfl' w4).alloc (Nat.le_refl _) _)) rfl (by decide) (ints_new w4 _ _ _ rfl) rfl (by decide)).mono ?_
  rintro e w5 ⟨rfl, hE5⟩
  have HE5 := hide (HE4.out.trans' (Ext.trans' ((Ext.rfl' w4).alloc (Nat.le_refl _) _) hE5))
  clear hE5 HE4 HN4
  rw [show decide (([1] : List Int) = [1]) = true from rfl]
  go_wp2_with fail
  refine (HH.out _ g (HG.out.ext (HE5.out.trans' ((Ext.rfl' w5).alloc (Nat.le_refl _) _))) _ _ 2 [1, 2] (ints_new w5 _ _ _ rfl) rfl (by decide)).mono ?_
  rintro e w6 ⟨A6, k6, rfl, hN6, hE6⟩
  rw [dHigh2] at hN6 ⊢
  have HE6 := hide (HE5.out.trans' (Ext.trans' ((Ext.rfl' w5).alloc (Nat.le_refl _) _) hE6))
  have HN6 := hide hN6.ints
  clear hN6 hE6
  go_wp2_with fail
  refine (same_any A6 k6 2 [1, 2] _ 2 2 [1, 2] _ (HN6.out.ext ((Ext.rfl' w6).alloc (Nat.le_refl _) _)) rfl (by decide) (ints_new w6 _ _ _ rfl) rfl (by decide)).mono ?_
  rintro e w7 ⟨rfl, hE7⟩
  have HE7 := hide (HE6.out.trans' (Ext.trans' ((Ext.rfl' w6).alloc (Nat.le_refl _) _) hE7))
  clear hE7 HE6 HN6
  rw [show decide (([1, 2] : List Int) = [1, 2]) = true from rfl]
  go_wp2_with fail
  refine (HT.out _ g (HG.out.ext (HE7.out.trans' ((Ext.rfl' w7).alloc (Nat.le_refl _) _))) _ _ 2 [2, 1] (ints_new w7 _ _ _ rfl) rfl (by decide)).mono ?_
  rintro e w8 ⟨rfl, hE8⟩
  rw [dText]
  have HE8 := hide (HE7.out.trans' (Ext.trans' ((Ext.rfl' w7).alloc (Nat.le_refl _) _) hE8))
  clear hE8
  go_wp2_with fail
  go_ret
  exact ⟨rfl, HE3.out.trans' HE8.out⟩
end Go.Proofs.YtpjlhpaenmfieaaGreat
