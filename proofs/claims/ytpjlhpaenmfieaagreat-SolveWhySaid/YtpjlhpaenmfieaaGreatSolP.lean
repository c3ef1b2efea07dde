/- The law's example of solve, walked: lives. -/
import Derived.Test.YtpjlhpaenmfieaaGreatSolL
import Derived.Test.YtpjlhpaenmfieaaGreatLatWD
import Derived.Test.YtpjlhpaenmfieaaGreatLabE
import Derived.Test.YtpjlhpaenmfieaaGreatLatEq
namespace Go.Proofs.YtpjlhpaenmfieaaGreat
open Go.RowKit

def eLo : Wd := (⟨#[108, 111]⟩, 0)
def eHi : Wd := (⟨#[104, 105]⟩, 0)
def eWs : List Wd := [eLo, eHi]
def eOs : List (Wd × Wd) := [(eLo, eHi)]
def eRs : List Ru := [(1, 1, 0), (2, 0, 1), (3, 1, 0)]
theorem eWrong : wrongL eWs eOs = (0, 0) := by decide +kernel
theorem eGood : GoodL eWs eOs := good_of (by rw [eWrong])
theorem eSize (i : Nat) : (wNm eWs i).size ≤ maxLen := by
  by_cases h : i < 2
  · have : i = 0 ∨ i = 1 := by omega
    rcases this with rfl | rfl <;> decide +kernel
  · have : wNm eWs i = ⟨#[]⟩ := by
      unfold wNm
      rw [List.getD_eq_getElem?_getD, List.getElem?_eq_none (show eWs.length ≤ i by show 2 ≤ i; omega)]
      rfl
    rw [this]; decide
theorem eBad : solBad 2 2 eRs = (0, 0) := by decide +kernel
theorem eTrace : traceL (leqI eWs eOs) eRs 2 = [0, 1, 2] := by decide +kernel
theorem eAns {y : List Nat} {f : Int × Int} (h : SolAns eWs eOs 2 eRs y f) : f = (18, 2) := by
  rcases h with ⟨h, _⟩ | ⟨_, x, hL, h⟩
  · exact absurd (show (solBad 2 2 eRs).1 = 0 by rw [eBad]) h
  · have hl := hL.len
    match x, hl with
    | [a, b], _ =>
      have ha : a < 2 := hL.lt a (by simp)
      have hb : b < 2 := hL.lt b (by simp)
      have h1 := hL.ok (1, 1, 0) (by simp [eRs])
      have h2 := hL.ok (2, 0, 1) (by simp [eRs])
      have ha' : a = 0 ∨ a = 1 := by omega
      have hb' : b = 0 ∨ b = 1 := by omega
      obtain ⟨rfl, rfl⟩ : a = 1 ∧ b = 1 := by
        rcases ha' with rfl | rfl <;> rcases hb' with rfl | rfl
        · exact absurd h1 (by decide +kernel)
        · exact absurd h1 (by decide +kernel)
        · exact absurd h2 (by decide +kernel)
        · exact ⟨rfl, rfl⟩
      have e : firstOf (hBad eWs eOs [1, 1] eRs) eRs.length = some (18, 2) := by decide +kernel
      rw [e] at h
      rcases h with ⟨h, _⟩ | ⟨h, _⟩
      · injection h with h; exact h.symm
      · cases h
/-- The example, built. -/
def EmBuilt (w : World) (e : Ending) (w' : World) : Prop := ∃ g, e = .returned (.tuple #[.pointer (some ⟨g, 0, none⟩), fltV (0, 0)]) ∧ LatAt w' g eWs eOs ∧ Ext w w'
set_option maxRecDepth 100000 in
theorem eBuild_any (w : World) (gl go : Nat) (h1 : WdsAt w w.heap.size (some ⟨gl, 0, none⟩) eWs) (h2 : OdsAt w w.heap.size (some ⟨go, 0, none⟩) eOs) :
    Calls Tryz.prog 10 #[.slice (some ⟨gl, 0, none⟩) 2 2, .slice (some ⟨go, 0, none⟩) 1 1] w (EmBuilt w) := by
  refine (build_any (some ⟨gl, 0, none⟩) 2 2 eWs (some ⟨go, 0, none⟩) 1 1 eOs w h1 eSize rfl h2 rfl).mono ?_
  rintro e w' (⟨h, _⟩ | ⟨_, g, rfl, hL, hE⟩)
  · rw [eWrong] at h
    exact absurd rfl h
  · exact ⟨g, rfl, hL, hE⟩
theorem em_two {w0 : World} {t t' : TypeId} {cs cs' : Array Value} (h1 : cs.toList = wdCells eWs) (h2 : cs'.toList = odCells eOs) :
    WdsAt ((w0.alloc (.cells cs t)).alloc (.cells cs' t')) ((w0.alloc (.cells cs t)).alloc (.cells cs' t')).heap.size (some ⟨w0.heap.size, 0, none⟩) eWs ∧ OdsAt ((w0.alloc (.cells cs t)).alloc (.cells cs' t')) ((w0.alloc (.cells cs t)).alloc (.cells cs' t')).heap.size (some ⟨w0.heap.size + 1, 0, none⟩) eOs ∧ Ext w0 ((w0.alloc (.cells cs t)).alloc (.cells cs' t')) := by
  have b2 := Blk.new (w0.alloc (.cells cs t)) t' cs'
  rw [World.size_alloc] at b2
  exact ⟨blk_reads ((Blk.new w0 t cs).alloc _) h1 rfl, blk_reads b2 h2 rfl, ((Ext.rfl' w0).alloc (Nat.le_refl _) _).alloc (by rw [World.size_alloc]; omega) _⟩

set_option maxRecDepth 100000 in
set_option maxHeartbeats 4000000 in
theorem solLives_any (w : World) : Calls Tryz.prog 25 #[] w (BoolPost true w) := by
  have HB := hide eBuild_any
  have HS := hide (fun (w : World) g (h : LatAt w g eWs eOs) (A : Option Addr) (hr : RlsAt w w.heap.size A eRs) => solve_any g eWs eOs 2 A 3 3 eRs w h eGood hr rfl (by decide))
  have HY := hide (fun (w : World) g (h : LatAt w g eWs eOs) (A : Option Addr) (hr : RlsAt w w.heap.size A eRs) => why_any g eWs eOs 2 A 3 3 eRs w h eGood hr rfl (by decide))
  go_enter Tryz.func25, Tryz.ntmps25
  go_upto_region 2 with fail
  obtain ⟨w0, hw0⟩ : ∃ w0, w0 = (w.alloc (Obj.cells #[.string ⟨#[108, 111]⟩, .int .i64 0] 44)).alloc (Obj.cells #[.string ⟨#[104, 105]⟩, .int .i64 0] 44) := ⟨_, rfl⟩
  rw [← hw0]
  have B1 : Blk w0 w.heap.size 44 #[.string ⟨#[108, 111]⟩, .int .i64 0] := by
    rw [hw0]; exact (Blk.new _ _ _).alloc _
  have B2 : Blk w0 (w.heap.size + 1) 44 #[.string ⟨#[104, 105]⟩, .int .i64 0] := by
    rw [hw0]; have := (Blk.new (w.alloc (Obj.cells #[.string ⟨#[108, 111]⟩, .int .i64 0] 44)) 44 #[.string ⟨#[104, 105]⟩, .int .i64 0]); simpa only [World.size_alloc] using this
  have hE : Ext w w0 := by
    rw [hw0]; exact ((Ext.rfl' w).alloc (Nat.le_refl _) _).alloc (by simp only [World.size_alloc]; omega) _
  have c10 := B1.cell 0
  have c11 := B1.cell 1
  have c20 := B2.cell 0
  have c21 := B2.cell 1
  have l1 := B1.lt
  have l2 := B2.lt
  simp only [List.getElem?_toArray, List.getElem?_cons_zero, List.getElem?_cons_succ] at c10 c11 c20 c21
  generalize w.heap.size + 1 = g2 at c20 c21 l2 ⊢
  generalize w.heap.size = g1 at c10 c11 l1 ⊢
  have HE := hide hE
  clear B1 B2 hw0 hE
  go_wp2_with fail
  obtain ⟨h1, h2, hE1⟩ := em_two (w0 := w0) (t := 44) (t' := 68) (cs := #[.string ⟨#[108, 111]⟩, .int .i64 0, .string ⟨#[104, 105]⟩, .int .i64 0]) (cs' := #[.string ⟨#[108, 111]⟩, .int .i64 0, .string ⟨#[104, 105]⟩, .int .i64 0]) rfl rfl
  refine (HB.out _ _ _ h1 h2).mono ?_
  rintro e w2 ⟨g, rfl, hG, hE2⟩
  obtain ⟨w3, hw3⟩ : ∃ w3, w3 = w2.alloc (.cells #[.int .i64 0, .int .i64 0] 31) := ⟨_, rfl⟩
  have hE3 : Ext w2 w3 := by rw [hw3]; exact (Ext.rfl' w2).alloc (Nat.le_refl _) _
  have HG := hide (hG.ext hE3)
  have HE3 := hide (((HE.out.trans' hE1).trans' hE2).trans' hE3)
  have HW3 := hide hw3
  clear hG hE1 hE2 hE3 hw3 h1 h2 c10 c11 c20 c21 l1 l2 HE
  unfold fltV
  go_upto_region 3 with fail
  rw [← HW3.out]
  obtain ⟨w4, hw4⟩ : ∃ w4, w4 = w3.alloc (.cells #[.int .i64 1, .int .i64 1, .int .i64 0, .int .i64 2, .int .i64 0, .int .i64 1, .int .i64 3, .int .i64 1, .int .i64 0] 106) := ⟨_, rfl⟩
  obtain ⟨g4, hg4⟩ : ∃ g4, g4 = w3.heap.size := ⟨_, rfl⟩
  have hB4 : Blk w4 g4 106 #[.int .i64 1, .int .i64 1, .int .i64 0, .int .i64 2, .int .i64 0, .int .i64 1, .int .i64 3, .int .i64 1, .int .i64 0] := by rw [hw4, hg4]; exact Blk.new _ _ _
  have HRL := hide (show RlsAt w4 w4.heap.size (some ⟨g4, 0, none⟩) eRs from blk_reads hB4 rfl rfl)
  have hE4 : Ext w3 w4 := by rw [hw4]; exact (Ext.rfl' w3).alloc (Nat.le_refl _) _
  have HG4 := hide (HG.out.ext hE4)
  have HE4 := hide (HE3.out.trans' hE4)
  have HW4 := hide hw4
  have HGG := hide hg4
  clear hB4 hE4 hw4 hg4
  go_upto_region 4 with fail
  rw [← HW4.out, ← HGG.out]
  go_wp2_with fail
  refine (HS.out w4 g HG4.out _ HRL.out).mono ?_
  rintro e w5 ⟨y, f, Ay, cy, rfl, _, hE5, hA⟩
  obtain rfl := eAns hA
  obtain ⟨w6, hw6⟩ : ∃ w6, w6 = w5.alloc (.cells #[.int .i64 18, .int .i64 2] 31) := ⟨_, rfl⟩
  obtain ⟨g6, hg6⟩ : ∃ g6, g6 = w5.heap.size := ⟨_, rfl⟩
  have hB6 : Blk w6 g6 31 #[.int .i64 18, .int .i64 2] := by rw [hw6, hg6]; exact Blk.new _ _ _
  have b60 := hB6.cell 0
  have b61 := hB6.cell 1
  simp only [List.getElem?_toArray, List.getElem?_cons_zero, List.getElem?_cons_succ] at b60 b61
  have hE6 : Ext w4 w6 := by rw [hw6]; exact hE5.alloc hE5.size _
  have HG6 := hide (HG4.out.ext hE6)
  have HR6 := hide (HRL.out.ext hE6)
  have HE6 := hide (HE4.out.trans' hE6)
  have HW6 := hide hw6
  have HGG6 := hide hg6
  have hq := run_eqIn_flt
  clear hB6 hE6 hE5 hA hw6 hg6
  unfold fltV
  go_upto_region 5 with fail
  rw [← HW6.out, ← HGG6.out]
  go_wp2_with fail
  refine (HY.out w6 g HG6.out _ HR6.out).mono ?_
  rintro e w7 ⟨y', f', hA', A7, c7, rfl, hN7, hE7⟩
  obtain rfl := eAns hA'
  rw [show whyL (leqI eWs eOs) eRs (18, 2) = [0, 1, 2] from eTrace] at hN7 ⊢
  have HN7 := hide hN7.ints
  have HE7 := hide (HE6.out.trans' hE7)
  clear hN7 hE7 hA' b60 b61
  go_wp2_with fail
  refine (same_any A7 c7 3 [0, 1, 2] _ 3 3 [0, 1, 2] _ (HN7.out.ext ((Ext.rfl' w7).alloc (Nat.le_refl _) _)) rfl (by decide) (ints_new w7 _ _ _ rfl) rfl (by decide)).mono ?_
  rintro e w8 ⟨rfl, hE8⟩
  have HE8 := hide (HE7.out.trans' (Ext.trans' ((Ext.rfl' w7).alloc (Nat.le_refl _) _) hE8))
  clear hE8
  rw [show decide (([0, 1, 2] : List Int) = [0, 1, 2]) = true from rfl]
  go_wp2_with fail
  go_ret
  exact ⟨rfl, HE8.out⟩
end Go.Proofs.YtpjlhpaenmfieaaGreat
