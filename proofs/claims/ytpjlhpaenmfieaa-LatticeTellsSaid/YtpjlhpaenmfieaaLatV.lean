/- lattice: the chapter's example. -/
import Derived.Test.YtpjlhpaenmfieaaLatA
import Derived.Test.YtpjlhpaenmfieaaLatEq
import Derived.Deep.RegionHeld3
namespace Go.Proofs.Ytpjlhpaenmfieaa
open Go.RowKit

def dLow : Wd := (⟨#[108, 111, 119]⟩, 0)
def dA : Wd := (⟨#[97]⟩, 0)
def dB : Wd := (⟨#[98]⟩, 0)
def dHigh : Wd := (⟨#[104, 105, 103, 104]⟩, 0)
def dWs : List Wd := [dLow, dA, dB, dHigh]
def dOs : List (Wd × Wd) := [(dLow, dA), (dLow, dB), (dA, dHigh), (dB, dHigh)]
def DiaPost (w : World) (e : Ending) (w' : World) : Prop :=
  ∃ gl go, e = .returned (.tuple #[.slice (some ⟨gl, 0, none⟩) 4 4, .slice (some ⟨go, 0, none⟩) 4 4]) ∧ WdsAt w' w'.heap.size (some ⟨gl, 0, none⟩) dWs ∧ OdsAt w' w'.heap.size (some ⟨go, 0, none⟩) dOs ∧ Ext w w'

theorem dWrong : wrongL dWs dOs = (0, 0) := by decide +kernel
theorem dTop : LatM.topN 4 (leqL dWs dOs) = 3 := by decide +kernel

/-- Cells in a block of their own, as a slice. -/
theorem blk_reads {w : World} {g : Nat} {t : TypeId} {cs : Array Value} (h : Blk w g t cs) {n size : Nat} {xs : List Value} (hx : cs.toList = xs) (hl : xs.length = n * size) : Reads w w.heap.size size (some ⟨g, 0, none⟩) n xs :=
  ⟨hl, fun _ => ⟨_, rfl, h.lt, fun j u hu => by
    have e : (⟨g, 0, none⟩ : Addr).add j = ⟨g, j, none⟩ := by
      unfold Addr.add
      split
      · next h => rw [h]
      · simp
    rw [e, h.cell, ← hu, ← hx, Array.getElem?_toList]⟩⟩

theorem dia_end1 {w w0 : World} {t t' : TypeId} {cs cs' : Array Value} (hE : Ext w w0) (h1 : cs.toList = wdCells dWs) (h2 : cs'.toList = odCells dOs) :
    DiaPost w (.returned (.tuple #[.slice (some ⟨w0.heap.size, 0, none⟩) 4 4, .slice (some ⟨w0.heap.size + 1, 0, none⟩) 4 4])) ((w0.alloc (.cells cs t)).alloc (.cells cs' t')).drew := by
  have b2 := Blk.new (w0.alloc (.cells cs t)) t' cs'
  rw [World.size_alloc] at b2
  exact ⟨_, _, rfl, Reads.drew (blk_reads ((Blk.new w0 t cs).alloc _) h1 rfl), Reads.drew (blk_reads b2 h2 rfl), ((hE.alloc (hE.size) _).alloc (by have := hE.size; rw [World.size_alloc]; omega) _).drew⟩
theorem dia_end2 {w w0 : World} {t t' : TypeId} {cs cs' : Array Value} (hE : Ext w w0) (h1 : cs.toList = wdCells dWs) (h2 : cs'.toList = odCells dOs) :
    DiaPost w (.returned (.tuple #[.slice (some ⟨w0.heap.size + 1, 0, none⟩) 4 4, .slice (some ⟨w0.heap.size, 0, none⟩) 4 4])) ((w0.alloc (.cells cs' t')).alloc (.cells cs t)).drew := by
  have b2 := Blk.new (w0.alloc (.cells cs' t')) t cs
  rw [World.size_alloc] at b2
  exact ⟨_, _, rfl, Reads.drew (blk_reads b2 h1 rfl), Reads.drew (blk_reads ((Blk.new w0 t' cs').alloc _) h2 rfl), ((hE.alloc (hE.size) _).alloc (by have := hE.size; rw [World.size_alloc]; omega) _).drew⟩
set_option maxRecDepth 100000 in
set_option maxHeartbeats 2000000 in
theorem dia_any (w : World) : Calls Try.prog 28 #[] w (DiaPost w) := by
  go_enter Try.func28, Try.ntmps28
  go_wp2_with fail
  obtain ⟨w0, hw0⟩ : ∃ w0, w0 = (((w.alloc (Obj.cells #[.string ⟨#[108, 111, 119]⟩, .int .i64 0] 52)).alloc (Obj.cells #[.string ⟨#[97]⟩, .int .i64 0] 52)).alloc (Obj.cells #[.string ⟨#[98]⟩, .int .i64 0] 52)).alloc (Obj.cells #[.string ⟨#[104, 105, 103, 104]⟩, .int .i64 0] 52) := ⟨_, rfl⟩
  rw [← hw0]
  have B1 : Blk w0 w.heap.size 52 #[.string ⟨#[108, 111, 119]⟩, .int .i64 0] := by
    rw [hw0]; exact (((Blk.new _ _ _).alloc _).alloc _).alloc _
  have B2 : Blk w0 (w.heap.size + 1) 52 #[.string ⟨#[97]⟩, .int .i64 0] := by
    rw [hw0]; have := (((Blk.new (w.alloc (Obj.cells #[.string ⟨#[108, 111, 119]⟩, .int .i64 0] 52)) 52 #[.string ⟨#[97]⟩, .int .i64 0]).alloc (Obj.cells #[.string ⟨#[98]⟩, .int .i64 0] 52)).alloc (Obj.cells #[.string ⟨#[104, 105, 103, 104]⟩, .int .i64 0] 52)); simpa only [World.size_alloc] using this
  have B3 : Blk w0 (w.heap.size + 1 + 1) 52 #[.string ⟨#[98]⟩, .int .i64 0] := by
    rw [hw0]; have := ((Blk.new ((w.alloc (Obj.cells #[.string ⟨#[108, 111, 119]⟩, .int .i64 0] 52)).alloc (Obj.cells #[.string ⟨#[97]⟩, .int .i64 0] 52)) 52 #[.string ⟨#[98]⟩, .int .i64 0]).alloc (Obj.cells #[.string ⟨#[104, 105, 103, 104]⟩, .int .i64 0] 52)); simpa only [World.size_alloc] using this
  have B4 : Blk w0 (w.heap.size + 1 + 1 + 1) 52 #[.string ⟨#[104, 105, 103, 104]⟩, .int .i64 0] := by
    rw [hw0]; have := (Blk.new (((w.alloc (Obj.cells #[.string ⟨#[108, 111, 119]⟩, .int .i64 0] 52)).alloc (Obj.cells #[.string ⟨#[97]⟩, .int .i64 0] 52)).alloc (Obj.cells #[.string ⟨#[98]⟩, .int .i64 0] 52)) 52 #[.string ⟨#[104, 105, 103, 104]⟩, .int .i64 0]); simpa only [World.size_alloc] using this
  have hE : Ext w w0 := by
    rw [hw0]; exact ((((Ext.rfl' w).alloc (Nat.le_refl _) _).alloc (by simp only [World.size_alloc]; omega) _).alloc (by simp only [World.size_alloc]; omega) _).alloc (by simp only [World.size_alloc]; omega) _
  have c10 := B1.cell 0
  have c11 := B1.cell 1
  have c20 := B2.cell 0
  have c21 := B2.cell 1
  have c30 := B3.cell 0
  have c31 := B3.cell 1
  have c40 := B4.cell 0
  have c41 := B4.cell 1
  have l1 := B1.lt
  have l2 := B2.lt
  have l3 := B3.lt
  have l4 := B4.lt
  simp only [List.getElem?_toArray, List.getElem?_cons_zero, List.getElem?_cons_succ] at c10 c11 c20 c21 c30 c31 c40 c41
  generalize w.heap.size + 1 + 1 + 1 = g4 at c40 c41 l4 ⊢
  generalize w.heap.size + 1 + 1 = g3 at c30 c31 l3 ⊢
  generalize w.heap.size + 1 = g2 at c20 c21 l2 ⊢
  generalize w.heap.size = g1 at c10 c11 l1 ⊢
  have HE := hide hE
  clear B1 B2 B3 B4 hw0 hE
  go_region_held3 (fun w' => w'.cell? ⟨g1, 0, none⟩ = some (.string ⟨#[108, 111, 119]⟩) ∧ w'.cell? ⟨g1, 1, none⟩ = some (.int .i64 0) ∧ w'.cell? ⟨g2, 0, none⟩ = some (.string ⟨#[97]⟩) ∧ w'.cell? ⟨g2, 1, none⟩ = some (.int .i64 0) ∧ w'.cell? ⟨g3, 0, none⟩ = some (.string ⟨#[98]⟩) ∧ w'.cell? ⟨g3, 1, none⟩ = some (.int .i64 0) ∧ w'.cell? ⟨g4, 0, none⟩ = some (.string ⟨#[104, 105, 103, 104]⟩) ∧ w'.cell? ⟨g4, 1, none⟩ = some (.int .i64 0)) (go_keep) (fail)
  all_goals (go_wp2_with fail; go_ret2)
  all_goals (first | exact dia_end1 (t := 52) (t' := 98) (cs := #[.string ⟨#[108, 111, 119]⟩, .int .i64 0, .string ⟨#[97]⟩, .int .i64 0, .string ⟨#[98]⟩, .int .i64 0, .string ⟨#[104, 105, 103, 104]⟩, .int .i64 0]) (cs' := #[.string ⟨#[108, 111, 119]⟩, .int .i64 0, .string ⟨#[97]⟩, .int .i64 0, .string ⟨#[108, 111, 119]⟩, .int .i64 0, .string ⟨#[98]⟩, .int .i64 0, .string ⟨#[97]⟩, .int .i64 0, .string ⟨#[104, 105, 103, 104]⟩, .int .i64 0, .string ⟨#[98]⟩, .int .i64 0, .string ⟨#[104, 105, 103, 104]⟩, .int .i64 0]) HE.out rfl rfl | exact dia_end2 (t := 52) (t' := 98) (cs := #[.string ⟨#[108, 111, 119]⟩, .int .i64 0, .string ⟨#[97]⟩, .int .i64 0, .string ⟨#[98]⟩, .int .i64 0, .string ⟨#[104, 105, 103, 104]⟩, .int .i64 0]) (cs' := #[.string ⟨#[108, 111, 119]⟩, .int .i64 0, .string ⟨#[97]⟩, .int .i64 0, .string ⟨#[108, 111, 119]⟩, .int .i64 0, .string ⟨#[98]⟩, .int .i64 0, .string ⟨#[97]⟩, .int .i64 0, .string ⟨#[104, 105, 103, 104]⟩, .int .i64 0, .string ⟨#[98]⟩, .int .i64 0, .string ⟨#[104, 105, 103, 104]⟩, .int .i64 0]) HE.out rfl rfl)
end Go.Proofs.Ytpjlhpaenmfieaa
