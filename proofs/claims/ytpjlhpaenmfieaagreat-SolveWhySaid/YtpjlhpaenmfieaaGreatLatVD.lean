/- lattice: the chapter's example, its levels and pairs. -/
import Derived.Test.YtpjlhpaenmfieaaGreatLatSt
import Derived.Test.YtpjlhpaenmfieaaGreatLatEq
namespace Go.Proofs.YtpjlhpaenmfieaaGreat
open Go.RowKit

def dLow : Wd := (⟨#[108, 111, 119]⟩, 0)
def dA : Wd := (⟨#[97]⟩, 0)
def dB : Wd := (⟨#[98]⟩, 0)
def dHigh : Wd := (⟨#[104, 105, 103, 104]⟩, 0)
def dWs : List Wd := [dLow, dA, dB, dHigh]
def dOs : List (Wd × Wd) := [(dLow, dA), (dLow, dB), (dA, dHigh), (dB, dHigh)]
theorem dWrong : wrongL dWs dOs = (0, 0) := by decide +kernel
theorem dTop : LatM.topN 4 (leqL dWs dOs) = 3 := by decide +kernel

/-- Cells in a block of their own, as a slice. -/
theorem blk_reads {w : World} {g : Nat} {t : TypeId} {cs : Array Value} (h : Blk w g t cs) {n size : Nat} {xs : List Value} (hx : cs.toList = xs) (hl : xs.length = n * size) : Reads w w.heap.size size (some ⟨g, 0, none⟩) n xs :=
  ⟨hl, fun _ => ⟨_, rfl, h.lt, fun j u hu => by
    have e : (⟨g, 0, none⟩ : Addr).add j = ⟨g, j, none⟩ := by
      unfold Addr.add
      split
      · next h => rw [h]
      · simp
    rw [e, h.cell, ← hu, ← hx, Array.getElem?_toList]⟩⟩

theorem dia_two {w0 : World} {t t' : TypeId} {cs cs' : Array Value} (h1 : cs.toList = wdCells dWs) (h2 : cs'.toList = odCells dOs) :
    WdsAt ((w0.alloc (.cells cs t)).alloc (.cells cs' t')) ((w0.alloc (.cells cs t)).alloc (.cells cs' t')).heap.size (some ⟨w0.heap.size, 0, none⟩) dWs ∧ OdsAt ((w0.alloc (.cells cs t)).alloc (.cells cs' t')) ((w0.alloc (.cells cs t)).alloc (.cells cs' t')).heap.size (some ⟨w0.heap.size + 1, 0, none⟩) dOs ∧ Ext w0 ((w0.alloc (.cells cs t)).alloc (.cells cs' t')) := by
  have b2 := Blk.new (w0.alloc (.cells cs t)) t' cs'
  rw [World.size_alloc] at b2
  exact ⟨blk_reads ((Blk.new w0 t cs).alloc _) h1 rfl, blk_reads b2 h2 rfl, ((Ext.rfl' w0).alloc (Nat.le_refl _) _).alloc (by rw [World.size_alloc]; omega) _⟩
end Go.Proofs.YtpjlhpaenmfieaaGreat
