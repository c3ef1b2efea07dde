/- How a slice of texts reads as an argument. -/
import Derived.Test.YtkfepdejiedjbaaNamU
import Derived.ProofKit
import Derived.OpenShut
import Derived.ChangeOld
import Derived.Deep.Slices
import Derived.SliceStrings
namespace Go.Proofs.Ytkfepdejiedjbaa
open Go.ChangeShapes Go.WideShapes Go.ChangeAt Go.RowKit Go.Deep

theorem Try.own : ownKnob Try.prog.godebug = none := by kernel_rfl
theorem Try.laidOut : laidOutB Try.prog = true := by kernel_rfl

section
variable {H : Type} {enc : TypeId × Value → H} {W : World} {base : Nat} {spare : Nat → Bool} {held : Bool}
set_option maxRecDepth 100000 in
theorem open_strs {a0 : Option Addr} {len cap : Nat} {d : DataW H} {p : List MemPlace} (h : DataW.Trod enc Try.prog W base spare held 62 (.slice a0 len cap) d p) :
    ∃ l : List ByteArray, len = l.length ∧ StrAt W W.heap.size a0 l ∧ len ≤ 9223372036854775807 := by
  obtain ⟨fuel, hf⟩ := h
  have h1 : Try.prog.cellsOf 9 = 1 := by kernel_rfl
  rcases open_strings Try.underlying62 Try.underlying9 h1 hf with ⟨hcs, _⟩ | ⟨a, len', cap', ss, hcs, _, hl, hm, hz, hx, hcell, hsz⟩
  · simp [Value.cells] at hcs
    obtain ⟨rfl, rfl, rfl⟩ := hcs
    exact ⟨[], rfl, Reads.none_, by omega⟩
  · simp [Value.cells] at hcs
    obtain ⟨rfl, rfl, rfl⟩ := hcs
    have hle : len ≤ ss.length := by rw [hz]; split <;> omega
    refine ⟨ss.take len, by simp; omega, ⟨by simp [strCells], fun hn => ⟨a, rfl, ?_, fun j u hu => ?_⟩⟩, by unfold maxLen at hm; omega⟩
    · have c0 := hcell 0 (by simp at hn; omega)
      have := World.block_lt_of_cell? W _ c0
      simpa [Addr.add] using this
    · have hj : j < (strCells (ss.take len)).length := (List.getElem?_eq_some_iff.1 hu).1
      have hj' : j < len := by simp [strCells] at hj; omega
      rw [hcell j (by omega), ← hu]
      simp [strCells, hj', List.getD_eq_getElem?_getD, List.getElem?_take, List.getElem?_eq_getElem (show j < ss.length by omega)]
end
end Go.Proofs.Ytkfepdejiedjbaa
