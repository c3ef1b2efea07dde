/- How the arguments of layer 10's laws read. -/
import Derived.Test.YtkfepdejiedjbaaRelE
import Derived.ProofKit
import Derived.OpenShut
import Derived.ChangeOld
import Derived.Deep.Slices
namespace Go.Proofs.Ytkfepdejiedjbaa
open Go.ChangeShapes Go.WideShapes Go.ChangeAt Go.RowKit Go.Deep

theorem list2 {α : Type} {l : List α} (h : l.length = 2) : ∃ a b, l = [a, b] := by
  match l, h with
  | [a, b], _ => exact ⟨a, b, rfl⟩

theorem Try.own : ownKnob Try.prog.godebug = none := by kernel_rfl
theorem Try.laidOut : laidOutB Try.prog = true := by kernel_rfl

section
variable {H : Type} {enc : TypeId × Value → H} {W : World} {base : Nat} {spare : Nat → Bool} {held : Bool}

set_option maxRecDepth 100000 in
/-- Cells that read as [2]int are two ints. -/
theorem trod_pair {fuel : Nat} {cs : List Value} {x : DataW H × List MemPlace} (h : DataW.trod enc Try.prog W base spare held fuel 23 cs = some x) : ∃ a b : Int, cs = [i64v a, i64v b] := by
  obtain ⟨xs, m, _, _, hl, hxl, hx⟩ := DataW.trod_array Try.underlying23 h
  have h2 : Try.prog.cellsOf 23 = 2 := by kernel_rfl
  have h1 : Try.prog.cellsOf 3 = 1 := by kernel_rfl
  have hl' : cs.length = 2 := hl.trans h2
  clear hl h2
  obtain ⟨u, v, rfl⟩ := list2 hl'
  have e0 := hx 0 (by omega)
  have e1 := hx 1 (by omega)
  obtain ⟨x0, hx0⟩ : ∃ x0, xs[0]? = some x0 := ⟨_, List.getElem?_eq_getElem (by omega)⟩
  obtain ⟨x1, hx1⟩ : ∃ x1, xs[1]? = some x1 := ⟨_, List.getElem?_eq_getElem (by omega)⟩
  generalize Try.prog.cellsOf 3 = k at e0 e1 h1
  subst h1
  obtain ⟨a, ha, _, _⟩ := DataW.trod_int Try.underlying3 (e0.trans hx0)
  obtain ⟨b, hb, _, _⟩ := DataW.trod_int Try.underlying3 (e1.trans hx1)
  simp at ha hb
  exact ⟨a, b, by rw [ha, hb]⟩

set_option maxRecDepth 100000 in
theorem open_pair {r : Reach} {b0 : Nat} {v : Value} {d : DataW H} {p : List MemPlace} (hv : Value.okWide Try.prog W r b0 23 v) (h : DataW.Trod enc Try.prog W base spare held 23 v d p) : ∃ a b : Int, v = .agg #[i64v a, i64v b] := by
  simp only [Value.okWide, Try.underlying23] at hv
  obtain ⟨cs, rfl, _, _⟩ := hv
  obtain ⟨fuel, hf⟩ := h
  obtain ⟨a, b, e⟩ := trod_pair hf
  refine ⟨a, b, ?_⟩
  have : cs.toList = [i64v a, i64v b] := by simpa [Value.cells] using e
  rw [← Array.toArray_toList (xs := cs), this]

theorem list3 {α : Type} {l : List α} (h : l.length = 3) : ∃ a b c, l = [a, b, c] := by
  match l, h with
  | [a, b, c], _ => exact ⟨a, b, c, rfl⟩

set_option maxRecDepth 100000 in
theorem trod_tri {fuel : Nat} {cs : List Value} {x : DataW H × List MemPlace} (h : DataW.trod enc Try.prog W base spare held fuel 43 cs = some x) : ∃ a b c : Int, cs = [i64v a, i64v b, i64v c] := by
  obtain ⟨xs, m, _, _, hl, hxl, hx⟩ := DataW.trod_array Try.underlying43 h
  have h2 : Try.prog.cellsOf 43 = 3 := by kernel_rfl
  have h1 : Try.prog.cellsOf 3 = 1 := by kernel_rfl
  have hl' : cs.length = 3 := hl.trans h2
  clear hl h2
  obtain ⟨u, v, t, rfl⟩ := list3 hl'
  have e0 := hx 0 (by omega)
  have e1 := hx 1 (by omega)
  have e2 := hx 2 (by omega)
  obtain ⟨x0, hx0⟩ : ∃ x0, xs[0]? = some x0 := ⟨_, List.getElem?_eq_getElem (by omega)⟩
  obtain ⟨x1, hx1⟩ : ∃ x1, xs[1]? = some x1 := ⟨_, List.getElem?_eq_getElem (by omega)⟩
  obtain ⟨x2, hx2⟩ : ∃ x2, xs[2]? = some x2 := ⟨_, List.getElem?_eq_getElem (by omega)⟩
  generalize Try.prog.cellsOf 3 = k at e0 e1 e2 h1
  subst h1
  obtain ⟨a, ha, _, _⟩ := DataW.trod_int Try.underlying3 (e0.trans hx0)
  obtain ⟨b, hb, _, _⟩ := DataW.trod_int Try.underlying3 (e1.trans hx1)
  obtain ⟨c, hc, _, _⟩ := DataW.trod_int Try.underlying3 (e2.trans hx2)
  simp at ha hb hc
  exact ⟨a, b, c, by rw [ha, hb, hc]⟩

set_option maxRecDepth 100000 in
theorem open_tri {r : Reach} {b0 : Nat} {v : Value} {d : DataW H} {p : List MemPlace} (hv : Value.okWide Try.prog W r b0 43 v) (h : DataW.Trod enc Try.prog W base spare held 43 v d p) : ∃ a b c : Int, v = .agg #[i64v a, i64v b, i64v c] := by
  simp only [Value.okWide, Try.underlying43] at hv
  obtain ⟨cs, rfl, _, _⟩ := hv
  obtain ⟨fuel, hf⟩ := h
  obtain ⟨a, b, c, e⟩ := trod_tri hf
  refine ⟨a, b, c, ?_⟩
  have : cs.toList = [i64v a, i64v b, i64v c] := by simpa [Value.cells] using e
  rw [← Array.toArray_toList (xs := cs), this]

theorem pairCells_cell {w : World} {a : Addr} {len : Nat} {f : Nat → Int × Int} (h : ∀ i, i < len → w.cell? (a.add (i * 2)) = some (i64v (f i).1) ∧ w.cell? (a.add (i * 2 + 1)) = some (i64v (f i).2)) :
    ∀ j u, (pairCells ((List.range len).map f))[j]? = some u → w.cell? (a.add j) = some u := by
  intro j u hu
  have hj : j < len * 2 := by
    have := (List.getElem?_eq_some_iff.1 hu).1
    rw [pairCells_length] at this
    simpa using this
  have hg := pairCells_get ((List.range len).map f) (j / 2) (by simp; omega)
  have hh := h (j / 2) (by omega)
  rcases Nat.mod_two_eq_zero_or_one j with e | e
  · have ej : j = j / 2 * 2 := by omega
    rw [ej] at hu ⊢
    rw [hg.1] at hu
    simp at hu
    rw [hh.1, ← hu]
  · have ej : j = j / 2 * 2 + 1 := by omega
    rw [ej] at hu ⊢
    rw [hg.2] at hu
    simp at hu
    rw [hh.2, ← hu]

set_option maxRecDepth 100000 in
theorem open_pairs {a0 : Option Addr} {len cap : Nat} {d : DataW H} {p : List MemPlace} (h : DataW.Trod enc Try.prog W base spare held 22 (.slice a0 len cap) d p) :
    ∃ ps : List (Int × Int), ps.length = len ∧ PairsAt W W.heap.size a0 ps ∧ len ≤ 9223372036854775807 := by
  obtain ⟨fuel, hf⟩ := h
  have h2 : Try.prog.cellsOf 23 = 2 := by kernel_rfl
  rcases open_slice Try.underlying22 hf with ⟨hcs, _⟩ | ⟨a, l, c, m, n, D, Pl, hcs, _, hlc, hm, hmm, _, hx⟩
  · simp [Value.cells] at hcs
    obtain ⟨rfl, rfl, rfl⟩ := hcs
    exact ⟨[], rfl, Reads.none_, by omega⟩
  · simp [Value.cells] at hcs
    obtain ⟨rfl, rfl, rfl⟩ := hcs
    have hlm : len ≤ m := by rw [hmm]; split <;> omega
    rw [h2] at hx
    have hex : ∀ i, i < len → ∃ q : Int × Int, W.cell? (a.add (i * 2)) = some (i64v q.1) ∧ W.cell? (a.add (i * 2 + 1)) = some (i64v q.2) := by
      intro i hi
      obtain ⟨cs, hc, ht⟩ := hx i (by omega)
      obtain ⟨u, v, rfl⟩ := trod_pair ht
      obtain ⟨_, _, hat⟩ := World.cells?_some hc
      have c0 := hat 0 (by omega)
      have c1 := hat 1 (by omega)
      rw [add_add] at c0 c1
      exact ⟨(u, v), by simpa using c0, by simpa using c1⟩
    obtain ⟨f, hf'⟩ := choose_lt (α := Int × Int) hex
    refine ⟨(List.range len).map f, by simp, ⟨by rw [pairCells_length], fun hn => ⟨a, rfl, ?_, pairCells_cell hf'⟩⟩, by unfold maxLen at hm; omega⟩
    have c0 := (hf' 0 (by simpa using hn)).1
    simp only [Nat.zero_mul] at c0
    have := World.block_lt_of_cell? W _ c0
    simpa [Addr.add] using this
end


end Go.Proofs.Ytkfepdejiedjbaa
