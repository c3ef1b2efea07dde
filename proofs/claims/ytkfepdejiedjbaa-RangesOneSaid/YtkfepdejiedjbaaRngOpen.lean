/- How the arguments of layer 2's laws read: slices of ranges. -/
import Derived.Test.YtkfepdejiedjbaaRngI
import Derived.ProofKit
import Derived.OpenShut
import Derived.ChangeOld
import Derived.Deep.Slices
import Derived.SizedLaws
namespace Go.Proofs.Ytkfepdejiedjbaa
open Go.ChangeShapes Go.WideShapes Go.ChangeAt Go.RowKit Go.Deep

theorem list2 {α : Type} {l : List α} (h : l.length = 2) : ∃ a b, l = [a, b] := by
  match l, h with
  | [a, b], _ => exact ⟨a, b, rfl⟩

theorem Try.own : ownKnob Try.prog.godebug = none := by kernel_rfl
theorem Try.laidOut : laidOutB Try.prog = true := by kernel_rfl

def n32 (x : Int) : Prop := -2147483648 ≤ x ∧ x ≤ 2147483647

section
variable {H : Type} {enc : TypeId × Value → H} {W : World} {base : Nat} {spare : Nat → Bool} {held : Bool}

set_option maxRecDepth 100000 in
/-- Cells that read as a range are two numbers. -/
theorem trod_rng {fuel : Nat} {cs : List Value} {x : DataW H × List MemPlace} (h : DataW.trod enc Try.prog W base spare held fuel 85 cs = some x) : ∃ a b : Int, cs = [i32v a, i32v b] ∧ n32 a ∧ n32 b := by
  obtain ⟨xs, m, _, _, hl, hxl, hx⟩ := DataW.trod_struct Try.underlying85 h
  have h2 : Try.prog.cellsOf 85 = 2 := by kernel_rfl
  have h1 : Try.prog.cellsOf 21 = 1 := by kernel_rfl
  have hl' : cs.length = 2 := hl.trans h2
  clear hl h2
  obtain ⟨u, v, rfl⟩ := list2 hl'
  have e0 : DataW.trod enc Try.prog W base spare held m 21 (List.take (Try.prog.cellsOf 21) (List.drop 0 [u, v])) = xs[0]? := hx 0 _ rfl
  have e1 : DataW.trod enc Try.prog W base spare held m 21 (List.take (Try.prog.cellsOf 21) (List.drop 1 [u, v])) = xs[1]? := hx 1 _ rfl
  have hxl' : xs.length = 2 := hxl
  obtain ⟨x0, hx0⟩ : ∃ x0, xs[0]? = some x0 := ⟨_, List.getElem?_eq_getElem (by omega)⟩
  obtain ⟨x1, hx1⟩ : ∃ x1, xs[1]? = some x1 := ⟨_, List.getElem?_eq_getElem (by omega)⟩
  generalize Try.prog.cellsOf 21 = k at e0 e1 h1
  subst h1
  obtain ⟨a, ha, _, hwa⟩ := DataW.trod_int Try.underlying21 (e0.trans hx0)
  obtain ⟨b, hb, _, hwb⟩ := DataW.trod_int Try.underlying21 (e1.trans hx1)
  simp at ha hb
  have w32 : ∀ n, (Lit.int .i32 n).wf = true → n32 n := fun n h => by
    simp only [Lit.wf, Bool.and_eq_true, decide_eq_true_eq] at h
    exact ⟨h.1, h.2⟩
  exact ⟨a, b, by rw [ha, hb], w32 _ hwa, w32 _ hwb⟩

theorem rngCells_cell {w : World} {a : Addr} {len : Nat} {f : Nat → Int × Int} (h : ∀ i, i < len → w.cell? (a.add (i * 2)) = some (i32v (f i).1) ∧ w.cell? (a.add (i * 2 + 1)) = some (i32v (f i).2)) :
    ∀ j u, (rngCells ((List.range len).map f))[j]? = some u → w.cell? (a.add j) = some u := by
  intro j u hu
  have hj : j < len * 2 := by
    have := (List.getElem?_eq_some_iff.1 hu).1
    rw [rngCells_length] at this
    simpa using this
  have hg := rngCells_get ((List.range len).map f) (j / 2) (by simp; omega)
  have hh := h (j / 2) (by omega)
  rcases Nat.mod_two_eq_zero_or_one j with e | e
  · have ej : j = j / 2 * 2 := by omega
    rw [ej] at hu ⊢
    rw [hg.1] at hu
    simp at hu
    rw [hh.1, ← hu]
  · have ej : j = j / 2 * 2 + 1 := by omega
    rw [ej] at hu ⊢
    rw [hg.2] at hu
    simp at hu
    rw [hh.2, ← hu]

set_option maxRecDepth 100000 in
theorem open_ranges {a0 : Option Addr} {len cap : Nat} {d : DataW H} {p : List MemPlace} (h : DataW.Trod enc Try.prog W base spare held 47 (.slice a0 len cap) d p) :
    ∃ ps : List (Int × Int), ps.length = len ∧ RngAt W W.heap.size a0 ps ∧ in32 ps ∧ len ≤ 9223372036854775807 ∧ (len = 0 ∨ ∃ es sp, d = .slice es sp ∧ List.length es = len) := by
  obtain ⟨fuel, hf⟩ := h
  have h2 : Try.prog.cellsOf 85 = 2 := by kernel_rfl
  rcases open_slice Try.underlying47 hf with ⟨hcs, _⟩ | ⟨a, l, c, m, n, D, Pl, hcs, _, hlc, hm, hmm, hd, hx⟩
  · simp [Value.cells] at hcs
    obtain ⟨rfl, rfl, rfl⟩ := hcs
    exact ⟨[], rfl, Reads.none_, by simp, by omega, .inl rfl⟩
  · simp [Value.cells] at hcs
    obtain ⟨rfl, rfl, rfl⟩ := hcs
    have hlm : len ≤ m := by rw [hmm]; split <;> omega
    rw [h2] at hx
    have hex : ∀ i, i < len → ∃ q : Int × Int, (W.cell? (a.add (i * 2)) = some (i32v q.1) ∧ W.cell? (a.add (i * 2 + 1)) = some (i32v q.2)) ∧ n32 q.1 ∧ n32 q.2 := by
      intro i hi
      obtain ⟨cs, hc, ht⟩ := hx i (by omega)
      obtain ⟨u, v, rfl, hu, hv⟩ := trod_rng ht
      obtain ⟨_, _, hat⟩ := World.cells?_some hc
      have c0 := hat 0 (by omega)
      have c1 := hat 1 (by omega)
      rw [add_add] at c0 c1
      exact ⟨(u, v), ⟨by simpa using c0, by simpa using c1⟩, hu, hv⟩
    obtain ⟨f, hf'⟩ := choose_lt (α := Int × Int) hex
    refine ⟨(List.range len).map f, by simp, ⟨by rw [rngCells_length], fun hn => ⟨a, rfl, ?_, rngCells_cell fun i hi => (hf' i hi).1⟩⟩, ?_, by unfold maxLen at hm; omega, .inr ⟨_, _, (Prod.mk.inj hd).1, by simp⟩⟩
    · have c0 := (hf' 0 (by simpa using hn)).1.1
      simp only [Nat.zero_mul] at c0
      have := World.block_lt_of_cell? W _ c0
      simpa [Addr.add] using this
    · intro p hp
      obtain ⟨i, hi, rfl⟩ := List.mem_map.1 hp
      obtain ⟨h1, h2⟩ := (hf' i (List.mem_range.1 hi)).2
      exact ⟨h1.1, h1.2, h2.1, h2.2⟩
end
end Go.Proofs.Ytkfepdejiedjbaa
