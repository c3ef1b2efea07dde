/- How a lattice's levels and order read as one argument; how numbers do. -/
import Derived.Test.YtpjlhpaenmfieaaGreatLatOpen
import Derived.Test.YtpjlhpaenmfieaaGreatLabAll
namespace Go.Proofs.YtpjlhpaenmfieaaGreat
open Go.ChangeShapes Go.WideShapes Go.ChangeAt Go.RowKit Go.Deep

section
variable {H : Type} {enc : TypeId × Value → H} {W : World} {base : Nat} {spare : Nat → Bool} {held : Bool}

theorem slice_of {t e : TypeId} {fuel : Nat} {u : Value} {x : DataW H × List MemPlace} (ht : Tryz.prog.underlying t = some (.slice e)) (h : DataW.trod enc Tryz.prog W base spare held fuel t [u] = some x) : ∃ a n c, u = .slice a n c := by
  rcases open_slice ht h with ⟨hcs, _⟩ | ⟨a, l, c, m, n, D, Pl, hcs, _⟩
  · exact ⟨none, 0, 0, by simpa using hcs⟩
  · exact ⟨some a, l, c, by simpa using hcs⟩

set_option maxRecDepth 100000 in
theorem open_W {r : Reach} {b0 : Nat} {v : Value} {d : DataW H} {p : List MemPlace} (hv : Value.okWide Tryz.prog W r b0 25 v) (h : DataW.Trod enc Tryz.prog W base spare held 25 v d p) :
    ∃ a n c a2 m c2, v = .agg #[.slice a n c, .slice a2 m c2] ∧ ∃ ws : List Wd, n = ws.length ∧ WdsAt W W.heap.size a ws ∧ (∀ i, (wNm ws i).size ≤ maxLen) ∧ n ≤ 9223372036854775807 ∧ ∃ os : List (Wd × Wd), m = os.length ∧ OdsAt W W.heap.size a2 os ∧ m ≤ 9223372036854775807 := by
  simp only [Value.okWide, Tryz.underlying25] at hv
  obtain ⟨cs, rfl, _, _⟩ := hv
  obtain ⟨fuel, hf⟩ := h
  obtain ⟨xs, k, _, _, hl, hxl, hx⟩ := DataW.trod_struct Tryz.underlying25 hf
  have h2 : Tryz.prog.cellsOf 25 = 2 := by kernel_rfl
  have h1 : Tryz.prog.cellsOf 22 = 1 := by kernel_rfl
  have h3 : Tryz.prog.cellsOf 23 = 1 := by kernel_rfl
  have hl' : cs.toList.length = 2 := hl.trans h2
  clear hl h2
  obtain ⟨u, v, huv⟩ := len2 hl'
  have hx' := hx
  simp only [Value.cells, huv] at hx'
  have e0 : DataW.trod enc Tryz.prog W base spare held k 22 (List.take (Tryz.prog.cellsOf 22) (List.drop 0 [u, v])) = xs[0]? := hx' 0 _ rfl
  have e1 : DataW.trod enc Tryz.prog W base spare held k 23 (List.take (Tryz.prog.cellsOf 23) (List.drop 1 [u, v])) = xs[1]? := hx' 1 _ rfl
  have hxl' : xs.length = 2 := hxl
  obtain ⟨x0, hx0⟩ : ∃ x0, xs[0]? = some x0 := ⟨_, List.getElem?_eq_getElem (by omega)⟩
  obtain ⟨x1, hx1⟩ : ∃ x1, xs[1]? = some x1 := ⟨_, List.getElem?_eq_getElem (by omega)⟩
  rw [h1, hx0] at e0
  rw [h3, hx1] at e1
  simp only [List.drop_zero, List.take_succ_cons, List.take_zero, List.drop_succ_cons] at e0 e1
  obtain ⟨a, n, c, rfl⟩ := slice_of Tryz.underlying22 e0
  obtain ⟨a2, m, c2, rfl⟩ := slice_of Tryz.underlying23 e1
  obtain ⟨d0, p0⟩ := x0
  obtain ⟨d1, p1⟩ := x1
  obtain ⟨ws, k1, k2, k3, k4⟩ := open_wds (d := d0) (p := p0) ⟨k, by simpa [Value.cells] using e0⟩
  obtain ⟨os, l1, l2, l3⟩ := open_ods (d := d1) (p := p1) ⟨k, by simpa [Value.cells] using e1⟩
  refine ⟨a, n, c, a2, m, c2, ?_, ws, k1, k2, k3, k4, os, l1, l2, l3⟩
  rw [← Array.toArray_toList (xs := cs), huv]

set_option maxRecDepth 100000 in
theorem open_nums {a0 : Option Addr} {len cap : Nat} {d : DataW H} {p : List MemPlace} (h : DataW.Trod enc Tryz.prog W base spare held 34 (.slice a0 len cap) d p) :
    ∃ l : List Int, len = l.length ∧ IntAt W W.heap.size a0 l ∧ len ≤ 9223372036854775807 := by
  obtain ⟨fuel, hf⟩ := h
  have h1 : Tryz.prog.cellsOf 3 = 1 := by kernel_rfl
  rcases open_slice1 Tryz.underlying34 h1 hf with ⟨hcs, _⟩ | ⟨a, l, c, m, n, V, D, Pl, hcs, _, hlc, hm, hmm, _, hx⟩
  · simp [Value.cells] at hcs
    obtain ⟨rfl, rfl, rfl⟩ := hcs
    exact ⟨[], rfl, Reads.none_, by omega⟩
  · simp [Value.cells] at hcs
    obtain ⟨rfl, rfl, rfl⟩ := hcs
    have hlm : len ≤ m := by rw [hmm]; split <;> omega
    have hex : ∀ i, i < len → ∃ q : Int, W.cell? (a.add i) = some (.int .i64 q) := by
      intro i hi
      obtain ⟨hc, ht⟩ := hx i (by omega)
      obtain ⟨q, hq, _, _⟩ := DataW.trod_int Tryz.underlying3 ht
      simp at hq
      exact ⟨q, by rw [hc, hq]⟩
    obtain ⟨f, hf'⟩ := choose_lt (α := Int) hex
    refine ⟨(List.range len).map f, by simp, ⟨by rw [intCells_length]; simp, fun hn => ⟨a, rfl, ?_, fun j u hu => ?_⟩⟩, by unfold maxLen at hm; omega⟩
    · have c0 := hf' 0 (by simpa using hn)
      have := World.block_lt_of_cell? W _ c0
      simpa [Addr.add] using this
    · have hj : j < len := by
        have := (List.getElem?_eq_some_iff.1 hu).1
        rw [intCells_length] at this
        simpa using this
      rw [hf' j hj, ← hu]
      simp [intCells, hj]
end
end Go.Proofs.YtpjlhpaenmfieaaGreat
