/- How a lattice, rules and a rule read as arguments (solve). -/
import Derived.Test.YtpjlhpaenmfieaaGreatLabOpen
import Derived.Test.YtpjlhpaenmfieaaGreatSolAll
namespace Go.Proofs.YtpjlhpaenmfieaaGreat
open Go.ChangeShapes Go.WideShapes Go.ChangeAt Go.RowKit Go.Deep

theorem three_of {α : Type} {l : List α} (h : l.length = 3) : ∃ a b c, l = [a, b, c] := by
  match l, h with
  | [a, b, c], _ => exact ⟨a, b, c, rfl⟩

section
variable {H : Type} {enc : TypeId × Value → H} {W : World} {base : Nat} {spare : Nat → Bool} {held : Bool}

set_option maxRecDepth 100000 in
theorem open_W44 {r : Reach} {b0 : Nat} {v : Value} {d : DataW H} {p : List MemPlace} (hv : Value.okWide Tryz.prog W r b0 56 v) (h : DataW.Trod enc Tryz.prog W base spare held 56 v d p) :
    ∃ a n c a2 m c2, v = .agg #[.slice a n c, .slice a2 m c2] ∧ ∃ ws : List Wd, n = ws.length ∧ WdsAt W W.heap.size a ws ∧ (∀ i, (wNm ws i).size ≤ maxLen) ∧ n ≤ 9223372036854775807 ∧ ∃ os : List (Wd × Wd), m = os.length ∧ OdsAt W W.heap.size a2 os ∧ m ≤ 9223372036854775807 := by
  simp only [Value.okWide, Tryz.underlying56] at hv
  obtain ⟨cs, rfl, _, _⟩ := hv
  obtain ⟨fuel, hf⟩ := h
  obtain ⟨xs, k, _, _, hl, hxl, hx⟩ := DataW.trod_struct Tryz.underlying56 hf
  have h2 : Tryz.prog.cellsOf 56 = 2 := by kernel_rfl
  have h1 : Tryz.prog.cellsOf 22 = 1 := by kernel_rfl
  have h3 : Tryz.prog.cellsOf 23 = 1 := by kernel_rfl
  have hl' : cs.toList.length = 2 := hl.trans h2
  clear hl h2
  obtain ⟨u, v, huv⟩ := len2 hl'
  have hx' := hx
  simp only [Value.cells, huv] at hx'
  have e0 : DataW.trod enc Tryz.prog W base spare held k 22 (List.take (Tryz.prog.cellsOf 22) (List.drop 0 [u, v])) = xs[0]? := hx' 0 _ rfl
  have e1 : DataW.trod enc Tryz.prog W base spare held k 23 (List.take (Tryz.prog.cellsOf 23) (List.drop 1 [u, v])) = xs[1]? := hx' 1 _ rfl
  have hxl' : xs.length = 2 := hxl
  obtain ⟨x0, hx0⟩ : ∃ x0, xs[0]? = some x0 := ⟨_, List.getElem?_eq_getElem (by omega)⟩
  obtain ⟨x1, hx1⟩ : ∃ x1, xs[1]? = some x1 := ⟨_, List.getElem?_eq_getElem (by omega)⟩
  rw [h1, hx0] at e0
  rw [h3, hx1] at e1
  simp only [List.drop_zero, List.take_succ_cons, List.take_zero, List.drop_succ_cons] at e0 e1
  obtain ⟨a, n, c, rfl⟩ := slice_of Tryz.underlying22 e0
  obtain ⟨a2, m, c2, rfl⟩ := slice_of Tryz.underlying23 e1
  obtain ⟨d0, p0⟩ := x0
  obtain ⟨d1, p1⟩ := x1
  obtain ⟨ws, k1, k2, k3, k4⟩ := open_wds (d := d0) (p := p0) ⟨k, by simpa [Value.cells] using e0⟩
  obtain ⟨os, l1, l2, l3⟩ := open_ods (d := d1) (p := p1) ⟨k, by simpa [Value.cells] using e1⟩
  refine ⟨a, n, c, a2, m, c2, ?_, ws, k1, k2, k3, k4, os, l1, l2, l3⟩
  rw [← Array.toArray_toList (xs := cs), huv]

set_option maxRecDepth 100000 in
theorem trod_rule {fuel : Nat} {cs : List Value} {x : DataW H × List MemPlace} (h : DataW.trod enc Tryz.prog W base spare held fuel 106 cs = some x) : ∃ r : Ru, cs = [.int .i64 r.1, .int .i64 r.2.1, .int .i64 r.2.2] := by
  obtain ⟨xs, m, _, _, hl, hxl, hx⟩ := DataW.trod_struct Tryz.underlying106 h
  have h2 : Tryz.prog.cellsOf 106 = 3 := by kernel_rfl
  have h1 : Tryz.prog.cellsOf 3 = 1 := by kernel_rfl
  have hl' : cs.length = 3 := hl.trans h2
  clear hl h2
  obtain ⟨u, v, t, rfl⟩ := three_of hl'
  have e0 : DataW.trod enc Tryz.prog W base spare held m 3 (List.take (Tryz.prog.cellsOf 3) (List.drop 0 [u, v, t])) = xs[0]? := hx 0 _ rfl
  have e1 : DataW.trod enc Tryz.prog W base spare held m 3 (List.take (Tryz.prog.cellsOf 3) (List.drop 1 [u, v, t])) = xs[1]? := hx 1 _ rfl
  have e2 : DataW.trod enc Tryz.prog W base spare held m 3 (List.take (Tryz.prog.cellsOf 3) (List.drop 2 [u, v, t])) = xs[2]? := hx 2 _ rfl
  have hxl' : xs.length = 3 := hxl
  obtain ⟨x0, hx0⟩ : ∃ x0, xs[0]? = some x0 := ⟨_, List.getElem?_eq_getElem (by omega)⟩
  obtain ⟨x1, hx1⟩ : ∃ x1, xs[1]? = some x1 := ⟨_, List.getElem?_eq_getElem (by omega)⟩
  obtain ⟨x2, hx2⟩ : ∃ x2, xs[2]? = some x2 := ⟨_, List.getElem?_eq_getElem (by omega)⟩
  generalize Tryz.prog.cellsOf 3 = k at e0 e1 e2 h1
  subst h1
  obtain ⟨a, ha, _, _⟩ := DataW.trod_int Tryz.underlying3 (e0.trans hx0)
  obtain ⟨b, hb, _, _⟩ := DataW.trod_int Tryz.underlying3 (e1.trans hx1)
  obtain ⟨c, hc, _, _⟩ := DataW.trod_int Tryz.underlying3 (e2.trans hx2)
  simp at ha hb hc
  exact ⟨(a, b, c), by rw [ha, hb, hc]⟩

set_option maxRecDepth 100000 in
theorem open_rule {r : Reach} {b0 : Nat} {v : Value} {d : DataW H} {p : List MemPlace} (hv : Value.okWide Tryz.prog W r b0 106 v) (h : DataW.Trod enc Tryz.prog W base spare held 106 v d p) : ∃ k a b : Int, v = .agg #[.int .i64 k, .int .i64 a, .int .i64 b] := by
  simp only [Value.okWide, Tryz.underlying106] at hv
  obtain ⟨cs, rfl, _, _⟩ := hv
  obtain ⟨fuel, hf⟩ := h
  obtain ⟨q, e⟩ := trod_rule hf
  refine ⟨q.1, q.2.1, q.2.2, ?_⟩
  have : cs.toList = [.int .i64 q.1, .int .i64 q.2.1, .int .i64 q.2.2] := by simpa [Value.cells] using e
  rw [← Array.toArray_toList (xs := cs), this]

set_option maxRecDepth 100000 in
theorem open_rules {a0 : Option Addr} {len cap : Nat} {d : DataW H} {p : List MemPlace} (h : DataW.Trod enc Tryz.prog W base spare held 57 (.slice a0 len cap) d p) :
    ∃ rs : List Ru, len = rs.length ∧ RlsAt W W.heap.size a0 rs ∧ len ≤ 9223372036854775807 := by
  obtain ⟨fuel, hf⟩ := h
  have h2 : Tryz.prog.cellsOf 106 = 3 := by kernel_rfl
  rcases open_slice Tryz.underlying57 hf with ⟨hcs, _⟩ | ⟨a, l, c, m, n, D, Pl, hcs, _, hlc, hm, hmm, hd, hx⟩
  · simp [Value.cells] at hcs
    obtain ⟨rfl, rfl, rfl⟩ := hcs
    exact ⟨[], rfl, Reads.none_, by omega⟩
  · simp [Value.cells] at hcs
    obtain ⟨rfl, rfl, rfl⟩ := hcs
    have hlm : len ≤ m := by rw [hmm]; split <;> omega
    rw [h2] at hx
    have hex : ∀ i, i < len → ∃ q : Ru, W.cell? (a.add (i * 3)) = some (.int .i64 q.1) ∧ W.cell? (a.add (i * 3 + 1)) = some (.int .i64 q.2.1) ∧ W.cell? (a.add (i * 3 + 2)) = some (.int .i64 q.2.2) := by
      intro i hi
      obtain ⟨cs, hc, ht⟩ := hx i (by omega)
      obtain ⟨q, rfl⟩ := trod_rule ht
      obtain ⟨_, _, hat⟩ := World.cells?_some hc
      have c0 := hat 0 (by omega)
      have c1 := hat 1 (by omega)
      have c2 := hat 2 (by omega)
      rw [add_add] at c0 c1 c2
      exact ⟨q, by simpa using c0, by simpa using c1, by simpa using c2⟩
    obtain ⟨f, hf'⟩ := choose_lt (α := Ru) hex
    have hat : ∀ i, i < len → rl ((List.range len).map f) i = f i := fun i hi' => by
      simp [rl, List.getD_eq_getElem?_getD, List.getElem?_map, List.getElem?_range hi']
    refine ⟨(List.range len).map f, by simp, ⟨by rw [rlCells_length], fun hn => ⟨a, rfl, ?_, fun j u hu => ?_⟩⟩, by unfold maxLen at hm; omega⟩
    · have c0 := (hf' 0 (by simpa using hn)).1
      simp only [Nat.zero_mul] at c0
      have := World.block_lt_of_cell? W _ c0
      simpa [Addr.add] using this
    · have hj : j < len * 3 := by
        have := (List.getElem?_eq_some_iff.1 hu).1
        rw [rlCells_length] at this
        simpa using this
      have hk := lt_cut (by omega) hj
      have hg := rlCells_get ((List.range len).map f) (j / 3) (by simpa using hk)
      rw [hat _ hk] at hg
      have hh := hf' _ hk
      have e3 : j % 3 = 0 ∨ j % 3 = 1 ∨ j % 3 = 2 := by omega
      rcases e3 with e | e | e
      · have ej : j = j / 3 * 3 := by omega
        rw [ej] at hu ⊢
        rw [hg.1] at hu
        rw [hh.1, ← hu]
      · have ej : j = j / 3 * 3 + 1 := by omega
        rw [ej] at hu ⊢
        rw [hg.2.1] at hu
        rw [hh.2.1, ← hu]
      · have ej : j = j / 3 * 3 + 2 := by omega
        rw [ej] at hu ⊢
        rw [hg.2.2] at hu
        rw [hh.2.2, ← hu]
end
end Go.Proofs.YtpjlhpaenmfieaaGreat
