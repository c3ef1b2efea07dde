/- How words and pairs of words read as arguments. -/
import Derived.Test.YtpjlhpaenmfieaaGreatLatSt
import Derived.ProofKit
import Derived.OpenShut
import Derived.ChangeOld
import Derived.Deep.Slices
import Derived.Test.YtpjlhpaenmfieaaGreatLabAll
import Derived.Test.YtpjlhpaenmfieaaGreatSolAll
namespace Go.Proofs.YtpjlhpaenmfieaaGreat
open Go.ChangeShapes Go.WideShapes Go.ChangeAt Go.RowKit Go.Deep

theorem Tryz.own : ownKnob Tryz.prog.godebug = none := by kernel_rfl
theorem Tryz.laidOut : laidOutB Tryz.prog = true := by kernel_rfl

theorem len2 {α : Type} {l : List α} (h : l.length = 2) : ∃ a b, l = [a, b] := by
  match l, h with
  | [a, b], _ => exact ⟨a, b, rfl⟩
theorem len4 {α : Type} {l : List α} (h : l.length = 4) : ∃ a b c d, l = [a, b, c, d] := by
  match l, h with
  | [a, b, c, d], _ => exact ⟨a, b, c, d, rfl⟩

section
variable {H : Type} {enc : TypeId × Value → H} {W : World} {base : Nat} {spare : Nat → Bool} {held : Bool}

set_option maxRecDepth 100000 in
theorem trod_wd {fuel : Nat} {cs : List Value} {x : DataW H × List MemPlace} (h : DataW.trod enc Tryz.prog W base spare held fuel 44 cs = some x) : ∃ p : Wd, cs = [.string p.1, .int .i64 p.2] ∧ p.1.size ≤ maxLen := by
  obtain ⟨xs, m, _, _, hl, hxl, hx⟩ := DataW.trod_struct Tryz.underlying44 h
  have h2 : Tryz.prog.cellsOf 44 = 2 := by kernel_rfl
  have h1 : Tryz.prog.cellsOf 9 = 1 := by kernel_rfl
  have h3 : Tryz.prog.cellsOf 3 = 1 := by kernel_rfl
  have hl' : cs.length = 2 := hl.trans h2
  clear hl h2
  obtain ⟨u, v, rfl⟩ := len2 hl'
  have e0 : DataW.trod enc Tryz.prog W base spare held m 9 (List.take (Tryz.prog.cellsOf 9) (List.drop 0 [u, v])) = xs[0]? := hx 0 _ rfl
  have e1 : DataW.trod enc Tryz.prog W base spare held m 3 (List.take (Tryz.prog.cellsOf 3) (List.drop 1 [u, v])) = xs[1]? := hx 1 _ rfl
  have hxl' : xs.length = 2 := hxl
  obtain ⟨x0, hx0⟩ : ∃ x0, xs[0]? = some x0 := ⟨_, List.getElem?_eq_getElem (by omega)⟩
  obtain ⟨x1, hx1⟩ : ∃ x1, xs[1]? = some x1 := ⟨_, List.getElem?_eq_getElem (by omega)⟩
  generalize Tryz.prog.cellsOf 9 = k at e0 h1
  generalize Tryz.prog.cellsOf 3 = k' at e1 h3
  subst h1 h3
  obtain ⟨s, ha, _, hw⟩ := DataW.trod_string Tryz.underlying9 (e0.trans hx0)
  obtain ⟨b, hb, _, _⟩ := DataW.trod_int Tryz.underlying3 (e1.trans hx1)
  simp at ha hb
  exact ⟨(s, b), by rw [ha, hb], hw⟩

set_option maxRecDepth 100000 in
theorem trod_od {fuel : Nat} {cs : List Value} {x : DataW H × List MemPlace} (h : DataW.trod enc Tryz.prog W base spare held fuel 68 cs = some x) : ∃ p : Wd × Wd, cs = [.string p.1.1, .int .i64 p.1.2, .string p.2.1, .int .i64 p.2.2] := by
  obtain ⟨xs, m, _, _, hl, hxl, hx⟩ := DataW.trod_struct Tryz.underlying68 h
  have h2 : Tryz.prog.cellsOf 68 = 4 := by kernel_rfl
  have h1 : Tryz.prog.cellsOf 44 = 2 := by kernel_rfl
  have hl' : cs.length = 4 := hl.trans h2
  clear hl h2
  obtain ⟨a, b, c, d, rfl⟩ := len4 hl'
  have e0 : DataW.trod enc Tryz.prog W base spare held m 44 (List.take (Tryz.prog.cellsOf 44) (List.drop 0 [a, b, c, d])) = xs[0]? := hx 0 _ rfl
  have e1 : DataW.trod enc Tryz.prog W base spare held m 44 (List.take (Tryz.prog.cellsOf 44) (List.drop 2 [a, b, c, d])) = xs[1]? := hx 1 _ rfl
  have hxl' : xs.length = 2 := hxl
  obtain ⟨x0, hx0⟩ : ∃ x0, xs[0]? = some x0 := ⟨_, List.getElem?_eq_getElem (by omega)⟩
  obtain ⟨x1, hx1⟩ : ∃ x1, xs[1]? = some x1 := ⟨_, List.getElem?_eq_getElem (by omega)⟩
  generalize Tryz.prog.cellsOf 44 = k at e0 e1 h1
  subst h1
  obtain ⟨p, hp, _⟩ := trod_wd (e0.trans hx0)
  obtain ⟨q, hq, _⟩ := trod_wd (e1.trans hx1)
  simp at hp hq
  exact ⟨(p, q), by rw [hp.1, hp.2, hq.1, hq.2]⟩

theorem lt_cut {n k j : Nat} (hk : 0 < k) (h : j < n * k) : j / k < n := Nat.div_lt_of_lt_mul (by rw [Nat.mul_comm]; exact h)
set_option maxRecDepth 100000 in
theorem open_wds {a0 : Option Addr} {len cap : Nat} {d : DataW H} {p : List MemPlace} (h : DataW.Trod enc Tryz.prog W base spare held 22 (.slice a0 len cap) d p) :
    ∃ ws : List Wd, len = ws.length ∧ WdsAt W W.heap.size a0 ws ∧ (∀ i, (wNm ws i).size ≤ maxLen) ∧ len ≤ 9223372036854775807 := by
  obtain ⟨fuel, hf⟩ := h
  have h2 : Tryz.prog.cellsOf 44 = 2 := by kernel_rfl
  rcases open_slice Tryz.underlying22 hf with ⟨hcs, _⟩ | ⟨a, l, c, m, n, D, Pl, hcs, _, hlc, hm, hmm, hd, hx⟩
  · simp [Value.cells] at hcs
    obtain ⟨rfl, rfl, rfl⟩ := hcs
    exact ⟨[], rfl, Reads.none_, by intro i; simp [wNm, wd0, maxLen, ByteArray.size], by omega⟩
  · simp [Value.cells] at hcs
    obtain ⟨rfl, rfl, rfl⟩ := hcs
    have hlm : len ≤ m := by rw [hmm]; split <;> omega
    rw [h2] at hx
    have hex : ∀ i, i < len → ∃ q : Wd, (W.cell? (a.add (i * 2)) = some (.string q.1) ∧ W.cell? (a.add (i * 2 + 1)) = some (.int .i64 q.2)) ∧ q.1.size ≤ maxLen := by
      intro i hi
      obtain ⟨cs, hc, ht⟩ := hx i (by omega)
      obtain ⟨q, rfl, hq⟩ := trod_wd ht
      obtain ⟨_, _, hat⟩ := World.cells?_some hc
      have c0 := hat 0 (by omega)
      have c1 := hat 1 (by omega)
      rw [add_add] at c0 c1
      exact ⟨q, ⟨by simpa using c0, by simpa using c1⟩, hq⟩
    obtain ⟨f, hf'⟩ := choose_lt (α := Wd) hex
    have hat : ∀ i, i < len → wNm ((List.range len).map f) i = (f i).1 ∧ wPl ((List.range len).map f) i = (f i).2 := fun i hi => by
      simp [wNm, wPl, List.getD_eq_getElem?_getD, List.getElem?_map, List.getElem?_range hi]
    refine ⟨(List.range len).map f, by simp, ⟨by rw [wdCells_length], fun hn => ⟨a, rfl, ?_, fun j u hu => ?_⟩⟩, fun i => ?_, by unfold maxLen at hm; omega⟩
    · have c0 := (hf' 0 (by simpa using hn)).1.1
      simp only [Nat.zero_mul] at c0
      have := World.block_lt_of_cell? W _ c0
      simpa [Addr.add] using this
    · have hj : j < len * 2 := by
        have := (List.getElem?_eq_some_iff.1 hu).1
        rw [wdCells_length] at this
        simpa using this
      have hk := lt_cut (by omega) hj
      have hg := wdCells_get ((List.range len).map f) (j / 2) (by simpa using hk)
      rw [(hat _ hk).1, (hat _ hk).2] at hg
      have hh := (hf' _ hk).1
      rcases Nat.mod_two_eq_zero_or_one j with e | e
      · have ej : j = j / 2 * 2 := by omega
        rw [ej] at hu ⊢
        rw [hg.1] at hu
        rw [hh.1, ← hu]
      · have ej : j = j / 2 * 2 + 1 := by omega
        rw [ej] at hu ⊢
        rw [hg.2] at hu
        rw [hh.2, ← hu]
    · by_cases hi' : i < len
      · rw [(hat i hi').1]; exact (hf' i hi').2
      · have : wNm ((List.range len).map f) i = ⟨#[]⟩ := by
          simp [wNm, wd0, List.getD_eq_getElem?_getD, List.getElem?_eq_none (show (List.range len).length ≤ i by simpa using hi')]
        rw [this]; simp [maxLen, ByteArray.size]
set_option maxRecDepth 100000 in
theorem open_ods {a0 : Option Addr} {len cap : Nat} {d : DataW H} {p : List MemPlace} (h : DataW.Trod enc Tryz.prog W base spare held 23 (.slice a0 len cap) d p) :
    ∃ os : List (Wd × Wd), len = os.length ∧ OdsAt W W.heap.size a0 os ∧ len ≤ 9223372036854775807 := by
  obtain ⟨fuel, hf⟩ := h
  have h2 : Tryz.prog.cellsOf 68 = 4 := by kernel_rfl
  rcases open_slice Tryz.underlying23 hf with ⟨hcs, _⟩ | ⟨a, l, c, m, n, D, Pl, hcs, _, hlc, hm, hmm, hd, hx⟩
  · simp [Value.cells] at hcs
    obtain ⟨rfl, rfl, rfl⟩ := hcs
    exact ⟨[], rfl, Reads.none_, by omega⟩
  · simp [Value.cells] at hcs
    obtain ⟨rfl, rfl, rfl⟩ := hcs
    have hlm : len ≤ m := by rw [hmm]; split <;> omega
    rw [h2] at hx
    have hex : ∀ i, i < len → ∃ q : Wd × Wd, W.cell? (a.add (i * 4)) = some (.string q.1.1) ∧ W.cell? (a.add (i * 4 + 1)) = some (.int .i64 q.1.2) ∧ W.cell? (a.add (i * 4 + 2)) = some (.string q.2.1) ∧ W.cell? (a.add (i * 4 + 3)) = some (.int .i64 q.2.2) := by
      intro i hi
      obtain ⟨cs, hc, ht⟩ := hx i (by omega)
      obtain ⟨q, rfl⟩ := trod_od ht
      obtain ⟨_, _, hat⟩ := World.cells?_some hc
      have c0 := hat 0 (by omega)
      have c1 := hat 1 (by omega)
      have c2 := hat 2 (by omega)
      have c3 := hat 3 (by omega)
      rw [add_add] at c0 c1 c2 c3
      exact ⟨q, by simpa using c0, by simpa using c1, by simpa using c2, by simpa using c3⟩
    obtain ⟨f, hf'⟩ := choose_lt (α := Wd × Wd) hex
    have hat : ∀ i, i < len → lo ((List.range len).map f) i = (f i).1 ∧ hi ((List.range len).map f) i = (f i).2 := fun i hi' => by
      simp [lo, hi, List.getD_eq_getElem?_getD, List.getElem?_map, List.getElem?_range hi']
    refine ⟨(List.range len).map f, by simp, ⟨by rw [odCells_length], fun hn => ⟨a, rfl, ?_, fun j u hu => ?_⟩⟩, by unfold maxLen at hm; omega⟩
    · have c0 := (hf' 0 (by simpa using hn)).1
      simp only [Nat.zero_mul] at c0
      have := World.block_lt_of_cell? W _ c0
      simpa [Addr.add] using this
    · have hj : j < len * 4 := by
        have := (List.getElem?_eq_some_iff.1 hu).1
        rw [odCells_length] at this
        simpa using this
      have hk := lt_cut (by omega) hj
      have hg := odCells_get ((List.range len).map f) (j / 4) (by simpa using hk)
      rw [(hat _ hk).1, (hat _ hk).2] at hg
      have hh := hf' _ hk
      have e4 : j % 4 = 0 ∨ j % 4 = 1 ∨ j % 4 = 2 ∨ j % 4 = 3 := by omega
      rcases e4 with e | e | e | e
      · have ej : j = j / 4 * 4 := by omega
        rw [ej] at hu ⊢
        rw [hg.1] at hu
        rw [hh.1, ← hu]
      · have ej : j = j / 4 * 4 + 1 := by omega
        rw [ej] at hu ⊢
        rw [hg.2.1] at hu
        rw [hh.2.1, ← hu]
      · have ej : j = j / 4 * 4 + 2 := by omega
        rw [ej] at hu ⊢
        rw [hg.2.2.1] at hu
        rw [hh.2.2.1, ← hu]
      · have ej : j = j / 4 * 4 + 3 := by omega
        rw [ej] at hu ⊢
        rw [hg.2.2.2] at hu
        rw [hh.2.2.2, ← hu]
end
end Go.Proofs.YtpjlhpaenmfieaaGreat
/- How a lattice's levels and order read as one argument; how numbers do. -/
namespace Go.Proofs.YtpjlhpaenmfieaaGreat
open Go.ChangeShapes Go.WideShapes Go.ChangeAt Go.RowKit Go.Deep

section
variable {H : Type} {enc : TypeId × Value → H} {W : World} {base : Nat} {spare : Nat → Bool} {held : Bool}

theorem slice_of {t e : TypeId} {fuel : Nat} {u : Value} {x : DataW H × List MemPlace} (ht : Tryz.prog.underlying t = some (.slice e)) (h : DataW.trod enc Tryz.prog W base spare held fuel t [u] = some x) : ∃ a n c, u = .slice a n c := by
  rcases open_slice ht h with ⟨hcs, _⟩ | ⟨a, l, c, m, n, D, Pl, hcs, _⟩
  · exact ⟨none, 0, 0, by simpa using hcs⟩
  · exact ⟨some a, l, c, by simpa using hcs⟩

set_option maxRecDepth 100000 in
theorem open_W {r : Reach} {b0 : Nat} {v : Value} {d : DataW H} {p : List MemPlace} (hv : Value.okWide Tryz.prog W r b0 25 v) (h : DataW.Trod enc Tryz.prog W base spare held 25 v d p) :
    ∃ a n c a2 m c2, v = .agg #[.slice a n c, .slice a2 m c2] ∧ ∃ ws : List Wd, n = ws.length ∧ WdsAt W W.heap.size a ws ∧ (∀ i, (wNm ws i).size ≤ maxLen) ∧ n ≤ 9223372036854775807 ∧ ∃ os : List (Wd × Wd), m = os.length ∧ OdsAt W W.heap.size a2 os ∧ m ≤ 9223372036854775807 := by
  simp only [Value.okWide, Tryz.underlying25] at hv
  obtain ⟨cs, rfl, _, _⟩ := hv
  obtain ⟨fuel, hf⟩ := h
  obtain ⟨xs, k, _, _, hl, hxl, hx⟩ := DataW.trod_struct Tryz.underlying25 hf
  have h2 : Tryz.prog.cellsOf 25 = 2 := by kernel_rfl
  have h1 : Tryz.prog.cellsOf 22 = 1 := by kernel_rfl
  have h3 : Tryz.prog.cellsOf 23 = 1 := by kernel_rfl
  have hl' : cs.toList.length = 2 := hl.trans h2
  clear hl h2
  obtain ⟨u, v, huv⟩ := len2 hl'
  have hx' := hx
  simp only [Value.cells, huv] at hx'
  have e0 : DataW.trod enc Tryz.prog W base spare held k 22 (List.take (Tryz.prog.cellsOf 22) (List.drop 0 [u, v])) = xs[0]? := hx' 0 _ rfl
  have e1 : DataW.trod enc Tryz.prog W base spare held k 23 (List.take (Tryz.prog.cellsOf 23) (List.drop 1 [u, v])) = xs[1]? := hx' 1 _ rfl
  have hxl' : xs.length = 2 := hxl
  obtain ⟨x0, hx0⟩ : ∃ x0, xs[0]? = some x0 := ⟨_, List.getElem?_eq_getElem (by omega)⟩
  obtain ⟨x1, hx1⟩ : ∃ x1, xs[1]? = some x1 := ⟨_, List.getElem?_eq_getElem (by omega)⟩
  rw [h1, hx0] at e0
  rw [h3, hx1] at e1
  simp only [List.drop_zero, List.take_succ_cons, List.take_zero, List.drop_succ_cons] at e0 e1
  obtain ⟨a, n, c, rfl⟩ := slice_of Tryz.underlying22 e0
  obtain ⟨a2, m, c2, rfl⟩ := slice_of Tryz.underlying23 e1
  obtain ⟨d0, p0⟩ := x0
  obtain ⟨d1, p1⟩ := x1
  obtain ⟨ws, k1, k2, k3, k4⟩ := open_wds (d := d0) (p := p0) ⟨k, by simpa [Value.cells] using e0⟩
  obtain ⟨os, l1, l2, l3⟩ := open_ods (d := d1) (p := p1) ⟨k, by simpa [Value.cells] using e1⟩
  refine ⟨a, n, c, a2, m, c2, ?_, ws, k1, k2, k3, k4, os, l1, l2, l3⟩
  rw [← Array.toArray_toList (xs := cs), huv]

set_option maxRecDepth 100000 in
theorem open_nums {a0 : Option Addr} {len cap : Nat} {d : DataW H} {p : List MemPlace} (h : DataW.Trod enc Tryz.prog W base spare held 34 (.slice a0 len cap) d p) :
    ∃ l : List Int, len = l.length ∧ IntAt W W.heap.size a0 l ∧ len ≤ 9223372036854775807 := by
  obtain ⟨fuel, hf⟩ := h
  have h1 : Tryz.prog.cellsOf 3 = 1 := by kernel_rfl
  rcases open_slice1 Tryz.underlying34 h1 hf with ⟨hcs, _⟩ | ⟨a, l, c, m, n, V, D, Pl, hcs, _, hlc, hm, hmm, _, hx⟩
  · simp [Value.cells] at hcs
    obtain ⟨rfl, rfl, rfl⟩ := hcs
    exact ⟨[], rfl, Reads.none_, by omega⟩
  · simp [Value.cells] at hcs
    obtain ⟨rfl, rfl, rfl⟩ := hcs
    have hlm : len ≤ m := by rw [hmm]; split <;> omega
    have hex : ∀ i, i < len → ∃ q : Int, W.cell? (a.add i) = some (.int .i64 q) := by
      intro i hi
      obtain ⟨hc, ht⟩ := hx i (by omega)
      obtain ⟨q, hq, _, _⟩ := DataW.trod_int Tryz.underlying3 ht
      simp at hq
      exact ⟨q, by rw [hc, hq]⟩
    obtain ⟨f, hf'⟩ := choose_lt (α := Int) hex
    refine ⟨(List.range len).map f, by simp, ⟨by rw [intCells_length]; simp, fun hn => ⟨a, rfl, ?_, fun j u hu => ?_⟩⟩, by unfold maxLen at hm; omega⟩
    · have c0 := hf' 0 (by simpa using hn)
      have := World.block_lt_of_cell? W _ c0
      simpa [Addr.add] using this
    · have hj : j < len := by
        have := (List.getElem?_eq_some_iff.1 hu).1
        rw [intCells_length] at this
        simpa using this
      rw [hf' j hj, ← hu]
      simp [intCells, hj]
end
end Go.Proofs.YtpjlhpaenmfieaaGreat
/- How a lattice, rules and a rule read as arguments (solve). -/
namespace Go.Proofs.YtpjlhpaenmfieaaGreat
open Go.ChangeShapes Go.WideShapes Go.ChangeAt Go.RowKit Go.Deep

theorem three_of {α : Type} {l : List α} (h : l.length = 3) : ∃ a b c, l = [a, b, c] := by
  match l, h with
  | [a, b, c], _ => exact ⟨a, b, c, rfl⟩

section
variable {H : Type} {enc : TypeId × Value → H} {W : World} {base : Nat} {spare : Nat → Bool} {held : Bool}

set_option maxRecDepth 100000 in
theorem open_W44 {r : Reach} {b0 : Nat} {v : Value} {d : DataW H} {p : List MemPlace} (hv : Value.okWide Tryz.prog W r b0 56 v) (h : DataW.Trod enc Tryz.prog W base spare held 56 v d p) :
    ∃ a n c a2 m c2, v = .agg #[.slice a n c, .slice a2 m c2] ∧ ∃ ws : List Wd, n = ws.length ∧ WdsAt W W.heap.size a ws ∧ (∀ i, (wNm ws i).size ≤ maxLen) ∧ n ≤ 9223372036854775807 ∧ ∃ os : List (Wd × Wd), m = os.length ∧ OdsAt W W.heap.size a2 os ∧ m ≤ 9223372036854775807 := by
  simp only [Value.okWide, Tryz.underlying56] at hv
  obtain ⟨cs, rfl, _, _⟩ := hv
  obtain ⟨fuel, hf⟩ := h
  obtain ⟨xs, k, _, _, hl, hxl, hx⟩ := DataW.trod_struct Tryz.underlying56 hf
  have h2 : Tryz.prog.cellsOf 56 = 2 := by kernel_rfl
  have h1 : Tryz.prog.cellsOf 22 = 1 := by kernel_rfl
  have h3 : Tryz.prog.cellsOf 23 = 1 := by kernel_rfl
  have hl' : cs.toList.length = 2 := hl.trans h2
  clear hl h2
  obtain ⟨u, v, huv⟩ := len2 hl'
  have hx' := hx
  simp only [Value.cells, huv] at hx'
  have e0 : DataW.trod enc Tryz.prog W base spare held k 22 (List.take (Tryz.prog.cellsOf 22) (List.drop 0 [u, v])) = xs[0]? := hx' 0 _ rfl
  have e1 : DataW.trod enc Tryz.prog W base spare held k 23 (List.take (Tryz.prog.cellsOf 23) (List.drop 1 [u, v])) = xs[1]? := hx' 1 _ rfl
  have hxl' : xs.length = 2 := hxl
  obtain ⟨x0, hx0⟩ : ∃ x0, xs[0]? = some x0 := ⟨_, List.getElem?_eq_getElem (by omega)⟩
  obtain ⟨x1, hx1⟩ : ∃ x1, xs[1]? = some x1 := ⟨_, List.getElem?_eq_getElem (by omega)⟩
  rw [h1, hx0] at e0
  rw [h3, hx1] at e1
  simp only [List.drop_zero, List.take_succ_cons, List.take_zero, List.drop_succ_cons] at e0 e1
  obtain ⟨a, n, c, rfl⟩ := slice_of Tryz.underlying22 e0
  obtain ⟨a2, m, c2, rfl⟩ := slice_of Tryz.underlying23 e1
  obtain ⟨d0, p0⟩ := x0
  obtain ⟨d1, p1⟩ := x1
  obtain ⟨ws, k1, k2, k3, k4⟩ := open_wds (d := d0) (p := p0) ⟨k, by simpa [Value.cells] using e0⟩
  obtain ⟨os, l1, l2, l3⟩ := open_ods (d := d1) (p := p1) ⟨k, by simpa [Value.cells] using e1⟩
  refine ⟨a, n, c, a2, m, c2, ?_, ws, k1, k2, k3, k4, os, l1, l2, l3⟩
  rw [← Array.toArray_toList (xs := cs), huv]

set_option maxRecDepth 100000 in
theorem trod_rule {fuel : Nat} {cs : List Value} {x : DataW H × List MemPlace} (h : DataW.trod enc Tryz.prog W base spare held fuel 106 cs = some x) : ∃ r : Ru, cs = [.int .i64 r.1, .int .i64 r.2.1, .int .i64 r.2.2] := by
  obtain ⟨xs, m, _, _, hl, hxl, hx⟩ := DataW.trod_struct Tryz.underlying106 h
  have h2 : Tryz.prog.cellsOf 106 = 3 := by kernel_rfl
  have h1 : Tryz.prog.cellsOf 3 = 1 := by kernel_rfl
  have hl' : cs.length = 3 := hl.trans h2
  clear hl h2
  obtain ⟨u, v, t, rfl⟩ := three_of hl'
  have e0 : DataW.trod enc Tryz.prog W base spare held m 3 (List.take (Tryz.prog.cellsOf 3) (List.drop 0 [u, v, t])) = xs[0]? := hx 0 _ rfl
  have e1 : DataW.trod enc Tryz.prog W base spare held m 3 (List.take (Tryz.prog.cellsOf 3) (List.drop 1 [u, v, t])) = xs[1]? := hx 1 _ rfl
  have e2 : DataW.trod enc Tryz.prog W base spare held m 3 (List.take (Tryz.prog.cellsOf 3) (List.drop 2 [u, v, t])) = xs[2]? := hx 2 _ rfl
  have hxl' : xs.length = 3 := hxl
  obtain ⟨x0, hx0⟩ : ∃ x0, xs[0]? = some x0 := ⟨_, List.getElem?_eq_getElem (by omega)⟩
  obtain ⟨x1, hx1⟩ : ∃ x1, xs[1]? = some x1 := ⟨_, List.getElem?_eq_getElem (by omega)⟩
  obtain ⟨x2, hx2⟩ : ∃ x2, xs[2]? = some x2 := ⟨_, List.getElem?_eq_getElem (by omega)⟩
  generalize Tryz.prog.cellsOf 3 = k at e0 e1 e2 h1
  subst h1
  obtain ⟨a, ha, _, _⟩ := DataW.trod_int Tryz.underlying3 (e0.trans hx0)
  obtain ⟨b, hb, _, _⟩ := DataW.trod_int Tryz.underlying3 (e1.trans hx1)
  obtain ⟨c, hc, _, _⟩ := DataW.trod_int Tryz.underlying3 (e2.trans hx2)
  simp at ha hb hc
  exact ⟨(a, b, c), by rw [ha, hb, hc]⟩

set_option maxRecDepth 100000 in
theorem open_rule {r : Reach} {b0 : Nat} {v : Value} {d : DataW H} {p : List MemPlace} (hv : Value.okWide Tryz.prog W r b0 106 v) (h : DataW.Trod enc Tryz.prog W base spare held 106 v d p) : ∃ k a b : Int, v = .agg #[.int .i64 k, .int .i64 a, .int .i64 b] := by
  simp only [Value.okWide, Tryz.underlying106] at hv
  obtain ⟨cs, rfl, _, _⟩ := hv
  obtain ⟨fuel, hf⟩ := h
  obtain ⟨q, e⟩ := trod_rule hf
  refine ⟨q.1, q.2.1, q.2.2, ?_⟩
  have : cs.toList = [.int .i64 q.1, .int .i64 q.2.1, .int .i64 q.2.2] := by simpa [Value.cells] using e
  rw [← Array.toArray_toList (xs := cs), this]

set_option maxRecDepth 100000 in
theorem open_rules {a0 : Option Addr} {len cap : Nat} {d : DataW H} {p : List MemPlace} (h : DataW.Trod enc Tryz.prog W base spare held 57 (.slice a0 len cap) d p) :
    ∃ rs : List Ru, len = rs.length ∧ RlsAt W W.heap.size a0 rs ∧ len ≤ 9223372036854775807 := by
  obtain ⟨fuel, hf⟩ := h
  have h2 : Tryz.prog.cellsOf 106 = 3 := by kernel_rfl
  rcases open_slice Tryz.underlying57 hf with ⟨hcs, _⟩ | ⟨a, l, c, m, n, D, Pl, hcs, _, hlc, hm, hmm, hd, hx⟩
  · simp [Value.cells] at hcs
    obtain ⟨rfl, rfl, rfl⟩ := hcs
    exact ⟨[], rfl, Reads.none_, by omega⟩
  · simp [Value.cells] at hcs
    obtain ⟨rfl, rfl, rfl⟩ := hcs
    have hlm : len ≤ m := by rw [hmm]; split <;> omega
    rw [h2] at hx
    have hex : ∀ i, i < len → ∃ q : Ru, W.cell? (a.add (i * 3)) = some (.int .i64 q.1) ∧ W.cell? (a.add (i * 3 + 1)) = some (.int .i64 q.2.1) ∧ W.cell? (a.add (i * 3 + 2)) = some (.int .i64 q.2.2) := by
      intro i hi
      obtain ⟨cs, hc, ht⟩ := hx i (by omega)
      obtain ⟨q, rfl⟩ := trod_rule ht
      obtain ⟨_, _, hat⟩ := World.cells?_some hc
      have c0 := hat 0 (by omega)
      have c1 := hat 1 (by omega)
      have c2 := hat 2 (by omega)
      rw [add_add] at c0 c1 c2
      exact ⟨q, by simpa using c0, by simpa using c1, by simpa using c2⟩
    obtain ⟨f, hf'⟩ := choose_lt (α := Ru) hex
    have hat : ∀ i, i < len → rl ((List.range len).map f) i = f i := fun i hi' => by
      simp [rl, List.getD_eq_getElem?_getD, List.getElem?_map, List.getElem?_range hi']
    refine ⟨(List.range len).map f, by simp, ⟨by rw [rlCells_length], fun hn => ⟨a, rfl, ?_, fun j u hu => ?_⟩⟩, by unfold maxLen at hm; omega⟩
    · have c0 := (hf' 0 (by simpa using hn)).1
      simp only [Nat.zero_mul] at c0
      have := World.block_lt_of_cell? W _ c0
      simpa [Addr.add] using this
    · have hj : j < len * 3 := by
        have := (List.getElem?_eq_some_iff.1 hu).1
        rw [rlCells_length] at this
        simpa using this
      have hk := lt_cut (by omega) hj
      have hg := rlCells_get ((List.range len).map f) (j / 3) (by simpa using hk)
      rw [hat _ hk] at hg
      have hh := hf' _ hk
      have e3 : j % 3 = 0 ∨ j % 3 = 1 ∨ j % 3 = 2 := by omega
      rcases e3 with e | e | e
      · have ej : j = j / 3 * 3 := by omega
        rw [ej] at hu ⊢
        rw [hg.1] at hu
        rw [hh.1, ← hu]
      · have ej : j = j / 3 * 3 + 1 := by omega
        rw [ej] at hu ⊢
        rw [hg.2.1] at hu
        rw [hh.2.1, ← hu]
      · have ej : j = j / 3 * 3 + 2 := by omega
        rw [ej] at hu ⊢
        rw [hg.2.2] at hu
        rw [hh.2.2, ← hu]
end
end Go.Proofs.YtpjlhpaenmfieaaGreat
