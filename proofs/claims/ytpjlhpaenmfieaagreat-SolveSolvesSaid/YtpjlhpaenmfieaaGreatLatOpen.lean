/- How words and pairs of words read as arguments. -/
import Derived.Test.YtpjlhpaenmfieaaGreatLatSt
import Derived.ProofKit
import Derived.OpenShut
import Derived.ChangeOld
import Derived.Deep.Slices
namespace Go.Proofs.YtpjlhpaenmfieaaGreat
open Go.ChangeShapes Go.WideShapes Go.ChangeAt Go.RowKit Go.Deep

theorem Tryz.own : ownKnob Tryz.prog.godebug = none := by kernel_rfl
theorem Tryz.laidOut : laidOutB Tryz.prog = true := by kernel_rfl

theorem len2 {α : Type} {l : List α} (h : l.length = 2) : ∃ a b, l = [a, b] := by
  match l, h with
  | [a, b], _ => exact ⟨a, b, rfl⟩
theorem len4 {α : Type} {l : List α} (h : l.length = 4) : ∃ a b c d, l = [a, b, c, d] := by
  match l, h with
  | [a, b, c, d], _ => exact ⟨a, b, c, d, rfl⟩

section
variable {H : Type} {enc : TypeId × Value → H} {W : World} {base : Nat} {spare : Nat → Bool} {held : Bool}

set_option maxRecDepth 100000 in
theorem trod_wd {fuel : Nat} {cs : List Value} {x : DataW H × List MemPlace} (h : DataW.trod enc Tryz.prog W base spare held fuel 44 cs = some x) : ∃ p : Wd, cs = [.string p.1, .int .i64 p.2] ∧ p.1.size ≤ maxLen := by
  obtain ⟨xs, m, _, _, hl, hxl, hx⟩ := DataW.trod_struct Tryz.underlying44 h
  have h2 : Tryz.prog.cellsOf 44 = 2 := by kernel_rfl
  have h1 : Tryz.prog.cellsOf 9 = 1 := by kernel_rfl
  have h3 : Tryz.prog.cellsOf 3 = 1 := by kernel_rfl
  have hl' : cs.length = 2 := hl.trans h2
  clear hl h2
  obtain ⟨u, v, rfl⟩ := len2 hl'
  have e0 : DataW.trod enc Tryz.prog W base spare held m 9 (List.take (Tryz.prog.cellsOf 9) (List.drop 0 [u, v])) = xs[0]? := hx 0 _ rfl
  have e1 : DataW.trod enc Tryz.prog W base spare held m 3 (List.take (Tryz.prog.cellsOf 3) (List.drop 1 [u, v])) = xs[1]? := hx 1 _ rfl
  have hxl' : xs.length = 2 := hxl
  obtain ⟨x0, hx0⟩ : ∃ x0, xs[0]? = some x0 := ⟨_, List.getElem?_eq_getElem (by omega)⟩
  obtain ⟨x1, hx1⟩ : ∃ x1, xs[1]? = some x1 := ⟨_, List.getElem?_eq_getElem (by omega)⟩
  generalize Tryz.prog.cellsOf 9 = k at e0 h1
  generalize Tryz.prog.cellsOf 3 = k' at e1 h3
  subst h1 h3
  obtain ⟨s, ha, _, hw⟩ := DataW.trod_string Tryz.underlying9 (e0.trans hx0)
  obtain ⟨b, hb, _, _⟩ := DataW.trod_int Tryz.underlying3 (e1.trans hx1)
  simp at ha hb
  exact ⟨(s, b), by rw [ha, hb], hw⟩

set_option maxRecDepth 100000 in
theorem trod_od {fuel : Nat} {cs : List Value} {x : DataW H × List MemPlace} (h : DataW.trod enc Tryz.prog W base spare held fuel 68 cs = some x) : ∃ p : Wd × Wd, cs = [.string p.1.1, .int .i64 p.1.2, .string p.2.1, .int .i64 p.2.2] := by
  obtain ⟨xs, m, _, _, hl, hxl, hx⟩ := DataW.trod_struct Tryz.underlying68 h
  have h2 : Tryz.prog.cellsOf 68 = 4 := by kernel_rfl
  have h1 : Tryz.prog.cellsOf 44 = 2 := by kernel_rfl
  have hl' : cs.length = 4 := hl.trans h2
  clear hl h2
  obtain ⟨a, b, c, d, rfl⟩ := len4 hl'
  have e0 : DataW.trod enc Tryz.prog W base spare held m 44 (List.take (Tryz.prog.cellsOf 44) (List.drop 0 [a, b, c, d])) = xs[0]? := hx 0 _ rfl
  have e1 : DataW.trod enc Tryz.prog W base spare held m 44 (List.take (Tryz.prog.cellsOf 44) (List.drop 2 [a, b, c, d])) = xs[1]? := hx 1 _ rfl
  have hxl' : xs.length = 2 := hxl
  obtain ⟨x0, hx0⟩ : ∃ x0, xs[0]? = some x0 := ⟨_, List.getElem?_eq_getElem (by omega)⟩
  obtain ⟨x1, hx1⟩ : ∃ x1, xs[1]? = some x1 := ⟨_, List.getElem?_eq_getElem (by omega)⟩
  generalize Tryz.prog.cellsOf 44 = k at e0 e1 h1
  subst h1
  obtain ⟨p, hp, _⟩ := trod_wd (e0.trans hx0)
  obtain ⟨q, hq, _⟩ := trod_wd (e1.trans hx1)
  simp at hp hq
  exact ⟨(p, q), by rw [hp.1, hp.2, hq.1, hq.2]⟩

theorem lt_cut {n k j : Nat} (hk : 0 < k) (h : j < n * k) : j / k < n := Nat.div_lt_of_lt_mul (by rw [Nat.mul_comm]; exact h)
set_option maxRecDepth 100000 in
theorem open_wds {a0 : Option Addr} {len cap : Nat} {d : DataW H} {p : List MemPlace} (h : DataW.Trod enc Tryz.prog W base spare held 22 (.slice a0 len cap) d p) :
    ∃ ws : List Wd, len = ws.length ∧ WdsAt W W.heap.size a0 ws ∧ (∀ i, (wNm ws i).size ≤ maxLen) ∧ len ≤ 9223372036854775807 := by
  obtain ⟨fuel, hf⟩ := h
  have h2 : Tryz.prog.cellsOf 44 = 2 := by kernel_rfl
  rcases open_slice Tryz.underlying22 hf with ⟨hcs, _⟩ | ⟨a, l, c, m, n, D, Pl, hcs, _, hlc, hm, hmm, hd, hx⟩
  · simp [Value.cells] at hcs
    obtain ⟨rfl, rfl, rfl⟩ := hcs
    exact ⟨[], rfl, Reads.none_, by intro i; simp [wNm, wd0, maxLen, ByteArray.size], by omega⟩
  · simp [Value.cells] at hcs
    obtain ⟨rfl, rfl, rfl⟩ := hcs
    have hlm : len ≤ m := by rw [hmm]; split <;> omega
    rw [h2] at hx
    have hex : ∀ i, i < len → ∃ q : Wd, (W.cell? (a.add (i * 2)) = some (.string q.1) ∧ W.cell? (a.add (i * 2 + 1)) = some (.int .i64 q.2)) ∧ q.1.size ≤ maxLen := by
      intro i hi
      obtain ⟨cs, hc, ht⟩ := hx i (by omega)
      obtain ⟨q, rfl, hq⟩ := trod_wd ht
      obtain ⟨_, _, hat⟩ := World.cells?_some hc
      have c0 := hat 0 (by omega)
      have c1 := hat 1 (by omega)
      rw [add_add] at c0 c1
      exact ⟨q, ⟨by simpa using c0, by simpa using c1⟩, hq⟩
    obtain ⟨f, hf'⟩ := choose_lt (α := Wd) hex
    have hat : ∀ i, i < len → wNm ((List.range len).map f) i = (f i).1 ∧ wPl ((List.range len).map f) i = (f i).2 := fun i hi => by
      simp [wNm, wPl, List.getD_eq_getElem?_getD, List.getElem?_map, List.getElem?_range hi]
    refine ⟨(List.range len).map f, by simp, ⟨by rw [wdCells_length], fun hn => ⟨a, rfl, ?_, fun j u hu => ?_⟩⟩, fun i => ?_, by unfold maxLen at hm; omega⟩
    · have c0 := (hf' 0 (by simpa using hn)).1.1
      simp only [Nat.zero_mul] at c0
      have := World.block_lt_of_cell? W _ c0
      simpa [Addr.add] using this
    · have hj : j < len * 2 := by
        have := (List.getElem?_eq_some_iff.1 hu).1
        rw [wdCells_length] at this
        simpa using this
      have hk := lt_cut (by omega) hj
      have hg := wdCells_get ((List.range len).map f) (j / 2) (by simpa using hk)
      rw [(hat _ hk).1, (hat _ hk).2] at hg
      have hh := (hf' _ hk).1
      rcases Nat.mod_two_eq_zero_or_one j with e | e
      · have ej : j = j / 2 * 2 := by omega
        rw [ej] at hu ⊢
        rw [hg.1] at hu
        rw [hh.1, ← hu]
      · have ej : j = j / 2 * 2 + 1 := by omega
        rw [ej] at hu ⊢
        rw [hg.2] at hu
        rw [hh.2, ← hu]
    · by_cases hi' : i < len
      · rw [(hat i hi').1]; exact (hf' i hi').2
      · have : wNm ((List.range len).map f) i = ⟨#[]⟩ := by
          simp [wNm, wd0, List.getD_eq_getElem?_getD, List.getElem?_eq_none (show (List.range len).length ≤ i by simpa using hi')]
        rw [this]; simp [maxLen, ByteArray.size]
set_option maxRecDepth 100000 in
theorem open_ods {a0 : Option Addr} {len cap : Nat} {d : DataW H} {p : List MemPlace} (h : DataW.Trod enc Tryz.prog W base spare held 23 (.slice a0 len cap) d p) :
    ∃ os : List (Wd × Wd), len = os.length ∧ OdsAt W W.heap.size a0 os ∧ len ≤ 9223372036854775807 := by
  obtain ⟨fuel, hf⟩ := h
  have h2 : Tryz.prog.cellsOf 68 = 4 := by kernel_rfl
  rcases open_slice Tryz.underlying23 hf with ⟨hcs, _⟩ | ⟨a, l, c, m, n, D, Pl, hcs, _, hlc, hm, hmm, hd, hx⟩
  · simp [Value.cells] at hcs
    obtain ⟨rfl, rfl, rfl⟩ := hcs
    exact ⟨[], rfl, Reads.none_, by omega⟩
  · simp [Value.cells] at hcs
    obtain ⟨rfl, rfl, rfl⟩ := hcs
    have hlm : len ≤ m := by rw [hmm]; split <;> omega
    rw [h2] at hx
    have hex : ∀ i, i < len → ∃ q : Wd × Wd, W.cell? (a.add (i * 4)) = some (.string q.1.1) ∧ W.cell? (a.add (i * 4 + 1)) = some (.int .i64 q.1.2) ∧ W.cell? (a.add (i * 4 + 2)) = some (.string q.2.1) ∧ W.cell? (a.add (i * 4 + 3)) = some (.int .i64 q.2.2) := by
      intro i hi
      obtain ⟨cs, hc, ht⟩ := hx i (by omega)
      obtain ⟨q, rfl⟩ := trod_od ht
      obtain ⟨_, _, hat⟩ := World.cells?_some hc
      have c0 := hat 0 (by omega)
      have c1 := hat 1 (by omega)
      have c2 := hat 2 (by omega)
      have c3 := hat 3 (by omega)
      rw [add_add] at c0 c1 c2 c3
      exact ⟨q, by simpa using c0, by simpa using c1, by simpa using c2, by simpa using c3⟩
    obtain ⟨f, hf'⟩ := choose_lt (α := Wd × Wd) hex
    have hat : ∀ i, i < len → lo ((List.range len).map f) i = (f i).1 ∧ hi ((List.range len).map f) i = (f i).2 := fun i hi' => by
      simp [lo, hi, List.getD_eq_getElem?_getD, List.getElem?_map, List.getElem?_range hi']
    refine ⟨(List.range len).map f, by simp, ⟨by rw [odCells_length], fun hn => ⟨a, rfl, ?_, fun j u hu => ?_⟩⟩, by unfold maxLen at hm; omega⟩
    · have c0 := (hf' 0 (by simpa using hn)).1
      simp only [Nat.zero_mul] at c0
      have := World.block_lt_of_cell? W _ c0
      simpa [Addr.add] using this
    · have hj : j < len * 4 := by
        have := (List.getElem?_eq_some_iff.1 hu).1
        rw [odCells_length] at this
        simpa using this
      have hk := lt_cut (by omega) hj
      have hg := odCells_get ((List.range len).map f) (j / 4) (by simpa using hk)
      rw [(hat _ hk).1, (hat _ hk).2] at hg
      have hh := hf' _ hk
      have e4 : j % 4 = 0 ∨ j % 4 = 1 ∨ j % 4 = 2 ∨ j % 4 = 3 := by omega
      rcases e4 with e | e | e | e
      · have ej : j = j / 4 * 4 := by omega
        rw [ej] at hu ⊢
        rw [hg.1] at hu
        rw [hh.1, ← hu]
      · have ej : j = j / 4 * 4 + 1 := by omega
        rw [ej] at hu ⊢
        rw [hg.2.1] at hu
        rw [hh.2.1, ← hu]
      · have ej : j = j / 4 * 4 + 2 := by omega
        rw [ej] at hu ⊢
        rw [hg.2.2.1] at hu
        rw [hh.2.2.1, ← hu]
      · have ej : j = j / 4 * 4 + 3 := by omega
        rw [ej] at hu ⊢
        rw [hg.2.2.2] at hu
        rw [hh.2.2.2, ← hu]
end
end Go.Proofs.YtpjlhpaenmfieaaGreat
