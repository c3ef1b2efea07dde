/- Sorting by insertion, plain. -/
import Derived.Test.YtanpljalbijfkaaNamT
import Derived.BigRegion
namespace Go.Proofs.Ytanpljalbijfkaa
open Go.RowKit

/-- A text on its way to where it belongs: what is ahead, itself, what is behind. -/
structure Way (l : List ByteArray) (i : Nat) (x : ByteArray) (P S : List ByteArray) : Prop where
  up : (P ++ S).Pairwise fun a b => bl a b = true
  mem : ∀ y, y ∈ P ++ S ↔ ∃ j, ∃ h : j < l.length, j < i ∧ l[j] = y
  new : ∀ y ∈ P ++ S, y ≠ x
  big : ∀ y ∈ S, bl x y = true

theorem way_step {l : List ByteArray} {i : Nat} {x q : ByteArray} {P S : List ByteArray} (h : Way l i x (P ++ [q]) S) (hlt : bl x q = true) : Way l i x P (q :: S) := by
  obtain ⟨h1, h2, h3, h4⟩ := h
  have e : P ++ [q] ++ S = P ++ q :: S := by simp
  rw [e] at h1 h2 h3
  exact ⟨h1, h2, h3, fun y hy => by
    rcases List.mem_cons.1 hy with rfl | hy
    · exact hlt
    · exact h4 y hy⟩
theorem way_end {l : List ByteArray} {i : Nat} {x : ByteArray} {P S : List ByteArray} (h : Way l i x P S) (hi : i < l.length) (hx : x = l[i]) (he : P = [] ∨ ∃ P' q, P = P' ++ [q] ∧ bl x q = false) :
    (P ++ x :: S).Pairwise (fun a b => bl a b = true) ∧ ∀ y, y ∈ P ++ x :: S ↔ ∃ j, ∃ h : j < l.length, j < i + 1 ∧ l[j] = y := by
  obtain ⟨h1, h2, h3, h4⟩ := h
  rw [List.pairwise_append] at h1
  obtain ⟨p1, p2, p3⟩ := h1
  have hP : ∀ y ∈ P, bl y x = true := by
    rcases he with rfl | ⟨P', q, rfl, hq⟩
    · simp
    · have hqx : bl q x = true := by
        rcases bl_total q x with h | h | h
        · exact h
        · exact absurd h (h3 q (by simp))
        · rw [hq] at h; cases h
      intro y hy
      rcases List.mem_append.1 hy with hy | hy
      · rw [List.pairwise_append] at p1
        exact bl_trans (p1.2.2 y hy q (by simp)) hqx
      · obtain rfl : y = q := by simpa using hy
        exact hqx
  refine ⟨?_, fun y => ⟨fun hy => ?_, fun hy => ?_⟩⟩
  · rw [List.pairwise_append]
    refine ⟨p1, List.pairwise_cons.2 ⟨h4, p2⟩, fun a ha b hb => ?_⟩
    rcases List.mem_cons.1 hb with rfl | hb
    · exact hP a ha
    · exact p3 a ha b hb
  · rcases List.mem_append.1 hy with hy | hy
    · obtain ⟨j, hj, hji, e⟩ := (h2 y).1 (by simp [hy])
      exact ⟨j, hj, by omega, e⟩
    · rcases List.mem_cons.1 hy with rfl | hy
      · exact ⟨i, hi, by omega, hx.symm⟩
      · obtain ⟨j, hj, hji, e⟩ := (h2 y).1 (by simp [hy])
        exact ⟨j, hj, by omega, e⟩
  · obtain ⟨j, hj, hji, e⟩ := hy
    by_cases hj' : j = i
    · subst hj'
      rw [← hx] at e
      subst e
      simp
    · have := (h2 y).2 ⟨j, hj, by omega, e⟩
      rcases List.mem_append.1 this with h | h
      · simp [h]
      · simp [h]

theorem findL_lt {l : List ByteArray} {i : Nat} (h : i < l.length) : findL l l[i] < (i : Int) ↔ ∃ j, ∃ hj : j < l.length, j < i ∧ l[j] = l[i] := by
  unfold findL
  cases hf : l.findIdx? (fun x => decide (x = l[i])) with
  | none =>
    rw [List.findIdx?_eq_none_iff] at hf
    have := hf l[i] (List.getElem_mem h)
    simp at this
  | some k =>
    rw [List.findIdx?_eq_some_iff_getElem] at hf
    obtain ⟨hk, hk1, hk2⟩ := hf
    have hk1' : l[k] = l[i] := by simpa using hk1
    constructor
    · intro hlt
      exact ⟨k, hk, by simpa using hlt, hk1'⟩
    · rintro ⟨j, hj, hji, e⟩
      show (k : Int) < i
      rcases Nat.lt_or_ge j k with h1 | h1
      · have := hk2 j h1
        simp at this
        exact absurd e this
      · omega

theorem strCells_swap (P S : List ByteArray) (q x : ByteArray) : ((strCells (P ++ [q] ++ x :: S)).set (P.length + 1) (.string q)).set P.length (.string x) = strCells (P ++ x :: q :: S) := by
  have e : strCells (P ++ [q] ++ x :: S) = strCells P ++ (.string q :: .string x :: strCells S) := by simp [strCells]
  have e2 : strCells (P ++ x :: q :: S) = strCells P ++ (.string x :: .string q :: strCells S) := by simp [strCells]
  have hl : P.length = (strCells P).length := by simp [strCells]
  rw [e, e2, hl, List.set_append_right _ _ (by omega), List.set_append_right _ _ (Nat.le_refl _), Nat.add_sub_cancel_left, Nat.sub_self]
  rfl
theorem strCells_at2 (P S : List ByteArray) (q x : ByteArray) : (strCells (P ++ [q] ++ x :: S))[P.length]? = some (.string q) ∧ (strCells (P ++ [q] ++ x :: S))[P.length + 1]? = some (.string x) := by
  have e : strCells (P ++ [q] ++ x :: S) = strCells P ++ (.string q :: .string x :: strCells S) := by simp [strCells]
  have hl : P.length = (strCells P).length := by simp [strCells]
  rw [e, hl]
  constructor
  · rw [List.getElem?_append_right (Nat.le_refl _), Nat.sub_self]; rfl
  · rw [List.getElem?_append_right (by omega), Nat.add_sub_cancel_left]; rfl
theorem strCells_at (P S : List ByteArray) (x : ByteArray) : (strCells (P ++ x :: S))[P.length]? = some (.string x) := by
  simp [strCells]

theorem own_cell1' {w : World} {base : Nat} {e : TypeId} {A : Option Addr} {n c : Nat} {xs : List Value} (h : w.ownsRow base e 1 (.slice A n c) n xs) (hn : 0 < n) :
    ∃ g, A = some ⟨g, 0, none⟩ ∧ base ≤ g ∧ g < w.heap.size ∧ (∀ j, j < n → w.cell? ⟨g, j, none⟩ = xs[j]?) ∧ ∀ j, w.frozen? ⟨g, j, none⟩ = false := by
  rcases h.2 with ⟨_, h0⟩ | ⟨g, cap, cur, hv, hg, hb, _⟩
  · omega
  · injection hv with h1 h2 h3
    subst h1; subst h3
    exact ⟨g, rfl, hg, (Array.getElem?_eq_some_iff.1 hb).1, fun j hj => h.cellAt j (by omega), fun j => h.frozenAt j⟩

/-- All unlike texts of the first i, by bytes. -/
def SortedTo (l : List ByteArray) (i : Nat) (R : List ByteArray) : Prop := R.Pairwise (fun a b => bl a b = true) ∧ ∀ y, y ∈ R ↔ ∃ j, ∃ h : j < l.length, j < i ∧ l[j] = y
theorem sortedTo_end {l R : List ByteArray} (h : SortedTo l l.length R) : SortedOf l R := by
  refine ⟨h.1, fun y => (h.2 y).trans ⟨?_, fun hy => ?_⟩⟩
  · rintro ⟨j, hj, _, rfl⟩; exact List.getElem_mem hj
  · obtain ⟨j, hj, rfl⟩ := List.getElem_of_mem hy
    exact ⟨j, hj, hj, rfl⟩
theorem sortedTo_skip {l R : List ByteArray} {i : Nat} (h : SortedTo l i R) (hi : i < l.length) (hf : findL l l[i] < (i : Int)) : SortedTo l (i + 1) R := by
  refine ⟨h.1, fun y => (h.2 y).trans ⟨?_, ?_⟩⟩
  · rintro ⟨j, hj, hji, e⟩; exact ⟨j, hj, by omega, e⟩
  · rintro ⟨j, hj, hji, e⟩
    by_cases hj' : j = i
    · subst hj'
      obtain ⟨j2, h1, h2, h3⟩ := (findL_lt hi).1 hf
      exact ⟨j2, h1, h2, by rw [h3, e]⟩
    · exact ⟨j, hj, by omega, e⟩
theorem way_start {l R : List ByteArray} {i : Nat} (h : SortedTo l i R) (hi : i < l.length) (hf : ¬ findL l l[i] < (i : Int)) : Way l i l[i] R [] := by
  refine ⟨by rw [List.append_nil]; exact h.1, fun y => by rw [List.append_nil]; exact h.2 y, fun y hy e => ?_, by simp⟩
  rw [List.append_nil] at hy
  obtain ⟨j, hj, hji, e2⟩ := (h.2 y).1 hy
  exact hf ((findL_lt hi).2 ⟨j, hj, hji, by rw [e2, e]⟩)
end Go.Proofs.Ytanpljalbijfkaa
