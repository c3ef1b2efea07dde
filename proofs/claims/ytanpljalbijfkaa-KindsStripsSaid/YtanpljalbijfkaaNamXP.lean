/- Texts of which none stands twice, plain. -/
import Derived.Test.YtanpljalbijfkaaNamU
namespace Go.Proofs.Ytanpljalbijfkaa
open Go.RowKit

theorem nodup_le {α : Type} [DecidableEq α] {a b : List α} (hn : a.Nodup) (h : ∀ x ∈ a, x ∈ b) : a.length ≤ b.length := by
  induction a generalizing b with
  | nil => exact Nat.zero_le _
  | cons x a ih =>
    rw [List.nodup_cons] at hn
    have hx := h x (List.mem_cons_self ..)
    have := ih (b := b.erase x) hn.2 fun y hy => (List.mem_erase_of_ne (by rintro rfl; exact hn.1 hy)).2 (h y (List.mem_cons_of_mem _ hy))
    rw [List.length_erase_of_mem hx] at this
    have hp := List.length_pos_of_mem hx
    simp
    omega
theorem nodup_all {n : Nat} {O : List Nat} (hn : O.Nodup) (h : ∀ x ∈ O, x < n) (hl : O.length = n) {i : Nat} (hi : i < n) : i ∈ O := by
  by_cases hm : i ∈ O
  · exact hm
  exfalso
  have hir : i ∈ List.range n := List.mem_range.2 hi
  have := nodup_le (b := (List.range n).erase i) hn fun y hy => (List.mem_erase_of_ne (by rintro rfl; exact hm hy)).2 (List.mem_range.2 (h y hy))
  rw [List.length_erase_of_mem hir, List.length_range] at this
  omega

theorem twice_neg {l : List ByteArray} : twiceL l < 0 ↔ ∀ j, j < l.length → twiceP l j = false := by
  constructor
  · intro h j hj
    unfold twiceL at h
    cases hf : (List.range l.length).find? (twiceP l) with
    | some i => rw [hf] at h; exact absurd h (by show ¬ (i : Int) < 0; omega)
    | none =>
      rw [List.find?_eq_none] at hf
      have := hf j (List.mem_range.2 hj)
      simpa using this
  · intro h
    rw [twice_miss h]
    decide
theorem twiceP_iff {l : List ByteArray} {i : Nat} (hi : i < l.length) : twiceP l i = false ↔ ∀ j (hj : j < l.length), j < i → l[j] ≠ l[i] := by
  unfold twiceP
  rw [List.getD_eq_getElem?_getD, List.getElem?_eq_getElem hi]
  show decide (findL l l[i] < (i : Int)) = false ↔ _
  rw [decide_eq_false_iff_not, findL_lt hi]
  constructor
  · intro h j hj hji e; exact h ⟨j, hj, hji, e⟩
  · rintro h ⟨j, hj, hji, e⟩; exact h j hj hji e
theorem twice_nodup {l : List ByteArray} : twiceL l < 0 ↔ l.Nodup := by
  rw [twice_neg, List.Nodup, List.pairwise_iff_getElem]
  constructor
  · intro h i j hi hj hij
    exact (twiceP_iff hj).1 (h j hj) i hi hij
  · intro h j hj
    exact (twiceP_iff hj).2 fun i hi hij => h i j hi hj hij

theorem sorted_nodup {l R : List ByteArray} (h : SortedOf l R) : R.Nodup := h.1.imp fun {a b} hab => bl_ne hab
theorem table_len {l : List ByteArray} {O : List Nat} (h : TableOK l O) : O.length = l.length ↔ twiceL l < 0 := by
  have hs := table_sorted h
  have hno : O.Nodup := h.up.imp fun {a b} hab e => by rw [e, bl_irrefl] at hab; cases hab
  constructor
  · intro hl
    rw [twice_neg]
    intro i hi
    refine (twiceP_iff hi).2 fun j hj hji e => ?_
    have hm := nodup_all hno (fun x hx => (h.first x hx).1) hl hi
    have := (h.first i hm).2 j hj (by rw [sAt_eq hj, sAt_eq hi]; exact e)
    omega
  · intro ht
    rw [twice_nodup] at ht
    have := nodup_le (b := O.map (sAt l)) ht fun x hx => (hs.2 x).2 hx
    rw [List.length_map] at this
    have := h.short
    omega

theorem findL_self {l : List ByteArray} {i : Nat} (h : i < l.length) : ∃ p : Nat, ∃ hp : p < l.length, findL l l[i] = (p : Int) ∧ p ≤ i ∧ l[p] = l[i] := by
  unfold findL
  cases hf : l.findIdx? (fun x => decide (x = l[i])) with
  | none =>
    rw [List.findIdx?_eq_none_iff] at hf
    have := hf l[i] (List.getElem_mem h)
    simp at this
  | some k =>
    rw [List.findIdx?_eq_some_iff_getElem] at hf
    obtain ⟨hk, he, hlt⟩ := hf
    refine ⟨k, hk, rfl, ?_, by simpa using he⟩
    by_cases hki : k ≤ i
    · exact hki
    · exfalso; exact hlt i (by omega) (by simp)
end Go.Proofs.Ytanpljalbijfkaa
