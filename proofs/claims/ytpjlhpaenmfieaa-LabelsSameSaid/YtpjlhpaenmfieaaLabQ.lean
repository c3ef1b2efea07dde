/- append to the highest levels, which are read on. -/
import Derived.Test.YtpjlhpaenmfieaaLabAll
import Derived.ArgAppend
namespace Go.Proofs.Ytpjlhpaenmfieaa
open Go.RowKit

/-- A guarded operation whose guard lets it run, as one without a guard. -/
theorem wpList_unguard {P : Program} {ops : Array Oper} {rest : List Oper} {o : Oper} {a : Act} {w : World} {Q : Exit → Act → World → Prop} (hw : Region.wanted o (yielded ops a.tmps) = true) (h : wpList P ops Q ({ o with guard := none } :: rest) a w) : wpList P ops Q (o :: rest) a w := by
  unfold wpList at h ⊢
  rw [if_pos hw]
  rw [if_pos (by simp [Region.wanted])] at h
  exact h
theorem intCells_nat (H : List Nat) (u : Int) : intCells ((H.map fun (a : Nat) => (a : Int)) ++ [u]) = natCells H ++ [.int .i64 u] := by
  simp [intCells, natCells]
theorem wpList_append_high (w : World) {ops : Array Oper} {rest : List Oper} {o : Oper} {a : Act} {Q : Exit → Act → World → Prop} (hg : o.guard = none) (s x : Operand)
    (ho : o.op = .call { callee := .builtin .append, args := #[s, x], argTypes := #[48, 48] })
    (B : Nat) (A : Option Addr) (q c : Nat) (H : List Nat) (hs : a.eval s = .slice A q c) (hown : w.ownsRow B 3 1 (.slice A q c) q (natCells H)) (g1 : Nat) (u : Int) (c1 : Nat) (hx : a.eval x = .slice (some ⟨g1, 0, none⟩) 1 c1)
    (hr : w.cell? ⟨g1, 0, none⟩ = some (.int .i64 u)) (hq : q ≤ 1000) (hql : q = H.length)
    (h : ∀ A' c' w', IntAt w' w'.heap.size A' ((H.map fun (a : Nat) => (a : Int)) ++ [u]) → NatAt w' w'.heap.size A H → (∀ W : World, W.heap.size ≤ B → Ext W w → Ext W w') → wpList Try.prog ops Q rest (a.put o.dst (.slice A' (q + 1) c')) w') : wpList Try.prog ops Q (o :: rest) a w := by
  obtain ⟨i0, hi, hz, hs2, hb⟩ := info_int
  have hnews : ∀ j v, ([.int .i64 u] : List Value)[j]? = some v → w.cell? ((⟨g1, 0, none⟩ : Addr).add j) = some v := by
    intro j v hj
    match j, hj with
    | 0, hj => simp at hj; subst hj; simpa [Addr.add] using hr
  have hgrow : ∀ v' w', w'.ownsRow w.heap.size 3 1 v' (q + 1) (natCells H ++ [.int .i64 u]) → w.grownBy w' none → wpList Try.prog ops Q rest (a.put o.dst v') w' := by
    intro v' w' h1 h2
    have hE := ext_of_grown h2
    have hv : ∃ A' c', v' = .slice A' (q + 1) c' := by
      rcases h1.2 with ⟨e, h0⟩ | ⟨g, cap, cur, e, _⟩
      · omega
      · exact ⟨_, _, e⟩
    obtain ⟨A', c', rfl⟩ := hv
    refine h A' c' w' ?_ ?_ (fun W _ hW => hW.trans' hE)
    · unfold IntAt
      rw [intCells_nat, List.length_append, List.length_map, ← hql]
      exact Reads.of_own h1
    · have : NatAt w w.heap.size A H := by unfold NatAt; rw [← hql]; exact Reads.of_own hown
      exact this.ext hE
  have hlen : (natCells H).length = q * 1 := by rw [hql]; simp [natCells]
  rcases hown.2 with ⟨e, h0⟩ | ⟨g, cap, cur, e, hBg, hcur, hqc, hcm, hcs, htk⟩
  · injection e with e1 e2 e3
    subst e1 e3
    have hH : H = [] := List.length_eq_zero_iff.1 (by omega)
    subst hH
    subst h0
    exact wpList_append_grows w hg s x 48 ho 3 i0 _ 1 8 Try.underlying48 hi hz hs2 hb rfl (by decide) none 0 0 [] hs (fun _ => ⟨rfl, rfl⟩) rfl (fun b hb => by cases hb) ⟨g1, 0, none⟩ 1 c1 [.int .i64 u] hx rfl hnews (by simp [Value.oneCell']) (by omega) (by decide) (by decide) hgrow
  · injection e with e1 e2 e3
    subst e1 e3
    have hcells : ∀ j v, (natCells H)[j]? = some v → w.cell? ⟨g, 0 + j, none⟩ = some v := by
      intro j v hj
      have := hown.cells (g := g) rfl j v hj
      unfold Addr.add at this
      split at this
      · next h => subst h; exact this
      · exact this
    refine wpList_append_arg w hg s x 48 ho 3 i0 _ 1 8 Try.underlying48 hi hz hs2 hb rfl (by decide) g 0 q c (natCells H) hs hlen hcells ⟨g1, 0, none⟩ 1 c1 [.int .i64 u] hx rfl hnews (by simp [Value.oneCell']) ?_ (by unfold maxLen; omega) (by omega) ?_ (fun _ => hgrow)
    · intro hroom j hj
      have hj0 : j = 0 := by simpa using hj
      subst hj0
      have hsz : 0 + q * 1 + 0 < cur.size := by omega
      refine ⟨?_, ?_⟩
      · rw [cell_of_row w g _ cur 3 (0, 0) hcur, Array.getElem?_eq_getElem hsz]; rfl
      · exact (show Blk w g 3 cur from hcur).free _
    · intro hroom
      have hW : w.setCells g (0 + q * 1) [.int .i64 u] = w.setCell ⟨g, 0 + q * 1, none⟩ (.int .i64 u) := rfl
      rw [hW]
      have hB : Blk w g 3 cur := hcur
      have hB' := hB.set_ (0 + q * 1) (.int .i64 u)
      have hqs : 0 + q * 1 < cur.size := by omega
      have hold : ∀ j, j < q → ∀ v, (natCells H)[j]? = some v → (w.setCell ⟨g, 0 + q * 1, none⟩ (.int .i64 u)).cell? ⟨g, j, none⟩ = some v := by
        intro j hj v hv
        rw [hB'.cell j, Array.getElem?_setIfInBounds, if_neg (by omega), ← Array.getElem?_toList]
        rw [← htk, List.getElem?_take, if_pos (by omega)] at hv
        exact hv
      have hadd : ∀ j, (⟨g, 0, none⟩ : Addr).add j = ⟨g, j, none⟩ := by
        intro j
        unfold Addr.add
        split
        · next h => rw [h]
        · simp
      have hlt := hB'.lt
      refine h (some ⟨g, 0, none⟩) c _ ?_ ?_ (fun W hWB hWw => hWw.setCell (Nat.le_trans hWB hBg) _)
      · unfold IntAt
        rw [intCells_nat]
        refine ⟨by simp [natCells], fun _ => ⟨_, rfl, hlt, fun j v hv => ?_⟩⟩
        rw [hadd]
        by_cases hj : j < q
        · rw [List.getElem?_append_left (by omega)] at hv
          exact hold j hj v hv
        · rw [List.getElem?_append_right (by omega)] at hv
          have hj0 : j - (natCells H).length = 0 := by
            have := (List.getElem?_eq_some_iff.1 hv).1
            simpa using this
          rw [hj0] at hv
          simp at hv
          subst hv
          obtain rfl : j = 0 + q * 1 := by omega
          rw [hB'.cell, Array.getElem?_setIfInBounds, if_pos rfl, if_pos hqs]
      · refine ⟨by rw [hlen, hql], fun _ => ⟨_, rfl, hlt, fun j v hv => ?_⟩⟩
        rw [hadd]
        have hj : j < q := by
          have := (List.getElem?_eq_some_iff.1 hv).1
          omega
        exact hold j hj v hv
end Go.Proofs.Ytpjlhpaenmfieaa
