/- kinds: a whole row stored into a block; blocks behind it. -/
import Derived.Test.YtanpljalbijfkaaKinI
import Derived.Deep.RegionHeld
namespace Go.Proofs.Ytanpljalbijfkaa
open Go.RowKit

theorem wpList_unguard' {P : Program} {ops : Array Oper} {rest : List Oper} {o : Oper} {a : Act} {w : World} {Q : Exit → Act → World → Prop} (hw : Region.wanted o (yielded ops a.tmps) = true) (h : wpList P ops Q ({ o with guard := none } :: rest) a w) : wpList P ops Q (o :: rest) a w := by
  unfold wpList at h ⊢
  rw [if_pos hw]
  rw [if_pos (by simp [Region.wanted])] at h
  exact h
theorem wp_store_blk {P : Program} {op : Oper} {a : Act} {w : World} {K : Act → World → Prop} {Q : Exit → Act → World → Prop} (ty : TypeId) (x y : Operand) (ho : op.op = .store ty x y) (g : Nat) (c c' : Array Value) (hB : Blk w g ty c)
    (hx : a.eval x = .pointer (some ⟨g, 0, none⟩)) (hy : a.eval y = .agg c') (hi : (P.info? ty).map (·.size) = some c'.size) (hs : c.size = c'.size) (h1 : c'.all (·.oneCell') = true) (h : K (a.put op.dst undef) (w.setRow g c')) : op.wp P a w K Q := by
  unfold Oper.wp execOp
  simp only [ho, hx, hy, Instr.storeAt, Instr.sureAddr, Sem.run_bind, Sem.run_pure, Result.andThen_ok, run_storeVar_row w g ty ty c c' hB hi hs h1]
  exact h
theorem heap_setRow_other (w : World) (g k : Nat) (cs : Array Value) (h : k ≠ g) : (w.setRow g cs).heap[k]? = w.heap[k]? := by
  unfold World.setRow
  rw [Array.getElem?_modify, if_neg (fun e => h e.symm)]
theorem Blk.setRow_same {w : World} {g : Nat} {t : TypeId} {c : Array Value} (h : Blk w g t c) (c' : Array Value) : Blk (w.setRow g c') g t c' := setRow_heap w g c c' t (0, 0) h
theorem Blk.setRow_other {w : World} {g g' : Nat} {t : TypeId} {c : Array Value} (h : Blk w g' t c) (hne : g' ≠ g) (c' : Array Value) : Blk (w.setRow g c') g' t c := (heap_setRow_other w g g' c' hne).trans h
theorem ext_setRow {W w : World} (h : Ext W w) {g : Nat} (hg : W.heap.size ≤ g) (c : Array Value) : Ext W (w.setRow g c) := by
  refine ⟨h.os, h.tape, h.output, ?_, fun k hk => ?_⟩
  · have := h.size
    unfold World.setRow
    simpa using this
  · exact (heap_setRow_other w g k c (by omega)).trans (h.block k hk)
end Go.Proofs.Ytanpljalbijfkaa
