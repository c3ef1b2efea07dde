/- The laws of layer 10: the chapter's example. -/
import Derived.Test.YtkfepdejiedjbaaRelO
import Derived.StillTailTactics
namespace Go.Proofs.Ytkfepdejiedjbaa
open Go.RowKit

theorem lives_rows : newRows 3 [(0, 2), (2, 1)] = [4, 0, 2] := by decide +kernel
theorem lives_ok : okPs 3 [(0, 2), (2, 1)] = true := by decide +kernel
theorem lives_loop : loopOf (RelM.close [4, 0, 2]) = none := by decide +kernel
theorem lives_order : orderOf [4, 0, 2] = [0, 2, 1] := by decide +kernel

theorem lives_pairs (w : World) : PairsAt (w.alloc (.cells #[.int .i64 0, .int .i64 2, .int .i64 2, .int .i64 1] 23)) (w.alloc (.cells #[.int .i64 0, .int .i64 2, .int .i64 2, .int .i64 1] 23)).heap.size (some ⟨w.heap.size, 0, none⟩) [(0, 2), (2, 1)] := by
  refine ⟨rfl, fun _ => ⟨_, rfl, by simp, fun j u hu => ?_⟩⟩
  match j, hu with
  | 0, hu => simp [pairCells] at hu; subst hu; simp [Addr.add]
  | 1, hu => simp [pairCells] at hu; subst hu; simp [Addr.add]
  | 2, hu => simp [pairCells] at hu; subst hu; simp [Addr.add]
  | 3, hu => simp [pairCells] at hu; subst hu; simp [Addr.add]

set_option maxRecDepth 100000 in
set_option maxHeartbeats 1000000 in
theorem relLives_any (w : World) : Calls Try.prog 15 #[] w (BoolPost true w) := by
  go_enter Try.func15, Try.ntmps15
  go_wp2_with fail
  have hN : Calls Try.prog 16 #[.int .i64 3, .slice (some ⟨w.heap.size, 0, none⟩) 2 2] (w.alloc (.cells #[.int .i64 0, .int .i64 2, .int .i64 2, .int .i64 1] 23)) (NewPost 3 [(0, 2), (2, 1)] (w.alloc (.cells #[.int .i64 0, .int .i64 2, .int .i64 2, .int .i64 1] 23))) :=
    relNew_any 3 (by omega) _ 2 [(0, 2), (2, 1)] _ (lives_pairs w) (by simp)
  refine hN.mono ?_
  rintro e w1 (⟨_, bo, rfl, hR, hE⟩ | ⟨hf, _⟩)
  · rw [lives_rows] at hR
    have hE' : Ext w w1 := Ext.trans' ((Ext.rfl' w).alloc (Nat.le_refl _) _) hE
    have HR := hide hR
    have HE := hide hE'
    clear hR hE hE' hN
    go_wp2_with fail
    refine (relOrder_any bo [4, 0, 2] _ HR.out).mono ?_
    rintro e w2 (⟨hf, _⟩ | ⟨_, A, c, he, hO, hE2⟩)
    · rw [lives_loop] at hf; cases hf
    · rw [lives_order] at he hO
      subst he
      have hE' : Ext w w2 := Ext.trans' HE.out hE2
      obtain ⟨g, hA, _, hc, _⟩ := own_cell hO (by decide)
      subst hA
      have c0 : w2.cell? ⟨g, 0, none⟩ = some (.int .i64 0) := hc 0 (by decide)
      have c1 : w2.cell? ⟨g, 1, none⟩ = some (.int .i64 2) := hc 1 (by decide)
      have c2 : w2.cell? ⟨g, 2, none⟩ = some (.int .i64 1) := hc 2 (by decide)
      have HE2 := hide hE'
      clear hO hE2 hE' hc
      go_wp2_with fail
      go_ret
      exact ⟨rfl, HE2.out⟩
  · rw [lives_ok] at hf; cases hf

end Go.Proofs.Ytkfepdejiedjbaa
