/- The Lattice's block as Build lays it. -/
import Derived.Test.YtpjlhpaenmfieaaGreatRelAll
import Derived.Laws.Tables
namespace Go.Proofs.YtpjlhpaenmfieaaGreat
open Go.RowKit

/-- The zero Lattice's cells, with n numbers. -/
def latZn (n : Nat) : List Value := Value.slice none 0 0 :: .pointer none :: .pointer none :: List.replicate n (.int .i64 0)
theorem latZn_length (n : Nat) : (latZn n).length = n + 3 := by simp [latZn]
theorem latZn_two (n : Nat) : (latZn n)[2]? = some (.pointer none) := rfl
theorem latZn_at {n i : Nat} (h : i < n) : (latZn n)[3 + i]? = some (.int .i64 0) := by
  unfold latZn
  rw [show 3 + i = i + 1 + 1 + 1 by omega, List.getElem?_cons_succ, List.getElem?_cons_succ, List.getElem?_cons_succ, List.getElem?_replicate, if_pos h]
theorem lat_zero : ((Tryz.prog.info? 78).bind (·.zero)).map (fun z => z.cells.toList) = some (latZn 2048) := by kernel_rfl
theorem lat_places : (match Tryz.prog.underlying 78 with | some (.struct fields) => (fields.toList.mapM fun f => (Tryz.prog.info? f.type).map fun i => (f.offset, i.size)) | _ => none) = some [(0, 1), (1, 1), (2, 1), (3, 1024), (1027, 1024)] := by kernel_rfl
theorem lat_built (a b : Value) (ha : a.cells = #[a]) (hb : b.cells = #[b]) : ∃ cs : Array Value, Tryz.prog.built 78 [(0, a), (1, b)] = some cs ∧ cs.size = 2051 ∧ cs[0]? = some a ∧ cs[1]? = some b ∧ cs[2]? = some (.pointer none) ∧ ∀ i, i < 2048 → cs[3 + i]? = some (.int .i64 0) := by
  have hz := lat_zero
  have hp := lat_places
  have hl := latZn_length 2048
  have h2 := latZn_two 2048
  have h3 := fun i (h : i < 2048) => latZn_at h
  generalize latZn 2048 = Z at hz hl h2 h3
  cases hi : Tryz.prog.info? 78 with
  | none => rw [hi] at hz; cases hz
  | some it =>
    rw [hi] at hz
    cases hu : Tryz.prog.underlying 78 with
    | none => rw [hu] at hp; cases hp
    | some d =>
      rw [hu] at hp
      cases d with
      | struct fields =>
        cases hzz : it.zero with
        | none => simp [hzz] at hz
        | some z =>
          simp only [hzz, Option.bind_some, Option.map_some, Option.some.injEq] at hz
          subst hz
          have hsz : z.cells.size = 2051 := by rw [← Array.length_toList, hl]
          refine ⟨(z.cells.setIfInBounds 0 a).setIfInBounds 1 b, ?_, by simp [hsz], ?_, ?_, ?_, ?_⟩
          · unfold Program.built
            simp only [hi, hu, hzz]
            simp only [] at hp
            rw [hp]
            simp [Instr.fill, ha, hb, hsz]
          · rw [Array.getElem?_setIfInBounds, if_neg (by decide), Array.getElem?_setIfInBounds, if_pos rfl, if_pos (by omega)]
          · rw [Array.getElem?_setIfInBounds, if_pos rfl, if_pos (by simp [hsz])]
          · rw [Array.getElem?_setIfInBounds, if_neg (by decide), Array.getElem?_setIfInBounds, if_neg (by decide), ← Array.getElem?_toList, h2]
          · intro i hi'
            rw [Array.getElem?_setIfInBounds, if_neg (by omega), Array.getElem?_setIfInBounds, if_neg (by omega), ← Array.getElem?_toList, h3 i hi']
      | _ => cases hp
end Go.Proofs.YtpjlhpaenmfieaaGreat
