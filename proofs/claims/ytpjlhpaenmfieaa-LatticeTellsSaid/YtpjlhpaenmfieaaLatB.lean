/- The first names, plain: whether one of them stands twice. -/
import Derived.Test.YtpjlhpaenmfieaaLatA
namespace Go.Proofs.Ytpjlhpaenmfieaa
open Go.RowKit

theorem twice_take {l : List ByteArray} {k : Nat} (hk : k < l.length) (h0 : ∀ j (hj : j < l.length), j < k → ¬ findL l l[j] < (j : Int)) : twiceL (l.take (k + 1)) < 0 ↔ ¬ findL l l[k] < (k : Int) := by
  rw [twice_nodup, List.take_succ_eq_append_getElem hk, findL_lt hk]
  have hno : (l.take k).Nodup := by
    rw [List.Nodup, List.pairwise_iff_getElem]
    intro i j hi hj hij
    simp only [List.length_take] at hi hj
    rw [List.getElem_take, List.getElem_take]
    intro e
    exact h0 j (by omega) (by omega) ((findL_lt (by omega)).2 ⟨i, by omega, hij, e⟩)
  rw [List.nodup_append]
  constructor
  · rintro ⟨_, _, h3⟩ ⟨j, hj, hjk, e⟩
    refine h3 l[j] ?_ l[k] (List.mem_singleton.2 rfl) e
    rw [List.mem_take_iff_getElem]
    exact ⟨j, by omega, rfl⟩
  · intro h
    refine ⟨hno, by simp, fun x hx y hy e => h ?_⟩
    obtain ⟨j, hj, rfl⟩ := List.mem_take_iff_getElem.1 hx
    rw [List.mem_singleton] at hy
    subst hy
    exact ⟨j, by omega, by omega, e⟩

theorem nms_take (ws : List Wd) (k : Nat) (hk : k < ws.length) : (nms ws).take (k + 1) = (nms ws).take k ++ [wNm ws k] := by
  rw [List.take_succ_eq_append_getElem (by rw [nms_length]; exact hk), nms_at]
/-- What is asked of the next name. -/
theorem next_name {ws : List Wd} {k : Nat} (hk : k < ws.length) (h0 : ∀ j, j < k → nameBad ws j = none) :
    (rightB (wNm ws k) = false → nameBad ws k = some (9, wPl ws k)) ∧
    (rightB (wNm ws k) = true → ¬ twiceL ((nms ws).take (k + 1)) < 0 → nameBad ws k = some (10, wPl ws k)) ∧
    (rightB (wNm ws k) = true → twiceL ((nms ws).take (k + 1)) < 0 → nameBad ws k = none) := by
  have key : twiceL ((nms ws).take (k + 1)) < 0 ↔ ¬ findL (nms ws) (wNm ws k) < (k : Int) := by
    have := twice_take (l := nms ws) (k := k) (by rw [nms_length]; exact hk) fun j hj hjk => by
      have h1 := h0 j hjk
      unfold nameBad at h1
      rw [nms_at hj]
      intro hl
      split at h1
      · cases h1
      · cases h1
    rw [this, nms_at]
  unfold nameBad
  refine ⟨fun h => by rw [if_pos h], fun h h2 => ?_, fun h h2 => ?_⟩
  · rw [if_neg (by rw [h]; decide), if_pos (by rw [key] at h2; omega)]
  · rw [if_neg (by rw [h]; decide), if_neg (key.1 h2)]
end Go.Proofs.Ytpjlhpaenmfieaa
