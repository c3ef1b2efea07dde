/- The law LabelsSame, plain: what it gathers, and that an observer sees a label just if it sees each level. -/
import Derived.Test.YtpjlhpaenmfieaaLabP
import Derived.Test.YtpjlhpaenmfieaaLabQ
namespace Go.Proofs.Ytpjlhpaenmfieaa
open Go.RowKit

/-- The levels of those words that name one. -/
def fndTo (ws us : List Wd) (k : Nat) : List Nat := (List.range k).filterMap fun i => if findL (nms ws) (wNm us i) < 0 then none else some (findL (nms ws) (wNm us i)).toNat
def eachTo (ws : List Wd) (os : List (Wd × Wd)) (us : List Wd) (ob : Int) (k : Nat) : Bool := (List.range k).all fun i => decide (0 ≤ findL (nms ws) (wNm us i)) && leqI ws os (findL (nms ws) (wNm us i)) ob
theorem fndTo_yes {ws us : List Wd} {k t : Nat} (h : findL (nms ws) (wNm us k) = t) : fndTo ws us (k + 1) = fndTo ws us k ++ [t] := by
  unfold fndTo
  rw [List.range_succ, List.filterMap_append]
  congr 1
  simp [h]
theorem fndTo_no {ws us : List Wd} {k : Nat} (h : findL (nms ws) (wNm us k) = -1) : fndTo ws us (k + 1) = fndTo ws us k := by
  unfold fndTo
  rw [List.range_succ, List.filterMap_append]
  simp [h]
theorem fndTo_le (ws us : List Wd) (k : Nat) : (fndTo ws us k).length ≤ k := by
  unfold fndTo
  have := List.length_filterMap_le (fun i => if findL (nms ws) (wNm us i) < 0 then none else some (findL (nms ws) (wNm us i)).toNat) (List.range k)
  simpa using this
theorem fndTo_lt {ws us : List Wd} {k : Nat} : ∀ x ∈ fndTo ws us k, x < ws.length := by
  intro x hx
  unfold fndTo at hx
  obtain ⟨i, _, h⟩ := List.mem_filterMap.1 hx
  rcases findL_case (nms ws) (wNm us i) with ⟨e, _⟩ | ⟨q, hq, e, _⟩
  · rw [e, if_pos (by omega)] at h; cases h
  · rw [e, if_neg (by omega)] at h
    cases h
    rw [nms_length] at hq
    simpa using hq
theorem eachTo_yes {ws : List Wd} {os : List (Wd × Wd)} {us : List Wd} {ob : Int} {k t : Nat} (h : findL (nms ws) (wNm us k) = t) : eachTo ws os us ob (k + 1) = (eachTo ws os us ob k && leqI ws os t ob) := by
  unfold eachTo
  rw [List.range_succ, List.all_append]
  simp [h]
theorem eachTo_no {ws : List Wd} {os : List (Wd × Wd)} {us : List Wd} {ob : Int} {k : Nat} (h : findL (nms ws) (wNm us k) = -1) : eachTo ws os us ob (k + 1) = false := by
  unfold eachTo
  rw [List.range_succ, List.all_append]
  simp [h]
theorem same_sees {ws : List Wd} {os : List (Wd × Wd)} (hlat : LatM.Lat ws.length (leqL ws os)) (us : List Wd) {o : Nat} (ho : o < ws.length) : (((ofF ws us).1 == 0) && leqI ws os (ofI ws os us) o) = eachTo ws os us o us.length := by
  cases h1 : firstOf (ofBad ws us) us.length with
  | some x =>
    have hf : (ofF ws us).1 = 17 := by
      unfold ofF
      rw [h1]
      obtain ⟨i, _, hi'⟩ := List.exists_of_findSome?_eq_some h1
      unfold ofBad at hi'
      split at hi'
      · cases hi'; rfl
      · cases hi'
    rw [hf]
    have he : eachTo ws os us o us.length = false := by
      obtain ⟨i, hi, hi'⟩ := List.exists_of_findSome?_eq_some h1
      unfold eachTo
      rw [List.all_eq_false]
      refine ⟨i, hi, ?_⟩
      unfold ofBad at hi'
      split at hi'
      · next hc => simp; omega
      · cases hi'
    rw [he]; rfl
  | none =>
    have hno := firstOf_miss.1 h1
    have hf : ofF ws us = (0, 0) := by unfold ofF; rw [h1]
    have hI : ofI ws os us = (LatM.allJoin ws.length (leqL ws os) (ofIdx ws us us.length) : Nat) := by unfold ofI; rw [h1]
    have hl := ofIdx_lt hno
    rw [hf, hI, Bool.eq_iff_iff]
    have hlt := LatM.allJoin_lt hlat hl
    unfold leqI
    rw [hasI_nat hlt, hasI_nat ho, Int.toNat_natCast, Int.toNat_natCast]
    simp only [beq_self_eq_true, Bool.true_and]
    rw [LatM.allJoin_iff hlat ho hl]
    unfold eachTo
    rw [List.all_eq_true]
    constructor
    · intro h i hi
      have hi' := List.mem_range.1 hi
      obtain ⟨q, hq, e⟩ := ofBad_none (hno i hi')
      have hm : q ∈ ofIdx ws us us.length := by
        unfold ofIdx
        exact List.mem_map.2 ⟨i, hi, by rw [e]; simp⟩
      rw [e]
      unfold leqI
      rw [hasI_nat hq, hasI_nat ho, Int.toNat_natCast, Int.toNat_natCast, h q hm]
      simp
    · intro h x hx
      unfold ofIdx at hx
      obtain ⟨i, hi, rfl⟩ := List.mem_map.1 hx
      obtain ⟨q, hq, e⟩ := ofBad_none (hno i (List.mem_range.1 hi))
      have := h i hi
      rw [e] at this
      unfold leqI at this
      rw [hasI_nat hq, hasI_nat ho, Int.toNat_natCast, Int.toNat_natCast] at this
      rw [e]
      simpa using this
/-- More levels are never less. -/
theorem more_join {n : Nat} {M : Nat → Nat → Bool} (hlat : LatM.Lat n M) {X H : List Nat} (hX : ∀ k ∈ X, k < n) (hH : ∀ k ∈ H, k < n) (he : LatM.allJoin n M H = LatM.allJoin n M X) (ob : Int) : M (LatM.allJoin n M X) (LatM.allJoin n M (lvl n ((H.map fun (a : Nat) => (a : Int)) ++ [ob]))) = true := by
  have hj := LatM.allJoin_lt hlat hX
  rw [lvl_append, lvl_nat hH]
  split
  · next hin =>
    rcases hasI_cases n ob with ⟨o, rfl, ho⟩ | hout
    · rw [Int.toNat_natCast, show LatM.allJoin n M (H ++ [o]) = LatM.jn n M (LatM.allJoin n M H) o from LatM.joinTo_append .., he]
      exact (LatM.jn_left hlat hj ho).1
    · rw [hasI_out hout] at hin; cases hin
  · rw [he]; exact hlat.po.refl _ hj
theorem textS_len {ws : List Wd} {os : List (Wd × Wd)} (gd : GoodL ws os) {H : List Nat} (hlt : ∀ k ∈ H, k < ws.length) : (textS ws H).size ≤ 33 * H.length ∧ H.length ≤ (textS ws H).size + 1 := by
  have e : (textS ws H).size = (Lib.join ((H.map (wNm ws)).map (·.data.toList)) ([43] : List UInt8)).length := by
    unfold textS joinS
    show (List.toArray _).size = _
    rw [List.size_toArray]
  rw [e]
  cases H with
  | nil => simp [Lib.join, List.intercalate]
  | cons a l =>
    rw [List.map_cons, List.map_cons, Lib.join_length]
    have := lens_le (xs := ((a :: l).map (wNm ws)).map (·.data.toList)) (b := 32) (by
      intro x hx
      obtain ⟨y, hy, rfl⟩ := List.mem_map.1 hx
      obtain ⟨k, hk, rfl⟩ := List.mem_map.1 hy
      exact name_short (gd.named k (hlt k hk)))
    simp only [List.map_cons, List.length_map, List.length_cons, List.length_nil] at this ⊢
    omega
end Go.Proofs.Ytpjlhpaenmfieaa
