/- What is wrong with levels and their order, plain. -/
import Derived.Test.YtpjlhpaenmfieaaLatN
import Derived.Test.YtpjlhpaenmfieaaNamXP
import Derived.Test.YtpjlhpaenmfieaaRelN
namespace Go.Proofs.Ytpjlhpaenmfieaa
open Go.RowKit

/-- A name and where it stands. -/
abbrev Wd := ByteArray × Int
def wd0 : Wd := (⟨#[]⟩, 0)
def nms (ws : List Wd) : List ByteArray := ws.map (·.1)
theorem nms_length (ws : List Wd) : (nms ws).length = ws.length := by simp [nms]
def wNm (ws : List Wd) (i : Nat) : ByteArray := (ws.getD i wd0).1
def wPl (ws : List Wd) (i : Nat) : Int := (ws.getD i wd0).2
theorem nms_at {ws : List Wd} {i : Nat} (h : i < (nms ws).length) : (nms ws)[i] = wNm ws i := by
  have h' : i < ws.length := by simpa [nms] using h
  simp [nms, wNm, List.getD_eq_getElem?_getD, List.getElem?_eq_getElem h']
def nameBad (ws : List Wd) (i : Nat) : Option (Int × Int) :=
  if rightB (wNm ws i) = false then some (9, wPl ws i) else if findL (nms ws) (wNm ws i) < (i : Int) then some (10, wPl ws i) else none
def lo (os : List (Wd × Wd)) (i : Nat) : Wd := (os.getD i (wd0, wd0)).1
def hi (os : List (Wd × Wd)) (i : Nat) : Wd := (os.getD i (wd0, wd0)).2
def orderBad (ws : List Wd) (os : List (Wd × Wd)) (i : Nat) : Option (Int × Int) :=
  if findL (nms ws) (lo os i).1 < 0 then some (17, (lo os i).2) else if findL (nms ws) (hi os i).1 < 0 then some (17, (hi os i).2) else none
def firstOf (f : Nat → Option (Int × Int)) (n : Nat) : Option (Int × Int) := (List.range n).findSome? f
theorem firstOf_hit {f : Nat → Option (Int × Int)} {n k : Nat} {x : Int × Int} (hk : k < n) (h0 : ∀ j, j < k → f j = none) (h : f k = some x) : firstOf f n = some x := by
  unfold firstOf
  have e : List.range n = List.range k ++ (List.range (n - k)).map (k + ·) := by
    rw [← List.range_add]; congr 1; omega
  rw [e, List.findSome?_append, List.findSome?_eq_none_iff.2 (fun j hj => h0 j (List.mem_range.1 hj))]
  obtain ⟨d, hd⟩ : ∃ d, n - k = d + 1 := ⟨n - k - 1, by omega⟩
  rw [hd, List.range_succ_eq_map]
  simp [h]
theorem firstOf_miss {f : Nat → Option (Int × Int)} {n : Nat} : firstOf f n = none ↔ ∀ j, j < n → f j = none := by
  unfold firstOf
  rw [List.findSome?_eq_none_iff]
  exact ⟨fun h j hj => h j (List.mem_range.2 hj), fun h j hj => h j (List.mem_range.1 hj)⟩
def prs (ws : List Wd) (os : List (Wd × Wd)) : List (Int × Int) := os.map fun p => (findL (nms ws) p.1.1, findL (nms ws) p.2.1)
theorem prs_length (ws : List Wd) (os : List (Wd × Wd)) : (prs ws os).length = os.length := by simp [prs]
theorem prs_at {ws : List Wd} {os : List (Wd × Wd)} {i : Nat} (h : i < (prs ws os).length) : (prs ws os)[i] = (findL (nms ws) (lo os i).1, findL (nms ws) (hi os i).1) := by
  have h' : i < os.length := by simpa [prs] using h
  simp [prs, lo, hi, List.getD_eq_getElem?_getD, List.getElem?_eq_getElem h']
/-- Is a level at most another one? -/
def leqL (ws : List Wd) (os : List (Wd × Wd)) (a b : Nat) : Bool := mat (leads ws.length (prs ws os)) a b
def boundBad (ws : List Wd) (os : List (Wd × Wd)) : Int × Int :=
  if LatM.boundsL ws.length (leqL ws os) < 0 then (0, 0) else (12, wPl ws (LatM.boundsL ws.length (leqL ws os)).toNat)
def loopBad (ws : List Wd) (os : List (Wd × Wd)) : Int × Int :=
  match refLoop (leads ws.length (prs ws os)) with
  | some a => (11, wPl ws a)
  | none => boundBad ws os
def wrongL (ws : List Wd) (os : List (Wd × Wd)) : Int × Int :=
  if ws.length = 0 then (15, 0) else if 32 < ws.length then (8, wPl ws 32) else if 256 < os.length then (8, (lo os 256).2) else
  match firstOf (nameBad ws) ws.length with
  | some x => x
  | none => match firstOf (orderBad ws os) os.length with
    | some x => x
    | none => loopBad ws os

theorem prs_ok {ws : List Wd} {os : List (Wd × Wd)} (h : ∀ j, j < os.length → orderBad ws os j = none) : okPs ws.length (prs ws os) = true := by
  unfold okPs
  rw [List.all_eq_true]
  intro p hp
  obtain ⟨i, hi', rfl⟩ := List.getElem_of_mem hp
  rw [prs_at hi']
  have h1 := h i (by simpa [prs] using hi')
  unfold orderBad at h1
  have b1 := findL_bound (nms ws) (lo os i).1
  have b2 := findL_bound (nms ws) (hi os i).1
  rw [nms_length] at b1 b2
  by_cases c1 : findL (nms ws) (lo os i).1 < 0
  · rw [if_pos c1] at h1; cases h1
  by_cases c2 : findL (nms ws) (hi os i).1 < 0
  · rw [if_neg c1, if_pos c2] at h1; cases h1
  unfold okP
  simp
  omega

/-- Levels and an order with nothing wrong. -/
structure GoodL (ws : List Wd) (os : List (Wd × Wd)) : Prop where
  pos : 0 < ws.length
  few : ws.length ≤ 32
  fewO : os.length ≤ 256
  named : ∀ i, i < ws.length → nameBad ws i = none
  found : ∀ i, i < os.length → orderBad ws os i = none
  lat : LatM.Lat ws.length (leqL ws os)

theorem po_of {n : Nat} {ps : List (Int × Int)} (hok : okPs n ps = true) (h : refLoop (leads n ps) = none) : LatM.Po n (mat (leads n ps)) := by
  refine ⟨fun a ha => (leads_mat hok a a ha).2 (.refl _), fun a b c ha hb hc h1 h2 => ?_, fun a b ha hb h1 h2 => ?_⟩
  · exact (leads_mat hok a c ha).2 (((leads_mat hok a b ha).1 h1).trans ((leads_mat hok b c hb).1 h2))
  · by_cases e : a = b
    · exact e
    · have := noloop hok h a b ha hb e h1; rw [this] at h2; cases h2
theorem bounds_none {n : Nat} {M : Nat → Nat → Bool} (h : LatM.boundsL n M < 0) : ∀ j, j < n → LatM.lacks n M j = false := by
  intro j hj
  unfold LatM.boundsL at h
  cases hf : (List.range n).find? (LatM.lacks n M) with
  | some b => rw [hf] at h; exact absurd h (by show ¬ (b : Int) < 0; omega)
  | none =>
    rw [List.find?_eq_none] at hf
    simpa using hf j (List.mem_range.2 hj)
theorem good_of {ws : List Wd} {os : List (Wd × Wd)} (h : (wrongL ws os).1 = 0) : GoodL ws os := by
  unfold wrongL at h
  by_cases c1 : ws.length = 0
  · rw [if_pos c1] at h; cases h
  rw [if_neg c1] at h
  by_cases c2 : 32 < ws.length
  · rw [if_pos c2] at h; cases h
  rw [if_neg c2] at h
  by_cases c3 : 256 < os.length
  · rw [if_pos c3] at h; cases h
  rw [if_neg c3] at h
  cases h1 : firstOf (nameBad ws) ws.length with
  | some x =>
    rw [h1] at h
    exfalso
    obtain ⟨i, _, hi'⟩ := List.exists_of_findSome?_eq_some h1
    unfold nameBad at hi'
    split at hi'
    · cases hi'; cases h
    · split at hi'
      · cases hi'; cases h
      · cases hi'
  | none =>
    rw [h1] at h
    have hn := firstOf_miss.1 h1
    cases h2 : firstOf (orderBad ws os) os.length with
    | some x =>
      rw [h2] at h
      exfalso
      obtain ⟨i, _, hi'⟩ := List.exists_of_findSome?_eq_some h2
      unfold orderBad at hi'
      split at hi'
      · cases hi'; cases h
      · split at hi'
        · cases hi'; cases h
        · cases hi'
    | none =>
      rw [h2] at h
      have ho := firstOf_miss.1 h2
      have hok := prs_ok ho
      unfold loopBad at h
      cases h3 : refLoop (leads ws.length (prs ws os)) with
      | some a => rw [h3] at h; cases h
      | none =>
        rw [h3] at h
        have hpo := po_of hok h3
        unfold boundBad at h
        dsimp only at h
        by_cases c4 : LatM.boundsL ws.length (leqL ws os) < 0
        · exact ⟨by omega, by omega, by omega, hn, ho, LatM.lat_of hpo (by omega) (bounds_none c4)⟩
        · rw [if_neg c4] at h; cases h
end Go.Proofs.Ytpjlhpaenmfieaa
