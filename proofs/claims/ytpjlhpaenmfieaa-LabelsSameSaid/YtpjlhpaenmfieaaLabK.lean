/- Labels read from a text, plain: what both the code and the document find. -/
import Derived.Test.YtpjlhpaenmfieaaLabAll
namespace Go.Proofs.Ytpjlhpaenmfieaa
open Go.RowKit

theorem tw_self (p : UInt8 → Bool) (l : List UInt8) : (l.takeWhile p).takeWhile p = l.takeWhile p := by
  induction l with
  | nil => rfl
  | cons c l ih =>
    by_cases h : p c = true
    · rw [List.takeWhile_cons, if_pos h, List.takeWhile_cons, if_pos h, ih]
    · rw [List.takeWhile_cons, if_neg h]; rfl
theorem nameLen_self (l : List UInt8) : nameLen (l.take (nameLen l)) = nameLen l := by
  cases l with
  | nil => rfl
  | cons c l =>
    by_cases h : isLetter c = true
    · have e : nameLen (c :: l) = ((c :: l).takeWhile isSign).length := by rw [nameLen, if_pos h]
      rw [e]
      have e2 : (c :: l).take ((c :: l).takeWhile isSign).length = (c :: l).takeWhile isSign := (List.prefix_iff_eq_take.1 (List.takeWhile_prefix isSign)).symm
      rw [e2]
      have e3 : (c :: l).takeWhile isSign = c :: l.takeWhile isSign := by rw [List.takeWhile_cons, if_pos (isSign_of h)]
      rw [e3, nameLen, if_pos h, List.takeWhile_cons, if_pos (isSign_of h), tw_self]
    · have e : nameLen (c :: l) = 0 := by rw [nameLen, if_neg h]
      rw [e, List.take_zero]; rfl
/-- The name at a place of a text. -/
def pName (s : ByteArray) (at_ : Nat) : ByteArray := s.extract at_ (at_ + nameAt s at_)
theorem pName_list (s : ByteArray) (i : Nat) : (pName s i).data.toList = (s.data.toList.drop i).take (nameAt s i) := by
  unfold pName
  rw [ByteArray.data_extract, Array.toList_extract, List.extract_eq_take_drop, Nat.add_sub_cancel_left]
theorem pName_size (s : ByteArray) (i : Nat) (h : i ≤ s.size) : (pName s i).size = nameAt s i := by
  have e : (pName s i).size = (pName s i).data.toList.length := by rw [Array.length_toList]; rfl
  have hl := nameAt_le s i h
  have hs : s.data.toList.length = s.size := by rw [Array.length_toList]; rfl
  rw [e, pName_list, List.length_take, List.length_drop, hs]
  omega
theorem pName_right (s : ByteArray) (i : Nat) (h : i ≤ s.size) : rightB (pName s i) = decide (1 ≤ nameAt s i ∧ nameAt s i ≤ 32) := by
  have e1 := pName_size s i h
  have e2 : nameAt (pName s i) 0 = nameAt s i := by
    show nameLen ((pName s i).data.toList.drop 0) = nameLen (s.data.toList.drop i)
    rw [List.drop_zero, pName_list]
    exact nameLen_self _
  unfold rightB
  rw [e1, e2, Bool.eq_iff_iff, decide_eq_true_eq, decide_eq_true_eq]
  omega
def byteN (s : ByteArray) (i : Nat) : Nat := (s.data.toList.getD i 0).toNat
theorem byteN_eq (s : ByteArray) (i : Nat) (h : i < s.size) : byteN s i = s[i].toNat := by
  have h' : i < s.data.toList.length := by rw [Array.length_toList]; exact h
  unfold byteN
  rw [List.getD_eq_getElem?_getD, List.getElem?_eq_getElem h', Option.getD_some]
  rfl
/-- What is wrong at a place of a text. -/
def pBad (ws : List Wd) (s : ByteArray) (i : Nat) : Option (Int × Int) :=
  if nameAt s i < 1 ∨ 32 < nameAt s i then some (9, i)
  else if findL (nms ws) (pName s i) < 0 then some (17, i)
  else if i + nameAt s i < s.size ∧ byteN s (i + nameAt s i) ≠ 43 then some (4, ((i + nameAt s i : Nat) : Int)) else none
def pIdx (ws : List Wd) (s : ByteArray) (i : Nat) : Nat := (findL (nms ws) (pName s i)).toNat
def parseF (ws : List Wd) (s : ByteArray) : Nat → Nat → List Nat → List Nat × (Int × Int)
  | 0, _, _ => ([], (0, 0))
  | f + 1, i, acc => match pBad ws s i with
    | some x => ([], x)
    | none => if i + nameAt s i = s.size then (acc ++ [pIdx ws s i], (0, 0)) else parseF ws s f (i + nameAt s i + 1) (acc ++ [pIdx ws s i])
def parseL (ws : List Wd) (s : ByteArray) : List Nat × (Int × Int) := parseF ws s (s.size + 1) 0 []
/-- The reading so far. -/
def PAt (ws : List Wd) (s : ByteArray) (i : Nat) (acc : List Nat) : Prop := ∃ f, parseL ws s = parseF ws s f i acc ∧ s.size + 1 ≤ i + f ∧ (∀ x ∈ acc, x < ws.length) ∧ acc.length ≤ i
theorem PAt.start (ws : List Wd) (s : ByteArray) : PAt ws s 0 [] := ⟨s.size + 1, rfl, by omega, by simp, by simp⟩
theorem PAt.bad {ws : List Wd} {s : ByteArray} {i : Nat} {acc : List Nat} {x : Int × Int} (h : PAt ws s i acc) (hi : i ≤ s.size) (hb : pBad ws s i = some x) : parseL ws s = ([], x) := by
  obtain ⟨f, e, hf, _⟩ := h
  cases f with
  | zero => omega
  | succ f => rw [e, parseF, hb]
theorem PAt.done {ws : List Wd} {s : ByteArray} {i : Nat} {acc : List Nat} (h : PAt ws s i acc) (hi : i ≤ s.size) (hb : pBad ws s i = none) (he : i + nameAt s i = s.size) : parseL ws s = (acc ++ [pIdx ws s i], (0, 0)) := by
  obtain ⟨f, e, hf, _⟩ := h
  cases f with
  | zero => omega
  | succ f => rw [e, parseF, hb]; simp only [he, if_true]
theorem pBad_none {ws : List Wd} {s : ByteArray} {i : Nat} (h : pBad ws s i = none) : 1 ≤ nameAt s i ∧ nameAt s i ≤ 32 ∧ ∃ q : Nat, q < ws.length ∧ findL (nms ws) (pName s i) = q ∧ pIdx ws s i = q := by
  unfold pBad at h
  by_cases h1 : nameAt s i < 1 ∨ 32 < nameAt s i
  · rw [if_pos h1] at h; cases h
  · rw [if_neg h1] at h
    by_cases h2 : findL (nms ws) (pName s i) < 0
    · rw [if_pos h2] at h; cases h
    · refine ⟨by omega, by omega, ?_⟩
      rcases findL_case (nms ws) (pName s i) with ⟨e, _⟩ | ⟨q, hq, e, _⟩
      · omega
      · exact ⟨q, by rw [nms_length] at hq; exact hq, e, by unfold pIdx; rw [e]; rfl⟩
theorem PAt.next {ws : List Wd} {s : ByteArray} {i : Nat} {acc : List Nat} (h : PAt ws s i acc) (hi : i ≤ s.size) (hb : pBad ws s i = none) (he : i + nameAt s i < s.size) : PAt ws s (i + nameAt s i + 1) (acc ++ [pIdx ws s i]) := by
  obtain ⟨f, e, hf, hl, hle⟩ := h
  obtain ⟨h1, h2, q, hq, _, e2⟩ := pBad_none hb
  cases f with
  | zero => omega
  | succ f =>
    refine ⟨f, ?_, by omega, ?_, by rw [List.length_append]; simp; omega⟩
    · rw [e, parseF, hb]
      simp only []
      rw [if_neg (by omega)]
    · intro x hx
      rcases List.mem_append.1 hx with hx | hx
      · exact hl x hx
      · rw [List.mem_singleton.1 hx, e2]; exact hq
theorem high_none (M : Nat → Nat → Bool) (n : Nat) : LatM.highTo M [] n = [] := by
  unfold LatM.highTo
  simp
end Go.Proofs.Ytpjlhpaenmfieaa
