/- What names may be, plain. -/
import Derived.Test.YtpjlhpaenmfieaaBase
namespace Go.Proofs.Ytpjlhpaenmfieaa
open Go.RowKit

def isLetter (c : UInt8) : Bool := decide (97 ≤ c.toNat ∧ c.toNat ≤ 122)
def isSign (c : UInt8) : Bool := isLetter c || decide (48 ≤ c.toNat ∧ c.toNat ≤ 57) || decide (c.toNat = 95)
theorem isSign_of {c : UInt8} (h : isLetter c = true) : isSign c = true := by simp [isSign, h]

/-- How many signs of a name a text begins with. -/
def nameLen : List UInt8 → Nat
  | [] => 0
  | c :: l => if isLetter c then ((c :: l).takeWhile isSign).length else 0
theorem nameLen_le (l : List UInt8) : nameLen l ≤ l.length := by
  cases l with
  | nil => simp [nameLen]
  | cons c l =>
    rw [nameLen]
    by_cases h : isLetter c = true
    · rw [if_pos h]; exact (List.takeWhile_prefix isSign).length_le
    · rw [if_neg h]; exact Nat.zero_le _

theorem tw_step {l : List UInt8} {j : Nat} {c : UInt8} (h : j ≤ (l.takeWhile isSign).length) (hc : l[j]? = some c) (hs : isSign c = true) : j + 1 ≤ (l.takeWhile isSign).length := by
  induction l generalizing j with
  | nil => simp at hc
  | cons d l ih =>
    rw [List.takeWhile_cons] at h ⊢
    by_cases hd : isSign d = true
    · rw [if_pos hd] at h ⊢
      cases j with
      | zero => simp
      | succ j =>
        have := ih (j := j) (by simpa using h) (by simpa using hc)
        simpa using this
    · rw [if_neg hd] at h
      have : j = 0 := by simpa using h
      subst this
      simp at hc
      subst hc
      exact absurd hs hd
theorem tw_end {l : List UInt8} {j : Nat} (h : j ≤ (l.takeWhile isSign).length) (he : l.length ≤ j ∨ ∃ c, l[j]? = some c ∧ isSign c = false) : (l.takeWhile isSign).length = j := by
  induction l generalizing j with
  | nil => simp at h ⊢; omega
  | cons d l ih =>
    rw [List.takeWhile_cons] at h ⊢
    by_cases hd : isSign d = true
    · rw [if_pos hd] at h ⊢
      cases j with
      | zero =>
        rcases he with he | ⟨c, hc, hs⟩
        · simp at he
        · simp at hc; subst hc; rw [hs] at hd; cases hd
      | succ j =>
        have := ih (j := j) (by simpa using h) (by
          rcases he with he | ⟨c, hc, hs⟩
          · left; simpa using he
          · right; exact ⟨c, by simpa using hc, hs⟩)
        simpa using this
    · rw [if_neg hd] at h ⊢
      have : j = 0 := by simpa using h
      subst this
      rfl
theorem nameLen_letter {l : List UInt8} {c : UInt8} (h : l[0]? = some c) (hc : isLetter c = true) : nameLen l = (l.takeWhile isSign).length := by
  cases l with
  | nil => simp at h
  | cons d l => simp at h; subst h; rw [nameLen, if_pos hc]
theorem nameLen_none {l : List UInt8} {c : UInt8} (h : l[0]? = some c) (hc : isLetter c = false) : nameLen l = 0 := by
  cases l with
  | nil => simp at h
  | cons d l => simp at h; subst h; rw [nameLen, if_neg (by rw [hc]; exact Bool.false_ne_true)]

def nameAt (s : ByteArray) (i : Nat) : Nat := nameLen (s.data.toList.drop i)
theorem nameAt_le (s : ByteArray) (i : Nat) (h : i ≤ s.size) : i + nameAt s i ≤ s.size := by
  have := nameLen_le (s.data.toList.drop i)
  have e : s.data.toList.length = s.size := by rw [Array.length_toList]; rfl
  rw [List.length_drop, e] at this
  unfold nameAt
  omega
theorem byte_at (s : ByteArray) (i j : Nat) (h : i + j < s.size) : (s.data.toList.drop i)[j]? = some s[i + j] := by
  rw [List.getElem?_drop]
  have h' : i + j < s.data.toList.length := by rw [Array.length_toList]; exact h
  rw [List.getElem?_eq_getElem h']
  rfl

/-- Is a text a name? -/
def rightB (s : ByteArray) : Bool := decide (0 < s.size ∧ nameAt s 0 = s.size ∧ s.size ≤ 32)
end Go.Proofs.Ytpjlhpaenmfieaa
