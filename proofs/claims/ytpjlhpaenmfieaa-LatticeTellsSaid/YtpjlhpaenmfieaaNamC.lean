/- The document's Right; lists of texts in memory; the first place of a text, the first text that stands twice, plain. -/
import Derived.Test.YtpjlhpaenmfieaaNamB
namespace Go.Proofs.Ytpjlhpaenmfieaa
open Go.RowKit

set_option maxRecDepth 100000 in
set_option maxHeartbeats 1000000 in
theorem refRight_any (s : ByteArray) (w : World) (hs : s.size ≤ maxLen) :
    Calls Try.prog 52 #[.string s] w (fun e w' => e = .returned (.bool (rightB s)) ∧ w = w') := by
  have HS := hide (show Calls Try.prog 83 #[.string s, .int .i64 0] w _ from signs_any s 0 w hs (Nat.zero_le _))
  have hle := nameAt_le s 0 (by omega)
  unfold maxLen at hs
  obtain ⟨n, hn⟩ : ∃ n, n = nameAt s 0 := ⟨_, rfl⟩
  rw [← hn] at HS
  rw [Nat.zero_add, ← hn] at hle
  have hb : rightB s = (decide (0 < s.size) && decide (s.size < 33) && decide (n = s.size)) := by
    rw [Bool.eq_iff_iff]
    simp [rightB, ← hn]
    omega
  rw [hb]
  clear hb hn
  by_cases h0 : 0 < s.size
  · by_cases h1 : s.size < 33
    · go_enter Try.func52, Try.ntmps52
      go_wp2_with (go_at_call 83; with_reducible refine HS.out.mono ?_; rintro e w' ⟨rfl, rfl⟩)
      all_goals
        go_ret
        exact ⟨ret_bool (by rw [Bool.eq_iff_iff]; simp; omega), rfl⟩
    · go_enter Try.func52, Try.ntmps52
      go_wp2_with fail
      all_goals
        go_ret
        exact ⟨ret_bool (by first | (simp; done) | (simp; omega)), rfl⟩
  · go_enter Try.func52, Try.ntmps52
    go_wp2_with fail
    all_goals
      go_ret
      exact ⟨ret_bool (by first | (simp; done) | (simp; omega)), rfl⟩

/-- The texts that a slice holds. -/
def strCells (l : List ByteArray) : List Value := l.map Value.string
theorem strCells_append (l m : List ByteArray) : strCells (l ++ m) = strCells l ++ strCells m := by simp [strCells]
def StrAt (w : World) (B : Nat) (A : Option Addr) (l : List ByteArray) : Prop := Reads w B 1 A l.length (strCells l)
theorem StrAt.cell {w : World} {B : Nat} {A : Option Addr} {l : List ByteArray} (h : StrAt w B A l) (hn : 0 < l.length) :
    ∃ b o, A = some ⟨b, o, none⟩ ∧ b < B ∧ ∀ k (hk : k < l.length), w.cell? ⟨b, o + k, none⟩ = some (.string l[k]) := by
  obtain ⟨b, o, e, hb, hc⟩ := h.form hn (Nat.lt_succ_self 0)
  exact ⟨b, o, e, hb, fun k hk => hc _ _ (by simp [strCells, hk])⟩
theorem StrAt.ext {w w' : World} {A : Option Addr} {l : List ByteArray} (h : StrAt w w.heap.size A l) (hE : Ext w w') : StrAt w' w'.heap.size A l :=
  (Reads.keep h fun _p hp => hE.cell hp).more hE.size

/-- The first place of a text; -1: it isn't there. -/
def findL (l : List ByteArray) (s : ByteArray) : Int := match l.findIdx? (fun x => decide (x = s)) with | some i => i | none => -1

theorem str_eq (a b : ByteArray) : (a.toList == b.toList) = decide (a = b) := by
  rw [Bool.eq_iff_iff, beq_iff_eq, decide_eq_true_eq, Lib.toList_data, Lib.toList_data]
  constructor
  · intro h
    cases a; cases b
    congr 1
    exact Array.toList_inj.1 h
  · intro h; rw [h]

theorem findIdx_hit {l : List ByteArray} {s : ByteArray} {k : Nat} (hk : k < l.length) (h : ∀ j (hj : j < l.length), j < k → l[j] ≠ s) (he : l[k] = s) : l.findIdx? (fun x => decide (x = s)) = some k := by
  rw [List.findIdx?_eq_some_iff_getElem]
  exact ⟨hk, by simpa using he, fun j hj => by simpa using h j (by omega) hj⟩
theorem findIdx_miss {l : List ByteArray} {s : ByteArray} (h : ∀ j (hj : j < l.length), l[j] ≠ s) : l.findIdx? (fun x => decide (x = s)) = none := by
  rw [List.findIdx?_eq_none_iff]
  intro x hx
  obtain ⟨j, hj, rfl⟩ := List.getElem_of_mem hx
  simpa using h j hj

/-- The least place of a text that stands earlier, too; -1: there is none. -/
def twiceP (l : List ByteArray) (i : Nat) : Bool := decide (findL l (l.getD i ⟨#[]⟩) < (i : Int))
def twiceL (l : List ByteArray) : Int := match (List.range l.length).find? (twiceP l) with | some i => (i : Int) | none => -1
theorem twice_hit {l : List ByteArray} {k : Nat} (hk : k < l.length) (h : ∀ j, j < k → twiceP l j = false) (he : twiceP l k = true) : twiceL l = k := by
  have : (List.range l.length).find? (twiceP l) = some k := by
    rw [List.find?_range_eq_some]
    exact ⟨he, by simpa using hk, fun j hj => by rw [h j hj]; rfl⟩
  unfold twiceL
  rw [this]
theorem twice_miss {l : List ByteArray} (h : ∀ j, j < l.length → twiceP l j = false) : twiceL l = -1 := by
  have : (List.range l.length).find? (twiceP l) = none := by
    rw [List.find?_eq_none]
    intro x hx
    rw [h x (List.mem_range.1 hx)]
    exact Bool.false_ne_true
  unfold twiceL
  rw [this]
theorem findL_bound (l : List ByteArray) (s : ByteArray) : -1 ≤ findL l s ∧ findL l s < l.length ∨ findL l s = -1 := by
  unfold findL
  cases h : l.findIdx? (fun x => decide (x = s)) with
  | none => right; rfl
  | some i =>
    left
    rw [List.findIdx?_eq_some_iff_getElem] at h
    obtain ⟨hi, _⟩ := h
    constructor
    · show (-1 : Int) ≤ (i : Int); omega
    · show (i : Int) < _; omega
end Go.Proofs.Ytpjlhpaenmfieaa
