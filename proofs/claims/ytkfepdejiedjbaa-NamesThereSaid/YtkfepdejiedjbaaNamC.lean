/- The document's Right; lists of texts in memory; the document's Find, Twice, Same. -/
import Derived.Test.YtkfepdejiedjbaaNamB
namespace Go.Proofs.Ytkfepdejiedjbaa
open Go.RowKit

set_option maxRecDepth 100000 in
set_option maxHeartbeats 1000000 in
theorem refRight_any (s : ByteArray) (w : World) (hs : s.size ≤ maxLen) :
    Calls Try.prog 47 #[.string s] w (fun e w' => e = .returned (.bool (rightB s)) ∧ w = w') := by
  have HS := hide (show Calls Try.prog 49 #[.string s, .int .i64 0] w _ from signs_any s 0 w hs (Nat.zero_le _))
  have hle := nameAt_le s 0 (by omega)
  unfold maxLen at hs
  obtain ⟨n, hn⟩ : ∃ n, n = nameAt s 0 := ⟨_, rfl⟩
  rw [← hn] at HS
  rw [Nat.zero_add, ← hn] at hle
  have hb : rightB s = (decide (0 < s.size) && decide (s.size < 33) && decide (n = s.size)) := by
    rw [Bool.eq_iff_iff]
    simp [rightB, ← hn]
    omega
  rw [hb]
  clear hb hn
  by_cases h0 : 0 < s.size
  · by_cases h1 : s.size < 33
    · go_enter Try.func47, Try.ntmps47
      go_wp2_with (go_at_call 49; with_reducible refine HS.out.mono ?_; rintro e w' ⟨rfl, rfl⟩)
      all_goals
        go_ret
        exact ⟨ret_bool (by rw [Bool.eq_iff_iff]; simp; omega), rfl⟩
    · go_enter Try.func47, Try.ntmps47
      go_wp2_with fail
      all_goals
        go_ret
        exact ⟨ret_bool (by first | (simp; done) | (simp; omega)), rfl⟩
  · go_enter Try.func47, Try.ntmps47
    go_wp2_with fail
    all_goals
      go_ret
      exact ⟨ret_bool (by first | (simp; done) | (simp; omega)), rfl⟩

/-- The texts that a slice holds. -/
def strCells (l : List ByteArray) : List Value := l.map Value.string
theorem strCells_append (l m : List ByteArray) : strCells (l ++ m) = strCells l ++ strCells m := by simp [strCells]
def StrAt (w : World) (B : Nat) (A : Option Addr) (l : List ByteArray) : Prop := Reads w B 1 A l.length (strCells l)
theorem StrAt.cell {w : World} {B : Nat} {A : Option Addr} {l : List ByteArray} (h : StrAt w B A l) (hn : 0 < l.length) :
    ∃ b o, A = some ⟨b, o, none⟩ ∧ b < B ∧ ∀ k (hk : k < l.length), w.cell? ⟨b, o + k, none⟩ = some (.string l[k]) := by
  obtain ⟨b, o, e, hb, hc⟩ := h.form hn (Nat.lt_succ_self 0)
  exact ⟨b, o, e, hb, fun k hk => hc _ _ (by simp [strCells, hk])⟩
theorem StrAt.ext {w w' : World} {A : Option Addr} {l : List ByteArray} (h : StrAt w w.heap.size A l) (hE : Ext w w') : StrAt w' w'.heap.size A l :=
  (Reads.keep h fun _p hp => hE.cell hp).more hE.size

/-- The first place of a text; -1: it isn't there. -/
def findL (l : List ByteArray) (s : ByteArray) : Int := match l.findIdx? (fun x => decide (x = s)) with | some i => i | none => -1

theorem str_eq (a b : ByteArray) : (a.toList == b.toList) = decide (a = b) := by
  rw [Bool.eq_iff_iff, beq_iff_eq, decide_eq_true_eq, Lib.toList_data, Lib.toList_data]
  constructor
  · intro h
    cases a; cases b
    congr 1
    exact Array.toList_inj.1 h
  · intro h; rw [h]

theorem findIdx_hit {l : List ByteArray} {s : ByteArray} {k : Nat} (hk : k < l.length) (h : ∀ j (hj : j < l.length), j < k → l[j] ≠ s) (he : l[k] = s) : l.findIdx? (fun x => decide (x = s)) = some k := by
  rw [List.findIdx?_eq_some_iff_getElem]
  exact ⟨hk, by simpa using he, fun j hj => by simpa using h j (by omega) hj⟩
theorem findIdx_miss {l : List ByteArray} {s : ByteArray} (h : ∀ j (hj : j < l.length), l[j] ≠ s) : l.findIdx? (fun x => decide (x = s)) = none := by
  rw [List.findIdx?_eq_none_iff]
  intro x hx
  obtain ⟨j, hj, rfl⟩ := List.getElem_of_mem hx
  simpa using h j hj

set_option maxRecDepth 100000 in
set_option maxHeartbeats 1000000 in
theorem refFind_any (A : Option Addr) (c : Nat) (l : List ByteArray) (s : ByteArray) (w : World) (h : StrAt w w.heap.size A l) (hl : l.length ≤ 9223372036854775807) :
    Calls Try.prog 52 #[.slice A l.length c, .string s] w (fun e w' => e = .returned (.int .i64 (findL l s)) ∧ w = w') := by
  go_enter Try.func52, Try.ntmps52
  go_wp2_with fail
  go_loop [5] (fun i => ∃ k : Nat, k ≤ l.length ∧ i = .int .i64 k ∧ ∀ j (hj : j < l.length), j < k → l[j] ≠ s) (fun i => l.length - (intOf i).toNat)
  case atStart => exact ⟨0, Nat.zero_le _, rfl, fun j _ hj => absurd hj (by omega)⟩
  case round =>
    obtain ⟨k, hk, rfl, hall⟩ := hrel
    have HA := hide hall
    clear hall
    by_cases hlt : k < l.length
    · obtain ⟨b, o, rfl, _, hcell⟩ := h.cell (by omega)
      have hp1 := hcell k hlt
      obtain ⟨x, hx⟩ : ∃ x, x = l[k] := ⟨_, rfl⟩
      rw [← hx] at hp1
      have HX := hide hx
      clear hcell hx
      cases he : (x.toList == s.toList) with
      | true =>
        have hf := findIdx_hit hlt HA.out (by rw [← HX.out]; have := str_eq x s; rw [he] at this; simpa using this.symm)
        have HF := hide hf
        clear hf
        go_wp2_with fail
        go_ret
        exact ⟨ret_int (by unfold findL; rw [HF.out]), rfl⟩
      | false =>
        have hn : ∀ j (hj : j < l.length), j < k + 1 → l[j] ≠ s := fun j hj hjk => by
          by_cases e : j = k
          · subst e; rw [← HX.out]; have := str_eq x s; rw [he] at this; simpa using this.symm
          · exact HA.out j hj (by omega)
        have HN := hide hn
        clear hn
        go_wp2_with fail
        go_round
        case rel => exact ⟨k + 1, by omega, by go_num, HN.out⟩
        case measure => simp [intOf]; omega
    · obtain rfl : k = l.length := by omega
      have hf := findIdx_miss fun j hj => HA.out j hj hj
      have HF := hide hf
      clear hf
      go_wp2_with fail
      go_ret
      exact ⟨ret_int (by unfold findL; rw [HF.out]), rfl⟩

/-- The least place of a text that stands earlier, too; -1: there is none. -/
def twiceP (l : List ByteArray) (i : Nat) : Bool := decide (findL l (l.getD i ⟨#[]⟩) < (i : Int))
def twiceL (l : List ByteArray) : Int := match (List.range l.length).find? (twiceP l) with | some i => (i : Int) | none => -1
theorem twice_hit {l : List ByteArray} {k : Nat} (hk : k < l.length) (h : ∀ j, j < k → twiceP l j = false) (he : twiceP l k = true) : twiceL l = k := by
  have : (List.range l.length).find? (twiceP l) = some k := by
    rw [List.find?_range_eq_some]
    exact ⟨he, by simpa using hk, fun j hj => by rw [h j hj]; rfl⟩
  unfold twiceL
  rw [this]
theorem twice_miss {l : List ByteArray} (h : ∀ j, j < l.length → twiceP l j = false) : twiceL l = -1 := by
  have : (List.range l.length).find? (twiceP l) = none := by
    rw [List.find?_eq_none]
    intro x hx
    rw [h x (List.mem_range.1 hx)]
    exact Bool.false_ne_true
  unfold twiceL
  rw [this]
theorem findL_bound (l : List ByteArray) (s : ByteArray) : -1 ≤ findL l s ∧ findL l s < l.length ∨ findL l s = -1 := by
  unfold findL
  cases h : l.findIdx? (fun x => decide (x = s)) with
  | none => right; rfl
  | some i =>
    left
    rw [List.findIdx?_eq_some_iff_getElem] at h
    obtain ⟨hi, _⟩ := h
    constructor
    · show (-1 : Int) ≤ (i : Int); omega
    · show (i : Int) < _; omega

set_option maxRecDepth 100000 in
set_option maxHeartbeats 1000000 in
theorem refTwice_any (A : Option Addr) (c : Nat) (l : List ByteArray) (w : World) (h : StrAt w w.heap.size A l) (hl : l.length ≤ 9223372036854775807) :
    Calls Try.prog 58 #[.slice A l.length c] w (fun e w' => e = .returned (.int .i64 (twiceL l)) ∧ w = w') := by
  go_enter Try.func58, Try.ntmps58
  go_wp2_with fail
  go_loop [3] (fun i => ∃ k : Nat, k ≤ l.length ∧ i = .int .i64 k ∧ ∀ j, j < k → twiceP l j = false) (fun i => l.length - (intOf i).toNat)
  case atStart => exact ⟨0, Nat.zero_le _, rfl, fun j hj => absurd hj (by omega)⟩
  case round =>
    obtain ⟨k, hk, rfl, hall⟩ := hrel
    have HA := hide hall
    clear hall
    by_cases hlt : k < l.length
    · have HF := hide (refFind_any A c l l[k] w h hl)
      obtain ⟨b, o, rfl, _, hcell⟩ := h.cell (by omega)
      have hp1 := hcell k hlt
      have htw : twiceP l k = decide (findL l l[k] < (k : Int)) := by
        unfold twiceP
        rw [List.getD_eq_getElem?_getD, List.getElem?_eq_getElem hlt]
        rfl
      obtain ⟨x, hx⟩ : ∃ x, x = l[k] := ⟨_, rfl⟩
      obtain ⟨r, hr⟩ : ∃ r, r = findL l l[k] := ⟨_, rfl⟩
      rw [← hr] at HF htw
      rw [← hx] at hp1 HF
      have HTW := hide htw
      clear hcell hx hr htw
      by_cases hrk : r < (k : Int)
      · have ht := twice_hit hlt HA.out (by rw [HTW.out]; simpa using hrk)
        have HT := hide ht
        clear ht
        go_wp2_with (go_at_call 52; with_reducible refine HF.out.mono ?_; rintro e w' ⟨rfl, rfl⟩)
        go_ret
        exact ⟨ret_int HT.out.symm, rfl⟩
      · have hn : ∀ j, j < k + 1 → twiceP l j = false := fun j hj => by
          by_cases e : j = k
          · subst e; rw [HTW.out]; simpa using hrk
          · exact HA.out j (by omega)
        have HN := hide hn
        clear hn
        go_wp2_with (go_at_call 52; with_reducible refine HF.out.mono ?_; rintro e w' ⟨rfl, rfl⟩)
        go_round
        case rel => exact ⟨k + 1, by omega, by go_num, HN.out⟩
        case measure => simp [intOf]; omega
    · obtain rfl : k = l.length := by omega
      have ht := twice_miss HA.out
      have HT := hide ht
      clear ht
      go_wp2_with fail
      go_ret
      exact ⟨ret_int HT.out.symm, rfl⟩

set_option maxRecDepth 100000 in
set_option maxHeartbeats 1000000 in
theorem refSameS_any (A : Option Addr) (c n : Nat) (a : List ByteArray) (A2 : Option Addr) (c2 : Nat) (w : World) (h : StrAt w w.heap.size A a) (h2 : StrAt w w.heap.size A2 a) (hl : n ≤ 9223372036854775807) (hn : n = a.length) :
    Calls Try.prog 56 #[.slice A n c, .slice A2 n c2] w (fun e w' => e = .returned (.bool true) ∧ Ext w w') := by
  subst hn
  go_enter Try.func56, Try.ntmps56
  go_wp2_with fail
  go_loopw [5] (fun i wr => ∃ (k : Nat), k ≤ a.length ∧ i = .int .i64 k ∧ Ext w wr) (fun i _ => a.length - (intOf i).toNat)
  case atStart => exact ⟨0, Nat.zero_le _, rfl, Ext.rfl' _⟩
  case round =>
    obtain ⟨k, hk, rfl, hE⟩ := hrel
    have HE := hide hE
    by_cases hlt : k < a.length
    · obtain ⟨b, o, rfl, hbs, hcell⟩ := h.cell (by omega)
      obtain ⟨b2, o2, rfl, hbs2, hcell2⟩ := h2.cell (by omega)
      have hp := hcell k hlt
      have hr := hcell2 k hlt
      obtain ⟨x, hx⟩ : ∃ x, x = a[k] := ⟨_, rfl⟩
      rw [← hx] at hp hr
      have q1 : wr.cell? ⟨b, o + k, none⟩ = some (.string x) := (hE.cell (p := ⟨b, o + k, none⟩) hbs).trans hp
      have q3 : wr.cell? ⟨b2, o2 + k, none⟩ = some (.string x) := (hE.cell (p := ⟨b2, o2 + k, none⟩) hbs2).trans hr
      clear hp hr hcell hcell2 hx hE
      go_wp2_with fail
      go_quiet (fail)
      go_wp2_with fail
      go_roundw
      case rel => exact ⟨k + 1, by omega, by go_num, below_drewN HE.out _⟩
      case measure => simp [intOf]; omega
    · obtain rfl : k = a.length := by omega
      clear hE
      go_wp2_with fail
      go_ret
      exact ⟨rfl, HE.out⟩
end Go.Proofs.Ytkfepdejiedjbaa
