/- Plain laws that join what the code of layer 10 computes with what the document's functions compute. -/
import Derived.Test.YtpjlhpaenmfieaaRefB
import Derived.Test.YtpjlhpaenmfieaaRelF
namespace Go.Proofs.Ytpjlhpaenmfieaa
open Go.RowKit

theorem addP_bit (rs : List Nat) (x y : Nat) (hx : x < rs.length) (a b : Nat) : RelM.bit (addP rs ((x : Int), (y : Int))) a b = (RelM.bit rs a b || (decide (a = x) && decide (b = y))) := by
  unfold addP
  simp only [Int.toNat_natCast]
  rw [RelM.bit_set _ _ _ _ _ hx]
  by_cases ha : a = x
  · subst ha
    rw [if_pos rfl, Nat.testBit_or, Nat.one_shiftLeft, Nat.testBit_two_pow]
    unfold RelM.bit
    by_cases hb : b = y
    · subst hb; simp
    · simp [hb, Ne.symm hb]
  · simp [ha]

theorem newRows_bit (n : Nat) (ps : List (Int × Int)) (hok : okPs n ps = true) (a b : Nat) : RelM.bit (newRows n ps) a b = true ↔ (a, b) ∈ natP ps := by
  suffices h : ∀ rs : List Nat, rs.length = n → (RelM.bit (ps.foldl addP rs) a b = true ↔ (RelM.bit rs a b = true ∨ (a, b) ∈ natP ps)) by
    have := h (List.replicate n 0) (by simp)
    unfold newRows
    rw [this]
    have h0 : RelM.bit (List.replicate n 0) a b = false := by
      unfold RelM.bit
      simp only [List.getD, List.getElem?_replicate]
      split <;> simp
    simp [h0]
  induction ps with
  | nil => intro rs _; simp [natP]
  | cons p ps ih =>
    intro rs hl
    obtain ⟨x, y, hp, hx, hy⟩ := okPs_at hok 0 (by simp)
    have hp' : p = ((x : Int), (y : Int)) := by simpa using hp
    subst hp'
    have hok' : okPs n ps = true := by
      unfold okPs at hok ⊢
      rw [List.all_cons, Bool.and_eq_true] at hok
      exact hok.2
    rw [List.foldl_cons, ih hok' _ (by simp [addP, hl]), addP_bit rs x y (by omega)]
    simp only [natP, List.map_cons, List.mem_cons, Int.toNat_natCast, Prod.mk.injEq, Bool.or_eq_true, Bool.and_eq_true, decide_eq_true_eq]
    constructor
    · rintro ((h | h) | h)
      · exact .inl h
      · exact .inr (.inl h)
      · exact .inr (.inr h)
    · rintro (h | h | h)
      · exact .inl (.inl h)
      · exact .inl (.inr h)
      · exact .inr h

theorem natP_in {n : Nat} {ps : List (Int × Int)} (hok : okPs n ps = true) : ∀ p ∈ natP ps, p.1 < n ∧ p.2 < n := by
  intro p hp
  obtain ⟨q, hq, rfl⟩ := List.mem_map.1 hp
  obtain ⟨i, hi, rfl⟩ := List.getElem_of_mem hq
  obtain ⟨x, y, e, hx, hy⟩ := okPs_at hok i hi
  rw [e]
  exact ⟨by simpa using hx, by simpa using hy⟩

theorem newRows_in {n : Nat} {ps : List (Int × Int)} (hok : okPs n ps = true) : ∀ a b, RelM.bit (newRows n ps) a b = true → a < n ∧ b < n := fun a b h => natP_in hok _ ((newRows_bit n ps hok a b).1 h)

theorem leads_mat {n : Nat} {ps : List (Int × Int)} (hok : okPs n ps = true) (a b : Nat) (ha : a < n) : mat (leads n ps) a b = true ↔ RelM.Reach (fun x y => (x, y) ∈ natP ps) a b := by
  unfold mat leads
  rw [show ((List.range n).map (leadRow n ps)).getD a [] = leadRow n ps a by simp [List.getD, ha]]
  exact RelM.rounds_reach n (natP ps) (natP_in hok) a ha b

theorem close_mat {n : Nat} {ps : List (Int × Int)} (hok : okPs n ps = true) (a b : Nat) (ha : a < n) : RelM.bit (RelM.close (newRows n ps)) a b = true ↔ RelM.Reach (fun x y => (x, y) ∈ natP ps) a b := by
  have hl := newRows_length n ps
  rw [RelM.close_reach (newRows n ps) (fun x y h => by rw [hl]; exact (newRows_in hok x y h).2) a b (by omega)]
  constructor
  · exact RelM.Reach.mono fun x y h => (newRows_bit n ps hok x y).1 h.2
  · exact RelM.Reach.mono fun x y h => ⟨by rw [hl]; exact (natP_in hok _ h).1, (newRows_bit n ps hok x y).2 h⟩

theorem close_leads {n : Nat} {ps : List (Int × Int)} (hok : okPs n ps = true) (a b : Nat) (ha : a < n) : RelM.bit (RelM.close (newRows n ps)) a b = mat (leads n ps) a b := by
  rw [Bool.eq_iff_iff, close_mat hok a b ha, leads_mat hok a b ha]

theorem hasB_nat (rs : List Nat) (a b : Nat) : hasB rs a b = (decide (a < rs.length ∧ b < rs.length) && RelM.bit rs a b) := by
  unfold hasB RelM.bit
  simp only [Int.toNat_natCast]
  congr 1
  rw [Bool.eq_iff_iff, decide_eq_true_eq, decide_eq_true_eq]
  omega

theorem close_has_mat {n : Nat} {ps : List (Int × Int)} (hok : okPs n ps = true) (a b : Nat) (ha : a < n) (hb : b < n) : hasB (RelM.close (newRows n ps)) a b = mat (leads n ps) a b := by
  rw [hasB_nat, RelM.close_length, newRows_length, close_leads hok a b ha]
  simp [ha, hb]

theorem leads_length (n : Nat) (ps : List (Int × Int)) : (leads n ps).length = n := by simp [leads]
theorem leads_sq (n : Nat) (ps : List (Int × Int)) : ∀ r ∈ leads n ps, r.length = (leads n ps).length := by
  intro r hr
  rw [leads_length]
  obtain ⟨a, _, rfl⟩ := List.mem_map.1 hr
  rw [leadRow, RelM.relaxN_length]
  simp [RelM.start]

/-! ### Loop -/

theorem backTo_bit (rs : List Nat) (a k j : Nat) : (backTo rs a k).testBit j = (decide (j < k) && backB rs a j) := by
  induction k with
  | zero => simp [backTo]
  | succ k ih =>
    simp only [backTo]
    by_cases h : backB rs a k = true
    · rw [if_pos h, Nat.testBit_or, ih, Nat.one_shiftLeft, Nat.testBit_two_pow]
      by_cases e : j = k
      · subst e; simp [h]
      · have : (decide (j < k + 1)) = decide (j < k) := by rw [Bool.eq_iff_iff, decide_eq_true_eq, decide_eq_true_eq]; omega
        simp [this, Ne.symm e]
    · rw [if_neg h, ih]
      by_cases e : j = k
      · subst e; simp [h]
      · have : (decide (j < k + 1)) = decide (j < k) := by rw [Bool.eq_iff_iff, decide_eq_true_eq, decide_eq_true_eq]; omega
        simp [this]

theorem inLoop_iff {n : Nat} {ps : List (Int × Int)} (hn : n ≤ 64) (hok : okPs n ps = true) (a : Nat) (ha : a < n) : inLoop (RelM.close (newRows n ps)) a = rowLoop (leads n ps) a := by
  have hl : (RelM.close (newRows n ps)).length = n := by rw [RelM.close_length, newRows_length]
  have hbk : ∀ j, j < n → backB (RelM.close (newRows n ps)) a j = (mat (leads n ps) a j && mat (leads n ps) j a) := fun j hj => by
    unfold backB
    rw [close_has_mat hok a j ha hj, close_has_mat hok j a hj ha]
  have hrefl : mat (leads n ps) a a = true := (leads_mat hok a a ha).2 (.refl a)
  unfold inLoop
  rw [hl, Bool.eq_iff_iff, decide_eq_true_eq, OnesM.popc_two _ (Nat.lt_of_lt_of_le (backTo_lt _ _ _) (Nat.pow_le_pow_right (by omega) hn))]
  unfold rowLoop
  rw [List.any_eq_true, leads_length]
  constructor
  · rintro ⟨i, j, hij, h1, h2⟩
    rw [backTo_bit] at h1 h2
    simp only [Bool.and_eq_true, decide_eq_true_eq] at h1 h2
    rw [hbk i h1.1, Bool.and_eq_true] at h1
    rw [hbk j h2.1, Bool.and_eq_true] at h2
    by_cases e : a = i
    · exact ⟨j, List.mem_range.2 h2.1, by simp [h2.2]; omega⟩
    · exact ⟨i, List.mem_range.2 h1.1, by simp [h1.2]; omega⟩
  · rintro ⟨b, hb, h⟩
    have hb' := List.mem_range.1 hb
    simp only [Bool.and_eq_true, bne_iff_ne, ne_eq] at h
    have k1 : (backTo (RelM.close (newRows n ps)) a n).testBit a = true := by rw [backTo_bit, hbk a ha]; simp [ha, hrefl]
    have k2 : (backTo (RelM.close (newRows n ps)) a n).testBit b = true := by rw [backTo_bit, hbk b hb']; simp [hb', h.1.2, h.2]
    rcases Nat.lt_trichotomy a b with q | q | q
    · exact ⟨a, b, q, k1, k2⟩
    · exact absurd q h.1.1
    · exact ⟨b, a, q, k2, k1⟩

theorem find_congr {l : List Nat} {p q : Nat → Bool} (h : ∀ i, i ∈ l → p i = q i) : l.find? p = l.find? q := by
  induction l with
  | nil => rfl
  | cons x l ih =>
    rw [List.find?_cons, List.find?_cons, h x (by simp), ih (fun i hi => h i (by simp [hi]))]

theorem loop_eq {n : Nat} {ps : List (Int × Int)} (hn : n ≤ 64) (hok : okPs n ps = true) : loopOf (RelM.close (newRows n ps)) = refLoop (leads n ps) := by
  unfold loopOf refLoop
  rw [RelM.close_length, newRows_length, leads_length]
  exact find_congr fun i hi => inLoop_iff hn hok i (List.mem_range.1 hi)

theorem noloop {n : Nat} {ps : List (Int × Int)} (_hok : okPs n ps = true) (h : refLoop (leads n ps) = none) (a b : Nat) (ha : a < n) (hb : b < n) (hne : a ≠ b) (h1 : mat (leads n ps) a b = true) : mat (leads n ps) b a = false := by
  unfold refLoop at h
  rw [List.find?_eq_none, leads_length] at h
  have := h a (List.mem_range.2 ha)
  cases h2 : mat (leads n ps) b a
  · rfl
  · exact absurd (rowLoop_yes (by rw [leads_length]; exact hb) hne h1 h2) this
end Go.Proofs.Ytpjlhpaenmfieaa
