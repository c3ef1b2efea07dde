/- Tables of texts, plain: the order of bytes; what the sorted first places are good for. -/
import Derived.Test.YtanpljalbijfkaaNamAll
import Derived.Sort.Statements
namespace Go.Proofs.Ytanpljalbijfkaa
open Go.RowKit Go.Sort

/-- Is a text ahead of another one, by bytes? -/
def bl (x y : ByteArray) : Bool := Op.bytesLess x.toList y.toList
theorem bytesLess_irrefl : ∀ x : List UInt8, Op.bytesLess x x = false
  | [] => rfl
  | a :: x => by simp [Op.bytesLess, bytesLess_irrefl x]
theorem bytesLess_trans : ∀ x y z : List UInt8, Op.bytesLess x y = true → Op.bytesLess y z = true → Op.bytesLess x z = true
  | _, [], _, h, _ => by cases ‹List UInt8› <;> simp [Op.bytesLess] at h
  | _, _ :: _, [], _, h => by simp [Op.bytesLess] at h
  | [], _ :: _, _ :: _, _, _ => by simp [Op.bytesLess]
  | a :: x, b :: y, c :: z, h1, h2 => by
    simp only [Op.bytesLess, Bool.or_eq_true, decide_eq_true_eq, Bool.and_eq_true, beq_iff_eq] at h1 h2 ⊢
    rcases h1 with h1 | ⟨rfl, h1⟩
    · rcases h2 with h2 | ⟨rfl, _⟩
      · exact .inl (UInt8.lt_trans h1 h2)
      · exact .inl h1
    · rcases h2 with h2 | ⟨rfl, h2⟩
      · exact .inl h2
      · exact .inr ⟨rfl, bytesLess_trans x y z h1 h2⟩
theorem bytesLess_total : ∀ x y : List UInt8, Op.bytesLess x y = true ∨ x = y ∨ Op.bytesLess y x = true
  | [], [] => .inr (.inl rfl)
  | [], _ :: _ => .inl (by simp [Op.bytesLess])
  | _ :: _, [] => .inr (.inr (by simp [Op.bytesLess]))
  | a :: x, b :: y => by
    simp only [Op.bytesLess, Bool.or_eq_true, decide_eq_true_eq, Bool.and_eq_true, beq_iff_eq, List.cons.injEq]
    rcases Nat.lt_trichotomy a.toNat b.toNat with h | h | h
    · exact .inl (.inl (UInt8.lt_iff_toNat_lt.2 h))
    · have h := UInt8.toNat_inj.1 h
      subst h
      rcases bytesLess_total x y with h | h | h
      · exact .inl (.inr ⟨rfl, h⟩)
      · exact .inr (.inl ⟨rfl, h⟩)
      · exact .inr (.inr (.inr ⟨rfl, h⟩))
    · exact .inr (.inr (.inl (UInt8.lt_iff_toNat_lt.2 h)))

theorem bl_irrefl (x : ByteArray) : bl x x = false := bytesLess_irrefl _
theorem bl_trans {x y z : ByteArray} (h1 : bl x y = true) (h2 : bl y z = true) : bl x z = true := bytesLess_trans _ _ _ h1 h2
theorem bl_total (x y : ByteArray) : bl x y = true ∨ x = y ∨ bl y x = true := by
  rcases bytesLess_total x.toList y.toList with h | h | h
  · exact .inl h
  · right; left
    have := str_eq x y
    rw [h] at this
    simpa using this.symm
  · exact .inr (.inr h)
theorem bl_asymm {x y : ByteArray} (h : bl x y = true) : bl y x = false := by
  cases h2 : bl y x with
  | false => rfl
  | true => have := bl_trans h h2; rw [bl_irrefl] at this; cases this
theorem bl_ne {x y : ByteArray} (h : bl x y = true) : x ≠ y := by
  rintro rfl; rw [bl_irrefl] at h; cases h

/-- Is a place of a list ahead of another one: by the texts, then by the places? -/
def ltN (l : List ByteArray) (a b : Fin l.length) : Bool := if l[a] = l[b] then decide (a.val < b.val) else bl l[a] l[b]

theorem ltN_trans {l : List ByteArray} {x y z : Fin l.length} (h1 : ltN l x y = true) (h2 : ltN l y z = true) : ltN l x z = true := by
  unfold ltN at *
  by_cases e1 : l[x] = l[y] <;> by_cases e2 : l[y] = l[z]
  · rw [if_pos e1] at h1; rw [if_pos e2] at h2; rw [if_pos (e1.trans e2)]; simp at *; omega
  · rw [if_neg e2] at h2; rw [if_neg (by rw [e1]; exact e2), e1]; exact h2
  · rw [if_neg e1] at h1; rw [if_neg (by rw [← e2]; exact e1), ← e2]; exact h1
  · rw [if_neg e1] at h1; rw [if_neg e2] at h2
    have h3 := bl_trans h1 h2
    rw [if_neg (bl_ne h3)]; exact h3
theorem ltN_irrefl (l : List ByteArray) (x : Fin l.length) : ltN l x x = false := by simp [ltN]
theorem ltN_total {l : List ByteArray} {a b : Fin l.length} (h : ltN l a b = false) : ltN l b a = true ∨ a = b := by
  unfold ltN at *
  by_cases e : l[a] = l[b]
  · rw [if_pos e] at h; rw [if_pos e.symm]
    simp at h ⊢
    rcases Nat.lt_or_eq_of_le h with h | h
    · exact .inl h
    · exact .inr (Fin.ext h.symm)
  · rw [if_neg e] at h; rw [if_neg (Ne.symm e)]
    rcases bl_total l[a] l[b] with h3 | h3 | h3
    · rw [h] at h3; cases h3
    · exact absurd h3 e
    · exact .inl h3
theorem swo_ltN (l : List ByteArray) : SWO (ltN l) where
  irrefl := ltN_irrefl l
  trans := fun x y z h1 h2 => ltN_trans h1 h2
  ntrans := fun x y z h1 h2 => by
    have h3 : ltN l z x = true ∨ x = z := by
      rcases ltN_total h1 with h1 | rfl
      · rcases ltN_total h2 with h2 | rfl
        · exact .inl (ltN_trans h2 h1)
        · exact .inl h1
      · exact ltN_total h2
    cases h4 : ltN l x z with
    | false => rfl
    | true =>
      rcases h3 with h3 | rfl
      · have := ltN_trans h3 h4; rw [ltN_irrefl] at this; cases this
      · rw [ltN_irrefl] at h4; cases h4

/-- The text at a place. -/
def sAt (l : List ByteArray) (p : Nat) : ByteArray := l.getD p ⟨#[]⟩
theorem sAt_eq {l : List ByteArray} {p : Nat} (h : p < l.length) : sAt l p = l[p] := by
  unfold sAt
  rw [List.getD_eq_getElem?_getD, List.getElem?_eq_getElem h]; rfl

/-- Places, sorted by their texts, then by themselves: every one once. -/
structure SortedAt (l : List ByteArray) (ps : List Nat) : Prop where
  len : ps.length = l.length
  lt : ∀ p ∈ ps, p < l.length
  all : ∀ p, p < l.length → p ∈ ps
  le : ∀ i j (hi : i < j) (hj : j < ps.length), bl (sAt l ps[i]) (sAt l ps[j]) = true ∨ (sAt l ps[i] = sAt l ps[j] ∧ ps[i] ≤ ps[j])

/-- The first places of the texts of the first k places. -/
structure FirstsTo (l : List ByteArray) (ps : List Nat) (k : Nat) (O : List Nat) : Prop where
  first : ∀ p ∈ O, p < l.length ∧ ∀ q, q < l.length → sAt l q = sAt l p → p ≤ q
  up : O.Pairwise fun p q => bl (sAt l p) (sAt l q) = true
  has : ∀ i (_ : i < k) (hi : i < ps.length), ∃ p ∈ O, sAt l p = sAt l ps[i]
  of : ∀ p ∈ O, ∃ i, ∃ hi : i < ps.length, i < k ∧ ps[i] = p
  short : O.length ≤ k

theorem firsts_nil (l : List ByteArray) (ps : List Nat) : FirstsTo l ps 0 [] := ⟨by simp, List.Pairwise.nil, fun i h => absurd h (by omega), by simp, Nat.le_refl _⟩
theorem firsts_skip {l : List ByteArray} {ps : List Nat} {k : Nat} {O : List Nat} (h : FirstsTo l ps k O) (hk : k < ps.length) (h0 : 0 < k) (he : sAt l ps[k] = sAt l ps[k - 1]) : FirstsTo l ps (k + 1) O := by
  refine ⟨h.first, h.up, fun i hi hi' => ?_, fun p hp => ?_, Nat.le_succ_of_le h.short⟩
  · by_cases e : i = k
    · subst e
      obtain ⟨p, hp, e⟩ := h.has (i - 1) (by omega) (by omega)
      exact ⟨p, hp, by rw [e, he]⟩
    · exact h.has i (by omega) hi'
  · obtain ⟨i, hi, hik, e⟩ := h.of p hp
    exact ⟨i, hi, by omega, e⟩
theorem firsts_new {l : List ByteArray} {ps : List Nat} {k : Nat} {O : List Nat} (hs : SortedAt l ps) (h : FirstsTo l ps k O) (hk : k < ps.length) (hn : ∀ _ : 0 < k, sAt l ps[k] ≠ sAt l ps[k - 1]) : FirstsTo l ps (k + 1) (O ++ [ps[k]]) := by
  have below : ∀ i (hi : i < k), bl (sAt l (ps[i]'(by omega))) (sAt l ps[k]) = true := by
    intro i hi
    rcases hs.le i k hi hk with h1 | ⟨h1, _⟩
    · exact h1
    · exfalso
      by_cases e : i = k - 1
      · subst e; exact hn (by omega) h1.symm
      · rcases hs.le i (k - 1) (by omega) (by omega) with h2 | ⟨h2, _⟩
        · rcases hs.le (k - 1) k (by omega) hk with h3 | ⟨h3, _⟩
          · have := bl_trans h2 h3; rw [h1, bl_irrefl] at this; cases this
          · rw [h1, ← h3] at h2; rw [h3] at h2
            exact hn (by omega) h3.symm
        · exact hn (by omega) (by rw [← h1, h2])
  refine ⟨fun p hp => ?_, ?_, fun i hi hi' => ?_, fun p hp => ?_, by have := h.short; simp; omega⟩
  · rcases List.mem_append.1 hp with hp | hp
    · exact h.first p hp
    · obtain rfl : p = ps[k] := by simpa using hp
      refine ⟨hs.lt _ (List.getElem_mem hk), fun q hq he => ?_⟩
      obtain ⟨j, hj, rfl⟩ := List.getElem_of_mem (hs.all q hq)
      rcases Nat.lt_trichotomy j k with hjk | rfl | hjk
      · have := below j hjk; rw [he, bl_irrefl] at this; cases this
      · exact Nat.le_refl _
      · rcases hs.le k j hjk hj with h1 | ⟨_, h1⟩
        · rw [he, bl_irrefl] at h1; cases h1
        · exact h1
  · rw [List.pairwise_append]
    refine ⟨h.up, by simp, fun p hp q hq => ?_⟩
    obtain rfl : q = ps[k] := by simpa using hq
    obtain ⟨i, hi, hik, rfl⟩ := h.of p hp
    exact below i hik
  · by_cases e : i = k
    · subst e; exact ⟨ps[i], by simp, rfl⟩
    · obtain ⟨p, hp, e⟩ := h.has i (by omega) hi'
      exact ⟨p, by simp [hp], e⟩
  · rcases List.mem_append.1 hp with hp | hp
    · obtain ⟨i, hi, hik, e⟩ := h.of p hp
      exact ⟨i, hi, by omega, e⟩
    · obtain rfl : p = ps[k] := by simpa using hp
      exact ⟨k, hk, by omega, rfl⟩

/-- The table's row: the first places of all texts, by bytes. -/
structure TableOK (l : List ByteArray) (O : List Nat) : Prop where
  first : ∀ p ∈ O, p < l.length ∧ ∀ q, q < l.length → sAt l q = sAt l p → p ≤ q
  up : O.Pairwise fun p q => bl (sAt l p) (sAt l q) = true
  has : ∀ q, q < l.length → ∃ p ∈ O, sAt l p = sAt l q
  short : O.length ≤ l.length
theorem firsts_end {l : List ByteArray} {ps O : List Nat} (hs : SortedAt l ps) (h : FirstsTo l ps ps.length O) : TableOK l O :=
  ⟨h.first, h.up, fun q hq => by
    obtain ⟨i, hi, rfl⟩ := List.getElem_of_mem (hs.all q hq)
    exact h.has i hi hi, by rw [← hs.len]; exact h.short⟩
end Go.Proofs.Ytanpljalbijfkaa
