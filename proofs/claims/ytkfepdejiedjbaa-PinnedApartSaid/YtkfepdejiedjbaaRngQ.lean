/- The document's ranges, plain: going from where something begins, or ends, to the next such rune. -/
import Derived.Test.YtkfepdejiedjbaaRngP
namespace Go.Proofs.Ytkfepdejiedjbaa
open Go.RowKit

theorem canon_snoc {O : List (Int × Int)} {p : Int × Int} {lo : Int} (h : canonFrom lo O) (hl : lo ≤ p.1) (hg : ∀ q ∈ O, q.2 + 2 ≤ p.1) (h1 : p.1 ≤ p.2) (h2 : p.2 ≤ 1114111) : canonFrom lo (O ++ [p]) := by
  induction O generalizing lo with
  | nil => exact ⟨hl, h1, h2, trivial⟩
  | cons q O ih => exact ⟨h.1, h.2.1, h.2.2.1, ih h.2.2.2 (hg q (by simp)) (fun r hr => hg r (by simp [hr]))⟩
theorem canon_split {O : List (Int × Int)} {p : Int × Int} {lo : Int} (h : canonFrom lo (O ++ [p])) : canonFrom lo O ∧ lo ≤ p.1 ∧ (∀ q ∈ O, q.2 + 2 ≤ p.1) ∧ p.1 ≤ p.2 ∧ p.2 ≤ 1114111 := by
  induction O generalizing lo with
  | nil => exact ⟨trivial, h.1, by simp, h.2.1, h.2.2.1⟩
  | cons q O ih =>
    obtain ⟨h1, h2, h3, h4⟩ := h
    obtain ⟨i1, i2, i3, i4, i5⟩ := ih h4
    refine ⟨⟨h1, h2, h3, i1⟩, by omega, fun r hr => ?_, i4, i5⟩
    rcases List.mem_cons.1 hr with rfl | hr
    · exact i2
    · exact i3 r hr
theorem canon_len {l : List (Int × Int)} {lo : Int} (h : canonFrom lo l) (hlo : lo ≤ 1114113) : 2 * (l.length : Int) ≤ 1114113 - lo := by
  induction l generalizing lo with
  | nil => simp; omega
  | cons p l ih =>
    obtain ⟨h1, h2, h3, h4⟩ := h
    have := ih h4 (by omega)
    simp only [List.length_cons]
    omega
theorem canon_len0 {l : List (Int × Int)} (h : canonFrom 0 l) : l.length ≤ 557056 := by
  have := canon_len h (by omega)
  omega

/-- One range of the least rune from one on at which something begins, or ends. -/
def nextS (fr : Int) (out : Int) (p : Int × Int) : Int :=
  let o1 := if fr ≤ p.1 ∧ p.1 < out then p.1 else out
  if fr ≤ p.2 + 1 ∧ p.2 + 1 < o1 then p.2 + 1 else o1
def nextL (l : List (Int × Int)) (fr : Int) : Int := l.foldl (nextS fr) 1114112
theorem nextL_snoc (l : List (Int × Int)) (p : Int × Int) (fr : Int) : nextL (l ++ [p]) fr = nextS fr (nextL l fr) p := by simp [nextL]

theorem nextS_le (fr out : Int) (p : Int × Int) : nextS fr out p ≤ out ∧ (fr ≤ out → fr ≤ nextS fr out p) ∧ ¬ (fr ≤ p.1 ∧ p.1 < nextS fr out p) ∧ ¬ (fr ≤ p.2 + 1 ∧ p.2 + 1 < nextS fr out p) := by
  simp only [nextS]
  refine ⟨?_, ?_, ?_, ?_⟩ <;> split <;> split <;> omega

theorem nextL_spec (l : List (Int × Int)) (fr : Int) (h : fr ≤ 1114112) : fr ≤ nextL l fr ∧ nextL l fr ≤ 1114112 ∧ ∀ p ∈ l, ¬ (fr ≤ p.1 ∧ p.1 < nextL l fr) ∧ ¬ (fr ≤ p.2 + 1 ∧ p.2 + 1 < nextL l fr) := by
  have key : ∀ (m : List (Int × Int)) (o : Int), fr ≤ o → o ≤ 1114112 → fr ≤ m.foldl (nextS fr) o ∧ m.foldl (nextS fr) o ≤ o ∧ ∀ p ∈ m, ¬ (fr ≤ p.1 ∧ p.1 < m.foldl (nextS fr) o) ∧ ¬ (fr ≤ p.2 + 1 ∧ p.2 + 1 < m.foldl (nextS fr) o) := by
    intro m
    induction m with
    | nil => intro o h1 h2; exact ⟨h1, Int.le_refl _, by simp⟩
    | cons q m ih =>
      intro o h1 h2
      obtain ⟨a, b, c, d⟩ := nextS_le fr o q
      obtain ⟨i1, i2, i3⟩ := ih (nextS fr o q) (b h1) (by omega)
      rw [List.foldl_cons]
      refine ⟨i1, by omega, fun p hp => ?_⟩
      rcases List.mem_cons.1 hp with rfl | hp
      · omega
      · exact i3 p hp
  exact key l 1114112 h (Int.le_refl _)

theorem nextL_same {l : List (Int × Int)} {at_ r e : Int} (h0 : 0 ≤ at_) (h : at_ + 1 ≤ 1114112) (he : e ≤ nextL l (at_ + 1)) (h1 : at_ ≤ r) (h2 : r < e) : hasT l r = hasT l at_ := by
  obtain ⟨s1, s2, s3⟩ := nextL_spec l (at_ + 1) h
  unfold hasT
  have d1 : decide (0 ≤ r ∧ r ≤ 1114111) = true := by rw [decide_eq_true_eq]; omega
  have d2 : decide (0 ≤ at_ ∧ at_ ≤ 1114111) = true := by rw [decide_eq_true_eq]; omega
  rw [d1, d2, Bool.true_and, Bool.true_and]
  unfold inT
  have hp : ∀ p ∈ l, (p.1 ≤ r ∧ r ≤ p.2 ↔ p.1 ≤ at_ ∧ at_ ≤ p.2) := fun p hp => by have := s3 p hp; omega
  rw [Bool.eq_iff_iff, List.any_eq_true, List.any_eq_true]
  constructor
  · rintro ⟨p, hm, hd⟩
    exact ⟨p, hm, by rw [decide_eq_true_eq] at hd ⊢; exact (hp p hm).1 hd⟩
  · rintro ⟨p, hm, hd⟩
    exact ⟨p, hm, by rw [decide_eq_true_eq] at hd ⊢; exact (hp p hm).2 hd⟩

/-- Which runes are wanted: 1 those of a or b, 2 of both, 3 of a alone. -/
def kindL (a b : List (Int × Int)) (how : Int) (r : Int) : Bool :=
  if how = 1 then hasT a r || hasT b r else if how = 2 then hasT a r && hasT b r else hasT a r && !hasT b r
theorem kindL_in {a b : List (Int × Int)} {how r : Int} (h : kindL a b how r = true) : 0 ≤ r ∧ r ≤ 1114111 := by
  have : hasT a r = true ∨ hasT b r = true := by
    unfold kindL at h
    split at h
    · simpa using h
    · split at h
      · simp at h; exact .inl h.1
      · simp at h; exact .inl h.1
  rcases this with h | h <;> (unfold hasT at h; simp at h; exact h.1)

/-- How far the document's going has come: all wanted runes below one. -/
def goneTo (a b : List (Int × Int)) (how : Int) (at_ : Int) (O : List (Int × Int)) : Prop :=
  0 ≤ at_ ∧ at_ ≤ 1114112 ∧ canonFrom 0 O ∧ ∀ r, inT O r = (decide (r < at_) && kindL a b how r)
def endL (a b : List (Int × Int)) (at_ : Int) : Int := if nextL b (at_ + 1) < nextL a (at_ + 1) then nextL b (at_ + 1) else nextL a (at_ + 1)

theorem endL_spec {a b : List (Int × Int)} {at_ : Int} (h0 : 0 ≤ at_) (h : at_ ≤ 1114111) (how : Int) : at_ + 1 ≤ endL a b at_ ∧ endL a b at_ ≤ 1114112 ∧ ∀ r, at_ ≤ r → r < endL a b at_ → kindL a b how r = kindL a b how at_ := by
  obtain ⟨a1, a2, _⟩ := nextL_spec a (at_ + 1) (by omega)
  obtain ⟨b1, b2, _⟩ := nextL_spec b (at_ + 1) (by omega)
  have l1 : endL a b at_ ≤ nextL a (at_ + 1) := by unfold endL; split <;> omega
  have l2 : endL a b at_ ≤ nextL b (at_ + 1) := by unfold endL; split <;> omega
  refine ⟨by unfold endL; split <;> omega, by omega, fun r h1 h2 => ?_⟩
  unfold kindL
  rw [nextL_same h0 (by omega) l1 h1 h2, nextL_same h0 (by omega) l2 h1 h2]

theorem gone_start (a b : List (Int × Int)) (how : Int) : goneTo a b how 0 [] := by
  refine ⟨by omega, by omega, trivial, fun r => ?_⟩
  cases h : kindL a b how r with
  | false => simp [inT]
  | true => have := kindL_in h; simp [inT]; omega
theorem gone_last {a b : List (Int × Int)} {how at_ : Int} {O : List (Int × Int)} (h : goneTo a b how at_ O) : ∀ q ∈ O, q.2 < at_ ∧ 0 ≤ q.1 ∧ q.1 ≤ q.2 ∧ q.2 ≤ 1114111 := by
  intro q hq
  have hok : ∀ {l : List (Int × Int)} {lo : Int}, canonFrom lo l → ∀ q ∈ l, lo ≤ q.1 ∧ q.1 ≤ q.2 ∧ q.2 ≤ 1114111 := by
    intro l
    induction l with
    | nil => intro lo _ q hq; simp at hq
    | cons p l ih =>
      intro lo hc q hq
      rcases List.mem_cons.1 hq with rfl | hq
      · exact ⟨hc.1, hc.2.1, hc.2.2.1⟩
      · have := ih hc.2.2.2 q hq
        have h1 := hc.1
        have h2 := hc.2.1
        omega
  have h1 := hok h.2.2.1 q hq
  have h2 := h.2.2.2 q.2
  have h3 : inT O q.2 = true := by
    unfold inT
    rw [List.any_eq_true]
    exact ⟨q, hq, by simp; omega⟩
  rw [h3] at h2
  have h2 := h2.symm
  simp at h2
  omega
theorem gone_no {a b : List (Int × Int)} {how at_ : Int} {O : List (Int × Int)} (h : goneTo a b how at_ O) (ha : at_ ≤ 1114111) (hk : kindL a b how at_ = false) : goneTo a b how (endL a b at_) O := by
  obtain ⟨h0, h1, h2, h3⟩ := h
  obtain ⟨e1, e2, e3⟩ := endL_spec (a := a) (b := b) h0 ha how
  refine ⟨by omega, e2, h2, fun r => ?_⟩
  rw [h3 r]
  by_cases c1 : r < at_
  · have : r < endL a b at_ := by omega
    simp [c1, this]
  · by_cases c2 : r < endL a b at_
    · rw [e3 r (by omega) c2, hk]; simp
    · simp [c1, c2]
theorem gone_new {a b : List (Int × Int)} {how at_ : Int} {O : List (Int × Int)} (h : goneTo a b how at_ O) (ha : at_ ≤ 1114111) (hk : kindL a b how at_ = true) (hn : ∀ d c, O = d ++ [c] → c.2 ≠ at_ - 1) : goneTo a b how (endL a b at_) (O ++ [(at_, endL a b at_ - 1)]) := by
  have hl := gone_last h
  obtain ⟨h0, h1, h2, h3⟩ := h
  obtain ⟨e1, e2, e3⟩ := endL_spec (a := a) (b := b) h0 ha how
  refine ⟨by omega, e2, canon_snoc h2 h0 (fun q hq => ?_) (by show at_ ≤ endL a b at_ - 1; omega) (by show endL a b at_ - 1 ≤ 1114111; omega), fun r => ?_⟩
  · show q.2 + 2 ≤ at_
    rcases List.eq_nil_or_concat O with hO | ⟨d, c, hO⟩
    · subst hO; simp at hq
    · rw [List.concat_eq_append] at hO
      have hc := hn d c hO
      subst hO
      obtain ⟨_, _, g, g2, g3⟩ := canon_split h2
      have := hl c (by simp)
      rcases List.mem_append.1 hq with hq | hq
      · have := g q hq; omega
      · simp at hq; subst hq; omega
  · rw [inT_append, h3 r, inT_cons, inT_nil, Bool.or_false]
    show (_ || decide (at_ ≤ r ∧ r ≤ endL a b at_ - 1)) = _
    by_cases c1 : r < at_
    · have c2 : r < endL a b at_ := by omega
      have c3 : ¬ (at_ ≤ r) := by omega
      simp [c1, c2, c3]
    · by_cases c2 : r < endL a b at_
      · have c3 : at_ ≤ r ∧ r ≤ endL a b at_ - 1 := by omega
        rw [e3 r (by omega) c2, hk]
        simp [c2]
        omega
      · have c3 : ¬ (r ≤ endL a b at_ - 1) := by omega
        simp [c1, c2, c3]
theorem gone_join {a b : List (Int × Int)} {how at_ : Int} {d : List (Int × Int)} {c : Int × Int} (h : goneTo a b how at_ (d ++ [c])) (ha : at_ ≤ 1114111) (hk : kindL a b how at_ = true) (hc : c.2 = at_ - 1) : goneTo a b how (endL a b at_) (d ++ [(c.1, endL a b at_ - 1)]) := by
  have hl := gone_last h
  obtain ⟨h0, h1, h2, h3⟩ := h
  obtain ⟨e1, e2, e3⟩ := endL_spec (a := a) (b := b) h0 ha how
  obtain ⟨g1, g2, g3, g4, g5⟩ := canon_split h2
  refine ⟨by omega, e2, canon_snoc g1 g2 g3 (by show c.1 ≤ endL a b at_ - 1; omega) (by show endL a b at_ - 1 ≤ 1114111; omega), fun r => ?_⟩
  have h4 := h3 r
  rw [inT_append, inT_cons, inT_nil, Bool.or_false] at h4 ⊢
  show (_ || decide (c.1 ≤ r ∧ r ≤ endL a b at_ - 1)) = _
  by_cases c1 : r < at_
  · have c2 : r < endL a b at_ := by omega
    have c3 : (c.1 ≤ r ∧ r ≤ endL a b at_ - 1) ↔ (c.1 ≤ r ∧ r ≤ c.2) := by omega
    simp only [c3, h4, c1, c2]
  · have c5 : ¬ r ≤ c.2 := by omega
    simp only [c1, c5, decide_false, Bool.false_and, and_false, Bool.or_false] at h4
    rw [h4, Bool.false_or]
    by_cases c2 : r < endL a b at_
    · rw [e3 r (by omega) c2, hk]
      simp [c2]
      omega
    · have c3 : ¬ (r ≤ endL a b at_ - 1) := by omega
      simp [c2, c3]
theorem gone_end {a b : List (Int × Int)} {how at_ : Int} {O : List (Int × Int)} (h : goneTo a b how at_ O) (ha : ¬ at_ ≤ 1114111) : canonFrom 0 O ∧ ∀ r, inT O r = kindL a b how r := by
  refine ⟨h.2.2.1, fun r => ?_⟩
  rw [h.2.2.2 r]
  cases hk : kindL a b how r with
  | false => simp
  | true => have := kindL_in hk; simp; omega
end Go.Proofs.Ytkfepdejiedjbaa
