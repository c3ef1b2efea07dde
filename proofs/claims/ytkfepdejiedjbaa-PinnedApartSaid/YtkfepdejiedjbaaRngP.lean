/- Sets of runes as ranges that rise: one form; merging, meeting, the others. Plain. -/
import Derived.Test.YtkfepdejiedjbaaPinA
namespace Go.Proofs.Ytkfepdejiedjbaa
open Go.RowKit

/-- Ranges that rise from 'lo' on, with a gap between each two, up to the greatest rune. -/
def canonFrom : Int → List (Int × Int) → Prop
  | _, [] => True
  | lo, p :: l => lo ≤ p.1 ∧ p.1 ≤ p.2 ∧ p.2 ≤ 1114111 ∧ canonFrom (p.2 + 2) l

theorem inT_nil (r : Int) : inT [] r = false := rfl
theorem inT_cons (p : Int × Int) (l : List (Int × Int)) (r : Int) : inT (p :: l) r = (decide (p.1 ≤ r ∧ r ≤ p.2) || inT l r) := rfl
theorem inT_append (l m : List (Int × Int)) (r : Int) : inT (l ++ m) r = (inT l r || inT m r) := by
  unfold inT; rw [List.any_append]

theorem canonFrom_in {l : List (Int × Int)} {lo r : Int} (h : canonFrom lo l) (hr : inT l r = true) : lo ≤ r ∧ r ≤ 1114111 := by
  induction l generalizing lo with
  | nil => simp [inT] at hr
  | cons p l ih =>
    obtain ⟨h1, h2, h3, h4⟩ := h
    rw [inT_cons, Bool.or_eq_true, decide_eq_true_eq] at hr
    rcases hr with hr | hr
    · omega
    · have := ih h4 hr
      omega

theorem canonFrom_le {l : List (Int × Int)} {lo lo' : Int} (h : canonFrom lo l) (hl : lo' ≤ lo) : canonFrom lo' l := by
  cases l with
  | nil => trivial
  | cons p l => exact ⟨by have := h.1; omega, h.2⟩

theorem canon_unique {l m : List (Int × Int)} {lo lo' : Int} (hl : canonFrom lo l) (hm : canonFrom lo' m) (h : ∀ r, inT l r = inT m r) : l = m := by
  induction l generalizing m lo lo' with
  | nil =>
    cases m with
    | nil => rfl
    | cons q m =>
      have := h q.1
      rw [inT_nil, inT_cons] at this
      have h2 := hm.2.1
      simp [h2] at this
  | cons p l ih =>
    cases m with
    | nil =>
      have := h p.1
      rw [inT_nil, inT_cons] at this
      have h2 := hl.2.1
      simp [h2] at this
    | cons q m =>
      obtain ⟨a1, a2, a3, a4⟩ := hl
      obtain ⟨b1, b2, b3, b4⟩ := hm
      have low : ∀ {p q : Int × Int} {l m : List (Int × Int)}, p.1 ≤ p.2 → canonFrom (q.2 + 2) m → q.1 ≤ q.2 → (∀ r, inT (p :: l) r = inT (q :: m) r) → q.1 ≤ p.1 := by
        intro p q l m hp hm hq h
        have := h p.1
        rw [inT_cons, inT_cons] at this
        simp only [Int.le_refl, hp, and_self, decide_true, Bool.true_or] at this
        have this := this.symm
        rw [Bool.or_eq_true, decide_eq_true_eq] at this
        rcases this with t | t
        · omega
        · have := canonFrom_in hm t; omega
      have e1 : p.1 = q.1 := Int.le_antisymm (low b2 a4 a2 (fun r => (h r).symm)) (low a2 b4 b2 h)
      have up : ∀ {p q : Int × Int} {l m : List (Int × Int)}, p.1 = q.1 → p.1 ≤ p.2 → canonFrom (p.2 + 2) l → (∀ r, inT (p :: l) r = inT (q :: m) r) → q.2 ≤ p.2 := by
        intro p q l m he hp hl h
        by_cases c : q.2 ≤ p.2
        · exact c
        · have := h (p.2 + 1)
          rw [inT_cons, inT_cons] at this
          have d1 : decide (p.1 ≤ p.2 + 1 ∧ p.2 + 1 ≤ p.2) = false := by simp; omega
          have d2 : decide (q.1 ≤ p.2 + 1 ∧ p.2 + 1 ≤ q.2) = true := by simp; omega
          rw [d1, d2, Bool.false_or, Bool.true_or] at this
          have := canonFrom_in hl this
          omega
      have e2 : p.2 = q.2 := Int.le_antisymm (up e1.symm b2 b4 (fun r => (h r).symm)) (up e1 a2 a4 h)
      have e : p = q := Prod.ext e1 e2
      subst e
      congr 1
      refine ih a4 b4 fun r => ?_
      by_cases c : r ≤ p.2 + 1
      · have f1 : inT l r = false := by
          cases hx : inT l r with
          | false => rfl
          | true => have := canonFrom_in a4 hx; omega
        have f2 : inT m r = false := by
          cases hx : inT m r with
          | false => rfl
          | true => have := canonFrom_in b4 hx; omega
        rw [f1, f2]
      · have := h r
        rw [inT_cons, inT_cons] at this
        have d : decide (p.1 ≤ r ∧ r ≤ p.2) = false := by simp; omega
        rwa [d, Bool.false_or, Bool.false_or] at this

/-- Merging ranges that are sorted by where they begin. -/
def mg : Int × Int → List (Int × Int) → List (Int × Int)
  | c, [] => [c]
  | c, x :: xs => if x.1 ≤ c.2 + 1 then mg (c.1, max c.2 x.2) xs else c :: mg x xs
def mergeL : List (Int × Int) → List (Int × Int)
  | [] => []
  | x :: xs => mg x xs

def okR (p : Int × Int) : Prop := 0 ≤ p.1 ∧ p.1 ≤ p.2 ∧ p.2 ≤ 1114111
def sortedLo : List (Int × Int) → Prop
  | [] => True
  | p :: l => (∀ q ∈ l, p.1 ≤ q.1) ∧ sortedLo l

theorem mg_canon {l : List (Int × Int)} {c : Int × Int} {lo : Int} (hc : okR c) (hlo : lo ≤ c.1) (hl : ∀ p ∈ l, okR p) (hs : sortedLo l) (hcl : ∀ p ∈ l, c.1 ≤ p.1) : canonFrom lo (mg c l) := by
  induction l generalizing c lo with
  | nil => exact ⟨hlo, hc.2.1, hc.2.2, trivial⟩
  | cons x l ih =>
    have hx : okR x := hl x (by simp)
    have hcx : c.1 ≤ x.1 := hcl x (by simp)
    unfold mg
    split
    · refine ih ⟨hc.1, ?_, ?_⟩ hlo (fun p hp => hl p (by simp [hp])) hs.2 (fun p hp => hcl p (by simp [hp]))
      · have := hc.2.1; show c.1 ≤ max c.2 x.2; omega
      · have := hc.2.2; have := hx.2.2; show max c.2 x.2 ≤ _; omega
    · rename_i h
      exact ⟨hlo, hc.2.1, hc.2.2, ih hx (by omega) (fun p hp => hl p (by simp [hp])) hs.2 (fun p hp => hs.1 p hp)⟩

theorem mg_in {l : List (Int × Int)} {c : Int × Int} (hc : okR c) (hl : ∀ p ∈ l, okR p) (hs : sortedLo l) (hcl : ∀ p ∈ l, c.1 ≤ p.1) (r : Int) : inT (mg c l) r = inT (c :: l) r := by
  induction l generalizing c with
  | nil => rfl
  | cons x l ih =>
    have hx : okR x := hl x (by simp)
    have hcx : c.1 ≤ x.1 := hcl x (by simp)
    unfold mg
    split
    · rename_i h
      rw [ih (c := (c.1, max c.2 x.2)) ⟨hc.1, by have := hc.2.1; show c.1 ≤ max c.2 x.2; omega, by have := hc.2.2; have := hx.2.2; show max c.2 x.2 ≤ _; omega⟩ (fun p hp => hl p (by simp [hp])) hs.2 (fun p hp => hcl p (by simp [hp]))]
      rw [inT_cons, inT_cons, inT_cons, ← Bool.or_assoc]
      congr 1
      rw [Bool.eq_iff_iff]
      simp only [Bool.or_eq_true, decide_eq_true_eq]
      have := hc.2.1; have := hx.2.1
      omega
    · show (decide (c.1 ≤ r ∧ r ≤ c.2) || inT (mg x l) r) = (decide (c.1 ≤ r ∧ r ≤ c.2) || inT (x :: l) r)
      rw [ih hx (fun p hp => hl p (by simp [hp])) hs.2 (fun p hp => hs.1 p hp)]

theorem mergeL_canon {l : List (Int × Int)} (hl : ∀ p ∈ l, okR p) (hs : sortedLo l) : canonFrom 0 (mergeL l) := by
  cases l with
  | nil => trivial
  | cons x l => exact mg_canon (hl x (by simp)) (hl x (by simp)).1 (fun p hp => hl p (by simp [hp])) hs.2 hs.1
theorem mergeL_in {l : List (Int × Int)} (hl : ∀ p ∈ l, okR p) (hs : sortedLo l) (r : Int) : inT (mergeL l) r = inT l r := by
  cases l with
  | nil => rfl
  | cons x l => exact mg_in (hl x (by simp)) (fun p hp => hl p (by simp [hp])) hs.2 hs.1 r

/-- Ranges cut to runes; those that are left. -/
def clipL (l : List (Int × Int)) : List (Int × Int) := (l.map fun p => (max p.1 0, min p.2 1114111)).filter fun p => decide (p.1 ≤ p.2)
theorem clipL_ok (l : List (Int × Int)) : ∀ p ∈ clipL l, okR p := by
  intro p hp
  unfold clipL at hp
  rw [List.mem_filter, List.mem_map] at hp
  obtain ⟨⟨q, _, rfl⟩, h⟩ := hp
  simp only [decide_eq_true_eq] at h
  exact ⟨by simp only []; omega, h, by simp only []; omega⟩
theorem clipL_in (l : List (Int × Int)) (r : Int) : inT (clipL l) r = hasT l r := by
  unfold hasT
  induction l with
  | nil => simp [clipL, inT]
  | cons p l ih =>
    have e : clipL (p :: l) = if max p.1 0 ≤ min p.2 1114111 then (max p.1 0, min p.2 1114111) :: clipL l else clipL l := by
      unfold clipL
      rw [List.map_cons, List.filter_cons]
      simp only [decide_eq_true_eq]
    rw [e, inT_cons, Bool.and_or_distrib_left, ← ih]
    split
    · rw [inT_cons]
      congr 1
      rw [Bool.eq_iff_iff]
      simp only [Bool.and_eq_true, decide_eq_true_eq]
      omega
    · have : (decide (0 ≤ r ∧ r ≤ 1114111) && decide (p.1 ≤ r ∧ r ≤ p.2)) = false := by
        rw [← Bool.not_eq_true, Bool.and_eq_true, decide_eq_true_eq, decide_eq_true_eq]
        omega
      rw [this, Bool.false_or]

/-- What both have, range by range. -/
def bothL : List (Int × Int) → List (Int × Int) → List (Int × Int)
  | [], _ => []
  | _ :: _, [] => []
  | a :: s, b :: t => (max a.1 b.1, min a.2 b.2) :: if a.2 < b.2 then bothL s (b :: t) else bothL (a :: s) t
termination_by s t => s.length + t.length

/-- All runes from one on that ranges have not. -/
def othL : Int → List (Int × Int) → List (Int × Int)
  | f, [] => [(f, 1114111)]
  | f, x :: l => (f, x.1 - 1) :: othL (x.2 + 1) l

theorem othL_in {l : List (Int × Int)} {f : Int} (h : canonFrom f l) (r : Int) : inT (othL f l) r = (decide (f ≤ r ∧ r ≤ 1114111) && !inT l r) := by
  induction l generalizing f with
  | nil => simp [othL, inT]
  | cons x l ih =>
    obtain ⟨h1, h2, h3, h4⟩ := h
    have hi := ih (f := x.2 + 1) (canonFrom_le h4 (by omega))
    unfold othL
    rw [inT_cons, inT_cons, hi]
    have hm : inT l r = true → x.2 + 2 ≤ r := fun hr => (canonFrom_in h4 hr).1
    cases hx : inT l r with
    | true =>
      have := hm hx
      rw [Bool.eq_iff_iff]
      simp
      omega
    | false =>
      rw [Bool.eq_iff_iff]
      simp
      omega

theorem bothL_in {s t : List (Int × Int)} {lo lo' : Int} (hs : canonFrom lo s) (ht : canonFrom lo' t) (r : Int) : inT (bothL s t) r = (inT s r && inT t r) := by
  induction hn : s.length + t.length using Nat.strongRecOn generalizing s t lo lo' with
  | ind n ih =>
    cases s with
    | nil => simp [bothL, inT]
    | cons a s =>
      cases t with
      | nil => simp [bothL, inT]
      | cons b t =>
        obtain ⟨a1, a2, a3, a4⟩ := hs
        obtain ⟨b1, b2, b3, b4⟩ := ht
        have ha : inT s r = true → a.2 + 2 ≤ r := fun h => (canonFrom_in a4 h).1
        have hb : inT t r = true → b.2 + 2 ≤ r := fun h => (canonFrom_in b4 h).1
        unfold bothL
        rw [inT_cons]
        simp only [List.length_cons] at hn
        split
        · rw [ih (s.length + (b :: t).length) (by simp only [List.length_cons]; omega) (s := s) (t := b :: t) a4 (lo' := lo') ⟨b1, b2, b3, b4⟩ rfl]
          rw [inT_cons, inT_cons]
          cases hx : inT s r <;> cases hy : inT t r <;> rw [Bool.eq_iff_iff] <;> simp [hx, hy] at ha hb ⊢ <;> omega
        · rw [ih ((a :: s).length + t.length) (by simp only [List.length_cons]; omega) (s := a :: s) (t := t) (lo := lo) (lo' := b.2 + 2) ⟨a1, a2, a3, a4⟩ b4 rfl]
          rw [inT_cons, inT_cons]
          cases hx : inT s r <;> cases hy : inT t r <;> rw [Bool.eq_iff_iff] <;> simp [hx, hy] at ha hb ⊢ <;> omega

end Go.Proofs.Ytkfepdejiedjbaa
