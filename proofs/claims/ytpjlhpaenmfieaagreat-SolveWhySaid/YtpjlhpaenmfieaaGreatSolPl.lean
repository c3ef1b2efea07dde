/- solve, plain: if a high fails for the least levels, rules lead there; the row of rules that tells why; one answer only. -/
import Derived.Test.YtpjlhpaenmfieaaGreatSolL
import Derived.Test.YtpjlhpaenmfieaaGreatSolO
namespace Go.Proofs.YtpjlhpaenmfieaaGreat
open Go.RowKit

/-- As many boxes as there are things that lie in one box each. -/
theorem boxes (T : Nat → Nat → Prop) (hf : ∀ i e e', T i e → T i e' → e = e') : ∀ (N n : Nat), (∀ e, e < n → ∃ i, i < N ∧ T i e) → n ≤ N := by
  intro N
  induction N generalizing T with
  | zero =>
    intro n h
    rcases Nat.eq_zero_or_pos n with h0 | h0
    · omega
    · obtain ⟨i, hi, _⟩ := h 0 h0
      omega
  | succ N ih =>
    intro n h
    cases n with
    | zero => omega
    | succ k =>
      by_cases hx : ∃ e, e < k + 1 ∧ T N e
      · obtain ⟨e0, he0, h0⟩ := hx
        have := ih (fun i e => T i (if e < e0 then e else e + 1)) (fun i e e' h1 h2 => by
          have := hf i _ _ h1 h2
          split at this <;> split at this <;> omega) k (fun e he => by
          obtain ⟨i, hi, ht⟩ := h (if e < e0 then e else e + 1) (by split <;> omega)
          refine ⟨i, ?_, ht⟩
          rcases Nat.lt_or_ge i N with h1 | h1
          · exact h1
          · obtain rfl : i = N := by omega
            have := hf i _ _ ht h0
            split at this <;> omega)
        omega
      · have := ih T hf (k + 1) (fun e he => by
          obtain ⟨i, hi, ht⟩ := h e he
          refine ⟨i, ?_, ht⟩
          rcases Nat.lt_or_ge i N with h1 | h1
          · exact h1
          · obtain rfl : i = N := by omega
            exact absurd ⟨e, he, ht⟩ hx)
        omega

theorem nowAt_next {rs : List Ru} {p : Int} {d : Nat} {a : Int} : a ∈ nowAt rs p (d + 1) ↔ ∃ i, i < rs.length ∧ (rl rs i).1 = 2 ∧ (rl rs i).2.2 ∈ nowAt rs p d ∧ (rl rs i).2.1 = a := nxtK_mem
/-- The first step of a way instead of the last. -/
theorem nowAt_first {rs : List Ru} : ∀ {d : Nat} {p a : Int}, a ∈ nowAt rs p (d + 1) ↔ ∃ i, i < rs.length ∧ (rl rs i).1 = 2 ∧ (rl rs i).2.2 = p ∧ a ∈ nowAt rs (rl rs i).2.1 d := by
  intro d
  induction d with
  | zero =>
    intro p a
    rw [nowAt_next]
    constructor
    · rintro ⟨i, h1, h2, h3, h4⟩
      exact ⟨i, h1, h2, List.mem_singleton.1 h3, by rw [← h4]; exact List.mem_singleton.2 rfl⟩
    · rintro ⟨i, h1, h2, h3, h4⟩
      exact ⟨i, h1, h2, List.mem_singleton.2 h3, (List.mem_singleton.1 h4).symm⟩
  | succ d ih =>
    intro p a
    rw [nowAt_next]
    constructor
    · rintro ⟨i, h1, h2, h3, h4⟩
      obtain ⟨j, k1, k2, k3, k4⟩ := ih.1 h3
      exact ⟨j, k1, k2, k3, nowAt_next.2 ⟨i, h1, h2, k4, h4⟩⟩
    · rintro ⟨j, k1, k2, k3, k4⟩
      obtain ⟨i, h1, h2, h3, h4⟩ := nowAt_next.1 k4
      exact ⟨i, h1, h2, ih.2 ⟨j, k1, k2, k3, h3⟩, h4⟩
theorem startsB_iff {Q : Int → Int → Bool} {rs : List Ru} {p : Int} {d : Nat} {lvl : Int} : startsB Q rs p d lvl = true ↔ ∃ i, i < rs.length ∧ (rl rs i).1 = 1 ∧ (rl rs i).2.2 ∈ nowAt rs p d ∧ Q (rl rs i).2.1 lvl = false := by
  unfold startsB
  rw [List.any_eq_true]
  constructor
  · rintro ⟨r, hr, h⟩
    obtain ⟨i, hi, rfl⟩ := List.getElem_of_mem hr
    unfold lowB at h
    rw [Bool.and_eq_true, Bool.and_eq_true, decide_eq_true_eq, hasV_iff, Bool.not_eq_true'] at h
    rw [← rl_get hi] at h
    exact ⟨i, hi, h.1.1, h.1.2, h.2⟩
  · rintro ⟨i, hi, h1, h2, h3⟩
    refine ⟨rl rs i, rl_mem hi, ?_⟩
    unfold lowB
    rw [decide_eq_true h1, hasV_iff.2 h2, h3]
    rfl
theorem starts_zero {Q : Int → Int → Bool} {rs : List Ru} {p lvl : Int} : startsB Q rs p 0 lvl = true ↔ ∃ i, i < rs.length ∧ (rl rs i).1 = 1 ∧ (rl rs i).2.2 = p ∧ Q (rl rs i).2.1 lvl = false := by
  rw [startsB_iff]
  constructor
  · rintro ⟨i, h1, h2, h3, h4⟩
    exact ⟨i, h1, h2, List.mem_singleton.1 h3, h4⟩
  · rintro ⟨i, h1, h2, h3, h4⟩
    exact ⟨i, h1, h2, List.mem_singleton.2 h3, h4⟩
theorem starts_next {Q : Int → Int → Bool} {rs : List Ru} {p lvl : Int} {d : Nat} : startsB Q rs p (d + 1) lvl = true ↔ ∃ i, i < rs.length ∧ (rl rs i).1 = 2 ∧ (rl rs i).2.2 = p ∧ startsB Q rs (rl rs i).2.1 d lvl = true := by
  rw [startsB_iff]
  constructor
  · rintro ⟨i, h1, h2, h3, h4⟩
    obtain ⟨j, k1, k2, k3, k4⟩ := nowAt_first.1 h3
    exact ⟨j, k1, k2, k3, startsB_iff.2 ⟨i, h1, h2, k4, h4⟩⟩
  · rintro ⟨j, k1, k2, k3, k4⟩
    obtain ⟨i, h1, h2, h3, h4⟩ := startsB_iff.1 k4
    exact ⟨i, h1, h2, nowAt_first.2 ⟨j, k1, k2, k3, h3⟩, h4⟩
/-- The fewest flows. -/
def Fewest (Q : Int → Int → Bool) (rs : List Ru) (lvl p : Int) (d : Nat) : Prop := startsB Q rs p d lvl = true ∧ ∀ e, e < d → startsB Q rs p e lvl = false
theorem Fewest.down {Q : Int → Int → Bool} {rs : List Ru} {lvl p : Int} {d : Nat} (h : Fewest Q rs lvl p (d + 1)) : ∃ i, i < rs.length ∧ (rl rs i).1 = 2 ∧ (rl rs i).2.2 = p ∧ Fewest Q rs lvl (rl rs i).2.1 d := by
  obtain ⟨i, h1, h2, h3, h4⟩ := starts_next.1 h.1
  refine ⟨i, h1, h2, h3, h4, fun e he => ?_⟩
  have := h.2 (e + 1) (by omega)
  rw [← Bool.not_eq_true] at this ⊢
  exact fun hs => this (starts_next.2 ⟨i, h1, h2, h3, hs⟩)
theorem Fewest.one {Q : Int → Int → Bool} {rs : List Ru} {lvl p : Int} {d e : Nat} (h : Fewest Q rs lvl p d) (k : Fewest Q rs lvl p e) : d = e := by
  rcases Nat.lt_trichotomy d e with c | c | c
  · have := k.2 d c; rw [h.1] at this; cases this
  · exact c
  · have := h.2 e c; rw [k.1] at this; cases this
def Tag (Q : Int → Int → Bool) (rs : List Ru) (lvl : Int) (i e : Nat) : Prop := (e = 0 ∧ (rl rs i).1 = 1) ∨ ((rl rs i).1 = 2 ∧ Fewest Q rs lvl (rl rs i).2.2 e)
theorem Fewest.tags {Q : Int → Int → Bool} {rs : List Ru} {lvl : Int} : ∀ {d : Nat} {p : Int}, Fewest Q rs lvl p d → ∀ e, e < d + 1 → ∃ i, i < rs.length ∧ (e = 0 ∧ (rl rs i).1 = 1 ∨ 0 < e ∧ (rl rs i).1 = 2 ∧ Fewest Q rs lvl (rl rs i).2.2 e) := by
  intro d
  induction d with
  | zero =>
    intro p h e he
    obtain ⟨i, h1, h2, _⟩ := starts_zero.1 h.1
    exact ⟨i, h1, .inl ⟨by omega, h2⟩⟩
  | succ d ih =>
    intro p h e he
    obtain ⟨i, h1, h2, h3, h4⟩ := h.down
    by_cases c : e < d + 1
    · exact ih h4 e c
    · obtain rfl : e = d + 1 := by omega
      exact ⟨i, h1, .inr ⟨by omega, h2, by rw [h3]; exact h⟩⟩
theorem Fewest.lt {Q : Int → Int → Bool} {rs : List Ru} {lvl p : Int} {d : Nat} (h : Fewest Q rs lvl p d) : d < rs.length := by
  have := boxes (fun i e => e = 0 ∧ (rl rs i).1 = 1 ∨ 0 < e ∧ (rl rs i).1 = 2 ∧ Fewest Q rs lvl (rl rs i).2.2 e) (by
    rintro i e e' (⟨h1, h2⟩ | ⟨h1, h2, h3⟩) (⟨k1, k2⟩ | ⟨k1, k2, k3⟩)
    · omega
    · rw [h2] at k2; cases k2
    · rw [h2] at k2; cases k2
    · exact h3.one k3) rs.length (d + 1) h.tags
  omega
theorem fewest_of {Q : Int → Int → Bool} {rs : List Ru} {lvl p : Int} : ∀ {d : Nat}, startsB Q rs p d lvl = true → ∃ e, e ≤ d ∧ Fewest Q rs lvl p e := by
  intro d
  induction d using Nat.strongRecOn with
  | _ d ih =>
    intro h
    by_cases c : ∃ e, e < d ∧ startsB Q rs p e lvl = true
    · obtain ⟨e, he, h1⟩ := c
      obtain ⟨e', h2, h3⟩ := ih e he h1
      exact ⟨e', by omega, h3⟩
    · exact ⟨d, Nat.le_refl _, h, fun e he => by rw [← Bool.not_eq_true]; exact fun hs => c ⟨e, he, hs⟩⟩
theorem firstD_fewest {Q : Int → Int → Bool} {rs : List Ru} {lvl p : Int} {e : Nat} (h : Fewest Q rs lvl p e) : firstD (fun d => startsB Q rs p d lvl) rs.length = e := firstD_hit (by have := h.lt; omega) h.2 h.1

/-- If a high fails for the least levels, there is a low from which flows lead to it. -/
theorem start_of {ws : List Wd} {os : List (Wd × Wd)} {m : Nat} {rs : List Ru} {x : List Nat} (hl : LatM.Lat ws.length (leqL ws os)) (hx : LatM.Lst ws.length m (leqL ws os) rs x) (hfit : ∀ r ∈ rs, rightR ws.length m r = true) {a b : Nat} (ha : a < m) (hb : b < ws.length) (hno : leqL ws os (x.getD a 0) b = false) : ∃ d, startsB (leqI ws os) rs a d b = true := by
  refine Classical.byContradiction fun hc => ?_
  have mt := hl.turn
  let mm := fun v => LatM.jn ws.length (fun a b => leqL ws os b a) v b
  have mlt : ∀ v, v < ws.length → mm v < ws.length := fun v hv => (LatM.jn_eq mt hv hb).2
  have mle : ∀ v, v < ws.length → leqL ws os (mm v) v = true ∧ leqL ws os (mm v) b = true := fun v hv => LatM.jn_left mt hv hb
  have mgl : ∀ u v, u < ws.length → v < ws.length → leqL ws os u v = true → leqL ws os u b = true → leqL ws os u (mm v) = true := fun u v hu hv h1 h2 => (LatM.jn_iff mt hv hb hu).2 ⟨h1, h2⟩
  classical
  let y : List Nat := (List.range m).map fun p => if ∃ d, startsB (leqI ws os) rs (p : Nat) d b = true then x.getD p 0 else mm (x.getD p 0)
  have yget : ∀ p, p < m → y.getD p 0 = if ∃ d, startsB (leqI ws os) rs (p : Nat) d b = true then x.getD p 0 else mm (x.getD p 0) := fun p hp => by
    show ((List.range m).map _).getD p 0 = _
    rw [List.getD_eq_getElem?_getD, List.getElem?_map, List.getElem?_range hp]
    rfl
  have xlt : ∀ p, p < m → x.getD p 0 < ws.length := fun p hp => LatM.getD_lt hx.lt (by rw [hx.len]; exact hp)
  have ylt : ∀ p, p < m → y.getD p 0 < ws.length := fun p hp => by
    rw [yget p hp]
    split
    · exact xlt p hp
    · exact mlt _ (xlt p hp)
  have yle : ∀ p, p < m → leqL ws os (y.getD p 0) (x.getD p 0) = true := fun p hp => by
    rw [yget p hp]
    split
    · exact hl.po.refl _ (xlt p hp)
    · exact (mle _ (xlt p hp)).1
  have := hx.low y (by simp [y]) (fun v hv => by
    obtain ⟨p, hp, rfl⟩ := List.getElem_of_mem hv
    have hp' : p < m := by simpa [y] using hp
    have := ylt p hp'
    rw [List.getD_eq_getElem?_getD, List.getElem?_eq_getElem hp] at this
    exact this) (fun r hr => by
    have hok := hx.ok r hr
    have hf := hfit r hr
    unfold LatM.okR at hok ⊢
    by_cases c3 : r.1 = 3
    · rw [decide_eq_true c3]; rfl
    rw [decide_eq_false c3, Bool.false_or] at hok ⊢
    unfold rightR at hf
    obtain ⟨i, hi, hri⟩ := List.getElem_of_mem hr
    rw [← rl_get hi] at hri
    unfold LatM.fromR at hok ⊢
    by_cases c1 : r.1 = 1
    · rw [if_pos c1] at hok ⊢ hf
      rw [Bool.and_eq_true, inZ_iff, inZ_iff] at hf
      have h1 : r.2.1.toNat < ws.length := by omega
      have h2 : r.2.2.toNat < m := by omega
      rw [yget _ h2]
      split
      · exact hok
      · next hns =>
        refine mgl _ _ h1 (xlt _ h2) hok ?_
        rw [← Bool.not_eq_false]
        intro hq
        refine hns ⟨0, starts_zero.2 ⟨i, hi, by rw [hri]; exact c1, by rw [hri]; omega, ?_⟩⟩
        rw [hri, show r.2.1 = (r.2.1.toNat : Int) by omega, leqI_cast h1 hb]
        exact hq
    · rw [if_neg c1] at hok ⊢ hf
      by_cases c2 : r.1 = 2
      · rw [if_pos c2] at hf
        rw [Bool.and_eq_true, inZ_iff, inZ_iff] at hf
        have h1 : r.2.1.toNat < m := by omega
        have h2 : r.2.2.toNat < m := by omega
        rw [yget _ h2]
        split
        · exact hl.po.trans _ _ _ (ylt _ h1) (xlt _ h1) (xlt _ h2) (yle _ h1) hok
        · next hns =>
          have hna : ¬ ∃ d, startsB (leqI ws os) rs (r.2.1.toNat : Nat) d b = true := by
            rintro ⟨d, hd⟩
            refine hns ⟨d + 1, starts_next.2 ⟨i, hi, by rw [hri]; exact c2, by rw [hri]; omega, ?_⟩⟩
            rw [hri, show r.2.1 = (r.2.1.toNat : Int) by omega]
            exact hd
          rw [yget _ h1, if_neg hna]
          refine mgl _ _ (mlt _ (xlt _ h1)) (xlt _ h2) ?_ (mle _ (xlt _ h1)).2
          exact hl.po.trans _ _ _ (mlt _ (xlt _ h1)) (xlt _ h1) (xlt _ h2) (mle _ (xlt _ h1)).1 hok
      · rw [if_neg c2, if_neg c3] at hf
        cases hf)
  have h1 := this a ha
  rw [yget a ha, if_neg hc] at h1
  have h2 := hl.po.trans _ _ _ (xlt a ha) (mlt _ (xlt a ha)) hb h1 (mle _ (xlt a ha)).2
  rw [hno] at h2
  cases h2

/-- The rules of a row follow each other. -/
def Fwd (rs : List Ru) : Int → List Nat → Int → Prop
  | q, [], p => q = p
  | q, i :: l, p => i < rs.length ∧ (rl rs i).1 = 2 ∧ (rl rs i).2.1 = q ∧ Fwd rs (rl rs i).2.2 l p
theorem Fwd.snoc {rs : List Ru} {l : List Nat} : ∀ {q p : Int} {i : Nat}, Fwd rs q l (rl rs i).2.1 → i < rs.length → (rl rs i).1 = 2 → (rl rs i).2.2 = p → Fwd rs q (l ++ [i]) p := by
  induction l with
  | nil => intro q p i h h1 h2 h3; exact ⟨h1, h2, h.symm, h3⟩
  | cons j l ih => intro q p i h h1 h2 h3; exact ⟨h.1, h.2.1, h.2.2.1, ih h.2.2.2 h1 h2 h3⟩
theorem Fwd.lt {rs : List Ru} {l : List Nat} : ∀ {q p : Int}, Fwd rs q l p → ∀ i ∈ l, i < rs.length := by
  induction l with
  | nil => intro q p h i hi; cases hi
  | cons j l ih =>
    intro q p h i hi
    rcases List.mem_cons.1 hi with rfl | hi
    · exact h.1
    · exact ih h.2.2.2 i hi
theorem rowP_fwd {Q : Int → Int → Bool} {rs : List Ru} {lvl : Int} : ∀ {d : Nat} {p : Int}, startsB Q rs p d lvl = true → Fwd rs (rowP Q rs lvl d p).2 (rowP Q rs lvl d p).1.reverse p ∧ startsB Q rs (rowP Q rs lvl d p).2 0 lvl = true := by
  intro d
  induction d with
  | zero => intro p h; exact ⟨rfl, h⟩
  | succ d ih =>
    intro p h
    obtain ⟨i, h1, h2, h3, h4⟩ := starts_next.1 h
    cases hf : fIdx (flowB Q rs lvl d p) rs.length with
    | none =>
      unfold fIdx at hf
      rw [List.find?_eq_none] at hf
      refine absurd ?_ (hf i (List.mem_range.2 h1))
      unfold flowB
      rw [decide_eq_true h2, decide_eq_true h3, h4]
      rfl
    | some j =>
      rw [rowP_hit hf]
      unfold fIdx at hf
      have hm := List.mem_range.1 (List.mem_of_find?_eq_some hf)
      have hp := List.find?_some hf
      unfold flowB at hp
      rw [Bool.and_eq_true, Bool.and_eq_true, decide_eq_true_eq, decide_eq_true_eq] at hp
      obtain ⟨k1, k2⟩ := ih hp.2
      refine ⟨?_, k2⟩
      rw [List.reverse_cons]
      exact k1.snoc hm hp.1.1 hp.1.2
/-- A row that tells why. -/
def RowOk (Q : Int → Int → Bool) (rs : List Ru) (h : Nat) (L : List Nat) : Prop := ∃ i F, L = i :: F ++ [h] ∧ i < rs.length ∧ (rl rs i).1 = 1 ∧ Fwd rs (rl rs i).2.2 F (rl rs h).2.1 ∧ Q (rl rs i).2.1 (rl rs h).2.2 = false
theorem trace_row {Q : Int → Int → Bool} {rs : List Ru} {h d : Nat} (hs : startsB Q rs (rl rs h).2.1 d (rl rs h).2.2 = true) : RowOk Q rs h (traceL Q rs h) := by
  obtain ⟨e, _, he⟩ := fewest_of hs
  have hfl : flowsN Q rs h = e := firstD_fewest he
  obtain ⟨k1, k2⟩ := rowP_fwd he.1
  have hrow : rowH Q rs h = rowP Q rs (rl rs h).2.2 e (rl rs h).2.1 := by unfold rowH; rw [hfl]
  rw [← hrow] at k1 k2
  obtain ⟨i, h1, h2, h3, h4⟩ := starts_zero.1 k2
  cases hf : fIdx (lowAt Q rs (rl rs h).2.2 (rowH Q rs h).2) rs.length with
  | none =>
    unfold fIdx at hf
    rw [List.find?_eq_none] at hf
    refine absurd ?_ (hf i (List.mem_range.2 h1))
    unfold lowAt
    rw [decide_eq_true h2, decide_eq_true h3, h4]
    rfl
  | some j =>
    have hm := List.mem_range.1 (List.mem_of_find?_eq_some hf)
    have hp := List.find?_some hf
    unfold lowAt at hp
    rw [Bool.and_eq_true, Bool.and_eq_true, decide_eq_true_eq, decide_eq_true_eq, Bool.not_eq_true'] at hp
    refine ⟨j, (rowH Q rs h).1.reverse, ?_, hm, hp.1.1, by rw [hp.1.2]; exact k1, hp.2⟩
    unfold traceL
    rw [hf]
    simp

/-- There is one answer only. -/
theorem SolAns.one {ws : List Wd} {os : List (Wd × Wd)} {np : Int} {rs : List Ru} {y y' : List Nat} {f f' : Int × Int} (hp : LatM.Po ws.length (leqL ws os)) (h : SolAns ws os np rs y f) (k : SolAns ws os np rs y' f') : y = y' ∧ f = f' := by
  rcases h with ⟨h1, h2, h3⟩ | ⟨h1, x, h2, h3⟩ <;> rcases k with ⟨k1, k2, k3⟩ | ⟨k1, x', k2, k3⟩
  · exact ⟨by rw [h3, k3], by rw [h2, k2]⟩
  · exact absurd k1 h1
  · exact absurd h1 k1
  · obtain rfl := h2.eq hp k2
    rcases h3 with ⟨h3, h4⟩ | ⟨h3, h4, h5⟩ <;> rcases k3 with ⟨k3, k4⟩ | ⟨k3, k4, k5⟩
    · rw [h3] at k3; injection k3 with k3; exact ⟨by rw [h4, k4], k3⟩
    · rw [h3] at k3; cases k3
    · rw [h3] at k3; cases k3
    · exact ⟨by rw [h5, k5], by rw [h4, k4]⟩
end Go.Proofs.YtpjlhpaenmfieaaGreat
/- solve, plain: the document's least levels (of each place the join of all that come to it) are the least levels. -/
namespace Go.Proofs.YtpjlhpaenmfieaaGreat
open Go.RowKit

def dStep (n : Nat) (M : Nat → Nat → Bool) (now : List Int) (lvl : Nat) (r : Ru) : Nat := if (decide (r.1 = 1) && hasV now r.2.2) = true then LatM.jn n M lvl r.2.1.toNat else lvl
def dRow (n : Nat) (M : Nat → Nat → Bool) (rs : List Ru) (now : List Int) (lvl : Nat) : Nat → Nat
  | 0 => lvl
  | k + 1 => dStep n M now (dRow n M rs now lvl k) (rl rs k)
def dLvl (n : Nat) (M : Nat → Nat → Bool) (rs : List Ru) (p : Int) : Nat → Nat
  | 0 => LatM.botN n M
  | d + 1 => dRow n M rs (nowAt rs p d) (dLvl n M rs p d) rs.length
/-- Each low asks for a level that there is. -/
def LowIn (n : Nat) (rs : List Ru) : Prop := ∀ i, i < rs.length → (rl rs i).1 = 1 → (rl rs i).2.1.toNat < n
theorem dStep_le {n : Nat} {M : Nat → Nat → Bool} (hl : LatM.Lat n M) {now : List Int} {lvl : Nat} {r : Ru} (h : lvl < n) (hr : r.1 = 1 → r.2.1.toNat < n) : dStep n M now lvl r < n ∧ ∀ c, c < n → (M (dStep n M now lvl r) c = true ↔ M lvl c = true ∧ (r.1 = 1 → r.2.2 ∈ now → M r.2.1.toNat c = true)) := by
  unfold dStep
  split
  · next hc =>
    rw [Bool.and_eq_true, decide_eq_true_eq, hasV_iff] at hc
    refine ⟨(LatM.jn_eq hl h (hr hc.1)).2, fun c hcn => ?_⟩
    rw [LatM.jn_iff hl h (hr hc.1) hcn]
    exact ⟨fun k => ⟨k.1, fun _ _ => k.2⟩, fun k => ⟨k.1, k.2 hc.1 hc.2⟩⟩
  · next hc =>
    rw [Bool.and_eq_true, decide_eq_true_eq, hasV_iff] at hc
    exact ⟨h, fun c _ => ⟨fun k => ⟨k, fun h1 h2 => absurd ⟨h1, h2⟩ hc⟩, fun k => k.1⟩⟩
theorem dRow_le {n : Nat} {M : Nat → Nat → Bool} (hl : LatM.Lat n M) {rs : List Ru} {now : List Int} {lvl : Nat} (hr : LowIn n rs) (h : lvl < n) : ∀ k, k ≤ rs.length → dRow n M rs now lvl k < n ∧ ∀ c, c < n → (M (dRow n M rs now lvl k) c = true ↔ M lvl c = true ∧ ∀ i, i < k → (rl rs i).1 = 1 → (rl rs i).2.2 ∈ now → M (rl rs i).2.1.toNat c = true) := by
  intro k
  induction k with
  | zero => intro _; exact ⟨h, fun c _ => ⟨fun k => ⟨k, fun i hi => absurd hi (by omega)⟩, fun k => k.1⟩⟩
  | succ k ih =>
    intro hk
    obtain ⟨h1, h2⟩ := ih (by omega)
    obtain ⟨h3, h4⟩ := dStep_le hl (now := now) h1 (hr k (by omega))
    refine ⟨h3, fun c hc => ?_⟩
    show M (dStep n M now (dRow n M rs now lvl k) (rl rs k)) c = true ↔ _
    rw [h4 c hc, h2 c hc]
    constructor
    · rintro ⟨⟨a1, a2⟩, a3⟩
      refine ⟨a1, fun i hi => ?_⟩
      rcases Nat.lt_or_ge i k with c1 | c1
      · exact a2 i c1
      · obtain rfl : i = k := by omega
        exact a3
    · rintro ⟨a1, a2⟩
      exact ⟨⟨a1, fun i hi => a2 i (by omega)⟩, a2 k (by omega)⟩
theorem dLvl_le {n : Nat} {M : Nat → Nat → Bool} (hl : LatM.Lat n M) {rs : List Ru} {p : Int} (hr : LowIn n rs) : ∀ d, dLvl n M rs p d < n ∧ ∀ c, c < n → (M (dLvl n M rs p d) c = true ↔ ∀ e, e < d → ∀ i, i < rs.length → (rl rs i).1 = 1 → (rl rs i).2.2 ∈ nowAt rs p e → M (rl rs i).2.1.toNat c = true) := by
  intro d
  induction d with
  | zero => exact ⟨LatM.botN_lt hl, fun c hc => ⟨fun _ e he => absurd he (by omega), fun _ => LatM.botN_bot hl hc⟩⟩
  | succ d ih =>
    obtain ⟨h1, h2⟩ := ih
    obtain ⟨h3, h4⟩ := dRow_le hl (now := nowAt rs p d) hr h1 rs.length (Nat.le_refl _)
    refine ⟨h3, fun c hc => ?_⟩
    show M (dRow n M rs (nowAt rs p d) (dLvl n M rs p d) rs.length) c = true ↔ _
    rw [h4 c hc, h2 c hc]
    constructor
    · rintro ⟨a1, a2⟩ e he
      rcases Nat.lt_or_ge e d with c1 | c1
      · exact a1 e c1
      · obtain rfl : e = d := by omega
        exact a2
    · intro a
      exact ⟨fun e he => a e (by omega), a d (by omega)⟩
/-- So many flows, and no fewer. -/
def Far (rs : List Ru) (b a : Int) (d : Nat) : Prop := a ∈ nowAt rs b d ∧ ∀ e, e < d → ¬ a ∈ nowAt rs b e
theorem far_of {rs : List Ru} {b a : Int} : ∀ {d : Nat}, a ∈ nowAt rs b d → ∃ e, e ≤ d ∧ Far rs b a e := by
  intro d
  induction d using Nat.strongRecOn with
  | _ d ih =>
    intro h
    by_cases c : ∃ e, e < d ∧ a ∈ nowAt rs b e
    · obtain ⟨e, he, h1⟩ := c
      obtain ⟨e', h2, h3⟩ := ih e he h1
      exact ⟨e', by omega, h3⟩
    · exact ⟨d, Nat.le_refl _, h, fun e he hs => c ⟨e, he, hs⟩⟩
theorem Far.one {rs : List Ru} {b a : Int} {d e : Nat} (h : Far rs b a d) (k : Far rs b a e) : d = e := by
  rcases Nat.lt_trichotomy d e with c | c | c
  · exact absurd h.1 (k.2 d c)
  · exact c
  · exact absurd k.1 (h.2 e c)
theorem Far.down {rs : List Ru} {b a : Int} {d : Nat} (h : Far rs b a (d + 1)) : ∃ i, i < rs.length ∧ (rl rs i).1 = 2 ∧ (rl rs i).2.1 = a ∧ Far rs b (rl rs i).2.2 d := by
  obtain ⟨i, h1, h2, h3, h4⟩ := nowAt_next.1 h.1
  exact ⟨i, h1, h2, h4, h3, fun e he hs => h.2 (e + 1) (by omega) (nowAt_next.2 ⟨i, h1, h2, hs, h4⟩)⟩
theorem Far.all {rs : List Ru} {m : Nat} (hf : ∀ i, i < rs.length → (rl rs i).1 = 2 → inZ (rl rs i).2.1 m = true ∧ inZ (rl rs i).2.2 m = true) {b : Int} : ∀ {d : Nat} {a : Int}, inZ a m = true → Far rs b a d → ∀ e, e < d + 1 → ∃ i : Nat, i < m ∧ Far rs b i e := by
  intro d
  induction d with
  | zero =>
    intro a ha h e he
    rw [inZ_iff] at ha
    obtain rfl : e = 0 := by omega
    exact ⟨a.toNat, by omega, by rw [show ((a.toNat : Nat) : Int) = a by omega]; exact h⟩
  | succ d ih =>
    intro a ha h e he
    obtain ⟨i, h1, h2, h3, h4⟩ := h.down
    by_cases c : e < d + 1
    · exact ih (hf i h1 h2).2 h4 e c
    · rw [inZ_iff] at ha
      obtain rfl : e = d + 1 := by omega
      exact ⟨a.toNat, by omega, by rw [show ((a.toNat : Nat) : Int) = a by omega]; exact h⟩
theorem Far.lt {rs : List Ru} {m : Nat} (hf : ∀ i, i < rs.length → (rl rs i).1 = 2 → inZ (rl rs i).2.1 m = true ∧ inZ (rl rs i).2.2 m = true) {b a : Int} {d : Nat} (ha : inZ a m = true) (h : Far rs b a d) : d < m := by
  have := boxes (fun i e => Far rs b (i : Nat) e) (fun i e e' h1 h2 => h1.one h2) m (d + 1) (h.all hf ha)
  omega
/-- The document's least levels. -/
def dLeast (n : Nat) (M : Nat → Nat → Bool) (rs : List Ru) (m : Nat) : List Nat := (List.range m).map fun (p : Nat) => dLvl n M rs (p : Int) m
theorem dLeast_get {n : Nat} {M : Nat → Nat → Bool} {rs : List Ru} {m p : Nat} (hp : p < m) : (dLeast n M rs m).getD p 0 = dLvl n M rs p m := by
  unfold dLeast
  rw [List.getD_eq_getElem?_getD, List.getElem?_map, List.getElem?_range hp]
  rfl
theorem dLeast_lst {n m : Nat} {M : Nat → Nat → Bool} {rs : List Ru} (hl : LatM.Lat n M) (hfit : ∀ r ∈ rs, rightR n m r = true) : LatM.Lst n m M rs (dLeast n M rs m) := by
  have hk1 : ∀ i, i < rs.length → (rl rs i).1 = 1 → inZ (rl rs i).2.1 n = true ∧ inZ (rl rs i).2.2 m = true := fun i hi h1 => by
    have := hfit _ (rl_mem hi)
    unfold rightR at this
    rw [if_pos h1, Bool.and_eq_true] at this
    exact this
  have hk2 : ∀ i, i < rs.length → (rl rs i).1 = 2 → inZ (rl rs i).2.1 m = true ∧ inZ (rl rs i).2.2 m = true := fun i hi h1 => by
    have := hfit _ (rl_mem hi)
    unfold rightR at this
    rw [if_neg (by omega), if_pos h1, Bool.and_eq_true] at this
    exact this
  have hlow : LowIn n rs := fun i hi h1 => by
    have := (hk1 i hi h1).1
    rw [inZ_iff] at this
    omega
  refine ⟨by simp [dLeast], fun v hv => ?_, ?_, fun y hy hyn hyo p hp => ?_⟩
  · obtain ⟨p, _, rfl⟩ := List.mem_map.1 hv
    exact (dLvl_le hl hlow m).1
  · refine all_rl fun q hq => ?_
    unfold LatM.okR
    by_cases c3 : (rl rs q).1 = 3
    · rw [decide_eq_true c3]; rfl
    rw [decide_eq_false c3, Bool.false_or]
    unfold LatM.fromR
    by_cases c1 : (rl rs q).1 = 1
    · rw [if_pos c1]
      obtain ⟨h1, h2⟩ := hk1 q hq c1
      rw [inZ_iff] at h1 h2
      rw [dLeast_get (by omega)]
      refine ((dLvl_le hl hlow m).2 _ (dLvl_le hl hlow m).1).1 (hl.po.refl _ (dLvl_le hl hlow m).1) 0 (by omega) q hq c1 ?_
      show _ ∈ [_]
      rw [List.mem_singleton]
      omega
    · rw [if_neg c1]
      have c2 : (rl rs q).1 = 2 := Classical.byContradiction fun c2 => by
        have := hfit _ (rl_mem hq)
        unfold rightR at this
        rw [if_neg c1, if_neg c2, if_neg c3] at this
        cases this
      obtain ⟨h1, h2⟩ := hk2 q hq c2
      have h1' := h1
      have h2' := h2
      rw [inZ_iff] at h1 h2
      rw [dLeast_get (by omega), dLeast_get (by omega)]
      refine ((dLvl_le hl hlow m).2 _ (dLvl_le hl hlow m).1).2 fun e he i hi k1 k2 => ?_
      have hin : (rl rs i).2.2 ∈ nowAt rs ((rl rs q).2.2.toNat : Nat) (e + 1) := nowAt_first.2 ⟨q, hq, c2, by omega, by rw [show ((rl rs q).2.1.toNat : Int) = (rl rs q).2.1 by omega] at k2; exact k2⟩
      obtain ⟨e', _, hfar⟩ := far_of hin
      have hlt := hfar.lt hk2 (hk1 i hi k1).2
      exact ((dLvl_le hl hlow m).2 _ (dLvl_le hl hlow m).1).1 (hl.po.refl _ (dLvl_le hl hlow m).1) e' hlt i hi k1 hfar.1
  · rw [dLeast_get hp]
    have hyp : ∀ q, q < m → y.getD q 0 < n := fun q hq => LatM.getD_lt hyn (by rw [hy]; exact hq)
    refine ((dLvl_le hl hlow m).2 _ (hyp p hp)).2 fun e he i hi k1 k2 => ?_
    have key : ∀ e (p : Int), inZ p m = true → (rl rs i).2.2 ∈ nowAt rs p e → M (rl rs i).2.1.toNat (y.getD p.toNat 0) = true := by
      intro e
      induction e with
      | zero =>
        intro p hp h
        have h := List.mem_singleton.1 h
        have ho := hyo _ (rl_mem hi)
        unfold LatM.okR LatM.fromR at ho
        rw [if_pos k1, decide_eq_false (by omega), Bool.false_or, h] at ho
        exact ho
      | succ e ih =>
        intro p hp h
        obtain ⟨j, j1, j2, j3, j4⟩ := nowAt_first.1 h
        obtain ⟨g1, g2⟩ := hk2 j j1 j2
        have h1 := ih _ g1 j4
        have ho := hyo _ (rl_mem j1)
        unfold LatM.okR LatM.fromR at ho
        rw [if_neg (by omega), decide_eq_false (by omega), Bool.false_or, j3] at ho
        rw [inZ_iff] at g1 hp
        exact hl.po.trans _ _ _ (hlow i hi k1) (hyp _ (by omega)) (hyp _ (by omega)) h1 ho
    have := key e p (by rw [inZ_iff]; omega) k2
    rw [Int.toNat_natCast] at this
    exact this
end Go.Proofs.YtpjlhpaenmfieaaGreat
/- solve, plain: what an answer says; levels of which all rules hold. -/
namespace Go.Proofs.YtpjlhpaenmfieaaGreat
open Go.RowKit

theorem leqI_in {ws : List Wd} {os : List (Wd × Wd)} {a b : Int} (h : leqI ws os a b = true) : ∃ u v : Nat, a = u ∧ b = v ∧ u < ws.length ∧ v < ws.length ∧ leqL ws os u v = true := by
  unfold leqI at h
  rw [Bool.and_eq_true, Bool.and_eq_true] at h
  obtain ⟨⟨h1, h2⟩, h3⟩ := h
  rcases hasI_cases ws.length a with ⟨u, rfl, hu⟩ | ho
  · rcases hasI_cases ws.length b with ⟨v, rfl, hv⟩ | ho
    · exact ⟨u, v, rfl, rfl, hu, hv, h3⟩
    · rw [hasI_out ho] at h2; cases h2
  · rw [hasI_out ho] at h1; cases h1
theorem low_all {ws : List Wd} {os : List (Wd × Wd)} {m : Nat} {rs : List Ru} {x : List Nat} (hx : LatM.Lst ws.length m (leqL ws os) rs x) {o : List Int} (hm : o.length = m) (hall : ∀ r ∈ rs, holdsR ws os o r = true) {p v : Nat} (hp : p < m) (hv : o.getD p 0 = v) (hvn : v < ws.length) : leqL ws os (x.getD p 0) v = true := by
  let y : List Nat := (List.range m).map fun p => if hasI ws.length (o.getD p 0) = true then (o.getD p 0).toNat else x.getD p 0
  have yget : ∀ p, p < m → y.getD p 0 = if hasI ws.length (o.getD p 0) = true then (o.getD p 0).toNat else x.getD p 0 := fun p hp => by
    show ((List.range m).map _).getD p 0 = _
    rw [List.getD_eq_getElem?_getD, List.getElem?_map, List.getElem?_range hp]
    rfl
  have yin : ∀ p v : Nat, p < m → o.getD p 0 = v → v < ws.length → y.getD p 0 = v := fun p v hp hv hvn => by
    rw [yget p hp, hv, hasI_nat hvn, if_pos rfl, Int.toNat_natCast]
  have xlt : ∀ p, p < m → x.getD p 0 < ws.length := fun p hp => LatM.getD_lt hx.lt (by rw [hx.len]; exact hp)
  have := hx.low y (by simp [y]) (fun u hu => by
    obtain ⟨q, hq, rfl⟩ := List.getElem_of_mem hu
    have hq' : q < m := by simpa [y] using hq
    have hy := yget q hq'
    have e : y[q] = y.getD q 0 := by rw [List.getD_eq_getElem?_getD, List.getElem?_eq_getElem hq]; rfl
    rw [e]
    rcases hasI_cases ws.length (o.getD q 0) with ⟨k, hk, hkn⟩ | ho
    · rw [yin q k hq' hk hkn]; exact hkn
    · rw [hy, hasI_out ho, if_neg (by decide)]; exact xlt q hq') (fun r hr => by
    have hh := hall r hr
    unfold holdsR at hh
    rw [Bool.and_eq_true, hm] at hh
    obtain ⟨hf, hq⟩ := hh
    unfold LatM.okR
    by_cases c3 : r.1 = 3
    · rw [decide_eq_true c3]; rfl
    rw [decide_eq_false c3, Bool.false_or]
    obtain ⟨u, v, hu, hv, hun, hvn, hle⟩ := leqI_in hq
    unfold loR at hu
    unfold hiR at hv
    rw [if_neg c3] at hv
    unfold rightR at hf
    unfold LatM.fromR
    by_cases c1 : r.1 = 1
    · rw [if_pos c1] at hu hf ⊢
      rw [Bool.and_eq_true, inZ_iff, inZ_iff] at hf
      rw [yin _ v (by omega) hv hvn, show r.2.1.toNat = u by omega]
      exact hle
    · rw [if_neg c1] at hu hf ⊢
      by_cases c2 : r.1 = 2
      · rw [if_pos c2] at hf
        rw [Bool.and_eq_true, inZ_iff, inZ_iff] at hf
        rw [yin _ v (by omega) hv hvn, yin _ u (by omega) hu hun]
        exact hle
      · rw [if_neg c2, if_neg c3] at hf
        cases hf) p hp
  rw [yin p v hp hv hvn] at this
  exact this

/-- What a failed high says. -/
theorem flow_case {ws : List Wd} {os : List (Wd × Wd)} {np : Int} {rs : List Ru} {y : List Nat} {f : Int × Int} (hl : LatM.Lat ws.length (leqL ws os)) (h : SolAns ws os np rs y f) (h18 : f.1 = 18) :
    ∃ i : Nat, f.2 = i ∧ i < rs.length ∧ (rl rs i).1 = 3 ∧ RowOk (leqI ws os) rs i (traceL (leqI ws os) rs i) ∧ ∀ o : List Int, np = o.length → ∃ r ∈ rs, holdsR ws os o r = false := by
  rcases h with ⟨_, h2, _⟩ | ⟨h1, x, hx, ⟨h4, _⟩ | ⟨_, h5, _⟩⟩
  · rw [h2] at h18
    rcases solBad_cases ws.length np rs with h | h | h | h <;> rw [h] at h18 <;> cases h18
  · obtain ⟨_, n0, _, _, hfit⟩ := solBad_ok h1
    obtain ⟨m, rfl⟩ := Int.eq_ofNat_of_zero_le n0
    rw [Int.toNat_natCast] at hx
    obtain ⟨i, hi, e⟩ := firstOf_some h4
    unfold hBad at e
    split at e
    · cases e
    · next hno =>
      injection e with e
      have hrm := rl_mem hi
      have hf := hfit _ hrm
      unfold holdsR at hno
      rw [List.length_map, hx.len, hf, Bool.true_and, Bool.not_eq_true] at hno
      have h3 : (rl rs i).1 = 3 := Classical.byContradiction fun h3 => by
        rw [holds_ok hf hx.len hx.lt h3, hx.ok _ hrm] at hno
        cases hno
      have hff := hf
      unfold rightR at hff
      rw [if_neg (by omega), if_neg (by omega), if_pos h3, Bool.and_eq_true, inZ_iff, inZ_iff] at hff
      obtain ⟨a, ha⟩ := Int.eq_ofNat_of_zero_le hff.1.1
      obtain ⟨b, hb⟩ := Int.eq_ofNat_of_zero_le hff.2.1
      have han : a < m := by omega
      have hbn : b < ws.length := by omega
      have hxa := LatM.getD_lt hx.lt (show a < x.length by rw [hx.len]; exact han)
      unfold loR hiR at hno
      rw [if_neg (by omega), if_pos h3, getD_cast, ha, hb, Int.toNat_natCast, leqI_cast hxa hbn] at hno
      obtain ⟨d, hd⟩ := start_of hl hx hfit han hbn hno
      refine ⟨i, by rw [← e], hi, h3, trace_row (d := d) (by rw [ha, hb]; exact hd), fun o ho => Classical.byContradiction fun hc => ?_⟩
      have hall : ∀ r ∈ rs, holdsR ws os o r = true := fun r hr => by
        rw [← Bool.not_eq_false]
        exact fun hh => hc ⟨r, hr, hh⟩
      have hm : o.length = m := by omega
      have hi2 := hall _ hrm
      unfold holdsR at hi2
      rw [Bool.and_eq_true] at hi2
      obtain ⟨u, v, hu, hv, hun, hvn, hle⟩ := leqI_in hi2.2
      unfold loR at hu
      unfold hiR at hv
      rw [if_neg (by omega), ha, Int.toNat_natCast] at hu
      rw [if_pos h3, hb] at hv
      obtain rfl : b = v := by omega
      have := hl.po.trans _ _ _ hxa hun hbn (low_all hx hm hall han hu hun) hle
      rw [hno] at this
      cases this
  · rw [h5] at h18; cases h18
theorem ok_case {ws : List Wd} {os : List (Wd × Wd)} {np : Int} {rs : List Ru} {y : List Nat} {f : Int × Int} (h : SolAns ws os np rs y f) (h0 : f.1 = 0) :
    f = (0, 0) ∧ (y.length : Int) = np ∧ LatM.Lst ws.length y.length (leqL ws os) rs y ∧ ∀ i, i < rs.length → holdsR ws os (y.map fun (v : Nat) => (v : Int)) (rl rs i) = true := by
  rcases h with ⟨h1, h2, _⟩ | ⟨h1, x, hx, ⟨h4, _⟩ | ⟨h3, h5, rfl⟩⟩
  · rw [h2] at h0; exact absurd h0 h1
  · obtain ⟨i, _, e⟩ := firstOf_some h4
    unfold hBad at e
    split at e
    · cases e
    · injection e with e; rw [← e] at h0; cases h0
  · obtain ⟨_, n0, _, _, _⟩ := solBad_ok h1
    have hlen := hx.len
    refine ⟨h5, by omega, by rw [hlen]; exact hx, fun i hi => ?_⟩
    have := firstOf_miss.1 h3 i hi
    unfold hBad at this
    split at this
    · assumption
    · cases this
theorem bad_case {ws : List Wd} {os : List (Wd × Wd)} {np : Int} {rs : List Ru} {y : List Nat} {f : Int × Int} (h : SolAns ws os np rs y f) (h0 : f.1 ≠ 0) : y = [] := by
  rcases h with ⟨_, _, h3⟩ | ⟨_, x, _, ⟨_, h4⟩ | ⟨_, h5, _⟩⟩
  · exact h3
  · exact h4
  · rw [h5] at h0; exact absurd rfl h0
end Go.Proofs.YtpjlhpaenmfieaaGreat
