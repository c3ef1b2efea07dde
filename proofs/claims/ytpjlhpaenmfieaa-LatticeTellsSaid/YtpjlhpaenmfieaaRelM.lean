/- Plain laws of relations: a closure by rows of bits, and a closure by rounds, are both 'leads to'. No program is named here. -/
namespace Go.Proofs.Ytpjlhpaenmfieaa.RelM

/-- a leads to b by the pairs of E. -/
inductive Reach (E : Nat → Nat → Prop) : Nat → Nat → Prop
  | refl (a : Nat) : Reach E a a
  | step {a b c : Nat} : Reach E a b → E b c → Reach E a c

theorem Reach.trans {E : Nat → Nat → Prop} {a b c : Nat} (h : Reach E a b) (k : Reach E b c) : Reach E a c := by
  induction k with
  | refl => exact h
  | step _ e ih => exact .step ih e

theorem Reach.one {E : Nat → Nat → Prop} {a b : Nat} (h : E a b) : Reach E a b := .step (.refl a) h

theorem Reach.mono {E F : Nat → Nat → Prop} (hEF : ∀ a b, E a b → F a b) {a b : Nat} (h : Reach E a b) : Reach F a b := by
  induction h with
  | refl => exact .refl _
  | step _ e ih => exact .step ih (hEF _ _ e)

theorem Reach.inside {E : Nat → Nat → Prop} {n : Nat} (hE : ∀ a b, E a b → a < n ∧ b < n) {a b : Nat} (h : Reach E a b) (ha : a < n) : b < n := by
  induction h with
  | refl => exact ha
  | step _ e _ => exact (hE _ _ e).2

def bit (rs : List Nat) (a b : Nat) : Bool := (rs.getD a 0).testBit b

theorem bit_set (rs : List Nat) (k x a b : Nat) (hk : k < rs.length) : bit (rs.set k x) a b = if a = k then x.testBit b else bit rs a b := by
  unfold bit
  by_cases h : a = k
  · subst h; simp [List.getD, hk]
  · simp [List.getD, h, Ne.symm h]

/-- One round of the inner loop of the closure, up to row j. -/
def innerTo (k : Nat) (rs : List Nat) : Nat → List Nat
  | 0 => rs
  | j + 1 =>
    let s := innerTo k rs j
    if bit s j k then s.set j (s.getD j 0 ||| s.getD k 0) else s

theorem innerTo_length (k : Nat) (rs : List Nat) (j : Nat) : (innerTo k rs j).length = rs.length := by
  induction j with
  | zero => rfl
  | succ j ih => simp only [innerTo]; split <;> simp [ih]

theorem innerTo_bit (k : Nat) (rs : List Nat) (_hk : k < rs.length) (j : Nat) (hj : j ≤ rs.length) (a b : Nat) :
    bit (innerTo k rs j) a b = (bit rs a b || (decide (a < j) && bit rs a k && bit rs k b)) := by
  induction j generalizing a b with
  | zero => simp [innerTo]
  | succ j ih =>
    have ih' := ih (by omega)
    have hl := innerTo_length k rs j
    simp only [innerTo]
    have e1 : bit (innerTo k rs j) j k = bit rs j k := by rw [ih']; simp
    have e2 : ∀ b, bit (innerTo k rs j) k b = bit rs k b := fun b => by
      rw [ih']
      cases h1 : bit rs k b <;> simp
    by_cases hb : bit (innerTo k rs j) j k = true
    · rw [if_pos hb, bit_set _ _ _ _ _ (by omega)]
      rw [e1] at hb
      by_cases ha : a = j
      · subst ha
        rw [if_pos rfl, Nat.testBit_or]
        have h1 := ih' a b
        have h2 := e2 b
        unfold bit at h1 h2 hb ⊢
        rw [h1, h2, hb]
        simp
      · rw [if_neg ha, ih']
        congr 3
        rw [Bool.eq_iff_iff]; simp; omega
    · rw [if_neg hb, ih']
      rw [e1] at hb
      by_cases ha : a = j
      · subst ha; simp [hb]
      · congr 3
        rw [Bool.eq_iff_iff]; simp; omega

/-- The outer loop of the closure, up to k. -/
def closeTo (rs : List Nat) : Nat → List Nat
  | 0 => rs
  | k + 1 =>
    let s := closeTo rs k
    innerTo k (s.set k (s.getD k 0 ||| 1 <<< k)) rs.length

theorem closeTo_length (rs : List Nat) (k : Nat) : (closeTo rs k).length = rs.length := by
  induction k with
  | zero => rfl
  | succ k ih => simp [closeTo, innerTo_length, ih]

def close (rs : List Nat) : List Nat := closeTo rs rs.length

theorem close_length (rs : List Nat) : (close rs).length = rs.length := closeTo_length rs _

theorem set_own_bit (s : List Nat) (k : Nat) (hk : k < s.length) (a b : Nat) : bit (s.set k (s.getD k 0 ||| 1 <<< k)) a b = (bit s a b || (decide (a = k) && decide (b = k))) := by
  rw [bit_set _ _ _ _ _ hk]
  by_cases ha : a = k
  · subst ha
    rw [if_pos rfl, Nat.testBit_or, Nat.one_shiftLeft, Nat.testBit_two_pow]
    unfold bit
    by_cases hb : b = a
    · subst hb; simp
    · simp [hb, Ne.symm hb]
  · simp [ha]

theorem closeTo_bit (rs : List Nat) (k : Nat) (hk : k < rs.length) (a b : Nat) (ha : a < rs.length) :
    bit (closeTo rs (k + 1)) a b = true ↔
      (bit (closeTo rs k) a b = true ∨ (a = k ∧ b = k)) ∨ ((bit (closeTo rs k) a k = true ∨ a = k) ∧ (bit (closeTo rs k) k b = true ∨ b = k)) := by
  have hl := closeTo_length rs k
  simp only [closeTo]
  rw [innerTo_bit k _ (by simp; omega) _ (by simp; omega)]
  rw [set_own_bit _ _ (by omega), set_own_bit _ _ (by omega), set_own_bit _ _ (by omega)]
  simp [ha]

theorem close_sound (rs : List Nat) (k : Nat) (hk : k ≤ rs.length) : ∀ a b, a < rs.length → bit (closeTo rs k) a b = true → Reach (fun x y => x < rs.length ∧ bit rs x y = true) a b := by
  induction k with
  | zero => exact fun a b ha h => .one ⟨ha, h⟩
  | succ k ih =>
    intro a b ha h
    have ih' := ih (by omega)
    rcases (closeTo_bit rs k (by omega) a b ha).1 h with (h | ⟨rfl, rfl⟩) | ⟨h1, h2⟩
    · exact ih' a b ha h
    · exact .refl _
    · have r1 : Reach (fun x y => x < rs.length ∧ bit rs x y = true) a k := by
        rcases h1 with h1 | rfl
        · exact ih' _ _ ha h1
        · exact .refl _
      have r2 : Reach (fun x y => x < rs.length ∧ bit rs x y = true) k b := by
        rcases h2 with h2 | rfl
        · exact ih' _ _ (by omega) h2
        · exact .refl _
      exact r1.trans r2

theorem close_has (rs : List Nat) (k : Nat) (hk : k ≤ rs.length) :
    (∀ a b, a < rs.length → bit rs a b = true → bit (closeTo rs k) a b = true) ∧
    (∀ a, a < k → bit (closeTo rs k) a a = true) ∧
    (∀ i a b, i < k → a < rs.length → bit (closeTo rs k) a i = true → bit (closeTo rs k) i b = true → bit (closeTo rs k) a b = true) := by
  induction k with
  | zero => exact ⟨fun _ _ _ h => h, fun a h => absurd h (by omega), fun i _ _ h => absurd h (by omega)⟩
  | succ k ih =>
    obtain ⟨i1, i2, i3⟩ := ih (by omega)
    have hk' : k < rs.length := by omega
    refine ⟨fun a b ha h => (closeTo_bit rs k hk' a b ha).2 (.inl (.inl (i1 a b ha h))), fun a h => ?_, fun i a b hi ha h1 h2 => ?_⟩
    · by_cases e : a = k
      · exact (closeTo_bit rs k hk' a a (by omega)).2 (.inl (.inr ⟨e, e⟩))
      · exact (closeTo_bit rs k hk' a a (by omega)).2 (.inl (.inl (i2 a (by omega))))
    · have c1 := (closeTo_bit rs k hk' a i ha).1 h1
      have c2 := (closeTo_bit rs k hk' i b (by omega)).1 h2
      refine (closeTo_bit rs k hk' a b ha).2 ?_
      by_cases e : i = k
      · subst e
        have d1 : bit (closeTo rs i) a i = true ∨ a = i := by
          rcases c1 with (c | c) | c
          · exact .inl c
          · exact .inr c.1
          · exact c.1
        have d2 : bit (closeTo rs i) i b = true ∨ b = i := by
          rcases c2 with (c | c) | c
          · exact .inl c
          · exact .inr c.2
          · exact c.2
        exact .inr ⟨d1, d2⟩
      · have hi' : i < k := by omega
        have t := fun x y hx => i3 i x y hi' hx
        rcases c1 with (c | c) | ⟨c, c'⟩
        · rcases c2 with (d | d) | ⟨d, d'⟩
          · exact .inl (.inl (t a b ha c d))
          · exact absurd d.1 e
          · rcases d with d | d
            · exact .inr ⟨.inl (t a k ha c d), d'⟩
            · exact absurd d e
        · exact absurd c.2 e
        · rcases c' with c' | c'
          · rcases c2 with (d | d) | ⟨d, d'⟩
            · exact .inr ⟨c, .inl (t k b hk' c' d)⟩
            · exact absurd d.1 e
            · exact .inr ⟨c, d'⟩
          · exact absurd c' e

/-- The closure of rows whose bits are all below their number is 'leads to'. -/
theorem close_reach (rs : List Nat) (hin : ∀ a b, bit rs a b = true → b < rs.length) (a b : Nat) (ha : a < rs.length) :
    bit (close rs) a b = true ↔ Reach (fun x y => x < rs.length ∧ bit rs x y = true) a b := by
  refine ⟨close_sound rs rs.length (Nat.le_refl _) a b ha, fun h => ?_⟩
  obtain ⟨h1, h2, h3⟩ := close_has rs rs.length (Nat.le_refl _)
  induction h with
  | refl => exact h2 a ha
  | step r e ih => exact h3 _ _ _ (Reach.inside (fun x y hxy => ⟨hxy.1, hin _ _ hxy.2⟩) r ha) ha ih (h1 _ _ e.1 e.2)

/-! ### By rounds -/

/-- One round: each pair whose first thing is marked marks its second one. -/
def relax (ps : List (Nat × Nat)) (r : List Bool) : List Bool := ps.foldl (fun r p => if r.getD p.1 false then r.set p.2 true else r) r

def relaxN (ps : List (Nat × Nat)) (r : List Bool) : Nat → List Bool
  | 0 => r
  | k + 1 => relax ps (relaxN ps r k)

def le (r s : List Bool) : Prop := r.length = s.length ∧ ∀ b, r.getD b false = true → s.getD b false = true

theorem le_rfl (r : List Bool) : le r r := ⟨rfl, fun _ h => h⟩
theorem le_trans {r s t : List Bool} (h : le r s) (k : le s t) : le r t := ⟨h.1.trans k.1, fun b hb => k.2 b (h.2 b hb)⟩

theorem getD_set (r : List Bool) (k : Nat) (b : Nat) : (r.set k true).getD b false = (r.getD b false || (decide (b = k) && decide (k < r.length))) := by
  by_cases h : b = k
  · subst h
    by_cases hl : b < r.length
    · simp [List.getD, hl]
    · simp [List.getD, hl]
  · simp [List.getD, h, Ne.symm h]

theorem one_le (r : List Bool) (p : Nat × Nat) : le r (if r.getD p.1 false then r.set p.2 true else r) := by
  split
  · exact ⟨by simp, fun b hb => by rw [getD_set, hb]; rfl⟩
  · exact le_rfl r

theorem relax_le (ps : List (Nat × Nat)) (r : List Bool) : le r (relax ps r) := by
  induction ps generalizing r with
  | nil => exact le_rfl r
  | cons p ps ih => exact le_trans (one_le r p) (ih _)

theorem relaxN_length (ps : List (Nat × Nat)) (r : List Bool) (k : Nat) : (relaxN ps r k).length = r.length := by
  induction k with
  | zero => rfl
  | succ k ih => exact (relax_le ps _).1.symm.trans ih

theorem le_antisymm {r s : List Bool} (h : le r s) (k : le s r) : r = s := by
  apply List.ext_getElem h.1
  intro i h1 h2
  have a := h.2 i
  have b := k.2 i
  simp only [List.getD, List.getElem?_eq_getElem h1, List.getElem?_eq_getElem h2, Option.getD_some] at a b
  cases hr : r[i] <;> cases hs : s[i] <;> simp_all

def cnt (r : List Bool) : Nat := r.countP id

theorem cnt_le {r s : List Bool} (h : le r s) : cnt r ≤ cnt s ∧ (cnt r = cnt s → r = s) := by
  obtain ⟨hl, hb⟩ := h
  induction r generalizing s with
  | nil =>
    have : s = [] := by simpa using hl.symm
    subst this
    exact ⟨Nat.le_refl _, fun _ => rfl⟩
  | cons x r ih =>
    cases s with
    | nil => simp at hl
    | cons y s =>
      have h' := ih (s := s) (by simpa using hl) (fun b hb' => by simpa using hb (b + 1) (by simpa using hb'))
      have h0 := hb 0
      simp at h0
      unfold cnt at h' ⊢
      cases x <;> cases y <;> simp_all
      omega

theorem fix_of_eq (ps : List (Nat × Nat)) (r : List Bool) (h : relax ps r = r) : ∀ p ∈ ps, r.getD p.1 false = true → p.2 < r.length → r.getD p.2 false = true := by
  induction ps with
  | nil => intro p hp; cases hp
  | cons q ps ih =>
    have h1 := one_le r q
    have h2 : le (if r.getD q.1 false then r.set q.2 true else r) r := by
      have := relax_le ps (if r.getD q.1 false then r.set q.2 true else r)
      have e : relax ps (if r.getD q.1 false then r.set q.2 true else r) = r := h
      rwa [e] at this
    have e1 : (if r.getD q.1 false then r.set q.2 true else r) = r := (le_antisymm h1 h2).symm
    have h' : relax ps r = r := by
      have e : relax ps (if r.getD q.1 false then r.set q.2 true else r) = r := h
      rwa [e1] at e
    intro p hp hp1 hp2
    rcases List.mem_cons.1 hp with rfl | hp
    · have := h2.2 p.2
      rw [if_pos hp1, getD_set] at this
      exact this (by simp [hp2])
    · exact ih h' p hp hp1 hp2

theorem grow (ps : List (Nat × Nat)) (r : List Bool) (k : Nat) : (∃ j, j < k ∧ relax ps (relaxN ps r j) = relaxN ps r j) ∨ cnt r + k ≤ cnt (relaxN ps r k) := by
  induction k with
  | zero => exact .inr (Nat.le_refl _)
  | succ k ih =>
    rcases ih with ⟨j, hj, h⟩ | h
    · exact .inl ⟨j, by omega, h⟩
    · by_cases e : relax ps (relaxN ps r k) = relaxN ps r k
      · exact .inl ⟨k, by omega, e⟩
      · have c := cnt_le (relax_le ps (relaxN ps r k))
        right
        have : cnt (relaxN ps r k) ≠ cnt (relax ps (relaxN ps r k)) := fun q => e (c.2 q).symm
        show _ ≤ cnt (relax ps (relaxN ps r k))
        omega

theorem cnt_bound (r : List Bool) : cnt r ≤ r.length := List.countP_le_length

theorem relaxN_fix (ps : List (Nat × Nat)) (r : List Bool) (j : Nat) (h : relax ps (relaxN ps r j) = relaxN ps r j) (d : Nat) : relaxN ps r (j + d) = relaxN ps r j := by
  induction d with
  | zero => rfl
  | succ d ih => show relax ps (relaxN ps r (j + d)) = _; rw [ih]; exact h

/-- After as many rounds as there are things nothing more comes. -/
theorem rounds_fix (ps : List (Nat × Nat)) (r : List Bool) (hr : 0 < cnt r) : relax ps (relaxN ps r r.length) = relaxN ps r r.length := by
  rcases grow ps r r.length with ⟨j, hj, h⟩ | h
  · obtain ⟨d, hd⟩ : ∃ d, r.length = j + d := ⟨r.length - j, by omega⟩
    rw [hd, relaxN_fix ps r j h d]
    exact h
  · have := cnt_bound (relaxN ps r r.length)
    rw [relaxN_length] at this
    omega

def start (n a : Nat) : List Bool := (List.replicate n false).set a true

theorem relax_sound (ps qs : List (Nat × Nat)) (P : Nat → Prop) (hP : ∀ p ∈ ps, P p.1 → P p.2) (r : List Bool) (h : ∀ b, r.getD b false = true → P b) (hq : ∀ p ∈ qs, p ∈ ps) :
    ∀ b, (relax qs r).getD b false = true → P b := by
  induction qs generalizing r with
  | nil => exact h
  | cons q qs ih =>
    refine ih _ (fun b hb => ?_) (fun p hp => hq p (List.mem_cons_of_mem _ hp))
    dsimp only at hb
    split at hb
    · rename_i hq1
      rw [getD_set] at hb
      rcases Bool.or_eq_true _ _ ▸ hb with hb | hb
      · exact h b hb
      · simp at hb
        rw [hb.1]
        exact hP q (hq q List.mem_cons_self) (h _ hq1)
    · exact h b hb

theorem relaxN_sound (ps : List (Nat × Nat)) (P : Nat → Prop) (hP : ∀ p ∈ ps, P p.1 → P p.2) (r : List Bool) (h : ∀ b, r.getD b false = true → P b) (k : Nat) :
    ∀ b, (relaxN ps r k).getD b false = true → P b := by
  induction k with
  | zero => exact h
  | succ k ih => exact relax_sound ps ps P hP _ ih (fun _ h => h)

/-- The rounds reach just what the pairs lead to. -/
theorem rounds_reach (n : Nat) (ps : List (Nat × Nat)) (hp : ∀ p ∈ ps, p.1 < n ∧ p.2 < n) (a : Nat) (ha : a < n) (b : Nat) :
    (relaxN ps (start n a) n).getD b false = true ↔ Reach (fun x y => (x, y) ∈ ps) a b := by
  have hs : ∀ c, (start n a).getD c false = true ↔ c = a := fun c => by
    unfold start
    rw [getD_set]
    by_cases hc : c < n
    · simp [List.getD, ha, hc]
    · simp [List.getD, ha, hc]
  have hc : 0 < cnt (start n a) := by
    unfold cnt
    rw [List.countP_pos_iff]
    refine ⟨true, ?_, rfl⟩
    unfold start
    rw [List.mem_iff_getElem]
    exact ⟨a, by simpa using ha, by simp⟩
  have hf := rounds_fix ps (start n a) hc
  have hl : (start n a).length = n := by simp [start]
  rw [hl] at hf
  constructor
  · exact relaxN_sound ps (fun c => Reach (fun x y => (x, y) ∈ ps) a c) (fun p hp' h => .step h hp') _ (fun c hc' => by rw [(hs c).1 hc']; exact .refl _) n b
  · intro h
    induction h with
    | refl =>
      have : le (start n a) (relaxN ps (start n a) n) := by
        clear hf
        generalize n = m at hl ⊢
        have gen : ∀ (r : List Bool) (k : Nat), le r (relaxN ps r k) := fun r k => by
          induction k with
          | zero => exact le_rfl r
          | succ k ih => exact le_trans ih (relax_le ps _)
        exact gen _ _
      exact this.2 a ((hs a).2 rfl)
    | @step b c _ e ih =>
      exact fix_of_eq ps _ hf (b, c) e ih (by rw [relaxN_length, hl]; exact (hp _ e).2)

end Go.Proofs.Ytpjlhpaenmfieaa.RelM
