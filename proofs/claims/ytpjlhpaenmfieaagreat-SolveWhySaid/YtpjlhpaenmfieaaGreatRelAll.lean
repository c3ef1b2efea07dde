/- The small methods of package rel: Len, Has. -/
import Derived.Test.YtpjlhpaenmfieaaGreatRows
import Derived.Test.YtpjlhpaenmfieaaGreatBase
namespace Go.Proofs.YtpjlhpaenmfieaaGreat
open Go.RowKit

abbrev u64v (r : Nat) : Value := .int .u64 (r : Int)

/-- Block b is a relation whose rows are the numbers rs. -/
def RelAt (w : World) (b : Nat) (rs : List Nat) : Prop := ∃ A c, Blk w b 126 #[.slice A rs.length c] ∧ w.ownsRow 0 127 1 (.slice A rs.length c) rs.length (rs.map u64v) ∧ rs.length ≤ 64 ∧ ∀ r ∈ rs, r < 18446744073709551616

theorem getD_lt {rs : List Nat} {B : Nat} (h : ∀ r ∈ rs, r < B) (hB : 0 < B) {n : Nat} : rs.getD n 0 < B := by
  by_cases hn : n < rs.length
  · simp only [List.getD, List.getElem?_eq_getElem hn, Option.getD_some]
    exact h _ (List.getElem_mem hn)
  · simp only [List.getD, List.getElem?_eq_none (Nat.le_of_not_lt hn), Option.getD_none]
    exact hB

def hasB (rs : List Nat) (a b : Int) : Bool := decide (0 ≤ a ∧ a < rs.length ∧ 0 ≤ b ∧ b < rs.length) && (rs.getD a.toNat 0).testBit b.toNat

theorem own_cell {w : World} {base : Nat} {e : TypeId} {A : Option Addr} {n c : Nat} {xs : List Value} (h : w.ownsRow base e 1 (.slice A n c) n xs) (hn : 0 < n) :
    ∃ g, A = some ⟨g, 0, none⟩ ∧ base ≤ g ∧ (∀ j, j < n → w.cell? ⟨g, j, none⟩ = xs[j]?) ∧ ∀ j, w.frozen? ⟨g, j, none⟩ = false := by
  have hl := h.lt
  rcases h.2 with ⟨_, h0⟩ | ⟨g, cap, cur, hv, hg, _⟩
  · omega
  · injection hv with h1 h2 h3
    subst h1; subst h3
    exact ⟨g, rfl, hg, fun j hj => h.cellAt j (by omega), fun j => h.frozenAt j⟩

theorem rel_cell {w : World} {A : Option Addr} {c : Nat} {rs : List Nat} {e : TypeId} (h : w.ownsRow 0 e 1 (.slice A rs.length c) rs.length (rs.map u64v)) (n : Nat) (hn : n < rs.length) :
    ∃ g, A = some ⟨g, 0, none⟩ ∧ w.cell? ⟨g, n, none⟩ = some (u64v (rs.getD n 0)) := by
  obtain ⟨g, hA, _, hc, _⟩ := own_cell h (by omega)
  exact ⟨g, hA, by rw [hc n hn]; simp [List.getD, hn]⟩

set_option maxHeartbeats 400000 in
theorem relLen_any (b : Nat) (rs : List Nat) (w : World) (h : RelAt w b rs) :
    Calls Tryz.prog 76 #[.pointer (some ⟨b, 0, none⟩)] w fun e w' => e = .returned (.int .i64 rs.length) ∧ w = w' := by
  obtain ⟨A, c, hb, _, _⟩ := h
  have hc := hb.cell 0
  simp at hc
  go_enter Tryz.func76, Tryz.ntmps76
  go_wp2
  go_ret
  exact ⟨rfl, rfl⟩

set_option maxHeartbeats 400000 in
theorem relLen_nil (w : World) :
    Calls Tryz.prog 76 #[.pointer none] w fun e w' => e = .returned (.int .i64 0) ∧ w = w' := by
  go_enter Tryz.func76, Tryz.ntmps76
  go_wp2
  go_ret
  exact ⟨rfl, rfl⟩

set_option maxHeartbeats 400000 in
theorem relHas_nil (w : World) (x y : Int) :
    Calls Tryz.prog 80 #[.pointer none, .int .i64 x, .int .i64 y] w fun e w' => e = .returned (.bool false) ∧ w = w' := by
  by_cases h0 : 0 ≤ x
  · go_enter Tryz.func80, Tryz.ntmps80
    go_wp2_with (go_at_call 76; refine (relLen_nil _).mono ?_; rintro e w' ⟨rfl, rfl⟩)
    go_ret
    exact ⟨rfl, rfl⟩
  · go_enter Tryz.func80, Tryz.ntmps80
    go_wp2_with (go_at_call 76; refine (relLen_nil _).mono ?_; rintro e w' ⟨rfl, rfl⟩)
    go_ret
    exact ⟨rfl, rfl⟩

set_option maxHeartbeats 400000 in
theorem relHas_any (b : Nat) (rs : List Nat) (w : World) (h : RelAt w b rs) (x y : Int) :
    Calls Tryz.prog 80 #[.pointer (some ⟨b, 0, none⟩), .int .i64 x, .int .i64 y] w fun e w' => e = .returned (.bool (hasB rs x y)) ∧ w = w' := by
  obtain ⟨A, c, hb, ho, hl, hr⟩ := h
  have hlen := relLen_any b rs w ⟨A, c, hb, ho, hl, hr⟩
  have hc := hb.cell 0
  simp at hc
  have HL := hide hlen
  clear hlen
  by_cases h0 : 0 ≤ x
  · by_cases h1 : x < rs.length
    · by_cases h2 : 0 ≤ y
      · by_cases h3 : y < rs.length
        · obtain ⟨n, rfl⟩ := Int.eq_ofNat_of_zero_le h0
          obtain ⟨m, rfl⟩ := Int.eq_ofNat_of_zero_le h2
          obtain ⟨g, rfl, hx⟩ := rel_cell ho n (by omega)
          obtain ⟨r, hr'⟩ : ∃ r, r = rs.getD n 0 := ⟨_, rfl⟩
          rw [← hr'] at hx
          have HR := hide hr'
          have HW := hide (show r < 18446744073709551616 by rw [hr']; exact getD_lt hr (by omega))
          clear hr' hr ho hb
          go_enter Tryz.func80, Tryz.ntmps80
          go_wp2_with (go_at_call 76; refine HL.out.mono ?_; rintro e w' ⟨rfl, rfl⟩)
          go_ret
          refine ⟨?_, rfl⟩
          refine ret_bool (Eq.trans (shr_bit r m HW.out) ?_)
          rw [HR.out]
          simp [hasB]
          omega
        · go_enter Tryz.func80, Tryz.ntmps80
          go_wp2_with (go_at_call 76; refine HL.out.mono ?_; rintro e w' ⟨rfl, rfl⟩)
          go_ret
          exact ⟨by simp [hasB]; omega, rfl⟩
      · go_enter Tryz.func80, Tryz.ntmps80
        go_wp2_with (go_at_call 76; refine HL.out.mono ?_; rintro e w' ⟨rfl, rfl⟩)
        go_ret
        exact ⟨by simp [hasB]; omega, rfl⟩
    · go_enter Tryz.func80, Tryz.ntmps80
      go_wp2_with (go_at_call 76; refine HL.out.mono ?_; rintro e w' ⟨rfl, rfl⟩)
      go_ret
      exact ⟨by simp [hasB]; omega, rfl⟩
  · go_enter Tryz.func80, Tryz.ntmps80
    go_wp2
    go_ret
    exact ⟨by simp [hasB]; omega, rfl⟩

end Go.Proofs.YtpjlhpaenmfieaaGreat
/- Plain laws of relations: a closure by rows of bits, and a closure by rounds, are both 'leads to'. No program is named here. -/
namespace Go.Proofs.YtpjlhpaenmfieaaGreat.RelM

/-- a leads to b by the pairs of E. -/
inductive Reach (E : Nat → Nat → Prop) : Nat → Nat → Prop
  | refl (a : Nat) : Reach E a a
  | step {a b c : Nat} : Reach E a b → E b c → Reach E a c

theorem Reach.trans {E : Nat → Nat → Prop} {a b c : Nat} (h : Reach E a b) (k : Reach E b c) : Reach E a c := by
  induction k with
  | refl => exact h
  | step _ e ih => exact .step ih e

theorem Reach.one {E : Nat → Nat → Prop} {a b : Nat} (h : E a b) : Reach E a b := .step (.refl a) h

theorem Reach.mono {E F : Nat → Nat → Prop} (hEF : ∀ a b, E a b → F a b) {a b : Nat} (h : Reach E a b) : Reach F a b := by
  induction h with
  | refl => exact .refl _
  | step _ e ih => exact .step ih (hEF _ _ e)

theorem Reach.inside {E : Nat → Nat → Prop} {n : Nat} (hE : ∀ a b, E a b → a < n ∧ b < n) {a b : Nat} (h : Reach E a b) (ha : a < n) : b < n := by
  induction h with
  | refl => exact ha
  | step _ e _ => exact (hE _ _ e).2

def bit (rs : List Nat) (a b : Nat) : Bool := (rs.getD a 0).testBit b

theorem bit_set (rs : List Nat) (k x a b : Nat) (hk : k < rs.length) : bit (rs.set k x) a b = if a = k then x.testBit b else bit rs a b := by
  unfold bit
  by_cases h : a = k
  · subst h; simp [List.getD, hk]
  · simp [List.getD, h, Ne.symm h]

/-- One round of the inner loop of the closure, up to row j. -/
def innerTo (k : Nat) (rs : List Nat) : Nat → List Nat
  | 0 => rs
  | j + 1 =>
    let s := innerTo k rs j
    if bit s j k then s.set j (s.getD j 0 ||| s.getD k 0) else s

theorem innerTo_length (k : Nat) (rs : List Nat) (j : Nat) : (innerTo k rs j).length = rs.length := by
  induction j with
  | zero => rfl
  | succ j ih => simp only [innerTo]; split <;> simp [ih]

theorem innerTo_bit (k : Nat) (rs : List Nat) (_hk : k < rs.length) (j : Nat) (hj : j ≤ rs.length) (a b : Nat) :
    bit (innerTo k rs j) a b = (bit rs a b || (decide (a < j) && bit rs a k && bit rs k b)) := by
  induction j generalizing a b with
  | zero => simp [innerTo]
  | succ j ih =>
    have ih' := ih (by omega)
    have hl := innerTo_length k rs j
    simp only [innerTo]
    have e1 : bit (innerTo k rs j) j k = bit rs j k := by rw [ih']; simp
    have e2 : ∀ b, bit (innerTo k rs j) k b = bit rs k b := fun b => by
      rw [ih']
      cases h1 : bit rs k b <;> simp
    by_cases hb : bit (innerTo k rs j) j k = true
    · rw [if_pos hb, bit_set _ _ _ _ _ (by omega)]
      rw [e1] at hb
      by_cases ha : a = j
      · subst ha
        rw [if_pos rfl, Nat.testBit_or]
        have h1 := ih' a b
        have h2 := e2 b
        unfold bit at h1 h2 hb ⊢
        rw [h1, h2, hb]
        simp
      · rw [if_neg ha, ih']
        congr 3
        rw [Bool.eq_iff_iff]; simp; omega
    · rw [if_neg hb, ih']
      rw [e1] at hb
      by_cases ha : a = j
      · subst ha; simp [hb]
      · congr 3
        rw [Bool.eq_iff_iff]; simp; omega

/-- The outer loop of the closure, up to k. -/
def closeTo (rs : List Nat) : Nat → List Nat
  | 0 => rs
  | k + 1 =>
    let s := closeTo rs k
    innerTo k (s.set k (s.getD k 0 ||| 1 <<< k)) rs.length

theorem closeTo_length (rs : List Nat) (k : Nat) : (closeTo rs k).length = rs.length := by
  induction k with
  | zero => rfl
  | succ k ih => simp [closeTo, innerTo_length, ih]

def close (rs : List Nat) : List Nat := closeTo rs rs.length

theorem close_length (rs : List Nat) : (close rs).length = rs.length := closeTo_length rs _

theorem set_own_bit (s : List Nat) (k : Nat) (hk : k < s.length) (a b : Nat) : bit (s.set k (s.getD k 0 ||| 1 <<< k)) a b = (bit s a b || (decide (a = k) && decide (b = k))) := by
  rw [bit_set _ _ _ _ _ hk]
  by_cases ha : a = k
  · subst ha
    rw [if_pos rfl, Nat.testBit_or, Nat.one_shiftLeft, Nat.testBit_two_pow]
    unfold bit
    by_cases hb : b = a
    · subst hb; simp
    · simp [hb, Ne.symm hb]
  · simp [ha]

theorem closeTo_bit (rs : List Nat) (k : Nat) (hk : k < rs.length) (a b : Nat) (ha : a < rs.length) :
    bit (closeTo rs (k + 1)) a b = true ↔
      (bit (closeTo rs k) a b = true ∨ (a = k ∧ b = k)) ∨ ((bit (closeTo rs k) a k = true ∨ a = k) ∧ (bit (closeTo rs k) k b = true ∨ b = k)) := by
  have hl := closeTo_length rs k
  simp only [closeTo]
  rw [innerTo_bit k _ (by simp; omega) _ (by simp; omega)]
  rw [set_own_bit _ _ (by omega), set_own_bit _ _ (by omega), set_own_bit _ _ (by omega)]
  simp [ha]

theorem close_sound (rs : List Nat) (k : Nat) (hk : k ≤ rs.length) : ∀ a b, a < rs.length → bit (closeTo rs k) a b = true → Reach (fun x y => x < rs.length ∧ bit rs x y = true) a b := by
  induction k with
  | zero => exact fun a b ha h => .one ⟨ha, h⟩
  | succ k ih =>
    intro a b ha h
    have ih' := ih (by omega)
    rcases (closeTo_bit rs k (by omega) a b ha).1 h with (h | ⟨rfl, rfl⟩) | ⟨h1, h2⟩
    · exact ih' a b ha h
    · exact .refl _
    · have r1 : Reach (fun x y => x < rs.length ∧ bit rs x y = true) a k := by
        rcases h1 with h1 | rfl
        · exact ih' _ _ ha h1
        · exact .refl _
      have r2 : Reach (fun x y => x < rs.length ∧ bit rs x y = true) k b := by
        rcases h2 with h2 | rfl
        · exact ih' _ _ (by omega) h2
        · exact .refl _
      exact r1.trans r2

theorem close_has (rs : List Nat) (k : Nat) (hk : k ≤ rs.length) :
    (∀ a b, a < rs.length → bit rs a b = true → bit (closeTo rs k) a b = true) ∧
    (∀ a, a < k → bit (closeTo rs k) a a = true) ∧
    (∀ i a b, i < k → a < rs.length → bit (closeTo rs k) a i = true → bit (closeTo rs k) i b = true → bit (closeTo rs k) a b = true) := by
  induction k with
  | zero => exact ⟨fun _ _ _ h => h, fun a h => absurd h (by omega), fun i _ _ h => absurd h (by omega)⟩
  | succ k ih =>
    obtain ⟨i1, i2, i3⟩ := ih (by omega)
    have hk' : k < rs.length := by omega
    refine ⟨fun a b ha h => (closeTo_bit rs k hk' a b ha).2 (.inl (.inl (i1 a b ha h))), fun a h => ?_, fun i a b hi ha h1 h2 => ?_⟩
    · by_cases e : a = k
      · exact (closeTo_bit rs k hk' a a (by omega)).2 (.inl (.inr ⟨e, e⟩))
      · exact (closeTo_bit rs k hk' a a (by omega)).2 (.inl (.inl (i2 a (by omega))))
    · have c1 := (closeTo_bit rs k hk' a i ha).1 h1
      have c2 := (closeTo_bit rs k hk' i b (by omega)).1 h2
      refine (closeTo_bit rs k hk' a b ha).2 ?_
      by_cases e : i = k
      · subst e
        have d1 : bit (closeTo rs i) a i = true ∨ a = i := by
          rcases c1 with (c | c) | c
          · exact .inl c
          · exact .inr c.1
          · exact c.1
        have d2 : bit (closeTo rs i) i b = true ∨ b = i := by
          rcases c2 with (c | c) | c
          · exact .inl c
          · exact .inr c.2
          · exact c.2
        exact .inr ⟨d1, d2⟩
      · have hi' : i < k := by omega
        have t := fun x y hx => i3 i x y hi' hx
        rcases c1 with (c | c) | ⟨c, c'⟩
        · rcases c2 with (d | d) | ⟨d, d'⟩
          · exact .inl (.inl (t a b ha c d))
          · exact absurd d.1 e
          · rcases d with d | d
            · exact .inr ⟨.inl (t a k ha c d), d'⟩
            · exact absurd d e
        · exact absurd c.2 e
        · rcases c' with c' | c'
          · rcases c2 with (d | d) | ⟨d, d'⟩
            · exact .inr ⟨c, .inl (t k b hk' c' d)⟩
            · exact absurd d.1 e
            · exact .inr ⟨c, d'⟩
          · exact absurd c' e

/-- The closure of rows whose bits are all below their number is 'leads to'. -/
theorem close_reach (rs : List Nat) (hin : ∀ a b, bit rs a b = true → b < rs.length) (a b : Nat) (ha : a < rs.length) :
    bit (close rs) a b = true ↔ Reach (fun x y => x < rs.length ∧ bit rs x y = true) a b := by
  refine ⟨close_sound rs rs.length (Nat.le_refl _) a b ha, fun h => ?_⟩
  obtain ⟨h1, h2, h3⟩ := close_has rs rs.length (Nat.le_refl _)
  induction h with
  | refl => exact h2 a ha
  | step r e ih => exact h3 _ _ _ (Reach.inside (fun x y hxy => ⟨hxy.1, hin _ _ hxy.2⟩) r ha) ha ih (h1 _ _ e.1 e.2)

/-! ### By rounds -/

/-- One round: each pair whose first thing is marked marks its second one. -/
def relax (ps : List (Nat × Nat)) (r : List Bool) : List Bool := ps.foldl (fun r p => if r.getD p.1 false then r.set p.2 true else r) r

def relaxN (ps : List (Nat × Nat)) (r : List Bool) : Nat → List Bool
  | 0 => r
  | k + 1 => relax ps (relaxN ps r k)

def le (r s : List Bool) : Prop := r.length = s.length ∧ ∀ b, r.getD b false = true → s.getD b false = true

theorem le_rfl (r : List Bool) : le r r := ⟨rfl, fun _ h => h⟩
theorem le_trans {r s t : List Bool} (h : le r s) (k : le s t) : le r t := ⟨h.1.trans k.1, fun b hb => k.2 b (h.2 b hb)⟩

theorem getD_set (r : List Bool) (k : Nat) (b : Nat) : (r.set k true).getD b false = (r.getD b false || (decide (b = k) && decide (k < r.length))) := by
  by_cases h : b = k
  · subst h
    by_cases hl : b < r.length
    · simp [List.getD, hl]
    · simp [List.getD, hl]
  · simp [List.getD, h, Ne.symm h]

theorem one_le (r : List Bool) (p : Nat × Nat) : le r (if r.getD p.1 false then r.set p.2 true else r) := by
  split
  · exact ⟨by simp, fun b hb => by rw [getD_set, hb]; rfl⟩
  · exact le_rfl r

theorem relax_le (ps : List (Nat × Nat)) (r : List Bool) : le r (relax ps r) := by
  induction ps generalizing r with
  | nil => exact le_rfl r
  | cons p ps ih => exact le_trans (one_le r p) (ih _)

theorem relaxN_length (ps : List (Nat × Nat)) (r : List Bool) (k : Nat) : (relaxN ps r k).length = r.length := by
  induction k with
  | zero => rfl
  | succ k ih => exact (relax_le ps _).1.symm.trans ih

theorem le_antisymm {r s : List Bool} (h : le r s) (k : le s r) : r = s := by
  apply List.ext_getElem h.1
  intro i h1 h2
  have a := h.2 i
  have b := k.2 i
  simp only [List.getD, List.getElem?_eq_getElem h1, List.getElem?_eq_getElem h2, Option.getD_some] at a b
  cases hr : r[i] <;> cases hs : s[i] <;> simp_all

def cnt (r : List Bool) : Nat := r.countP id

theorem cnt_le {r s : List Bool} (h : le r s) : cnt r ≤ cnt s ∧ (cnt r = cnt s → r = s) := by
  obtain ⟨hl, hb⟩ := h
  induction r generalizing s with
  | nil =>
    have : s = [] := by simpa using hl.symm
    subst this
    exact ⟨Nat.le_refl _, fun _ => rfl⟩
  | cons x r ih =>
    cases s with
    | nil => simp at hl
    | cons y s =>
      have h' := ih (s := s) (by simpa using hl) (fun b hb' => by simpa using hb (b + 1) (by simpa using hb'))
      have h0 := hb 0
      simp at h0
      unfold cnt at h' ⊢
      cases x <;> cases y <;> simp_all
      omega

theorem fix_of_eq (ps : List (Nat × Nat)) (r : List Bool) (h : relax ps r = r) : ∀ p ∈ ps, r.getD p.1 false = true → p.2 < r.length → r.getD p.2 false = true := by
  induction ps with
  | nil => intro p hp; cases hp
  | cons q ps ih =>
    have h1 := one_le r q
    have h2 : le (if r.getD q.1 false then r.set q.2 true else r) r := by
      have := relax_le ps (if r.getD q.1 false then r.set q.2 true else r)
      have e : relax ps (if r.getD q.1 false then r.set q.2 true else r) = r := h
      rwa [e] at this
    have e1 : (if r.getD q.1 false then r.set q.2 true else r) = r := (le_antisymm h1 h2).symm
    have h' : relax ps r = r := by
      have e : relax ps (if r.getD q.1 false then r.set q.2 true else r) = r := h
      rwa [e1] at e
    intro p hp hp1 hp2
    rcases List.mem_cons.1 hp with rfl | hp
    · have := h2.2 p.2
      rw [if_pos hp1, getD_set] at this
      exact this (by simp [hp2])
    · exact ih h' p hp hp1 hp2

theorem grow (ps : List (Nat × Nat)) (r : List Bool) (k : Nat) : (∃ j, j < k ∧ relax ps (relaxN ps r j) = relaxN ps r j) ∨ cnt r + k ≤ cnt (relaxN ps r k) := by
  induction k with
  | zero => exact .inr (Nat.le_refl _)
  | succ k ih =>
    rcases ih with ⟨j, hj, h⟩ | h
    · exact .inl ⟨j, by omega, h⟩
    · by_cases e : relax ps (relaxN ps r k) = relaxN ps r k
      · exact .inl ⟨k, by omega, e⟩
      · have c := cnt_le (relax_le ps (relaxN ps r k))
        right
        have : cnt (relaxN ps r k) ≠ cnt (relax ps (relaxN ps r k)) := fun q => e (c.2 q).symm
        show _ ≤ cnt (relax ps (relaxN ps r k))
        omega

theorem cnt_bound (r : List Bool) : cnt r ≤ r.length := List.countP_le_length

theorem relaxN_fix (ps : List (Nat × Nat)) (r : List Bool) (j : Nat) (h : relax ps (relaxN ps r j) = relaxN ps r j) (d : Nat) : relaxN ps r (j + d) = relaxN ps r j := by
  induction d with
  | zero => rfl
  | succ d ih => show relax ps (relaxN ps r (j + d)) = _; rw [ih]; exact h

/-- After as many rounds as there are things nothing more comes. -/
theorem rounds_fix (ps : List (Nat × Nat)) (r : List Bool) (hr : 0 < cnt r) : relax ps (relaxN ps r r.length) = relaxN ps r r.length := by
  rcases grow ps r r.length with ⟨j, hj, h⟩ | h
  · obtain ⟨d, hd⟩ : ∃ d, r.length = j + d := ⟨r.length - j, by omega⟩
    rw [hd, relaxN_fix ps r j h d]
    exact h
  · have := cnt_bound (relaxN ps r r.length)
    rw [relaxN_length] at this
    omega

def start (n a : Nat) : List Bool := (List.replicate n false).set a true

theorem relax_sound (ps qs : List (Nat × Nat)) (P : Nat → Prop) (hP : ∀ p ∈ ps, P p.1 → P p.2) (r : List Bool) (h : ∀ b, r.getD b false = true → P b) (hq : ∀ p ∈ qs, p ∈ ps) :
    ∀ b, (relax qs r).getD b false = true → P b := by
  induction qs generalizing r with
  | nil => exact h
  | cons q qs ih =>
    refine ih _ (fun b hb => ?_) (fun p hp => hq p (List.mem_cons_of_mem _ hp))
    dsimp only at hb
    split at hb
    · rename_i hq1
      rw [getD_set] at hb
      rcases Bool.or_eq_true _ _ ▸ hb with hb | hb
      · exact h b hb
      · simp at hb
        rw [hb.1]
        exact hP q (hq q List.mem_cons_self) (h _ hq1)
    · exact h b hb

theorem relaxN_sound (ps : List (Nat × Nat)) (P : Nat → Prop) (hP : ∀ p ∈ ps, P p.1 → P p.2) (r : List Bool) (h : ∀ b, r.getD b false = true → P b) (k : Nat) :
    ∀ b, (relaxN ps r k).getD b false = true → P b := by
  induction k with
  | zero => exact h
  | succ k ih => exact relax_sound ps ps P hP _ ih (fun _ h => h)

/-- The rounds reach just what the pairs lead to. -/
theorem rounds_reach (n : Nat) (ps : List (Nat × Nat)) (hp : ∀ p ∈ ps, p.1 < n ∧ p.2 < n) (a : Nat) (ha : a < n) (b : Nat) :
    (relaxN ps (start n a) n).getD b false = true ↔ Reach (fun x y => (x, y) ∈ ps) a b := by
  have hs : ∀ c, (start n a).getD c false = true ↔ c = a := fun c => by
    unfold start
    rw [getD_set]
    by_cases hc : c < n
    · simp [List.getD, ha, hc]
    · simp [List.getD, ha, hc]
  have hc : 0 < cnt (start n a) := by
    unfold cnt
    rw [List.countP_pos_iff]
    refine ⟨true, ?_, rfl⟩
    unfold start
    rw [List.mem_iff_getElem]
    exact ⟨a, by simpa using ha, by simp⟩
  have hf := rounds_fix ps (start n a) hc
  have hl : (start n a).length = n := by simp [start]
  rw [hl] at hf
  constructor
  · exact relaxN_sound ps (fun c => Reach (fun x y => (x, y) ∈ ps) a c) (fun p hp' h => .step h hp') _ (fun c hc' => by rw [(hs c).1 hc']; exact .refl _) n b
  · intro h
    induction h with
    | refl =>
      have : le (start n a) (relaxN ps (start n a) n) := by
        clear hf
        generalize n = m at hl ⊢
        have gen : ∀ (r : List Bool) (k : Nat), le r (relaxN ps r k) := fun r k => by
          induction k with
          | zero => exact le_rfl r
          | succ k ih => exact le_trans ih (relax_le ps _)
        exact gen _ _
      exact this.2 a ((hs a).2 rfl)
    | @step b c _ e ih =>
      exact fix_of_eq ps _ hf (b, c) e ih (by rw [relaxN_length, hl]; exact (hp _ e).2)

end Go.Proofs.YtpjlhpaenmfieaaGreat.RelM
/- The method back of package rel. -/
namespace Go.Proofs.YtpjlhpaenmfieaaGreat
open Go.RowKit

def backB (rs : List Nat) (a b : Nat) : Bool := hasB rs a b && hasB rs b a
/-- The row of bits that 'back' makes, up to k. -/
def backTo (rs : List Nat) (a : Nat) : Nat → Nat
  | 0 => 0
  | k + 1 => if backB rs a k then backTo rs a k ||| 1 <<< k else backTo rs a k

theorem backTo_lt (rs : List Nat) (a k : Nat) : backTo rs a k < 2 ^ k := by
  induction k with
  | zero => simp [backTo]
  | succ k ih =>
    simp only [backTo]
    have : 2 ^ k < 2 ^ (k + 1) := Nat.pow_lt_pow_right (by omega) (by omega)
    split
    · exact Nat.or_lt_two_pow (by omega) (by rw [Nat.one_shiftLeft]; exact this)
    · omega

theorem lt_64 {x k : Nat} (h : x < 2 ^ k) (hk : k ≤ 64) : x < 18446744073709551616 :=
  Nat.lt_of_lt_of_le h (Nat.le_trans (Nat.pow_le_pow_right (by omega) hk) (by decide))

set_option maxHeartbeats 400000 in
theorem relBack_any (b : Nat) (rs : List Nat) (w : World) (h : RelAt w b rs) (a : Nat) :
    Calls Tryz.prog 78 #[.pointer (some ⟨b, 0, none⟩), .int .i64 a] w fun e w' => e = .returned (.int .u64 (backTo rs a rs.length)) ∧ w = w' := by
  have HH := hide (fun x y => relHas_any b rs w h x y)
  obtain ⟨A, c, hb, ho, hl, hr⟩ := h
  have hc := hb.cell 0
  simp at hc
  clear hr ho hb
  go_enter Tryz.func78, Tryz.ntmps78
  go_wp2
  go_loop [12, 5] (fun i r => ∃ k : Nat, k ≤ rs.length ∧ i = .int .i64 k ∧ r = .int .u64 (backTo rs a k)) (fun i _ => rs.length - (intOf i).toNat)
  case atStart => exact ⟨0, Nat.zero_le _, rfl, rfl⟩
  case round =>
    obtain ⟨k, hk, rfl, rfl⟩ := hrel
    go_wp2_with (go_at_call 80; refine (HH.out _ _).mono ?_; rintro e w' ⟨rfl, rfl⟩)
    · have h1 : hasB rs a k = true := by assumption
      have h2 : hasB rs k a = true := by assumption
      go_round
      case rel =>
        refine ⟨k + 1, by omega, by go_num, ?_⟩
        rw [or_shl _ k (lt_64 (backTo_lt rs a k) (by omega)) (by omega)]
        simp [backTo, backB, h1, h2]
      case measure => simp [intOf]; omega
    · have h2 : hasB rs k a = false := by assumption
      go_round
      case rel => exact ⟨k + 1, by omega, by go_num, by simp [backTo, backB, h2]⟩
      case measure => simp [intOf]; omega
    · have h2 : ¬ hasB rs a k = true := by assumption
      go_round
      case rel => exact ⟨k + 1, by omega, by go_num, by simp [backTo, backB, h2]⟩
      case measure => simp [intOf]; omega
    · obtain rfl : k = rs.length := by omega
      go_ret
      exact ⟨rfl, rfl⟩
end Go.Proofs.YtpjlhpaenmfieaaGreat
/- Plain law: how bits are counted side by side in one number of 64 bits. No program is named here. -/
namespace Go.Proofs.YtpjlhpaenmfieaaGreat.OnesM

def ofD (s : Nat) : List Nat → Nat
  | [] => 0
  | d :: l => d + 2 ^ s * ofD s l

def pair : List Nat → List Nat
  | a :: b :: l => (a + b) :: pair l
  | _ => []

def mask (s : Nat) : Nat → Nat
  | 0 => 0
  | n + 1 => (2 ^ s - 1) + 2 ^ (2 * s) * mask s n

theorem and_split (s d e x y : Nat) (hd : d < 2 ^ s) (he : e < 2 ^ s) : (d + 2 ^ s * x) &&& (e + 2 ^ s * y) = (d &&& e) + 2 ^ s * (x &&& y) := by
  have hde : d &&& e < 2 ^ s := Nat.lt_of_le_of_lt Nat.and_le_left hd
  apply Nat.eq_of_testBit_eq
  intro i
  rw [Nat.testBit_and, Nat.add_comm d, Nat.add_comm e, Nat.add_comm (d &&& e), Nat.testBit_two_pow_mul_add _ hd, Nat.testBit_two_pow_mul_add _ he, Nat.testBit_two_pow_mul_add _ hde]
  split <;> simp

theorem two_mul_pow (s : Nat) : 2 ^ (2 * s) = 2 ^ s * 2 ^ s := by rw [← Nat.pow_add]; congr 1; omega

theorem and_low (s d q : Nat) (hd : d < 2 ^ s) : (d + 2 ^ s * q) &&& (2 ^ s - 1) = d := by
  rw [Nat.and_two_pow_sub_one_eq_mod, Nat.add_mul_mod_self_left, Nat.mod_eq_of_lt hd]

theorem step_and (s : Nat) (n : Nat) : ∀ l : List Nat, l.length = 2 * n → (∀ d ∈ l, d < 2 ^ s) →
    ((ofD s l / 2 ^ s) &&& mask s n) + (ofD s l &&& mask s n) = ofD (2 * s) (pair l) := by
  induction n with
  | zero => intro l hl _; obtain rfl : l = [] := List.eq_nil_of_length_eq_zero (by omega); simp [mask, pair, ofD]
  | succ n ih =>
    intro l hl hd
    match l, hl, hd with
    | d0 :: d1 :: l, hl, hd =>
      have h0 : d0 < 2 ^ s := hd d0 (by simp)
      have h1 : d1 < 2 ^ s := hd d1 (by simp)
      have ih' := ih l (by simp at hl; omega) (fun d h => hd d (by simp [h]))
      have hp : 0 < 2 ^ s := Nat.two_pow_pos s
      have hs2 := two_mul_pow s
      simp only [ofD, pair, mask]
      generalize hX : ofD s l = X at ih' ⊢
      have hlow : 2 ^ s - 1 < 2 ^ (2 * s) := by
        have : 2 ^ s ≤ 2 ^ (2 * s) := Nat.pow_le_pow_right (by omega) (by omega)
        omega
      have e1 : (d0 + 2 ^ s * (d1 + 2 ^ s * X)) / 2 ^ s = (d1 + 2 ^ s * (X % 2 ^ s)) + 2 ^ (2 * s) * (X / 2 ^ s) := by
        rw [Nat.add_mul_div_left _ _ hp, Nat.div_eq_of_lt h0, Nat.zero_add, hs2, Nat.mul_assoc, Nat.add_assoc, ← Nat.mul_add, Nat.mod_add_div]
      have e2 : d0 + 2 ^ s * (d1 + 2 ^ s * X) = (d0 + 2 ^ s * d1) + 2 ^ (2 * s) * X := by
        rw [hs2, Nat.mul_add, Nat.mul_assoc, Nat.add_assoc]
      have b1 : d1 + 2 ^ s * (X % 2 ^ s) < 2 ^ (2 * s) := by
        rw [hs2]
        have : X % 2 ^ s < 2 ^ s := Nat.mod_lt _ hp
        have : 2 ^ s * (X % 2 ^ s) ≤ 2 ^ s * (2 ^ s - 1) := Nat.mul_le_mul_left _ (by omega)
        rw [Nat.mul_sub, Nat.mul_one] at this
        have : 2 ^ s ≤ 2 ^ s * 2 ^ s := Nat.le_mul_of_pos_left _ hp
        omega
      have b2 : d0 + 2 ^ s * d1 < 2 ^ (2 * s) := by
        rw [hs2]
        have : 2 ^ s * d1 ≤ 2 ^ s * (2 ^ s - 1) := Nat.mul_le_mul_left _ (by omega)
        rw [Nat.mul_sub, Nat.mul_one] at this
        have : 2 ^ s ≤ 2 ^ s * 2 ^ s := Nat.le_mul_of_pos_left _ hp
        omega
      rw [e1, e2, and_split _ _ _ _ _ b1 hlow, and_split _ _ _ _ _ b2 hlow, and_low _ _ _ h1, and_low _ _ _ h0, ← ih', Nat.mul_add]
      omega

theorem step_add (n : Nat) : ∀ l : List Nat, l.length = 2 * n → (∀ d ∈ l, d ≤ 4) →
    ((ofD 4 l / 16 + ofD 4 l) &&& mask 4 n) = ofD 8 (pair l) := by
  induction n with
  | zero => intro l hl _; obtain rfl : l = [] := List.eq_nil_of_length_eq_zero (by omega); simp [mask, pair, ofD]
  | succ n ih =>
    intro l hl hd
    match l, hl, hd with
    | d0 :: d1 :: l, hl, hd =>
      have h0 : d0 ≤ 4 := hd d0 (by simp)
      have h1 : d1 ≤ 4 := hd d1 (by simp)
      have ih' := ih l (by simp at hl; omega) (fun d h => hd d (by simp [h]))
      simp only [ofD, pair, mask]
      have hX : ∃ d2 Y, d2 ≤ 4 ∧ ofD 4 l = d2 + 16 * Y := by
        match l, hd with
        | [], _ => exact ⟨0, 0, by omega, rfl⟩
        | d :: l, hd => exact ⟨d, ofD 4 l, hd d (by simp), rfl⟩
      obtain ⟨d2, Y, h2, hY⟩ := hX
      rw [hY] at ih' ⊢
      have e1 : (d0 + 2 ^ 4 * (d1 + 2 ^ 4 * (d2 + 16 * Y))) / 16 + (d0 + 2 ^ 4 * (d1 + 2 ^ 4 * (d2 + 16 * Y))) = ((d0 + d1) + 2 ^ 4 * (d1 + d2)) + 2 ^ 8 * ((d2 + 16 * Y) / 16 + (d2 + 16 * Y)) := by omega
      rw [e1, show 2 * 4 = 8 from rfl, and_split 8 _ _ _ _ (by omega) (by omega), ih', and_low 4 _ _ (by omega)]

theorem sum_pair (n : Nat) : ∀ l : List Nat, l.length = 2 * n → (pair l).sum = l.sum := by
  induction n with
  | zero => intro l hl; obtain rfl : l = [] := List.eq_nil_of_length_eq_zero (by omega); rfl
  | succ n ih =>
    intro l hl
    match l, hl with
    | d0 :: d1 :: l, hl =>
      simp only [pair, List.sum_cons, ih l (by simp at hl; omega)]
      omega

theorem length_pair (n : Nat) : ∀ l : List Nat, l.length = 2 * n → (pair l).length = n := by
  induction n with
  | zero => intro l hl; obtain rfl : l = [] := List.eq_nil_of_length_eq_zero (by omega); rfl
  | succ n ih =>
    intro l hl
    match l, hl with
    | d0 :: d1 :: l, hl => simp only [pair, List.length_cons, ih l (by simp at hl; omega)]

theorem le_pair (m : Nat) : ∀ (n : Nat) (l : List Nat), l.length = 2 * n → (∀ d ∈ l, d ≤ m) → ∀ d ∈ pair l, d ≤ 2 * m := by
  intro n
  induction n with
  | zero => intro l hl _; obtain rfl : l = [] := List.eq_nil_of_length_eq_zero (by omega); intro d hd; cases hd
  | succ n ih =>
    intro l hl hd
    match l, hl, hd with
    | d0 :: d1 :: l, hl, hd =>
      intro d h
      have a := hd d0 (by simp)
      have b := hd d1 (by simp)
      rcases List.mem_cons.1 h with rfl | h
      · omega
      · exact ih l (by simp at hl; omega) (fun d h => hd d (by simp [h])) d h

theorem fold1 (x a b B C : Nat) (ha : a ≤ 8) (hx : x = a + 256 * B) (hB : B = b + 256 * C) : x / 256 = B ∧ x + B = (a + b) + 256 * (B + C) := by omega
theorem fold2 (y p q Y : Nat) (hp : p ≤ 16) (hq : q ≤ 16) (hy : y = p + 256 * (q + 256 * Y)) : y / 65536 = Y := by omega
theorem fold3 (z p q r s T : Nat) (hp : p ≤ 32) (hq : q ≤ 32) (hr : r ≤ 32) (hs : s ≤ 32) (hz : z = p + 256 * (q + 256 * (r + 256 * (s + 256 * T)))) : z / 4294967296 = T := by omega
theorem fold4 (z p t U V n : Nat) (hz : z = p + 256 * V) (T : Nat) (hT : T = t + 256 * U) (hn : n = p + t) (h : n ≤ 64) : (z + T) % 128 = n := by omega

theorem last8' (a b c d e f g h : Nat) (ha : a ≤ 8) (hb : b ≤ 8) (hc : c ≤ 8) (hd : d ≤ 8) (he : e ≤ 8) (hf : f ≤ 8) (hg : g ≤ 8) (hh : h ≤ 8) (x : Nat)
    (hx : x = a + 2 ^ 8 * (b + 2 ^ 8 * (c + 2 ^ 8 * (d + 2 ^ 8 * (e + 2 ^ 8 * (f + 2 ^ 8 * (g + 2 ^ 8 * (h + 2 ^ 8 * 0)))))))) :
    ((x + x / 256 + (x + x / 256) / 65536) + (x + x / 256 + (x + x / 256) / 65536) / 4294967296) % 128 = a + (b + (c + (d + (e + (f + (g + (h + 0))))))) := by
  obtain ⟨G, hG⟩ : ∃ G, G = g + 256 * h := ⟨_, rfl⟩
  obtain ⟨F, hF⟩ : ∃ F, F = f + 256 * G := ⟨_, rfl⟩
  obtain ⟨E, hE⟩ : ∃ E, E = e + 256 * F := ⟨_, rfl⟩
  obtain ⟨D, hD⟩ : ∃ D, D = d + 256 * E := ⟨_, rfl⟩
  obtain ⟨C, hC⟩ : ∃ C, C = c + 256 * D := ⟨_, rfl⟩
  obtain ⟨B, hB⟩ : ∃ B, B = b + 256 * C := ⟨_, rfl⟩
  have hx' : x = a + 256 * B := by rw [hx, hB, hC, hD, hE, hF, hG]; simp only [Nat.mul_zero, Nat.add_zero, show (2 : Nat) ^ 8 = 256 from rfl]
  obtain ⟨q1, y1⟩ := fold1 x a b B C ha hx' hB
  rw [q1]
  have yB : B + C = (b + c) + 256 * (C + D) := by omega
  have yC : C + D = (c + d) + 256 * (D + E) := by omega
  have yD : D + E = (d + e) + 256 * (E + F) := by omega
  have yE : E + F = (e + f) + 256 * (F + G) := by omega
  have yF : F + G = (f + g) + 256 * (G + h) := by omega
  have yG : G + h = (g + h) + 256 * h := by omega
  rw [yB] at y1
  clear hx hx' hB hC hD hE hF hG q1
  have q2 := fold2 (x + B) (a + b) (b + c) (C + D) (by omega) (by omega) y1
  rw [q2, y1]
  clear y1 q2 yB
  generalize C + D = CD at *
  generalize D + E = DE at *
  generalize E + F = EF at *
  generalize F + G = FG at *
  generalize G + h = GH at *
  have z1 : (a + b) + 256 * ((b + c) + 256 * CD) + CD = (a + b + c + d) + 256 * ((b + c + d + e) + 256 * ((c + d + e + f) + 256 * ((d + e + f + g) + 256 * (EF + GH)))) := by omega
  have z2 : EF + GH = (e + f + g + h) + 256 * (FG + h) := by omega
  rw [z1, fold3 _ _ _ _ _ _ (by omega) (by omega) (by omega) (by omega) rfl]
  exact fold4 _ _ _ _ _ _ rfl _ z2 (by omega) (by omega)

theorem last8 (l : List Nat) (hl : l.length = 8) (hd : ∀ d ∈ l, d ≤ 8) :
    let x := ofD 8 l
    let y := x + x / 256
    let z := y + y / 65536
    (z + z / 4294967296) % 128 = l.sum ∧ x < 2 ^ 60 ∧ l.sum ≤ 64 := by
  match l, hl, hd with
  | [a, b, c, d, e, f, g, h], _, hd =>
    simp only [List.mem_cons, List.not_mem_nil, or_false, forall_eq_or_imp, forall_eq] at hd
    obtain ⟨ha, hb, hc, hd, he, hf, hg, hh⟩ := hd
    simp only [ofD, List.sum_cons, List.sum_nil]
    exact ⟨last8' a b c d e f g h ha hb hc hd he hf hg hh _ rfl, by omega, by omega⟩

/-- The bits of a number, the least first. -/
def bitsOf (x : Nat) : Nat → List Nat
  | 0 => []
  | n + 1 => x % 2 :: bitsOf (x / 2) n

theorem bitsOf_length (x n : Nat) : (bitsOf x n).length = n := by
  induction n generalizing x with
  | zero => rfl
  | succ n ih => simp [bitsOf, ih]
theorem bitsOf_le (x n : Nat) : ∀ d ∈ bitsOf x n, d ≤ 1 := by
  induction n generalizing x with
  | zero => intro d h; cases h
  | succ n ih =>
    intro d h
    rcases List.mem_cons.1 h with rfl | h
    · omega
    · exact ih _ d h
theorem ofD_bitsOf (x n : Nat) (hx : x < 2 ^ n) : ofD 1 (bitsOf x n) = x := by
  induction n generalizing x with
  | zero => simp at hx; subst hx; rfl
  | succ n ih =>
    have := ih (x / 2) (by rw [Nat.pow_succ] at hx; omega)
    simp only [bitsOf, ofD, this]
    omega

/-- How many bits of a number are set. -/
def popc (x : Nat) : Nat := (bitsOf x 64).sum

theorem m0 : mask 1 32 = 6148914691236517205 := by decide +kernel
theorem m1 : mask 2 16 = 3689348814741910323 := by decide +kernel
theorem m2 : mask 4 8 = 1085102592571150095 := by decide +kernel

def s1 (x : Nat) : Nat := ((x / 2) &&& 6148914691236517205) + (x &&& 6148914691236517205)
def s2 (x : Nat) : Nat := ((x / 4) &&& 3689348814741910323) + (x &&& 3689348814741910323)
def s3 (x : Nat) : Nat := ((x / 16) + x) &&& 1085102592571150095

/-- What is left behind the first three steps: eight counts of eight bits, side by side. -/
theorem steps (x : Nat) (hx : x < 2 ^ 64) : ∃ l : List Nat, l.length = 8 ∧ (∀ d ∈ l, d ≤ 8) ∧ s3 (s2 (s1 x)) = ofD 8 l ∧ l.sum = popc x := by
  have l0 := bitsOf_length x 64
  have b0 := bitsOf_le x 64
  have e0 := ofD_bitsOf x 64 hx
  unfold popc
  generalize bitsOf x 64 = l at l0 b0 e0 ⊢
  have l1 := length_pair 32 l l0
  have b1 := le_pair 1 32 l l0 b0
  have e1 := step_and 1 32 l l0 (fun d h => by have := b0 d h; omega)
  have l2 := length_pair 16 _ l1
  have b2 := le_pair 2 16 _ l1 b1
  have e2 := step_and 2 16 _ l1 (fun d h => by have := b1 d h; omega)
  have l3 := length_pair 8 _ l2
  have b3 := le_pair 4 8 _ l2 b2
  have e3 := step_add 8 _ l2 b2
  refine ⟨_, l3, b3, ?_, by rw [sum_pair 8 _ l2, sum_pair 16 _ l1, sum_pair 32 _ l0]⟩
  rw [m0, e0] at e1
  rw [m1] at e2
  rw [m2] at e3
  unfold s3 s2 s1
  have e1' : (x / 2 &&& 6148914691236517205) + (x &&& 6148914691236517205) = ofD 2 (pair l) := e1
  rw [e1']
  have e2' : (ofD 2 (pair l) / 4 &&& 3689348814741910323) + (ofD 2 (pair l) &&& 3689348814741910323) = ofD 4 (pair (pair l)) := e2
  rw [e2']
  exact e3

theorem ones (x : Nat) (hx : x < 2 ^ 64) :
    let a := s3 (s2 (s1 x))
    let y := a + a / 256
    let z := y + y / 65536
    (z + z / 4294967296) % 128 = popc x ∧ a < 2 ^ 60 ∧ popc x ≤ 64 := by
  obtain ⟨l, h1, h2, h3, h4⟩ := steps x hx
  rw [h3, ← h4]
  exact last8 l h1 h2

theorem s1_lt (x : Nat) : s1 x ≤ 12297829382473034410 := by
  unfold s1
  have := @Nat.and_le_right (x / 2) 6148914691236517205
  have := @Nat.and_le_right x 6148914691236517205
  omega
theorem s2_lt (x : Nat) : s2 x ≤ 7378697629483820646 := by
  unfold s2
  have := @Nat.and_le_right (x / 4) 3689348814741910323
  have := @Nat.and_le_right x 3689348814741910323
  omega

theorem bitsOf_get (x n i : Nat) (hi : i < n) : (bitsOf x n)[i]'(by rw [bitsOf_length]; exact hi) = (x.testBit i).toNat := by
  induction n generalizing x i with
  | zero => omega
  | succ n ih =>
    cases i with
    | zero => simp [bitsOf, Nat.testBit_zero]; rcases Nat.mod_two_eq_zero_or_one x with h | h <;> simp [h]
    | succ i =>
      simp only [bitsOf, List.getElem_cons_succ]
      rw [ih _ _ (by omega), Nat.testBit_succ]

theorem mem_le_sum {l : List Nat} {d : Nat} (h : d ∈ l) : d ≤ l.sum := by
  induction l with
  | nil => cases h
  | cons x l ih =>
    rw [List.sum_cons]
    rcases List.mem_cons.1 h with rfl | h
    · omega
    · have := ih h; omega

theorem sum_two {l : List Nat} (h1 : ∀ d ∈ l, d ≤ 1) (i j : Nat) (hij : i < j) (hj : j < l.length) (a : l[i]'(by omega) = 1) (b : l[j] = 1) : 1 < l.sum := by
  induction l generalizing i j with
  | nil => simp at hj
  | cons d l ih =>
    cases j with
    | zero => omega
    | succ j =>
      have hj' : j < l.length := by simpa using hj
      have hb : l[j] = 1 := by simpa using b
      cases i with
      | zero =>
        have hm : l[j] ≤ l.sum := mem_le_sum (List.getElem_mem hj')
        have : d = 1 := by simpa using a
        simp only [List.sum_cons]
        omega
      | succ i =>
        have := ih (fun d h => h1 d (by simp [h])) i j (by omega) hj' (by simpa using a) hb
        simp only [List.sum_cons]
        omega

theorem sum_le_one {l : List Nat} (h1 : ∀ d ∈ l, d ≤ 1) (h : ∀ i j (hi : i < l.length) (hj : j < l.length), l[i] = 1 → l[j] = 1 → i = j) : l.sum ≤ 1 := by
  induction l with
  | nil => simp
  | cons d l ih =>
    have ih' := ih (fun d h => h1 d (by simp [h])) (fun i j hi hj a b => by
      have := h (i + 1) (j + 1) (by simpa using hi) (by simpa using hj) (by simpa using a) (by simpa using b)
      omega)
    have hd := h1 d (by simp)
    by_cases e : d = 1
    · have : l.sum = 0 := by
        have hz : ∀ x ∈ l, x = 0 := by
          intro x hx
          obtain ⟨i, hi, rfl⟩ := List.getElem_of_mem hx
          have a := h1 l[i] (by simp)
          by_cases e' : l[i] = 1
          · have := h 0 (i + 1) (by simp) (by simpa using hi) (by simpa using e) (by simpa using e')
            omega
          · omega
        clear ih ih' h h1
        induction l with
        | nil => rfl
        | cons y l ih =>
          rw [List.sum_cons, hz y (by simp), ih (fun x hx => hz x (by simp [hx]))]
      simp only [List.sum_cons]
      omega
    · simp only [List.sum_cons]
      omega

/-- More than one bit is set just if two are. -/
theorem popc_two (x : Nat) (hx : x < 2 ^ 64) : 1 < popc x ↔ ∃ i j, i < j ∧ x.testBit i = true ∧ x.testBit j = true := by
  have hlt : ∀ i, x.testBit i = true → i < 64 := fun i h => by
    rcases Nat.lt_or_ge i 64 with h' | h'
    · exact h'
    · rw [Nat.testBit_lt_two_pow (Nat.lt_of_lt_of_le hx (Nat.pow_le_pow_right (by omega) h'))] at h
      cases h
  have hb := bitsOf_le x 64
  have hl := bitsOf_length x 64
  have hg := bitsOf_get x 64
  unfold popc
  constructor
  · intro h
    rcases Classical.em (∃ i j, i < j ∧ x.testBit i = true ∧ x.testBit j = true) with h' | h'
    · exact h'
    · exfalso
      have := sum_le_one hb (fun i j hi hj a b => by
        rw [hg i (by omega)] at a
        rw [hg j (by omega)] at b
        have a' : x.testBit i = true := by cases h : x.testBit i <;> simp [h] at a ⊢
        have b' : x.testBit j = true := by cases h : x.testBit j <;> simp [h] at b ⊢
        rcases Nat.lt_trichotomy i j with q | q | q
        · exact absurd ⟨i, j, q, a', b'⟩ h'
        · exact q
        · exact absurd ⟨j, i, q, b', a'⟩ h')
      omega
  · rintro ⟨i, j, hij, a, b⟩
    have := hlt j b
    exact sum_two hb i j hij (by omega) (by rw [hg i (by omega), a]; rfl) (by rw [hg j (by omega), b]; rfl)

end Go.Proofs.YtpjlhpaenmfieaaGreat.OnesM
/- bits.OnesCount64; the method Loop of package rel. -/
namespace Go.Proofs.YtpjlhpaenmfieaaGreat
open Go.RowKit

theorem and_c (x c : Nat) (hx : x ≤ 18446744073709551615) (hc : c ≤ 18446744073709551615) : bits .and .u64 (x : Int) (c : Int) = ((x &&& c : Nat) : Int) := u64_and_nat x c (by omega) (by omega)

theorem ones1 (x : Nat) (hx : x ≤ 18446744073709551615) : IntKind.u64.wrap (bits .and .u64 ((x : Int) / 2) 6148914691236517205 + bits .and .u64 (x : Int) 6148914691236517205) = ((OnesM.s1 x : Nat) : Int) := by
  have h := OnesM.s1_lt x
  have a := and_c (x / 2) 6148914691236517205 (by omega) (by omega)
  have b := and_c x 6148914691236517205 (by omega) (by omega)
  rw [Int.natCast_ediv] at a
  have a' : bits .and .u64 ((x : Int) / 2) 6148914691236517205 = _ := a
  have b' : bits .and .u64 (x : Int) 6148914691236517205 = _ := b
  rw [a', b', ← Int.natCast_add]
  exact IntWalk.u64_in _ ⟨Int.natCast_nonneg _, by have := h; unfold OnesM.s1 at this; omega⟩

theorem ones2 (x : Nat) (hx : x ≤ 18446744073709551615) : IntKind.u64.wrap (bits .and .u64 ((x : Int) / 4) 3689348814741910323 + bits .and .u64 (x : Int) 3689348814741910323) = ((OnesM.s2 x : Nat) : Int) := by
  have h := OnesM.s2_lt x
  have a := and_c (x / 4) 3689348814741910323 (by omega) (by omega)
  have b := and_c x 3689348814741910323 (by omega) (by omega)
  rw [Int.natCast_ediv] at a
  have a' : bits .and .u64 ((x : Int) / 4) 3689348814741910323 = _ := a
  have b' : bits .and .u64 (x : Int) 3689348814741910323 = _ := b
  rw [a', b', ← Int.natCast_add]
  exact IntWalk.u64_in _ ⟨Int.natCast_nonneg _, by have := h; unfold OnesM.s2 at this; omega⟩

theorem ones3 (x : Nat) (hx : x ≤ 7378697629483820646) : bits .and .u64 (IntKind.u64.wrap ((x : Int) / 16 + x)) 1085102592571150095 = ((OnesM.s3 x : Nat) : Int) := by
  have e : IntKind.u64.wrap ((x : Int) / 16 + x) = ((x / 16 + x : Nat) : Int) := by
    rw [Int.natCast_add, Int.natCast_ediv]
    exact IntWalk.u64_in _ (by omega)
  rw [e]
  exact and_c (x / 16 + x) 1085102592571150095 (by omega) (by omega)

theorem ones4 (x k : Nat) (hx : x ≤ 9223372036854775807) (_hk : 2 ≤ k) : IntKind.u64.wrap ((x : Int) + x / (k : Int)) = ((x + x / k : Nat) : Int) := by
  rw [Int.natCast_add, Int.natCast_ediv]
  have h : x / k ≤ x := Nat.div_le_self _ _
  rw [← Int.natCast_ediv, ← Int.natCast_add]
  generalize x / k = q at h ⊢
  exact IntWalk.u64_in _ (by omega)

set_option maxHeartbeats 400000 in
theorem ones_any (x : Nat) (hx : x < 18446744073709551616) (w : World) :
    Calls Tryz.prog 77 #[.int .u64 x] w fun e w' => e = .returned (.int .i64 (OnesM.popc x)) ∧ w = w' := by
  go_enter Tryz.func77, Tryz.ntmps77
  go_wp2
  go_ret
  refine ⟨ret_int ?_, rfl⟩
  have e1 := ones1 x (by omega)
  have e2 := ones2 (OnesM.s1 x) (by have := OnesM.s1_lt x; omega)
  have e3 := ones3 (OnesM.s2 (OnesM.s1 x)) (OnesM.s2_lt _)
  have e := OnesM.ones x (by omega)
  show bits BinOp.and IntKind.i64 _ 127 = _
  simp only [e1, e2, e3]
  dsimp only at e
  generalize OnesM.s3 (OnesM.s2 (OnesM.s1 x)) = a at e ⊢
  obtain ⟨h1, h2, h3⟩ := e
  have f1 := ones4 a 256 (by omega) (by omega)
  have f1' : IntKind.u64.wrap ((a : Int) + a / 256) = _ := f1
  rw [f1']
  clear f1 f1' e1 e2 e3
  obtain ⟨y, hy⟩ : ∃ y, y = a + a / 256 := ⟨_, rfl⟩
  rw [← hy] at h1 ⊢
  have hy' : y < 2 ^ 61 := by omega
  clear hy h2
  have f2 := ones4 y 65536 (by omega) (by omega)
  have f2' : IntKind.u64.wrap ((y : Int) + y / 65536) = _ := f2
  rw [f2']
  clear f2 f2'
  obtain ⟨z, hz⟩ : ∃ z, z = y + y / 65536 := ⟨_, rfl⟩
  rw [← hz] at h1 ⊢
  have hz' : z < 2 ^ 62 := by omega
  clear hz hy'
  have f3 := ones4 z 4294967296 (by omega) (by omega)
  have f3' : IntKind.u64.wrap ((z : Int) + z / 4294967296) = _ := f3
  rw [f3']
  clear f3 f3'
  obtain ⟨t, ht⟩ : ∃ t, t = z + z / 4294967296 := ⟨_, rfl⟩
  rw [← ht] at h1 ⊢
  have ht' : t < 2 ^ 63 := by omega
  rw [IntWalk.wrap64_in _ (by omega), i64_and127, ← h1]
  simp

/-- What 'Loop' looks for: the least thing that is in a loop. -/
def inLoop (rs : List Nat) (a : Nat) : Bool := decide (1 < OnesM.popc (backTo rs a rs.length))
def loopOf (rs : List Nat) : Option Nat := (List.range rs.length).find? (inLoop rs)

end Go.Proofs.YtpjlhpaenmfieaaGreat
/- The method Close of package rel. -/
namespace Go.Proofs.YtpjlhpaenmfieaaGreat
open Go.RowKit

theorem info_u64 : (Tryz.prog.info? 127).map (fun i => (i.zero, i.size, i.bytes)) = some (some (.int .u64 0), 1, 8) := by kernel_rfl

theorem u64v_one (rs : List Nat) : ∀ u ∈ rs.map u64v, u.oneCell' = true := by
  intro u hu
  obtain ⟨r, _, rfl⟩ := List.mem_map.1 hu
  rfl

/-- What the closure's loops keep: the new relation's block, its rows' own block, and all that was there. -/
def CloseRel (W : World) (bo g c n : Nat) (rs : List Nat) (w : World) : Prop :=
  Blk w bo 126 #[.slice (some ⟨g, 0, none⟩) n c] ∧ w.ownsRow W.heap.size 127 1 (.slice (some ⟨g, 0, none⟩) n c) n (rs.map u64v) ∧ Below W.heap.size W w ∧ W.heap.size ≤ bo ∧ bo ≠ g ∧ rs.length = n ∧ ∀ r ∈ rs, r < 18446744073709551616

theorem CloseRel.facts {W : World} {bo g c n : Nat} {rs : List Nat} {w : World} (h : CloseRel W bo g c n rs w) :
    w.cell? ⟨bo, 0, none⟩ = some (.slice (some ⟨g, 0, none⟩) n c) ∧ (∀ j, j < n → w.cell? ⟨g, j, none⟩ = some (u64v (rs.getD j 0))) ∧ (∀ j, w.frozen? ⟨g, j, none⟩ = false) := by
  obtain ⟨h1, h2, _, _, _, hl, _⟩ := h
  refine ⟨by simpa using h1.cell 0, fun j hj => ?_, fun j => h2.frozenAt j⟩
  rw [h2.cellAt j (by omega)]
  simp [List.getD, hl, hj]

theorem CloseRel.store {W : World} {bo g c n : Nat} {rs : List Nat} {w : World} (h : CloseRel W bo g c n rs w) (j r : Nat) (hr : r < 18446744073709551616) :
    CloseRel W bo g c n (rs.set j r) (w.setCell ⟨g, j, none⟩ (u64v r)).drew := by
  obtain ⟨h1, h2, h3, h4, h5, h6, h7⟩ := h
  have hs := h2.stored j (u64v r)
  have hg : W.heap.size ≤ g := (h2.lt g rfl).1
  refine ⟨(h1.far (p := ⟨g, j, none⟩) h5 _), ?_, (h3.setCell (by exact hg) _).drew, h4, h5, by simp [h6], fun x hx => ?_⟩
  · have := hs.1
    rw [← List.map_set] at this
    exact this
  · rcases List.mem_or_eq_of_mem_set hx with hx | hx
    · exact h7 x hx
    · rw [hx]; exact hr

theorem or_lt {x y : Nat} (hx : x < 18446744073709551616) (hy : y < 64) : x ||| 1 <<< y < 18446744073709551616 := by
  have h2 : 1 <<< y < 2 ^ 64 := by rw [Nat.one_shiftLeft]; exact Nat.pow_lt_pow_right (by omega) hy
  exact Nat.or_lt_two_pow (n := 64) hx h2
theorem or_u64 (p q : Nat) (hp : p < 18446744073709551616) (hq : q < 18446744073709551616) : bits .or .u64 (p : Int) (q : Int) = ((p ||| q : Nat) : Int) := u64_or_nat p q hp hq

theorem close_step {W : World} {bo g c n : Nat} {rs : List Nat} {w : World} (k j : Nat) (h : CloseRel W bo g c n (RelM.innerTo k rs j) w) :
    (((RelM.innerTo k rs j).getD j 0).testBit k = true → CloseRel W bo g c n (RelM.innerTo k rs (j + 1)) (w.setCell ⟨g, j, none⟩ (.int .u64 (((RelM.innerTo k rs j).getD j 0 ||| (RelM.innerTo k rs j).getD k 0 : Nat) : Int))).drew) ∧
    (((RelM.innerTo k rs j).getD j 0).testBit k = false → CloseRel W bo g c n (RelM.innerTo k rs (j + 1)) w) := by
  have hh := fun j => getD_lt (B := 18446744073709551616) h.2.2.2.2.2.2 (by omega) (n := j)
  constructor
  · intro hb
    have := h.store j ((RelM.innerTo k rs j).getD j 0 ||| (RelM.innerTo k rs j).getD k 0) (Nat.or_lt_two_pow (n := 64) (hh j) (hh k))
    simp only [RelM.innerTo, RelM.bit, hb, if_true]
    exact this
  · intro hb
    simp only [RelM.innerTo, RelM.bit, hb]
    exact h

theorem lt_getD {rs : List Nat} (h : ∀ r ∈ rs, r < 18446744073709551616) (j : Nat) : rs.getD j 0 < 18446744073709551616 := getD_lt h (by omega)

set_option maxRecDepth 100000 in
set_option maxHeartbeats 1000000 in
theorem relClose_any (b : Nat) (rs : List Nat) (w : World) (h : RelAt w b rs) :
    Calls Tryz.prog 38 #[.pointer (some ⟨b, 0, none⟩)] w fun e w' => ∃ bo, e = .returned (.pointer (some ⟨bo, 0, none⟩)) ∧ RelAt w' bo (RelM.close rs) ∧ Ext w w' := by
  obtain ⟨A, c, hb, ho, hl, hr⟩ := h
  have hc := hb.cell 0
  simp at hc
  obtain ⟨i0, hi, hz0, hz1, hz2⟩ := info_parts info_u64
  have HR := hide hr
  have hrd := Reads.of_own ho
  clear hr hb
  by_cases hn : rs.length = 0
  · obtain rfl : rs = [] := List.eq_nil_of_length_eq_zero hn
    go_enter Tryz.func38, Tryz.ntmps38
    go_wp2_with (at_builtin; refine wpList_append_sl _ rfl _ _ 124 rfl w.heap.size 127 i0 (.int .u64 0) 1 8 Tryz.underlying124 hi hz0 hz1 hz2 rfl (by decide) _ 0 [] rfl (World.ownsRow_nil _ _ _ _) w.heap.size A 0 c [] rfl hrd ?c0 ?c1 ?c2 ?c3 ?_)
    case c0 => intro u hu; cases hu
    case c1 => unfold maxLen; omega
    case c2 => omega
    case c3 => exact Nat.le_refl _
    intro A' c' w1 hown hgrow hat
    try simp only [Nat.zero_add, List.nil_append] at hown
    have HO := hide hown
    clear hown hat hrd ho hc
    go_wp2
    go_loop [20] (fun i => i = .int .i64 0) (fun _ => 0)
    case atStart => rfl
    case round =>
      subst hrel
      go_wp2
      go_ret
      exact ⟨w1.heap.size, rfl, ⟨A', c', Blk.new _ _ _, (own_more HO.out (Nat.zero_le _)).alloc _, by simp [RelM.close, RelM.closeTo], fun r hr => by cases hr⟩, (ext_of_grown hgrow).alloc hgrow.size _⟩
  · go_enter Tryz.func38, Tryz.ntmps38
    go_wp2_with (at_builtin; refine wpList_append_sl _ rfl _ _ 124 rfl w.heap.size 127 i0 (.int .u64 0) 1 8 Tryz.underlying124 hi hz0 hz1 hz2 rfl (by decide) _ 0 [] rfl (World.ownsRow_nil _ _ _ _) w.heap.size A rs.length c (rs.map u64v) rfl hrd (u64v_one rs) ?c1 ?c2 ?c3 ?_)
    case c1 => unfold maxLen; omega
    case c2 => omega
    case c3 => exact Nat.le_refl _
    intro A' c' w1 hown hgrow hat
    try simp only [Nat.zero_add, List.nil_append] at hown
    obtain ⟨g, rfl, hg, _, _⟩ := own_cell hown (by omega)
    have hglt : g < w1.heap.size := (hown.lt g rfl).2
    have hC0 : CloseRel w w1.heap.size g c' rs.length rs (w1.alloc (.cells #[.slice (some ⟨g, 0, none⟩) rs.length c'] 126)) :=
      ⟨Blk.new _ _ _, hown.alloc _, (ext_of_grown hgrow).alloc hgrow.size _, hgrow.size, by omega, rfl, HR.out⟩
    go_wp2
    clear hown hgrow hat hrd ho hc
    go_loopw [20] (fun i wr => ∃ k : Nat, k ≤ rs.length ∧ i = .int .i64 k ∧ CloseRel w w1.heap.size g c' rs.length (RelM.closeTo rs k) wr) (fun i _ => rs.length - (intOf i).toNat)
    case atStart => exact ⟨0, Nat.zero_le _, rfl, hC0⟩
    case round =>
      obtain ⟨k, hk, rfl, hC⟩ := hrel
      by_cases hlt : k < rs.length
      · have hF := hC.facts
        obtain ⟨f0, f1, f2⟩ := hF
        have f1k := f1 k hlt
        have f2k := f2 k
        have hrlt := lt_getD hC.2.2.2.2.2.2 k
        obtain ⟨r, hr⟩ : ∃ r, r = (RelM.closeTo rs k).getD k 0 := ⟨_, rfl⟩
        rw [← hr] at f1k hrlt
        have HS := hide hC
        have Hr := hide hr
        clear f1 f2 hC hr
        go_wp2
        go_region
        rw [or_shl r k hrlt (by omega)]
        have hC1 : CloseRel w w1.heap.size g c' rs.length ((RelM.closeTo rs k).set k (r ||| 1 <<< k)) ((wr.setCell ⟨g, k, none⟩ (.int .u64 ((r ||| 1 <<< k : Nat) : Int))).drew) :=
          HS.out.store k _ (or_lt hrlt (by omega))
        rw [Hr.out] at hC1
        obtain ⟨wo, hwo⟩ : ∃ wo, wo = (wr.setCell ⟨g, k, none⟩ (.int .u64 ((r ||| 1 <<< k : Nat) : Int))).drew := ⟨_, rfl⟩
        rw [← Hr.out, ← hwo] at hC1
        rw [← hwo]
        clear hwo f0 f1k f2k HS
        have f0 := hC1.facts.1
        go_wp2
        go_loopw [39] (fun i wi => ∃ j : Nat, j ≤ rs.length ∧ i = .int .i64 j ∧ CloseRel w w1.heap.size g c' rs.length (RelM.innerTo k ((RelM.closeTo rs k).set k (r ||| 1 <<< k)) j) wi) (fun i _ => rs.length - (intOf i).toNat)
        case atStart => exact ⟨0, Nat.zero_le _, rfl, hC1⟩
        case round =>
          clear hC1 f0
          obtain ⟨j, hj, rfl, hC⟩ := hrel
          by_cases hjlt : j < rs.length
          · have hF := hC.facts
            obtain ⟨f0, f1, f2⟩ := hF
            have f1k := f1 k hlt
            have f1j := f1 j hjlt
            have f2j := f2 j
            have hklt := lt_getD hC.2.2.2.2.2.2 k
            have hjl := lt_getD hC.2.2.2.2.2.2 j
            have hS := close_step k j hC
            obtain ⟨q, hq⟩ : ∃ q, q = (RelM.innerTo k ((RelM.closeTo rs k).set k (r ||| 1 <<< k)) j).getD k 0 := ⟨_, rfl⟩
            obtain ⟨p, hp⟩ : ∃ p, p = (RelM.innerTo k ((RelM.closeTo rs k).set k (r ||| 1 <<< k)) j).getD j 0 := ⟨_, rfl⟩
            rw [← hq] at f1k hklt hS
            rw [← hp] at f1j hjl hS
            have HS := hide hS
            have hb0 := fun m => shr_bit p m hjl
            have hor := or_u64 p q hjl hklt
            clear f1 f2 hC hq hp hS
            go_wp2
            · go_region
              go_wp2
              go_roundw
              case rel => exact ⟨j + 1, by omega, by go_num, HS.out.1 (by assumption)⟩
              case measure => simp [intOf]; omega
            · go_roundw
              case rel => exact ⟨j + 1, by omega, by go_num, HS.out.2 (by assumption)⟩
              case measure => simp [intOf]; omega
          · obtain rfl : j = rs.length := by omega
            have HS := hide hC
            clear hC
            go_wp2
            go_roundw
            case rel =>
              refine ⟨k + 1, by omega, by go_num, ?_⟩
              have := HS.out
              rw [Hr.out] at this
              exact this
            case measure => simp [intOf]; omega
      · obtain rfl : k = rs.length := by omega
        have HS := hide hC
        clear hC
        go_wp2
        go_ret
        have hC := HS.out
        obtain ⟨h1, h2, h3, _, _, h6, h7⟩ := hC
        refine ⟨w1.heap.size, rfl, ⟨some ⟨g, 0, none⟩, c', ?_, ?_, ?_, h7⟩, h3⟩
        · rw [RelM.close_length]; exact h1
        · rw [RelM.close_length]; exact own_more h2 (Nat.zero_le _)
        · rw [RelM.close_length]; exact hl

end Go.Proofs.YtpjlhpaenmfieaaGreat
/- The function New of package rel. -/
namespace Go.Proofs.YtpjlhpaenmfieaaGreat
open Go.RowKit

abbrev i64v (n : Int) : Value := .int .i64 n

def pairCells (ps : List (Int × Int)) : List Value := ps.flatMap fun p => [i64v p.1, i64v p.2]

theorem pairCells_length (ps : List (Int × Int)) : (pairCells ps).length = ps.length * 2 := by
  induction ps with
  | nil => rfl
  | cons p ps ih => simp only [pairCells, List.flatMap_cons, List.length_append] at ih ⊢; rw [ih]; simp; omega

theorem pairCells_get (ps : List (Int × Int)) (k : Nat) (hk : k < ps.length) : (pairCells ps)[k * 2]? = some (i64v ps[k].1) ∧ (pairCells ps)[k * 2 + 1]? = some (i64v ps[k].2) := by
  induction ps generalizing k with
  | nil => simp at hk
  | cons p ps ih =>
    cases k with
    | zero => exact ⟨rfl, rfl⟩
    | succ k =>
      have := ih k (by simpa using hk)
      simp only [pairCells, List.flatMap_cons] at this ⊢
      rw [show (k + 1) * 2 = k * 2 + 1 + 1 by omega]
      simpa using this

/-- The pairs that a slice holds. -/
def PairsAt (w : World) (B : Nat) (A : Option Addr) (ps : List (Int × Int)) : Prop := Reads w B 2 A ps.length (pairCells ps)

theorem PairsAt.cell {w : World} {B : Nat} {A : Option Addr} {ps : List (Int × Int)} (h : PairsAt w B A ps) (hn : 0 < ps.length) :
    ∃ b o, A = some ⟨b, o, none⟩ ∧ b < B ∧ ∀ k (hk : k < ps.length), w.cell? ⟨b, o + k * 2, none⟩ = some (i64v ps[k].1) ∧ w.cell? ⟨b, o + k * 2 + 1, none⟩ = some (i64v ps[k].2) := by
  obtain ⟨b, o, e, hb, hc⟩ := h.form hn (by omega)
  exact ⟨b, o, e, hb, fun k hk => ⟨hc _ _ (pairCells_get ps k hk).1, hc _ _ (pairCells_get ps k hk).2⟩⟩

def okP (n : Nat) (p : Int × Int) : Bool := decide (0 ≤ p.1 ∧ p.1 < n ∧ 0 ≤ p.2 ∧ p.2 < n)
def okPs (n : Nat) (ps : List (Int × Int)) : Bool := ps.all (okP n)
def addP (rs : List Nat) (p : Int × Int) : List Nat := rs.set p.1.toNat (rs.getD p.1.toNat 0 ||| 1 <<< p.2.toNat)
def newRows (n : Nat) (ps : List (Int × Int)) : List Nat := ps.foldl addP (List.replicate n 0)

theorem newRows_length (n : Nat) (ps : List (Int × Int)) : (newRows n ps).length = n := by
  unfold newRows
  suffices ∀ rs : List Nat, (ps.foldl addP rs).length = rs.length by rw [this]; simp
  induction ps with
  | nil => intro rs; rfl
  | cons p ps ih => intro rs; rw [List.foldl_cons, ih]; simp [addP]

theorem newRows_snoc (n : Nat) (ps : List (Int × Int)) (k : Nat) (hk : k < ps.length) : newRows n (ps.take (k + 1)) = addP (newRows n (ps.take k)) ps[k] := by
  unfold newRows
  rw [List.take_succ_eq_append_getElem hk, List.foldl_append]
  rfl

set_option maxHeartbeats 400000 in
theorem relNew_bad (n : Int) (hn : n < 0 ∨ 64 < n) (v : Value) (w : World) :
    Calls Tryz.prog 36 #[.int .i64 n, v] w fun e w' => e = .returned (.tuple #[.pointer none, .bool false]) ∧ w = w' := by
  rcases hn with hn | hn
  · go_enter Tryz.func36, Tryz.ntmps36
    go_wp2
    go_ret2
    exact ⟨rfl, rfl⟩
  · have : ¬ n < 0 := by omega
    go_enter Tryz.func36, Tryz.ntmps36
    go_wp2
    go_ret2
    exact ⟨rfl, rfl⟩

theorem CloseRel.alloc {W : World} {bo g c n : Nat} {rs : List Nat} {w : World} (h : CloseRel W bo g c n rs w) (o : Obj) : CloseRel W bo g c n rs (w.alloc o) := by
  obtain ⟨h1, h2, h3, h4, h5, h6, h7⟩ := h
  exact ⟨h1.alloc o, h2.alloc o, h3.alloc h3.size o, h4, h5, h6, h7⟩

theorem okPs_bad {n : Nat} {ps : List (Int × Int)} {k : Nat} (hk : k < ps.length) {x y : Int} (hxy : ps[k] = (x, y)) (h : x < 0 ∨ (n : Int) ≤ x ∨ y < 0 ∨ (n : Int) ≤ y) : okPs n ps = false := by
  unfold okPs
  rw [List.all_eq_false]
  refine ⟨ps[k], List.getElem_mem hk, ?_⟩
  rw [hxy]
  simp [okP]
  omega
theorem okPs_step {n : Nat} {ps : List (Int × Int)} {k : Nat} (hk : k < ps.length) {x y : Int} (hxy : ps[k] = (x, y)) (h0 : okPs n (ps.take k) = true) (h : 0 ≤ x ∧ x < n ∧ 0 ≤ y ∧ y < n) : okPs n (ps.take (k + 1)) = true := by
  unfold okPs at h0 ⊢
  rw [List.take_succ_eq_append_getElem hk, List.all_append, h0, hxy]
  simp [okP]
  omega

def NewPost (n : Nat) (ps : List (Int × Int)) (w : World) (e : Ending) (w' : World) : Prop :=
  (okPs n ps = true ∧ ∃ bo, e = .returned (.tuple #[.pointer (some ⟨bo, 0, none⟩), .bool true]) ∧ RelAt w' bo (newRows n ps) ∧ Ext w w') ∨ (okPs n ps = false ∧ e = .returned (.tuple #[.pointer none, .bool false]) ∧ Ext w w')

set_option maxRecDepth 100000 in
set_option maxHeartbeats 1000000 in
theorem relNew_any (n : Nat) (hn : n ≤ 64) (A : Option Addr) (c : Nat) (ps : List (Int × Int)) (w : World) (h : PairsAt w w.heap.size A ps) (hl : ps.length ≤ 9223372036854775807) :
    Calls Tryz.prog 36 #[.int .i64 n, .slice A ps.length c] w (NewPost n ps w) := by
  obtain ⟨i0, hi, hz0, hz1, hz2⟩ := info_parts info_u64
  have hn0 : ¬ (n : Int) < 0 := by omega
  have hn1 : ¬ (64 : Int) < n := by omega
  go_enter Tryz.func36, Tryz.ntmps36
  go_wp2_with (at_make; refine wpList_make_full _ rfl _ _ 124 rfl w.heap.size 127 i0 (.int .u64 0) 1 Tryz.underlying124 hi hz0 hz1 _ _ _ _ n rfl rfl rfl rfl ?c1 ?c2 (Nat.le_refl _) ?_)
  case c1 => omega
  case c2 => unfold maxLen; omega
  intro w1 hown hgrow
  have hC0 : CloseRel w w1.heap.size w.heap.size n n (newRows n []) (w1.alloc (.cells #[.slice (some ⟨w.heap.size, 0, none⟩) n n] 126)) := by
    have hlt := (hown.lt w.heap.size rfl).2
    refine ⟨Blk.new _ _ _, ?_, (ext_of_grown hgrow).alloc hgrow.size _, hgrow.size, by omega, by simp [newRows], fun r hr => ?_⟩
    · have := hown.alloc (.cells #[.slice (some ⟨w.heap.size, 0, none⟩) n n] 126)
      simpa [newRows, toList_madeCells_one, u64v] using this
    · simp [newRows] at hr; omega
  have hlen : ps.length < 9223372036854775808 := by omega
  clear hown
  go_wp2
  go_loopw [21] (fun i wr => ∃ k : Nat, k ≤ ps.length ∧ i = .int .i64 k ∧ okPs n (ps.take k) = true ∧ CloseRel w w1.heap.size w.heap.size n n (newRows n (ps.take k)) wr) (fun i _ => ps.length - (intOf i).toNat)
  case atStart => exact ⟨0, Nat.zero_le _, rfl, rfl, hC0⟩
  case round =>
    obtain ⟨k, hk, rfl, hok, hC⟩ := hrel
    by_cases hlt : k < ps.length
    · obtain ⟨b, o, rfl, hb, hcell⟩ := h.cell (by omega)
      have hF := hC.facts
      obtain ⟨f0, f1, f2⟩ := hF
      have hbw : w.heap.size ≤ wr.heap.size := hC.2.2.1.size
      have hbo := hC.1.lt
      have hgl := (hC.2.1.lt w.heap.size rfl).2
      have hp := hcell k hlt
      have hp1 := (hC.2.2.1.cell (p := ⟨b, o + k * 2, none⟩) hb).trans hp.1
      have hp2 := (hC.2.2.1.cell (p := ⟨b, o + k * 2 + 1, none⟩) hb).trans hp.2
      obtain ⟨x, y, hxy⟩ : ∃ x y, ps[k] = (x, y) := ⟨_, _, rfl⟩
      rw [hxy] at hp1 hp2
      have HX := hide hxy
      have HS := hide hC
      have HO := hide hok
      have F1 := hide f1
      have F2 := hide f2
      clear f1 f2 hp hcell hxy hC hok hC0
      have hbad : ∀ o' : Obj, (x < 0 ∨ (n : Int) ≤ x ∨ y < 0 ∨ (n : Int) ≤ y) → NewPost n ps w (.returned (.tuple #[.pointer none, .bool false])) (wr.alloc o') :=
        fun o' h' => .inr ⟨okPs_bad hlt HX.out h', rfl, HS.out.2.2.1.alloc HS.out.2.2.1.size _⟩
      have HB := hide hbad
      clear hbad
      by_cases hx0 : x < 0
      · go_wp2
        go_ret2
        exact HB.out _ (.inl hx0)
      · by_cases hx1 : (n : Int) ≤ x
        · go_wp2
          go_ret2
          exact HB.out _ (.inr (.inl hx1))
        · by_cases hy0 : y < 0
          · go_wp2
            go_ret2
            exact HB.out _ (.inr (.inr (.inl hy0)))
          · by_cases hy1 : (n : Int) ≤ y
            · go_wp2
              go_ret2
              exact HB.out _ (.inr (.inr (.inr hy1)))
            · obtain ⟨x, rfl⟩ := Int.eq_ofNat_of_zero_le (Int.not_lt.1 hx0)
              obtain ⟨y, rfl⟩ := Int.eq_ofNat_of_zero_le (Int.not_lt.1 hy0)
              have f1x := F1.out x (by omega)
              have f2x := F2.out x
              have hrl := lt_getD HS.out.2.2.2.2.2.2 x
              obtain ⟨r, hr⟩ : ∃ r, r = (newRows n (ps.take k)).getD x 0 := ⟨_, rfl⟩
              rw [← hr] at f1x hrl
              have HR := hide hr
              clear hr
              go_wp2
              go_region
              rw [or_shl r y hrl (by omega)]
              go_wp2
              go_roundw
              case rel =>
                refine ⟨k + 1, by omega, by go_num, okPs_step hlt HX.out HO.out ⟨by omega, by omega, by omega, by omega⟩, ?_⟩
                have e : newRows n (ps.take (k + 1)) = (newRows n (ps.take k)).set x (r ||| 1 <<< y) := by
                  rw [newRows_snoc n ps k hlt, HX.out, HR.out]
                  simp [addP]
                rw [e]
                exact (HS.out.store x (r ||| 1 <<< y) (or_lt hrl (by omega))).alloc _
              case measure => simp [intOf]; omega
    · obtain rfl : k = ps.length := by omega
      have HS := hide hC
      have HO := hide hok
      clear hC hok
      go_wp2
      go_ret2
      rw [List.take_length] at HO HS
      obtain ⟨h1, h2, h3, _, _, h6, h7⟩ := HS.out
      refine .inl ⟨HO.out, w1.heap.size, rfl, ⟨some ⟨w.heap.size, 0, none⟩, n, ?_, ?_, ?_, h7⟩, h3⟩
      · rw [newRows_length]; exact h1
      · rw [newRows_length]; exact own_more h2 (Nat.zero_le _)
      · rw [newRows_length]; exact hn

end Go.Proofs.YtpjlhpaenmfieaaGreat
/- The document's function of layer 10: Leads. -/
namespace Go.Proofs.YtpjlhpaenmfieaaGreat
open Go.RowKit

def BoolPost (b : Bool) (w : World) (e : Ending) (w' : World) : Prop := e = .returned (.bool b) ∧ Ext w w'

/-- A value that is a slice of these Bools. -/
def BoolsAt (w : World) (B : Nat) (v : Value) (r : List Bool) : Prop := ∃ A c, v = .slice A r.length c ∧ Reads w B 1 A r.length (r.map Value.bool)
/-- A slice of slices of Bools. -/
def MatAt (w : World) (B : Nat) (A : Option Addr) (M : List (List Bool)) : Prop :=
  ∃ vs : List Value, vs.length = M.length ∧ Reads w B 1 A M.length vs ∧ ∀ (k : Nat) (v : Value) (r : List Bool), vs[k]? = some v → M[k]? = some r → BoolsAt w B v r

theorem BoolsAt.below {w w' : World} {B B' : Nat} {v : Value} {r : List Bool} (h : BoolsAt w B v r) (hb : Below B w w') (hB : B ≤ B') : BoolsAt w' B' v r := by
  obtain ⟨A, c, e, hr⟩ := h
  exact ⟨A, c, e, (hr.keep fun p hp => hb.cell hp).more hB⟩
theorem MatAt.below {w w' : World} {B B' : Nat} {A : Option Addr} {M : List (List Bool)} (h : MatAt w B A M) (hb : Below B w w') (hB : B ≤ B') : MatAt w' B' A M := by
  obtain ⟨vs, h1, h2, h3⟩ := h
  exact ⟨vs, h1, (h2.keep fun p hp => hb.cell hp).more hB, fun k v r hv hr => (h3 k v r hv hr).below hb hB⟩

def natP (ps : List (Int × Int)) : List (Nat × Nat) := ps.map fun p => (p.1.toNat, p.2.toNat)
def leadRow (n : Nat) (ps : List (Int × Int)) (a : Nat) : List Bool := RelM.relaxN (natP ps) (RelM.start n a) n
def leads (n : Nat) (ps : List (Int × Int)) : List (List Bool) := (List.range n).map (leadRow n ps)

theorem info_bool : (Tryz.prog.info? 4).map (fun i => (i.zero, i.size, i.bytes)) = some (some (.bool false), 1, 1) := by kernel_rfl
theorem info_bools : (Tryz.prog.info? 45).map (fun i => (i.zero, i.size, i.bytes)) = some (some (.slice none 0 0), 1, 24) := by kernel_rfl

def OwnBools (base n : Nat) (w : World) (v : Value) (r : List Bool) : Prop := r.length = n ∧ (∃ A c, v = .slice A n c) ∧ w.ownsRow base 4 1 v n (r.map Value.bool)
theorem OwnBools.at_ {base n : Nat} {w : World} {v : Value} {r : List Bool} (h : OwnBools base n w v r) : BoolsAt w w.heap.size v r := by
  obtain ⟨hl, ⟨A, c, rfl⟩, h2⟩ := h
  exact ⟨A, c, by rw [hl], by rw [hl]; exact Reads.of_own h2⟩

/-- What the rows so far are: the outer loop of Leads. -/
def LeadsRel (W : World) (n : Nat) (ps : List (Int × Int)) (a : Nat) (A : Option Addr) (c : Nat) (w : World) : Prop :=
  ∃ vs : List Value, vs.length = a ∧ w.ownsRow W.heap.size 45 1 (.slice A a c) a vs ∧ (∀ (k : Nat) (v : Value), vs[k]? = some v → OwnBools W.heap.size n w v (leadRow n ps k)) ∧ Ext W w

/-- What the row under work is. -/
def RowRel (W0 : World) (n g : Nat) (r : List Bool) (w : World) : Prop :=
  w.ownsRow g 4 1 (.slice (some ⟨g, 0, none⟩) n n) n (r.map Value.bool) ∧ r.length = n ∧ Below g W0 w

theorem RowRel.cell {W0 : World} {n g : Nat} {r : List Bool} {w : World} (h : RowRel W0 n g r w) (x : Nat) (hx : x < n) : w.cell? ⟨g, x, none⟩ = some (.bool (r.getD x false)) := by
  obtain ⟨h1, h2, _⟩ := h
  rw [h1.cellAt x (by omega)]
  simp [List.getD, h2, hx]
theorem RowRel.free {W0 : World} {n g : Nat} {r : List Bool} {w : World} (h : RowRel W0 n g r w) (x : Nat) : w.frozen? ⟨g, x, none⟩ = false := h.1.frozenAt x
theorem RowRel.set {W0 : World} {n g : Nat} {r : List Bool} {w : World} (h : RowRel W0 n g r w) (x : Nat) (t : Bool) : RowRel W0 n g (r.set x t) (w.setCell ⟨g, x, none⟩ (.bool t)) := by
  obtain ⟨h1, h2, h3⟩ := h
  refine ⟨?_, by simp [h2], h3.setCell (Nat.le_refl _) _⟩
  have := (h1.stored x (.bool t)).1
  rwa [← List.map_set] at this

def relaxTo (ps : List (Nat × Nat)) (r : List Bool) (i : Nat) : List Bool := RelM.relax (ps.take i) r
theorem relaxTo_all (ps : List (Nat × Nat)) (r : List Bool) (i : Nat) (h : ps.length ≤ i) : relaxTo ps r i = RelM.relax ps r := by
  unfold relaxTo
  rw [List.take_of_length_le h]
theorem relaxTo_step (ps : List (Nat × Nat)) (r : List Bool) (i x y : Nat) (h : ps[i]? = some (x, y)) :
    relaxTo ps r (i + 1) = if (relaxTo ps r i).getD x false then (relaxTo ps r i).set y true else relaxTo ps r i := by
  unfold relaxTo RelM.relax
  rw [List.take_add_one, h, List.foldl_append]
  rfl
theorem natP_at {ps : List (Int × Int)} {i x y : Nat} (hi : i < ps.length) (h : ps[i] = ((x : Int), (y : Int))) : (natP ps)[i]? = some (x, y) := by
  simp [natP, hi, h]
theorem okPs_at {n : Nat} {ps : List (Int × Int)} (h : okPs n ps = true) (i : Nat) (hi : i < ps.length) : ∃ x y : Nat, ps[i] = ((x : Int), (y : Int)) ∧ x < n ∧ y < n := by
  unfold okPs at h
  rw [List.all_eq_true] at h
  have := h _ (List.getElem_mem hi)
  obtain ⟨x, y, hxy⟩ : ∃ x y, ps[i] = (x, y) := ⟨_, _, rfl⟩
  rw [hxy] at this ⊢
  simp [okP] at this
  obtain ⟨x, rfl⟩ := Int.eq_ofNat_of_zero_le this.1
  obtain ⟨y, rfl⟩ := Int.eq_ofNat_of_zero_le this.2.2.1
  exact ⟨x, y, rfl, by omega, by omega⟩

theorem LeadsRel.next {W : World} {n : Nat} {ps : List (Int × Int)} {a : Nat} {A : Option Addr} {c : Nat} {w w2 w3 : World} {A' : Option Addr} {c' : Nat} {o : Obj} {vs : List Value}
    (hv : vs.length = a) (ho : w.ownsRow W.heap.size 45 1 (.slice A a c) a vs) (hrow : ∀ (k : Nat) (v : Value), vs[k]? = some v → OwnBools W.heap.size n w v (leadRow n ps k)) (hE : Ext W w)
    (hr : RowRel w n w.heap.size (leadRow n ps a) w2)
    (hown : w3.ownsRow W.heap.size 45 1 (.slice A' (a + 1) c') (a + 1) (vs ++ [.slice (some ⟨w.heap.size, 0, none⟩) n n]))
    (hg : (w2.alloc o).grownBy w3 (Value.ownBlock (.slice A a c))) : LeadsRel W n ps (a + 1) A' c' w3 := by
  obtain ⟨r1, r2, r3⟩ := hr
  have hbw : ∀ g, Value.ownBlock (.slice A a c) = some g → W.heap.size ≤ g ∧ g < w.heap.size := fun g h => ho.lt g h
  have hE3 : Ext W w3 := ((Below.trans hE (r3.mono hE.size)).alloc (Nat.le_trans hE.size r3.size) o).grown hg (by have := hE.size; have := r3.size; simp; omega) (fun g h => (hbw g h).1)
  have ho2 : (w2.alloc o).ownsRow W.heap.size 45 1 (.slice A a c) a vs := (own_ext ho r3).alloc o
  refine ⟨_, by simp [hv], hown, fun k v hk => ?_, hE3⟩
  by_cases h : k < a
  · rw [List.getElem?_append_left (by omega)] at hk
    obtain ⟨hl, hs, h2⟩ := hrow k v hk
    have h2' := (own_ext h2 r3).alloc o
    exact ⟨hl, hs, h2'.kept hg (own_ne h2' ho2 (by decide))⟩
  · have hk' : k = a := by
      have := (List.getElem?_eq_some_iff.1 hk).1
      simp [hv] at this
      omega
    subst hk'
    rw [List.getElem?_append_right (by omega)] at hk
    simp [hv] at hk
    subst hk
    have r1' := (own_more r1 hE.size).alloc o
    exact ⟨r2, ⟨_, _, rfl⟩, r1'.kept hg (own_ne r1' ho2 (by decide))⟩

set_option maxRecDepth 100000 in
set_option maxHeartbeats 1000000 in
theorem refLeads_any (n : Nat) (hn : n ≤ 64) (A : Option Addr) (c : Nat) (ps : List (Int × Int)) (w : World) (h : PairsAt w w.heap.size A ps) (hl : ps.length ≤ 9223372036854775807) (hok : okPs n ps = true) :
    Calls Tryz.prog 45 #[.int .i64 n, .slice A ps.length c] w (fun e w' => ∃ A' c', e = .returned (.slice A' (leads n ps).length c') ∧ MatAt w' w'.heap.size A' (leads n ps) ∧ Ext w w') := by
  obtain ⟨i0, hi, hz0, hz1, hz2⟩ := info_parts info_bool
  obtain ⟨j0, gi, gz0, gz1, gz2⟩ := info_parts info_bools
  have HOK := hide hok
  clear hok
  go_enter Tryz.func45, Tryz.ntmps45
  go_wp2
  go_loopw [6, 5] (fun i v wr => ∃ a A c, a ≤ n ∧ i = .int .i64 (a : Nat) ∧ v = .slice A a c ∧ LeadsRel w n ps a A c wr) (fun i _ _ => n - (intOf i).toNat)
  case atStart => exact ⟨0, none, 0, Nat.zero_le _, rfl, rfl, [], rfl, World.ownsRow_nil _ _ _ _, fun k v hv => by simp at hv, Ext.rfl' _⟩
  case round =>
    obtain ⟨a, Ao, co, ha, rfl, rfl, hL⟩ := hrel
    have HL := hide hL
    clear hL
    by_cases hlt : a < n
    · obtain ⟨wo, rfl⟩ : ∃ wo : World, wo = wr := ⟨_, rfl⟩
      go_wp2_with (at_make; refine wpList_make_full _ rfl _ _ 45 rfl wo.heap.size 4 i0 (.bool false) 1 Tryz.underlying45 hi hz0 hz1 _ _ _ _ n rfl rfl rfl rfl ?c1 ?c2 (Nat.le_refl _) ?_)
      case c1 => first | omega | (rw [hz2]; omega)
      case c2 => unfold maxLen; omega
      intro w1 hown hgrow
      have hR0 : RowRel wo n wo.heap.size (List.replicate n false) w1 := ⟨by simpa [toList_madeCells_one] using hown, by simp, ext_of_grown hgrow⟩
      have hc1 := hR0.cell a (by omega)
      have hf1 := hR0.free a
      have HR0 := hide hR0
      clear hR0 hown hgrow
      obtain ⟨g, hg⟩ : ∃ g, g = wo.heap.size := ⟨_, rfl⟩
      rw [← hg] at hc1 hf1 HR0 ⊢
      have HG := hide hg
      clear hg
      go_wp2
      have hR1 : RowRel wo n g (RelM.start n a) (w1.setCell ⟨g, a, none⟩ (.bool true)) := HR0.out.set a true
      obtain ⟨w2, hw2⟩ : ∃ w2, w2 = w1.setCell ⟨g, a, none⟩ (.bool true) := ⟨_, rfl⟩
      rw [← hw2] at hR1 ⊢
      clear hw2 hc1 hf1
      go_loopw [8] (fun i wk => ∃ k : Nat, k ≤ n ∧ i = .int .i64 k ∧ RowRel wo n g (RelM.relaxN (natP ps) (RelM.start n a) k) wk) (fun i _ => n - (intOf i).toNat)
      case atStart => exact ⟨0, Nat.zero_le _, rfl, hR1⟩
      case round =>
        clear hR1
        obtain ⟨k, hk, rfl, hR⟩ := hrel
        have HR := hide hR
        clear hR
        by_cases hkn : k < n
        · go_wp2
          go_loopw [9] (fun i wi => ∃ i' : Nat, i' ≤ ps.length ∧ i = .int .i64 i' ∧ RowRel wo n g (relaxTo (natP ps) (RelM.relaxN (natP ps) (RelM.start n a) k) i') wi) (fun i _ => ps.length - (intOf i).toNat)
          case atStart => exact ⟨0, Nat.zero_le _, rfl, HR.out⟩
          case round =>
            obtain ⟨i, hi', rfl, hR⟩ := hrel
            have HRi := hide hR
            clear hR
            by_cases hin : i < ps.length
            · obtain ⟨b, o, rfl, hb, hcell⟩ := h.cell (by omega)
              have hp := hcell i hin
              have hbg : b < g := by rw [HG.out]; obtain ⟨_, _, _, _, hE⟩ := HL.out; have := hE.size; omega
              have hpw : ∀ q, wr.cell? ⟨b, q, none⟩ = w.cell? ⟨b, q, none⟩ := fun q => by
                obtain ⟨_, _, _, _, hE⟩ := HL.out
                exact (HRi.out.2.2.cell (p := ⟨b, q, none⟩) hbg).trans (hE.cell (p := ⟨b, q, none⟩) hb)
              have hp1 := (hpw _).trans hp.1
              have hp2 := (hpw _).trans hp.2
              obtain ⟨x, y, hxy, hx, hy⟩ := okPs_at HOK.out i hin
              rw [hxy] at hp1 hp2
              have hst := relaxTo_step (natP ps) (RelM.relaxN (natP ps) (RelM.start n a) k) i x y (natP_at hin hxy)
              have hcx := HRi.out.cell x hx
              have hcy := HRi.out.cell y hy
              have hfy := HRi.out.free y
              obtain ⟨r, hr⟩ : ∃ r, r = relaxTo (natP ps) (RelM.relaxN (natP ps) (RelM.start n a) k) i := ⟨_, rfl⟩
              rw [← hr] at HRi hst hcx hcy
              obtain ⟨bx, hbx⟩ : ∃ bx, bx = r.getD x false := ⟨_, rfl⟩
              obtain ⟨by', hby⟩ : ∃ by', by' = r.getD y false := ⟨_, rfl⟩
              rw [← hbx] at hst hcx
              rw [← hby] at hcy
              have HST := hide hst
              clear hpw hp hcell hxy hr hbx hby hst
              cases bx with
              | true =>
                go_wp2
                go_roundw
                case rel => exact ⟨i + 1, by omega, by go_num, by rw [HST.out]; exact HRi.out.set y true⟩
                case measure => simp [intOf]; omega
              | false =>
                go_wp2
                go_roundw
                case rel => exact ⟨i + 1, by omega, by go_num, by rw [HST.out]; exact HRi.out⟩
                case measure => simp [intOf]; omega
            · obtain rfl : i = ps.length := by omega
              go_wp2
              go_roundw
              case rel =>
                refine ⟨k + 1, by omega, by go_num, ?_⟩
                have := HRi.out
                rw [relaxTo_all _ _ _ (by simp [natP])] at this
                exact this
              case measure => simp [intOf]; omega
        · obtain rfl : k = n := by omega
          have hown := HL.out
          obtain ⟨vs, hvs, hown, hrow, hE⟩ := hown
          have HROW := hide hrow
          have HOWN := hide hown
          have HEE := hide hE
          clear hrow
          have hgE : g = wo.heap.size := HG.out
          have hown2 := own_below (w' := wr) hown HR.out.2.2 (fun g' hg' => by rw [hgE]; exact (hown.lt g' hg').2)
          have HO2 := hide hown2
          have hbase : w.heap.size ≤ wr.heap.size := Nat.le_trans hE.size HR.out.2.2.size
          clear hown hown2 hgE hE
          go_wp2_with (at_builtin; refine wpList_append_sl _ rfl _ _ 38 rfl w.heap.size 45 j0 (.slice none 0 0) 1 24 Tryz.underlying38 gi gz0 gz1 gz2 rfl (by decide) _ a vs rfl (HO2.out.alloc _) (wr.heap.size + 1) (some ⟨wr.heap.size, 0, none⟩) 1 1 [.slice (some ⟨g, 0, none⟩) k k] rfl (reads_new _ _ _) ?d0 ?d1 ?d2 ?d3 ?_)
          case d0 => intro u hu; simp at hu; subst hu; rfl
          case d1 => unfold maxLen; omega
          case d2 => omega
          case d3 => simp; omega
          intro A' c' w3 hown3 hgrow3 hat
          rw [HG.out] at hown3
          have hRR := HR.out
          rw [HG.out] at hRR
          have HLN := hide (LeadsRel.next hvs HOWN.out HROW.out HEE.out hRR hown3 hgrow3)
          clear hRR
          clear hown3 hgrow3 hat
          go_wp2
          go_roundw
          case rel => exact ⟨a + 1, A', c', by omega, by go_num, rfl, HLN.out⟩
          case measure => simp [intOf]; omega
    · obtain rfl : a = n := by omega
      go_wp2
      go_ret
      obtain ⟨vs, hvs, hown, hrow, hE⟩ := HL.out
      have el : (leads a ps).length = a := by simp [leads]
      rw [el]
      refine ⟨Ao, co, rfl, ⟨vs, by rw [el]; exact hvs, by rw [el]; exact Reads.of_own hown, fun k v r hv hr => ?_⟩, hE⟩
      have := (hrow k v hv).at_
      simp only [leads, List.getElem?_map, Option.map_eq_some_iff] at hr
      obtain ⟨q, hq, rfl⟩ := hr
      rw [List.getElem?_range] at hq
      · simp at hq; subst hq; exact this
      · have := (List.getElem?_eq_some_iff.1 hv).1; omega
end Go.Proofs.YtpjlhpaenmfieaaGreat
/- The document's functions of layer 10: Loop. -/
namespace Go.Proofs.YtpjlhpaenmfieaaGreat
open Go.RowKit

def mat (M : List (List Bool)) (a b : Nat) : Bool := (M.getD a []).getD b false

theorem MatAt.form {w : World} {B : Nat} {A : Option Addr} {M : List (List Bool)} (h : MatAt w B A M) (hsq : ∀ r ∈ M, r.length = M.length) (hn : 0 < M.length) :
    ∃ b o, A = some ⟨b, o, none⟩ ∧ b < B ∧ ∀ k, k < M.length → ∃ bk ok ck, w.cell? ⟨b, o + k, none⟩ = some (.slice (some ⟨bk, ok, none⟩) M.length ck) ∧ bk < B ∧ ∀ j, j < M.length → w.cell? ⟨bk, ok + j, none⟩ = some (.bool (mat M k j)) := by
  obtain ⟨vs, hv, hr, hb⟩ := h
  obtain ⟨b, o, e, hlt, hc⟩ := hr.form hn (by omega)
  refine ⟨b, o, e, hlt, fun k hk => ?_⟩
  have hk' : k < vs.length := by omega
  obtain ⟨Ak, ck, ev, hrd⟩ := hb k vs[k] M[k] (List.getElem?_eq_getElem hk') (List.getElem?_eq_getElem hk)
  have hl : M[k].length = M.length := hsq _ (List.getElem_mem hk)
  rw [hl] at ev hrd
  obtain ⟨bk, ok, e2, hlt2, hc2⟩ := hrd.form hn (by omega)
  subst e2
  refine ⟨bk, ok, ck, ?_, hlt2, fun j hj => hc2 j _ ?_⟩
  · rw [hc k vs[k] (List.getElem?_eq_getElem hk'), ev]
  · simp [mat, List.getD, hk, hl, hj]

def rowLoop (M : List (List Bool)) (a : Nat) : Bool := (List.range M.length).any fun b => (a != b) && mat M a b && mat M b a
def refLoop (M : List (List Bool)) : Option Nat := (List.range M.length).find? (rowLoop M)
def refLoopI (M : List (List Bool)) : Int := match refLoop M with | some a => a | none => -1

theorem rowLoop_yes {M : List (List Bool)} {a b : Nat} (hb : b < M.length) (hne : a ≠ b) (h1 : mat M a b = true) (h2 : mat M b a = true) : rowLoop M a = true := by
  unfold rowLoop
  rw [List.any_eq_true]
  exact ⟨b, List.mem_range.2 hb, by simp [hne, h1, h2]⟩
theorem rowLoop_no {M : List (List Bool)} {a : Nat} (h : ∀ b, b < M.length → ((a != b) && mat M a b && mat M b a) = false) : rowLoop M a = false := by
  unfold rowLoop
  rw [List.any_eq_false]
  intro b hb
  simpa using h b (List.mem_range.1 hb)

theorem refLoop_some {M : List (List Bool)} {a : Nat} (ha : a < M.length) (h0 : ∀ j, j < a → rowLoop M j = false) (h : rowLoop M a = true) : refLoopI M = a := by
  have : refLoop M = some a := by
    unfold refLoop
    rw [List.find?_range_eq_some]
    exact ⟨h, List.mem_range.2 ha, fun j hj => by simp [h0 j hj]⟩
  simp [refLoopI, this]
theorem refLoop_none {M : List (List Bool)} (h0 : ∀ j, j < M.length → rowLoop M j = false) : refLoopI M = -1 := by
  have : refLoop M = none := by
    unfold refLoop
    rw [List.find?_eq_none]
    intro j hj
    simp [h0 j (List.mem_range.1 hj)]
  simp [refLoopI, this]

theorem below_step {P : Nat → Prop} {k : Nat} (h : ∀ j, j < k → P j) (hk : P k) : ∀ j, j < k + 1 → P j := fun j hj => by
  by_cases e : j = k
  · rw [e]; exact hk
  · exact h j (by omega)

set_option maxRecDepth 100000 in
set_option maxHeartbeats 1000000 in
theorem refLoop_any (A : Option Addr) (c : Nat) (M : List (List Bool)) (w : World) (h : MatAt w w.heap.size A M) (hsq : ∀ r ∈ M, r.length = M.length) (hl : M.length ≤ 64) :
    Calls Tryz.prog 69 #[.slice A M.length c] w (fun e w' => e = .returned (.int .i64 (refLoopI M)) ∧ w = w') := by
  obtain ⟨n, hn⟩ : ∃ n, n = M.length := ⟨_, rfl⟩
  have HF := fun hp => h.form hsq (by rw [← hn]; exact hp)
  rw [← hn] at HF hl ⊢
  have HN := hide hn
  clear hn hsq h
  go_enter Tryz.func69, Tryz.ntmps69
  go_wp2
  go_loop [3] (fun i => ∃ a : Nat, a ≤ n ∧ i = .int .i64 a ∧ ∀ j, j < a → rowLoop M j = false) (fun i => n - (intOf i).toNat)
  case atStart => exact ⟨0, Nat.zero_le _, rfl, fun j hj => absurd hj (by omega)⟩
  case round =>
    obtain ⟨a, ha, rfl, hall⟩ := hrel
    have HA := hide hall
    clear hall
    by_cases hlt : a < n
    · obtain ⟨b0, o0, rfl, _, hrow⟩ := HF (by omega)
      clear HF
      have HROW := hide hrow
      clear hrow
      go_wp2
      go_loop [4] (fun i => ∃ b : Nat, b ≤ n ∧ i = .int .i64 b ∧ ∀ j, j < b → ((a != j) && mat M a j && mat M j a) = false) (fun i => n - (intOf i).toNat)
      case atStart => exact ⟨0, Nat.zero_le _, rfl, fun j hj => absurd hj (by omega)⟩
      case round =>
        obtain ⟨b, hb, rfl, hall⟩ := hrel
        have HB := hide hall
        clear hall
        by_cases hbn : b < n
        · by_cases hab : a = b
          · subst hab
            go_wp2
            go_round
            case rel => exact ⟨a + 1, by omega, by go_num, below_step HB.out (by simp)⟩
            case measure => simp [intOf]; omega
          · have hne : ((a : Int) != (b : Int)) = true := by rw [bne_iff_ne]; omega
            obtain ⟨ba, oa, ca, fa, _, ga⟩ := HROW.out a hlt
            obtain ⟨bb, ob, cb, fb, _, gb⟩ := HROW.out b hbn
            have ga' := ga b hbn
            have gb' := gb a hlt
            obtain ⟨x, hx⟩ : ∃ x, x = mat M a b := ⟨_, rfl⟩
            obtain ⟨y, hy⟩ : ∃ y, y = mat M b a := ⟨_, rfl⟩
            rw [← hx] at ga'
            rw [← hy] at gb'
            have HX := hide hx
            have HY := hide hy
            clear ga gb hx hy
            cases x with
            | false =>
              go_wp2
              go_round
              case rel => exact ⟨b + 1, by omega, by go_num, below_step HB.out (by rw [← HX.out]; simp)⟩
              case measure => simp [intOf]; omega
            | true =>
              cases y with
              | false =>
                go_wp2
                go_round
                case rel => exact ⟨b + 1, by omega, by go_num, below_step HB.out (by rw [← HY.out]; simp)⟩
                case measure => simp [intOf]; omega
              | true =>
                go_wp2
                go_ret
                exact ⟨ret_int (refLoop_some (by rw [← HN.out]; exact hlt) HA.out (rowLoop_yes (by rw [← HN.out]; exact hbn) hab HX.out.symm HY.out.symm)).symm, rfl⟩
        · obtain rfl : b = n := by omega
          go_wp2
          go_round
          case rel => exact ⟨a + 1, by omega, by go_num, below_step HA.out (rowLoop_no (by rw [← HN.out]; exact HB.out))⟩
          case measure => simp [intOf]; omega
    · obtain rfl : a = n := by omega
      go_wp2
      go_ret
      exact ⟨ret_int (refLoop_none (by rw [← HN.out]; exact HA.out)).symm, rfl⟩

end Go.Proofs.YtpjlhpaenmfieaaGreat
/- The methods Loop and Order of package rel. -/
namespace Go.Proofs.YtpjlhpaenmfieaaGreat
open Go.RowKit

theorem RelAt.ext {w w' : World} {b : Nat} {rs : List Nat} (h : RelAt w b rs) (hb : Ext w w') : RelAt w' b rs := by
  obtain ⟨A, c, h1, h2, h3, h4⟩ := h
  exact ⟨A, c, h1.ext hb, own_ext h2 hb, h3, h4⟩

def LoopPost (rs : List Nat) (w : World) (e : Ending) (w' : World) : Prop :=
  e = .returned (.tuple #[.int .i64 ((loopOf (RelM.close rs)).getD 0), .bool (loopOf (RelM.close rs)).isSome]) ∧ Ext w w'

theorem loopOf_some {rs : List Nat} {k : Nat} (hk : k < rs.length) (h0 : ∀ j, j < k → inLoop rs j = false) (h : inLoop rs k = true) : loopOf rs = some k := by
  unfold loopOf
  rw [List.find?_range_eq_some]
  exact ⟨h, List.mem_range.2 hk, fun j hj => by simp [h0 j hj]⟩
theorem loopOf_none {rs : List Nat} (h0 : ∀ j, j < rs.length → inLoop rs j = false) : loopOf rs = none := by
  unfold loopOf
  rw [List.find?_eq_none]
  intro j hj
  simp [h0 j (List.mem_range.1 hj)]

set_option maxRecDepth 100000 in
set_option maxHeartbeats 1000000 in
theorem relLoop_any (b : Nat) (rs : List Nat) (w : World) (h : RelAt w b rs) :
    Calls Tryz.prog 37 #[.pointer (some ⟨b, 0, none⟩)] w (LoopPost rs w) := by
  go_enter Tryz.func37, Tryz.ntmps37
  go_wp2_with fail
  refine (relClose_any b rs _ h).mono ?_
  rintro e w1 ⟨bo, rfl, hR, hE⟩
  obtain ⟨cs, hcs⟩ : ∃ cs, cs = RelM.close rs := ⟨_, rfl⟩
  rw [← hcs] at hR
  have HCS := hide hcs
  clear hcs
  have hl : cs.length ≤ 64 := by obtain ⟨_, _, _, _, h, _⟩ := hR; exact h
  have HR := hide hR
  have HE := hide hE
  clear hR hE h
  go_wp2_with fail
  refine (relLen_any bo cs _ HR.out).mono ?_
  rintro e w' ⟨rfl, rfl⟩
  go_wp2_with fail
  go_loop [10] (fun i => ∃ k : Nat, k ≤ cs.length ∧ i = .int .i64 k ∧ ∀ j, j < k → inLoop cs j = false) (fun i => cs.length - (intOf i).toNat)
  case atStart => exact ⟨0, Nat.zero_le _, rfl, fun j hj => absurd hj (by omega)⟩
  case round =>
    obtain ⟨k, hk, rfl, hall⟩ := hrel
    have HA := hide hall
    clear hall
    by_cases hlt : k < cs.length
    · have hbt := lt_64 (backTo_lt cs k cs.length) hl
      go_wp2_with fail
      refine (relBack_any bo cs _ HR.out k).mono ?_
      rintro e w' ⟨rfl, rfl⟩
      obtain ⟨row, hrow⟩ : ∃ row, row = backTo cs k cs.length := ⟨_, rfl⟩
      rw [← hrow] at hbt ⊢
      have HW := hide hrow
      clear hrow
      go_wp2_with fail
      refine (ones_any row hbt _).mono ?_
      rintro e w' ⟨rfl, rfl⟩
      obtain ⟨m, hm⟩ : ∃ m, m = OnesM.popc row := ⟨_, rfl⟩
      rw [← hm]
      have HM := hide hm
      clear hm
      by_cases hin : 1 < m
      · go_wp2_with fail
        go_ret2
        have hs := loopOf_some hlt HA.out (show inLoop cs k = true by rw [HM.out, HW.out] at hin; simpa [inLoop] using hin)
        refine ⟨?_, HE.out⟩
        rw [← HCS.out, hs]
        rfl
      · go_wp2_with fail
        go_round
        case rel =>
          refine ⟨k + 1, by omega, by go_num, fun j hj => ?_⟩
          by_cases e : j = k
          · rw [e]; rw [HM.out, HW.out] at hin; simpa [inLoop] using hin
          · exact HA.out j (by omega)
        case measure => simp [intOf]; omega
    · obtain rfl : k = cs.length := by omega
      go_wp2_with fail
      go_ret2
      refine ⟨?_, HE.out⟩
      rw [← HCS.out, loopOf_none HA.out]
      rfl


end Go.Proofs.YtpjlhpaenmfieaaGreat
/- Plain laws that join what the code of layer 10 computes with what the document's functions compute. -/
namespace Go.Proofs.YtpjlhpaenmfieaaGreat
open Go.RowKit

theorem addP_bit (rs : List Nat) (x y : Nat) (hx : x < rs.length) (a b : Nat) : RelM.bit (addP rs ((x : Int), (y : Int))) a b = (RelM.bit rs a b || (decide (a = x) && decide (b = y))) := by
  unfold addP
  simp only [Int.toNat_natCast]
  rw [RelM.bit_set _ _ _ _ _ hx]
  by_cases ha : a = x
  · subst ha
    rw [if_pos rfl, Nat.testBit_or, Nat.one_shiftLeft, Nat.testBit_two_pow]
    unfold RelM.bit
    by_cases hb : b = y
    · subst hb; simp
    · simp [hb, Ne.symm hb]
  · simp [ha]

theorem newRows_bit (n : Nat) (ps : List (Int × Int)) (hok : okPs n ps = true) (a b : Nat) : RelM.bit (newRows n ps) a b = true ↔ (a, b) ∈ natP ps := by
  suffices h : ∀ rs : List Nat, rs.length = n → (RelM.bit (ps.foldl addP rs) a b = true ↔ (RelM.bit rs a b = true ∨ (a, b) ∈ natP ps)) by
    have := h (List.replicate n 0) (by simp)
    unfold newRows
    rw [this]
    have h0 : RelM.bit (List.replicate n 0) a b = false := by
      unfold RelM.bit
      simp only [List.getD, List.getElem?_replicate]
      split <;> simp
    simp [h0]
  induction ps with
  | nil => intro rs _; simp [natP]
  | cons p ps ih =>
    intro rs hl
    obtain ⟨x, y, hp, hx, hy⟩ := okPs_at hok 0 (by simp)
    have hp' : p = ((x : Int), (y : Int)) := by simpa using hp
    subst hp'
    have hok' : okPs n ps = true := by
      unfold okPs at hok ⊢
      rw [List.all_cons, Bool.and_eq_true] at hok
      exact hok.2
    rw [List.foldl_cons, ih hok' _ (by simp [addP, hl]), addP_bit rs x y (by omega)]
    simp only [natP, List.map_cons, List.mem_cons, Int.toNat_natCast, Prod.mk.injEq, Bool.or_eq_true, Bool.and_eq_true, decide_eq_true_eq]
    constructor
    · rintro ((h | h) | h)
      · exact .inl h
      · exact .inr (.inl h)
      · exact .inr (.inr h)
    · rintro (h | h | h)
      · exact .inl (.inl h)
      · exact .inl (.inr h)
      · exact .inr h

theorem natP_in {n : Nat} {ps : List (Int × Int)} (hok : okPs n ps = true) : ∀ p ∈ natP ps, p.1 < n ∧ p.2 < n := by
  intro p hp
  obtain ⟨q, hq, rfl⟩ := List.mem_map.1 hp
  obtain ⟨i, hi, rfl⟩ := List.getElem_of_mem hq
  obtain ⟨x, y, e, hx, hy⟩ := okPs_at hok i hi
  rw [e]
  exact ⟨by simpa using hx, by simpa using hy⟩

theorem newRows_in {n : Nat} {ps : List (Int × Int)} (hok : okPs n ps = true) : ∀ a b, RelM.bit (newRows n ps) a b = true → a < n ∧ b < n := fun a b h => natP_in hok _ ((newRows_bit n ps hok a b).1 h)

theorem leads_mat {n : Nat} {ps : List (Int × Int)} (hok : okPs n ps = true) (a b : Nat) (ha : a < n) : mat (leads n ps) a b = true ↔ RelM.Reach (fun x y => (x, y) ∈ natP ps) a b := by
  unfold mat leads
  rw [show ((List.range n).map (leadRow n ps)).getD a [] = leadRow n ps a by simp [List.getD, ha]]
  exact RelM.rounds_reach n (natP ps) (natP_in hok) a ha b

theorem close_mat {n : Nat} {ps : List (Int × Int)} (hok : okPs n ps = true) (a b : Nat) (ha : a < n) : RelM.bit (RelM.close (newRows n ps)) a b = true ↔ RelM.Reach (fun x y => (x, y) ∈ natP ps) a b := by
  have hl := newRows_length n ps
  rw [RelM.close_reach (newRows n ps) (fun x y h => by rw [hl]; exact (newRows_in hok x y h).2) a b (by omega)]
  constructor
  · exact RelM.Reach.mono fun x y h => (newRows_bit n ps hok x y).1 h.2
  · exact RelM.Reach.mono fun x y h => ⟨by rw [hl]; exact (natP_in hok _ h).1, (newRows_bit n ps hok x y).2 h⟩

theorem close_leads {n : Nat} {ps : List (Int × Int)} (hok : okPs n ps = true) (a b : Nat) (ha : a < n) : RelM.bit (RelM.close (newRows n ps)) a b = mat (leads n ps) a b := by
  rw [Bool.eq_iff_iff, close_mat hok a b ha, leads_mat hok a b ha]

theorem hasB_nat (rs : List Nat) (a b : Nat) : hasB rs a b = (decide (a < rs.length ∧ b < rs.length) && RelM.bit rs a b) := by
  unfold hasB RelM.bit
  simp only [Int.toNat_natCast]
  congr 1
  rw [Bool.eq_iff_iff, decide_eq_true_eq, decide_eq_true_eq]
  omega

theorem close_has_mat {n : Nat} {ps : List (Int × Int)} (hok : okPs n ps = true) (a b : Nat) (ha : a < n) (hb : b < n) : hasB (RelM.close (newRows n ps)) a b = mat (leads n ps) a b := by
  rw [hasB_nat, RelM.close_length, newRows_length, close_leads hok a b ha]
  simp [ha, hb]

theorem leads_length (n : Nat) (ps : List (Int × Int)) : (leads n ps).length = n := by simp [leads]
theorem leads_sq (n : Nat) (ps : List (Int × Int)) : ∀ r ∈ leads n ps, r.length = (leads n ps).length := by
  intro r hr
  rw [leads_length]
  obtain ⟨a, _, rfl⟩ := List.mem_map.1 hr
  rw [leadRow, RelM.relaxN_length]
  simp [RelM.start]

/-! ### Loop -/

theorem backTo_bit (rs : List Nat) (a k j : Nat) : (backTo rs a k).testBit j = (decide (j < k) && backB rs a j) := by
  induction k with
  | zero => simp [backTo]
  | succ k ih =>
    simp only [backTo]
    by_cases h : backB rs a k = true
    · rw [if_pos h, Nat.testBit_or, ih, Nat.one_shiftLeft, Nat.testBit_two_pow]
      by_cases e : j = k
      · subst e; simp [h]
      · have : (decide (j < k + 1)) = decide (j < k) := by rw [Bool.eq_iff_iff, decide_eq_true_eq, decide_eq_true_eq]; omega
        simp [this, Ne.symm e]
    · rw [if_neg h, ih]
      by_cases e : j = k
      · subst e; simp [h]
      · have : (decide (j < k + 1)) = decide (j < k) := by rw [Bool.eq_iff_iff, decide_eq_true_eq, decide_eq_true_eq]; omega
        simp [this]

theorem inLoop_iff {n : Nat} {ps : List (Int × Int)} (hn : n ≤ 64) (hok : okPs n ps = true) (a : Nat) (ha : a < n) : inLoop (RelM.close (newRows n ps)) a = rowLoop (leads n ps) a := by
  have hl : (RelM.close (newRows n ps)).length = n := by rw [RelM.close_length, newRows_length]
  have hbk : ∀ j, j < n → backB (RelM.close (newRows n ps)) a j = (mat (leads n ps) a j && mat (leads n ps) j a) := fun j hj => by
    unfold backB
    rw [close_has_mat hok a j ha hj, close_has_mat hok j a hj ha]
  have hrefl : mat (leads n ps) a a = true := (leads_mat hok a a ha).2 (.refl a)
  unfold inLoop
  rw [hl, Bool.eq_iff_iff, decide_eq_true_eq, OnesM.popc_two _ (Nat.lt_of_lt_of_le (backTo_lt _ _ _) (Nat.pow_le_pow_right (by omega) hn))]
  unfold rowLoop
  rw [List.any_eq_true, leads_length]
  constructor
  · rintro ⟨i, j, hij, h1, h2⟩
    rw [backTo_bit] at h1 h2
    simp only [Bool.and_eq_true, decide_eq_true_eq] at h1 h2
    rw [hbk i h1.1, Bool.and_eq_true] at h1
    rw [hbk j h2.1, Bool.and_eq_true] at h2
    by_cases e : a = i
    · exact ⟨j, List.mem_range.2 h2.1, by simp [h2.2]; omega⟩
    · exact ⟨i, List.mem_range.2 h1.1, by simp [h1.2]; omega⟩
  · rintro ⟨b, hb, h⟩
    have hb' := List.mem_range.1 hb
    simp only [Bool.and_eq_true, bne_iff_ne, ne_eq] at h
    have k1 : (backTo (RelM.close (newRows n ps)) a n).testBit a = true := by rw [backTo_bit, hbk a ha]; simp [ha, hrefl]
    have k2 : (backTo (RelM.close (newRows n ps)) a n).testBit b = true := by rw [backTo_bit, hbk b hb']; simp [hb', h.1.2, h.2]
    rcases Nat.lt_trichotomy a b with q | q | q
    · exact ⟨a, b, q, k1, k2⟩
    · exact absurd q h.1.1
    · exact ⟨b, a, q, k2, k1⟩

theorem find_congr {l : List Nat} {p q : Nat → Bool} (h : ∀ i, i ∈ l → p i = q i) : l.find? p = l.find? q := by
  induction l with
  | nil => rfl
  | cons x l ih =>
    rw [List.find?_cons, List.find?_cons, h x (by simp), ih (fun i hi => h i (by simp [hi]))]

theorem loop_eq {n : Nat} {ps : List (Int × Int)} (hn : n ≤ 64) (hok : okPs n ps = true) : loopOf (RelM.close (newRows n ps)) = refLoop (leads n ps) := by
  unfold loopOf refLoop
  rw [RelM.close_length, newRows_length, leads_length]
  exact find_congr fun i hi => inLoop_iff hn hok i (List.mem_range.1 hi)

theorem noloop {n : Nat} {ps : List (Int × Int)} (_hok : okPs n ps = true) (h : refLoop (leads n ps) = none) (a b : Nat) (ha : a < n) (hb : b < n) (hne : a ≠ b) (h1 : mat (leads n ps) a b = true) : mat (leads n ps) b a = false := by
  unfold refLoop at h
  rw [List.find?_eq_none, leads_length] at h
  have := h a (List.mem_range.2 ha)
  cases h2 : mat (leads n ps) b a
  · rfl
  · exact absurd (rowLoop_yes (by rw [leads_length]; exact hb) hne h1 h2) this
end Go.Proofs.YtpjlhpaenmfieaaGreat
