/- Plain laws on the order of a relation's things. -/
import Derived.Test.YtkfepdejiedjbaaRelN
namespace Go.Proofs.Ytkfepdejiedjbaa
open Go.RowKit

/-- What is known of the things that are taken so far. -/
structure Sim (n : Nat) (E : Nat → Nat → Prop) (out : List Nat) (taken : Nat) (T : List Bool) : Prop where
  len : T.length = n
  bits : ∀ j, j < n → taken.testBit j = T.getD j false
  mem : ∀ j, j < n → (T.getD j false = true ↔ j ∈ out)
  inside : ∀ j, j ∈ out → j < n
  down : ∀ x, x ∈ out → ∀ b, E b x → b = x ∨ b ∈ out
  order : out.Pairwise fun x y => x ≠ y ∧ ¬ E y x

theorem waits_iff {n : Nat} {ps : List (Int × Int)} (hok : okPs n ps = true) (a taken : Nat) (ha : a < n) : waitsB (newRows n ps) a taken = true ↔ ∃ b, b < n ∧ b ≠ a ∧ (b, a) ∈ natP ps ∧ taken.testBit b = false := by
  unfold waitsB
  rw [List.any_eq_true, newRows_length]
  constructor
  · rintro ⟨b, hb, h⟩
    have hb' := List.mem_range.1 hb
    simp only [waitB, Bool.and_eq_true, bne_iff_ne, ne_eq, Bool.not_eq_true', hasB_nat, newRows_length, decide_eq_true_eq] at h
    exact ⟨b, hb', h.1.1, (newRows_bit n ps hok b a).1 h.1.2.2, h.2⟩
  · rintro ⟨b, hb, h1, h2, h3⟩
    refine ⟨b, List.mem_range.2 hb, ?_⟩
    simp only [waitB, Bool.and_eq_true, bne_iff_ne, ne_eq, Bool.not_eq_true', hasB_nat, newRows_length, decide_eq_true_eq]
    exact ⟨⟨h1, ⟨hb, ha⟩, (newRows_bit n ps hok b a).2 h2⟩, h3⟩

theorem free_eq {n : Nat} {ps : List (Int × Int)} (hok : okPs n ps = true) {out : List Nat} {taken : Nat} {T : List Bool} (h : Sim n (fun x y => (x, y) ∈ natP ps) out taken T) (a : Nat) (ha : a < n) :
    free (newRows n ps) taken a = rfree (leads n ps) T a := by
  unfold free rfree
  rw [h.bits a ha, leads_length]
  congr 1
  rw [Bool.eq_iff_iff, Bool.not_eq_true', ← Bool.not_eq_true, waits_iff hok a taken ha, List.all_eq_true]
  constructor
  · intro hw b hb
    have hb' := List.mem_range.1 hb
    simp only [blocks, Bool.not_eq_true', Bool.and_eq_false_iff, bne_eq_false_iff_eq, Bool.not_eq_false']
    by_cases e : b = a
    · exact .inl (.inl e)
    · by_cases hm : mat (leads n ps) b a = true
      · right
        have hr := (leads_mat hok b a hb').1 hm
        have key : ∀ x y, RelM.Reach (fun x y => (x, y) ∈ natP ps) x y → (y = a ∨ y ∈ out) → (x = a ∨ x ∈ out) := by
          intro x y hxy
          induction hxy with
          | refl => exact id
          | @step p q r e1 ih =>
            intro hy
            apply ih
            rcases hy with rfl | hy
            · by_cases ep : p = q
              · exact .inl ep
              · right
                have hp := (natP_in hok _ e1).1
                have ht : taken.testBit p = true := by
                  cases ht : taken.testBit p
                  · exact absurd ⟨p, hp, ep, e1, ht⟩ hw
                  · rfl
                exact (h.mem p hp).1 (by rw [← h.bits p hp]; exact ht)
            · rcases h.down _ hy _ e1 with e' | e'
              · exact .inr (by rw [e']; exact hy)
              · exact .inr e'
        rcases key b a hr (.inl rfl) with e' | e'
        · exact absurd e' e
        · exact (h.mem b hb').2 e'
      · exact .inl (.inr (by simpa using hm))
  · rintro hall ⟨b, hb, h1, h2, h3⟩
    have := hall b (List.mem_range.2 hb)
    simp only [blocks, Bool.not_eq_true', Bool.and_eq_false_iff, bne_eq_false_iff_eq, Bool.not_eq_false'] at this
    rcases this with (q | q) | q
    · exact h1 q
    · have := (leads_mat hok b a hb).2 (.one h2)
      rw [q] at this
      cases this
    · rw [h.bits b hb, q] at h3
      cases h3

theorem pick_eq {n : Nat} {ps : List (Int × Int)} (hok : okPs n ps = true) {out : List Nat} {taken : Nat} {T : List Bool} (h : Sim n (fun x y => (x, y) ∈ natP ps) out taken T) :
    pick (newRows n ps) taken = rpick (leads n ps) T := by
  unfold pick rpick
  rw [newRows_length, leads_length]
  exact find_congr fun i hi => free_eq hok h i (List.mem_range.1 hi)

theorem Sim.take {n : Nat} {ps : List (Int × Int)} (hok : okPs n ps = true) {out : List Nat} {taken : Nat} {T : List Bool} (h : Sim n (fun x y => (x, y) ∈ natP ps) out taken T) {a : Nat} (hp : pick (newRows n ps) taken = some a) :
    Sim n (fun x y => (x, y) ∈ natP ps) (out ++ [a]) (taken ||| 1 <<< a) (T.set a true) ∧ a < n ∧ T.getD a false = false := by
  unfold pick at hp
  rw [List.find?_range_eq_some, newRows_length] at hp
  obtain ⟨hf, ha, _⟩ := hp
  have ha := List.mem_range.1 ha
  unfold free at hf
  simp only [Bool.and_eq_true, Bool.not_eq_true'] at hf
  obtain ⟨hta, hwa⟩ := hf
  have hTa : T.getD a false = false := by rw [← h.bits a ha]; exact hta
  have hnot : a ∉ out := fun hm => by have := (h.mem a ha).2 hm; rw [hTa] at this; cases this
  have hpred : ∀ b, (b, a) ∈ natP ps → b = a ∨ b ∈ out := fun b hb => by
    by_cases e : b = a
    · exact .inl e
    · right
      have hbn := (natP_in hok _ hb).1
      have ht : taken.testBit b = true := by
        cases ht : taken.testBit b
        · have := (waits_iff hok a taken ha).2 ⟨b, hbn, e, hb, ht⟩
          rw [hwa] at this; cases this
        · rfl
      exact (h.mem b hbn).1 (by rw [← h.bits b hbn]; exact ht)
  refine ⟨⟨by simp [h.len], fun j hj => ?_, fun j hj => ?_, fun j hj => ?_, fun x hx b hb => ?_, ?_⟩, ha, hTa⟩
  · rw [Nat.testBit_or, Nat.one_shiftLeft, Nat.testBit_two_pow, h.bits j hj, RelM.getD_set, h.len]
    simp [ha, eq_comm]
  · rw [RelM.getD_set, h.len, List.mem_append, List.mem_singleton, ← h.mem j hj]
    simp [ha]
  · rcases List.mem_append.1 hj with hj | hj
    · exact h.inside j hj
    · rw [List.mem_singleton.1 hj]; exact ha
  · rcases List.mem_append.1 hx with hx | hx
    · rcases h.down x hx b hb with e | e
      · exact .inl e
      · exact .inr (List.mem_append_left _ e)
    · have hx := List.mem_singleton.1 hx
      subst hx
      rcases hpred b hb with e | e
      · exact .inl e
      · exact .inr (List.mem_append_left _ e)
  · rw [List.pairwise_append]
    refine ⟨h.order, List.pairwise_singleton _ _, fun x hx y hy => ?_⟩
    have hy := List.mem_singleton.1 hy
    subst hy
    refine ⟨fun e => hnot (by rw [← e]; exact hx), fun e => ?_⟩
    rcases h.down x hx _ e with e' | e'
    · exact hnot (by rw [e']; exact hx)
    · exact hnot e'

theorem go_eq {n : Nat} {ps : List (Int × Int)} (hok : okPs n ps = true) (f : Nat) : ∀ (out : List Nat) (taken : Nat) (T : List Bool), Sim n (fun x y => (x, y) ∈ natP ps) out taken T →
    orderGo (newRows n ps) f out taken = refGo (leads n ps) f out T ∧ ∃ taken' T', Sim n (fun x y => (x, y) ∈ natP ps) (orderGo (newRows n ps) f out taken) taken' T' := by
  induction f with
  | zero => intro out taken T h; exact ⟨rfl, taken, T, h⟩
  | succ f ih =>
    intro out taken T h
    have hpe := pick_eq hok h
    rcases hp : pick (newRows n ps) taken with _ | a
    · rw [orderGo_none hp, refGo_none (by rw [← hpe]; exact hp)]
      exact ⟨rfl, taken, T, h⟩
    · rw [orderGo_some hp, refGo_some (by rw [← hpe]; exact hp)]
      exact ih _ _ _ (h.take hok hp).1

theorem Sim.start (n : Nat) (E : Nat → Nat → Prop) : Sim n E [] 0 (List.replicate n false) := by
  refine ⟨by simp, fun j hj => ?_, fun j hj => ?_, fun j hj => (by cases hj), fun x hx => (by cases hx), List.Pairwise.nil⟩
  · simp [List.getD, hj]
  · simp [List.getD, hj]

theorem order_eq {n : Nat} {ps : List (Int × Int)} (hok : okPs n ps = true) : orderOf (newRows n ps) = refOrder (leads n ps) := by
  unfold orderOf refOrder
  rw [newRows_length, leads_length]
  exact (go_eq hok n [] 0 _ (Sim.start n _)).1

theorem order_sim {n : Nat} {ps : List (Int × Int)} (hok : okPs n ps = true) : ∃ taken T, Sim n (fun x y => (x, y) ∈ natP ps) (orderOf (newRows n ps)) taken T := by
  unfold orderOf
  rw [newRows_length]
  exact (go_eq hok n [] 0 _ (Sim.start n _)).2

/-! ### Of things without a loop all are taken -/

theorem noloop {n : Nat} {ps : List (Int × Int)} (_hok : okPs n ps = true) (h : refLoop (leads n ps) = none) (a b : Nat) (ha : a < n) (hb : b < n) (hne : a ≠ b) (h1 : mat (leads n ps) a b = true) : mat (leads n ps) b a = false := by
  unfold refLoop at h
  rw [List.find?_eq_none, leads_length] at h
  have := h a (List.mem_range.2 ha)
  cases h2 : mat (leads n ps) b a
  · rfl
  · exact absurd (rowLoop_yes (by rw [leads_length]; exact hb) hne h1 h2) this

def below (M : List (List Bool)) (a : Nat) : Nat := (List.range M.length).countP fun x => mat M x a

theorem below_lt {n : Nat} {ps : List (Int × Int)} (hok : okPs n ps = true) (h : refLoop (leads n ps) = none) (a b : Nat) (ha : a < n) (hb : b < n) (hne : b ≠ a) (h1 : mat (leads n ps) b a = true) :
    below (leads n ps) b < below (leads n ps) a := by
  unfold below
  rw [leads_length]
  have hba := noloop hok h b a hb ha hne h1
  have haa : mat (leads n ps) a a = true := (leads_mat hok a a ha).2 (.refl a)
  have himp : ∀ x, x < n → mat (leads n ps) x b = true → mat (leads n ps) x a = true := fun x hx hxb =>
    (leads_mat hok x a hx).2 (((leads_mat hok x b hx).1 hxb).trans ((leads_mat hok b a hb).1 h1))
  clear h h1
  have gen : ∀ k, k ≤ n → (k ≤ a → (List.range k).countP (fun x => mat (leads n ps) x b) ≤ (List.range k).countP (fun x => mat (leads n ps) x a)) ∧
      (a < k → (List.range k).countP (fun x => mat (leads n ps) x b) + 1 ≤ (List.range k).countP (fun x => mat (leads n ps) x a)) := by
    intro k
    induction k with
    | zero => intro _; simp
    | succ k ih =>
      intro hk
      obtain ⟨i1, i2⟩ := ih (by omega)
      rw [List.range_succ, List.countP_append, List.countP_append]
      simp only [List.countP_cons, List.countP_nil]
      by_cases e : a = k
      · subst e
        have := i1 (Nat.le_refl _)
        simp only [hba, haa]
        simp
        omega
      · have hi := himp k (by omega)
        cases hx : mat (leads n ps) k b
        · simp only [Bool.false_eq_true, if_false, Nat.add_zero]
          constructor
          · intro h'; have := i1 (by omega); omega
          · intro h'; have := i2 (by omega); omega
        · rw [hi hx]
          simp only [if_true]
          constructor
          · intro h'; have := i1 (by omega); omega
          · intro h'; have := i2 (by omega); omega
  exact (gen n (Nat.le_refl _)).2 ha

theorem some_free {n : Nat} {ps : List (Int × Int)} (hok : okPs n ps = true) (h : refLoop (leads n ps) = none) (T : List Bool) (a : Nat) (ha : a < n) (hT : T.getD a false = false) : ∃ b, rpick (leads n ps) T = some b := by
  have key : ∀ m a, below (leads n ps) a = m → a < n → T.getD a false = false → ∃ b, b < n ∧ rfree (leads n ps) T b = true := by
    intro m
    induction m using Nat.strongRecOn with
    | _ m ih =>
      intro a hm ha hT
      by_cases hf : rfree (leads n ps) T a = true
      · exact ⟨a, ha, hf⟩
      · have : ∃ b, b < n ∧ blocks (leads n ps) T a b = true := by
          rcases Classical.em (∃ b, b < n ∧ blocks (leads n ps) T a b = true) with q | q
          · exact q
          · exfalso
            apply hf
            unfold rfree
            rw [hT, leads_length, Bool.not_false, Bool.true_and, List.all_eq_true]
            intro b hb
            rw [Bool.not_eq_true', ← Bool.not_eq_true]
            exact fun hbl => q ⟨b, List.mem_range.1 hb, hbl⟩
        obtain ⟨b, hb, hbl⟩ := this
        simp only [blocks, Bool.and_eq_true, bne_iff_ne, ne_eq, Bool.not_eq_true'] at hbl
        exact ih _ (by rw [← hm]; exact below_lt hok h a b ha hb hbl.1.1 hbl.1.2) b rfl hb hbl.2
  obtain ⟨b, hb, hf⟩ := key _ a rfl ha hT
  rcases hp : rpick (leads n ps) T with _ | c
  · unfold rpick at hp
    rw [List.find?_eq_none, leads_length] at hp
    exact absurd hf (hp b (List.mem_range.2 hb))
  · exact ⟨c, rfl⟩

theorem full_length {n : Nat} {ps : List (Int × Int)} (hok : okPs n ps = true) (h : refLoop (leads n ps) = none) (f : Nat) : ∀ (out : List Nat) (taken : Nat) (T : List Bool), Sim n (fun x y => (x, y) ∈ natP ps) out taken T →
    T.countP (fun t => !t) = f → (orderGo (newRows n ps) f out taken).length = out.length + f := by
  induction f with
  | zero => intro out taken T hs hf; simp [orderGo]
  | succ f ih =>
    intro out taken T hs hf
    have hex : ∃ a, a < n ∧ T.getD a false = false := by
      have : 0 < T.countP (fun t => !t) := by omega
      rw [List.countP_pos_iff] at this
      obtain ⟨t, ht, hb⟩ := this
      obtain ⟨a, ha, rfl⟩ := List.getElem_of_mem ht
      exact ⟨a, by rw [← hs.len]; exact ha, by simpa [List.getD, ha] using hb⟩
    obtain ⟨a, ha, hT⟩ := hex
    obtain ⟨b, hb⟩ := some_free hok h T a ha hT
    have hp : pick (newRows n ps) taken = some b := by rw [pick_eq hok hs]; exact hb
    obtain ⟨hs', hbn, hTb⟩ := hs.take hok hp
    have hcnt : (T.set b true).countP (fun t => !t) = f := by
      have hbl : b < T.length := by rw [hs.len]; exact hbn
      have hTb' : T[b] = false := by simpa [List.getD, hbl] using hTb
      rw [List.countP_set hbl]
      simp [hTb']
      omega
    rw [orderGo_some hp, ih _ _ _ hs' hcnt]
    simp
    omega

theorem order_full {n : Nat} {ps : List (Int × Int)} (hok : okPs n ps = true) (h : refLoop (leads n ps) = none) : (orderOf (newRows n ps)).length = n := by
  unfold orderOf
  rw [newRows_length, full_length hok h n [] 0 _ (Sim.start n _) (by rw [List.countP_replicate]; simp)]
  simp

end Go.Proofs.Ytkfepdejiedjbaa
