/- Joins and meets, plain: the laws of a lattice; top, bottom. No program is named here. -/
import Derived.Test.YtpjlhpaenmfieaaLatM
namespace Go.Proofs.Ytpjlhpaenmfieaa.LatM

theorem Lat.turn {n : Nat} {M : Nat → Nat → Bool} (h : Lat n M) : Lat n (fun a b => M b a) := ⟨h.po.turn, h.some, h.meet, h.join⟩

/-- The join, as a number. -/
def jn (n : Nat) (M : Nat → Nat → Bool) (a b : Nat) : Nat := (joinL n M a b).toNat
theorem jn_eq {n : Nat} {M : Nat → Nat → Bool} (h : Lat n M) {a b : Nat} (ha : a < n) (hb : b < n) : joinL n M a b = jn n M a b ∧ jn n M a b < n := by
  obtain ⟨j, hj, e⟩ := h.join a b ha hb
  unfold jn
  rw [e]
  exact ⟨rfl, hj⟩
theorem jn_iff {n : Nat} {M : Nat → Nat → Bool} (h : Lat n M) {a b c : Nat} (ha : a < n) (hb : b < n) (hc : c < n) : M (jn n M a b) c = true ↔ M a c = true ∧ M b c = true := by
  obtain ⟨e, hj⟩ := jn_eq h ha hb
  exact (joinL_iff h.po ha hb hj).1 e c hc
theorem eq_of_above {n : Nat} {M : Nat → Nat → Bool} (h : Po n M) {x y : Nat} (hx : x < n) (hy : y < n) (e : ∀ c, c < n → (M x c = true ↔ M y c = true)) : x = y :=
  h.anti x y hx hy ((e y hy).2 (h.refl y hy)) ((e x hx).1 (h.refl x hx))
theorem jn_comm (n : Nat) (M : Nat → Nat → Bool) (a b : Nat) : jn n M a b = jn n M b a := by unfold jn; rw [joinL_comm]
theorem jn_left {n : Nat} {M : Nat → Nat → Bool} (h : Lat n M) {a b : Nat} (ha : a < n) (hb : b < n) : M a (jn n M a b) = true ∧ M b (jn n M a b) = true :=
  have hj := (jn_eq h ha hb).2
  (jn_iff h ha hb hj).1 (h.po.refl _ hj)
theorem jn_assoc {n : Nat} {M : Nat → Nat → Bool} (h : Lat n M) {a b c : Nat} (ha : a < n) (hb : b < n) (hc : c < n) : jn n M (jn n M a b) c = jn n M a (jn n M b c) := by
  have h1 := (jn_eq h ha hb).2
  have h2 := (jn_eq h hb hc).2
  refine eq_of_above h.po (jn_eq h h1 hc).2 (jn_eq h ha h2).2 fun d hd => ?_
  rw [jn_iff h h1 hc hd, jn_iff h ha hb hd, jn_iff h ha h2 hd, jn_iff h hb hc hd, and_assoc]
/-- A join with what is at most one. -/
theorem jn_absorb {n : Nat} {M : Nat → Nat → Bool} (h : Lat n M) {a m : Nat} (ha : a < n) (hm : m < n) (e : M m a = true) : jn n M a m = a := by
  refine eq_of_above h.po (jn_eq h ha hm).2 ha fun d hd => ?_
  rw [jn_iff h ha hm hd]
  exact ⟨fun x => x.1, fun x => ⟨x, h.po.trans m a d hm ha hd e x⟩⟩
theorem jn_le {n : Nat} {M : Nat → Nat → Bool} (h : Lat n M) {a b : Nat} (ha : a < n) (hb : b < n) : jn n M a b = b ↔ M a b = true := by
  constructor
  · intro e
    have := (jn_left h ha hb).1
    rwa [e] at this
  · intro e
    rw [jn_comm]; exact jn_absorb h hb ha e

/-- The top of the first levels. -/
def topTo (n : Nat) (M : Nat → Nat → Bool) : Nat → Nat
  | 0 => 0
  | k + 1 => jn n M (topTo n M k) k
theorem topTo_facts {n : Nat} {M : Nat → Nat → Bool} (h : Lat n M) (k : Nat) (hk : k ≤ n) : topTo n M k < n ∧ ∀ a, a < k → M a (topTo n M k) = true := by
  induction k with
  | zero => exact ⟨h.some, fun a ha => by omega⟩
  | succ k ih =>
    obtain ⟨h1, h2⟩ := ih (by omega)
    have h3 := (jn_eq h h1 (show k < n by omega)).2
    obtain ⟨h4, h5⟩ := jn_left h h1 (show k < n by omega)
    refine ⟨h3, fun a ha => ?_⟩
    by_cases e : a = k
    · subst e; exact h5
    · exact h.po.trans a _ _ (by omega) h1 h3 (h2 a (by omega)) h4
def topN (n : Nat) (M : Nat → Nat → Bool) : Nat := topTo n M n
theorem topN_lt {n : Nat} {M : Nat → Nat → Bool} (h : Lat n M) : topN n M < n := (topTo_facts h n (Nat.le_refl _)).1
theorem topN_top {n : Nat} {M : Nat → Nat → Bool} (h : Lat n M) {a : Nat} (ha : a < n) : M a (topN n M) = true := (topTo_facts h n (Nat.le_refl _)).2 a ha

/-- The laws that LatticeUndoes asks. -/
theorem undoes {n : Nat} {M : Nat → Nat → Bool} (h : Lat n M) {a b c : Nat} (ha : a < n) (hb : b < n) (hc : c < n) :
    jn n M a (jn n (fun x y => M y x) a b) = a ∧ jn n (fun x y => M y x) a (jn n M a b) = a ∧
    M a b = decide (jn n M a b = b) ∧ M a b = decide (jn n (fun x y => M y x) a b = a) ∧
    M (jn n M a b) c = (M a c && M b c) ∧ M c (jn n (fun x y => M y x) a b) = (M c a && M c b) ∧
    jn n M (topN n (fun x y => M y x)) a = a ∧ jn n (fun x y => M y x) (topN n M) a = a := by
  have ht := h.turn
  have hj := (jn_eq h ha hb).2
  have hm := (jn_eq ht ha hb).2
  refine ⟨jn_absorb h ha hm (jn_left ht ha hb).1, jn_absorb ht ha hj (jn_left h ha hb).1, ?_, ?_, ?_, ?_, ?_, ?_⟩
  · rw [Bool.eq_iff_iff, decide_eq_true_eq, jn_le h ha hb]
  · rw [Bool.eq_iff_iff, decide_eq_true_eq, jn_comm, jn_le ht hb ha]
  · rw [Bool.eq_iff_iff, Bool.and_eq_true, jn_iff h ha hb hc]
  · rw [Bool.eq_iff_iff, Bool.and_eq_true]; exact jn_iff ht ha hb hc
  · exact (jn_le h (topN_lt ht) ha).2 (topN_top ht ha)
  · exact (jn_le ht (topN_lt h) ha).2 (topN_top h ha)
end Go.Proofs.Ytpjlhpaenmfieaa.LatM
