/- How many runes a set has, plain: counted over all runes. -/
import Derived.Test.YtkfepdejiedjbaaRngA
namespace Go.Proofs.Ytkfepdejiedjbaa
open Go.RowKit

/-- Of how many runes f holds. -/
def cardF (f : Int → Bool) : Int := ((List.range 1114112).countP fun (r : Nat) => f (r : Int) : Nat)

theorem countP_or {α : Type} (l : List α) (p q : α → Bool) (h : ∀ a ∈ l, ¬ (p a = true ∧ q a = true)) : l.countP (fun a => p a || q a) = l.countP p + l.countP q := by
  induction l with
  | nil => rfl
  | cons a l ih =>
    have := ih fun b hb => h b (by simp [hb])
    have ha := h a (by simp)
    simp only [List.countP_cons, this]
    cases hp : p a <;> cases hq : q a <;> simp_all <;> omega

theorem countP_span (n a b : Nat) (h : a ≤ b + 1) (hb : b < n) : (List.range n).countP (fun (r : Nat) => decide ((a : Int) ≤ (r : Int) ∧ (r : Int) ≤ (b : Int))) = b + 1 - a := by
  have key : ∀ m, (List.range m).countP (fun (r : Nat) => decide ((a : Int) ≤ (r : Int) ∧ (r : Int) ≤ (b : Int))) = min m (b + 1) - a := by
    intro m
    induction m with
    | zero => simp
    | succ m ih =>
      rw [List.range_succ, List.countP_append, ih]
      simp only [List.countP_cons, List.countP_nil, Nat.zero_add, decide_eq_true_eq]
      split <;> omega
  rw [key]
  omega

theorem cntL_card {l : List (Int × Int)} {lo : Int} (h0 : 0 ≤ lo) (h : canonFrom lo l) : cntL l = cardF (inT l) := by
  induction l generalizing lo with
  | nil =>
    unfold cardF
    have : (List.range 1114112).countP (fun (r : Nat) => inT [] (r : Int)) = 0 := by
      rw [List.countP_eq_zero]
      intro a _
      simp [inT]
    rw [this]; rfl
  | cons p l ih =>
    obtain ⟨h1, h2, h3, h4⟩ := h
    have hi := ih (by omega) h4
    unfold cntL
    rw [hi]
    unfold cardF
    have hp1 : (0 : Int) ≤ p.1 := by omega
    obtain ⟨a, ha⟩ := Int.eq_ofNat_of_zero_le hp1
    obtain ⟨b, hb⟩ := Int.eq_ofNat_of_zero_le (show (0 : Int) ≤ p.2 by omega)
    have e : (fun r : Nat => inT (p :: l) (r : Int)) = fun r : Nat => (decide ((a : Int) ≤ (r : Int) ∧ (r : Int) ≤ (b : Int)) || inT l (r : Int)) := by
      funext r
      rw [inT_cons, ha, hb]
    rw [e, countP_or _ (fun r : Nat => decide ((a : Int) ≤ (r : Int) ∧ (r : Int) ≤ (b : Int))) (fun r : Nat => inT l (r : Int)) (fun r _ hh => by
      obtain ⟨d1, d2⟩ := hh
      have := (canonFrom_in h4 d2).1
      rw [decide_eq_true_eq] at d1
      omega), countP_span 1114112 a b (by omega) (by omega)]
    omega

theorem cardF_le (f : Int → Bool) : 0 ≤ cardF f ∧ cardF f ≤ 1114112 := by
  unfold cardF
  have := List.countP_le_length (p := fun r : Nat => f (r : Int)) (l := List.range 1114112)
  rw [List.length_range] at this
  omega
theorem cardF_split (f g : Int → Bool) : cardF (fun r => f r && !g r) + cardF (fun r => f r && g r) = cardF f := by
  show (((List.range 1114112).countP fun (r : Nat) => f (r : Int) && !g (r : Int) : Nat) : Int) + (((List.range 1114112).countP fun (r : Nat) => f (r : Int) && g (r : Int) : Nat) : Int) = (((List.range 1114112).countP fun (r : Nat) => f (r : Int) : Nat) : Int)
  have e : (fun r : Nat => f (r : Int)) = fun r : Nat => ((f (r : Int) && !g (r : Int)) || (f (r : Int) && g (r : Int))) := by
    funext r
    cases f (r : Int) <;> cases g (r : Int) <;> rfl
  rw [e, countP_or _ (fun r : Nat => f (r : Int) && !g (r : Int)) (fun r : Nat => f (r : Int) && g (r : Int)) (fun r _ hh => by
    obtain ⟨d1, d2⟩ := hh
    cases hf : f (r : Int) <;> cases hg : g (r : Int) <;> simp_all)]
  omega
theorem cardF_none (f : Int → Bool) : cardF (fun r => f r && !f r) = 0 := by
  show (((List.range 1114112).countP fun (r : Nat) => f (r : Int) && !f (r : Int) : Nat) : Int) = 0
  have : (List.range 1114112).countP (fun (r : Nat) => f (r : Int) && !f (r : Int)) = 0 := by
    rw [List.countP_eq_zero]
    intro a _
    simp
  rw [this]; rfl
end Go.Proofs.Ytkfepdejiedjbaa
