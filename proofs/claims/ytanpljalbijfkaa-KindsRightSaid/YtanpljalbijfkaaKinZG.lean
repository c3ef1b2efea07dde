/- kinds: the document's Wrong for every type. -/
import Derived.Test.YtanpljalbijfkaaKinZD
import Derived.Test.YtanpljalbijfkaaKinZF
namespace Go.Proofs.Ytanpljalbijfkaa
open Go.RowKit

theorem rparts_any (h : TyH) (hk : h.kind = 7 ∨ h.kind = 8) (n : Nat) (p : Nat → PtH) (t : Nat → Ty) (d m : Int) (An Ap : Option Addr) (cn cp : Nat) (w : World) (hP : PartsAt w w.heap.size Ap n p t) (hsz : ∀ i, i < n → (p i).name.1.size ≤ maxLen ∧ WdsSz (p i).label ∧ WdsSz (p i).cl ∧ TySz (t i)) (hsub : ∀ i, i < n → WrgC (t i) (IntKind.i64.wrap (d + 1))) :
    Calls Try.prog 23 #[.agg #[.int .i64 0, .int .i64 0, .int .i64 m], .agg (tyV h An cn Ap n cp).toArray, .int .i64 d] w (fun e w' => e = .returned (wrV (partsF h n p (stepF h.kind n p t (fun i m' => chk (t i) (IntKind.i64.wrap (d + 1)) m')) m)) ∧ Ext w w') := by
  unfold partsF tyV
  rcases hk with k | k
  · rw [k, if_neg (show ¬ ((7 : Int) = 8 ∧ n = 0) from fun hh => by cases hh.1)]
    exact rparts_7 h.at_ h.lo h.hi h.most h.name.2 h.name.1 h.names.length cn cp n An Ap p t d m w hP hsz hsub
  · rw [k]
    simp only [true_and]
    exact rparts_8 h.at_ h.lo h.hi h.most h.name.2 h.name.1 h.names.length cn cp n An Ap p t d m w hP hsz hsub
theorem headR_same : headR' = headR := rfl
theorem refWrong_any (t : Ty) : TySz t → ∀ (d : Int), WrgC t d := by
  induction t with
  | nil => intro h; exact h.elim
  | mk h n p t ih =>
    intro hsz d m w vs hT
    have hTT := id hT
    obtain ⟨An, cn, Ap, cp, hvs, hwd, hpp⟩ := hT.open_
    rw [chk_mk, headF_R, ← headR_same]
    have hsub : ∀ i, i < n → WrgC (t i) (IntKind.i64.wrap (d + 1)) := fun i hi => ih i (hsz.2.2.2 i hi).2.2.2 _
    subst hvs
    refine wrong_abs h.kind h.at_ h.lo h.hi h.most h.name.2 d m _ h.name.1 h.names.length cn n cp An Ap w _ _ _ _ h.names p t rfl hwd rfl hsz.1 rfl hpp (fun i hi => ⟨(hsz.2.2.2 i hi).2.1, (hsz.2.2.2 i hi).2.2.1⟩) ?_ (fun h0 => hsub 0 h0) ?_ ?_ ?_
    · intro k
      rw [kindF_one k]
      rfl
    · intro w1 hE
      exact refOwn_any h n p t w1 _ (hTT.ext hE) hsz
    · intro k w1 hE
      rw [kindF_parts k]
      exact rparts_any h k n p t d _ An Ap cn cp w1 (hpp.ext hE) (fun i hi => hsz.2.2.2 i hi) hsub
    · intro w1
      exact refRight_any h.name.1 w1 hsz.2.1
end Go.Proofs.Ytanpljalbijfkaa
