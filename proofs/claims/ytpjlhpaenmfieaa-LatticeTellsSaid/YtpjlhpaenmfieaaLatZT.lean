/- The law LatticeTells, walked: the part behind the guards. -/
import Derived.Test.YtpjlhpaenmfieaaLatX
import Derived.Deep.RegionHeld3
namespace Go.Proofs.Ytpjlhpaenmfieaa
open Go.RowKit

/-- Behind a call the condition on the world may be made stronger. -/
theorem wpAnyH_more {P : Program} {md : Region.Mode} {ops : Array Oper} {Q : Exit → Act → World → Prop} {S S' : World → Prop} (h : ∀ w, S' w → S w) :
    ∀ {fuel : Nat} {listed : Array Bool} {a : Act} {w : World}, wpAnyH P md ops Q S' fuel listed a w → wpAnyH P md ops Q S fuel listed a w
  | 0, _, _, _, hw => hw
  | _ + 1, _, _, _, hw => ⟨hw.1, fun i hi => wpOp_mono (fun _ _ h' => ⟨h _ h'.1, wpAnyH_more h h'.2⟩) (hw.2 i hi)⟩

theorem findR_eq (l : List ByteArray) (s : ByteArray) : ∃ (i : Int) (b : Bool), findR l s = .tuple #[.int .i64 i, .bool b] ∧ ((i = 0 ∧ b = false ∧ findL l s = -1) ∨ ∃ k : Nat, i = k ∧ b = true ∧ findL l s = k) := by
  refine ⟨_, _, rfl, ?_⟩
  unfold findL
  cases l.findIdx? (fun x => decide (x = s)) with
  | none => exact .inl ⟨rfl, rfl, rfl⟩
  | some i =>
    refine .inr ⟨i, ?_, ?_, rfl⟩
    · dsimp only
      rw [if_neg (by omega)]
    · simp
theorem wrong_zero {ws : List Wd} {os : List (Wd × Wd)} (h : (wrongL ws os).1 = 0) : wrongL ws os = (0, 0) := by
  have hg := good_of h
  have h1 : ¬ ws.length = 0 := by have := hg.pos; omega
  have h2 : ¬ 32 < ws.length := by have := hg.few; omega
  have h3 : ¬ 256 < os.length := by have := hg.fewO; omega
  have h4 := firstOf_miss.2 hg.named
  have h5 := firstOf_miss.2 hg.found
  unfold wrongL at h ⊢
  rw [if_neg h1, if_neg h2, if_neg h3, h4] at h ⊢
  dsimp only at h ⊢
  rw [h5] at h ⊢
  dsimp only at h ⊢
  unfold loopBad at h ⊢
  cases h6 : refLoop (leads ws.length (prs ws os)) with
  | some a => rw [h6] at h; cases h
  | none =>
    rw [h6] at h
    dsimp only at h ⊢
    unfold boundBad at h ⊢
    by_cases c : LatM.boundsL ws.length (leqL ws os) < 0
    · rw [if_pos c]
    · rw [if_neg c] at h; cases h
theorem leqI_nat {ws : List Wd} {os : List (Wd × Wd)} {a b : Nat} (ha : a < ws.length) (hb : b < ws.length) : leqI ws os a b = leqL ws os a b := by
  unfold leqI
  rw [hasI_nat ha, hasI_nat hb, Int.toNat_natCast, Int.toNat_natCast, Bool.true_and, Bool.true_and]
theorem seesTo_hit {ws : List Wd} {os : List (Wd × Wd)} {a : Int} {k n : Nat} (hk : k < n) (h : leqI ws os (k : Int) a = true) : (seesTo ws os a k).length < (seesTo ws os a n).length ∧ (seesTo ws os a n)[(seesTo ws os a k).length]? = some k := by
  obtain ⟨d, rfl⟩ : ∃ d, n = k + 1 + d := ⟨n - (k + 1), by omega⟩
  have e : ∃ r, seesTo ws os a (k + 1 + d) = seesTo ws os a k ++ k :: r := by
    clear hk
    induction d with
    | zero => exact ⟨[], by rw [Nat.add_zero, seesTo_yes h]⟩
    | succ d ih =>
      obtain ⟨r, hr⟩ := ih
      cases hx : leqI ws os ((k + 1 + d : Nat) : Int) a with
      | true => exact ⟨r ++ [k + 1 + d], by rw [show k + 1 + (d + 1) = k + 1 + d + 1 by omega, seesTo_yes hx, hr]; simp⟩
      | false => exact ⟨r, by rw [show k + 1 + (d + 1) = k + 1 + d + 1 by omega, seesTo_no hx, hr]⟩
  obtain ⟨r, hr⟩ := e
  rw [hr]
  exact ⟨by simp, by simp⟩
end Go.Proofs.Ytpjlhpaenmfieaa
