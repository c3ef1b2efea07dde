/- solve, plain: what no fault means; what is at most what, of numbers of levels. -/
import Derived.Test.YtpjlhpaenmfieaaGreatSolAll
import Derived.Test.YtpjlhpaenmfieaaGreatLatU
namespace Go.Proofs.YtpjlhpaenmfieaaGreat
open Go.RowKit

theorem wrong_ok {ws : List Wd} {os : List (Wd × Wd)} (h : (wrongL ws os).1 = 0) : wrongL ws os = (0, 0) := by
  have hg := good_of h
  have h1 : ¬ ws.length = 0 := by have := hg.pos; omega
  have h2 : ¬ 32 < ws.length := by have := hg.few; omega
  have h3 : ¬ 256 < os.length := by have := hg.fewO; omega
  have h4 := firstOf_miss.2 hg.named
  have h5 := firstOf_miss.2 hg.found
  unfold wrongL at h ⊢
  rw [if_neg h1, if_neg h2, if_neg h3, h4] at h ⊢
  dsimp only at h ⊢
  rw [h5] at h ⊢
  dsimp only at h ⊢
  unfold loopBad at h ⊢
  cases h6 : refLoop (leads ws.length (prs ws os)) with
  | some a => rw [h6] at h; cases h
  | none =>
    rw [h6] at h
    dsimp only at h ⊢
    unfold boundBad at h ⊢
    by_cases c : LatM.boundsL ws.length (leqL ws os) < 0
    · rw [if_pos c]
    · rw [if_neg c] at h; cases h
theorem leqI_cast {ws : List Wd} {os : List (Wd × Wd)} {a b : Nat} (ha : a < ws.length) (hb : b < ws.length) : leqI ws os a b = leqL ws os a b := by
  unfold leqI
  rw [hasI_nat ha, hasI_nat hb, Int.toNat_natCast, Int.toNat_natCast, Bool.true_and, Bool.true_and]
end Go.Proofs.YtpjlhpaenmfieaaGreat
