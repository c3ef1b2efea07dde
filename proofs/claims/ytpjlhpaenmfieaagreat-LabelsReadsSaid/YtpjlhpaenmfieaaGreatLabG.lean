/- The law LabelsJoin, walked. -/
import Derived.Test.YtpjlhpaenmfieaaGreatLabE
import Derived.Test.YtpjlhpaenmfieaaGreatLabF
import Derived.Test.YtpjlhpaenmfieaaGreatLatU
namespace Go.Proofs.YtpjlhpaenmfieaaGreat
open Go.RowKit

theorem wrong_none {ws : List Wd} {os : List (Wd × Wd)} (h : (wrongL ws os).1 = 0) : wrongL ws os = (0, 0) := by
  have hg := good_of h
  have h1 : ¬ ws.length = 0 := by have := hg.pos; omega
  have h2 : ¬ 32 < ws.length := by have := hg.few; omega
  have h3 : ¬ 256 < os.length := by have := hg.fewO; omega
  have h4 := firstOf_miss.2 hg.named
  have h5 := firstOf_miss.2 hg.found
  unfold wrongL at h ⊢
  rw [if_neg h1, if_neg h2, if_neg h3, h4] at h ⊢
  dsimp only at h ⊢
  rw [h5] at h ⊢
  dsimp only at h ⊢
  unfold loopBad at h ⊢
  cases h6 : refLoop (leads ws.length (prs ws os)) with
  | some a => rw [h6] at h; cases h
  | none =>
    rw [h6] at h
    dsimp only at h ⊢
    unfold boundBad at h ⊢
    by_cases c : LatM.boundsL ws.length (leqL ws os) < 0
    · rw [if_pos c]
    · rw [if_neg c] at h; cases h
def GreatPost (ws : List Wd) (os : List (Wd × Wd)) (w : World) (e : Ending) (w' : World) : Prop := ∃ r : Bool, e = .returned (.bool r) ∧ (r = false → wrongL ws os = (0, 0)) ∧ Ext w w'
set_option maxRecDepth 100000 in
theorem labGreat_any (A : Option Addr) (c n : Nat) (ws : List Wd) (A2 : Option Addr) (c2 m : Nat) (os : List (Wd × Wd)) (w : World) (h : WdsAt w w.heap.size A ws) (hsz : ∀ i, (wNm ws i).size ≤ maxLen) (hn : n = ws.length) (h2 : OdsAt w w.heap.size A2 os) (hm : m = os.length) :
    Calls Tryz.prog 8 #[.agg #[.slice A n c, .slice A2 m c2]] w (GreatPost ws os w) := by
  obtain ⟨w0, hw0⟩ : ∃ w0, w0 = w.alloc (.cells #[.slice A n c, .slice A2 m c2] 25) := ⟨_, rfl⟩
  obtain ⟨gw, hgw⟩ : ∃ g, g = w.heap.size := ⟨_, rfl⟩
  have hB : Blk w0 gw 25 #[.slice A n c, .slice A2 m c2] := by rw [hw0, hgw]; exact Blk.new _ _ _
  have hE0 : Ext w w0 := by rw [hw0]; exact (Ext.rfl' w).alloc (Nat.le_refl _) _
  have HWR := hide (refWrong_any A c n ws A2 c2 m os w0 (h.ext hE0) hsz hn (h2.ext hE0) hm)
  have b0 := hB.cell 0
  have b1 := hB.cell 1
  simp only [List.getElem?_toArray, List.getElem?_cons_zero, List.getElem?_cons_succ] at b0 b1
  obtain ⟨f1, hf1⟩ : ∃ f1, f1 = (wrongL ws os).1 := ⟨_, rfl⟩
  obtain ⟨f2, hf2⟩ : ∃ f2, f2 = (wrongL ws os).2 := ⟨_, rfl⟩
  have e : fltV (wrongL ws os) = .agg #[.int .i64 f1, .int .i64 f2] := by rw [hf1, hf2]; rfl
  rw [e] at HWR
  have HF1 := hide hf1
  have HW0 := hide hw0
  have HGW := hide hgw
  have HE0 := hide hE0
  have hq := run_eqIn_flt
  clear e hf1 hf2 hw0 hgw hE0 hB h h2 hn hm hsz
  by_cases c1 : (32 : Int) < (n : Int)
  · go_enter Tryz.func8, Tryz.ntmps8
    go_upto_region 1 with fail
    rw [← HW0.out, ← HGW.out]
    go_wp2_with fail
    go_ret
    exact ⟨true, rfl, (fun h => absurd h (by decide)), HE0.out⟩
  · by_cases c2 : (256 : Int) < (m : Int)
    · go_enter Tryz.func8, Tryz.ntmps8
      go_upto_region 1 with fail
      rw [← HW0.out, ← HGW.out]
      go_wp2_with fail
      go_ret
      exact ⟨true, rfl, (fun h => absurd h (by decide)), HE0.out⟩
    · go_enter Tryz.func8, Tryz.ntmps8
      go_upto_region 1 with fail
      rw [← HW0.out, ← HGW.out]
      go_wp2_with fail
      refine HWR.out.mono ?_
      rintro e w1 ⟨rfl, hE1⟩
      have HE1 := hide (HE0.out.trans' hE1)
      clear hE1
      go_wp2_with fail
      go_ret
      refine ⟨_, rfl, fun h => wrong_none ?_, HE1.out⟩
      rw [← HF1.out]
      simp at h
      exact h.1

theorem ofF_zero {ws us : List Wd} {os : List (Wd × Wd)} (hlat : LatM.Lat ws.length (leqL ws os)) (h : (ofF ws us).1 = 0) : ∃ t : Nat, t < ws.length ∧ ofI ws os us = t := by
  unfold ofF at h
  cases h1 : firstOf (ofBad ws us) us.length with
  | some x =>
    rw [h1] at h
    exfalso
    obtain ⟨i, _, hi'⟩ := List.exists_of_findSome?_eq_some h1
    unfold ofBad at hi'
    split at hi'
    · cases hi'; cases h
    · cases hi'
  | none =>
    refine ⟨_, LatM.allJoin_lt hlat (ofIdx_lt (firstOf_miss.1 h1)), ?_⟩
    unfold ofI
    rw [h1]
end Go.Proofs.YtpjlhpaenmfieaaGreat
