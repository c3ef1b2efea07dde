/- solve: great, the rules the document's way, walked. -/
import Derived.Test.YtpjlhpaenmfieaaGreatSolP
import Derived.Test.YtpjlhpaenmfieaaGreatSolO
namespace Go.Proofs.YtpjlhpaenmfieaaGreat
open Go.RowKit

def Great44 (z : Nat) (ws : List Wd) (os : List (Wd × Wd)) (w : World) (e : Ending) (w' : World) : Prop := ∃ r : Bool, e = .returned (.bool r) ∧ (r = false → z ≤ 60 ∧ wrongL ws os = (0, 0)) ∧ Ext w w'
set_option maxRecDepth 100000 in
theorem solGreat_any (A : Option Addr) (c n : Nat) (ws : List Wd) (A2 : Option Addr) (c2 m : Nat) (os : List (Wd × Wd)) (w : World) (h : WdsAt w w.heap.size A ws) (hsz : ∀ i, (wNm ws i).size ≤ maxLen) (hn : n = ws.length) (h2 : OdsAt w w.heap.size A2 os) (hm : m = os.length) (A5 : Option Addr) (c5 z : Nat) :
    Calls Tryz.prog 24 #[.agg #[.slice A n c, .slice A2 m c2], .slice A5 z c5] w (Great44 z ws os w) := by
  obtain ⟨w0, hw0⟩ : ∃ w0, w0 = w.alloc (.cells #[.slice A n c, .slice A2 m c2] 56) := ⟨_, rfl⟩
  obtain ⟨gw, hgw⟩ : ∃ g, g = w.heap.size := ⟨_, rfl⟩
  have hB : Blk w0 gw 56 #[.slice A n c, .slice A2 m c2] := by rw [hw0, hgw]; exact Blk.new _ _ _
  have hE0 : Ext w w0 := by rw [hw0]; exact (Ext.rfl' w).alloc (Nat.le_refl _) _
  have HWR := hide (refWrong_any A c n ws A2 c2 m os w0 (h.ext hE0) hsz hn (h2.ext hE0) hm)
  have b0 := hB.cell 0
  have b1 := hB.cell 1
  simp only [List.getElem?_toArray, List.getElem?_cons_zero, List.getElem?_cons_succ] at b0 b1
  obtain ⟨f1, hf1⟩ : ∃ f1, f1 = (wrongL ws os).1 := ⟨_, rfl⟩
  obtain ⟨f2, hf2⟩ : ∃ f2, f2 = (wrongL ws os).2 := ⟨_, rfl⟩
  have e : fltV (wrongL ws os) = .agg #[.int .i64 f1, .int .i64 f2] := by rw [hf1, hf2]; rfl
  rw [e] at HWR
  have HF1 := hide hf1
  have HW0 := hide hw0
  have HGW := hide hgw
  have HE0 := hide hE0
  have hq := run_eqIn_flt
  clear e hf1 hf2 hw0 hgw hE0 hB h h2 hn hm hsz
  by_cases c0 : (60 : Int) < (z : Int)
  · go_enter Tryz.func24, Tryz.ntmps24
    go_upto_region 1 with fail
    rw [← HW0.out, ← HGW.out]
    go_wp2_with fail
    go_ret
    exact ⟨true, rfl, (fun h => absurd h (by decide)), HE0.out⟩
  by_cases c1 : (32 : Int) < (n : Int)
  · go_enter Tryz.func24, Tryz.ntmps24
    go_upto_region 1 with fail
    rw [← HW0.out, ← HGW.out]
    go_wp2_with fail
    go_ret
    exact ⟨true, rfl, (fun h => absurd h (by decide)), HE0.out⟩
  · by_cases c2 : (256 : Int) < (m : Int)
    · go_enter Tryz.func24, Tryz.ntmps24
      go_upto_region 1 with fail
      rw [← HW0.out, ← HGW.out]
      go_wp2_with fail
      go_ret
      exact ⟨true, rfl, (fun h => absurd h (by decide)), HE0.out⟩
    · go_enter Tryz.func24, Tryz.ntmps24
      go_upto_region 1 with fail
      rw [← HW0.out, ← HGW.out]
      go_wp2_with fail
      refine HWR.out.mono ?_
      rintro e w1 ⟨rfl, hE1⟩
      have HE1 := hide (HE0.out.trans' hE1)
      clear hE1
      go_wp2_with fail
      go_ret
      refine ⟨_, rfl, fun h => ⟨by omega, wrong_ok ?_⟩, HE1.out⟩
      rw [← HF1.out]
      simp at h
      exact h.1

end Go.Proofs.YtpjlhpaenmfieaaGreat
