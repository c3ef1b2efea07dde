/- kinds: the checker's check for every type, and Right, walked. (Printed by wip/gen_kinzd.py.) -/
import Derived.Test.YtanpljalbijfkaaKinZ
import Derived.Test.YtanpljalbijfkaaKinZB
import Derived.Test.YtanpljalbijfkaaKinZC
namespace Go.Proofs.Ytanpljalbijfkaa
open Go.RowKit

theorem headF_R (h : TyH) (n : Nat) (p : Nat → PtH) (t : Nat → Ty) (sub : Nat → Int → Wr) (d m : Int) : headF h n p t sub d m = headR h.kind h.at_ h.lo h.hi h.most h.name.2 d m (ownB h n) (rightB h.name.1) (enumF h.at_ h.names) (kindF h n p t sub m) := by
  unfold headF headR
  split
  · rfl
  split
  · rfl
  split
  · rfl
  cases ownB h n with
  | false => rfl
  | true =>
    rw [if_pos rfl, if_neg (show ¬ (true = false) by decide)]
    unfold kindF
    split
    · rfl
    split
    · rfl
    split
    · rfl
    by_cases c5 : h.kind = 5 ∨ h.kind = 6
    · rw [if_pos c5, if_pos (show h.kind = 5 ∨ h.kind = 6 ∨ h.kind = 7 ∨ h.kind = 8 by omega)]
    by_cases c7 : h.kind = 7 ∨ h.kind = 8
    · rw [if_neg c5, if_pos c7, if_pos (show h.kind = 5 ∨ h.kind = 6 ∨ h.kind = 7 ∨ h.kind = 8 by omega)]
    rw [if_neg c5, if_neg c7, if_neg (show ¬ (h.kind = 5 ∨ h.kind = 6 ∨ h.kind = 7 ∨ h.kind = 8) by omega)]
theorem kindF_one {h : TyH} {n : Nat} {p : Nat → PtH} {t : Nat → Ty} {sub : Nat → Int → Wr} {m : Int} (k : h.kind = 5 ∨ h.kind = 6) : kindF h n p t sub m = oneF h n p (sub 0) m := by
  unfold kindF
  rw [if_neg (show ¬ h.kind = 2 by omega), if_neg (show ¬ h.kind = 3 by omega), if_neg (show ¬ h.kind = 4 by omega), if_pos k]
theorem kindF_parts {h : TyH} {n : Nat} {p : Nat → PtH} {t : Nat → Ty} {sub : Nat → Int → Wr} {m : Int} (k : h.kind = 7 ∨ h.kind = 8) : kindF h n p t sub m = partsF h n p (stepF h.kind n p t sub) m := by
  unfold kindF
  rw [if_neg (show ¬ h.kind = 2 by omega), if_neg (show ¬ h.kind = 3 by omega), if_neg (show ¬ h.kind = 4 by omega), if_neg (show ¬ (h.kind = 5 ∨ h.kind = 6) by omega), if_pos k]
theorem parts_any (h : TyH) (hk : h.kind = 7 ∨ h.kind = 8) (n : Nat) (p : Nat → PtH) (t : Nat → Ty) (d m : Int) (gc B : Nat) (An Ap : Option Addr) (cn cp : Nat) (w : World) (hP : PartsAt w B Ap n p t) (hsz : ∀ i, i < n → (p i).name.1.size ≤ maxLen ∧ WdsSz (p i).label ∧ WdsSz (p i).cl ∧ TySz (t i)) (hBg : B ≤ gc) (hC : Blk w gc 44 #[.int .i64 m]) (hsub : ∀ i, i < n → ChkC (t i) (IntKind.i64.wrap (d + 1)) B) :
    Calls Try.prog 34 #[.pointer (some ⟨gc, 0, none⟩), .agg (tyV h An cn Ap n cp).toArray, .int .i64 d] w (ChkPost (partsF h n p (stepF h.kind n p t (fun i m' => chk (t i) (IntKind.i64.wrap (d + 1)) m')) m) gc w) := by
  unfold partsF tyV
  rcases hk with k | k
  · rw [k, if_neg (show ¬ ((7 : Int) = 8 ∧ n = 0) from fun hh => by cases hh.1)]
    exact parts_7 h.at_ h.lo h.hi h.most h.name.2 h.name.1 h.names.length cn cp n An Ap p t d m gc B w hP hsz hBg hC hsub
  · rw [k]
    simp only [true_and]
    exact parts_8 h.at_ h.lo h.hi h.most h.name.2 h.name.1 h.names.length cn cp n An Ap p t d m gc B w hP hsz hBg hC hsub
theorem check_any (t : Ty) : TySz t → ∀ (d : Int) (B : Nat), ChkC t d B := by
  induction t with
  | nil => intro h; exact h.elim
  | mk h n p t ih =>
    intro hsz d B gc m w vs hT hBg hC
    have hBw : B ≤ w.heap.size := Nat.le_of_lt (Nat.lt_of_le_of_lt hBg hC.lt)
    have hTT := id hT
    obtain ⟨An, cn, Ap, cp, hvs, hwd, hpp⟩ := hT.open_
    rw [chk_mk, headF_R]
    have hsub : ∀ i, i < n → ChkC (t i) (IntKind.i64.wrap (d + 1)) B := fun i hi => ih i (hsz.2.2.2 i hi).2.2.2 _ _
    subst hvs
    refine check_abs h.kind h.at_ h.lo h.hi h.most h.name.2 d m _ h.name.1 h.names.length cn n cp An Ap gc w _ _ _ _ rfl hC ?_ ?_ ?_ ?_ ?_
    · intro w1 hG
      exact kOwn_any h n p t w1 _ ((hTT.keep (hG.cells hBw hBg)).more (Nat.le_trans hBw hG.sz))
    · intro _ w1 hG
      exact enum_any _ _ _ _ _ _ _ _ An cn _ h.names w1 (Reads.more (Reads.keep hwd (hG.cells hBw hBg)) (Nat.le_trans hBw hG.sz)) rfl hsz.1
    · intro k w1 hG hC1
      rw [kindF_one k]
      exact one_any h n p t d _ gc B An Ap cn cp w1 (hpp.keep (hG.cells hBw hBg)) (fun i hi => ⟨(hsz.2.2.2 i hi).2.1, (hsz.2.2.2 i hi).2.2.1⟩) hBg hC1 (fun h0 => hsub 0 h0)
    · intro k w1 hG hC1
      rw [kindF_parts k]
      exact parts_any h k n p t d _ gc B An Ap cn cp w1 (hpp.keep (hG.cells hBw hBg)) (fun i hi => hsz.2.2.2 i hi) hBg hC1 hsub
    · intro w1
      exact right_any h.name.1 w1 hsz.2.1
theorem ext_of_grwD {gc : Nat} {w w' : World} (h : Grw gc w w') (hg : w.heap.size ≤ gc) : Ext w w' :=
  ext_of_grown ⟨h.os, h.tape, h.output, h.size, fun i hi _ => h.block i hi (fun e => by cases e; exact absurd hi (Nat.not_lt.2 hg))⟩

set_option maxRecDepth 100000 in
set_option maxHeartbeats 1000000 in
theorem kRight_any (t : Ty) (w : World) (vs : List Value) (hT : TyAt w w.heap.size t vs) (hsz : TySz t) :
    Calls Try.prog 8 #[.agg vs.toArray] w (fun e w' => e = .returned (fltV (chk t 1 0).1) ∧ Ext w w') := by
  have hchk := check_any t hsz 1 w.heap.size
  obtain ⟨R, hR⟩ : ∃ x, x = chk t 1 0 := ⟨_, rfl⟩
  have hcall := fun gc w1 (hE : Ext w w1) (hg : w.heap.size ≤ gc) (hC : Blk w1 gc 44 #[.int .i64 0]) => hchk gc 0 w1 vs (hT.keep fun q hq => hE.cell hq) hg hC
  rw [← hR] at hcall ⊢
  obtain ⟨x0, x1, x2, x3, x4, x5, x6, x7, x8, rfl⟩ := hT.nine
  obtain ⟨w0, hw0⟩ : ∃ x, x = (w.alloc (.cells #[x0, x1, x2, x3, x4, x5, x6, x7, x8] 27)).alloc (.cells #[.int .i64 0, .int .i64 0] 32) := ⟨_, rfl⟩
  have hT0 : Blk w0 w.heap.size 27 #[x0, x1, x2, x3, x4, x5, x6, x7, x8] := by rw [hw0]; exact (Blk.new _ _ _).alloc _
  have hF0 : Blk w0 (w.heap.size + 1) 32 #[.int .i64 0, .int .i64 0] := by
    rw [hw0]; have := Blk.new (w.alloc (.cells #[x0, x1, x2, x3, x4, x5, x6, x7, x8] 27)) 32 #[.int .i64 0, .int .i64 0]; simpa only [World.size_alloc] using this
  have hE0 : Ext w w0 := by rw [hw0]; exact ((Ext.rfl' w).alloc (Nat.le_refl _) _).alloc (by simp only [World.size_alloc]; omega) _
  have hs0 : w0.heap.size = w.heap.size + 2 := by rw [hw0]; simp only [World.size_alloc]
  obtain ⟨w1, hw1⟩ : ∃ x, x = w0.alloc (.cells #[.int .i64 0] 44) := ⟨_, rfl⟩
  have hT1 : Blk w1 w.heap.size 27 #[x0, x1, x2, x3, x4, x5, x6, x7, x8] := by rw [hw1]; exact hT0.alloc _
  have hF1 : Blk w1 (w.heap.size + 1) 32 #[.int .i64 0, .int .i64 0] := by rw [hw1]; exact hF0.alloc _
  have hC1 : Blk w1 w0.heap.size 44 #[.int .i64 0] := by rw [hw1]; exact Blk.new _ _ _
  have hE1 : Ext w w1 := by rw [hw1]; exact hE0.alloc hE0.size _
  have n1 : w.heap.size + 1 ≠ w0.heap.size := by omega
  have hlo : w.heap.size ≤ w.heap.size + 1 := Nat.le_succ _
  have hgl : w.heap.size ≤ w0.heap.size := hE0.size
  obtain ⟨gc, hgc⟩ : ∃ g, g = w0.heap.size := ⟨_, rfl⟩
  obtain ⟨gf, hgf⟩ : ∃ g, g = w.heap.size + 1 := ⟨_, rfl⟩
  obtain ⟨gt, hgt⟩ : ∃ g, g = w.heap.size := ⟨_, rfl⟩
  rw [← hgc] at n1 hgl hC1
  rw [← hgf] at hF1 hlo n1
  have hcl := hcall gc w1 hE1 hgl hC1
  rw [← hgt] at hT1
  have t0 := hT1.cell 0
  have t1 := hT1.cell 1
  have t2 := hT1.cell 2
  have t3 := hT1.cell 3
  have t4 := hT1.cell 4
  have t5 := hT1.cell 5
  have t6 := hT1.cell 6
  have t7 := hT1.cell 7
  have t8 := hT1.cell 8
  simp only [List.getElem?_toArray, List.getElem?_cons_zero, List.getElem?_cons_succ] at t0 t1 t2 t3 t4 t5 t6 t7 t8
  have HCL := hide hcl
  have HF := hide hF1
  have HE := hide hE1
  have HN := hide n1
  have HLO := hide hlo
  have HGL := hide hgl
  have HW0 := hide hw0
  have HW1 := hide hw1
  have HGC := hide hgc
  have HGF := hide hgf
  have HGT := hide hgt
  clear hcl hF1 hE1 n1 hlo hw0 hw1 hgc hgf hgt hT1 hC1 hcall hgl hE0 hs0 hT0 hF0 hT hR hchk
  show Calls Try.prog 8 #[.agg #[x0, x1, x2, x3, x4, x5, x6, x7, x8]] w _
  go_enter Try.func8, Try.ntmps8
  go_upto_region 1 with fail
  rw [← HW0.out, ← HGF.out, ← HGT.out]
  go_upto_region 2 with fail
  rw [← HW1.out, ← HGC.out]
  go_wp2_with fail
  refine HCL.out.mono ?_
  rintro e w8 ⟨rfl, hE8, hC8⟩
  obtain ⟨⟨D1, D2⟩, D3⟩ := R
  have HF8 := hide (hE8.blk HF.out HN.out)
  have HE8 := hide (ext_of_grwD ((Grw.of_ext HE.out).trans hE8) HGL.out)
  have b0 := HF8.out.cell 0
  have b1 := HF8.out.cell 1
  have f0 := HF8.out.free 0
  have f1 := HF8.out.free 1
  simp only [List.getElem?_toArray, List.getElem?_cons_zero, List.getElem?_cons_succ] at b0 b1
  unfold fltV
  clear hE8 hC8
  go_wp2_with fail
  exact fault_ret (f := (D1, D2)) (g := gf) ((HF8.out.set_ 0 _).set_ 1 _) rfl rfl rfl ⟨rfl, ext_two' HE8.out HLO.out _ _⟩
end Go.Proofs.Ytanpljalbijfkaa
