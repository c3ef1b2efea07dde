/- kinds: the document's own, walked. (Printed by wip/gen_kinw.py.) -/
import Derived.Test.YtanpljalbijfkaaKinV
namespace Go.Proofs.Ytanpljalbijfkaa
open Go.RowKit

theorem own_at {h : TyH} {n : Nat} {p : Nat → PtH} {t : Nat → Ty} {w : World} {B : Nat} {An : Option Addr} {cn : Nat} {Ap : Option Addr} {cp : Nat} (hT : TyAt w B (.mk h n p t) (tyV h An cn Ap n cp)) (An' : Option Addr) (cn' : Nat) (Ap' : Option Addr) (cp' : Nat)
    (h4 : h.kind = 4 → An' = An) (h5 : 4 < h.kind ∧ h.kind < 9 → Ap' = Ap) : TyAt w B (.mk (ownH h) (ownN h n) p t) (tyV (ownH h) An' cn' Ap' (ownN h n) cp') := by
  obtain ⟨A1, c1, A2, c2, e, hw, hp⟩ := hT
  unfold tyV at e
  simp only [List.cons.injEq, Value.slice.injEq, and_true, true_and] at e
  obtain ⟨⟨rfl, rfl⟩, rfl, rfl⟩ := e
  refine ⟨_, _, _, _, rfl, ?_, fun hn => ?_⟩
  · by_cases k4 : h.kind = 4
    · rw [h4 k4, show (ownH h).names = h.names from if_pos k4]; exact hw
    · rw [show (ownH h).names = [] from if_neg k4]; exact Reads.none_
  · by_cases k5 : 4 < h.kind ∧ h.kind < 9
    · rw [show ownN h n = n from if_pos k5] at hn ⊢
      rw [h5 k5]; exact hp hn
    · rw [show ownN h n = 0 from if_neg k5] at hn; omega
theorem own_sz {h : TyH} {n : Nat} {p : Nat → PtH} {t : Nat → Ty} (hs : TySz (.mk h n p t)) : TySz (.mk (ownH h) (ownN h n) p t) := by
  obtain ⟨h1, h2, h3, h4⟩ := hs
  refine ⟨?_, ?_, ?_, fun i hi => h4 i ?_⟩
  · by_cases k4 : h.kind = 4
    · rw [show (ownH h).names = h.names from if_pos k4]; exact h1
    · rw [show (ownH h).names = [] from if_neg k4]; exact nil_sz
  · by_cases k9 : h.kind = 9
    · rw [show (ownH h).name = h.name from if_pos k9]; exact h2
    · rw [show (ownH h).name = wd0 from if_neg k9]; exact Nat.zero_le _
  · unfold ownN; split <;> omega
  · unfold ownN at hi; split at hi <;> omega

set_option maxRecDepth 100000 in
set_option maxHeartbeats 4000000 in
theorem refOwn_2 (a lo hi mo y : Int) (An : Option Addr) (z cn : Nat) (Ap : Option Addr) (n cp : Nat) (s : ByteArray) (R : Bool) (w : World)
    (hsame : ∀ w1, Ext w w1 → Calls Try.prog 14 #[.agg #[.int .i64 2, .int .i64 a, .int .i64 lo, .int .i64 hi, .int .i64 mo, .slice An z cn, .slice Ap n cp, .string s, .int .i64 y], .agg #[.int .i64 2, .int .i64 0, .int .i64 lo, .int .i64 hi, .int .i64 0, .slice none 0 0, .slice none 0 0, .string ⟨#[]⟩, .int .i64 0]] w1 (fun e w' => e = .returned (.bool R) ∧ Ext w1 w')) :
    Calls Try.prog 19 #[.agg #[.int .i64 2, .int .i64 a, .int .i64 lo, .int .i64 hi, .int .i64 mo, .slice An z cn, .slice Ap n cp, .string s, .int .i64 y]] w (fun e w' => e = .returned (.bool R) ∧ Ext w w') := by
  have HS := hide hsame
  obtain ⟨w0, hw0⟩ : ∃ x, x = w.alloc (.cells #[.int .i64 2, .int .i64 a, .int .i64 lo, .int .i64 hi, .int .i64 mo, .slice An z cn, .slice Ap n cp, .string s, .int .i64 y] 27) := ⟨_, rfl⟩
  have hT0 : Blk w0 w.heap.size 27 #[.int .i64 2, .int .i64 a, .int .i64 lo, .int .i64 hi, .int .i64 mo, .slice An z cn, .slice Ap n cp, .string s, .int .i64 y] := by rw [hw0]; exact Blk.new _ _ _
  obtain ⟨wa, hwa⟩ : ∃ x, x = w0.alloc (.cells #[.int .i64 2, .int .i64 0, .int .i64 0, .int .i64 0, .int .i64 0, .slice none 0 0, .slice none 0 0, .string ⟨#[]⟩, .int .i64 0] 27) := ⟨_, rfl⟩
  have hT : Blk wa w.heap.size 27 #[.int .i64 2, .int .i64 a, .int .i64 lo, .int .i64 hi, .int .i64 mo, .slice An z cn, .slice Ap n cp, .string s, .int .i64 y] := by rw [hwa]; exact hT0.alloc _
  have hU : Blk wa w0.heap.size 27 #[.int .i64 2, .int .i64 0, .int .i64 0, .int .i64 0, .int .i64 0, .slice none 0 0, .slice none 0 0, .string ⟨#[]⟩, .int .i64 0] := by rw [hwa]; exact Blk.new _ _ _
  have hE : Ext w wa := by rw [hwa, hw0]; exact ((Ext.rfl' w).alloc (Nat.le_refl _) _).alloc (by simp only [World.size_alloc]; omega) _
  have hlo : w.heap.size ≤ w0.heap.size := by rw [hw0]; simp only [World.size_alloc]; omega
  have hne : w.heap.size ≠ w0.heap.size := by rw [hw0]; simp only [World.size_alloc]; omega
  obtain ⟨gu, hgu⟩ : ∃ g, g = w0.heap.size := ⟨_, rfl⟩
  obtain ⟨gt, hgt⟩ : ∃ g, g = w.heap.size := ⟨_, rfl⟩
  rw [← hgt] at hT0
  have i0 := hT0.cell 0
  simp only [List.getElem?_toArray, List.getElem?_cons_zero, List.getElem?_cons_succ] at i0
  rw [← hgu] at hU hlo hne
  rw [← hgt] at hT hne
  have t0 := hT.cell 0
  have t1 := hT.cell 1
  have t2 := hT.cell 2
  have t3 := hT.cell 3
  have t4 := hT.cell 4
  have t5 := hT.cell 5
  have t6 := hT.cell 6
  have t7 := hT.cell 7
  have t8 := hT.cell 8
  simp only [List.getElem?_toArray, List.getElem?_cons_zero, List.getElem?_cons_succ] at t0 t1 t2 t3 t4 t5 t6 t7 t8
  have u0 := hU.cell 0
  have u1 := hU.cell 1
  have u2 := hU.cell 2
  have u3 := hU.cell 3
  have u4 := hU.cell 4
  have u5 := hU.cell 5
  have u6 := hU.cell 6
  have u7 := hU.cell 7
  have u8 := hU.cell 8
  simp only [List.getElem?_toArray, List.getElem?_cons_zero, List.getElem?_cons_succ] at u0 u1 u2 u3 u4 u5 u6 u7 u8
  have g0 := hU.free 0
  have HT := hide hT
  have HU := hide hU
  have HE := hide hE
  have HLO := hide hlo
  have HNE := hide hne
  have HW0 := hide hw0
  have HWA := hide hwa
  have HGU := hide hgu
  have HGT := hide hgt
  clear hsame hw0 hwa hT0 hT hU hE hlo hne hgu hgt
  go_enter Try.func19, Try.ntmps19
  go_upto_region 1 with fail
  rw [← HW0.out, ← HGT.out]
  go_upto_region 2 with fail
  rw [← HWA.out, ← HGU.out]
  clear i0
  clear g0
  have g2 := HU.out.free 2
  go_upto_region 4 with fail
  have hT : Blk (wa.setCell ⟨gu, 2, none⟩ (.int .i64 lo)) gt 27 #[.int .i64 2, .int .i64 a, .int .i64 lo, .int .i64 hi, .int .i64 mo, .slice An z cn, .slice Ap n cp, .string s, .int .i64 y] := (HT.out.far (p := ⟨gu, 2, none⟩) HNE.out _)
  have hU : Blk (wa.setCell ⟨gu, 2, none⟩ (.int .i64 lo)) gu 27 #[.int .i64 2, .int .i64 0, .int .i64 lo, .int .i64 0, .int .i64 0, .slice none 0 0, .slice none 0 0, .string ⟨#[]⟩, .int .i64 0] := (HU.out.set_ 2 _)
  have hE : Ext w (wa.setCell ⟨gu, 2, none⟩ (.int .i64 lo)) := (HE.out.setCell HLO.out _)
  obtain ⟨w1, hw1⟩ : ∃ x, x = (wa.setCell ⟨gu, 2, none⟩ (.int .i64 lo)) := ⟨_, rfl⟩
  rw [← hw1] at hT hU hE ⊢
  have t0 := hT.cell 0
  have t1 := hT.cell 1
  have t2 := hT.cell 2
  have t3 := hT.cell 3
  have t4 := hT.cell 4
  have t5 := hT.cell 5
  have t6 := hT.cell 6
  have t7 := hT.cell 7
  have t8 := hT.cell 8
  simp only [List.getElem?_toArray, List.getElem?_cons_zero, List.getElem?_cons_succ] at t0 t1 t2 t3 t4 t5 t6 t7 t8
  have u0 := hU.cell 0
  have u1 := hU.cell 1
  have u2 := hU.cell 2
  have u3 := hU.cell 3
  have u4 := hU.cell 4
  have u5 := hU.cell 5
  have u6 := hU.cell 6
  have u7 := hU.cell 7
  have u8 := hU.cell 8
  simp only [List.getElem?_toArray, List.getElem?_cons_zero, List.getElem?_cons_succ] at u0 u1 u2 u3 u4 u5 u6 u7 u8
  have HT := hide hT
  have HU := hide hU
  have HE := hide hE
  clear hT hU hE hw1
  have g3 := HU.out.free 3
  go_upto_region 5 with fail
  have hT : Blk (w1.setCell ⟨gu, 3, none⟩ (.int .i64 hi)) gt 27 #[.int .i64 2, .int .i64 a, .int .i64 lo, .int .i64 hi, .int .i64 mo, .slice An z cn, .slice Ap n cp, .string s, .int .i64 y] := (HT.out.far (p := ⟨gu, 3, none⟩) HNE.out _)
  have hU : Blk (w1.setCell ⟨gu, 3, none⟩ (.int .i64 hi)) gu 27 #[.int .i64 2, .int .i64 0, .int .i64 lo, .int .i64 hi, .int .i64 0, .slice none 0 0, .slice none 0 0, .string ⟨#[]⟩, .int .i64 0] := (HU.out.set_ 3 _)
  have hE : Ext w (w1.setCell ⟨gu, 3, none⟩ (.int .i64 hi)) := (HE.out.setCell HLO.out _)
  obtain ⟨w2, hw2⟩ : ∃ x, x = (w1.setCell ⟨gu, 3, none⟩ (.int .i64 hi)) := ⟨_, rfl⟩
  rw [← hw2] at hT hU hE ⊢
  have t0 := hT.cell 0
  have t1 := hT.cell 1
  have t2 := hT.cell 2
  have t3 := hT.cell 3
  have t4 := hT.cell 4
  have t5 := hT.cell 5
  have t6 := hT.cell 6
  have t7 := hT.cell 7
  have t8 := hT.cell 8
  simp only [List.getElem?_toArray, List.getElem?_cons_zero, List.getElem?_cons_succ] at t0 t1 t2 t3 t4 t5 t6 t7 t8
  have u0 := hU.cell 0
  have u1 := hU.cell 1
  have u2 := hU.cell 2
  have u3 := hU.cell 3
  have u4 := hU.cell 4
  have u5 := hU.cell 5
  have u6 := hU.cell 6
  have u7 := hU.cell 7
  have u8 := hU.cell 8
  simp only [List.getElem?_toArray, List.getElem?_cons_zero, List.getElem?_cons_succ] at u0 u1 u2 u3 u4 u5 u6 u7 u8
  have HT := hide hT
  have HU := hide hU
  have HE := hide hE
  clear hT hU hE hw2
  go_wp2_with fail
  refine (HS.out _ HE.out).mono ?_
  rintro e w9 ⟨rfl, hE9⟩
  have HE9 := hide (HE.out.trans' hE9)
  clear hE9
  go_wp2_with fail
  go_ret
  exact ⟨rfl, HE9.out⟩

set_option maxRecDepth 100000 in
set_option maxHeartbeats 4000000 in
theorem refOwn_3 (a lo hi mo y : Int) (An : Option Addr) (z cn : Nat) (Ap : Option Addr) (n cp : Nat) (s : ByteArray) (R : Bool) (w : World)
    (hsame : ∀ w1, Ext w w1 → Calls Try.prog 14 #[.agg #[.int .i64 3, .int .i64 a, .int .i64 lo, .int .i64 hi, .int .i64 mo, .slice An z cn, .slice Ap n cp, .string s, .int .i64 y], .agg #[.int .i64 3, .int .i64 0, .int .i64 0, .int .i64 0, .int .i64 mo, .slice none 0 0, .slice none 0 0, .string ⟨#[]⟩, .int .i64 0]] w1 (fun e w' => e = .returned (.bool R) ∧ Ext w1 w')) :
    Calls Try.prog 19 #[.agg #[.int .i64 3, .int .i64 a, .int .i64 lo, .int .i64 hi, .int .i64 mo, .slice An z cn, .slice Ap n cp, .string s, .int .i64 y]] w (fun e w' => e = .returned (.bool R) ∧ Ext w w') := by
  have HS := hide hsame
  obtain ⟨w0, hw0⟩ : ∃ x, x = w.alloc (.cells #[.int .i64 3, .int .i64 a, .int .i64 lo, .int .i64 hi, .int .i64 mo, .slice An z cn, .slice Ap n cp, .string s, .int .i64 y] 27) := ⟨_, rfl⟩
  have hT0 : Blk w0 w.heap.size 27 #[.int .i64 3, .int .i64 a, .int .i64 lo, .int .i64 hi, .int .i64 mo, .slice An z cn, .slice Ap n cp, .string s, .int .i64 y] := by rw [hw0]; exact Blk.new _ _ _
  obtain ⟨wa, hwa⟩ : ∃ x, x = w0.alloc (.cells #[.int .i64 3, .int .i64 0, .int .i64 0, .int .i64 0, .int .i64 0, .slice none 0 0, .slice none 0 0, .string ⟨#[]⟩, .int .i64 0] 27) := ⟨_, rfl⟩
  have hT : Blk wa w.heap.size 27 #[.int .i64 3, .int .i64 a, .int .i64 lo, .int .i64 hi, .int .i64 mo, .slice An z cn, .slice Ap n cp, .string s, .int .i64 y] := by rw [hwa]; exact hT0.alloc _
  have hU : Blk wa w0.heap.size 27 #[.int .i64 3, .int .i64 0, .int .i64 0, .int .i64 0, .int .i64 0, .slice none 0 0, .slice none 0 0, .string ⟨#[]⟩, .int .i64 0] := by rw [hwa]; exact Blk.new _ _ _
  have hE : Ext w wa := by rw [hwa, hw0]; exact ((Ext.rfl' w).alloc (Nat.le_refl _) _).alloc (by simp only [World.size_alloc]; omega) _
  have hlo : w.heap.size ≤ w0.heap.size := by rw [hw0]; simp only [World.size_alloc]; omega
  have hne : w.heap.size ≠ w0.heap.size := by rw [hw0]; simp only [World.size_alloc]; omega
  obtain ⟨gu, hgu⟩ : ∃ g, g = w0.heap.size := ⟨_, rfl⟩
  obtain ⟨gt, hgt⟩ : ∃ g, g = w.heap.size := ⟨_, rfl⟩
  rw [← hgt] at hT0
  have i0 := hT0.cell 0
  simp only [List.getElem?_toArray, List.getElem?_cons_zero, List.getElem?_cons_succ] at i0
  rw [← hgu] at hU hlo hne
  rw [← hgt] at hT hne
  have t0 := hT.cell 0
  have t1 := hT.cell 1
  have t2 := hT.cell 2
  have t3 := hT.cell 3
  have t4 := hT.cell 4
  have t5 := hT.cell 5
  have t6 := hT.cell 6
  have t7 := hT.cell 7
  have t8 := hT.cell 8
  simp only [List.getElem?_toArray, List.getElem?_cons_zero, List.getElem?_cons_succ] at t0 t1 t2 t3 t4 t5 t6 t7 t8
  have u0 := hU.cell 0
  have u1 := hU.cell 1
  have u2 := hU.cell 2
  have u3 := hU.cell 3
  have u4 := hU.cell 4
  have u5 := hU.cell 5
  have u6 := hU.cell 6
  have u7 := hU.cell 7
  have u8 := hU.cell 8
  simp only [List.getElem?_toArray, List.getElem?_cons_zero, List.getElem?_cons_succ] at u0 u1 u2 u3 u4 u5 u6 u7 u8
  have g0 := hU.free 0
  have HT := hide hT
  have HU := hide hU
  have HE := hide hE
  have HLO := hide hlo
  have HNE := hide hne
  have HW0 := hide hw0
  have HWA := hide hwa
  have HGU := hide hgu
  have HGT := hide hgt
  clear hsame hw0 hwa hT0 hT hU hE hlo hne hgu hgt
  go_enter Try.func19, Try.ntmps19
  go_upto_region 1 with fail
  rw [← HW0.out, ← HGT.out]
  go_upto_region 2 with fail
  rw [← HWA.out, ← HGU.out]
  clear i0
  clear g0
  have g4 := HU.out.free 4
  go_upto_region 7 with fail
  have hT : Blk (wa.setCell ⟨gu, 4, none⟩ (.int .i64 mo)) gt 27 #[.int .i64 3, .int .i64 a, .int .i64 lo, .int .i64 hi, .int .i64 mo, .slice An z cn, .slice Ap n cp, .string s, .int .i64 y] := (HT.out.far (p := ⟨gu, 4, none⟩) HNE.out _)
  have hU : Blk (wa.setCell ⟨gu, 4, none⟩ (.int .i64 mo)) gu 27 #[.int .i64 3, .int .i64 0, .int .i64 0, .int .i64 0, .int .i64 mo, .slice none 0 0, .slice none 0 0, .string ⟨#[]⟩, .int .i64 0] := (HU.out.set_ 4 _)
  have hE : Ext w (wa.setCell ⟨gu, 4, none⟩ (.int .i64 mo)) := (HE.out.setCell HLO.out _)
  obtain ⟨w1, hw1⟩ : ∃ x, x = (wa.setCell ⟨gu, 4, none⟩ (.int .i64 mo)) := ⟨_, rfl⟩
  rw [← hw1] at hT hU hE ⊢
  have t0 := hT.cell 0
  have t1 := hT.cell 1
  have t2 := hT.cell 2
  have t3 := hT.cell 3
  have t4 := hT.cell 4
  have t5 := hT.cell 5
  have t6 := hT.cell 6
  have t7 := hT.cell 7
  have t8 := hT.cell 8
  simp only [List.getElem?_toArray, List.getElem?_cons_zero, List.getElem?_cons_succ] at t0 t1 t2 t3 t4 t5 t6 t7 t8
  have u0 := hU.cell 0
  have u1 := hU.cell 1
  have u2 := hU.cell 2
  have u3 := hU.cell 3
  have u4 := hU.cell 4
  have u5 := hU.cell 5
  have u6 := hU.cell 6
  have u7 := hU.cell 7
  have u8 := hU.cell 8
  simp only [List.getElem?_toArray, List.getElem?_cons_zero, List.getElem?_cons_succ] at u0 u1 u2 u3 u4 u5 u6 u7 u8
  have HT := hide hT
  have HU := hide hU
  have HE := hide hE
  clear hT hU hE hw1
  go_wp2_with fail
  refine (HS.out _ HE.out).mono ?_
  rintro e w9 ⟨rfl, hE9⟩
  have HE9 := hide (HE.out.trans' hE9)
  clear hE9
  go_wp2_with fail
  go_ret
  exact ⟨rfl, HE9.out⟩

set_option maxRecDepth 100000 in
set_option maxHeartbeats 4000000 in
theorem refOwn_4 (a lo hi mo y : Int) (An : Option Addr) (z cn : Nat) (Ap : Option Addr) (n cp : Nat) (s : ByteArray) (R : Bool) (w : World)
    (hsame : ∀ w1, Ext w w1 → Calls Try.prog 14 #[.agg #[.int .i64 4, .int .i64 a, .int .i64 lo, .int .i64 hi, .int .i64 mo, .slice An z cn, .slice Ap n cp, .string s, .int .i64 y], .agg #[.int .i64 4, .int .i64 0, .int .i64 0, .int .i64 0, .int .i64 0, .slice An z cn, .slice none 0 0, .string ⟨#[]⟩, .int .i64 0]] w1 (fun e w' => e = .returned (.bool R) ∧ Ext w1 w')) :
    Calls Try.prog 19 #[.agg #[.int .i64 4, .int .i64 a, .int .i64 lo, .int .i64 hi, .int .i64 mo, .slice An z cn, .slice Ap n cp, .string s, .int .i64 y]] w (fun e w' => e = .returned (.bool R) ∧ Ext w w') := by
  have HS := hide hsame
  obtain ⟨w0, hw0⟩ : ∃ x, x = w.alloc (.cells #[.int .i64 4, .int .i64 a, .int .i64 lo, .int .i64 hi, .int .i64 mo, .slice An z cn, .slice Ap n cp, .string s, .int .i64 y] 27) := ⟨_, rfl⟩
  have hT0 : Blk w0 w.heap.size 27 #[.int .i64 4, .int .i64 a, .int .i64 lo, .int .i64 hi, .int .i64 mo, .slice An z cn, .slice Ap n cp, .string s, .int .i64 y] := by rw [hw0]; exact Blk.new _ _ _
  obtain ⟨wa, hwa⟩ : ∃ x, x = w0.alloc (.cells #[.int .i64 4, .int .i64 0, .int .i64 0, .int .i64 0, .int .i64 0, .slice none 0 0, .slice none 0 0, .string ⟨#[]⟩, .int .i64 0] 27) := ⟨_, rfl⟩
  have hT : Blk wa w.heap.size 27 #[.int .i64 4, .int .i64 a, .int .i64 lo, .int .i64 hi, .int .i64 mo, .slice An z cn, .slice Ap n cp, .string s, .int .i64 y] := by rw [hwa]; exact hT0.alloc _
  have hU : Blk wa w0.heap.size 27 #[.int .i64 4, .int .i64 0, .int .i64 0, .int .i64 0, .int .i64 0, .slice none 0 0, .slice none 0 0, .string ⟨#[]⟩, .int .i64 0] := by rw [hwa]; exact Blk.new _ _ _
  have hE : Ext w wa := by rw [hwa, hw0]; exact ((Ext.rfl' w).alloc (Nat.le_refl _) _).alloc (by simp only [World.size_alloc]; omega) _
  have hlo : w.heap.size ≤ w0.heap.size := by rw [hw0]; simp only [World.size_alloc]; omega
  have hne : w.heap.size ≠ w0.heap.size := by rw [hw0]; simp only [World.size_alloc]; omega
  obtain ⟨gu, hgu⟩ : ∃ g, g = w0.heap.size := ⟨_, rfl⟩
  obtain ⟨gt, hgt⟩ : ∃ g, g = w.heap.size := ⟨_, rfl⟩
  rw [← hgt] at hT0
  have i0 := hT0.cell 0
  simp only [List.getElem?_toArray, List.getElem?_cons_zero, List.getElem?_cons_succ] at i0
  rw [← hgu] at hU hlo hne
  rw [← hgt] at hT hne
  have t0 := hT.cell 0
  have t1 := hT.cell 1
  have t2 := hT.cell 2
  have t3 := hT.cell 3
  have t4 := hT.cell 4
  have t5 := hT.cell 5
  have t6 := hT.cell 6
  have t7 := hT.cell 7
  have t8 := hT.cell 8
  simp only [List.getElem?_toArray, List.getElem?_cons_zero, List.getElem?_cons_succ] at t0 t1 t2 t3 t4 t5 t6 t7 t8
  have u0 := hU.cell 0
  have u1 := hU.cell 1
  have u2 := hU.cell 2
  have u3 := hU.cell 3
  have u4 := hU.cell 4
  have u5 := hU.cell 5
  have u6 := hU.cell 6
  have u7 := hU.cell 7
  have u8 := hU.cell 8
  simp only [List.getElem?_toArray, List.getElem?_cons_zero, List.getElem?_cons_succ] at u0 u1 u2 u3 u4 u5 u6 u7 u8
  have g0 := hU.free 0
  have HT := hide hT
  have HU := hide hU
  have HE := hide hE
  have HLO := hide hlo
  have HNE := hide hne
  have HW0 := hide hw0
  have HWA := hide hwa
  have HGU := hide hgu
  have HGT := hide hgt
  clear hsame hw0 hwa hT0 hT hU hE hlo hne hgu hgt
  go_enter Try.func19, Try.ntmps19
  go_upto_region 1 with fail
  rw [← HW0.out, ← HGT.out]
  go_upto_region 2 with fail
  rw [← HWA.out, ← HGU.out]
  clear i0
  clear g0
  have g5 := HU.out.free 5
  go_upto_region 9 with fail
  have hT : Blk (wa.setCell ⟨gu, 5, none⟩ (.slice An z cn)) gt 27 #[.int .i64 4, .int .i64 a, .int .i64 lo, .int .i64 hi, .int .i64 mo, .slice An z cn, .slice Ap n cp, .string s, .int .i64 y] := (HT.out.far (p := ⟨gu, 5, none⟩) HNE.out _)
  have hU : Blk (wa.setCell ⟨gu, 5, none⟩ (.slice An z cn)) gu 27 #[.int .i64 4, .int .i64 0, .int .i64 0, .int .i64 0, .int .i64 0, .slice An z cn, .slice none 0 0, .string ⟨#[]⟩, .int .i64 0] := (HU.out.set_ 5 _)
  have hE : Ext w (wa.setCell ⟨gu, 5, none⟩ (.slice An z cn)) := (HE.out.setCell HLO.out _)
  obtain ⟨w1, hw1⟩ : ∃ x, x = (wa.setCell ⟨gu, 5, none⟩ (.slice An z cn)) := ⟨_, rfl⟩
  rw [← hw1] at hT hU hE ⊢
  have t0 := hT.cell 0
  have t1 := hT.cell 1
  have t2 := hT.cell 2
  have t3 := hT.cell 3
  have t4 := hT.cell 4
  have t5 := hT.cell 5
  have t6 := hT.cell 6
  have t7 := hT.cell 7
  have t8 := hT.cell 8
  simp only [List.getElem?_toArray, List.getElem?_cons_zero, List.getElem?_cons_succ] at t0 t1 t2 t3 t4 t5 t6 t7 t8
  have u0 := hU.cell 0
  have u1 := hU.cell 1
  have u2 := hU.cell 2
  have u3 := hU.cell 3
  have u4 := hU.cell 4
  have u5 := hU.cell 5
  have u6 := hU.cell 6
  have u7 := hU.cell 7
  have u8 := hU.cell 8
  simp only [List.getElem?_toArray, List.getElem?_cons_zero, List.getElem?_cons_succ] at u0 u1 u2 u3 u4 u5 u6 u7 u8
  have HT := hide hT
  have HU := hide hU
  have HE := hide hE
  clear hT hU hE hw1
  go_wp2_with fail
  refine (HS.out _ HE.out).mono ?_
  rintro e w9 ⟨rfl, hE9⟩
  have HE9 := hide (HE.out.trans' hE9)
  clear hE9
  go_wp2_with fail
  go_ret
  exact ⟨rfl, HE9.out⟩

set_option maxRecDepth 100000 in
set_option maxHeartbeats 4000000 in
theorem refOwn_5 (a lo hi mo y : Int) (An : Option Addr) (z cn : Nat) (Ap : Option Addr) (n cp : Nat) (s : ByteArray) (R : Bool) (w : World)
    (hsame : ∀ w1, Ext w w1 → Calls Try.prog 14 #[.agg #[.int .i64 5, .int .i64 a, .int .i64 lo, .int .i64 hi, .int .i64 mo, .slice An z cn, .slice Ap n cp, .string s, .int .i64 y], .agg #[.int .i64 5, .int .i64 0, .int .i64 0, .int .i64 0, .int .i64 mo, .slice none 0 0, .slice Ap n cp, .string ⟨#[]⟩, .int .i64 0]] w1 (fun e w' => e = .returned (.bool R) ∧ Ext w1 w')) :
    Calls Try.prog 19 #[.agg #[.int .i64 5, .int .i64 a, .int .i64 lo, .int .i64 hi, .int .i64 mo, .slice An z cn, .slice Ap n cp, .string s, .int .i64 y]] w (fun e w' => e = .returned (.bool R) ∧ Ext w w') := by
  have HS := hide hsame
  obtain ⟨w0, hw0⟩ : ∃ x, x = w.alloc (.cells #[.int .i64 5, .int .i64 a, .int .i64 lo, .int .i64 hi, .int .i64 mo, .slice An z cn, .slice Ap n cp, .string s, .int .i64 y] 27) := ⟨_, rfl⟩
  have hT0 : Blk w0 w.heap.size 27 #[.int .i64 5, .int .i64 a, .int .i64 lo, .int .i64 hi, .int .i64 mo, .slice An z cn, .slice Ap n cp, .string s, .int .i64 y] := by rw [hw0]; exact Blk.new _ _ _
  obtain ⟨wa, hwa⟩ : ∃ x, x = w0.alloc (.cells #[.int .i64 5, .int .i64 0, .int .i64 0, .int .i64 0, .int .i64 0, .slice none 0 0, .slice none 0 0, .string ⟨#[]⟩, .int .i64 0] 27) := ⟨_, rfl⟩
  have hT : Blk wa w.heap.size 27 #[.int .i64 5, .int .i64 a, .int .i64 lo, .int .i64 hi, .int .i64 mo, .slice An z cn, .slice Ap n cp, .string s, .int .i64 y] := by rw [hwa]; exact hT0.alloc _
  have hU : Blk wa w0.heap.size 27 #[.int .i64 5, .int .i64 0, .int .i64 0, .int .i64 0, .int .i64 0, .slice none 0 0, .slice none 0 0, .string ⟨#[]⟩, .int .i64 0] := by rw [hwa]; exact Blk.new _ _ _
  have hE : Ext w wa := by rw [hwa, hw0]; exact ((Ext.rfl' w).alloc (Nat.le_refl _) _).alloc (by simp only [World.size_alloc]; omega) _
  have hlo : w.heap.size ≤ w0.heap.size := by rw [hw0]; simp only [World.size_alloc]; omega
  have hne : w.heap.size ≠ w0.heap.size := by rw [hw0]; simp only [World.size_alloc]; omega
  obtain ⟨gu, hgu⟩ : ∃ g, g = w0.heap.size := ⟨_, rfl⟩
  obtain ⟨gt, hgt⟩ : ∃ g, g = w.heap.size := ⟨_, rfl⟩
  rw [← hgt] at hT0
  have i0 := hT0.cell 0
  simp only [List.getElem?_toArray, List.getElem?_cons_zero, List.getElem?_cons_succ] at i0
  rw [← hgu] at hU hlo hne
  rw [← hgt] at hT hne
  have t0 := hT.cell 0
  have t1 := hT.cell 1
  have t2 := hT.cell 2
  have t3 := hT.cell 3
  have t4 := hT.cell 4
  have t5 := hT.cell 5
  have t6 := hT.cell 6
  have t7 := hT.cell 7
  have t8 := hT.cell 8
  simp only [List.getElem?_toArray, List.getElem?_cons_zero, List.getElem?_cons_succ] at t0 t1 t2 t3 t4 t5 t6 t7 t8
  have u0 := hU.cell 0
  have u1 := hU.cell 1
  have u2 := hU.cell 2
  have u3 := hU.cell 3
  have u4 := hU.cell 4
  have u5 := hU.cell 5
  have u6 := hU.cell 6
  have u7 := hU.cell 7
  have u8 := hU.cell 8
  simp only [List.getElem?_toArray, List.getElem?_cons_zero, List.getElem?_cons_succ] at u0 u1 u2 u3 u4 u5 u6 u7 u8
  have g0 := hU.free 0
  have HT := hide hT
  have HU := hide hU
  have HE := hide hE
  have HLO := hide hlo
  have HNE := hide hne
  have HW0 := hide hw0
  have HWA := hide hwa
  have HGU := hide hgu
  have HGT := hide hgt
  clear hsame hw0 hwa hT0 hT hU hE hlo hne hgu hgt
  go_enter Try.func19, Try.ntmps19
  go_upto_region 1 with fail
  rw [← HW0.out, ← HGT.out]
  go_upto_region 2 with fail
  rw [← HWA.out, ← HGU.out]
  clear i0
  clear g0
  have g4 := HU.out.free 4
  go_upto_region 7 with fail
  have hT : Blk (wa.setCell ⟨gu, 4, none⟩ (.int .i64 mo)) gt 27 #[.int .i64 5, .int .i64 a, .int .i64 lo, .int .i64 hi, .int .i64 mo, .slice An z cn, .slice Ap n cp, .string s, .int .i64 y] := (HT.out.far (p := ⟨gu, 4, none⟩) HNE.out _)
  have hU : Blk (wa.setCell ⟨gu, 4, none⟩ (.int .i64 mo)) gu 27 #[.int .i64 5, .int .i64 0, .int .i64 0, .int .i64 0, .int .i64 mo, .slice none 0 0, .slice none 0 0, .string ⟨#[]⟩, .int .i64 0] := (HU.out.set_ 4 _)
  have hE : Ext w (wa.setCell ⟨gu, 4, none⟩ (.int .i64 mo)) := (HE.out.setCell HLO.out _)
  obtain ⟨w1, hw1⟩ : ∃ x, x = (wa.setCell ⟨gu, 4, none⟩ (.int .i64 mo)) := ⟨_, rfl⟩
  rw [← hw1] at hT hU hE ⊢
  have t0 := hT.cell 0
  have t1 := hT.cell 1
  have t2 := hT.cell 2
  have t3 := hT.cell 3
  have t4 := hT.cell 4
  have t5 := hT.cell 5
  have t6 := hT.cell 6
  have t7 := hT.cell 7
  have t8 := hT.cell 8
  simp only [List.getElem?_toArray, List.getElem?_cons_zero, List.getElem?_cons_succ] at t0 t1 t2 t3 t4 t5 t6 t7 t8
  have u0 := hU.cell 0
  have u1 := hU.cell 1
  have u2 := hU.cell 2
  have u3 := hU.cell 3
  have u4 := hU.cell 4
  have u5 := hU.cell 5
  have u6 := hU.cell 6
  have u7 := hU.cell 7
  have u8 := hU.cell 8
  simp only [List.getElem?_toArray, List.getElem?_cons_zero, List.getElem?_cons_succ] at u0 u1 u2 u3 u4 u5 u6 u7 u8
  have HT := hide hT
  have HU := hide hU
  have HE := hide hE
  clear hT hU hE hw1
  have g6 := HU.out.free 6
  go_upto_region 11 with fail
  have hT : Blk (w1.setCell ⟨gu, 6, none⟩ (.slice Ap n cp)) gt 27 #[.int .i64 5, .int .i64 a, .int .i64 lo, .int .i64 hi, .int .i64 mo, .slice An z cn, .slice Ap n cp, .string s, .int .i64 y] := (HT.out.far (p := ⟨gu, 6, none⟩) HNE.out _)
  have hU : Blk (w1.setCell ⟨gu, 6, none⟩ (.slice Ap n cp)) gu 27 #[.int .i64 5, .int .i64 0, .int .i64 0, .int .i64 0, .int .i64 mo, .slice none 0 0, .slice Ap n cp, .string ⟨#[]⟩, .int .i64 0] := (HU.out.set_ 6 _)
  have hE : Ext w (w1.setCell ⟨gu, 6, none⟩ (.slice Ap n cp)) := (HE.out.setCell HLO.out _)
  obtain ⟨w2, hw2⟩ : ∃ x, x = (w1.setCell ⟨gu, 6, none⟩ (.slice Ap n cp)) := ⟨_, rfl⟩
  rw [← hw2] at hT hU hE ⊢
  have t0 := hT.cell 0
  have t1 := hT.cell 1
  have t2 := hT.cell 2
  have t3 := hT.cell 3
  have t4 := hT.cell 4
  have t5 := hT.cell 5
  have t6 := hT.cell 6
  have t7 := hT.cell 7
  have t8 := hT.cell 8
  simp only [List.getElem?_toArray, List.getElem?_cons_zero, List.getElem?_cons_succ] at t0 t1 t2 t3 t4 t5 t6 t7 t8
  have u0 := hU.cell 0
  have u1 := hU.cell 1
  have u2 := hU.cell 2
  have u3 := hU.cell 3
  have u4 := hU.cell 4
  have u5 := hU.cell 5
  have u6 := hU.cell 6
  have u7 := hU.cell 7
  have u8 := hU.cell 8
  simp only [List.getElem?_toArray, List.getElem?_cons_zero, List.getElem?_cons_succ] at u0 u1 u2 u3 u4 u5 u6 u7 u8
  have HT := hide hT
  have HU := hide hU
  have HE := hide hE
  clear hT hU hE hw2
  go_wp2_with fail
  refine (HS.out _ HE.out).mono ?_
  rintro e w9 ⟨rfl, hE9⟩
  have HE9 := hide (HE.out.trans' hE9)
  clear hE9
  go_wp2_with fail
  go_ret
  exact ⟨rfl, HE9.out⟩

set_option maxRecDepth 100000 in
set_option maxHeartbeats 4000000 in
theorem refOwn_p (k a lo hi mo y : Int) (An : Option Addr) (z cn : Nat) (Ap : Option Addr) (n cp : Nat) (s : ByteArray) (k2 : (k == 2) = false) (k3 : (k == 3) = false) (k4 : (k == 4) = false) (k5 : (k == 5) = false) (k6 : 4 < k) (k7 : k < 9) (k9 : (k == 9) = false) (R : Bool) (w : World)
    (hsame : ∀ w1, Ext w w1 → Calls Try.prog 14 #[.agg #[.int .i64 k, .int .i64 a, .int .i64 lo, .int .i64 hi, .int .i64 mo, .slice An z cn, .slice Ap n cp, .string s, .int .i64 y], .agg #[.int .i64 k, .int .i64 0, .int .i64 0, .int .i64 0, .int .i64 0, .slice none 0 0, .slice Ap n cp, .string ⟨#[]⟩, .int .i64 0]] w1 (fun e w' => e = .returned (.bool R) ∧ Ext w1 w')) :
    Calls Try.prog 19 #[.agg #[.int .i64 k, .int .i64 a, .int .i64 lo, .int .i64 hi, .int .i64 mo, .slice An z cn, .slice Ap n cp, .string s, .int .i64 y]] w (fun e w' => e = .returned (.bool R) ∧ Ext w w') := by
  have HS := hide hsame
  obtain ⟨w0, hw0⟩ : ∃ x, x = w.alloc (.cells #[.int .i64 k, .int .i64 a, .int .i64 lo, .int .i64 hi, .int .i64 mo, .slice An z cn, .slice Ap n cp, .string s, .int .i64 y] 27) := ⟨_, rfl⟩
  have hT0 : Blk w0 w.heap.size 27 #[.int .i64 k, .int .i64 a, .int .i64 lo, .int .i64 hi, .int .i64 mo, .slice An z cn, .slice Ap n cp, .string s, .int .i64 y] := by rw [hw0]; exact Blk.new _ _ _
  obtain ⟨wa, hwa⟩ : ∃ x, x = w0.alloc (.cells #[.int .i64 k, .int .i64 0, .int .i64 0, .int .i64 0, .int .i64 0, .slice none 0 0, .slice none 0 0, .string ⟨#[]⟩, .int .i64 0] 27) := ⟨_, rfl⟩
  have hT : Blk wa w.heap.size 27 #[.int .i64 k, .int .i64 a, .int .i64 lo, .int .i64 hi, .int .i64 mo, .slice An z cn, .slice Ap n cp, .string s, .int .i64 y] := by rw [hwa]; exact hT0.alloc _
  have hU : Blk wa w0.heap.size 27 #[.int .i64 k, .int .i64 0, .int .i64 0, .int .i64 0, .int .i64 0, .slice none 0 0, .slice none 0 0, .string ⟨#[]⟩, .int .i64 0] := by rw [hwa]; exact Blk.new _ _ _
  have hE : Ext w wa := by rw [hwa, hw0]; exact ((Ext.rfl' w).alloc (Nat.le_refl _) _).alloc (by simp only [World.size_alloc]; omega) _
  have hlo : w.heap.size ≤ w0.heap.size := by rw [hw0]; simp only [World.size_alloc]; omega
  have hne : w.heap.size ≠ w0.heap.size := by rw [hw0]; simp only [World.size_alloc]; omega
  obtain ⟨gu, hgu⟩ : ∃ g, g = w0.heap.size := ⟨_, rfl⟩
  obtain ⟨gt, hgt⟩ : ∃ g, g = w.heap.size := ⟨_, rfl⟩
  rw [← hgt] at hT0
  have i0 := hT0.cell 0
  simp only [List.getElem?_toArray, List.getElem?_cons_zero, List.getElem?_cons_succ] at i0
  rw [← hgu] at hU hlo hne
  rw [← hgt] at hT hne
  have t0 := hT.cell 0
  have t1 := hT.cell 1
  have t2 := hT.cell 2
  have t3 := hT.cell 3
  have t4 := hT.cell 4
  have t5 := hT.cell 5
  have t6 := hT.cell 6
  have t7 := hT.cell 7
  have t8 := hT.cell 8
  simp only [List.getElem?_toArray, List.getElem?_cons_zero, List.getElem?_cons_succ] at t0 t1 t2 t3 t4 t5 t6 t7 t8
  have u0 := hU.cell 0
  have u1 := hU.cell 1
  have u2 := hU.cell 2
  have u3 := hU.cell 3
  have u4 := hU.cell 4
  have u5 := hU.cell 5
  have u6 := hU.cell 6
  have u7 := hU.cell 7
  have u8 := hU.cell 8
  simp only [List.getElem?_toArray, List.getElem?_cons_zero, List.getElem?_cons_succ] at u0 u1 u2 u3 u4 u5 u6 u7 u8
  have g0 := hU.free 0
  have HT := hide hT
  have HU := hide hU
  have HE := hide hE
  have HLO := hide hlo
  have HNE := hide hne
  have HW0 := hide hw0
  have HWA := hide hwa
  have HGU := hide hgu
  have HGT := hide hgt
  clear hsame hw0 hwa hT0 hT hU hE hlo hne hgu hgt
  go_enter Try.func19, Try.ntmps19
  go_upto_region 1 with fail
  rw [← HW0.out, ← HGT.out]
  go_upto_region 2 with fail
  rw [← HWA.out, ← HGU.out]
  clear i0
  clear g0
  have g6 := HU.out.free 6
  go_upto_region 11 with fail
  have hT : Blk (wa.setCell ⟨gu, 6, none⟩ (.slice Ap n cp)) gt 27 #[.int .i64 k, .int .i64 a, .int .i64 lo, .int .i64 hi, .int .i64 mo, .slice An z cn, .slice Ap n cp, .string s, .int .i64 y] := (HT.out.far (p := ⟨gu, 6, none⟩) HNE.out _)
  have hU : Blk (wa.setCell ⟨gu, 6, none⟩ (.slice Ap n cp)) gu 27 #[.int .i64 k, .int .i64 0, .int .i64 0, .int .i64 0, .int .i64 0, .slice none 0 0, .slice Ap n cp, .string ⟨#[]⟩, .int .i64 0] := (HU.out.set_ 6 _)
  have hE : Ext w (wa.setCell ⟨gu, 6, none⟩ (.slice Ap n cp)) := (HE.out.setCell HLO.out _)
  obtain ⟨w1, hw1⟩ : ∃ x, x = (wa.setCell ⟨gu, 6, none⟩ (.slice Ap n cp)) := ⟨_, rfl⟩
  rw [← hw1] at hT hU hE ⊢
  have t0 := hT.cell 0
  have t1 := hT.cell 1
  have t2 := hT.cell 2
  have t3 := hT.cell 3
  have t4 := hT.cell 4
  have t5 := hT.cell 5
  have t6 := hT.cell 6
  have t7 := hT.cell 7
  have t8 := hT.cell 8
  simp only [List.getElem?_toArray, List.getElem?_cons_zero, List.getElem?_cons_succ] at t0 t1 t2 t3 t4 t5 t6 t7 t8
  have u0 := hU.cell 0
  have u1 := hU.cell 1
  have u2 := hU.cell 2
  have u3 := hU.cell 3
  have u4 := hU.cell 4
  have u5 := hU.cell 5
  have u6 := hU.cell 6
  have u7 := hU.cell 7
  have u8 := hU.cell 8
  simp only [List.getElem?_toArray, List.getElem?_cons_zero, List.getElem?_cons_succ] at u0 u1 u2 u3 u4 u5 u6 u7 u8
  have HT := hide hT
  have HU := hide hU
  have HE := hide hE
  clear hT hU hE hw1
  go_wp2_with fail
  refine (HS.out _ HE.out).mono ?_
  rintro e w9 ⟨rfl, hE9⟩
  have HE9 := hide (HE.out.trans' hE9)
  clear hE9
  go_wp2_with fail
  go_ret
  exact ⟨rfl, HE9.out⟩

set_option maxRecDepth 100000 in
set_option maxHeartbeats 4000000 in
theorem refOwn_9 (a lo hi mo y : Int) (An : Option Addr) (z cn : Nat) (Ap : Option Addr) (n cp : Nat) (s : ByteArray) (R : Bool) (w : World)
    (hsame : ∀ w1, Ext w w1 → Calls Try.prog 14 #[.agg #[.int .i64 9, .int .i64 a, .int .i64 lo, .int .i64 hi, .int .i64 mo, .slice An z cn, .slice Ap n cp, .string s, .int .i64 y], .agg #[.int .i64 9, .int .i64 0, .int .i64 0, .int .i64 0, .int .i64 0, .slice none 0 0, .slice none 0 0, .string s, .int .i64 y]] w1 (fun e w' => e = .returned (.bool R) ∧ Ext w1 w')) :
    Calls Try.prog 19 #[.agg #[.int .i64 9, .int .i64 a, .int .i64 lo, .int .i64 hi, .int .i64 mo, .slice An z cn, .slice Ap n cp, .string s, .int .i64 y]] w (fun e w' => e = .returned (.bool R) ∧ Ext w w') := by
  have HS := hide hsame
  obtain ⟨w0, hw0⟩ : ∃ x, x = w.alloc (.cells #[.int .i64 9, .int .i64 a, .int .i64 lo, .int .i64 hi, .int .i64 mo, .slice An z cn, .slice Ap n cp, .string s, .int .i64 y] 27) := ⟨_, rfl⟩
  have hT0 : Blk w0 w.heap.size 27 #[.int .i64 9, .int .i64 a, .int .i64 lo, .int .i64 hi, .int .i64 mo, .slice An z cn, .slice Ap n cp, .string s, .int .i64 y] := by rw [hw0]; exact Blk.new _ _ _
  obtain ⟨wa, hwa⟩ : ∃ x, x = w0.alloc (.cells #[.int .i64 9, .int .i64 0, .int .i64 0, .int .i64 0, .int .i64 0, .slice none 0 0, .slice none 0 0, .string ⟨#[]⟩, .int .i64 0] 27) := ⟨_, rfl⟩
  have hT : Blk wa w.heap.size 27 #[.int .i64 9, .int .i64 a, .int .i64 lo, .int .i64 hi, .int .i64 mo, .slice An z cn, .slice Ap n cp, .string s, .int .i64 y] := by rw [hwa]; exact hT0.alloc _
  have hU : Blk wa w0.heap.size 27 #[.int .i64 9, .int .i64 0, .int .i64 0, .int .i64 0, .int .i64 0, .slice none 0 0, .slice none 0 0, .string ⟨#[]⟩, .int .i64 0] := by rw [hwa]; exact Blk.new _ _ _
  have hE : Ext w wa := by rw [hwa, hw0]; exact ((Ext.rfl' w).alloc (Nat.le_refl _) _).alloc (by simp only [World.size_alloc]; omega) _
  have hlo : w.heap.size ≤ w0.heap.size := by rw [hw0]; simp only [World.size_alloc]; omega
  have hne : w.heap.size ≠ w0.heap.size := by rw [hw0]; simp only [World.size_alloc]; omega
  obtain ⟨gu, hgu⟩ : ∃ g, g = w0.heap.size := ⟨_, rfl⟩
  obtain ⟨gt, hgt⟩ : ∃ g, g = w.heap.size := ⟨_, rfl⟩
  rw [← hgt] at hT0
  have i0 := hT0.cell 0
  simp only [List.getElem?_toArray, List.getElem?_cons_zero, List.getElem?_cons_succ] at i0
  rw [← hgu] at hU hlo hne
  rw [← hgt] at hT hne
  have t0 := hT.cell 0
  have t1 := hT.cell 1
  have t2 := hT.cell 2
  have t3 := hT.cell 3
  have t4 := hT.cell 4
  have t5 := hT.cell 5
  have t6 := hT.cell 6
  have t7 := hT.cell 7
  have t8 := hT.cell 8
  simp only [List.getElem?_toArray, List.getElem?_cons_zero, List.getElem?_cons_succ] at t0 t1 t2 t3 t4 t5 t6 t7 t8
  have u0 := hU.cell 0
  have u1 := hU.cell 1
  have u2 := hU.cell 2
  have u3 := hU.cell 3
  have u4 := hU.cell 4
  have u5 := hU.cell 5
  have u6 := hU.cell 6
  have u7 := hU.cell 7
  have u8 := hU.cell 8
  simp only [List.getElem?_toArray, List.getElem?_cons_zero, List.getElem?_cons_succ] at u0 u1 u2 u3 u4 u5 u6 u7 u8
  have g0 := hU.free 0
  have HT := hide hT
  have HU := hide hU
  have HE := hide hE
  have HLO := hide hlo
  have HNE := hide hne
  have HW0 := hide hw0
  have HWA := hide hwa
  have HGU := hide hgu
  have HGT := hide hgt
  clear hsame hw0 hwa hT0 hT hU hE hlo hne hgu hgt
  go_enter Try.func19, Try.ntmps19
  go_upto_region 1 with fail
  rw [← HW0.out, ← HGT.out]
  go_upto_region 2 with fail
  rw [← HWA.out, ← HGU.out]
  clear i0
  clear g0
  have g7 := HU.out.free 7
  have g8 := HU.out.free 8
  go_upto_region 13 with fail
  have hT : Blk ((wa.setCell ⟨gu, 7, none⟩ (.string s)).setCell ⟨gu, 8, none⟩ (.int .i64 y)) gt 27 #[.int .i64 9, .int .i64 a, .int .i64 lo, .int .i64 hi, .int .i64 mo, .slice An z cn, .slice Ap n cp, .string s, .int .i64 y] := ((HT.out.far (p := ⟨gu, 7, none⟩) HNE.out _).far (p := ⟨gu, 8, none⟩) HNE.out _)
  have hU : Blk ((wa.setCell ⟨gu, 7, none⟩ (.string s)).setCell ⟨gu, 8, none⟩ (.int .i64 y)) gu 27 #[.int .i64 9, .int .i64 0, .int .i64 0, .int .i64 0, .int .i64 0, .slice none 0 0, .slice none 0 0, .string s, .int .i64 y] := ((HU.out.set_ 7 _).set_ 8 _)
  have hE : Ext w ((wa.setCell ⟨gu, 7, none⟩ (.string s)).setCell ⟨gu, 8, none⟩ (.int .i64 y)) := ((HE.out.setCell HLO.out _).setCell HLO.out _)
  obtain ⟨w1, hw1⟩ : ∃ x, x = ((wa.setCell ⟨gu, 7, none⟩ (.string s)).setCell ⟨gu, 8, none⟩ (.int .i64 y)) := ⟨_, rfl⟩
  rw [← hw1] at hT hU hE ⊢
  have t0 := hT.cell 0
  have t1 := hT.cell 1
  have t2 := hT.cell 2
  have t3 := hT.cell 3
  have t4 := hT.cell 4
  have t5 := hT.cell 5
  have t6 := hT.cell 6
  have t7 := hT.cell 7
  have t8 := hT.cell 8
  simp only [List.getElem?_toArray, List.getElem?_cons_zero, List.getElem?_cons_succ] at t0 t1 t2 t3 t4 t5 t6 t7 t8
  have u0 := hU.cell 0
  have u1 := hU.cell 1
  have u2 := hU.cell 2
  have u3 := hU.cell 3
  have u4 := hU.cell 4
  have u5 := hU.cell 5
  have u6 := hU.cell 6
  have u7 := hU.cell 7
  have u8 := hU.cell 8
  simp only [List.getElem?_toArray, List.getElem?_cons_zero, List.getElem?_cons_succ] at u0 u1 u2 u3 u4 u5 u6 u7 u8
  have HT := hide hT
  have HU := hide hU
  have HE := hide hE
  clear hT hU hE hw1
  go_wp2_with fail
  refine (HS.out _ HE.out).mono ?_
  rintro e w9 ⟨rfl, hE9⟩
  have HE9 := hide (HE.out.trans' hE9)
  clear hE9
  go_wp2_with fail
  go_ret
  exact ⟨rfl, HE9.out⟩

set_option maxRecDepth 100000 in
set_option maxHeartbeats 4000000 in
theorem refOwn_l (k a lo hi mo y : Int) (An : Option Addr) (z cn : Nat) (Ap : Option Addr) (n cp : Nat) (s : ByteArray) (k2 : (k == 2) = false) (k3 : (k == 3) = false) (k4 : (k == 4) = false) (k5 : (k == 5) = false) (k6 : ¬ 4 < k) (k9 : (k == 9) = false) (R : Bool) (w : World)
    (hsame : ∀ w1, Ext w w1 → Calls Try.prog 14 #[.agg #[.int .i64 k, .int .i64 a, .int .i64 lo, .int .i64 hi, .int .i64 mo, .slice An z cn, .slice Ap n cp, .string s, .int .i64 y], .agg #[.int .i64 k, .int .i64 0, .int .i64 0, .int .i64 0, .int .i64 0, .slice none 0 0, .slice none 0 0, .string ⟨#[]⟩, .int .i64 0]] w1 (fun e w' => e = .returned (.bool R) ∧ Ext w1 w')) :
    Calls Try.prog 19 #[.agg #[.int .i64 k, .int .i64 a, .int .i64 lo, .int .i64 hi, .int .i64 mo, .slice An z cn, .slice Ap n cp, .string s, .int .i64 y]] w (fun e w' => e = .returned (.bool R) ∧ Ext w w') := by
  have HS := hide hsame
  obtain ⟨w0, hw0⟩ : ∃ x, x = w.alloc (.cells #[.int .i64 k, .int .i64 a, .int .i64 lo, .int .i64 hi, .int .i64 mo, .slice An z cn, .slice Ap n cp, .string s, .int .i64 y] 27) := ⟨_, rfl⟩
  have hT0 : Blk w0 w.heap.size 27 #[.int .i64 k, .int .i64 a, .int .i64 lo, .int .i64 hi, .int .i64 mo, .slice An z cn, .slice Ap n cp, .string s, .int .i64 y] := by rw [hw0]; exact Blk.new _ _ _
  obtain ⟨wa, hwa⟩ : ∃ x, x = w0.alloc (.cells #[.int .i64 k, .int .i64 0, .int .i64 0, .int .i64 0, .int .i64 0, .slice none 0 0, .slice none 0 0, .string ⟨#[]⟩, .int .i64 0] 27) := ⟨_, rfl⟩
  have hT : Blk wa w.heap.size 27 #[.int .i64 k, .int .i64 a, .int .i64 lo, .int .i64 hi, .int .i64 mo, .slice An z cn, .slice Ap n cp, .string s, .int .i64 y] := by rw [hwa]; exact hT0.alloc _
  have hU : Blk wa w0.heap.size 27 #[.int .i64 k, .int .i64 0, .int .i64 0, .int .i64 0, .int .i64 0, .slice none 0 0, .slice none 0 0, .string ⟨#[]⟩, .int .i64 0] := by rw [hwa]; exact Blk.new _ _ _
  have hE : Ext w wa := by rw [hwa, hw0]; exact ((Ext.rfl' w).alloc (Nat.le_refl _) _).alloc (by simp only [World.size_alloc]; omega) _
  have hlo : w.heap.size ≤ w0.heap.size := by rw [hw0]; simp only [World.size_alloc]; omega
  have hne : w.heap.size ≠ w0.heap.size := by rw [hw0]; simp only [World.size_alloc]; omega
  obtain ⟨gu, hgu⟩ : ∃ g, g = w0.heap.size := ⟨_, rfl⟩
  obtain ⟨gt, hgt⟩ : ∃ g, g = w.heap.size := ⟨_, rfl⟩
  rw [← hgt] at hT0
  have i0 := hT0.cell 0
  simp only [List.getElem?_toArray, List.getElem?_cons_zero, List.getElem?_cons_succ] at i0
  rw [← hgu] at hU hlo hne
  rw [← hgt] at hT hne
  have t0 := hT.cell 0
  have t1 := hT.cell 1
  have t2 := hT.cell 2
  have t3 := hT.cell 3
  have t4 := hT.cell 4
  have t5 := hT.cell 5
  have t6 := hT.cell 6
  have t7 := hT.cell 7
  have t8 := hT.cell 8
  simp only [List.getElem?_toArray, List.getElem?_cons_zero, List.getElem?_cons_succ] at t0 t1 t2 t3 t4 t5 t6 t7 t8
  have u0 := hU.cell 0
  have u1 := hU.cell 1
  have u2 := hU.cell 2
  have u3 := hU.cell 3
  have u4 := hU.cell 4
  have u5 := hU.cell 5
  have u6 := hU.cell 6
  have u7 := hU.cell 7
  have u8 := hU.cell 8
  simp only [List.getElem?_toArray, List.getElem?_cons_zero, List.getElem?_cons_succ] at u0 u1 u2 u3 u4 u5 u6 u7 u8
  have g0 := hU.free 0
  have HT := hide hT
  have HU := hide hU
  have HE := hide hE
  have HLO := hide hlo
  have HNE := hide hne
  have HW0 := hide hw0
  have HWA := hide hwa
  have HGU := hide hgu
  have HGT := hide hgt
  clear hsame hw0 hwa hT0 hT hU hE hlo hne hgu hgt
  go_enter Try.func19, Try.ntmps19
  go_upto_region 1 with fail
  rw [← HW0.out, ← HGT.out]
  go_upto_region 2 with fail
  rw [← HWA.out, ← HGU.out]
  clear i0
  go_wp2_with fail
  refine (HS.out _ HE.out).mono ?_
  rintro e w9 ⟨rfl, hE9⟩
  have HE9 := hide (HE.out.trans' hE9)
  clear hE9
  go_wp2_with fail
  go_ret
  exact ⟨rfl, HE9.out⟩

set_option maxRecDepth 100000 in
set_option maxHeartbeats 4000000 in
theorem refOwn_g (k a lo hi mo y : Int) (An : Option Addr) (z cn : Nat) (Ap : Option Addr) (n cp : Nat) (s : ByteArray) (k2 : (k == 2) = false) (k3 : (k == 3) = false) (k4 : (k == 4) = false) (k5 : (k == 5) = false) (k6 : 4 < k) (k7 : ¬ k < 9) (k9 : (k == 9) = false) (R : Bool) (w : World)
    (hsame : ∀ w1, Ext w w1 → Calls Try.prog 14 #[.agg #[.int .i64 k, .int .i64 a, .int .i64 lo, .int .i64 hi, .int .i64 mo, .slice An z cn, .slice Ap n cp, .string s, .int .i64 y], .agg #[.int .i64 k, .int .i64 0, .int .i64 0, .int .i64 0, .int .i64 0, .slice none 0 0, .slice none 0 0, .string ⟨#[]⟩, .int .i64 0]] w1 (fun e w' => e = .returned (.bool R) ∧ Ext w1 w')) :
    Calls Try.prog 19 #[.agg #[.int .i64 k, .int .i64 a, .int .i64 lo, .int .i64 hi, .int .i64 mo, .slice An z cn, .slice Ap n cp, .string s, .int .i64 y]] w (fun e w' => e = .returned (.bool R) ∧ Ext w w') := by
  have HS := hide hsame
  obtain ⟨w0, hw0⟩ : ∃ x, x = w.alloc (.cells #[.int .i64 k, .int .i64 a, .int .i64 lo, .int .i64 hi, .int .i64 mo, .slice An z cn, .slice Ap n cp, .string s, .int .i64 y] 27) := ⟨_, rfl⟩
  have hT0 : Blk w0 w.heap.size 27 #[.int .i64 k, .int .i64 a, .int .i64 lo, .int .i64 hi, .int .i64 mo, .slice An z cn, .slice Ap n cp, .string s, .int .i64 y] := by rw [hw0]; exact Blk.new _ _ _
  obtain ⟨wa, hwa⟩ : ∃ x, x = w0.alloc (.cells #[.int .i64 k, .int .i64 0, .int .i64 0, .int .i64 0, .int .i64 0, .slice none 0 0, .slice none 0 0, .string ⟨#[]⟩, .int .i64 0] 27) := ⟨_, rfl⟩
  have hT : Blk wa w.heap.size 27 #[.int .i64 k, .int .i64 a, .int .i64 lo, .int .i64 hi, .int .i64 mo, .slice An z cn, .slice Ap n cp, .string s, .int .i64 y] := by rw [hwa]; exact hT0.alloc _
  have hU : Blk wa w0.heap.size 27 #[.int .i64 k, .int .i64 0, .int .i64 0, .int .i64 0, .int .i64 0, .slice none 0 0, .slice none 0 0, .string ⟨#[]⟩, .int .i64 0] := by rw [hwa]; exact Blk.new _ _ _
  have hE : Ext w wa := by rw [hwa, hw0]; exact ((Ext.rfl' w).alloc (Nat.le_refl _) _).alloc (by simp only [World.size_alloc]; omega) _
  have hlo : w.heap.size ≤ w0.heap.size := by rw [hw0]; simp only [World.size_alloc]; omega
  have hne : w.heap.size ≠ w0.heap.size := by rw [hw0]; simp only [World.size_alloc]; omega
  obtain ⟨gu, hgu⟩ : ∃ g, g = w0.heap.size := ⟨_, rfl⟩
  obtain ⟨gt, hgt⟩ : ∃ g, g = w.heap.size := ⟨_, rfl⟩
  rw [← hgt] at hT0
  have i0 := hT0.cell 0
  simp only [List.getElem?_toArray, List.getElem?_cons_zero, List.getElem?_cons_succ] at i0
  rw [← hgu] at hU hlo hne
  rw [← hgt] at hT hne
  have t0 := hT.cell 0
  have t1 := hT.cell 1
  have t2 := hT.cell 2
  have t3 := hT.cell 3
  have t4 := hT.cell 4
  have t5 := hT.cell 5
  have t6 := hT.cell 6
  have t7 := hT.cell 7
  have t8 := hT.cell 8
  simp only [List.getElem?_toArray, List.getElem?_cons_zero, List.getElem?_cons_succ] at t0 t1 t2 t3 t4 t5 t6 t7 t8
  have u0 := hU.cell 0
  have u1 := hU.cell 1
  have u2 := hU.cell 2
  have u3 := hU.cell 3
  have u4 := hU.cell 4
  have u5 := hU.cell 5
  have u6 := hU.cell 6
  have u7 := hU.cell 7
  have u8 := hU.cell 8
  simp only [List.getElem?_toArray, List.getElem?_cons_zero, List.getElem?_cons_succ] at u0 u1 u2 u3 u4 u5 u6 u7 u8
  have g0 := hU.free 0
  have HT := hide hT
  have HU := hide hU
  have HE := hide hE
  have HLO := hide hlo
  have HNE := hide hne
  have HW0 := hide hw0
  have HWA := hide hwa
  have HGU := hide hgu
  have HGT := hide hgt
  clear hsame hw0 hwa hT0 hT hU hE hlo hne hgu hgt
  go_enter Try.func19, Try.ntmps19
  go_upto_region 1 with fail
  rw [← HW0.out, ← HGT.out]
  go_upto_region 2 with fail
  rw [← HWA.out, ← HGU.out]
  clear i0
  go_wp2_with fail
  refine (HS.out _ HE.out).mono ?_
  rintro e w9 ⟨rfl, hE9⟩
  have HE9 := hide (HE.out.trans' hE9)
  clear hE9
  go_wp2_with fail
  go_ret
  exact ⟨rfl, HE9.out⟩

theorem refOwn_any (h : TyH) (n : Nat) (p : Nat → PtH) (t : Nat → Ty) (w : World) (vs : List Value) (hT : TyAt w w.heap.size (.mk h n p t) vs) (hs : TySz (.mk h n p t)) :
    Calls Try.prog 19 #[.agg vs.toArray] w (fun e w' => e = .returned (.bool (ownB h n)) ∧ Ext w w') := by
  obtain ⟨An, cn, Ap, cp, e, _, _⟩ := id hT
  subst e
  have hsame : ∀ (An' : Option Addr) (cn' : Nat) (Ap' : Option Addr) (cp' : Nat), (h.kind = 4 → An' = An) → (4 < h.kind ∧ h.kind < 9 → Ap' = Ap) → ∀ w1, Ext w w1 → Calls Try.prog 14 #[.agg (tyV h An cn Ap n cp).toArray, .agg (tyV (ownH h) An' cn' Ap' (ownN h n) cp').toArray] w1 (fun e w' => e = .returned (.bool (ownB h n)) ∧ Ext w1 w') := by
    intro An' cn' Ap' cp' h4 h5 w1 hE
    have := refSame_any (.mk h n p t) (.mk (ownH h) (ownN h n) p t) w1 _ _ (hT.ext hE) (own_at (hT.ext hE) An' cn' Ap' cp' h4 h5) hs (own_sz hs)
    rw [own_same] at this
    exact this
  clear hT hs
  generalize ownB h n = R at hsame ⊢
  obtain ⟨k, a, lo, hi, mo, na, s, y⟩ := h
  unfold tyV ownH ownN at hsame
  unfold tyV
  dsimp only at hsame ⊢
  by_cases k2 : k = 2
  · subst k2
    exact refOwn_2 a lo hi mo y An na.length cn Ap n cp s R w (fun w1 hE => hsame none 0 none 0 (by intro hh; omega) (by intro hh; omega) w1 hE)
  by_cases k3 : k = 3
  · subst k3
    exact refOwn_3 a lo hi mo y An na.length cn Ap n cp s R w (fun w1 hE => hsame none 0 none 0 (by intro hh; omega) (by intro hh; omega) w1 hE)
  by_cases k4 : k = 4
  · subst k4
    exact refOwn_4 a lo hi mo y An na.length cn Ap n cp s R w (fun w1 hE => hsame An cn none 0 (fun _ => rfl) (by intro hh; omega) w1 hE)
  by_cases k5 : k = 5
  · subst k5
    exact refOwn_5 a lo hi mo y An na.length cn Ap n cp s R w (fun w1 hE => hsame none 0 Ap cp (by intro hh; omega) (fun _ => rfl) w1 hE)
  by_cases k9 : k = 9
  · subst k9
    exact refOwn_9 a lo hi mo y An na.length cn Ap n cp s R w (fun w1 hE => hsame none 0 none 0 (by intro hh; omega) (by intro hh; omega) w1 hE)
  have j2 : (k == 2) = false := by simpa using k2
  have j3 : (k == 3) = false := by simpa using k3
  have j4 : (k == 4) = false := by simpa using k4
  have j5 : (k == 5) = false := by simpa using k5
  have j9 : (k == 9) = false := by simpa using k9
  rw [if_neg k2, if_neg k2, if_neg (show ¬ (k = 3 ∨ k = 5) by omega), if_neg k4, if_neg k9] at hsame
  by_cases c4 : 4 < k
  · by_cases c9 : k < 9
    · rw [if_pos ⟨c4, c9⟩] at hsame
      exact refOwn_p k a lo hi mo y An na.length cn Ap n cp s j2 j3 j4 j5 c4 c9 j9 R w (fun w1 hE => hsame none 0 Ap cp (fun e => absurd e k4) (fun _ => rfl) w1 hE)
    · rw [if_neg (fun hh => c9 hh.2)] at hsame
      exact refOwn_g k a lo hi mo y An na.length cn Ap n cp s j2 j3 j4 j5 c4 c9 j9 R w (fun w1 hE => hsame none 0 none 0 (fun e => absurd e k4) (fun hh => absurd hh.2 c9) w1 hE)
  · rw [if_neg (fun hh => c4 hh.1)] at hsame
    exact refOwn_l k a lo hi mo y An na.length cn Ap n cp s j2 j3 j4 j5 c4 j9 R w (fun w1 hE => hsame none 0 none 0 (fun e => absurd e k4) (fun hh => absurd hh.1 c4) w1 hE)
end Go.Proofs.Ytanpljalbijfkaa
