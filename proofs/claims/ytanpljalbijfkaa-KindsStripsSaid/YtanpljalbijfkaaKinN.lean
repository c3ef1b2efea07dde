/- The law KindsTells, walked. (Printed by wip/gen_kinn.py.) -/
import Derived.Test.YtanpljalbijfkaaKinLV
import Derived.Test.YtanpljalbijfkaaKinBD
import Derived.Test.YtanpljalbijfkaaKinL
import Derived.Test.YtanpljalbijfkaaKinB
import Derived.Test.YtanpljalbijfkaaKinJ
namespace Go.Proofs.Ytanpljalbijfkaa
open Go.RowKit

def BoolAny (w : World) (e : Ending) (w' : World) : Prop := ∃ r : Bool, e = .returned (.bool r) ∧ Ext w w'
set_option maxRecDepth 100000 in
theorem kGreat_any (t : Ty) (w : World) (vs : List Value) (h : TyAt w w.heap.size t vs) (hs : TySz t) : Calls Try.prog 6 #[.agg vs.toArray] w (BoolAny w) := by
  obtain ⟨w1, hw1⟩ : ∃ w1, w1 = w.alloc (.cells vs.toArray 27) := ⟨_, rfl⟩
  have hE : Ext w w1 := by rw [hw1]; exact (Ext.rfl' w).alloc (Nat.le_refl _) _
  have HSZ := hide (size_any t w1 vs (h.ext hE) hs)
  obtain ⟨x0, x1, x2, x3, x4, x5, x6, x7, x8, rfl⟩ := h.nine
  obtain ⟨c, hc⟩ : ∃ x, x = cntI t := ⟨_, rfl⟩
  obtain ⟨d, hd⟩ : ∃ x, x = depI t := ⟨_, rfl⟩
  unfold SizePost at HSZ
  rw [← hc, ← hd] at HSZ
  have HS := hide (show Calls Try.prog 10 #[.agg #[x0, x1, x2, x3, x4, x5, x6, x7, x8]] w1 (fun e w' => e = .returned (.tuple #[.int .i64 c, .int .i64 d]) ∧ Ext w1 w') from HSZ.out)
  obtain ⟨g, hg⟩ : ∃ g, g = w.heap.size := ⟨_, rfl⟩
  have hB : Blk w1 g 27 #[x0, x1, x2, x3, x4, x5, x6, x7, x8] := by rw [hw1, hg]; exact Blk.new _ _ _
  have b0 := (hB).cell 0
  have b1 := (hB).cell 1
  have b2 := (hB).cell 2
  have b3 := (hB).cell 3
  have b4 := (hB).cell 4
  have b5 := (hB).cell 5
  have b6 := (hB).cell 6
  have b7 := (hB).cell 7
  have b8 := (hB).cell 8
  simp only [List.getElem?_toArray, List.getElem?_cons_zero, List.getElem?_cons_succ] at b0 b1 b2 b3 b4 b5 b6 b7 b8
  have HE := hide hE
  have HW1 := hide (show w1 = w.alloc (.cells #[x0, x1, x2, x3, x4, x5, x6, x7, x8] 27) from hw1)
  have HG := hide hg
  show Calls Try.prog 6 #[.agg #[x0, x1, x2, x3, x4, x5, x6, x7, x8]] w _
  clear HSZ hw1 hg hB hE hc hd h hs
  by_cases h1 : (2000 : Int) < c
  · go_enter Try.func6, Try.ntmps6
    go_upto_region 1 with fail
    rw [← HW1.out, ← HG.out]
    go_wp2_with fail
    refine HS.out.mono ?_
    rintro e w2 ⟨rfl, hE2⟩
    have HE2 := hide (HE.out.trans' hE2)
    clear hE2
    go_wp2_with fail
    go_ret
    exact ⟨_, rfl, HE2.out⟩
  · go_enter Try.func6, Try.ntmps6
    go_upto_region 1 with fail
    rw [← HW1.out, ← HG.out]
    go_wp2_with fail
    refine HS.out.mono ?_
    rintro e w2 ⟨rfl, hE2⟩
    have HE2 := hide (HE.out.trans' hE2)
    clear hE2
    go_wp2_with fail
    go_ret
    exact ⟨_, rfl, HE2.out⟩

set_option maxRecDepth 100000 in
set_option maxHeartbeats 4000000 in
theorem kindsTells_any (t u : Ty) (w : World) (vs us : List Value) (h : TyAt w w.heap.size t vs) (hs : TySz t) (h' : TyAt w w.heap.size u us) (hs' : TySz u) :
    Calls Try.prog 4 #[.agg vs.toArray, .agg us.toArray] w (fun e w' => e = .returned (.bool true) ∧ Ext w w') := by
  have hgt := fun w1 (hE : Ext w w1) => kGreat_any t w1 vs (h.ext hE) hs
  have hgu := fun w1 (hE : Ext w w1) => kGreat_any u w1 us (h'.ext hE) hs'
  have hsz := fun w1 (hE : Ext w w1) => size_any t w1 vs (h.ext hE) hs
  have hct := fun w1 (hE : Ext w w1) => count_any t w1 vs (h.ext hE) hs
  have hdp := fun w1 (hE : Ext w w1) => depth_any t w1 vs (h.ext hE) hs
  have hs1 := fun w1 (hE : Ext w w1) => same_any t u w1 vs us (h.ext hE) (h'.ext hE) hs hs'
  have hs2 := fun w1 (hE : Ext w w1) => refSame_any t u w1 vs us (h.ext hE) (h'.ext hE) hs hs'
  have hs3 := fun w1 (hE : Ext w w1) => same_any t t w1 vs vs (h.ext hE) (h.ext hE) hs hs
  rw [sameT_self] at hs3
  obtain ⟨x0, x1, x2, x3, x4, x5, x6, x7, x8, rfl⟩ := h.nine
  obtain ⟨y0, y1, y2, y3, y4, y5, y6, y7, y8, rfl⟩ := h'.nine
  obtain ⟨C, hC⟩ : ∃ x, x = cntI t := ⟨_, rfl⟩
  obtain ⟨D, hD⟩ : ∃ x, x = depI t := ⟨_, rfl⟩
  obtain ⟨S, hS⟩ : ∃ x, x = sameT t u := ⟨_, rfl⟩
  unfold SizePost at hsz
  rw [← hC] at hsz hct
  rw [← hD] at hsz hdp
  rw [← hS] at hs1 hs2
  have HGT := hide (show ∀ w1, Ext w w1 → Calls Try.prog 6 #[.agg #[x0, x1, x2, x3, x4, x5, x6, x7, x8]] w1 (BoolAny w1) from hgt)
  have HGU := hide (show ∀ w1, Ext w w1 → Calls Try.prog 6 #[.agg #[y0, y1, y2, y3, y4, y5, y6, y7, y8]] w1 (BoolAny w1) from hgu)
  have HSZ := hide (show ∀ w1, Ext w w1 → Calls Try.prog 10 #[.agg #[x0, x1, x2, x3, x4, x5, x6, x7, x8]] w1 (fun e w' => e = .returned (.tuple #[.int .i64 C, .int .i64 D]) ∧ Ext w1 w') from hsz)
  have HCT := hide (show ∀ w1, Ext w w1 → Calls Try.prog 11 #[.agg #[x0, x1, x2, x3, x4, x5, x6, x7, x8]] w1 (fun e w' => e = .returned (.int .i64 C) ∧ Ext w1 w') from hct)
  have HDP := hide (show ∀ w1, Ext w w1 → Calls Try.prog 12 #[.agg #[x0, x1, x2, x3, x4, x5, x6, x7, x8]] w1 (fun e w' => e = .returned (.int .i64 D) ∧ Ext w1 w') from hdp)
  have HS1 := hide (show ∀ w1, Ext w w1 → Calls Try.prog 13 #[.agg #[x0, x1, x2, x3, x4, x5, x6, x7, x8], .agg #[y0, y1, y2, y3, y4, y5, y6, y7, y8]] w1 (fun e w' => e = .returned (.bool S) ∧ Ext w1 w') from hs1)
  have HS2 := hide (show ∀ w1, Ext w w1 → Calls Try.prog 14 #[.agg #[x0, x1, x2, x3, x4, x5, x6, x7, x8], .agg #[y0, y1, y2, y3, y4, y5, y6, y7, y8]] w1 (fun e w' => e = .returned (.bool S) ∧ Ext w1 w') from hs2)
  have HS3 := hide (show ∀ w1, Ext w w1 → Calls Try.prog 13 #[.agg #[x0, x1, x2, x3, x4, x5, x6, x7, x8], .agg #[x0, x1, x2, x3, x4, x5, x6, x7, x8]] w1 (fun e w' => e = .returned (.bool true) ∧ Ext w1 w') from hs3)
  obtain ⟨w0, hw0⟩ : ∃ w0, w0 = (w.alloc (.cells #[x0, x1, x2, x3, x4, x5, x6, x7, x8] 27)).alloc (.cells #[y0, y1, y2, y3, y4, y5, y6, y7, y8] 27) := ⟨_, rfl⟩
  have hBa : Blk w0 w.heap.size 27 #[x0, x1, x2, x3, x4, x5, x6, x7, x8] := by rw [hw0]; exact (Blk.new _ _ _).alloc _
  have hBb : Blk w0 (w.heap.size + 1) 27 #[y0, y1, y2, y3, y4, y5, y6, y7, y8] := by
    rw [hw0]; have := Blk.new (w.alloc (.cells #[x0, x1, x2, x3, x4, x5, x6, x7, x8] 27)) 27 #[y0, y1, y2, y3, y4, y5, y6, y7, y8]; simpa only [World.size_alloc] using this
  have HE0 := hide (show Ext w w0 by rw [hw0]; exact ((Ext.rfl' w).alloc (Nat.le_refl _) _).alloc (by simp only [World.size_alloc]; omega) _)
  obtain ⟨gb, hgb⟩ : ∃ g, g = w.heap.size + 1 := ⟨_, rfl⟩
  obtain ⟨ga, hga⟩ : ∃ g, g = w.heap.size := ⟨_, rfl⟩
  rw [← hgb] at hBb
  rw [← hga] at hBa
  have HBa := hide hBa
  have HBb := hide hBb
  have v0a := (hBa).cell 0
  have v1a := (hBa).cell 1
  have v2a := (hBa).cell 2
  have v3a := (hBa).cell 3
  have v4a := (hBa).cell 4
  have v5a := (hBa).cell 5
  have v6a := (hBa).cell 6
  have v7a := (hBa).cell 7
  have v8a := (hBa).cell 8
  have v0b := (hBb).cell 0
  have v1b := (hBb).cell 1
  have v2b := (hBb).cell 2
  have v3b := (hBb).cell 3
  have v4b := (hBb).cell 4
  have v5b := (hBb).cell 5
  have v6b := (hBb).cell 6
  have v7b := (hBb).cell 7
  have v8b := (hBb).cell 8
  simp only [List.getElem?_toArray, List.getElem?_cons_zero, List.getElem?_cons_succ] at v0a v1a v2a v3a v4a v5a v6a v7a v8a v0b v1b v2b v3b v4b v5b v6b v7b v8b
  have HW0 := hide hw0
  have HGa := hide hga
  have HGb := hide hgb
  show Calls Try.prog 4 #[.agg #[x0, x1, x2, x3, x4, x5, x6, x7, x8], .agg #[y0, y1, y2, y3, y4, y5, y6, y7, y8]] w _
  clear hBa hBb hw0 hga hgb hgt hgu hsz hct hdp hs1 hs2 hs3 hC hD hS h h' hs hs'
  go_enter Try.func4, Try.ntmps4
  go_upto_region 1 with fail
  rw [← HW0.out, ← HGb.out, ← HGa.out]
  go_cut [12] (fun v wx => ∃ r : Bool, v = .bool r ∧ Ext w0 wx)
  case first =>
    go_wp2_with fail
    refine (HGT.out w0 HE0.out).mono ?_
    rintro e w1 ⟨r, rfl, hE1⟩
    have HE1 := hide hE1
    have HE01 := hide (HE0.out.trans' hE1)
    have z0b := (HBb.out.ext hE1).cell 0
    have z1b := (HBb.out.ext hE1).cell 1
    have z2b := (HBb.out.ext hE1).cell 2
    have z3b := (HBb.out.ext hE1).cell 3
    have z4b := (HBb.out.ext hE1).cell 4
    have z5b := (HBb.out.ext hE1).cell 5
    have z6b := (HBb.out.ext hE1).cell 6
    have z7b := (HBb.out.ext hE1).cell 7
    have z8b := (HBb.out.ext hE1).cell 8
    simp only [List.getElem?_toArray, List.getElem?_cons_zero, List.getElem?_cons_succ] at z0b z1b z2b z3b z4b z5b z6b z7b z8b
    clear hE1 v0a v1a v2a v3a v4a v5a v6a v7a v8a v0b v1b v2b v3b v4b v5b v6b v7b v8b
    cases r with
    | true =>
      go_wp2_with fail
      go_meet
      exact ⟨true, rfl, HE1.out⟩
    | false =>
      go_wp2_with fail
      refine (HGU.out w1 HE01.out).mono ?_
      rintro e w2 ⟨r, rfl, hE2⟩
      have HE2 := hide (HE1.out.trans' hE2)
      clear hE2
      go_wp2_with fail
      go_meet
      exact ⟨r, rfl, HE2.out⟩
  case rest =>
    obtain ⟨r, rfl, hEc⟩ := hcut
    obtain ⟨w1, hw1⟩ : ∃ w1, w1 = wc := ⟨_, rfl⟩
    rw [← hw1] at hEc ⊢
    have HE1 := hide (HE0.out.trans' hEc)
    have HBa := hide (HBa.out.ext hEc)
    have HBb := hide (HBb.out.ext hEc)
    have u0a := (HBa.out).cell 0
    have u1a := (HBa.out).cell 1
    have u2a := (HBa.out).cell 2
    have u3a := (HBa.out).cell 3
    have u4a := (HBa.out).cell 4
    have u5a := (HBa.out).cell 5
    have u6a := (HBa.out).cell 6
    have u7a := (HBa.out).cell 7
    have u8a := (HBa.out).cell 8
    have u0b := (HBb.out).cell 0
    have u1b := (HBb.out).cell 1
    have u2b := (HBb.out).cell 2
    have u3b := (HBb.out).cell 3
    have u4b := (HBb.out).cell 4
    have u5b := (HBb.out).cell 5
    have u6b := (HBb.out).cell 6
    have u7b := (HBb.out).cell 7
    have u8b := (HBb.out).cell 8
    simp only [List.getElem?_toArray, List.getElem?_cons_zero, List.getElem?_cons_succ] at u0a u1a u2a u3a u4a u5a u6a u7a u8a u0b u1b u2b u3b u4b u5b u6b u7b u8b
    clear hw1 hEc v0a v1a v2a v3a v4a v5a v6a v7a v8a v0b v1b v2b v3b v4b v5b v6b v7b v8b
    cases r with
    | true =>
      go_wp2_with fail
      refine (kLives_any w1).mono ?_
      rintro e w2 ⟨rfl, hE2⟩
      have HE2 := hide (HE1.out.trans' hE2)
      clear hE2
      go_wp2_with fail
      go_ret
      exact ⟨rfl, HE2.out⟩
    | false =>
      go_wp2_with fail
      refine (HSZ.out w1 HE1.out).mono ?_
      rintro e w2 ⟨rfl, hE2⟩
      have HE2 := hide (HE1.out.trans' hE2)
      have HBa := hide (HBa.out.ext hE2)
      have HBb := hide (HBb.out.ext hE2)
      clear hE2 u0a u1a u2a u3a u4a u5a u6a u7a u8a u0b u1b u2b u3b u4b u5b u6b u7b u8b
      have cC : (C == C) = true := by simp
      have cD : (D == D) = true := by simp
      have cS : (S == S) = true := by simp
      go_upto_region 4 with fail
      go_cut [4] (fun v wx => v = .bool true ∧ Ext w2 wx)
      case first =>
        refine wp_region_ext (by kernel_rfl) (by kernel_rfl) w2 (Ext.rfl' _) ?_
        intro I _ f hf hc
        have q0a : ∀ n, (f n).cell? ⟨ga, 0, none⟩ = some x0 := fun n => (HBa.out.ext (hf n)).cell 0
        have q1a : ∀ n, (f n).cell? ⟨ga, 1, none⟩ = some x1 := fun n => (HBa.out.ext (hf n)).cell 1
        have q2a : ∀ n, (f n).cell? ⟨ga, 2, none⟩ = some x2 := fun n => (HBa.out.ext (hf n)).cell 2
        have q3a : ∀ n, (f n).cell? ⟨ga, 3, none⟩ = some x3 := fun n => (HBa.out.ext (hf n)).cell 3
        have q4a : ∀ n, (f n).cell? ⟨ga, 4, none⟩ = some x4 := fun n => (HBa.out.ext (hf n)).cell 4
        have q5a : ∀ n, (f n).cell? ⟨ga, 5, none⟩ = some x5 := fun n => (HBa.out.ext (hf n)).cell 5
        have q6a : ∀ n, (f n).cell? ⟨ga, 6, none⟩ = some x6 := fun n => (HBa.out.ext (hf n)).cell 6
        have q7a : ∀ n, (f n).cell? ⟨ga, 7, none⟩ = some x7 := fun n => (HBa.out.ext (hf n)).cell 7
        have q8a : ∀ n, (f n).cell? ⟨ga, 8, none⟩ = some x8 := fun n => (HBa.out.ext (hf n)).cell 8
        have q0b : ∀ n, (f n).cell? ⟨gb, 0, none⟩ = some y0 := fun n => (HBb.out.ext (hf n)).cell 0
        have q1b : ∀ n, (f n).cell? ⟨gb, 1, none⟩ = some y1 := fun n => (HBb.out.ext (hf n)).cell 1
        have q2b : ∀ n, (f n).cell? ⟨gb, 2, none⟩ = some y2 := fun n => (HBb.out.ext (hf n)).cell 2
        have q3b : ∀ n, (f n).cell? ⟨gb, 3, none⟩ = some y3 := fun n => (HBb.out.ext (hf n)).cell 3
        have q4b : ∀ n, (f n).cell? ⟨gb, 4, none⟩ = some y4 := fun n => (HBb.out.ext (hf n)).cell 4
        have q5b : ∀ n, (f n).cell? ⟨gb, 5, none⟩ = some y5 := fun n => (HBb.out.ext (hf n)).cell 5
        have q6b : ∀ n, (f n).cell? ⟨gb, 6, none⟩ = some y6 := fun n => (HBb.out.ext (hf n)).cell 6
        have q7b : ∀ n, (f n).cell? ⟨gb, 7, none⟩ = some y7 := fun n => (HBb.out.ext (hf n)).cell 7
        have q8b : ∀ n, (f n).cell? ⟨gb, 8, none⟩ = some y8 := fun n => (HBb.out.ext (hf n)).cell 8
        have H1 := hide (fun n => fam_ext hf hc (HCT.out (f n) (HE2.out.trans' (hf n))))
        have H2 := hide (fun n => fam_ext hf hc (HDP.out (f n) (HE2.out.trans' (hf n))))
        have H3 := hide (fun n => fam_ext hf hc (HS1.out (f n) (HE2.out.trans' (hf n))))
        have H4 := hide (fun n => fam_ext hf hc (HS2.out (f n) (HE2.out.trans' (hf n))))
        have H5 := hide (fun n => fam_ext hf hc (HS3.out (f n) (HE2.out.trans' (hf n))))
        have H6 := hide (fun n => fam_ext hf hc (kLives_any (f n)))
        have HF := hide hf
        clear hf hc
        repeat (go_big_quiet_step ((first
          | (go_at_call 11; with_reducible exact H1.out _)
          | (go_at_call 12; with_reducible exact H2.out _)
          | (go_at_call 13; first | (with_reducible exact H3.out _) | (with_reducible exact H5.out _))
          | (go_at_call 14; with_reducible exact H4.out _)
          | (go_at_call 7; with_reducible exact H6.out _))))
        refine wpQuiet_nil ?_
        rintro _ ⟨nq, rfl⟩
        go_wp2_with fail
        go_meet
        exact ⟨rfl, HF.out nq⟩
      case rest =>
        obtain ⟨rfl, hEc⟩ := hcut
        go_wp2_with fail
        go_ret
        exact ⟨rfl, HE2.out.trans' hEc⟩
end Go.Proofs.Ytanpljalbijfkaa
