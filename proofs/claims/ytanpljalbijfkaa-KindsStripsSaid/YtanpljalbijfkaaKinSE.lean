/- The law KindsStrips, walked. (Printed by wip/gen_kinse.py.) -/
import Derived.Test.YtanpljalbijfkaaKinSD
import Derived.Test.YtanpljalbijfkaaKinZD
import Derived.Test.YtanpljalbijfkaaKinN
namespace Go.Proofs.Ytanpljalbijfkaa
open Go.RowKit

theorem run_field_F (e a : Int) (w : World) : (Instr.field 32 (.agg #[.int .i64 e, .int .i64 a]) 0).run Try.prog w = .ok (.int .i64 e) w := by kernel_rfl
set_option maxRecDepth 100000 in
set_option maxHeartbeats 8000000 in
theorem kindsStrips_any (t : Ty) (w : World) (vs : List Value) (h : TyAt w w.heap.size t vs) (hs : TySz t) :
    Calls Try.prog 5 #[.agg vs.toArray] w (fun e w' => e = .returned (.bool true) ∧ Ext w w') := by
  have hsu := strip_sz t hs
  have hgt := fun w1 (hE : Ext w w1) => kGreat_any t w1 vs (h.ext hE) hs
  have hstr := fun w1 (hE : Ext w w1) => strip_any t hs w1 vs (h.ext hE)
  have hri := fun w1 (hE : Ext w w1) => kRight_any t w1 vs (h.ext hE) hs
  have hct := fun w1 (hE : Ext w w1) => count_any t w1 vs (h.ext hE) hs
  have hstr2 := fun w1 us (hu : TyAt w1 w1.heap.size (strip t) us) => strip_any (strip t) hsu w1 us hu
  have hri2 := fun w1 us (hu : TyAt w1 w1.heap.size (strip t) us) => kRight_any (strip t) w1 us hu hsu
  have hct2 := fun w1 us (hu : TyAt w1 w1.heap.size (strip t) us) => count_any (strip t) w1 us hu hsu
  have hpl2 := fun w1 us (hu : TyAt w1 w1.heap.size (strip t) us) => placeless_any t hs w1 us hu
  have hsa1 := fun w1 us (hE : Ext w w1) (hu : TyAt w1 w1.heap.size (strip t) us) => refSame_any t (strip t) w1 vs us (h.ext hE) hu hs hsu
  have hsa2 := fun w1 us (hE : Ext w w1) (hu : TyAt w1 w1.heap.size (strip t) us) => same_any (strip t) t w1 us vs hu (h.ext hE) hsu hs
  have hsa3 := fun w1 us zs (hu : TyAt w1 w1.heap.size (strip t) us) (hz : TyAt w1 w1.heap.size (strip t) zs) => refSame_any (strip t) (strip t) w1 zs us hz hu hsu hsu
  have hsim := (chk_strip t 1 0).1
  rw [cntI_strip] at hct2
  rw [sameT_strR, sameT_self] at hsa1
  rw [sameT_strL, sameT_self] at hsa2
  rw [sameT_self] at hsa3
  unfold StripPost at hstr hstr2
  rw [strip_strip] at hstr2
  obtain ⟨⟨⟨E, A⟩, M⟩, hC⟩ : ∃ x, x = chk t 1 0 := ⟨_, rfl⟩
  obtain ⟨⟨⟨E2, A2⟩, M2⟩, hC2⟩ : ∃ x, x = chk (strip t) 1 0 := ⟨_, rfl⟩
  rw [← hC] at hri hsim
  rw [← hC2] at hri2 hsim
  obtain rfl : E2 = E := hsim
  obtain ⟨C, hCn⟩ : ∃ x, x = cntI t := ⟨_, rfl⟩
  rw [← hCn] at hct hct2
  obtain ⟨x0, x1, x2, x3, x4, x5, x6, x7, x8, rfl⟩ := h.nine
  have HGT := hide (show ∀ w1, Ext w w1 → Calls Try.prog 6 #[.agg #[x0, x1, x2, x3, x4, x5, x6, x7, x8]] w1 (BoolAny w1) from hgt)
  have HSTR := hide (show ∀ w1, Ext w w1 → Calls Try.prog 15 #[.agg #[x0, x1, x2, x3, x4, x5, x6, x7, x8]] w1 (fun e w' => ∃ us : List Value, e = .returned (.agg us.toArray) ∧ Held w1.heap.size w'.heap.size w' (fun w2 => TyAt w2 w'.heap.size (strip t) us) ∧ Ext w1 w') from hstr)
  have HRI := hide (show ∀ w1, Ext w w1 → Calls Try.prog 8 #[.agg #[x0, x1, x2, x3, x4, x5, x6, x7, x8]] w1 (fun e w' => e = .returned (.agg #[.int .i64 E2, .int .i64 A]) ∧ Ext w1 w') from hri)
  have HCT := hide (show ∀ w1, Ext w w1 → Calls Try.prog 11 #[.agg #[x0, x1, x2, x3, x4, x5, x6, x7, x8]] w1 (fun e w' => e = .returned (.int .i64 C) ∧ Ext w1 w') from hct)
  have HSTR2 := hide hstr2
  have HRI2 := hide hri2
  have HCT2 := hide hct2
  have HPL2 := hide hpl2
  have HSA1 := hide hsa1
  have HSA2 := hide hsa2
  have HSA3 := hide hsa3
  obtain ⟨w0, hw0⟩ : ∃ w0, w0 = w.alloc (.cells #[x0, x1, x2, x3, x4, x5, x6, x7, x8] 27) := ⟨_, rfl⟩
  have hBa : Blk w0 w.heap.size 27 #[x0, x1, x2, x3, x4, x5, x6, x7, x8] := by rw [hw0]; exact Blk.new _ _ _
  have HE0 := hide (show Ext w w0 by rw [hw0]; exact (Ext.rfl' w).alloc (Nat.le_refl _) _)
  obtain ⟨ga, hga⟩ : ∃ g, g = w.heap.size := ⟨_, rfl⟩
  rw [← hga] at hBa
  have HBa := hide hBa
  have v0 := (hBa).cell 0
  have v1 := (hBa).cell 1
  have v2 := (hBa).cell 2
  have v3 := (hBa).cell 3
  have v4 := (hBa).cell 4
  have v5 := (hBa).cell 5
  have v6 := (hBa).cell 6
  have v7 := (hBa).cell 7
  have v8 := (hBa).cell 8
  simp only [List.getElem?_toArray, List.getElem?_cons_zero, List.getElem?_cons_succ] at v0 v1 v2 v3 v4 v5 v6 v7 v8
  have HW0 := hide hw0
  have HGa := hide hga
  have hfl := run_field_F
  show Calls Try.prog 5 #[.agg #[x0, x1, x2, x3, x4, x5, x6, x7, x8]] w _
  clear hBa hw0 hga hgt hstr hri hct hstr2 hri2 hct2 hpl2 hsa1 hsa2 hsa3 hC hC2 hCn h hs hsu
  go_enter Try.func5, Try.ntmps5
  go_upto_region 1 with fail
  rw [← HW0.out, ← HGa.out]
  go_wp2_with fail
  refine (HGT.out w0 HE0.out).mono ?_
  rintro e w1 ⟨r, rfl, hE1⟩
  have HE1 := hide (HE0.out.trans' hE1)
  have HBb := hide (HBa.out.ext hE1)
  clear v0 v1 v2 v3 v4 v5 v6 v7 v8
  have u0 := (HBb.out).cell 0
  have u1 := (HBb.out).cell 1
  have u2 := (HBb.out).cell 2
  have u3 := (HBb.out).cell 3
  have u4 := (HBb.out).cell 4
  have u5 := (HBb.out).cell 5
  have u6 := (HBb.out).cell 6
  have u7 := (HBb.out).cell 7
  have u8 := (HBb.out).cell 8
  simp only [List.getElem?_toArray, List.getElem?_cons_zero, List.getElem?_cons_succ] at u0 u1 u2 u3 u4 u5 u6 u7 u8
  clear hE1
  cases r with
  | true =>
    go_wp2_with fail
    refine (kLives_any w1).mono ?_
    rintro e w2 ⟨rfl, hE2⟩
    have HE2 := hide (HE1.out.trans' hE2)
    clear hE2
    go_wp2_with fail
    go_ret
    exact ⟨rfl, HE2.out⟩
  | false =>
    go_wp2_with fail
    refine (HSTR.out w1 HE1.out).mono ?_
    rintro e w2 ⟨us, rfl, hU2, hE2⟩
    have hU2' := hU2.now
    have huo : (us : List Value).toArray.all (·.oneCell') = true := by obtain ⟨_, _, _, _, _, _, e⟩ := hU2'.form; rw [e]; simp [tyV, Value.oneCell']
    obtain ⟨y0, y1, y2, y3, y4, y5, y6, y7, y8, rfl⟩ := hU2'.nine
    obtain ⟨w3, hw3⟩ : ∃ x, x = w2.alloc (.cells #[y0, y1, y2, y3, y4, y5, y6, y7, y8] 27) := ⟨_, rfl⟩
    have hBu : Blk w3 w2.heap.size 27 #[y0, y1, y2, y3, y4, y5, y6, y7, y8] := by rw [hw3]; exact Blk.new _ _ _
    have hE3 : Ext w2 w3 := by rw [hw3]; exact (Ext.rfl' w2).alloc (Nat.le_refl _) _
    obtain ⟨gu, hgu⟩ : ∃ g, g = w2.heap.size := ⟨_, rfl⟩
    rw [← hgu] at hBu
    have hU3 : TyAt w3 w3.heap.size (strip t) [y0, y1, y2, y3, y4, y5, y6, y7, y8] := hU2'.ext hE3
    have HE3 := hide (HE1.out.trans' (hE2.trans' hE3))
    have HBa3 := hide (HBb.out.ext (hE2.trans' hE3))
    have HBu3 := hide hBu
    have HU3 := hide hU3
    have hst := HSTR2.out w3 _ hU3
    have HST := hide (show Calls Try.prog 15 #[.agg #[y0, y1, y2, y3, y4, y5, y6, y7, y8]] w3 (fun e w' => ∃ us : List Value, e = .returned (.agg us.toArray) ∧ Held w3.heap.size w'.heap.size w' (fun w2 => TyAt w2 w'.heap.size (strip t) us) ∧ Ext w3 w') from hst)
    have a0 := (hBu).cell 0
    have a1 := (hBu).cell 1
    have a2 := (hBu).cell 2
    have a3 := (hBu).cell 3
    have a4 := (hBu).cell 4
    have a5 := (hBu).cell 5
    have a6 := (hBu).cell 6
    have a7 := (hBu).cell 7
    have a8 := (hBu).cell 8
    simp only [List.getElem?_toArray, List.getElem?_cons_zero, List.getElem?_cons_succ] at a0 a1 a2 a3 a4 a5 a6 a7 a8
    have HW3 := hide hw3
    have HGu := hide hgu
    clear u0 u1 u2 u3 u4 u5 u6 u7 u8 hw3 hBu hE3 hgu hU3 hst hU2 hU2' hE2
    have HUO4 := hide huo
    clear huo
    simp only []
    rename_i Kz hKz
    refine hKz _ _ ?_
    refine wpList_plain rfl ?_
    intro K1 hK1
    go_simp
    refine hK1 _ _ ?_
    refine wpList_store_new rfl 27 _ _ rfl _ #[y0, y1, y2, y3, y4, y5, y6, y7, y8] rfl rfl (by kernel_rfl) (by kernel_rfl) HUO4.out ?_
    go_upto_region 4 with fail
    rw [← HW3.out, ← HGu.out]
    go_wp2_with fail
    refine HST.out.mono ?_
    rintro e w4 ⟨zs, rfl, hZ4, hE4⟩
    have hZ4' := hZ4.now
    have huo : (zs : List Value).toArray.all (·.oneCell') = true := by obtain ⟨_, _, _, _, _, _, e⟩ := hZ4'.form; rw [e]; simp [tyV, Value.oneCell']
    obtain ⟨z0, z1, z2, z3, z4, z5, z6, z7, z8, rfl⟩ := hZ4'.nine
    obtain ⟨w5, hw5⟩ : ∃ x, x = w4.alloc (.cells #[z0, z1, z2, z3, z4, z5, z6, z7, z8] 27) := ⟨_, rfl⟩
    have hBz : Blk w5 w4.heap.size 27 #[z0, z1, z2, z3, z4, z5, z6, z7, z8] := by rw [hw5]; exact Blk.new _ _ _
    have hE5 : Ext w4 w5 := by rw [hw5]; exact (Ext.rfl' w4).alloc (Nat.le_refl _) _
    obtain ⟨gz, hgz⟩ : ∃ g, g = w4.heap.size := ⟨_, rfl⟩
    rw [← hgz] at hBz
    have HE5 := hide (HE3.out.trans' (hE4.trans' hE5))
    have HBa5 := hide (HBa3.out.ext (hE4.trans' hE5))
    have HBu5 := hide (HBu3.out.ext (hE4.trans' hE5))
    have HBz5 := hide hBz
    have HU5 := hide (HU3.out.ext (hE4.trans' hE5))
    have HZ5 := hide (show TyAt w5 w5.heap.size (strip t) [z0, z1, z2, z3, z4, z5, z6, z7, z8] from hZ4'.ext hE5)
    have HW5 := hide hw5
    have HGz := hide hgz
    have cC : (E2 == E2) = true := by simp
    have cD : (C == C) = true := by simp
    clear a0 a1 a2 a3 a4 a5 a6 a7 a8 hw5 hBz hE5 hgz hZ4 hZ4' hE4
    have HUO5 := hide huo
    clear huo
    simp only []
    rename_i Kz hKz
    refine hKz _ _ ?_
    refine wpList_plain rfl ?_
    intro K1 hK1
    go_simp
    refine hK1 _ _ ?_
    refine wpList_store_new rfl 27 _ _ rfl _ #[z0, z1, z2, z3, z4, z5, z6, z7, z8] rfl rfl (by kernel_rfl) (by kernel_rfl) HUO5.out ?_
    go_upto_region 5 with fail
    rw [← HW5.out, ← HGz.out]
    go_frame
    go_cut [2] (fun v wx => v = .bool true ∧ Ext w5 wx)
    case first =>
      refine wp_region_ext (by kernel_rfl) (by kernel_rfl) w5 (Ext.rfl' _) ?_
      intro I _ f hf hc
      have q0 : ∀ n, (f n).cell? ⟨ga, 0, none⟩ = some x0 := fun n => (HBa5.out.ext (hf n)).cell 0
      have q1 : ∀ n, (f n).cell? ⟨ga, 1, none⟩ = some x1 := fun n => (HBa5.out.ext (hf n)).cell 1
      have q2 : ∀ n, (f n).cell? ⟨ga, 2, none⟩ = some x2 := fun n => (HBa5.out.ext (hf n)).cell 2
      have q3 : ∀ n, (f n).cell? ⟨ga, 3, none⟩ = some x3 := fun n => (HBa5.out.ext (hf n)).cell 3
      have q4 : ∀ n, (f n).cell? ⟨ga, 4, none⟩ = some x4 := fun n => (HBa5.out.ext (hf n)).cell 4
      have q5 : ∀ n, (f n).cell? ⟨ga, 5, none⟩ = some x5 := fun n => (HBa5.out.ext (hf n)).cell 5
      have q6 : ∀ n, (f n).cell? ⟨ga, 6, none⟩ = some x6 := fun n => (HBa5.out.ext (hf n)).cell 6
      have q7 : ∀ n, (f n).cell? ⟨ga, 7, none⟩ = some x7 := fun n => (HBa5.out.ext (hf n)).cell 7
      have q8 : ∀ n, (f n).cell? ⟨ga, 8, none⟩ = some x8 := fun n => (HBa5.out.ext (hf n)).cell 8
      have r0 : ∀ n, (f n).cell? ⟨gu, 0, none⟩ = some y0 := fun n => (HBu5.out.ext (hf n)).cell 0
      have r1 : ∀ n, (f n).cell? ⟨gu, 1, none⟩ = some y1 := fun n => (HBu5.out.ext (hf n)).cell 1
      have r2 : ∀ n, (f n).cell? ⟨gu, 2, none⟩ = some y2 := fun n => (HBu5.out.ext (hf n)).cell 2
      have r3 : ∀ n, (f n).cell? ⟨gu, 3, none⟩ = some y3 := fun n => (HBu5.out.ext (hf n)).cell 3
      have r4 : ∀ n, (f n).cell? ⟨gu, 4, none⟩ = some y4 := fun n => (HBu5.out.ext (hf n)).cell 4
      have r5 : ∀ n, (f n).cell? ⟨gu, 5, none⟩ = some y5 := fun n => (HBu5.out.ext (hf n)).cell 5
      have r6 : ∀ n, (f n).cell? ⟨gu, 6, none⟩ = some y6 := fun n => (HBu5.out.ext (hf n)).cell 6
      have r7 : ∀ n, (f n).cell? ⟨gu, 7, none⟩ = some y7 := fun n => (HBu5.out.ext (hf n)).cell 7
      have r8 : ∀ n, (f n).cell? ⟨gu, 8, none⟩ = some y8 := fun n => (HBu5.out.ext (hf n)).cell 8
      have s0 : ∀ n, (f n).cell? ⟨gz, 0, none⟩ = some z0 := fun n => (HBz5.out.ext (hf n)).cell 0
      have s1 : ∀ n, (f n).cell? ⟨gz, 1, none⟩ = some z1 := fun n => (HBz5.out.ext (hf n)).cell 1
      have s2 : ∀ n, (f n).cell? ⟨gz, 2, none⟩ = some z2 := fun n => (HBz5.out.ext (hf n)).cell 2
      have s3 : ∀ n, (f n).cell? ⟨gz, 3, none⟩ = some z3 := fun n => (HBz5.out.ext (hf n)).cell 3
      have s4 : ∀ n, (f n).cell? ⟨gz, 4, none⟩ = some z4 := fun n => (HBz5.out.ext (hf n)).cell 4
      have s5 : ∀ n, (f n).cell? ⟨gz, 5, none⟩ = some z5 := fun n => (HBz5.out.ext (hf n)).cell 5
      have s6 : ∀ n, (f n).cell? ⟨gz, 6, none⟩ = some z6 := fun n => (HBz5.out.ext (hf n)).cell 6
      have s7 : ∀ n, (f n).cell? ⟨gz, 7, none⟩ = some z7 := fun n => (HBz5.out.ext (hf n)).cell 7
      have s8 : ∀ n, (f n).cell? ⟨gz, 8, none⟩ = some z8 := fun n => (HBz5.out.ext (hf n)).cell 8
      have H1 := hide (fun n => fam_ext hf hc (show Calls Try.prog 14 #[.agg #[x0, x1, x2, x3, x4, x5, x6, x7, x8], .agg #[y0, y1, y2, y3, y4, y5, y6, y7, y8]] (f n) (fun e w' => e = .returned (.bool true) ∧ Ext (f n) w') from HSA1.out (f n) _ (HE5.out.trans' (hf n)) (HU5.out.ext (hf n))))
      have H2 := hide (fun n => fam_ext hf hc (show Calls Try.prog 16 #[.agg #[y0, y1, y2, y3, y4, y5, y6, y7, y8]] (f n) (fun e w' => e = .returned (.bool true) ∧ Ext (f n) w') from HPL2.out (f n) _ (HU5.out.ext (hf n))))
      have H3 := hide (fun n => fam_ext hf hc (show Calls Try.prog 13 #[.agg #[y0, y1, y2, y3, y4, y5, y6, y7, y8], .agg #[x0, x1, x2, x3, x4, x5, x6, x7, x8]] (f n) (fun e w' => e = .returned (.bool true) ∧ Ext (f n) w') from HSA2.out (f n) _ (HE5.out.trans' (hf n)) (HU5.out.ext (hf n))))
      have H4 := hide (fun n => fam_ext hf hc (show Calls Try.prog 14 #[.agg #[z0, z1, z2, z3, z4, z5, z6, z7, z8], .agg #[y0, y1, y2, y3, y4, y5, y6, y7, y8]] (f n) (fun e w' => e = .returned (.bool true) ∧ Ext (f n) w') from HSA3.out (f n) _ _ (HU5.out.ext (hf n)) (HZ5.out.ext (hf n))))
      have H5 := hide (fun n => fam_ext hf hc (HRI.out (f n) (HE5.out.trans' (hf n))))
      have H6 := hide (fun n => fam_ext hf hc (show Calls Try.prog 8 #[.agg #[y0, y1, y2, y3, y4, y5, y6, y7, y8]] (f n) (fun e w' => e = .returned (.agg #[.int .i64 E2, .int .i64 A2]) ∧ Ext (f n) w') from HRI2.out (f n) _ (HU5.out.ext (hf n))))
      have H7 := hide (fun n => fam_ext hf hc (show Calls Try.prog 11 #[.agg #[y0, y1, y2, y3, y4, y5, y6, y7, y8]] (f n) (fun e w' => e = .returned (.int .i64 C) ∧ Ext (f n) w') from HCT2.out (f n) _ (HU5.out.ext (hf n))))
      have H8 := hide (fun n => fam_ext hf hc (HCT.out (f n) (HE5.out.trans' (hf n))))
      have H9 := hide (fun n => fam_ext hf hc (kLives_any (f n)))
      have HF := hide hf
      clear hf hc
      repeat (go_big_quiet_step ((first
        | (go_at_call 14; first | (with_reducible exact H1.out _) | (with_reducible exact H4.out _))
        | (go_at_call 16; with_reducible exact H2.out _)
        | (go_at_call 13; with_reducible exact H3.out _)
        | (go_at_call 8; first | (with_reducible exact H5.out _) | (with_reducible exact H6.out _))
        | (go_at_call 11; first | (with_reducible exact H7.out _) | (with_reducible exact H8.out _))
        | (go_at_call 7; with_reducible exact H9.out _))))
      refine wpQuiet_nil ?_
      rintro _ ⟨nq, rfl⟩
      go_wp2_with fail
      go_meet
      exact ⟨rfl, HF.out nq⟩
    case rest =>
      obtain ⟨rfl, hEc⟩ := hcut
      go_wp2_with fail
      go_ret
      exact ⟨rfl, HE5.out.trans' hEc⟩
end Go.Proofs.Ytanpljalbijfkaa
