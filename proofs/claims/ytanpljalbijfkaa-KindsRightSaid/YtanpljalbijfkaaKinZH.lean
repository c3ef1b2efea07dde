/- The law KindsRight, walked. (Printed by wip/gen_kinzh.py.) -/
import Derived.Test.YtanpljalbijfkaaKinZG
import Derived.Test.YtanpljalbijfkaaKinN
namespace Go.Proofs.Ytanpljalbijfkaa
open Go.RowKit

theorem run_field_W (e a m : Int) (w : World) : (Instr.field 35 (.agg #[.int .i64 e, .int .i64 a, .int .i64 m]) 0).run Try.prog w = .ok (.agg #[.int .i64 e, .int .i64 a]) w := by kernel_rfl
set_option maxRecDepth 100000 in
set_option maxHeartbeats 4000000 in
theorem kindsRight_any (t : Ty) (w : World) (vs : List Value) (h : TyAt w w.heap.size t vs) (hs : TySz t) :
    Calls Try.prog 3 #[.agg vs.toArray] w (fun e w' => e = .returned (.bool true) ∧ Ext w w') := by
  have hgt := fun w1 (hE : Ext w w1) => kGreat_any t w1 vs (h.ext hE) hs
  have hri := fun w1 (hE : Ext w w1) => kRight_any t w1 vs (h.ext hE) hs
  have hwr := fun w1 (hE : Ext w w1) => refWrong_any t hs 1 0 w1 vs (h.ext hE)
  obtain ⟨x0, x1, x2, x3, x4, x5, x6, x7, x8, rfl⟩ := h.nine
  obtain ⟨⟨⟨E, A⟩, M⟩, hC⟩ : ∃ x, x = chk t 1 0 := ⟨_, rfl⟩
  rw [← hC] at hri hwr
  have HGT := hide (show ∀ w1, Ext w w1 → Calls Try.prog 6 #[.agg #[x0, x1, x2, x3, x4, x5, x6, x7, x8]] w1 (BoolAny w1) from hgt)
  have HRI := hide (show ∀ w1, Ext w w1 → Calls Try.prog 8 #[.agg #[x0, x1, x2, x3, x4, x5, x6, x7, x8]] w1 (fun e w' => e = .returned (.agg #[.int .i64 E, .int .i64 A]) ∧ Ext w1 w') from hri)
  have HWR := hide (show ∀ w1, Ext w w1 → Calls Try.prog 9 #[.agg #[.int .i64 0, .int .i64 0, .int .i64 0], .agg #[x0, x1, x2, x3, x4, x5, x6, x7, x8], .int .i64 1] w1 (fun e w' => e = .returned (.agg #[.int .i64 E, .int .i64 A, .int .i64 M]) ∧ Ext w1 w') from hwr)
  obtain ⟨w0, hw0⟩ : ∃ w0, w0 = w.alloc (.cells #[x0, x1, x2, x3, x4, x5, x6, x7, x8] 27) := ⟨_, rfl⟩
  have hBa : Blk w0 w.heap.size 27 #[x0, x1, x2, x3, x4, x5, x6, x7, x8] := by rw [hw0]; exact Blk.new _ _ _
  have HE0 := hide (show Ext w w0 by rw [hw0]; exact (Ext.rfl' w).alloc (Nat.le_refl _) _)
  obtain ⟨ga, hga⟩ : ∃ g, g = w.heap.size := ⟨_, rfl⟩
  rw [← hga] at hBa
  have HBa := hide hBa
  have v0 := (hBa).cell 0
  have v1 := (hBa).cell 1
  have v2 := (hBa).cell 2
  have v3 := (hBa).cell 3
  have v4 := (hBa).cell 4
  have v5 := (hBa).cell 5
  have v6 := (hBa).cell 6
  have v7 := (hBa).cell 7
  have v8 := (hBa).cell 8
  simp only [List.getElem?_toArray, List.getElem?_cons_zero, List.getElem?_cons_succ] at v0 v1 v2 v3 v4 v5 v6 v7 v8
  have HW0 := hide hw0
  have HGa := hide hga
  have hq := run_eqIn_fl
  have hfl := run_field_W
  show Calls Try.prog 3 #[.agg #[x0, x1, x2, x3, x4, x5, x6, x7, x8]] w _
  clear hBa hw0 hga hgt hri hwr hC h hs
  go_enter Try.func3, Try.ntmps3
  go_upto_region 1 with fail
  rw [← HW0.out, ← HGa.out]
  go_wp2_with fail
  refine (HGT.out w0 HE0.out).mono ?_
  rintro e w1 ⟨r, rfl, hE1⟩
  have HE1 := hide (HE0.out.trans' hE1)
  have HBb := hide (HBa.out.ext hE1)
  clear v0 v1 v2 v3 v4 v5 v6 v7 v8
  have u0 := (HBb.out).cell 0
  have u1 := (HBb.out).cell 1
  have u2 := (HBb.out).cell 2
  have u3 := (HBb.out).cell 3
  have u4 := (HBb.out).cell 4
  have u5 := (HBb.out).cell 5
  have u6 := (HBb.out).cell 6
  have u7 := (HBb.out).cell 7
  have u8 := (HBb.out).cell 8
  simp only [List.getElem?_toArray, List.getElem?_cons_zero, List.getElem?_cons_succ] at u0 u1 u2 u3 u4 u5 u6 u7 u8
  clear hE1
  cases r with
  | true =>
    go_wp2_with fail
    refine (kLives_any w1).mono ?_
    rintro e w2 ⟨rfl, hE2⟩
    have HE2 := hide (HE1.out.trans' hE2)
    clear hE2
    go_wp2_with fail
    go_ret
    exact ⟨rfl, HE2.out⟩
  | false =>
    have cC : (E == E) = true := by simp
    have cD : (A == A) = true := by simp
    go_upto_region 3 with fail
    go_cut [2] (fun v wx => v = .bool true ∧ Ext w1 wx)
    case first =>
      refine wp_region_ext (by kernel_rfl) (by kernel_rfl) w1 (Ext.rfl' _) ?_
      intro I _ f hf hc
      have q0 : ∀ n, (f n).cell? ⟨ga, 0, none⟩ = some x0 := fun n => (HBb.out.ext (hf n)).cell 0
      have q1 : ∀ n, (f n).cell? ⟨ga, 1, none⟩ = some x1 := fun n => (HBb.out.ext (hf n)).cell 1
      have q2 : ∀ n, (f n).cell? ⟨ga, 2, none⟩ = some x2 := fun n => (HBb.out.ext (hf n)).cell 2
      have q3 : ∀ n, (f n).cell? ⟨ga, 3, none⟩ = some x3 := fun n => (HBb.out.ext (hf n)).cell 3
      have q4 : ∀ n, (f n).cell? ⟨ga, 4, none⟩ = some x4 := fun n => (HBb.out.ext (hf n)).cell 4
      have q5 : ∀ n, (f n).cell? ⟨ga, 5, none⟩ = some x5 := fun n => (HBb.out.ext (hf n)).cell 5
      have q6 : ∀ n, (f n).cell? ⟨ga, 6, none⟩ = some x6 := fun n => (HBb.out.ext (hf n)).cell 6
      have q7 : ∀ n, (f n).cell? ⟨ga, 7, none⟩ = some x7 := fun n => (HBb.out.ext (hf n)).cell 7
      have q8 : ∀ n, (f n).cell? ⟨ga, 8, none⟩ = some x8 := fun n => (HBb.out.ext (hf n)).cell 8
      have H1 := hide (fun n => fam_ext hf hc (HRI.out (f n) (HE1.out.trans' (hf n))))
      have H2 := hide (fun n => fam_ext hf hc (HWR.out (f n) (HE1.out.trans' (hf n))))
      have H6 := hide (fun n => fam_ext hf hc (kLives_any (f n)))
      have HF := hide hf
      clear hf hc
      repeat (go_big_quiet_step ((first
        | (go_at_call 8; with_reducible exact H1.out _)
        | (go_at_call 9; with_reducible exact H2.out _)
        | (go_at_call 7; with_reducible exact H6.out _))))
      refine wpQuiet_nil ?_
      rintro _ ⟨nq, rfl⟩
      go_wp2_with fail
      go_meet
      exact ⟨rfl, HF.out nq⟩
    case rest =>
      obtain ⟨rfl, hEc⟩ := hcut
      go_wp2_with fail
      go_ret
      exact ⟨rfl, HE1.out.trans' hEc⟩
end Go.Proofs.Ytanpljalbijfkaa
