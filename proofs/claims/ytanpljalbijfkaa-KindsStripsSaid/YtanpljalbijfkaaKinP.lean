/- kinds.own, walked. (Printed by wip/gen_kinp.py.) -/
import Derived.Test.YtanpljalbijfkaaKinAll
namespace Go.Proofs.Ytanpljalbijfkaa
open Go.RowKit

/-- Has a type nothing but what is its own? -/
def ownI (k lo hi mo : Int) (z n : Nat) (e : Bool) : Bool := ((lo == 0) && (hi == 0) || (k == 2)) && ((mo == 0) || (k == 3) || (k == 5)) && ((n == 0) || (decide (5 ≤ k) && decide (k ≤ 8))) && ((z == 0) || (k == 4)) && (e || (k == 9))
def ownB (h : TyH) (n : Nat) : Bool := ownI h.kind h.lo h.hi h.most h.names.length n (decide (h.name.1 = ⟨#[]⟩))
set_option maxRecDepth 100000 in
set_option maxHeartbeats 2000000 in
theorem own_2 (a lo hi mo y : Int) (An : Option Addr) (z cn : Nat) (Ap : Option Addr) (n cp : Nat) (s : ByteArray) (w : World) : Calls Try.prog 31 #[.agg #[.int .i64 2, .int .i64 a, .int .i64 lo, .int .i64 hi, .int .i64 mo, .slice An z cn, .slice Ap n cp, .string s, .int .i64 y]] w (fun e w' => e = .returned (.bool (ownI 2 lo hi mo z n (decide (s = ⟨#[]⟩)))) ∧ Ext w w') := by
  obtain ⟨w1, hw1⟩ : ∃ w1, w1 = w.alloc (.cells #[.int .i64 2, .int .i64 a, .int .i64 lo, .int .i64 hi, .int .i64 mo, .slice An z cn, .slice Ap n cp, .string s, .int .i64 y] 27) := ⟨_, rfl⟩
  obtain ⟨g, hg⟩ : ∃ g, g = w.heap.size := ⟨_, rfl⟩
  have hB : Blk w1 g 27 #[.int .i64 2, .int .i64 a, .int .i64 lo, .int .i64 hi, .int .i64 mo, .slice An z cn, .slice Ap n cp, .string s, .int .i64 y] := by rw [hw1, hg]; exact Blk.new _ _ _
  have HE := hide (show Ext w w1 by rw [hw1]; exact (Ext.rfl' w).alloc (Nat.le_refl _) _)
  have b0 := hB.cell 0
  have b2 := hB.cell 2
  have b3 := hB.cell 3
  have b4 := hB.cell 4
  have b5 := hB.cell 5
  have b6 := hB.cell 6
  have b7 := hB.cell 7
  simp only [List.getElem?_toArray, List.getElem?_cons_zero, List.getElem?_cons_succ] at b0 b2 b3 b4 b5 b6 b7
  obtain ⟨B0, hB0⟩ : ∃ x, x = (lo == 0) := ⟨_, rfl⟩
  obtain ⟨B1, hB1⟩ : ∃ x, x = (hi == 0) := ⟨_, rfl⟩
  obtain ⟨B2, hB2⟩ : ∃ x, x = (mo == 0) := ⟨_, rfl⟩
  obtain ⟨B3, hB3⟩ : ∃ x, x = ((n : Int) == 0) := ⟨_, rfl⟩
  obtain ⟨B4, hB4⟩ : ∃ x, x = ((z : Int) == 0) := ⟨_, rfl⟩
  obtain ⟨B5, hB5⟩ : ∃ x, x = s.toList.isEmpty := ⟨_, rfl⟩
  obtain ⟨R, hR⟩ : ∃ R, R = ownI 2 lo hi mo z n (decide (s = ⟨#[]⟩)) := ⟨_, rfl⟩
  have hx := hR
  unfold ownI at hx
  have hn : (n == 0) = B3 := by rw [hB3, Bool.eq_iff_iff]; simp
  have hz : (z == 0) = B4 := by rw [hB4, Bool.eq_iff_iff]; simp
  rw [← str_eq, show (s.toList == (⟨#[]⟩ : ByteArray).toList) = s.toList.isEmpty by simp, ← hB0, ← hB1, ← hB2, hn, hz, ← hB5] at hx
  rw [← hR]
  have e0 := hB0.symm
  have e1 := hB1.symm
  have e2 := hB2.symm
  have e3 := hB3.symm
  have e4 := hB4.symm
  have e5 := hB5.symm
  rw [show (decide ((5 : Int) ≤ 2) && decide ((2 : Int) ≤ 8)) = false by decide] at hx
  have HX := hide hx
  have HW := hide hw1
  have HG := hide hg
  clear hw1 hg hB hR hx hn hz hB0 hB1 hB2 hB3 hB4 hB5
  go_enter Try.func31, Try.ntmps31
  go_upto_region 1 with fail
  rw [← HW.out, ← HG.out]
  go_cut [3] (fun v wx => v = .bool (B0 && B1) ∧ wx = w1)
  case first =>
    cases B0 with
    | false =>
      go_wp2_with fail
      go_meet
      exact ⟨rfl, rfl⟩
    | true =>
      go_wp2_with fail
      go_meet
      exact ⟨rfl, rfl⟩
  case rest =>
    obtain ⟨rfl, rfl⟩ := hcut
    obtain ⟨NU, hNU⟩ : ∃ x, x = (B0 && B1) := ⟨_, rfl⟩
    rw [← hNU] at HX ⊢
    clear hNU
    go_upto_region 9 with fail
    go_cut [5] (fun v wx => v = .bool (B3 || false) ∧ wx = wc)
    case first =>
      cases B3 with
      | true =>
        go_wp2_with fail
        go_meet
        exact ⟨rfl, rfl⟩
      | false =>
        go_wp2_with fail
        go_meet
        exact ⟨rfl, rfl⟩
    case rest =>
      obtain ⟨rfl, hww⟩ := hcut
      rw [hww]
      obtain ⟨PA, hPA⟩ : ∃ x, x = (B3 || false) := ⟨_, rfl⟩
      rw [← hPA] at HX ⊢
      clear hPA hww
      cases B2 with
      | false =>
        go_wp2_with fail
        go_ret
        exact ⟨ret_bool (by rw [HX.out]; first | rfl | (cases NU <;> rfl) | (cases B2 <;> rfl) | (cases NU <;> cases B2 <;> rfl)), HE.out⟩
      | true =>
        cases PA with
        | false =>
          go_wp2_with fail
          go_ret
          exact ⟨ret_bool (by rw [HX.out]; first | rfl | (cases NU <;> rfl) | (cases B2 <;> rfl) | (cases NU <;> cases B2 <;> rfl)), HE.out⟩
        | true =>
          cases B4 with
          | true =>
            cases B5 with
            | true =>
              have e5' : s.toList = [] := by simpa using e5
              go_wp2_with fail
              go_ret
              exact ⟨ret_bool (by rw [HX.out]; first | rfl | (cases NU <;> rfl) | (cases B2 <;> rfl) | (cases NU <;> cases B2 <;> rfl)), HE.out⟩
            | false =>
              have e5' : ¬ s.toList = [] := by simpa using e5
              go_wp2_with fail
              go_ret
              exact ⟨ret_bool (by rw [HX.out]; first | rfl | (cases NU <;> rfl) | (cases B2 <;> rfl) | (cases NU <;> cases B2 <;> rfl)), HE.out⟩
          | false =>
            go_wp2_with fail
            go_ret
            exact ⟨ret_bool (by rw [HX.out]; first | rfl | (cases NU <;> rfl) | (cases B2 <;> rfl) | (cases NU <;> cases B2 <;> rfl)), HE.out⟩
set_option maxRecDepth 100000 in
set_option maxHeartbeats 2000000 in
theorem own_3 (a lo hi mo y : Int) (An : Option Addr) (z cn : Nat) (Ap : Option Addr) (n cp : Nat) (s : ByteArray) (w : World) : Calls Try.prog 31 #[.agg #[.int .i64 3, .int .i64 a, .int .i64 lo, .int .i64 hi, .int .i64 mo, .slice An z cn, .slice Ap n cp, .string s, .int .i64 y]] w (fun e w' => e = .returned (.bool (ownI 3 lo hi mo z n (decide (s = ⟨#[]⟩)))) ∧ Ext w w') := by
  obtain ⟨w1, hw1⟩ : ∃ w1, w1 = w.alloc (.cells #[.int .i64 3, .int .i64 a, .int .i64 lo, .int .i64 hi, .int .i64 mo, .slice An z cn, .slice Ap n cp, .string s, .int .i64 y] 27) := ⟨_, rfl⟩
  obtain ⟨g, hg⟩ : ∃ g, g = w.heap.size := ⟨_, rfl⟩
  have hB : Blk w1 g 27 #[.int .i64 3, .int .i64 a, .int .i64 lo, .int .i64 hi, .int .i64 mo, .slice An z cn, .slice Ap n cp, .string s, .int .i64 y] := by rw [hw1, hg]; exact Blk.new _ _ _
  have HE := hide (show Ext w w1 by rw [hw1]; exact (Ext.rfl' w).alloc (Nat.le_refl _) _)
  have b0 := hB.cell 0
  have b2 := hB.cell 2
  have b3 := hB.cell 3
  have b4 := hB.cell 4
  have b5 := hB.cell 5
  have b6 := hB.cell 6
  have b7 := hB.cell 7
  simp only [List.getElem?_toArray, List.getElem?_cons_zero, List.getElem?_cons_succ] at b0 b2 b3 b4 b5 b6 b7
  obtain ⟨B0, hB0⟩ : ∃ x, x = (lo == 0) := ⟨_, rfl⟩
  obtain ⟨B1, hB1⟩ : ∃ x, x = (hi == 0) := ⟨_, rfl⟩
  obtain ⟨B2, hB2⟩ : ∃ x, x = (mo == 0) := ⟨_, rfl⟩
  obtain ⟨B3, hB3⟩ : ∃ x, x = ((n : Int) == 0) := ⟨_, rfl⟩
  obtain ⟨B4, hB4⟩ : ∃ x, x = ((z : Int) == 0) := ⟨_, rfl⟩
  obtain ⟨B5, hB5⟩ : ∃ x, x = s.toList.isEmpty := ⟨_, rfl⟩
  obtain ⟨R, hR⟩ : ∃ R, R = ownI 3 lo hi mo z n (decide (s = ⟨#[]⟩)) := ⟨_, rfl⟩
  have hx := hR
  unfold ownI at hx
  have hn : (n == 0) = B3 := by rw [hB3, Bool.eq_iff_iff]; simp
  have hz : (z == 0) = B4 := by rw [hB4, Bool.eq_iff_iff]; simp
  rw [← str_eq, show (s.toList == (⟨#[]⟩ : ByteArray).toList) = s.toList.isEmpty by simp, ← hB0, ← hB1, ← hB2, hn, hz, ← hB5] at hx
  rw [← hR]
  have e0 := hB0.symm
  have e1 := hB1.symm
  have e2 := hB2.symm
  have e3 := hB3.symm
  have e4 := hB4.symm
  have e5 := hB5.symm
  rw [show (decide ((5 : Int) ≤ 3) && decide ((3 : Int) ≤ 8)) = false by decide] at hx
  have HX := hide hx
  have HW := hide hw1
  have HG := hide hg
  clear hw1 hg hB hR hx hn hz hB0 hB1 hB2 hB3 hB4 hB5
  go_enter Try.func31, Try.ntmps31
  go_upto_region 1 with fail
  rw [← HW.out, ← HG.out]
  go_cut [3] (fun v wx => v = .bool (B0 && B1) ∧ wx = w1)
  case first =>
    cases B0 with
    | false =>
      go_wp2_with fail
      go_meet
      exact ⟨rfl, rfl⟩
    | true =>
      go_wp2_with fail
      go_meet
      exact ⟨rfl, rfl⟩
  case rest =>
    obtain ⟨rfl, rfl⟩ := hcut
    obtain ⟨NU, hNU⟩ : ∃ x, x = (B0 && B1) := ⟨_, rfl⟩
    rw [← hNU] at HX ⊢
    clear hNU
    go_upto_region 9 with fail
    go_cut [5] (fun v wx => v = .bool (B3 || false) ∧ wx = wc)
    case first =>
      cases B3 with
      | true =>
        go_wp2_with fail
        go_meet
        exact ⟨rfl, rfl⟩
      | false =>
        go_wp2_with fail
        go_meet
        exact ⟨rfl, rfl⟩
    case rest =>
      obtain ⟨rfl, hww⟩ := hcut
      rw [hww]
      obtain ⟨PA, hPA⟩ : ∃ x, x = (B3 || false) := ⟨_, rfl⟩
      rw [← hPA] at HX ⊢
      clear hPA hww
      cases NU with
      | false =>
        go_wp2_with fail
        go_ret
        exact ⟨ret_bool (by rw [HX.out]; first | rfl | (cases NU <;> rfl) | (cases B2 <;> rfl) | (cases NU <;> cases B2 <;> rfl)), HE.out⟩
      | true =>
        cases PA with
        | false =>
          go_wp2_with fail
          go_ret
          exact ⟨ret_bool (by rw [HX.out]; first | rfl | (cases NU <;> rfl) | (cases B2 <;> rfl) | (cases NU <;> cases B2 <;> rfl)), HE.out⟩
        | true =>
          cases B4 with
          | true =>
            cases B5 with
            | true =>
              have e5' : s.toList = [] := by simpa using e5
              go_wp2_with fail
              go_ret
              exact ⟨ret_bool (by rw [HX.out]; first | rfl | (cases NU <;> rfl) | (cases B2 <;> rfl) | (cases NU <;> cases B2 <;> rfl)), HE.out⟩
            | false =>
              have e5' : ¬ s.toList = [] := by simpa using e5
              go_wp2_with fail
              go_ret
              exact ⟨ret_bool (by rw [HX.out]; first | rfl | (cases NU <;> rfl) | (cases B2 <;> rfl) | (cases NU <;> cases B2 <;> rfl)), HE.out⟩
          | false =>
            go_wp2_with fail
            go_ret
            exact ⟨ret_bool (by rw [HX.out]; first | rfl | (cases NU <;> rfl) | (cases B2 <;> rfl) | (cases NU <;> cases B2 <;> rfl)), HE.out⟩
set_option maxRecDepth 100000 in
set_option maxHeartbeats 2000000 in
theorem own_5 (a lo hi mo y : Int) (An : Option Addr) (z cn : Nat) (Ap : Option Addr) (n cp : Nat) (s : ByteArray) (w : World) : Calls Try.prog 31 #[.agg #[.int .i64 5, .int .i64 a, .int .i64 lo, .int .i64 hi, .int .i64 mo, .slice An z cn, .slice Ap n cp, .string s, .int .i64 y]] w (fun e w' => e = .returned (.bool (ownI 5 lo hi mo z n (decide (s = ⟨#[]⟩)))) ∧ Ext w w') := by
  obtain ⟨w1, hw1⟩ : ∃ w1, w1 = w.alloc (.cells #[.int .i64 5, .int .i64 a, .int .i64 lo, .int .i64 hi, .int .i64 mo, .slice An z cn, .slice Ap n cp, .string s, .int .i64 y] 27) := ⟨_, rfl⟩
  obtain ⟨g, hg⟩ : ∃ g, g = w.heap.size := ⟨_, rfl⟩
  have hB : Blk w1 g 27 #[.int .i64 5, .int .i64 a, .int .i64 lo, .int .i64 hi, .int .i64 mo, .slice An z cn, .slice Ap n cp, .string s, .int .i64 y] := by rw [hw1, hg]; exact Blk.new _ _ _
  have HE := hide (show Ext w w1 by rw [hw1]; exact (Ext.rfl' w).alloc (Nat.le_refl _) _)
  have b0 := hB.cell 0
  have b2 := hB.cell 2
  have b3 := hB.cell 3
  have b4 := hB.cell 4
  have b5 := hB.cell 5
  have b6 := hB.cell 6
  have b7 := hB.cell 7
  simp only [List.getElem?_toArray, List.getElem?_cons_zero, List.getElem?_cons_succ] at b0 b2 b3 b4 b5 b6 b7
  obtain ⟨B0, hB0⟩ : ∃ x, x = (lo == 0) := ⟨_, rfl⟩
  obtain ⟨B1, hB1⟩ : ∃ x, x = (hi == 0) := ⟨_, rfl⟩
  obtain ⟨B2, hB2⟩ : ∃ x, x = (mo == 0) := ⟨_, rfl⟩
  obtain ⟨B3, hB3⟩ : ∃ x, x = ((n : Int) == 0) := ⟨_, rfl⟩
  obtain ⟨B4, hB4⟩ : ∃ x, x = ((z : Int) == 0) := ⟨_, rfl⟩
  obtain ⟨B5, hB5⟩ : ∃ x, x = s.toList.isEmpty := ⟨_, rfl⟩
  obtain ⟨R, hR⟩ : ∃ R, R = ownI 5 lo hi mo z n (decide (s = ⟨#[]⟩)) := ⟨_, rfl⟩
  have hx := hR
  unfold ownI at hx
  have hn : (n == 0) = B3 := by rw [hB3, Bool.eq_iff_iff]; simp
  have hz : (z == 0) = B4 := by rw [hB4, Bool.eq_iff_iff]; simp
  rw [← str_eq, show (s.toList == (⟨#[]⟩ : ByteArray).toList) = s.toList.isEmpty by simp, ← hB0, ← hB1, ← hB2, hn, hz, ← hB5] at hx
  rw [← hR]
  have e0 := hB0.symm
  have e1 := hB1.symm
  have e2 := hB2.symm
  have e3 := hB3.symm
  have e4 := hB4.symm
  have e5 := hB5.symm
  rw [show (decide ((5 : Int) ≤ 5) && decide ((5 : Int) ≤ 8)) = true by decide] at hx
  have HX := hide hx
  have HW := hide hw1
  have HG := hide hg
  clear hw1 hg hB hR hx hn hz hB0 hB1 hB2 hB3 hB4 hB5
  go_enter Try.func31, Try.ntmps31
  go_upto_region 1 with fail
  rw [← HW.out, ← HG.out]
  go_cut [3] (fun v wx => v = .bool (B0 && B1) ∧ wx = w1)
  case first =>
    cases B0 with
    | false =>
      go_wp2_with fail
      go_meet
      exact ⟨rfl, rfl⟩
    | true =>
      go_wp2_with fail
      go_meet
      exact ⟨rfl, rfl⟩
  case rest =>
    obtain ⟨rfl, rfl⟩ := hcut
    obtain ⟨NU, hNU⟩ : ∃ x, x = (B0 && B1) := ⟨_, rfl⟩
    rw [← hNU] at HX ⊢
    clear hNU
    go_upto_region 9 with fail
    go_cut [5] (fun v wx => v = .bool (B3 || true) ∧ wx = wc)
    case first =>
      cases B3 with
      | true =>
        go_wp2_with fail
        go_meet
        exact ⟨rfl, rfl⟩
      | false =>
        go_wp2_with fail
        go_meet
        exact ⟨rfl, rfl⟩
    case rest =>
      obtain ⟨rfl, hww⟩ := hcut
      rw [hww]
      obtain ⟨PA, hPA⟩ : ∃ x, x = (B3 || true) := ⟨_, rfl⟩
      rw [← hPA] at HX ⊢
      clear hPA hww
      cases NU with
      | false =>
        go_wp2_with fail
        go_ret
        exact ⟨ret_bool (by rw [HX.out]; first | rfl | (cases NU <;> rfl) | (cases B2 <;> rfl) | (cases NU <;> cases B2 <;> rfl)), HE.out⟩
      | true =>
        cases PA with
        | false =>
          go_wp2_with fail
          go_ret
          exact ⟨ret_bool (by rw [HX.out]; first | rfl | (cases NU <;> rfl) | (cases B2 <;> rfl) | (cases NU <;> cases B2 <;> rfl)), HE.out⟩
        | true =>
          cases B4 with
          | true =>
            cases B5 with
            | true =>
              have e5' : s.toList = [] := by simpa using e5
              go_wp2_with fail
              go_ret
              exact ⟨ret_bool (by rw [HX.out]; first | rfl | (cases NU <;> rfl) | (cases B2 <;> rfl) | (cases NU <;> cases B2 <;> rfl)), HE.out⟩
            | false =>
              have e5' : ¬ s.toList = [] := by simpa using e5
              go_wp2_with fail
              go_ret
              exact ⟨ret_bool (by rw [HX.out]; first | rfl | (cases NU <;> rfl) | (cases B2 <;> rfl) | (cases NU <;> cases B2 <;> rfl)), HE.out⟩
          | false =>
            go_wp2_with fail
            go_ret
            exact ⟨ret_bool (by rw [HX.out]; first | rfl | (cases NU <;> rfl) | (cases B2 <;> rfl) | (cases NU <;> cases B2 <;> rfl)), HE.out⟩
set_option maxRecDepth 100000 in
set_option maxHeartbeats 2000000 in
theorem own_o (k a lo hi mo y : Int) (An : Option Addr) (z cn : Nat) (Ap : Option Addr) (n cp : Nat) (s : ByteArray) (k2 : (k == 2) = false) (k3 : (k == 3) = false) (k5 : (k == 5) = false) (w : World) : Calls Try.prog 31 #[.agg #[.int .i64 k, .int .i64 a, .int .i64 lo, .int .i64 hi, .int .i64 mo, .slice An z cn, .slice Ap n cp, .string s, .int .i64 y]] w (fun e w' => e = .returned (.bool (ownI k lo hi mo z n (decide (s = ⟨#[]⟩)))) ∧ Ext w w') := by
  obtain ⟨w1, hw1⟩ : ∃ w1, w1 = w.alloc (.cells #[.int .i64 k, .int .i64 a, .int .i64 lo, .int .i64 hi, .int .i64 mo, .slice An z cn, .slice Ap n cp, .string s, .int .i64 y] 27) := ⟨_, rfl⟩
  obtain ⟨g, hg⟩ : ∃ g, g = w.heap.size := ⟨_, rfl⟩
  have hB : Blk w1 g 27 #[.int .i64 k, .int .i64 a, .int .i64 lo, .int .i64 hi, .int .i64 mo, .slice An z cn, .slice Ap n cp, .string s, .int .i64 y] := by rw [hw1, hg]; exact Blk.new _ _ _
  have HE := hide (show Ext w w1 by rw [hw1]; exact (Ext.rfl' w).alloc (Nat.le_refl _) _)
  have b0 := hB.cell 0
  have b2 := hB.cell 2
  have b3 := hB.cell 3
  have b4 := hB.cell 4
  have b5 := hB.cell 5
  have b6 := hB.cell 6
  have b7 := hB.cell 7
  simp only [List.getElem?_toArray, List.getElem?_cons_zero, List.getElem?_cons_succ] at b0 b2 b3 b4 b5 b6 b7
  obtain ⟨B0, hB0⟩ : ∃ x, x = (lo == 0) := ⟨_, rfl⟩
  obtain ⟨B1, hB1⟩ : ∃ x, x = (hi == 0) := ⟨_, rfl⟩
  obtain ⟨B2, hB2⟩ : ∃ x, x = (mo == 0) := ⟨_, rfl⟩
  obtain ⟨B3, hB3⟩ : ∃ x, x = ((n : Int) == 0) := ⟨_, rfl⟩
  obtain ⟨B4, hB4⟩ : ∃ x, x = ((z : Int) == 0) := ⟨_, rfl⟩
  obtain ⟨B5, hB5⟩ : ∃ x, x = s.toList.isEmpty := ⟨_, rfl⟩
  obtain ⟨R, hR⟩ : ∃ R, R = ownI k lo hi mo z n (decide (s = ⟨#[]⟩)) := ⟨_, rfl⟩
  have hx := hR
  unfold ownI at hx
  have hn : (n == 0) = B3 := by rw [hB3, Bool.eq_iff_iff]; simp
  have hz : (z == 0) = B4 := by rw [hB4, Bool.eq_iff_iff]; simp
  rw [← str_eq, show (s.toList == (⟨#[]⟩ : ByteArray).toList) = s.toList.isEmpty by simp, ← hB0, ← hB1, ← hB2, hn, hz, ← hB5] at hx
  rw [← hR]
  have e0 := hB0.symm
  have e1 := hB1.symm
  have e2 := hB2.symm
  have e3 := hB3.symm
  have e4 := hB4.symm
  have e5 := hB5.symm
  rw [k2, k3, k5] at hx
  obtain ⟨K4, hK4⟩ : ∃ x, x = (k == 4) := ⟨_, rfl⟩
  obtain ⟨K9, hK9⟩ : ∃ x, x = (k == 9) := ⟨_, rfl⟩
  obtain ⟨G5, hG5⟩ : ∃ x, x = decide (5 ≤ k) := ⟨_, rfl⟩
  obtain ⟨L8, hL8⟩ : ∃ x, x = decide (k ≤ 8) := ⟨_, rfl⟩
  rw [← hK4, ← hK9, ← hG5, ← hL8] at hx
  have e6 := hK4.symm
  have e7 := hK9.symm
  have e8 := hG5.symm
  have e9 := hL8.symm
  have HX := hide hx
  have HW := hide hw1
  have HG := hide hg
  clear hw1 hg hB hR hx hn hz hB0 hB1 hB2 hB3 hB4 hB5 hK4 hK9 hG5 hL8
  go_enter Try.func31, Try.ntmps31
  go_upto_region 1 with fail
  rw [← HW.out, ← HG.out]
  go_cut [3] (fun v wx => v = .bool (B0 && B1) ∧ wx = w1)
  case first =>
    cases B0 with
    | false =>
      go_wp2_with fail
      go_meet
      exact ⟨rfl, rfl⟩
    | true =>
      go_wp2_with fail
      go_meet
      exact ⟨rfl, rfl⟩
  case rest =>
    obtain ⟨rfl, rfl⟩ := hcut
    obtain ⟨NU, hNU⟩ : ∃ x, x = (B0 && B1) := ⟨_, rfl⟩
    rw [← hNU] at HX ⊢
    clear hNU
    go_upto_region 9 with fail
    go_cut [5] (fun v wx => v = .bool (B3 || (G5 && L8)) ∧ wx = wc)
    case first =>
      cases B3 with
      | true =>
        go_wp2_with fail
        go_meet
        exact ⟨rfl, rfl⟩
      | false =>
        cases G5 with
        | false =>
          go_wp2_with fail
          go_meet
          exact ⟨rfl, rfl⟩
        | true =>
          go_wp2_with fail
          go_meet
          exact ⟨rfl, rfl⟩
    case rest =>
      obtain ⟨rfl, hww⟩ := hcut
      rw [hww]
      obtain ⟨PA, hPA⟩ : ∃ x, x = (B3 || (G5 && L8)) := ⟨_, rfl⟩
      rw [← hPA] at HX ⊢
      clear hPA hww
      cases NU with
      | false =>
        go_wp2_with fail
        go_ret
        exact ⟨ret_bool (by rw [HX.out]; first | rfl | (cases NU <;> rfl) | (cases B2 <;> rfl) | (cases NU <;> cases B2 <;> rfl)), HE.out⟩
      | true =>
        cases B2 with
        | false =>
          go_wp2_with fail
          go_ret
          exact ⟨ret_bool (by rw [HX.out]; first | rfl | (cases NU <;> rfl) | (cases B2 <;> rfl) | (cases NU <;> cases B2 <;> rfl)), HE.out⟩
        | true =>
          cases PA with
          | false =>
            go_wp2_with fail
            go_ret
            exact ⟨ret_bool (by rw [HX.out]; first | rfl | (cases NU <;> rfl) | (cases B2 <;> rfl) | (cases NU <;> cases B2 <;> rfl)), HE.out⟩
          | true =>
            cases B4 with
            | true =>
              cases B5 with
              | true =>
                have e5' : s.toList = [] := by simpa using e5
                go_wp2_with fail
                go_ret
                exact ⟨ret_bool (by rw [HX.out]; first | rfl | (cases NU <;> rfl) | (cases B2 <;> rfl) | (cases NU <;> cases B2 <;> rfl)), HE.out⟩
              | false =>
                have e5' : ¬ s.toList = [] := by simpa using e5
                cases K9 with
                | false =>
                  go_wp2_with fail
                  go_ret
                  exact ⟨ret_bool (by rw [HX.out]; first | rfl | (cases NU <;> rfl) | (cases B2 <;> rfl) | (cases NU <;> cases B2 <;> rfl)), HE.out⟩
                | true =>
                  go_wp2_with fail
                  go_ret
                  exact ⟨ret_bool (by rw [HX.out]; first | rfl | (cases NU <;> rfl) | (cases B2 <;> rfl) | (cases NU <;> cases B2 <;> rfl)), HE.out⟩
            | false =>
              cases K4 with
              | false =>
                go_wp2_with fail
                go_ret
                exact ⟨ret_bool (by rw [HX.out]; first | rfl | (cases NU <;> rfl) | (cases B2 <;> rfl) | (cases NU <;> cases B2 <;> rfl)), HE.out⟩
              | true =>
                cases B5 with
                | true =>
                  have e5' : s.toList = [] := by simpa using e5
                  go_wp2_with fail
                  go_ret
                  exact ⟨ret_bool (by rw [HX.out]; first | rfl | (cases NU <;> rfl) | (cases B2 <;> rfl) | (cases NU <;> cases B2 <;> rfl)), HE.out⟩
                | false =>
                  have e5' : ¬ s.toList = [] := by simpa using e5
                  cases K9 with
                  | false =>
                    go_wp2_with fail
                    go_ret
                    exact ⟨ret_bool (by rw [HX.out]; first | rfl | (cases NU <;> rfl) | (cases B2 <;> rfl) | (cases NU <;> cases B2 <;> rfl)), HE.out⟩
                  | true =>
                    go_wp2_with fail
                    go_ret
                    exact ⟨ret_bool (by rw [HX.out]; first | rfl | (cases NU <;> rfl) | (cases B2 <;> rfl) | (cases NU <;> cases B2 <;> rfl)), HE.out⟩
end Go.Proofs.Ytanpljalbijfkaa
