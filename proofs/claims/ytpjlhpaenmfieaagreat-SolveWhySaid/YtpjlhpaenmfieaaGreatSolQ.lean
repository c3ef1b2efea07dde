/- solve: the document's Right, walked. -/
import Derived.Test.YtpjlhpaenmfieaaGreatSolAll
namespace Go.Proofs.YtpjlhpaenmfieaaGreat
open Go.RowKit

set_option maxRecDepth 100000 in
set_option maxHeartbeats 1000000 in
theorem ref44Right_any (nl np k a b : Int) (w : World) : Calls Tryz.prog 62 #[.int .i64 nl, .int .i64 np, .agg #[.int .i64 k, .int .i64 a, .int .i64 b]] w (fun e w' => e = .returned (.bool (rightR nl np (k, a, b))) ∧ Ext w w') := by
  obtain ⟨w1, hw1⟩ : ∃ w1, w1 = w.alloc (.cells #[.int .i64 k, .int .i64 a, .int .i64 b] 110) := ⟨_, rfl⟩
  obtain ⟨g, hg⟩ : ∃ g, g = w.heap.size := ⟨_, rfl⟩
  have hB : Blk w1 g 110 #[.int .i64 k, .int .i64 a, .int .i64 b] := by rw [hw1, hg]; exact Blk.new _ _ _
  have HE := hide (show Ext w w1 by rw [hw1]; exact (Ext.rfl' w).alloc (Nat.le_refl _) _)
  have b0 := hB.cell 0
  have b1 := hB.cell 1
  have b2 := hB.cell 2
  simp only [List.getElem?_toArray, List.getElem?_cons_zero, List.getElem?_cons_succ] at b0 b1 b2
  have HW := hide hw1
  have HG := hide hg
  clear hw1 hg hB
  have key : ∀ (n1 n2 : Int) (k' : Int), k = k' → (k' = 1 ∧ n1 = nl ∧ n2 = np ∨ k' = 2 ∧ n1 = np ∧ n2 = np ∨ k' = 3 ∧ n1 = np ∧ n2 = nl) → Calls Tryz.prog 62 #[.int .i64 nl, .int .i64 np, .agg #[.int .i64 k, .int .i64 a, .int .i64 b]] w (fun e w' => e = .returned (.bool (inZ a n1 && inZ b n2)) ∧ Ext w w') := by
    intro n1 n2 k' hk hcase
    subst hk
    obtain ⟨x, hx⟩ : ∃ x, x = (inZ a n1 && inZ b n2) := ⟨_, rfl⟩
    rw [← hx]
    by_cases h0 : 0 ≤ a
    · by_cases h1 : a < n1
      · by_cases h2 : 0 ≤ b
        · by_cases h3 : b < n2
          · have HX := hide (show true = x by rw [hx, inZ_iff.2 ⟨h0, h1⟩, inZ_iff.2 ⟨h2, h3⟩]; rfl)
            clear hx
            rcases hcase with ⟨rfl, rfl, rfl⟩ | ⟨rfl, rfl, rfl⟩ | ⟨rfl, rfl, rfl⟩
            all_goals
              go_enter Tryz.func62, Tryz.ntmps62
              go_upto_region 1 with fail
              rw [← HW.out, ← HG.out]
              go_wp2_with fail
              go_ret
              exact ⟨ret_bool HX.out, HE.out⟩
          · have HX := hide (show false = x by rw [hx, show inZ b n2 = false by rw [← Bool.not_eq_true, inZ_iff]; omega, Bool.and_false])
            clear hx
            rcases hcase with ⟨rfl, rfl, rfl⟩ | ⟨rfl, rfl, rfl⟩ | ⟨rfl, rfl, rfl⟩
            all_goals
              go_enter Tryz.func62, Tryz.ntmps62
              go_upto_region 1 with fail
              rw [← HW.out, ← HG.out]
              go_wp2_with fail
              go_ret
              exact ⟨ret_bool HX.out, HE.out⟩
        · have HX := hide (show false = x by rw [hx, show inZ b n2 = false by rw [← Bool.not_eq_true, inZ_iff]; omega, Bool.and_false])
          clear hx
          rcases hcase with ⟨rfl, rfl, rfl⟩ | ⟨rfl, rfl, rfl⟩ | ⟨rfl, rfl, rfl⟩
          all_goals
            go_enter Tryz.func62, Tryz.ntmps62
            go_upto_region 1 with fail
            rw [← HW.out, ← HG.out]
            go_wp2_with fail
            go_ret
            exact ⟨ret_bool HX.out, HE.out⟩
      · have HX := hide (show false = x by rw [hx, show inZ a n1 = false by rw [← Bool.not_eq_true, inZ_iff]; omega, Bool.false_and])
        clear hx
        rcases hcase with ⟨rfl, rfl, rfl⟩ | ⟨rfl, rfl, rfl⟩ | ⟨rfl, rfl, rfl⟩
        all_goals
          go_enter Tryz.func62, Tryz.ntmps62
          go_upto_region 1 with fail
          rw [← HW.out, ← HG.out]
          go_wp2_with fail
          go_ret
          exact ⟨ret_bool HX.out, HE.out⟩
    · have HX := hide (show false = x by rw [hx, show inZ a n1 = false by rw [← Bool.not_eq_true, inZ_iff]; omega, Bool.false_and])
      clear hx
      rcases hcase with ⟨rfl, rfl, rfl⟩ | ⟨rfl, rfl, rfl⟩ | ⟨rfl, rfl, rfl⟩
      all_goals
        go_enter Tryz.func62, Tryz.ntmps62
        go_upto_region 1 with fail
        rw [← HW.out, ← HG.out]
        go_wp2_with fail
        go_ret
        exact ⟨ret_bool HX.out, HE.out⟩
  unfold rightR
  by_cases c1 : k = 1
  · rw [if_pos c1]
    exact key nl np 1 c1 (.inl ⟨rfl, rfl, rfl⟩)
  · rw [if_neg c1]
    by_cases c2 : k = 2
    · rw [if_pos c2]
      exact key np np 2 c2 (.inr (.inl ⟨rfl, rfl, rfl⟩))
    · rw [if_neg c2]
      by_cases c3 : k = 3
      · rw [if_pos c3]
        exact key np nl 3 c3 (.inr (.inr ⟨rfl, rfl, rfl⟩))
      · rw [if_neg c3]
        clear key
        have e1 : (k == 1) = false := by simpa using c1
        have e3 : (k == 3) = false := by simpa using c3
        by_cases h0 : 0 < k
        · have h4 : ¬ k < 4 := by omega
          clear c1 c2 c3
          go_enter Tryz.func62, Tryz.ntmps62
          go_upto_region 1 with fail
          rw [← HW.out, ← HG.out]
          go_wp2_with fail
          go_ret
          exact ⟨rfl, HE.out⟩
        · clear c1 c2 c3
          go_enter Tryz.func62, Tryz.ntmps62
          go_upto_region 1 with fail
          rw [← HW.out, ← HG.out]
          go_wp2_with fail
          go_ret
          exact ⟨rfl, HE.out⟩

set_option maxRecDepth 100000 in
set_option maxHeartbeats 2000000 in
theorem refHolds_any (AM : Option Addr) (cM n : Nat) (M : List (List Bool)) (A : Option Addr) (c m : Nat) (x : List Int) (k a b : Int) (w : World) (h : MatAt w w.heap.size AM M) (hsq : ∀ r ∈ M, r.length = M.length) (hn : n = M.length) (hx : IntAt w w.heap.size A x) (hm : m = x.length) (hr : rightR n m (k, a, b) = true) (u v : Nat) (hu : loR x (k, a, b) = u) (hv : hiR x (k, a, b) = v) (hun : u < n) (hvn : v < n) :
    Calls Tryz.prog 64 #[.slice AM n cM, .slice A m c, .agg #[.int .i64 k, .int .i64 a, .int .i64 b]] w (fun e w' => e = .returned (.bool (mat M u v)) ∧ Ext w w') := by
  obtain ⟨bl, ol, rfl, hbl, hrows⟩ := h.form hsq (by omega)
  rw [← hn] at hrows
  obtain ⟨bk, ok, ck, r1, hbk, r2⟩ := hrows u hun
  have e2 := r2 v hvn
  obtain ⟨U, hU⟩ : ∃ U, U = mat M u v := ⟨_, rfl⟩
  rw [← hU] at e2 ⊢
  obtain ⟨w1, hw1⟩ : ∃ w1, w1 = w.alloc (.cells #[.int .i64 k, .int .i64 a, .int .i64 b] 110) := ⟨_, rfl⟩
  obtain ⟨g, hg⟩ : ∃ g, g = w.heap.size := ⟨_, rfl⟩
  have hB : Blk w1 g 110 #[.int .i64 k, .int .i64 a, .int .i64 b] := by rw [hw1, hg]; exact Blk.new _ _ _
  have hE := (show Ext w w1 by rw [hw1]; exact (Ext.rfl' w).alloc (Nat.le_refl _) _)
  have b0 := hB.cell 0
  have b1 := hB.cell 1
  have b2 := hB.cell 2
  simp only [List.getElem?_toArray, List.getElem?_cons_zero, List.getElem?_cons_succ] at b0 b1 b2
  have q1 := (hE.cell (p := ⟨bl, ol + u, none⟩) hbl).trans r1
  have q2 := (hE.cell (p := ⟨bk, ok + v, none⟩) hbk).trans e2
  have hx1 := hx.ext hE
  have HE := hide hE
  have HW := hide hw1
  have HG := hide hg
  have i0 : (0 : Int) ≤ (u : Int) := by omega
  have i1 : (u : Int) < (n : Int) := by omega
  have i2 : (0 : Int) ≤ (v : Int) := by omega
  have i3 : (v : Int) < (n : Int) := by omega
  clear hw1 hg hB hrows r1 r2 e2 h hE hsq
  have hm' := hm
  unfold rightR at hr
  by_cases c1 : k = 1
  · rw [if_pos c1, Bool.and_eq_true, hm] at hr
    obtain ⟨b', o', kb, rfl, _, hb, hkb, hcell⟩ := int_at hx1 hr.2
    unfold loR at hu
    unfold hiR at hv
    rw [if_pos c1] at hu
    rw [if_neg (by show ¬ k = 3; omega)] at hv
    simp only at hu hv
    rw [hv] at hcell
    subst c1
    subst hb
    subst hu
    have i4 : (0 : Int) ≤ (kb : Int) := by omega
    have i5 : (kb : Int) < (m : Int) := by omega
    clear hr hv hkb hx1 hx hm hm' hU
    go_enter Tryz.func64, Tryz.ntmps64
    go_upto_region 1 with fail
    rw [← HW.out, ← HG.out]
    go_wp2_with fail
    go_quiet (fail)
    go_wp2_with fail
    go_ret
    exact ⟨rfl, below_drewN HE.out _⟩
  · rw [if_neg c1] at hr
    by_cases c2 : k = 2
    · rw [if_pos c2, Bool.and_eq_true, hm] at hr
      obtain ⟨b', o', ka, hA, _, ha, hka, hcella⟩ := int_at hx1 hr.1
      obtain ⟨b'', o'', kb, hA2, _, hb, hkb, hcellb⟩ := int_at hx1 hr.2
      rw [hA] at hA2
      obtain ⟨rfl, rfl⟩ : b' = b'' ∧ o' = o'' := by injection hA2 with h; injection h with h1 h2; exact ⟨h1, h2⟩
      subst hA
      unfold loR at hu
      unfold hiR at hv
      rw [if_neg (by show ¬ k = 1; omega)] at hu
      rw [if_neg (by show ¬ k = 3; omega)] at hv
      simp only at hu hv
      rw [hu] at hcella
      rw [hv] at hcellb
      subst c2
      subst ha
      subst hb
      have i4 : (0 : Int) ≤ (kb : Int) := by omega
      have i5 : (kb : Int) < (m : Int) := by omega
      have i6 : (0 : Int) ≤ (ka : Int) := by omega
      have i7 : (ka : Int) < (m : Int) := by omega
      clear hr hu hv hkb hka hA2 c1 hx1 hx hm hm' hU
      go_enter Tryz.func64, Tryz.ntmps64
      go_upto_region 1 with fail
      rw [← HW.out, ← HG.out]
      go_wp2_with fail
      go_quiet (fail)
      go_wp2_with fail
      go_ret
      exact ⟨rfl, below_drewN HE.out _⟩
    · rw [if_neg c2] at hr
      by_cases c3 : k = 3
      · rw [if_pos c3, Bool.and_eq_true, hm] at hr
        obtain ⟨b', o', ka, rfl, _, ha, hka, hcella⟩ := int_at hx1 hr.1
        unfold loR at hu
        unfold hiR at hv
        rw [if_neg (by show ¬ k = 1; omega)] at hu
        rw [if_pos (by show k = 3; omega)] at hv
        simp only at hu hv
        rw [hu] at hcella
        subst c3
        subst ha
        subst hv
        have i6 : (0 : Int) ≤ (ka : Int) := by omega
        have i7 : (ka : Int) < (m : Int) := by omega
        clear hr hu hka c1 c2 hx1 hx hm hm' hU
        go_enter Tryz.func64, Tryz.ntmps64
        go_upto_region 1 with fail
        rw [← HW.out, ← HG.out]
        go_wp2_with fail
        go_quiet (fail)
        go_wp2_with fail
        go_ret
        exact ⟨rfl, below_drewN HE.out _⟩
      · rw [if_neg c3] at hr; cases hr
end Go.Proofs.YtpjlhpaenmfieaaGreat
