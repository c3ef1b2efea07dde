/- Kind, IsUnsafe of the program and of the document; the chapter's example. -/
import Derived.Test.YtkfepdejiedjbaaPinB
import Derived.StillTailTactics
namespace Go.Proofs.Ytkfepdejiedjbaa
open Go.RowKit
attribute [local irreducible] pin_wide pin_zero pin_control pin_bidi pin_format pin_separator ref_Wide ref_Zero ref_bidi ref_format

set_option maxRecDepth 100000 in
set_option maxHeartbeats 1000000 in
theorem pinKind_any (r : Int) (w : World) : Calls Try.prog 30 #[.int .i32 r] w (RetPost (.int .i64 (kindT r)) w) := by
  go_enter Try.func30, Try.ntmps30
  go_wp2_with fail
  refine (pin_controlT_any _).mono ?_
  rintro e w1 ⟨g1, rfl, hR, hE⟩
  have HE1 := hide hE
  have hC := pinIn_any (some ⟨g1, 0, none⟩) pin_control.length pin_control r w1 hR len_control rises_control
  obtain ⟨n1, hn⟩ : ∃ n, n = pin_control.length := ⟨_, rfl⟩
  rw [← hn] at hC ⊢
  clear hE hR hn
  cases hx : inT pin_control r with
  | true =>
    rw [hx] at hC
    have HC := hide hC
    have HX1 := hide hx
    clear hC hx
    go_wp2_with fail
    refine HC.out.mono ?_
    rintro e w' ⟨rfl, rfl⟩
    go_wp2_with fail
    go_ret
    exact ⟨by simp [kindT, HX1.out], HE1.out⟩
  | false =>
    rw [hx] at hC
    have HC := hide hC
    have HX1 := hide hx
    clear hC hx
    go_wp2_with fail
    refine HC.out.mono ?_
    rintro e w' ⟨rfl, rfl⟩
    go_wp2_with fail
    refine (pin_bidiT_any _).mono ?_
    rintro e w2 ⟨g2, rfl, hR, hE⟩
    have HE2 := hide (Ext.trans' HE1.out hE)
    have hC := pinIn_any (some ⟨g2, 0, none⟩) pin_bidi.length pin_bidi r w2 hR len_bidi rises_bidi
    obtain ⟨n2, hn⟩ : ∃ n, n = pin_bidi.length := ⟨_, rfl⟩
    rw [← hn] at hC ⊢
    clear hE hR hn
    cases hx : inT pin_bidi r with
    | true =>
      rw [hx] at hC
      have HC := hide hC
      have HX2 := hide hx
      clear hC hx
      go_wp2_with fail
      refine HC.out.mono ?_
      rintro e w' ⟨rfl, rfl⟩
      go_wp2_with fail
      go_ret
      exact ⟨by simp [kindT, HX1.out, HX2.out], HE2.out⟩
    | false =>
      rw [hx] at hC
      have HC := hide hC
      have HX2 := hide hx
      clear hC hx
      go_wp2_with fail
      refine HC.out.mono ?_
      rintro e w' ⟨rfl, rfl⟩
      go_wp2_with fail
      refine (pin_formatT_any _).mono ?_
      rintro e w3 ⟨g3, rfl, hR, hE⟩
      have HE3 := hide (Ext.trans' HE2.out hE)
      have hC := pinIn_any (some ⟨g3, 0, none⟩) pin_format.length pin_format r w3 hR len_format rises_format
      obtain ⟨n3, hn⟩ : ∃ n, n = pin_format.length := ⟨_, rfl⟩
      rw [← hn] at hC ⊢
      clear hE hR hn
      cases hx : inT pin_format r with
      | true =>
        rw [hx] at hC
        have HC := hide hC
        have HX3 := hide hx
        clear hC hx
        go_wp2_with fail
        refine HC.out.mono ?_
        rintro e w' ⟨rfl, rfl⟩
        go_wp2_with fail
        go_ret
        exact ⟨by simp [kindT, HX1.out, HX2.out, HX3.out], HE3.out⟩
      | false =>
        rw [hx] at hC
        have HC := hide hC
        have HX3 := hide hx
        clear hC hx
        go_wp2_with fail
        refine HC.out.mono ?_
        rintro e w' ⟨rfl, rfl⟩
        go_wp2_with fail
        refine (pin_separatorT_any _).mono ?_
        rintro e w4 ⟨g4, rfl, hR, hE⟩
        have HE4 := hide (Ext.trans' HE3.out hE)
        have hC := pinIn_any (some ⟨g4, 0, none⟩) pin_separator.length pin_separator r w4 hR len_separator rises_separator
        obtain ⟨n4, hn⟩ : ∃ n, n = pin_separator.length := ⟨_, rfl⟩
        rw [← hn] at hC ⊢
        clear hE hR hn
        cases hx : inT pin_separator r with
        | true =>
          rw [hx] at hC
          have HC := hide hC
          have HX4 := hide hx
          clear hC hx
          go_wp2_with fail
          refine HC.out.mono ?_
          rintro e w' ⟨rfl, rfl⟩
          go_wp2_with fail
          go_ret
          exact ⟨by simp [kindT, HX1.out, HX2.out, HX3.out, HX4.out], HE4.out⟩
        | false =>
          rw [hx] at hC
          have HC := hide hC
          have HX4 := hide hx
          clear hC hx
          go_wp2_with fail
          refine HC.out.mono ?_
          rintro e w' ⟨rfl, rfl⟩
          go_wp2_with fail
          go_ret
          exact ⟨by simp [kindT, HX1.out, HX2.out, HX3.out, HX4.out], HE4.out⟩

set_option maxRecDepth 100000 in
set_option maxHeartbeats 1000000 in
theorem isUnsafe_any (r : Int) (w : World) : Calls Try.prog 31 #[.int .i32 r] w (RetPost (.bool (decide (kindT r ≠ 0))) w) := by
  go_enter Try.func31, Try.ntmps31
  go_wp2_with fail
  refine (pinKind_any r _).mono ?_
  rintro e w1 ⟨rfl, hE⟩
  have HE := hide hE
  obtain ⟨k, hk⟩ : ∃ k, k = kindT r := ⟨_, rfl⟩
  rw [← hk]
  have HK := hide hk
  clear hE hk
  by_cases h0 : k = 0
  · go_wp2_with fail
    go_ret
    exact ⟨ret_bool (by rw [← HK.out]; simp [h0]), HE.out⟩
  · go_wp2_with fail
    go_ret
    exact ⟨ret_bool (by rw [← HK.out]; simp [h0, bne]), HE.out⟩

set_option maxRecDepth 100000 in
set_option maxHeartbeats 1000000 in
theorem refKind_any (r : Int) (w : World) : Calls Try.prog 27 #[.int .i32 r] w (RetPost (.int .i64 (kindT r)) w) := by
  have HN := hide (in_control r)
  have HS := hide (in_separator r)
  go_enter Try.func27, Try.ntmps27
  by_cases hc : (0 ≤ r ∧ r < 32) ∨ (126 < r ∧ r < 160)
  · have HC := hide hc
    have hcut : kindT r = 1 := by simp [kindT, HN.out, hc]
    have HCUT := hide hcut
    clear hcut
    rcases hc with ⟨c1, c2⟩ | ⟨c1, c2⟩
    · go_wp2_with fail
      go_ret
      exact ⟨by rw [HCUT.out]; rfl, Ext.rfl' _⟩
    · by_cases c0 : 0 ≤ r
      · by_cases c3 : r < 32
        · omega
        · go_wp2_with fail
          go_ret
          exact ⟨by rw [HCUT.out]; rfl, Ext.rfl' _⟩
      · omega
  · have HX0 := hide (show inT pin_control r = false by rw [HN.out]; simpa using hc)
    have hgo : (¬ 0 ≤ r ∧ ¬ 126 < r) ∨ (0 ≤ r ∧ ¬ r < 32 ∧ ¬ 126 < r) ∨ (0 ≤ r ∧ ¬ r < 32 ∧ 126 < r ∧ ¬ r < 160) := by omega
    clear hc
    rcases hgo with ⟨c1, c2⟩ | ⟨c1, c2, c3⟩ | ⟨c1, c2, c3, c4⟩
    all_goals
      go_wp2_with fail
      refine (ref_bidiT_any _).mono ?_
      rintro e w1 ⟨g1, rfl, hR, hE⟩
      have HE1 := hide hE
      have hC := refHas_any (some ⟨g1, 0, none⟩) ref_bidi.length ref_bidi r w1 hR len_rbidi
      rw [ref_bidi_in] at hC
      obtain ⟨n1, hn⟩ : ∃ n, n = ref_bidi.length := ⟨_, rfl⟩
      rw [← hn] at hC ⊢
      clear hE hR hn
      cases hx : inT pin_bidi r with
      | true =>
        rw [hx] at hC
        have HC := hide hC
        have HX1 := hide hx
        clear hC hx
        go_wp2_with fail
        refine HC.out.mono ?_
        rintro e w' ⟨rfl, rfl⟩
        go_wp2_with fail
        go_ret
        exact ⟨by simp [kindT, HX0.out, HX1.out], HE1.out⟩
      | false =>
        rw [hx] at hC
        have HC := hide hC
        have HX1 := hide hx
        clear hC hx
        go_wp2_with fail
        refine HC.out.mono ?_
        rintro e w' ⟨rfl, rfl⟩
        go_wp2_with fail
        refine (ref_formatT_any _).mono ?_
        rintro e w2 ⟨g2, rfl, hR, hE⟩
        have HE2 := hide (Ext.trans' HE1.out hE)
        have hC := refHas_any (some ⟨g2, 0, none⟩) ref_format.length ref_format r w2 hR len_rformat
        rw [ref_format_in] at hC
        obtain ⟨n2, hn⟩ : ∃ n, n = ref_format.length := ⟨_, rfl⟩
        rw [← hn] at hC ⊢
        clear hE hR hn
        cases hx : inT pin_format r with
        | true =>
          rw [hx] at hC
          have HC := hide hC
          have HX2 := hide hx
          clear hC hx
          go_wp2_with fail
          refine HC.out.mono ?_
          rintro e w' ⟨rfl, rfl⟩
          go_wp2_with fail
          go_ret
          exact ⟨by simp [kindT, HX0.out, HX1.out, HX2.out], HE2.out⟩
        | false =>
          rw [hx] at hC
          have HC := hide hC
          have HX2 := hide hx
          clear hC hx
          go_wp2_with fail
          refine HC.out.mono ?_
          rintro e w' ⟨rfl, rfl⟩
          by_cases s1 : r = 8232
          · have HY := hide (show inT pin_separator r = true by rw [HS.out]; simp [s1])
            go_wp2_with fail
            go_ret
            exact ⟨by simp [kindT, HX0.out, HX1.out, HX2.out, HY.out], HE2.out⟩
          · by_cases s2 : r = 8233
            · have HY := hide (show inT pin_separator r = true by rw [HS.out]; simp [s2])
              go_wp2_with fail
              go_ret
              exact ⟨by simp [kindT, HX0.out, HX1.out, HX2.out, HY.out], HE2.out⟩
            · have HY := hide (show inT pin_separator r = false by rw [HS.out]; simp [s1, s2])
              have t1 : (r == 8232) = false := by simp [s1]
              have t2 : (r == 8233) = false := by simp [s2]
              go_wp2_with fail
              go_ret
              exact ⟨by simp [kindT, HX0.out, HX1.out, HX2.out, HY.out], HE2.out⟩

end Go.Proofs.Ytkfepdejiedjbaa
