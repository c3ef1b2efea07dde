/- PinnedSets: the walk. -/
import Derived.Test.YtkfepdejiedjbaaPinG
namespace Go.Proofs.Ytkfepdejiedjbaa
open Go.RowKit
attribute [local irreducible] pin_wide pin_zero pin_control pin_bidi pin_format pin_separator ref_Wide ref_Zero ref_bidi ref_format refUns

set_option maxRecDepth 100000 in
set_option maxHeartbeats 2000000 in
theorem pinnedSets_any (r : Int) (w : World) : Calls Try.prog 14 #[.int .i32 r] w (RetPost (.bool true) w) := by
  obtain ⟨W, hW⟩ : ∃ W, inT pin_wide r = W := ⟨_, rfl⟩
  obtain ⟨Z, hZ⟩ : ∃ Z, inT pin_zero r = Z := ⟨_, rfl⟩
  obtain ⟨k, hk⟩ : ∃ k, kindT r = k := ⟨_, rfl⟩
  have hn : sizeT r = if W then 2 else if Z then 0 else 1 := by simp [sizeT, hW, hZ]
  have hwz : W = true → Z = false := fun h => by rw [← hZ]; exact wide_zero_apart (hW.trans h)
  have HSZ := hide fun w => calls_int (refSize_any r w) hn
  have HKD := hide fun w => calls_int (refKind_any r w) hk
  have HHW := hide fun w A c n s (h : SetAt w A n s (hasT pin_wide)) => ext_ret (hasQ (c := c) r h) (show Value.bool (hasT pin_wide r) = .bool W by rw [wide_in, hW])
  have HHZ := hide fun w A c n s (h : SetAt w A n s (hasT pin_zero)) => ext_ret (hasQ (c := c) r h) (show Value.bool (hasT pin_zero r) = .bool Z by rw [zero_in, hZ])
  have HHU := hide fun w A c n s (h : SetAt w A n s (unsF 3)) => ext_ret (hasQ (c := c) r h) (show Value.bool (unsF 3 r) = .bool (decide (k ≠ 0)) by rw [uns_kind, hk])
  clear hW hZ hk
  have main : ∀ (n : Int) (B : Bool) (_ : (if W then (2 : Int) else if Z then 0 else 1) = n) (_ : decide (k ≠ 0) = B) (_ : (n == 2) = W) (_ : (n == 0) = Z) (_ : (k != 0) = B),
      Calls Try.prog 14 #[.int .i32 r] w (RetPost (.bool true) w) := by
    intro n B hn hB h2 h0 hk0
    rw [hn] at HSZ
    rw [hB] at HHU
    clear hn hB hwz
    go_enter Try.func14, Try.ntmps14
    go_wp2_with fail
    refine (HSZ.out _).mono ?_
    rintro e w1 ⟨rfl, hE1⟩
    have HX := hide hE1
    clear hE1
    go_wp2_with fail
    refine (pinWide_any _).mono ?_
    rintro e w2 ⟨A2, c2, n2, o2, rfl, hS, _, hE⟩
    have HX2 := hide (Ext.trans' HX.out hE)
    have HS := hide hS
    clear hE hS HX
    go_wp2_with fail
    refine (HHW.out _ _ _ _ _ HS.out).mono ?_
    rintro e w3 ⟨rfl, hE⟩
    have HX3 := hide (Ext.trans' HX2.out hE)
    clear hE HX2 HS
    go_wp2_with fail
    refine (pinZero_any _).mono ?_
    rintro e w4 ⟨A4, c4, n4, o4, rfl, hS, _, hE⟩
    have HX4 := hide (Ext.trans' HX3.out hE)
    have HS := hide hS
    clear hE hS HX3
    go_wp2_with fail
    refine (HHZ.out _ _ _ _ _ HS.out).mono ?_
    rintro e w5 ⟨rfl, hE⟩
    have HX5 := hide (Ext.trans' HX4.out hE)
    clear hE HX4 HS
    go_wp2_with fail
    refine (pinUnsafe_any _).mono ?_
    rintro e w6 ⟨A6, c6, n6, o6, rfl, hS, _, hE⟩
    have HX6 := hide (Ext.trans' HX5.out hE)
    have HS := hide hS
    clear hE hS HX5
    go_wp2_with fail
    refine (HHU.out _ _ _ _ _ HS.out).mono ?_
    rintro e w7 ⟨rfl, hE⟩
    have HX7 := hide (Ext.trans' HX6.out hE)
    clear hE HX6 HS
    go_wp2_with fail
    refine (HKD.out _).mono ?_
    rintro e w8 ⟨rfl, hE⟩
    have HX8 := hide (Ext.trans' HX7.out hE)
    clear hE HX7
    go_wp2_with fail
    refine (pinUnsafe_any _).mono ?_
    rintro e w9 ⟨A9, c9, n9, o9, rfl, hS, _, hE⟩
    have HX9 := hide (Ext.trans' HX8.out hE)
    have HS := hide hS
    clear hE hS HX8
    go_wp2_with fail
    refine (rangesQ HS.out).mono ?_
    rintro e wa ⟨Aa, ca, rfl, hR, hE⟩
    have HXa := hide (Ext.trans' HX9.out hE)
    have HR := hide hR
    clear hE hR HX9
    go_wp2_with fail
    refine (refUns_any _).mono ?_
    rintro e wb ⟨Ab, cb, nb, rfl, hnb, hR, hE⟩
    have HXb := hide (Ext.trans' HXa.out hE)
    have HRb := hide (HR.out.ext hE)
    have HN := hide hnb
    have HC := hide (newQ (c := cb) refUns hR (by have := len_uns; omega) hnb)
    clear hE hR HXa HR hnb
    go_wp2_with fail
    refine HC.out.mono ?_
    rintro e wc ⟨Ac, cc, nc, oc, rfl, hS, _, hE⟩
    have HXc := hide (Ext.trans' HXb.out hE)
    have HRc := hide (HRb.out.ext hE)
    obtain rfl : oc = o9 := canon_unique hS.canon HS.out.canon fun r => by rw [hS.mem r, HS.out.mem r, refUns_in]
    obtain rfl : nc = n9 := by rw [hS.len, HS.out.len]
    have HSc := hide hS
    clear hE hS HXb HRb HC
    go_wp2_with fail
    refine (rangesQ HSc.out).mono ?_
    rintro e wd ⟨Ad, cd, rfl, hR, hE⟩
    have HXd := hide (Ext.trans' HXc.out hE)
    have HRd := hide (HRc.out.ext hE)
    have HRe := hide hR
    clear hE hR HXc HRc
    go_wp2_with fail
    refine (sameQ HRd.out HRe.out HSc.out.len HSc.out.most).mono ?_
    rintro e we ⟨rfl, hE⟩
    have HXe := hide (Ext.trans' HXd.out hE)
    clear hE HXd
    go_wp2_with fail
    refine (lives3_any _).mono ?_
    rintro e wf ⟨rfl, hE⟩
    have HXf := hide (Ext.trans' HXe.out hE)
    clear hE HXe
    go_wp2_with fail
    go_ret
    exact ⟨rfl, HXf.out⟩
  refine main _ _ rfl rfl ?_ ?_ ?_
  · cases W <;> cases Z <;> simp
  · cases W <;> cases Z <;> simp_all
  · by_cases h : k = 0 <;> simp [h]

theorem kb_wide : ∀ n : Fin 95, inT pin_wide ((n.val : Int) + 32) = false := by decide +kernel
theorem kb_zero : ∀ n : Fin 95, inT pin_zero ((n.val : Int) + 32) = false := by decide +kernel
theorem kb_kind : ∀ n : Fin 95, kindT ((n.val : Int) + 32) = 0 := by decide +kernel
theorem kb {r : Int} (h1 : 32 ≤ r) (h2 : r ≤ 126) : inT pin_wide r = false ∧ inT pin_zero r = false ∧ kindT r = 0 := by
  obtain ⟨n, hn⟩ := Int.eq_ofNat_of_zero_le (show (0 : Int) ≤ r - 32 by omega)
  have e : r = (n : Int) + 32 := by omega
  have hlt : n < 95 := by omega
  subst e
  exact ⟨kb_wide ⟨n, hlt⟩, kb_zero ⟨n, hlt⟩, kb_kind ⟨n, hlt⟩⟩

set_option maxRecDepth 100000 in
set_option maxHeartbeats 2000000 in
theorem pinnedApart_any (r : Int) (w : World) : Calls Try.prog 13 #[.int .i32 r] w (RetPost (.bool true) w) := by
  obtain ⟨W, hW⟩ : ∃ W, inT pin_wide r = W := ⟨_, rfl⟩
  obtain ⟨Z, hZ⟩ : ∃ Z, inT pin_zero r = Z := ⟨_, rfl⟩
  obtain ⟨k, hk⟩ : ∃ k, decide (kindT r ≠ 0) = k := ⟨_, rfl⟩
  have hwz : W = true → Z = false := fun h => by rw [← hZ]; exact wide_zero_apart (hW.trans h)
  have hkb : 32 ≤ r → r ≤ 126 → W = false ∧ Z = false ∧ k = false := fun h1 h2 => by
    obtain ⟨a, b, c⟩ := kb h1 h2
    exact ⟨by rw [← hW, a], by rw [← hZ, b], by rw [← hk, c]; rfl⟩
  have HW := hide fun w => calls_bool (isWide_any r w) hW
  have HZ := hide fun w => calls_bool (isZero_any r w) hZ
  have HU := hide fun w => calls_bool (isUnsafe_any r w) hk
  clear hW hZ hk
  have HC := hide fun w A c n s (h : SetAt w A n s (fun r => hasT pin_wide r && hasT pin_zero r)) => ext_ret (countQ' (c := c) h) (congrArg (Value.int .i64) wz_none)
  have tail : ∀ w1, Ext w w1 → True := fun _ _ => trivial
  clear tail
  by_cases h1 : 32 ≤ r
  · by_cases h2 : r ≤ 126
    · obtain ⟨rfl, rfl, rfl⟩ := hkb h1 h2
      clear hkb hwz
      go_enter Try.func13, Try.ntmps13
      go_wp2_with fail
      refine (HW.out _).mono ?_
      rintro e w1 ⟨rfl, hE⟩
      have HX1 := hide hE
      clear hE
      go_wp2_with fail
      refine (HU.out _).mono ?_
      rintro e w2 ⟨rfl, hE⟩
      have HX2 := hide (Ext.trans' HX1.out hE)
      clear hE
      go_wp2_with fail
      refine (HW.out _).mono ?_
      rintro e w3 ⟨rfl, hE⟩
      have HX3 := hide (Ext.trans' HX2.out hE)
      clear hE
      go_wp2_with fail
      refine (HZ.out _).mono ?_
      rintro e w4 ⟨rfl, hE⟩
      have HX4 := hide (Ext.trans' HX3.out hE)
      clear hE
      go_wp2_with fail
      refine (pinWide_any _).mono ?_
      rintro e w5 ⟨A5, c5, n5, o5, rfl, hS, _, hE⟩
      have HX5 := hide (Ext.trans' HX4.out hE)
      have HS5 := hide hS
      clear hE hS
      go_wp2_with fail
      refine (pinZero_any _).mono ?_
      rintro e w6 ⟨A6, c6, n6, o6, rfl, hS, _, hE⟩
      have HX6 := hide (Ext.trans' HX5.out hE)
      have HS6 := hide hS
      have HS56 := hide (HS5.out.ext hE)
      clear hE hS
      go_wp2_with fail
      refine (bothQ HS56.out HS6.out).mono ?_
      rintro e w7 ⟨A7, c7, n7, o7, rfl, hS, _, hE⟩
      have HX7 := hide (Ext.trans' HX6.out hE)
      have HS7 := hide hS
      clear hE hS
      go_wp2_with fail
      refine (HC.out _ _ _ _ _ HS7.out).mono ?_
      rintro e w8 ⟨rfl, hE⟩
      have HX8 := hide (Ext.trans' HX7.out hE)
      clear hE
      go_wp2_with fail
      refine (lives3_any _).mono ?_
      rintro e w9 ⟨rfl, hE⟩
      have HX9 := hide (Ext.trans' HX8.out hE)
      clear hE
      go_wp2_with fail
      go_ret
      exact ⟨rfl, HX9.out⟩
    · clear hkb
      cases W with
      | true =>
        obtain rfl := hwz rfl
        clear hwz
        go_enter Try.func13, Try.ntmps13
        go_wp2_with fail
        refine (HW.out _).mono ?_
        rintro e w1 ⟨rfl, hE⟩
        have HX1 := hide hE
        clear hE
        go_wp2_with fail
        refine (HZ.out _).mono ?_
        rintro e w4 ⟨rfl, hE⟩
        have HX4 := hide (Ext.trans' HX1.out hE)
        clear hE
        go_wp2_with fail
        refine (pinWide_any _).mono ?_
        rintro e w5 ⟨A5, c5, n5, o5, rfl, hS, _, hE⟩
        have HX5 := hide (Ext.trans' HX4.out hE)
        have HS5 := hide hS
        clear hE hS
        go_wp2_with fail
        refine (pinZero_any _).mono ?_
        rintro e w6 ⟨A6, c6, n6, o6, rfl, hS, _, hE⟩
        have HX6 := hide (Ext.trans' HX5.out hE)
        have HS6 := hide hS
        have HS56 := hide (HS5.out.ext hE)
        clear hE hS
        go_wp2_with fail
        refine (bothQ HS56.out HS6.out).mono ?_
        rintro e w7 ⟨A7, c7, n7, o7, rfl, hS, _, hE⟩
        have HX7 := hide (Ext.trans' HX6.out hE)
        have HS7 := hide hS
        clear hE hS
        go_wp2_with fail
        refine (HC.out _ _ _ _ _ HS7.out).mono ?_
        rintro e w8 ⟨rfl, hE⟩
        have HX8 := hide (Ext.trans' HX7.out hE)
        clear hE
        go_wp2_with fail
        refine (lives3_any _).mono ?_
        rintro e w9 ⟨rfl, hE⟩
        have HX9 := hide (Ext.trans' HX8.out hE)
        clear hE
        go_wp2_with fail
        go_ret
        exact ⟨rfl, HX9.out⟩
      | false =>
        clear hwz
        go_enter Try.func13, Try.ntmps13
        go_wp2_with fail
        refine (HW.out _).mono ?_
        rintro e w1 ⟨rfl, hE⟩
        have HX4 := hide hE
        clear hE
        go_wp2_with fail
        refine (pinWide_any _).mono ?_
        rintro e w5 ⟨A5, c5, n5, o5, rfl, hS, _, hE⟩
        have HX5 := hide (Ext.trans' HX4.out hE)
        have HS5 := hide hS
        clear hE hS
        go_wp2_with fail
        refine (pinZero_any _).mono ?_
        rintro e w6 ⟨A6, c6, n6, o6, rfl, hS, _, hE⟩
        have HX6 := hide (Ext.trans' HX5.out hE)
        have HS6 := hide hS
        have HS56 := hide (HS5.out.ext hE)
        clear hE hS
        go_wp2_with fail
        refine (bothQ HS56.out HS6.out).mono ?_
        rintro e w7 ⟨A7, c7, n7, o7, rfl, hS, _, hE⟩
        have HX7 := hide (Ext.trans' HX6.out hE)
        have HS7 := hide hS
        clear hE hS
        go_wp2_with fail
        refine (HC.out _ _ _ _ _ HS7.out).mono ?_
        rintro e w8 ⟨rfl, hE⟩
        have HX8 := hide (Ext.trans' HX7.out hE)
        clear hE
        go_wp2_with fail
        refine (lives3_any _).mono ?_
        rintro e w9 ⟨rfl, hE⟩
        have HX9 := hide (Ext.trans' HX8.out hE)
        clear hE
        go_wp2_with fail
        go_ret
        exact ⟨rfl, HX9.out⟩
  · clear hkb
    cases W with
    | true =>
      obtain rfl := hwz rfl
      clear hwz
      go_enter Try.func13, Try.ntmps13
      go_wp2_with fail
      refine (HW.out _).mono ?_
      rintro e w1 ⟨rfl, hE⟩
      have HX1 := hide hE
      clear hE
      go_wp2_with fail
      refine (HZ.out _).mono ?_
      rintro e w4 ⟨rfl, hE⟩
      have HX4 := hide (Ext.trans' HX1.out hE)
      clear hE
      go_wp2_with fail
      refine (pinWide_any _).mono ?_
      rintro e w5 ⟨A5, c5, n5, o5, rfl, hS, _, hE⟩
      have HX5 := hide (Ext.trans' HX4.out hE)
      have HS5 := hide hS
      clear hE hS
      go_wp2_with fail
      refine (pinZero_any _).mono ?_
      rintro e w6 ⟨A6, c6, n6, o6, rfl, hS, _, hE⟩
      have HX6 := hide (Ext.trans' HX5.out hE)
      have HS6 := hide hS
      have HS56 := hide (HS5.out.ext hE)
      clear hE hS
      go_wp2_with fail
      refine (bothQ HS56.out HS6.out).mono ?_
      rintro e w7 ⟨A7, c7, n7, o7, rfl, hS, _, hE⟩
      have HX7 := hide (Ext.trans' HX6.out hE)
      have HS7 := hide hS
      clear hE hS
      go_wp2_with fail
      refine (HC.out _ _ _ _ _ HS7.out).mono ?_
      rintro e w8 ⟨rfl, hE⟩
      have HX8 := hide (Ext.trans' HX7.out hE)
      clear hE
      go_wp2_with fail
      refine (lives3_any _).mono ?_
      rintro e w9 ⟨rfl, hE⟩
      have HX9 := hide (Ext.trans' HX8.out hE)
      clear hE
      go_wp2_with fail
      go_ret
      exact ⟨rfl, HX9.out⟩
    | false =>
      clear hwz
      go_enter Try.func13, Try.ntmps13
      go_wp2_with fail
      refine (HW.out _).mono ?_
      rintro e w1 ⟨rfl, hE⟩
      have HX4 := hide hE
      clear hE
      go_wp2_with fail
      refine (pinWide_any _).mono ?_
      rintro e w5 ⟨A5, c5, n5, o5, rfl, hS, _, hE⟩
      have HX5 := hide (Ext.trans' HX4.out hE)
      have HS5 := hide hS
      clear hE hS
      go_wp2_with fail
      refine (pinZero_any _).mono ?_
      rintro e w6 ⟨A6, c6, n6, o6, rfl, hS, _, hE⟩
      have HX6 := hide (Ext.trans' HX5.out hE)
      have HS6 := hide hS
      have HS56 := hide (HS5.out.ext hE)
      clear hE hS
      go_wp2_with fail
      refine (bothQ HS56.out HS6.out).mono ?_
      rintro e w7 ⟨A7, c7, n7, o7, rfl, hS, _, hE⟩
      have HX7 := hide (Ext.trans' HX6.out hE)
      have HS7 := hide hS
      clear hE hS
      go_wp2_with fail
      refine (HC.out _ _ _ _ _ HS7.out).mono ?_
      rintro e w8 ⟨rfl, hE⟩
      have HX8 := hide (Ext.trans' HX7.out hE)
      clear hE
      go_wp2_with fail
      refine (lives3_any _).mono ?_
      rintro e w9 ⟨rfl, hE⟩
      have HX9 := hide (Ext.trans' HX8.out hE)
      clear hE
      go_wp2_with fail
      go_ret
      exact ⟨rfl, HX9.out⟩
end Go.Proofs.Ytkfepdejiedjbaa
