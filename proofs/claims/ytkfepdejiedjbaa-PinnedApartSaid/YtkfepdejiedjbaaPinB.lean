/- What the program and the document say of one rune: Size, Kind, IsWide, IsZero, IsUnsafe. -/
import Derived.Test.YtkfepdejiedjbaaPinT
namespace Go.Proofs.Ytkfepdejiedjbaa
open Go.RowKit

theorem hasT_in {l : List (Int × Int)} (h : l.all (fun p => decide (0 ≤ p.1 ∧ p.2 ≤ 1114111)) = true) (r : Int) : hasT l r = inT l r := by
  unfold hasT
  cases hi : inT l r with
  | false => simp
  | true =>
    unfold inT at hi
    rw [List.any_eq_true] at hi
    obtain ⟨p, hp, hd⟩ := hi
    rw [List.all_eq_true] at h
    have h1 := h p hp
    simp only [decide_eq_true_eq] at h1 hd
    simp
    omega

theorem ref_wide_in (r : Int) : hasT ref_Wide r = inT pin_wide r := hasT_in (by decide +kernel) r
theorem ref_zero_in (r : Int) : hasT ref_Zero r = inT pin_zero r := hasT_in (by decide +kernel) r
theorem ref_bidi_in (r : Int) : hasT ref_bidi r = inT pin_bidi r := hasT_in (by decide +kernel) r
theorem ref_format_in (r : Int) : hasT ref_format r = inT pin_format r := hasT_in (by decide +kernel) r

theorem rises_wide : rises pin_wide = true := by decide +kernel
theorem rises_zero : rises pin_zero = true := by decide +kernel
theorem rises_control : rises pin_control = true := by decide +kernel
theorem rises_bidi : rises pin_bidi = true := by decide +kernel
theorem rises_format : rises pin_format = true := by decide +kernel
theorem rises_separator : rises pin_separator = true := by decide +kernel

theorem in_control (r : Int) : inT pin_control r = decide ((0 ≤ r ∧ r < 32) ∨ (126 < r ∧ r < 160)) := by
  rw [Bool.eq_iff_iff]
  simp [inT, pin_control]
  omega
theorem in_separator (r : Int) : inT pin_separator r = decide (r = 8232 ∨ r = 8233) := by
  rw [Bool.eq_iff_iff]
  simp [inT, pin_separator]
  omega

def apartT (l m : List (Int × Int)) : Bool := l.all fun p => m.all fun q => decide (p.2 < q.1 ∨ q.2 < p.1)
theorem apartT_in {l m : List (Int × Int)} (h : apartT l m = true) {r : Int} (h1 : inT l r = true) : inT m r = false := by
  unfold inT at h1 ⊢
  rw [List.any_eq_true] at h1
  obtain ⟨p, hp, hd⟩ := h1
  rw [List.any_eq_false]
  intro q hq
  unfold apartT at h
  rw [List.all_eq_true] at h
  have h2 := h p hp
  rw [List.all_eq_true] at h2
  have h3 := h2 q hq
  simp only [decide_eq_true_eq] at h3 hd ⊢
  omega
theorem wide_zero_apart {r : Int} (h : inT pin_wide r = true) : inT pin_zero r = false := apartT_in (by decide +kernel) h

def sizeT (r : Int) : Int := if inT pin_wide r then 2 else if inT pin_zero r then 0 else 1
def kindT (r : Int) : Int := if inT pin_control r then 1 else if inT pin_bidi r then 2 else if inT pin_format r then 3 else if inT pin_separator r then 4 else 0

def RetPost (v : Value) (w : World) (e : Ending) (w' : World) : Prop := e = .returned v ∧ Ext w w'

theorem len_wide : pin_wide.length ≤ 1000000 := by decide +kernel
theorem len_zero : pin_zero.length ≤ 1000000 := by decide +kernel
theorem len_control : pin_control.length ≤ 1000000 := by decide +kernel
theorem len_bidi : pin_bidi.length ≤ 1000000 := by decide +kernel
theorem len_format : pin_format.length ≤ 1000000 := by decide +kernel
theorem len_separator : pin_separator.length ≤ 1000000 := by decide +kernel
theorem len_rWide : ref_Wide.length ≤ 9223372036854775807 := by decide +kernel
theorem len_rZero : ref_Zero.length ≤ 9223372036854775807 := by decide +kernel
theorem len_rbidi : ref_bidi.length ≤ 9223372036854775807 := by decide +kernel
theorem len_rformat : ref_format.length ≤ 9223372036854775807 := by decide +kernel

attribute [local irreducible] pin_wide pin_zero pin_control pin_bidi pin_format pin_separator ref_Wide ref_Zero ref_bidi ref_format

set_option maxRecDepth 100000 in
set_option maxHeartbeats 1000000 in
theorem refSize_any (r : Int) (w : World) : Calls Try.prog 26 #[.int .i32 r] w (RetPost (.int .i64 (sizeT r)) w) := by
  go_enter Try.func26, Try.ntmps26
  go_wp2_with fail
  refine (ref_WideT_any _).mono ?_
  rintro e w1 ⟨g, rfl, hR, hE⟩
  have HE := hide hE
  have hC := refHas_any (some ⟨g, 0, none⟩) ref_Wide.length ref_Wide r w1 hR len_rWide
  rw [ref_wide_in] at hC
  obtain ⟨n, hn⟩ : ∃ n, n = ref_Wide.length := ⟨_, rfl⟩
  rw [← hn] at hC ⊢
  clear hE hR hn
  cases hW : inT pin_wide r with
  | true =>
    rw [hW] at hC
    have HC := hide hC
    have HW := hide hW
    clear hC hW
    go_wp2_with fail
    refine HC.out.mono ?_
    rintro e w' ⟨rfl, rfl⟩
    go_wp2_with fail
    go_ret
    exact ⟨by simp [sizeT, HW.out], HE.out⟩
  | false =>
    rw [hW] at hC
    have HC := hide hC
    have HW := hide hW
    clear hC hW
    go_wp2_with fail
    refine HC.out.mono ?_
    rintro e w' ⟨rfl, rfl⟩
    go_wp2_with fail
    refine (ref_ZeroT_any _).mono ?_
    rintro e w2 ⟨g2, rfl, hR2, hE2⟩
    have HE2 := hide (Ext.trans' HE.out hE2)
    have hC := refHas_any (some ⟨g2, 0, none⟩) ref_Zero.length ref_Zero r w2 hR2 len_rZero
    rw [ref_zero_in] at hC
    obtain ⟨n2, hn2⟩ : ∃ n, n = ref_Zero.length := ⟨_, rfl⟩
    rw [← hn2] at hC ⊢
    clear hE2 hR2 hn2
    cases hZ : inT pin_zero r with
    | true =>
      rw [hZ] at hC
      have HC := hide hC
      have HZ := hide hZ
      clear hC hZ
      go_wp2_with fail
      refine HC.out.mono ?_
      rintro e w' ⟨rfl, rfl⟩
      go_wp2_with fail
      go_ret
      exact ⟨by simp [sizeT, HW.out, HZ.out], HE2.out⟩
    | false =>
      rw [hZ] at hC
      have HC := hide hC
      have HZ := hide hZ
      clear hC hZ
      go_wp2_with fail
      refine HC.out.mono ?_
      rintro e w' ⟨rfl, rfl⟩
      go_wp2_with fail
      go_ret
      exact ⟨by simp [sizeT, HW.out, HZ.out], HE2.out⟩

set_option maxRecDepth 100000 in
set_option maxHeartbeats 1000000 in
theorem isWide_any (r : Int) (w : World) : Calls Try.prog 28 #[.int .i32 r] w (RetPost (.bool (inT pin_wide r)) w) := by
  go_enter Try.func28, Try.ntmps28
  go_wp2_with fail
  refine (pin_wideT_any _).mono ?_
  rintro e w1 ⟨g, rfl, hR, hE⟩
  have HE := hide hE
  have HC := hide (pinIn_any (some ⟨g, 0, none⟩) pin_wide.length pin_wide r w1 hR len_wide rises_wide)
  obtain ⟨n, hn⟩ : ∃ n, n = pin_wide.length := ⟨_, rfl⟩
  rw [← hn] at HC ⊢
  obtain ⟨b, hb⟩ : ∃ b, b = inT pin_wide r := ⟨_, rfl⟩
  rw [← hb] at HC
  have HB := hide hb
  clear hE hR hn hb
  go_wp2_with fail
  refine HC.out.mono ?_
  rintro e w' ⟨rfl, rfl⟩
  go_wp2_with fail
  go_ret
  exact ⟨ret_bool HB.out, HE.out⟩

set_option maxRecDepth 100000 in
set_option maxHeartbeats 1000000 in
theorem isZero_any (r : Int) (w : World) : Calls Try.prog 29 #[.int .i32 r] w (RetPost (.bool (inT pin_zero r)) w) := by
  go_enter Try.func29, Try.ntmps29
  go_wp2_with fail
  refine (pin_zeroT_any _).mono ?_
  rintro e w1 ⟨g, rfl, hR, hE⟩
  have HE := hide hE
  have HC := hide (pinIn_any (some ⟨g, 0, none⟩) pin_zero.length pin_zero r w1 hR len_zero rises_zero)
  obtain ⟨n, hn⟩ : ∃ n, n = pin_zero.length := ⟨_, rfl⟩
  rw [← hn] at HC ⊢
  obtain ⟨b, hb⟩ : ∃ b, b = inT pin_zero r := ⟨_, rfl⟩
  rw [← hb] at HC
  have HB := hide hb
  clear hE hR hn hb
  go_wp2_with fail
  refine HC.out.mono ?_
  rintro e w' ⟨rfl, rfl⟩
  go_wp2_with fail
  go_ret
  exact ⟨ret_bool HB.out, HE.out⟩

end Go.Proofs.Ytkfepdejiedjbaa
