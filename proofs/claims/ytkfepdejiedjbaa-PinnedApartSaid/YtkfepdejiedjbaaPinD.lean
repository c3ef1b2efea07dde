/- PinnedTells: the walk. -/
import Derived.Test.YtkfepdejiedjbaaPinC
import Derived.StillTailTactics
namespace Go.Proofs.Ytkfepdejiedjbaa
open Go.RowKit

theorem lives3_wide : inT pin_wide 19968 = true := by decide +kernel
theorem lives3_kind : kindT 27 = 1 := by decide +kernel

theorem calls_bool {P : Program} {g : FuncId} {args : Array Value} {b c : Bool} {w : World} (h : Calls P g args w (RetPost (.bool b) w)) (e : b = c) : Calls P g args w (RetPost (.bool c) w) := e ▸ h
theorem calls_int {P : Program} {g : FuncId} {args : Array Value} {k : IntKind} {b c : Int} {w : World} (h : Calls P g args w (RetPost (.int k b) w)) (e : b = c) : Calls P g args w (RetPost (.int k c) w) := e ▸ h

set_option maxRecDepth 100000 in
set_option maxHeartbeats 1000000 in
theorem lives3_any (w : World) : Calls Try.prog 32 #[] w (RetPost (.bool true) w) := by
  go_enter Try.func32, Try.ntmps32
  go_wp2_with fail
  refine (calls_bool (isWide_any 19968 _) lives3_wide).mono ?_
  rintro e w1 ⟨rfl, hE1⟩
  have HE1 := hide hE1
  clear hE1
  go_wp2_with fail
  refine (calls_int (pinKind_any 27 _) lives3_kind).mono ?_
  rintro e w2 ⟨rfl, hE2⟩
  have HE2 := hide (Ext.trans' HE1.out hE2)
  clear hE2
  go_wp2_with fail
  go_ret
  exact ⟨rfl, HE2.out⟩

set_option maxRecDepth 100000 in
set_option maxHeartbeats 1000000 in
theorem pinnedTells_any (r : Int) (w : World) : Calls Try.prog 6 #[.int .i32 r] w (RetPost (.bool true) w) := by
  obtain ⟨W, hW⟩ : ∃ W, inT pin_wide r = W := ⟨_, rfl⟩
  obtain ⟨Z, hZ⟩ : ∃ Z, inT pin_zero r = Z := ⟨_, rfl⟩
  obtain ⟨k, hk⟩ : ∃ k, kindT r = k := ⟨_, rfl⟩
  have hn : sizeT r = if W then 2 else if Z then 0 else 1 := by simp [sizeT, hW, hZ]
  have hwz : W = true → Z = false := fun h => by rw [← hZ]; exact wide_zero_apart (hW.trans h)
  have HSZ := hide fun w => calls_int (refSize_any r w) hn
  have HKD := hide fun w => calls_int (refKind_any r w) hk
  have HW := hide fun w => calls_bool (isWide_any r w) hW
  have HZ := hide fun w => calls_bool (isZero_any r w) hZ
  have HPK := hide fun w => calls_int (pinKind_any r w) hk
  have HU := hide fun w => calls_bool (isUnsafe_any r w) (c := decide (k ≠ 0)) (by rw [hk])
  clear hW hZ hk hn
  have main : ∀ (n : Int) (B : Bool) (_ : (if W then (2 : Int) else if Z then 0 else 1) = n) (_ : decide (k ≠ 0) = B) (_ : (n == 2) = W) (_ : (n == 0) = Z) (_ : (k != 0) = B),
      Calls Try.prog 6 #[.int .i32 r] w (RetPost (.bool true) w) := by
    intro n B hn hB h2 h0 hk0
    rw [hn] at HSZ
    rw [hB] at HU
    clear hn hB hwz
    go_enter Try.func6, Try.ntmps6
    go_wp2_with fail
    refine (HSZ.out _).mono ?_
    rintro e w1 ⟨rfl, hE1⟩
    have HE1 := hide hE1
    clear hE1
    go_wp2_with fail
    refine (HKD.out _).mono ?_
    rintro e w2 ⟨rfl, hE2⟩
    have HE2 := hide (Ext.trans' HE1.out hE2)
    clear hE2
    go_wp2_with fail
    refine (HW.out _).mono ?_
    rintro e w3 ⟨rfl, hE3⟩
    have HE3 := hide (Ext.trans' HE2.out hE3)
    clear hE3
    go_wp2_with fail
    refine (HZ.out _).mono ?_
    rintro e w4 ⟨rfl, hE4⟩
    have HE4 := hide (Ext.trans' HE3.out hE4)
    clear hE4
    go_wp2_with fail
    refine (HPK.out _).mono ?_
    rintro e w5 ⟨rfl, hE5⟩
    have HE5 := hide (Ext.trans' HE4.out hE5)
    clear hE5
    go_wp2_with fail
    refine (HU.out _).mono ?_
    rintro e w6 ⟨rfl, hE6⟩
    have HE6 := hide (Ext.trans' HE5.out hE6)
    clear hE6
    go_wp2_with fail
    refine (lives3_any _).mono ?_
    rintro e w7 ⟨rfl, hE7⟩
    have HE7 := hide (Ext.trans' HE6.out hE7)
    clear hE7
    go_wp2_with fail
    go_ret
    exact ⟨rfl, HE7.out⟩
  refine main _ _ rfl rfl ?_ ?_ ?_
  · cases W <;> cases Z <;> simp
  · cases W <;> cases Z <;> simp_all
  · by_cases h : k = 0 <;> simp [h]

end Go.Proofs.Ytkfepdejiedjbaa
