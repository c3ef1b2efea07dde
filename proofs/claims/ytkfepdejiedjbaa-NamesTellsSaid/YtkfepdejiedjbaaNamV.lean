/- NamesTells: the walk. -/
import Derived.Test.YtkfepdejiedjbaaNamU
namespace Go.Proofs.Ytkfepdejiedjbaa
open Go.RowKit

set_option maxRecDepth 100000 in
set_option maxHeartbeats 2000000 in
theorem tells8A (s : ByteArray) (i : Int) (w : World) (hs : s.size ≤ maxLen) :
    Calls Try.prog 10 #[.string s, .int .i64 i] w (fun e w' => e = .returned (.bool true) ∧ Ext w w') := by
  obtain ⟨b, hb⟩ : ∃ b, b = rightB s := ⟨_, rfl⟩
  have hR := right_any s w hs
  have hQ := refRight_any s w hs
  rw [← hb] at hR hQ
  have HR := hide hR
  have HQ := hide hQ
  have hs' := hs
  unfold maxLen at hs'
  by_cases h : i < 0 ∨ (s.size : Int) ≤ i
  · have HT := hide (take_out s i w hs h)
    clear hR hQ hb hs
    by_cases h0 : i < 0
    · clear h
      go_enter Try.func10, Try.ntmps10
      go_wp2_with fail
      refine HT.out.mono ?_
      rintro e w' ⟨rfl, rfl⟩
      go_wp2_with fail
      refine HR.out.mono ?_
      rintro e w' ⟨rfl, rfl⟩
      go_wp2_with fail
      refine HQ.out.mono ?_
      rintro e w' ⟨rfl, rfl⟩
      go_wp2_with fail
      refine (lives8_any _).mono ?_
      rintro e w1 ⟨rfl, hE⟩
      have HE := hide hE
      clear hE
      go_wp2_with fail
      go_ret
      exact ⟨rfl, HE.out⟩
    · have h1 : (s.size : Int) ≤ i := by omega
      clear h
      go_enter Try.func10, Try.ntmps10
      go_wp2_with fail
      refine HT.out.mono ?_
      rintro e w' ⟨rfl, rfl⟩
      go_wp2_with fail
      refine HR.out.mono ?_
      rintro e w' ⟨rfl, rfl⟩
      go_wp2_with fail
      refine HQ.out.mono ?_
      rintro e w' ⟨rfl, rfl⟩
      go_wp2_with fail
      refine (lives8_any _).mono ?_
      rintro e w1 ⟨rfl, hE⟩
      have HE := hide hE
      clear hE
      go_wp2_with fail
      go_ret
      exact ⟨rfl, HE.out⟩
  · obtain ⟨j, rfl⟩ := Int.eq_ofNat_of_zero_le (show 0 ≤ i by omega)
    have hj : j < s.size := by omega
    have hT := take_in s j w hs hj
    have hS := signs_any s j w hs (by omega)
    have hle := nameAt_le s j (by omega)
    unfold TakePost at hT
    obtain ⟨k, hk⟩ : ∃ k, k = nameAt s j := ⟨_, rfl⟩
    rw [← hk] at hT hS hle
    have HT := hide hT
    have HS := hide hS
    clear hR hQ hb hs h hT hS hk
    go_enter Try.func10, Try.ntmps10
    go_wp2_with fail
    refine HT.out.mono ?_
    rintro e w' ⟨rfl, rfl⟩
    go_wp2_with fail
    refine HR.out.mono ?_
    rintro e w' ⟨rfl, rfl⟩
    go_wp2_with fail
    refine HQ.out.mono ?_
    rintro e w' ⟨rfl, rfl⟩
    go_wp2_with fail
    refine HS.out.mono ?_
    rintro e w' ⟨rfl, rfl⟩
    go_wp2_with fail
    refine (lives8_any _).mono ?_
    rintro e w1 ⟨rfl, hE⟩
    have HE := hide hE
    clear hE
    go_wp2_with fail
    go_ret
    exact ⟨rfl, HE.out⟩
end Go.Proofs.Ytkfepdejiedjbaa
