/- The methods Loop and Order of package rel. -/
import Derived.Test.YtpjlhpaenmfieaaRelE
namespace Go.Proofs.Ytpjlhpaenmfieaa
open Go.RowKit

theorem RelAt.ext {w w' : World} {b : Nat} {rs : List Nat} (h : RelAt w b rs) (hb : Ext w w') : RelAt w' b rs := by
  obtain ⟨A, c, h1, h2, h3, h4⟩ := h
  exact ⟨A, c, h1.ext hb, own_ext h2 hb, h3, h4⟩

def LoopPost (rs : List Nat) (w : World) (e : Ending) (w' : World) : Prop :=
  e = .returned (.tuple #[.int .i64 ((loopOf (RelM.close rs)).getD 0), .bool (loopOf (RelM.close rs)).isSome]) ∧ Ext w w'

theorem loopOf_some {rs : List Nat} {k : Nat} (hk : k < rs.length) (h0 : ∀ j, j < k → inLoop rs j = false) (h : inLoop rs k = true) : loopOf rs = some k := by
  unfold loopOf
  rw [List.find?_range_eq_some]
  exact ⟨h, List.mem_range.2 hk, fun j hj => by simp [h0 j hj]⟩
theorem loopOf_none {rs : List Nat} (h0 : ∀ j, j < rs.length → inLoop rs j = false) : loopOf rs = none := by
  unfold loopOf
  rw [List.find?_eq_none]
  intro j hj
  simp [h0 j (List.mem_range.1 hj)]

set_option maxRecDepth 100000 in
set_option maxHeartbeats 1000000 in
theorem relLoop_any (b : Nat) (rs : List Nat) (w : World) (h : RelAt w b rs) :
    Calls Try.prog 49 #[.pointer (some ⟨b, 0, none⟩)] w (LoopPost rs w) := by
  go_enter Try.func49, Try.ntmps49
  go_wp2_with fail
  refine (relClose_any b rs _ h).mono ?_
  rintro e w1 ⟨bo, rfl, hR, hE⟩
  obtain ⟨cs, hcs⟩ : ∃ cs, cs = RelM.close rs := ⟨_, rfl⟩
  rw [← hcs] at hR
  have HCS := hide hcs
  clear hcs
  have hl : cs.length ≤ 64 := by obtain ⟨_, _, _, _, h, _⟩ := hR; exact h
  have HR := hide hR
  have HE := hide hE
  clear hR hE h
  go_wp2_with fail
  refine (relLen_any bo cs _ HR.out).mono ?_
  rintro e w' ⟨rfl, rfl⟩
  go_wp2_with fail
  go_loop [10] (fun i => ∃ k : Nat, k ≤ cs.length ∧ i = .int .i64 k ∧ ∀ j, j < k → inLoop cs j = false) (fun i => cs.length - (intOf i).toNat)
  case atStart => exact ⟨0, Nat.zero_le _, rfl, fun j hj => absurd hj (by omega)⟩
  case round =>
    obtain ⟨k, hk, rfl, hall⟩ := hrel
    have HA := hide hall
    clear hall
    by_cases hlt : k < cs.length
    · have hbt := lt_64 (backTo_lt cs k cs.length) hl
      go_wp2_with fail
      refine (relBack_any bo cs _ HR.out k).mono ?_
      rintro e w' ⟨rfl, rfl⟩
      obtain ⟨row, hrow⟩ : ∃ row, row = backTo cs k cs.length := ⟨_, rfl⟩
      rw [← hrow] at hbt ⊢
      have HW := hide hrow
      clear hrow
      go_wp2_with fail
      refine (ones_any row hbt _).mono ?_
      rintro e w' ⟨rfl, rfl⟩
      obtain ⟨m, hm⟩ : ∃ m, m = OnesM.popc row := ⟨_, rfl⟩
      rw [← hm]
      have HM := hide hm
      clear hm
      by_cases hin : 1 < m
      · go_wp2_with fail
        go_ret2
        have hs := loopOf_some hlt HA.out (show inLoop cs k = true by rw [HM.out, HW.out] at hin; simpa [inLoop] using hin)
        refine ⟨?_, HE.out⟩
        rw [← HCS.out, hs]
        rfl
      · go_wp2_with fail
        go_round
        case rel =>
          refine ⟨k + 1, by omega, by go_num, fun j hj => ?_⟩
          by_cases e : j = k
          · rw [e]; rw [HM.out, HW.out] at hin; simpa [inLoop] using hin
          · exact HA.out j (by omega)
        case measure => simp [intOf]; omega
    · obtain rfl : k = cs.length := by omega
      go_wp2_with fail
      go_ret2
      refine ⟨?_, HE.out⟩
      rw [← HCS.out, loopOf_none HA.out]
      rfl


end Go.Proofs.Ytpjlhpaenmfieaa
