/- The method back of package rel. -/
import Derived.Test.YtpjlhpaenmfieaaRelA
import Derived.Test.YtpjlhpaenmfieaaRelM
namespace Go.Proofs.Ytpjlhpaenmfieaa
open Go.RowKit

def backB (rs : List Nat) (a b : Nat) : Bool := hasB rs a b && hasB rs b a
/-- The row of bits that 'back' makes, up to k. -/
def backTo (rs : List Nat) (a : Nat) : Nat → Nat
  | 0 => 0
  | k + 1 => if backB rs a k then backTo rs a k ||| 1 <<< k else backTo rs a k

theorem backTo_lt (rs : List Nat) (a k : Nat) : backTo rs a k < 2 ^ k := by
  induction k with
  | zero => simp [backTo]
  | succ k ih =>
    simp only [backTo]
    have : 2 ^ k < 2 ^ (k + 1) := Nat.pow_lt_pow_right (by omega) (by omega)
    split
    · exact Nat.or_lt_two_pow (by omega) (by rw [Nat.one_shiftLeft]; exact this)
    · omega

theorem lt_64 {x k : Nat} (h : x < 2 ^ k) (hk : k ≤ 64) : x < 18446744073709551616 :=
  Nat.lt_of_lt_of_le h (Nat.le_trans (Nat.pow_le_pow_right (by omega) hk) (by decide))

set_option maxHeartbeats 400000 in
theorem relBack_any (b : Nat) (rs : List Nat) (w : World) (h : RelAt w b rs) (a : Nat) :
    Calls Try.prog 77 #[.pointer (some ⟨b, 0, none⟩), .int .i64 a] w fun e w' => e = .returned (.int .u64 (backTo rs a rs.length)) ∧ w = w' := by
  have HH := hide (fun x y => relHas_any b rs w h x y)
  obtain ⟨A, c, hb, ho, hl, hr⟩ := h
  have hc := hb.cell 0
  simp at hc
  clear hr ho hb
  go_enter Try.func77, Try.ntmps77
  go_wp2
  go_loop [12, 5] (fun i r => ∃ k : Nat, k ≤ rs.length ∧ i = .int .i64 k ∧ r = .int .u64 (backTo rs a k)) (fun i _ => rs.length - (intOf i).toNat)
  case atStart => exact ⟨0, Nat.zero_le _, rfl, rfl⟩
  case round =>
    obtain ⟨k, hk, rfl, rfl⟩ := hrel
    go_wp2_with (go_at_call 55; refine (HH.out _ _).mono ?_; rintro e w' ⟨rfl, rfl⟩)
    · have h1 : hasB rs a k = true := by assumption
      have h2 : hasB rs k a = true := by assumption
      go_round
      case rel =>
        refine ⟨k + 1, by omega, by go_num, ?_⟩
        rw [or_shl _ k (lt_64 (backTo_lt rs a k) (by omega)) (by omega)]
        simp [backTo, backB, h1, h2]
      case measure => simp [intOf]; omega
    · have h2 : hasB rs k a = false := by assumption
      go_round
      case rel => exact ⟨k + 1, by omega, by go_num, by simp [backTo, backB, h2]⟩
      case measure => simp [intOf]; omega
    · have h2 : ¬ hasB rs a k = true := by assumption
      go_round
      case rel => exact ⟨k + 1, by omega, by go_num, by simp [backTo, backB, h2]⟩
      case measure => simp [intOf]; omega
    · obtain rfl : k = rs.length := by omega
      go_ret
      exact ⟨rfl, rfl⟩
end Go.Proofs.Ytpjlhpaenmfieaa
