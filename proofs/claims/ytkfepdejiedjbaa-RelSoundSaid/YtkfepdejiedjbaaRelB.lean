/- The reading methods of package rel: waits, back. -/
import Derived.Test.YtkfepdejiedjbaaRelA
import Derived.Test.YtkfepdejiedjbaaRelM
namespace Go.Proofs.Ytkfepdejiedjbaa
open Go.RowKit

def waitB (rs : List Nat) (a taken b : Nat) : Bool := (b != a) && hasB rs b a && !taken.testBit b
def waitsB (rs : List Nat) (a taken : Nat) : Bool := (List.range rs.length).any (waitB rs a taken)

theorem waits_step {rs : List Nat} {a taken k : Nat} (h : ∀ j, j < k → waitB rs a taken j = false) (hk : waitB rs a taken k = false) : ∀ j, j < k + 1 → waitB rs a taken j = false := fun j hj => by
  by_cases e : j = k
  · rw [e]; exact hk
  · exact h j (by omega)

theorem waits_yes {rs : List Nat} {a taken k : Nat} (hk : k < rs.length) (h : waitB rs a taken k = true) : waitsB rs a taken = true := by
  unfold waitsB
  rw [List.any_eq_true]
  exact ⟨k, List.mem_range.2 hk, h⟩
theorem waits_no {rs : List Nat} {a taken : Nat} (h : ∀ j, j < rs.length → waitB rs a taken j = false) : waitsB rs a taken = false := by
  unfold waitsB
  rw [List.any_eq_false]
  intro k hk
  simpa using h k (List.mem_range.1 hk)

set_option maxHeartbeats 400000 in
theorem relWaits_any (b : Nat) (rs : List Nat) (w : World) (h : RelAt w b rs) (a taken : Nat) (ht : taken < 18446744073709551616) :
    Calls Try.prog 65 #[.pointer (some ⟨b, 0, none⟩), .int .i64 a, .int .u64 taken] w fun e w' => e = .returned (.bool (waitsB rs a taken)) ∧ w = w' := by
  have HH := hide (fun x y => relHas_any b rs w h x y)
  obtain ⟨A, c, hb, ho, hl, hr⟩ := h
  have hc := hb.cell 0
  simp at hc
  clear hr ho hb
  go_enter Try.func65, Try.ntmps65
  go_wp2
  go_loop [13] (fun i => ∃ k : Nat, k ≤ rs.length ∧ i = .int .i64 k ∧ ∀ j, j < k → waitB rs a taken j = false) (fun i => rs.length - (intOf i).toNat)
  case atStart => exact ⟨0, Nat.zero_le _, rfl, fun j hj => absurd hj (by omega)⟩
  case round =>
    obtain ⟨k, hk, rfl, hall⟩ := hrel
    have HA := hide hall
    clear hall
    have hb0 := fun m => shr_bit0 taken m ht
    go_wp2_with (go_at_call 17; refine (HH.out _ _).mono ?_; rintro e w' ⟨rfl, rfl⟩)
    · have e : (k : Int) = a := by assumption
      go_round
      case rel => exact ⟨k + 1, by omega, by go_num, waits_step HA.out (by rw [waitB]; simp; omega)⟩
      case measure => simp [intOf]; omega
    · have h1 : ¬ (k : Int) = a := by assumption
      have h2 : hasB rs k a = true := by assumption
      have h3 : ((k : Int) != a) = true ∧ (!taken.testBit k) = true := by assumption
      go_ret
      refine ⟨ret_bool (Eq.symm (waits_yes (k := k) (by omega) ?_)), rfl⟩
      simp [waitB, h2]
      exact ⟨by omega, by simpa using h3.2⟩
    · have h1 : ¬ (k : Int) = a := by assumption
      have h2 : hasB rs k a = true := by assumption
      have h3 : ((k : Int) != a) = false ∨ (!taken.testBit k) = false := by assumption
      go_round
      case rel =>
        refine ⟨k + 1, by omega, by go_num, waits_step HA.out ?_⟩
        rcases h3 with h3 | h3
        · simp at h3; omega
        · simp [waitB, h3]
      case measure => simp [intOf]; omega
    · have h2 : ¬ hasB rs k a = true := by assumption
      go_round
      case rel => exact ⟨k + 1, by omega, by go_num, waits_step HA.out (by simp [waitB, h2])⟩
      case measure => simp [intOf]; omega
    · go_ret
      exact ⟨ret_bool (Eq.symm (waits_no fun j hj => HA.out j (by omega))), rfl⟩

def backB (rs : List Nat) (a b : Nat) : Bool := hasB rs a b && hasB rs b a
/-- The row of bits that 'back' makes, up to k. -/
def backTo (rs : List Nat) (a : Nat) : Nat → Nat
  | 0 => 0
  | k + 1 => if backB rs a k then backTo rs a k ||| 1 <<< k else backTo rs a k

theorem backTo_lt (rs : List Nat) (a k : Nat) : backTo rs a k < 2 ^ k := by
  induction k with
  | zero => simp [backTo]
  | succ k ih =>
    simp only [backTo]
    have : 2 ^ k < 2 ^ (k + 1) := Nat.pow_lt_pow_right (by omega) (by omega)
    split
    · exact Nat.or_lt_two_pow (by omega) (by rw [Nat.one_shiftLeft]; exact this)
    · omega

theorem lt_64 {x k : Nat} (h : x < 2 ^ k) (hk : k ≤ 64) : x < 18446744073709551616 :=
  Nat.lt_of_lt_of_le h (Nat.le_trans (Nat.pow_le_pow_right (by omega) hk) (by decide))

set_option maxHeartbeats 400000 in
theorem relBack_any (b : Nat) (rs : List Nat) (w : World) (h : RelAt w b rs) (a : Nat) :
    Calls Try.prog 64 #[.pointer (some ⟨b, 0, none⟩), .int .i64 a] w fun e w' => e = .returned (.int .u64 (backTo rs a rs.length)) ∧ w = w' := by
  have HH := hide (fun x y => relHas_any b rs w h x y)
  obtain ⟨A, c, hb, ho, hl, hr⟩ := h
  have hc := hb.cell 0
  simp at hc
  clear hr ho hb
  go_enter Try.func64, Try.ntmps64
  go_wp2
  go_loop [12, 5] (fun i r => ∃ k : Nat, k ≤ rs.length ∧ i = .int .i64 k ∧ r = .int .u64 (backTo rs a k)) (fun i _ => rs.length - (intOf i).toNat)
  case atStart => exact ⟨0, Nat.zero_le _, rfl, rfl⟩
  case round =>
    obtain ⟨k, hk, rfl, rfl⟩ := hrel
    go_wp2_with (go_at_call 17; refine (HH.out _ _).mono ?_; rintro e w' ⟨rfl, rfl⟩)
    · have h1 : hasB rs a k = true := by assumption
      have h2 : hasB rs k a = true := by assumption
      go_round
      case rel =>
        refine ⟨k + 1, by omega, by go_num, ?_⟩
        rw [or_shl _ k (lt_64 (backTo_lt rs a k) (by omega)) (by omega)]
        simp [backTo, backB, h1, h2]
      case measure => simp [intOf]; omega
    · have h2 : hasB rs k a = false := by assumption
      go_round
      case rel => exact ⟨k + 1, by omega, by go_num, by simp [backTo, backB, h2]⟩
      case measure => simp [intOf]; omega
    · have h2 : ¬ hasB rs a k = true := by assumption
      go_round
      case rel => exact ⟨k + 1, by omega, by go_num, by simp [backTo, backB, h2]⟩
      case measure => simp [intOf]; omega
    · obtain rfl : k = rs.length := by omega
      go_ret
      exact ⟨rfl, rfl⟩

end Go.Proofs.Ytkfepdejiedjbaa
