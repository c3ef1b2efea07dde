/- The document's functions of layer 10: Loop. -/
import Derived.Test.YtpjlhpaenmfieaaRefA
namespace Go.Proofs.Ytpjlhpaenmfieaa
open Go.RowKit

def mat (M : List (List Bool)) (a b : Nat) : Bool := (M.getD a []).getD b false

theorem MatAt.form {w : World} {B : Nat} {A : Option Addr} {M : List (List Bool)} (h : MatAt w B A M) (hsq : ∀ r ∈ M, r.length = M.length) (hn : 0 < M.length) :
    ∃ b o, A = some ⟨b, o, none⟩ ∧ b < B ∧ ∀ k, k < M.length → ∃ bk ok ck, w.cell? ⟨b, o + k, none⟩ = some (.slice (some ⟨bk, ok, none⟩) M.length ck) ∧ bk < B ∧ ∀ j, j < M.length → w.cell? ⟨bk, ok + j, none⟩ = some (.bool (mat M k j)) := by
  obtain ⟨vs, hv, hr, hb⟩ := h
  obtain ⟨b, o, e, hlt, hc⟩ := hr.form hn (by omega)
  refine ⟨b, o, e, hlt, fun k hk => ?_⟩
  have hk' : k < vs.length := by omega
  obtain ⟨Ak, ck, ev, hrd⟩ := hb k vs[k] M[k] (List.getElem?_eq_getElem hk') (List.getElem?_eq_getElem hk)
  have hl : M[k].length = M.length := hsq _ (List.getElem_mem hk)
  rw [hl] at ev hrd
  obtain ⟨bk, ok, e2, hlt2, hc2⟩ := hrd.form hn (by omega)
  subst e2
  refine ⟨bk, ok, ck, ?_, hlt2, fun j hj => hc2 j _ ?_⟩
  · rw [hc k vs[k] (List.getElem?_eq_getElem hk'), ev]
  · simp [mat, List.getD, hk, hl, hj]

def rowLoop (M : List (List Bool)) (a : Nat) : Bool := (List.range M.length).any fun b => (a != b) && mat M a b && mat M b a
def refLoop (M : List (List Bool)) : Option Nat := (List.range M.length).find? (rowLoop M)
def refLoopI (M : List (List Bool)) : Int := match refLoop M with | some a => a | none => -1

theorem rowLoop_yes {M : List (List Bool)} {a b : Nat} (hb : b < M.length) (hne : a ≠ b) (h1 : mat M a b = true) (h2 : mat M b a = true) : rowLoop M a = true := by
  unfold rowLoop
  rw [List.any_eq_true]
  exact ⟨b, List.mem_range.2 hb, by simp [hne, h1, h2]⟩
theorem rowLoop_no {M : List (List Bool)} {a : Nat} (h : ∀ b, b < M.length → ((a != b) && mat M a b && mat M b a) = false) : rowLoop M a = false := by
  unfold rowLoop
  rw [List.any_eq_false]
  intro b hb
  simpa using h b (List.mem_range.1 hb)

theorem refLoop_some {M : List (List Bool)} {a : Nat} (ha : a < M.length) (h0 : ∀ j, j < a → rowLoop M j = false) (h : rowLoop M a = true) : refLoopI M = a := by
  have : refLoop M = some a := by
    unfold refLoop
    rw [List.find?_range_eq_some]
    exact ⟨h, List.mem_range.2 ha, fun j hj => by simp [h0 j hj]⟩
  simp [refLoopI, this]
theorem refLoop_none {M : List (List Bool)} (h0 : ∀ j, j < M.length → rowLoop M j = false) : refLoopI M = -1 := by
  have : refLoop M = none := by
    unfold refLoop
    rw [List.find?_eq_none]
    intro j hj
    simp [h0 j (List.mem_range.1 hj)]
  simp [refLoopI, this]

theorem below_step {P : Nat → Prop} {k : Nat} (h : ∀ j, j < k → P j) (hk : P k) : ∀ j, j < k + 1 → P j := fun j hj => by
  by_cases e : j = k
  · rw [e]; exact hk
  · exact h j (by omega)

set_option maxRecDepth 100000 in
set_option maxHeartbeats 1000000 in
theorem refLoop_any (A : Option Addr) (c : Nat) (M : List (List Bool)) (w : World) (h : MatAt w w.heap.size A M) (hsq : ∀ r ∈ M, r.length = M.length) (hl : M.length ≤ 64) :
    Calls Try.prog 53 #[.slice A M.length c] w (fun e w' => e = .returned (.int .i64 (refLoopI M)) ∧ w = w') := by
  obtain ⟨n, hn⟩ : ∃ n, n = M.length := ⟨_, rfl⟩
  have HF := fun hp => h.form hsq (by rw [← hn]; exact hp)
  rw [← hn] at HF hl ⊢
  have HN := hide hn
  clear hn hsq h
  go_enter Try.func53, Try.ntmps53
  go_wp2
  go_loop [3] (fun i => ∃ a : Nat, a ≤ n ∧ i = .int .i64 a ∧ ∀ j, j < a → rowLoop M j = false) (fun i => n - (intOf i).toNat)
  case atStart => exact ⟨0, Nat.zero_le _, rfl, fun j hj => absurd hj (by omega)⟩
  case round =>
    obtain ⟨a, ha, rfl, hall⟩ := hrel
    have HA := hide hall
    clear hall
    by_cases hlt : a < n
    · obtain ⟨b0, o0, rfl, _, hrow⟩ := HF (by omega)
      clear HF
      have HROW := hide hrow
      clear hrow
      go_wp2
      go_loop [4] (fun i => ∃ b : Nat, b ≤ n ∧ i = .int .i64 b ∧ ∀ j, j < b → ((a != j) && mat M a j && mat M j a) = false) (fun i => n - (intOf i).toNat)
      case atStart => exact ⟨0, Nat.zero_le _, rfl, fun j hj => absurd hj (by omega)⟩
      case round =>
        obtain ⟨b, hb, rfl, hall⟩ := hrel
        have HB := hide hall
        clear hall
        by_cases hbn : b < n
        · by_cases hab : a = b
          · subst hab
            go_wp2
            go_round
            case rel => exact ⟨a + 1, by omega, by go_num, below_step HB.out (by simp)⟩
            case measure => simp [intOf]; omega
          · have hne : ((a : Int) != (b : Int)) = true := by rw [bne_iff_ne]; omega
            obtain ⟨ba, oa, ca, fa, _, ga⟩ := HROW.out a hlt
            obtain ⟨bb, ob, cb, fb, _, gb⟩ := HROW.out b hbn
            have ga' := ga b hbn
            have gb' := gb a hlt
            obtain ⟨x, hx⟩ : ∃ x, x = mat M a b := ⟨_, rfl⟩
            obtain ⟨y, hy⟩ : ∃ y, y = mat M b a := ⟨_, rfl⟩
            rw [← hx] at ga'
            rw [← hy] at gb'
            have HX := hide hx
            have HY := hide hy
            clear ga gb hx hy
            cases x with
            | false =>
              go_wp2
              go_round
              case rel => exact ⟨b + 1, by omega, by go_num, below_step HB.out (by rw [← HX.out]; simp)⟩
              case measure => simp [intOf]; omega
            | true =>
              cases y with
              | false =>
                go_wp2
                go_round
                case rel => exact ⟨b + 1, by omega, by go_num, below_step HB.out (by rw [← HY.out]; simp)⟩
                case measure => simp [intOf]; omega
              | true =>
                go_wp2
                go_ret
                exact ⟨ret_int (refLoop_some (by rw [← HN.out]; exact hlt) HA.out (rowLoop_yes (by rw [← HN.out]; exact hbn) hab HX.out.symm HY.out.symm)).symm, rfl⟩
        · obtain rfl : b = n := by omega
          go_wp2
          go_round
          case rel => exact ⟨a + 1, by omega, by go_num, below_step HA.out (rowLoop_no (by rw [← HN.out]; exact HB.out))⟩
          case measure => simp [intOf]; omega
    · obtain rfl : a = n := by omega
      go_wp2
      go_ret
      exact ⟨ret_int (refLoop_none (by rw [← HN.out]; exact HA.out)).symm, rfl⟩

end Go.Proofs.Ytpjlhpaenmfieaa
