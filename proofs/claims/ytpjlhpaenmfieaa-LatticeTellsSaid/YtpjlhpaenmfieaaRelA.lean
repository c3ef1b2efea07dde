/- The small methods of package rel: Len, Has. -/
import Derived.Test.YtpjlhpaenmfieaaRows
import Derived.Test.YtpjlhpaenmfieaaBase
namespace Go.Proofs.Ytpjlhpaenmfieaa
open Go.RowKit

abbrev u64v (r : Nat) : Value := .int .u64 (r : Int)

/-- Block b is a relation whose rows are the numbers rs. -/
def RelAt (w : World) (b : Nat) (rs : List Nat) : Prop := ∃ A c, Blk w b 122 #[.slice A rs.length c] ∧ w.ownsRow 0 123 1 (.slice A rs.length c) rs.length (rs.map u64v) ∧ rs.length ≤ 64 ∧ ∀ r ∈ rs, r < 18446744073709551616

theorem getD_lt {rs : List Nat} {B : Nat} (h : ∀ r ∈ rs, r < B) (hB : 0 < B) {n : Nat} : rs.getD n 0 < B := by
  by_cases hn : n < rs.length
  · simp only [List.getD, List.getElem?_eq_getElem hn, Option.getD_some]
    exact h _ (List.getElem_mem hn)
  · simp only [List.getD, List.getElem?_eq_none (Nat.le_of_not_lt hn), Option.getD_none]
    exact hB

def hasB (rs : List Nat) (a b : Int) : Bool := decide (0 ≤ a ∧ a < rs.length ∧ 0 ≤ b ∧ b < rs.length) && (rs.getD a.toNat 0).testBit b.toNat

theorem own_cell {w : World} {base : Nat} {e : TypeId} {A : Option Addr} {n c : Nat} {xs : List Value} (h : w.ownsRow base e 1 (.slice A n c) n xs) (hn : 0 < n) :
    ∃ g, A = some ⟨g, 0, none⟩ ∧ base ≤ g ∧ (∀ j, j < n → w.cell? ⟨g, j, none⟩ = xs[j]?) ∧ ∀ j, w.frozen? ⟨g, j, none⟩ = false := by
  have hl := h.lt
  rcases h.2 with ⟨_, h0⟩ | ⟨g, cap, cur, hv, hg, _⟩
  · omega
  · injection hv with h1 h2 h3
    subst h1; subst h3
    exact ⟨g, rfl, hg, fun j hj => h.cellAt j (by omega), fun j => h.frozenAt j⟩

theorem rel_cell {w : World} {A : Option Addr} {c : Nat} {rs : List Nat} {e : TypeId} (h : w.ownsRow 0 e 1 (.slice A rs.length c) rs.length (rs.map u64v)) (n : Nat) (hn : n < rs.length) :
    ∃ g, A = some ⟨g, 0, none⟩ ∧ w.cell? ⟨g, n, none⟩ = some (u64v (rs.getD n 0)) := by
  obtain ⟨g, hA, _, hc, _⟩ := own_cell h (by omega)
  exact ⟨g, hA, by rw [hc n hn]; simp [List.getD, hn]⟩

set_option maxHeartbeats 400000 in
theorem relLen_any (b : Nat) (rs : List Nat) (w : World) (h : RelAt w b rs) :
    Calls Try.prog 75 #[.pointer (some ⟨b, 0, none⟩)] w fun e w' => e = .returned (.int .i64 rs.length) ∧ w = w' := by
  obtain ⟨A, c, hb, _, _⟩ := h
  have hc := hb.cell 0
  simp at hc
  go_enter Try.func75, Try.ntmps75
  go_wp2
  go_ret
  exact ⟨rfl, rfl⟩

set_option maxHeartbeats 400000 in
theorem relLen_nil (w : World) :
    Calls Try.prog 75 #[.pointer none] w fun e w' => e = .returned (.int .i64 0) ∧ w = w' := by
  go_enter Try.func75, Try.ntmps75
  go_wp2
  go_ret
  exact ⟨rfl, rfl⟩

set_option maxHeartbeats 400000 in
theorem relHas_nil (w : World) (x y : Int) :
    Calls Try.prog 55 #[.pointer none, .int .i64 x, .int .i64 y] w fun e w' => e = .returned (.bool false) ∧ w = w' := by
  by_cases h0 : 0 ≤ x
  · go_enter Try.func55, Try.ntmps55
    go_wp2_with (go_at_call 75; refine (relLen_nil _).mono ?_; rintro e w' ⟨rfl, rfl⟩)
    go_ret
    exact ⟨rfl, rfl⟩
  · go_enter Try.func55, Try.ntmps55
    go_wp2_with (go_at_call 75; refine (relLen_nil _).mono ?_; rintro e w' ⟨rfl, rfl⟩)
    go_ret
    exact ⟨rfl, rfl⟩

set_option maxHeartbeats 400000 in
theorem relHas_any (b : Nat) (rs : List Nat) (w : World) (h : RelAt w b rs) (x y : Int) :
    Calls Try.prog 55 #[.pointer (some ⟨b, 0, none⟩), .int .i64 x, .int .i64 y] w fun e w' => e = .returned (.bool (hasB rs x y)) ∧ w = w' := by
  obtain ⟨A, c, hb, ho, hl, hr⟩ := h
  have hlen := relLen_any b rs w ⟨A, c, hb, ho, hl, hr⟩
  have hc := hb.cell 0
  simp at hc
  have HL := hide hlen
  clear hlen
  by_cases h0 : 0 ≤ x
  · by_cases h1 : x < rs.length
    · by_cases h2 : 0 ≤ y
      · by_cases h3 : y < rs.length
        · obtain ⟨n, rfl⟩ := Int.eq_ofNat_of_zero_le h0
          obtain ⟨m, rfl⟩ := Int.eq_ofNat_of_zero_le h2
          obtain ⟨g, rfl, hx⟩ := rel_cell ho n (by omega)
          obtain ⟨r, hr'⟩ : ∃ r, r = rs.getD n 0 := ⟨_, rfl⟩
          rw [← hr'] at hx
          have HR := hide hr'
          have HW := hide (show r < 18446744073709551616 by rw [hr']; exact getD_lt hr (by omega))
          clear hr' hr ho hb
          go_enter Try.func55, Try.ntmps55
          go_wp2_with (go_at_call 75; refine HL.out.mono ?_; rintro e w' ⟨rfl, rfl⟩)
          go_ret
          refine ⟨?_, rfl⟩
          refine ret_bool (Eq.trans (shr_bit r m HW.out) ?_)
          rw [HR.out]
          simp [hasB]
          omega
        · go_enter Try.func55, Try.ntmps55
          go_wp2_with (go_at_call 75; refine HL.out.mono ?_; rintro e w' ⟨rfl, rfl⟩)
          go_ret
          exact ⟨by simp [hasB]; omega, rfl⟩
      · go_enter Try.func55, Try.ntmps55
        go_wp2_with (go_at_call 75; refine HL.out.mono ?_; rintro e w' ⟨rfl, rfl⟩)
        go_ret
        exact ⟨by simp [hasB]; omega, rfl⟩
    · go_enter Try.func55, Try.ntmps55
      go_wp2_with (go_at_call 75; refine HL.out.mono ?_; rintro e w' ⟨rfl, rfl⟩)
      go_ret
      exact ⟨by simp [hasB]; omega, rfl⟩
  · go_enter Try.func55, Try.ntmps55
    go_wp2
    go_ret
    exact ⟨by simp [hasB]; omega, rfl⟩

end Go.Proofs.Ytpjlhpaenmfieaa
