/- The document's ranges: next, kind, Same, size. -/
import Derived.Test.YtkfepdejiedjbaaRngA
import Derived.Test.YtkfepdejiedjbaaRngQ
namespace Go.Proofs.Ytkfepdejiedjbaa
open Go.RowKit

set_option maxRecDepth 100000 in
set_option maxHeartbeats 1000000 in
theorem refNext_any (A : Option Addr) (c : Nat) (l : List (Int × Int)) (fr : Int) (w : World) (h : RngAt w w.heap.size A l) (hl : l.length ≤ 17592186044416) (_hf : 0 ≤ fr) (hf2 : fr ≤ 1114112) (h32 : ∀ p ∈ l, -2147483648 ≤ p.1 ∧ p.1 ≤ 2147483647 ∧ -2147483648 ≤ p.2 ∧ p.2 ≤ 2147483647) :
    Calls Try.prog 79 #[.slice A l.length c, .int .i64 fr] w (fun e w' => e = .returned (.int .i64 (nextL l fr)) ∧ Ext w w') := by
  have H32 := hide h32
  clear h32
  go_enter Try.func79, Try.ntmps79
  go_wp2_with fail
  go_loopw [6, 5] (fun i o wr => ∃ (k : Nat) (out : Int), k ≤ l.length ∧ i = .int .i64 k ∧ o = .int .i64 out ∧ out = nextL (l.take k) fr ∧ Ext w wr) (fun i _ _ => l.length - (intOf i).toNat)
  case atStart => exact ⟨0, 1114112, Nat.zero_le _, rfl, rfl, rfl, Ext.rfl' _⟩
  case round =>
    obtain ⟨k, out, hk, rfl, rfl, ho, hE⟩ := hrel
    by_cases hlt : k < l.length
    · obtain ⟨b, o, rfl, hbs, hcell⟩ := h.cell (by omega)
      obtain ⟨hp1, hp2⟩ := hcell k hlt
      have hst := nextL_snoc (l.take k) l[k] fr
      rw [← List.take_succ_eq_append_getElem hlt, ← ho] at hst
      have hr := H32.out l[k] (List.getElem_mem hlt)
      have hob := nextL_spec (l.take k) fr hf2
      rw [← ho] at hob
      obtain ⟨ho1, ho2, _⟩ := hob
      obtain ⟨lo, hlo⟩ : ∃ lo, lo = l[k].1 := ⟨_, rfl⟩
      obtain ⟨hi, hhi⟩ : ∃ hi, hi = l[k].2 := ⟨_, rfl⟩
      have hlk : l[k] = (lo, hi) := by rw [hlo, hhi]
      rw [hlk] at hst
      rw [← hlo, ← hhi] at hr
      rw [← hlo] at hp1
      rw [← hhi] at hp2
      have q1 : wr.cell? ⟨b, o + k * 2, none⟩ = some (i32v lo) := (hE.cell (p := ⟨b, o + k * 2, none⟩) hbs).trans hp1
      have q2 : wr.cell? ⟨b, o + k * 2 + 1, none⟩ = some (i32v hi) := (hE.cell (p := ⟨b, o + k * 2 + 1, none⟩) hbs).trans hp2
      have HE := hide hE
      have HST := hide hst
      obtain ⟨r1, r2, r3, r4⟩ := hr
      clear hp1 hp2 hcell hlo hhi hE ho hlk hst
      unfold nextS at HST
      have e1 : IntKind.i64.wrap (hi + 1) = hi + 1 := IntWalk.i64_in _ (by omega)
      go_wp2_with fail
      go_quiet (fail)
      clear e1
      by_cases c1 : fr ≤ lo ∧ lo < out
      · have c1' := c1
        obtain ⟨c2, c3⟩ := c1
        simp only [if_pos c1'] at HST
        clear c1'
        by_cases c4 : fr ≤ hi + 1 ∧ hi + 1 < lo
        · rw [if_pos c4] at HST
          obtain ⟨c5, c6⟩ := c4
          go_wp2_with fail
          go_roundw
          case rel => exact ⟨k + 1, hi + 1, by omega, by go_num, rfl, HST.out.symm, below_drewN HE.out _⟩
          case measure => simp [intOf]; omega
        · rw [if_neg c4] at HST
          by_cases c5 : fr ≤ hi + 1
          all_goals
            go_wp2_with fail
            go_roundw
            case rel => exact ⟨k + 1, lo, by omega, by go_num, rfl, HST.out.symm, below_drewN HE.out _⟩
            case measure => simp [intOf]; omega
      · simp only [if_neg c1] at HST
        by_cases c2 : fr ≤ lo
        all_goals
          by_cases c4 : fr ≤ hi + 1 ∧ hi + 1 < out
          · rw [if_pos c4] at HST
            obtain ⟨c5, c6⟩ := c4
            go_wp2_with fail
            go_roundw
            case rel => exact ⟨k + 1, hi + 1, by omega, by go_num, rfl, HST.out.symm, below_drewN HE.out _⟩
            case measure => simp [intOf]; omega
          · rw [if_neg c4] at HST
            by_cases c5 : fr ≤ hi + 1
            all_goals
              go_wp2_with fail
              go_roundw
              case rel => exact ⟨k + 1, out, by omega, by go_num, rfl, HST.out.symm, below_drewN HE.out _⟩
              case measure => simp [intOf]; omega
    · obtain rfl : k = l.length := by omega
      rw [List.take_length] at ho
      have HO := hide ho
      have HE := hide hE
      clear ho hE
      go_wp2_with fail
      go_ret
      exact ⟨ret_int HO.out, HE.out⟩

set_option maxRecDepth 100000 in
set_option maxHeartbeats 1000000 in
theorem refKind_any2 (A : Option Addr) (c : Nat) (a : List (Int × Int)) (A2 : Option Addr) (c2 : Nat) (b : List (Int × Int)) (how r : Int) (w : World) (h : RngAt w w.heap.size A a) (h2 : RngAt w w.heap.size A2 b) (hl : a.length ≤ 17592186044416) (hl2 : b.length ≤ 17592186044416) :
    Calls Try.prog 80 #[.slice A a.length c, .slice A2 b.length c2, .int .i64 how, .int .i32 r] w (fun e w' => e = .returned (.bool (kindL a b how r)) ∧ w = w') := by
  have hk : ∀ x y, hasT a r = x → hasT b r = y → kindL a b how r = if how = 1 then x || y else if how = 2 then x && y else x && !y := fun x y hx hy => by unfold kindL; rw [hx, hy]
  have hA := refHas_any A c a r w h (by omega)
  have hB := refHas_any A2 c2 b r w h2 (by omega)
  generalize hasT a r = x at hk hA
  generalize hasT b r = y at hk hB
  have hk' := hk x y rfl rfl
  generalize kindL a b how r = z at hk'
  clear hk
  have HA := hide hA
  have HB := hide hB
  clear hA hB
  by_cases c1 : how = 1
  · subst c1
    rw [if_pos rfl] at hk'
    subst hk'
    cases x <;> cases y
    all_goals
      go_enter Try.func80, Try.ntmps80
      go_wp2_with (go_at_call 42; (first | (with_reducible refine HA.out.mono ?_) | (with_reducible refine HB.out.mono ?_)); rintro e w' ⟨rfl, rfl⟩)
      go_ret
      exact ⟨rfl, rfl⟩
  · rw [if_neg c1] at hk'
    have d1 : (how == 1) = false := by simpa using c1
    by_cases c2 : how = 2
    · subst c2
      rw [if_pos rfl] at hk'
      subst hk'
      cases x <;> cases y
      all_goals
        go_enter Try.func80, Try.ntmps80
        go_wp2_with (go_at_call 42; (first | (with_reducible refine HA.out.mono ?_) | (with_reducible refine HB.out.mono ?_)); rintro e w' ⟨rfl, rfl⟩)
        go_ret
        exact ⟨rfl, rfl⟩
    · rw [if_neg c2] at hk'
      have d2 : (how == 2) = false := by simpa using c2
      subst hk'
      clear c1 c2
      cases x <;> cases y
      all_goals
        go_enter Try.func80, Try.ntmps80
        go_wp2_with (go_at_call 42; (first | (with_reducible refine HA.out.mono ?_) | (with_reducible refine HB.out.mono ?_)); rintro e w' ⟨rfl, rfl⟩)
        go_ret
        exact ⟨rfl, rfl⟩

set_option maxRecDepth 100000 in
set_option maxHeartbeats 1000000 in
theorem refSame_any (A : Option Addr) (c : Nat) (a : List (Int × Int)) (A2 : Option Addr) (c2 : Nat) (b : List (Int × Int)) (w : World) (h : RngAt w w.heap.size A a) (h2 : RngAt w w.heap.size A2 b) (hl : a.length ≤ 17592186044416) (hl2 : b.length ≤ 17592186044416) (hab : a = b) :
    Calls Try.prog 35 #[.slice A a.length c, .slice A2 b.length c2] w (fun e w' => e = .returned (.bool true) ∧ Ext w w') := by
  subst hab
  go_enter Try.func35, Try.ntmps35
  go_wp2_with fail
  go_loopw [5] (fun i wr => ∃ (k : Nat), k ≤ a.length ∧ i = .int .i64 k ∧ Ext w wr) (fun i _ => a.length - (intOf i).toNat)
  case atStart => exact ⟨0, Nat.zero_le _, rfl, Ext.rfl' _⟩
  case round =>
    obtain ⟨k, hk, rfl, hE⟩ := hrel
    have HE := hide hE
    by_cases hlt : k < a.length
    · obtain ⟨b, o, rfl, hbs, hcell⟩ := h.cell (by omega)
      obtain ⟨hp1, hp2⟩ := hcell k hlt
      obtain ⟨b2, o2, rfl, hbs2, hcell2⟩ := h2.cell (by omega)
      obtain ⟨hr1, hr2⟩ := hcell2 k hlt
      obtain ⟨lo, hlo⟩ : ∃ lo, lo = a[k].1 := ⟨_, rfl⟩
      obtain ⟨hi, hhi⟩ : ∃ hi, hi = a[k].2 := ⟨_, rfl⟩
      rw [← hlo] at hp1 hr1
      rw [← hhi] at hp2 hr2
      have q1 : wr.cell? ⟨b, o + k * 2, none⟩ = some (i32v lo) := (hE.cell (p := ⟨b, o + k * 2, none⟩) hbs).trans hp1
      have q2 : wr.cell? ⟨b, o + k * 2 + 1, none⟩ = some (i32v hi) := (hE.cell (p := ⟨b, o + k * 2 + 1, none⟩) hbs).trans hp2
      have q3 : wr.cell? ⟨b2, o2 + k * 2, none⟩ = some (i32v lo) := (hE.cell (p := ⟨b2, o2 + k * 2, none⟩) hbs2).trans hr1
      have q4 : wr.cell? ⟨b2, o2 + k * 2 + 1, none⟩ = some (i32v hi) := (hE.cell (p := ⟨b2, o2 + k * 2 + 1, none⟩) hbs2).trans hr2
      clear hp1 hp2 hr1 hr2 hcell hcell2 hlo hhi hE
      go_wp2_with fail
      go_quiet (fail)
      go_wp2_with fail
      go_roundw
      case rel => exact ⟨k + 1, by omega, by go_num, below_drewN HE.out _⟩
      case measure => simp [intOf]; omega
    · obtain rfl : k = a.length := by omega
      clear hE
      go_wp2_with fail
      go_ret
      exact ⟨rfl, HE.out⟩
end Go.Proofs.Ytkfepdejiedjbaa
