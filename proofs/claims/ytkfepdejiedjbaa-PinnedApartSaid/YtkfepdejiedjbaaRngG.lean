/- Layer 2's statements: lives, size, RangesMakes. -/
import Derived.Test.YtkfepdejiedjbaaRngF
import Derived.Test.YtkfepdejiedjbaaRngH
namespace Go.Proofs.Ytkfepdejiedjbaa
open Go.RowKit

theorem RngAt.of_own {w : World} {base : Nat} {A : Option Addr} {c : Nat} {l : List (Int × Int)} (h : w.ownsRow base 85 2 (.slice A l.length c) l.length (rngCells l)) : RngAt w w.heap.size A l := Reads.of_own h

set_option maxRecDepth 100000 in
set_option maxHeartbeats 1000000 in
theorem lives2_any (w : World) : Calls Try.prog 33 #[] w (fun e w' => e = .returned (.bool true) ∧ Ext w w') := by
  go_enter Try.func33, Try.ntmps33
  go_wp2_with fail
  refine (newR_any (some ⟨w.heap.size, 0, none⟩) 3 [(3, 5), (1, 2), (9, 7)] _ (reads_lit _ _ _ _ rfl rfl) (by simp)).mono ?_
  rintro e w1 ⟨A1, c1, out, rfl, hO, hc, hi, hl, hE⟩
  have hout : out = [(1, 5)] := by
    refine canon_unique hc (lo' := 0) (by simp [canonFrom]) fun r => ?_
    rw [hi r, hasT, inT_cons, inT_cons, inT_cons, inT_cons, inT_nil, Bool.eq_iff_iff]
    simp
    omega
  subst hout
  have HE1 := hide (Ext.trans' ((Ext.rfl' w).alloc (Nat.le_refl _) _) hE)
  have HC := hide (setRanges_any A1 c1 [(1, 5)] w1 (RngAt.of_own hO) (by simp))
  clear hO hc hi hl hE
  go_wp2_with fail
  refine HC.out.mono ?_
  rintro e w2 ⟨A2, c2, rfl, hO, hE⟩
  obtain ⟨b, o, rfl, hbs, hcell⟩ := (RngAt.of_own hO).cell (by simp)
  obtain ⟨hp1, hp2⟩ := hcell 0 (by simp)
  have HE2 := hide (Ext.trans' HE1.out hE)
  clear hO hE hcell
  simp only [List.length_cons, List.length_nil, List.getElem_cons_zero, Nat.zero_mul, Nat.add_zero, Nat.zero_add] at hp1 hp2 ⊢
  go_wp2_with fail
  go_ret
  exact ⟨rfl, HE2.out⟩

set_option maxRecDepth 100000 in
set_option maxHeartbeats 1000000 in
theorem lawSize_any (A : Option Addr) (c : Nat) (l : List (Int × Int)) (w : World) (h : RngAt w w.heap.size A l) (hl : l.length ≤ 10000000) (hok : ∀ p ∈ l, okR p) :
    Calls Try.prog 44 #[.slice A l.length c] w (fun e w' => e = .returned (.int .i64 (cntL l)) ∧ Ext w w') := by
  have HOK := hide hok
  clear hok
  go_enter Try.func44, Try.ntmps44
  go_wp2_with fail
  go_loopw [4, 3] (fun i s wr => ∃ k : Nat, k ≤ l.length ∧ i = .int .i64 k ∧ s = .int .i64 (cntL (l.take k)) ∧ Ext w wr) (fun i _ _ => l.length - (intOf i).toNat)
  case atStart => exact ⟨0, Nat.zero_le _, rfl, rfl, Ext.rfl' w⟩
  case round =>
    obtain ⟨k, hk, rfl, rfl, hE⟩ := hrel
    have HE := hide hE
    by_cases hlt : k < l.length
    · obtain ⟨b, o, rfl, hbs, hcell⟩ := h.cell (by omega)
      obtain ⟨hp1, hp2⟩ := hcell k hlt
      have hst := cntL_snoc (l.take k) l[k]
      rw [← List.take_succ_eq_append_getElem hlt] at hst
      have hb := cntL_bound (l := l.take k) fun p hp => HOK.out p (List.mem_of_mem_take hp)
      have hb2 := HOK.out l[k] (List.getElem_mem hlt)
      unfold okR at hb2
      rw [List.length_take] at hb
      obtain ⟨lo, hlo⟩ : ∃ lo, lo = l[k].1 := ⟨_, rfl⟩
      obtain ⟨hi, hhi⟩ : ∃ hi, hi = l[k].2 := ⟨_, rfl⟩
      rw [← hlo] at hp1 hst hb2
      rw [← hhi] at hp2 hst hb2
      have q1 : wr.cell? ⟨b, o + k * 2, none⟩ = some (i32v lo) := (hE.cell (p := ⟨b, o + k * 2, none⟩) hbs).trans hp1
      have q2 : wr.cell? ⟨b, o + k * 2 + 1, none⟩ = some (i32v hi) := (hE.cell (p := ⟨b, o + k * 2 + 1, none⟩) hbs).trans hp2
      obtain ⟨s, hs⟩ : ∃ s, s = cntL (l.take k) := ⟨_, rfl⟩
      rw [← hs] at hst hb ⊢
      have HST := hide hst
      have hb3 : 0 ≤ s ∧ s ≤ 12000000000000 := by omega
      have e1 : IntKind.i64.wrap (s + hi) = s + hi := IntWalk.i64_in _ (by omega)
      have e2 : IntKind.i64.wrap (s + hi - lo) = s + hi - lo := IntWalk.i64_in _ (by omega)
      have e3 : IntKind.i64.wrap (s + hi - lo + 1) = s + hi - lo + 1 := IntWalk.i64_in _ (by omega)
      clear hst hs hb hlo hhi hp1 hp2 hcell hE
      go_wp2_with fail
      go_quiet (fail)
      clear e1 e2 e3
      go_wp2_with fail
      go_roundw
      case rel => exact ⟨k + 1, by omega, by go_num, by rw [HST.out]; go_num, below_drewN HE.out _⟩
      case measure => simp [intOf]; omega
    · obtain rfl : k = l.length := by omega
      rw [List.take_length]
      obtain ⟨s, hs⟩ : ∃ s, s = cntL l := ⟨_, rfl⟩
      rw [← hs]
      have HSS := hide hs
      clear hs hE
      go_wp2_with fail
      go_ret
      exact ⟨ret_int HSS.out, HE.out⟩
end Go.Proofs.Ytkfepdejiedjbaa
