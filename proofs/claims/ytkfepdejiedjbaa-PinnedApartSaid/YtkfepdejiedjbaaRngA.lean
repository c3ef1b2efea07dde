/- ranges.Set: Ranges, Count. -/
import Derived.Test.YtkfepdejiedjbaaRngN
namespace Go.Proofs.Ytkfepdejiedjbaa
open Go.RowKit

def OwnRPost (l : List (Int × Int)) (w : World) (e : Ending) (w' : World) : Prop :=
  ∃ A c, e = .returned (.slice A (List.length l) c) ∧ w'.ownsRow w.heap.size 85 2 (.slice A l.length c) l.length (rngCells l) ∧ Ext w w'

set_option maxRecDepth 100000 in
set_option maxHeartbeats 1000000 in
theorem setRanges_any (A : Option Addr) (c : Nat) (l : List (Int × Int)) (w : World) (h : RngAt w w.heap.size A l) (hl : l.length ≤ 10000000) :
    Calls Try.prog 37 #[.agg #[.slice A l.length c]] w (OwnRPost l w) := by
  have hR := h.alloc (Nat.le_refl _) (.cells #[.slice A l.length c] 49)
  go_enter Try.func37, Try.ntmps37
  go_wp2_with (at_builtin; refine wpList_append_R _ rfl _ _ rfl w.heap.size _ 0 [] rfl (0, 0) _ _ l.length c l rfl (World.ownsRow_nil _ _ _ _) hR (by omega) (by simp) ?_)
  intro A2 c2 w1 hown hgrow _
  have hE := hide (Ext.trans' ((Ext.rfl' w).alloc (Nat.le_refl _) _) (ext_of_grown hgrow))
  have HO := hide hown
  clear hown hgrow hR
  go_wp2_with fail
  go_ret
  exact ⟨A2, c2, rfl, HO.out, hE.out⟩

/-- How many runes ranges have. -/
def cntL : List (Int × Int) → Int
  | [] => 0
  | p :: l => (p.2 - p.1 + 1) + cntL l
theorem cntL_snoc (l : List (Int × Int)) (p : Int × Int) : cntL (l ++ [p]) = cntL l + (p.2 - p.1 + 1) := by
  induction l with
  | nil => simp [cntL]
  | cons q l ih => simp only [List.cons_append, cntL, ih]; omega
theorem cntL_bound {l : List (Int × Int)} (h : ∀ p ∈ l, okR p) : 0 ≤ cntL l ∧ cntL l ≤ 1114112 * l.length := by
  induction l with
  | nil => simp [cntL]
  | cons p l ih =>
    have := ih fun q hq => h q (by simp [hq])
    have hp := h p (by simp)
    unfold okR at hp
    simp only [cntL, List.length_cons]
    omega
theorem canon_ok {l : List (Int × Int)} {lo : Int} (h0 : 0 ≤ lo) (h : canonFrom lo l) : ∀ p ∈ l, okR p := by
  induction l generalizing lo with
  | nil => simp
  | cons q l ih =>
    obtain ⟨h1, h2, h3, h4⟩ := h
    intro p hp
    rcases List.mem_cons.1 hp with rfl | hp
    · exact ⟨by omega, h2, h3⟩
    · exact ih (by omega) h4 p hp

set_option maxRecDepth 100000 in
set_option maxHeartbeats 1000000 in
theorem setCount_any (A : Option Addr) (c : Nat) (l : List (Int × Int)) (w : World) (h : RngAt w w.heap.size A l) (hl : l.length ≤ 10000000) (hok : ∀ p ∈ l, okR p) :
    Calls Try.prog 43 #[.agg #[.slice A l.length c]] w (fun e w' => e = .returned (.int .i64 (cntL l)) ∧ Ext w w') := by
  have HOK := hide hok
  clear hok
  go_enter Try.func43, Try.ntmps43
  go_wp2_with fail
  go_loopw [9, 3] (fun i s wr => ∃ k : Nat, k ≤ l.length ∧ i = .int .i64 k ∧ s = .int .i64 (cntL (l.take k)) ∧ Ext w wr) (fun i _ _ => l.length - (intOf i).toNat)
  case atStart => exact ⟨0, Nat.zero_le _, rfl, rfl, (Ext.rfl' w).alloc (Nat.le_refl _) _⟩
  case round =>
    obtain ⟨k, hk, rfl, rfl, hE⟩ := hrel
    have HE := hide hE
    by_cases hlt : k < l.length
    · obtain ⟨b, o, rfl, hbs, hcell⟩ := h.cell (by omega)
      obtain ⟨hp1, hp2⟩ := hcell k hlt
      have hst := cntL_snoc (l.take k) l[k]
      rw [← List.take_succ_eq_append_getElem hlt] at hst
      have hb := cntL_bound (l := l.take k) fun p hp => HOK.out p (List.mem_of_mem_take hp)
      have hb2 := HOK.out l[k] (List.getElem_mem hlt)
      unfold okR at hb2
      rw [List.length_take] at hb
      obtain ⟨lo, hlo⟩ : ∃ lo, lo = l[k].1 := ⟨_, rfl⟩
      obtain ⟨hi, hhi⟩ : ∃ hi, hi = l[k].2 := ⟨_, rfl⟩
      rw [← hlo] at hp1 hst hb2
      rw [← hhi] at hp2 hst hb2
      have q1 : wr.cell? ⟨b, o + k * 2, none⟩ = some (i32v lo) := (hE.cell (p := ⟨b, o + k * 2, none⟩) hbs).trans hp1
      have q2 : wr.cell? ⟨b, o + k * 2 + 1, none⟩ = some (i32v hi) := (hE.cell (p := ⟨b, o + k * 2 + 1, none⟩) hbs).trans hp2
      obtain ⟨s, hs⟩ : ∃ s, s = cntL (l.take k) := ⟨_, rfl⟩
      rw [← hs] at hst hb ⊢
      have hsz := hE.size
      have HST := hide hst
      have hb3 : 0 ≤ s ∧ s ≤ 12000000000000 := by omega
      clear hst hs hb hlo hhi hp1 hp2 hcell hE
      go_wp2_with fail
      go_roundw
      case rel => exact ⟨k + 1, by omega, by go_num, by rw [HST.out], HE.out.alloc (by omega) _⟩
      case measure => simp [intOf]; omega
    · obtain rfl : k = l.length := by omega
      rw [List.take_length]
      obtain ⟨s, hs⟩ : ∃ s, s = cntL l := ⟨_, rfl⟩
      rw [← hs]
      have HSS := hide hs
      clear hs hE
      go_wp2_with fail
      go_ret
      exact ⟨ret_int HSS.out, HE.out⟩
end Go.Proofs.Ytkfepdejiedjbaa
