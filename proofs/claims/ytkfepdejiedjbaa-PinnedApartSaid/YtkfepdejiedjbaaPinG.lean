/- PinnedSets, PinnedApart: the walks. -/
import Derived.Test.YtkfepdejiedjbaaPinF
import Derived.Laws.OwnMore
namespace Go.Proofs.Ytkfepdejiedjbaa
open Go.RowKit

def refUns : List (Int × Int) := [(0, 31), (127, 159), (8232, 8233)] ++ ref_bidi ++ ref_format
theorem bidi_eq : ref_bidi = pin_bidi := by decide +kernel
theorem format_eq : ref_format = pin_format := by decide +kernel
theorem pin_all_in : (pin_control.all (fun p => decide (0 ≤ p.1 ∧ p.2 ≤ 1114111)) = true) ∧ (pin_bidi.all (fun p => decide (0 ≤ p.1 ∧ p.2 ≤ 1114111)) = true) ∧ (pin_format.all (fun p => decide (0 ≤ p.1 ∧ p.2 ≤ 1114111)) = true) ∧ (pin_separator.all (fun p => decide (0 ≤ p.1 ∧ p.2 ≤ 1114111)) = true) := by decide +kernel
theorem uns_in (r : Int) : unsF 3 r = (inT pin_control r || inT pin_bidi r || inT pin_format r || inT pin_separator r) := by
  unfold unsF
  rw [hasT_in pin_all_in.1, hasT_in pin_all_in.2.1, hasT_in pin_all_in.2.2.1, hasT_in pin_all_in.2.2.2]
  simp
theorem uns_kind (r : Int) : unsF 3 r = decide (kindT r ≠ 0) := by
  rw [uns_in, kindT]
  cases inT pin_control r <;> cases inT pin_bidi r <;> cases inT pin_format r <;> cases inT pin_separator r <;> simp
theorem refUns_in (r : Int) : hasT refUns r = unsF 3 r := by
  have h : hasT refUns r = inT refUns r := hasT_in (by decide +kernel) r
  rw [h, uns_in, refUns, inT_append, inT_append, bidi_eq, format_eq]
  have : inT [(0, 31), (127, 159), (8232, 8233)] r = (inT pin_control r || inT pin_separator r) := by
    show inT [(0, 31), (127, 159), (8232, 8233)] r = (inT [(0, 31), (127, 159)] r || inT [(8232, 8233)] r)
    rw [← inT_append]
    rfl
  rw [this]
  cases inT pin_control r <;> cases inT pin_bidi r <;> cases inT pin_format r <;> cases inT pin_separator r <;> rfl
theorem wide_in (r : Int) : hasT pin_wide r = inT pin_wide r := hasT_in (by decide +kernel) r
theorem zero_in (r : Int) : hasT pin_zero r = inT pin_zero r := hasT_in (by decide +kernel) r
theorem wz_none : cardF (fun r => hasT pin_wide r && hasT pin_zero r) = 0 := by
  have e : (fun r => hasT pin_wide r && hasT pin_zero r) = fun r => hasT pin_wide r && !hasT pin_wide r := by
    funext r
    rw [wide_in, zero_in]
    cases h : inT pin_wide r with
    | false => rfl
    | true => rw [wide_zero_apart h]; rfl
  rw [e, cardF_none]
theorem len_uns : refUns.length ≤ 1000000 := by decide +kernel
theorem len_uns_eq : refUns.length = 3 + ref_bidi.length + ref_format.length := by decide +kernel

attribute [local irreducible] pin_wide pin_zero pin_control pin_bidi pin_format pin_separator ref_Wide ref_Zero ref_bidi ref_format refUns

def RefUnsPost (w : World) (e : Ending) (w' : World) : Prop := ∃ A c n, e = .returned (.slice A n c) ∧ n = refUns.length ∧ RngAt w' w'.heap.size A refUns ∧ Ext w w'

set_option maxRecDepth 100000 in
set_option maxHeartbeats 1000000 in
theorem refUns_any (w : World) : Calls Try.prog 62 #[] w (RefUnsPost w) := by
  have hl1 := len_rbidi
  have hl2 := len_rformat
  have hle := len_uns_eq
  have hlu := len_uns
  obtain ⟨n, hn⟩ : ∃ n, n = ref_bidi.length := ⟨_, rfl⟩
  obtain ⟨m, hm⟩ : ∃ m, m = ref_format.length := ⟨_, rfl⟩
  rw [← hn, ← hm] at hle
  rw [hle] at hlu
  have HN := hide hn
  have HM := hide hm
  have HLE := hide hle
  clear hl1 hl2 hn hm hle
  go_enter Try.func62, Try.ntmps62
  go_wp2_with fail
  refine (ref_bidiT_any _).mono ?_
  rintro e w1 ⟨g, rfl, hR, hE⟩
  have hO0 : (w.alloc (.cells #[i32v 0, i32v 31, i32v 127, i32v 159, i32v 8232, i32v 8233] 85)).ownsRow w.heap.size 85 2 (.slice (some ⟨w.heap.size, 0, none⟩) 3 3) 3 (rngCells [(0, 31), (127, 159), (8232, 8233)]) :=
    World.ownsRow_lit w #[i32v 0, i32v 31, i32v 127, i32v 159, i32v 8232, i32v 8233] 3 (Nat.le_refl _) (by decide) rfl
  have HO := hide (own_ext hO0 hE)
  have HE := hide (Ext.trans' ((Ext.rfl' w).alloc (Nat.le_refl _) _) hE)
  have HR := hide hR
  clear hR hE hO0
  rw [← HN.out]
  have HRn : Reads w1 w1.heap.size 2 (some ⟨g, 0, none⟩) n (rngCells ref_bidi) := by have := HR.out; unfold RngAt at this; rw [← HN.out] at this; exact this
  have HRN := hide HRn
  clear HRn
  go_wp2_with (at_builtin; refine wpList_append_R _ rfl _ _ rfl w.heap.size _ 3 [(0, 31), (127, 159), (8232, 8233)] rfl (0, 0) _ _ n n ref_bidi rfl HO.out HRN.out (by omega) HE.out.size ?_)
  intro A2 c2 w2 hown hgrow _
  have HE2 := hide (grown_ext (w := w) HE.out (Ext.rfl' w1) hgrow HO.out (Nat.le_refl _))
  have HO2 := hide hown
  clear hown hgrow
  go_wp2_with fail
  refine (ref_formatT_any _).mono ?_
  rintro e w3 ⟨g', rfl, hR, hE⟩
  have HO3 := hide (own_ext HO2.out hE)
  have HE3 := hide (Ext.trans' HE2.out hE)
  rw [← HM.out]
  have HRn : Reads w3 w3.heap.size 2 (some ⟨g', 0, none⟩) m (rngCells ref_format) := by have := hR; unfold RngAt at this; rw [← HM.out] at this; exact this
  have HRM := hide HRn
  clear HRn hR hE
  go_wp2_with (at_builtin; refine wpList_append_R _ rfl _ _ rfl w.heap.size (.slice A2 (3 + n) c2) (3 + n) ([(0, 31), (127, 159), (8232, 8233)] ++ ref_bidi) rfl (0, 0) _ _ m m ref_format rfl HO3.out HRM.out (by omega) HE3.out.size ?_)
  intro A4 c4 w4 hown hgrow _
  have HE4 := hide (grown_ext (w := w) HE3.out (Ext.rfl' w3) hgrow HO3.out (Nat.le_refl _))
  have HO4 := hide hown
  clear hown hgrow
  go_wp2_with fail
  go_ret
  refine ⟨A4, c4, 3 + n + m, rfl, HLE.out.symm, ?_, HE4.out⟩
  have := Reads.of_own HO4.out
  unfold RngAt
  rw [HLE.out]
  have e : refUns = [(0, 31), (127, 159), (8232, 8233)] ++ ref_bidi ++ ref_format := by with_unfolding_all rfl
  rw [e]
  exact this
end Go.Proofs.Ytkfepdejiedjbaa
