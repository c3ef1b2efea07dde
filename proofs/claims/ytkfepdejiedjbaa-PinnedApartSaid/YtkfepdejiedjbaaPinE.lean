/- pinned: set, Wide, Zero, Unsafe; the document's Unsafe. -/
import Derived.Test.YtkfepdejiedjbaaPinD
import Derived.Test.YtkfepdejiedjbaaRngK
import Derived.Deep.RegionWith
namespace Go.Proofs.Ytkfepdejiedjbaa
open Go.RowKit
attribute [local irreducible] pin_wide pin_zero pin_control pin_bidi pin_format pin_separator ref_Wide ref_Zero ref_bidi ref_format

theorem setQ_ret {f : Int → Bool} {w w3 w4 : World} {g n c : Nat} {A : Option Addr} {o : List (Int × Int)} (hg : w.heap.size ≤ g) (hg3 : g < w3.heap.size) (hE3 : Ext w w3) (hS : SetAt w4 A n o f) (hF : Fresh w3 A n) (hE4 : Ext w3 w4) (u : Value) :
    SetQ f w (.returned (.agg #[.slice A n c])) (w4.setCell ⟨g, 0, none⟩ u) :=
  ⟨A, c, n, o, rfl, hS.far hF hg3 u, fun hn => by obtain ⟨g', e, h⟩ := hF hn; exact ⟨g', e, by have := hE3.size; omega⟩, (hE3.trans' hE4).setCell hg u⟩

theorem set_retQ {A : Option Addr} {c g n : Nat} {w2 : World} {fn : Func} {p : Tmp} {a : Act} {R : Ending → World → Prop} {v0 : Value} (hB : Blk w2 g 49 #[v0]) (hfn : fn.results = #[.cell p 49]) (hp : a.tmps.getD p undef = .pointer (some ⟨g, 0, none⟩)) (hd : a.defers = [])
    (hR : R (.returned (.agg #[.slice A n c])) (w2.setCell ⟨g, 0, none⟩ (.slice A n c))) : bodyPost Try.prog fn R .ret a (w2.setCell ⟨g, 0, none⟩ (.slice A n c)) := by
  have hBr := hB.set_ 0 (.slice A n c)
  exact bodyPost_ret (results_cell_row hfn _ _ g 49 _ (0, 0) _ hp hBr Try.underlying49 rfl (by kernel_rfl)) hd hR

set_option maxRecDepth 100000 in
set_option maxHeartbeats 1000000 in
theorem pinSet_any (A : Option Addr) (c n : Nat) (l : List (Int × Int)) (w : World) (h : RngAt w w.heap.size A l) (hl : l.length ≤ 1000000) (hn : n = l.length) :
    Calls Try.prog 88 #[.slice A n c] w (SetQ (hasT l) w) := by
  have HN := hide hn
  have hnl : n ≤ 1000000 := by omega
  clear hn
  go_enter Try.func88, Try.ntmps88
  go_wp2_with fail
  go_loopw [8, 3] (fun i o wr => ∃ (k : Nat) (Ao : Option Addr) (co : Nat), k ≤ n ∧ i = .int .i64 k ∧ o = .slice Ao k co ∧ Ext w wr ∧ Blk wr w.heap.size 49 #[.slice none 0 0] ∧ wr.ownsRow (w.heap.size + 1) 85 2 (.slice Ao k co) k (rngCells (l.take k))) (fun i _ _ => n - (intOf i).toNat)
  case atStart => exact ⟨0, none, 0, Nat.zero_le _, rfl, rfl, (Ext.rfl' w).alloc (Nat.le_refl _) _, Blk.new _ _ _, World.ownsRow_nil _ _ _ _⟩
  case round =>
    obtain ⟨k, Ao, co, hk, rfl, rfl, hE, hB, hO⟩ := hrel
    have HE := hide hE
    have HB := hide hB
    have HO := hide hO
    have hsz := hB.lt
    by_cases hlt : k < n
    · have hkl : k < l.length := by rw [← HN.out]; exact hlt
      obtain ⟨b, o, rfl, hbs, hcell⟩ := h.cell (by omega)
      obtain ⟨hp1, hp2⟩ := hcell k hkl
      have hst : l.take (k + 1) = l.take k ++ [l[k]] := List.take_succ_eq_append_getElem hkl
      obtain ⟨lo, hlo⟩ : ∃ lo, lo = l[k].1 := ⟨_, rfl⟩
      obtain ⟨hi, hhi⟩ : ∃ hi, hi = l[k].2 := ⟨_, rfl⟩
      have hlk : l[k] = (lo, hi) := by rw [hlo, hhi]
      rw [hlk] at hst
      rw [← hlo] at hp1
      rw [← hhi] at hp2
      have q1 : wr.cell? ⟨b, o + k * 2, none⟩ = some (i32v lo) := (hE.cell (p := ⟨b, o + k * 2, none⟩) hbs).trans hp1
      have q2 : wr.cell? ⟨b, o + k * 2 + 1, none⟩ = some (i32v hi) := (hE.cell (p := ⟨b, o + k * 2 + 1, none⟩) hbs).trans hp2
      have HST := hide hst
      clear hst hlo hhi hlk hp1 hp2 hcell hE hB hO hkl
      go_wp2_with (at_builtin; refine wpList_append_R _ rfl _ _ rfl (w.heap.size + 1) _ k (l.take k) rfl (lo, hi) _ _ 1 1 [(lo, hi)] rfl ((HO.out.alloc _).alloc _) (reads_one _ _ _ _ _ (by simp)) (by omega) (by simp; omega) ?_)
      intro A3 c3 w3 hown3 hgrow3 _
      have HE3 := hide (grown_ext (w := w) (wr := wr) (base := w.heap.size + 1) HE.out (((Ext.rfl' wr).alloc (Nat.le_refl _) _).alloc (by simp) _) hgrow3 HO.out (by omega))
      have HB3 := hide (grown_blk ((HB.out.alloc _).alloc _) hgrow3 HO.out (.inl (by omega)))
      rw [← HST.out] at hown3
      have HO3 := hide hown3
      clear hgrow3 hown3
      go_wp2_with fail
      go_roundw
      case rel => exact ⟨k + 1, A3, c3, by omega, by go_num, rfl, HE3.out, HB3.out, HO3.out⟩
      case measure => simp [intOf]; omega
    · obtain rfl : k = n := by omega
      have hO' := hO
      rw [HN.out, List.take_length, ← HN.out] at hO'
      have HC := hide (newQ (c := co) l (by unfold RngAt; rw [← HN.out]; exact Reads.of_own hO') (by rw [← HN.out]; omega) HN.out)
      clear hE hB hO hO'
      go_wp2_with fail
      refine HC.out.mono ?_
      rintro e w4 ⟨A4, c4, n4, out, rfl, hS4, hF4, hE4⟩
      have hB4 := HB.out.ext hE4
      have cB := hB4.cell 0
      have fB := hB4.free 0
      simp only [List.getElem?_toArray, List.getElem?_cons_zero] at cB
      have HB4 := hide hB4
      have HR := hide (fun u => setQ_ret (c := c4) (Nat.le_refl _) hsz HE.out hS4 hF4 hE4 u)
      clear hS4 hF4 hE4 hB4
      go_wp2_with fail
      exact set_retQ HB4.out rfl rfl rfl (HR.out _)

set_option maxRecDepth 100000 in
set_option maxHeartbeats 1000000 in
theorem pinWide_any (w : World) : Calls Try.prog 59 #[] w (SetQ (hasT pin_wide) w) := by
  have hlen := len_wide
  go_enter Try.func59, Try.ntmps59
  go_wp2_with fail
  refine (pin_wideT_any _).mono ?_
  rintro e w1 ⟨g, rfl, hR, hE⟩
  obtain ⟨n, hn⟩ : ∃ n, n = pin_wide.length := ⟨_, rfl⟩
  rw [← hn]
  have HE := hide (Ext.trans' ((Ext.rfl' w).alloc (Nat.le_refl _) _) hE)
  have HB := hide ((Blk.new w 49 #[.slice none 0 0]).ext hE)
  have l1 := HB.out.lt
  have HC := hide (pinSet_any (some ⟨g, 0, none⟩) n n pin_wide w1 hR hlen hn)
  clear hR hE hn hlen
  go_wp2_with fail
  refine HC.out.mono ?_
  rintro e w4 ⟨A4, c4, n4, out, rfl, hS4, hF4, hE4⟩
  have hB4 := HB.out.ext hE4
  have cB := hB4.cell 0
  have fB := hB4.free 0
  simp only [List.getElem?_toArray, List.getElem?_cons_zero] at cB
  have HB4 := hide hB4
  have HR := hide (fun u => setQ_ret (c := c4) (Nat.le_refl _) l1 HE.out hS4 hF4 hE4 u)
  clear hS4 hF4 hE4 hB4
  go_wp2_with fail
  exact set_retQ HB4.out rfl rfl rfl (HR.out _)

set_option maxRecDepth 100000 in
set_option maxHeartbeats 1000000 in
theorem pinZero_any (w : World) : Calls Try.prog 60 #[] w (SetQ (hasT pin_zero) w) := by
  have hlen := len_zero
  go_enter Try.func60, Try.ntmps60
  go_wp2_with fail
  refine (pin_zeroT_any _).mono ?_
  rintro e w1 ⟨g, rfl, hR, hE⟩
  obtain ⟨n, hn⟩ : ∃ n, n = pin_zero.length := ⟨_, rfl⟩
  rw [← hn]
  have HE := hide (Ext.trans' ((Ext.rfl' w).alloc (Nat.le_refl _) _) hE)
  have HB := hide ((Blk.new w 49 #[.slice none 0 0]).ext hE)
  have l1 := HB.out.lt
  have HC := hide (pinSet_any (some ⟨g, 0, none⟩) n n pin_zero w1 hR hlen hn)
  clear hR hE hn hlen
  go_wp2_with fail
  refine HC.out.mono ?_
  rintro e w4 ⟨A4, c4, n4, out, rfl, hS4, hF4, hE4⟩
  have hB4 := HB.out.ext hE4
  have cB := hB4.cell 0
  have fB := hB4.free 0
  simp only [List.getElem?_toArray, List.getElem?_cons_zero] at cB
  have HB4 := hide hB4
  have HR := hide (fun u => setQ_ret (c := c4) (Nat.le_refl _) l1 HE.out hS4 hF4 hE4 u)
  clear hS4 hF4 hE4 hB4
  go_wp2_with fail
  exact set_retQ HB4.out rfl rfl rfl (HR.out _)

theorem rng_ne {w : World} {B g g1 : Nat} {t : TypeId} {l : List (Int × Int)} {A : Option Addr} {n c : Nat} (h : RngAt w B (some ⟨g, 0, none⟩) l) (hl : 0 < l.length) (hB : Blk w g1 t #[.slice A n c]) : g ≠ g1 := by
  rintro rfl
  obtain ⟨b, o, e, _, hc⟩ := h.cell hl
  injection e with e
  injection e with e1 e2
  subst e1 e2
  have h1 := (hc 0 hl).1
  rw [Nat.zero_mul, Nat.add_zero, hB.cell 0] at h1
  simp at h1
theorem RngAt.far {w : World} {g : Nat} {l : List (Int × Int)} {p : Addr} (h : RngAt w w.heap.size (some ⟨g, 0, none⟩) l) (hp : g ≠ p.block) (u : Value) : RngAt (w.setCell p u) (w.setCell p u).heap.size (some ⟨g, 0, none⟩) l := by
  refine ⟨h.1, fun hn => ?_⟩
  obtain ⟨ad, e, hb, hc⟩ := h.2 hn
  injection e with e
  subst e
  exact ⟨_, rfl, by simpa using hb, fun j u' hu => (World.cell?_setCell_other w p _ u (fun e' => hp (by rw [e', block_of_add]))).trans (hc j u' hu)⟩

/-- Which runes the first tables of unsafe runes have. -/
def unsF (k : Nat) (r : Int) : Bool := hasT pin_control r || (decide (0 < k) && hasT pin_bidi r) || (decide (1 < k) && hasT pin_format r) || (decide (2 < k) && hasT pin_separator r)
end Go.Proofs.Ytkfepdejiedjbaa
