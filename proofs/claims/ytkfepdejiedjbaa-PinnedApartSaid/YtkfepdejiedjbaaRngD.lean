/- ranges.Set: Less, Join. -/
import Derived.Test.YtkfepdejiedjbaaRngC
import Derived.Deep.RegionWith
import Derived.Deep.RegionLaw
namespace Go.Proofs.Ytkfepdejiedjbaa
open Go.RowKit

set_option maxRecDepth 100000 in
set_option maxHeartbeats 1000000 in
theorem less_any (A : Option Addr) (c : Nat) (s : List (Int × Int)) (A2 : Option Addr) (c2 : Nat) (t : List (Int × Int)) (w : World) (h : RngAt w w.heap.size A s) (h2 : RngAt w w.heap.size A2 t) (hl : s.length + t.length ≤ 8000000) (hcs : canonFrom 0 s) (hct : canonFrom 0 t) :
    Calls Try.prog 40 #[.agg #[.slice A s.length c], .agg #[.slice A2 t.length c2]] w (SetPost (fun r => inT s r && !inT t r) (s.length + t.length + 1) w) := by
  obtain ⟨W0, hW0⟩ : ∃ W0, W0 = ((w.alloc (.cells #[.slice A s.length c] 49)).alloc (.cells #[.slice A2 t.length c2] 49)).alloc (.cells #[.slice none 0 0] 49) := ⟨_, rfl⟩
  have hE0 : Ext w W0 := by rw [hW0]; exact (((Ext.rfl' w).alloc (Nat.le_refl _) _).alloc (by simp) _).alloc (by simp; omega) _
  have hB1 : Blk W0 w.heap.size 49 #[.slice A s.length c] := by rw [hW0]; exact ((Blk.new _ _ _).alloc _).alloc _
  have hB2 : Blk W0 (w.heap.size + 1) 49 #[.slice A2 t.length c2] := by rw [hW0]; exact (Blk.new_at _ _ _ (by simp)).alloc _
  have hB3 : Blk W0 (w.heap.size + 1 + 1) 49 #[.slice none 0 0] := by rw [hW0]; exact Blk.new_at _ _ _ (by simp)
  have HCS := hide hcs
  have HE0 := hide hE0
  have HEd := hide (Ext.drew' hE0)
  have HB1 := hide hB1
  have HB2 := hide hB2
  have HB3 := hide hB3
  have l3 := hB3.lt
  have b1 := hB1.cell 0
  have b2 := hB2.cell 0
  simp only [List.getElem?_toArray, List.getElem?_cons_zero] at b1 b2
  have HC1 := hide (fun w' (hE : Ext w w') => others_any A2 c2 t w' (h2.ext hE) (by omega) hct)
  have HC2 := hide (fun w' (hE : Ext w w') A4 c4 out (h4 : RngAt w' w'.heap.size A4 out) (hl4 : out.length ≤ t.length + 1) (hc4 : canonFrom 0 out) => both_any A c s A4 c4 out w' (h.ext hE) h4 (by omega) HCS.out hc4)
  clear hE0 hB1 hB2 hB3 hcs hct
  go_enter Try.func40, Try.ntmps40
  go_wp2_with fail
  rw [← hW0]
  clear hW0
  go_region_with (first
    | (go_at_call 81
       refine (HC1.out _ HEd.out).mono ?_
       rintro e w1 ⟨A4, c4, out, rfl, hO4, hc4, hi4, hl4, hE4⟩
       have HE4 := hide (Ext.trans' HEd.out hE4)
       have HR4 := hide (Reads.of_own hO4)
       have HC4 := hide hc4
       have HI4 := hide hi4
       have k3 := ((HB3.out.drewN 1).ext hE4).lt
       have b1 := ((HB1.out.drewN 1).ext hE4).cell 0
       have HB4 := hide ((HB3.out.drewN 1).ext hE4)
       simp only [List.getElem?_toArray, List.getElem?_cons_zero] at b1
       clear hO4 hc4 hi4 hE4)
    | (go_at_call 39
       refine (HC2.out _ HE4.out _ _ _ HR4.out hl4 HC4.out).mono ?_
       rintro e w2 ⟨A5, c5, out5, rfl, hO5, hc5, hi5, hl5, hE5⟩
       have hB5 := HB4.out.ext hE5
       have f5 := hB5.free 0
       have b5 := hB5.cell 0
       simp only [List.getElem?_toArray, List.getElem?_cons_zero] at b5
       have HB5 := hide hB5
       have HR := hide (fun u => set_end (f := fun r => inT s r && !inT t r) (n := s.length + t.length + 1) (g := w.heap.size + 1 + 1) (by omega) k3 (HE4.out.trans' hE5) hO5 hc5 (fun r => by
         rw [hi5 r]
         show (inT s r && inT out r) = _
         rw [HI4.out r]
         show (inT s r && (decide (0 ≤ r ∧ r ≤ 1114111) && !inT t r)) = (inT s r && !inT t r)
         cases hx : inT s r with
         | false => simp
         | true => have := canonFrom_in HCS.out hx; simp; omega) (by omega) u)
       clear hO5 hc5 hi5 hl5 hE5 hB5))
  all_goals
    go_wp2_with fail
    exact set_ret HB5.out rfl rfl rfl (HR.out _)
theorem step_append_R (w : World) {ops : Array Oper} {o : Oper} {a : Act} {K : Act → World → Prop} {Q : Exit → Act → World → Prop} {E : Prop} (hgd : o.guard = none) (s x : Operand)
    (ho : o.op = .call { callee := .builtin .append, args := #[s, x], argTypes := #[47, 47] })
    (base : Nat) (v : Value) (n : Nat) (l : List (Int × Int)) (hs : a.eval s = v) (B : Nat) (A : Option Addr) (m c : Nat) (news : List (Int × Int)) (hx : a.eval x = .slice A m c)
    (hown : w.ownsRow base 85 2 v n (rngCells l)) (hr : Reads w B 2 A m (rngCells news)) (hn : n + m ≤ 17592186044416) (hbase : base ≤ w.heap.size)
    (h : ∀ A' c' w', w'.ownsRow base 85 2 (.slice A' (n + m) c') (n + m) (rngCells (l ++ news)) → w.grownBy w' v.ownBlock → (Value.ownBlock (.slice A' (n + m) c') = v.ownBlock ∨ Value.ownBlock (.slice A' (n + m) c') = some w.heap.size) → K (a.put o.dst (.slice A' (n + m) c')) w') :
    if Region.wanted o (yielded ops a.tmps) = true then Oper.wp Try.prog o a w K Q else E := by
  obtain ⟨i0, hi, hz, hs2, hb⟩ := info_rng
  refine step_append_any w hgd s x 47 ho base 85 i0 _ 2 8 Try.underlying47 hi hz hs2 hb rfl (by decide) v n (rngCells l) hs hown B A m c (rngCells news) hx hr (rngCells_one _) (by unfold maxLen; omega) (by omega) hbase ?_
  rw [← rngCells_append]
  intro v' w' h2 h3 h4
  have hv : ∃ A' c', v' = .slice A' (n + m) c' := by
    rcases h2.2 with ⟨e, h0⟩ | ⟨g, cap, cur, e, _⟩
    · exact ⟨none, 0, by rw [e, h0]⟩
    · exact ⟨_, _, e⟩
  obtain ⟨A', c', hv⟩ := hv
  rw [hv] at h2 h4 ⊢
  exact h A' c' w' h2 h3 h4

set_option maxRecDepth 100000 in
set_option maxHeartbeats 1000000 in
theorem join_any (A : Option Addr) (c : Nat) (s : List (Int × Int)) (A2 : Option Addr) (c2 : Nat) (t : List (Int × Int)) (w : World) (h : RngAt w w.heap.size A s) (h2 : RngAt w w.heap.size A2 t) (hl : s.length ≤ 8000000) (hl2 : t.length ≤ 8000000) (hcs : canonFrom 0 s) (hct : canonFrom 0 t) :
    Calls Try.prog 36 #[.agg #[.slice A s.length c], .agg #[.slice A2 t.length c2]] w (SetPost (fun r => inT s r || inT t r) (s.length + t.length) w) := by
  obtain ⟨W0, hW0⟩ : ∃ W0, W0 = ((w.alloc (.cells #[.slice A s.length c] 49)).alloc (.cells #[.slice A2 t.length c2] 49)).alloc (.cells #[.slice none 0 0] 49) := ⟨_, rfl⟩
  have hE0 : Ext w W0 := by rw [hW0]; exact (((Ext.rfl' w).alloc (Nat.le_refl _) _).alloc (by simp) _).alloc (by simp; omega) _
  have hB1 : Blk W0 w.heap.size 49 #[.slice A s.length c] := by rw [hW0]; exact ((Blk.new _ _ _).alloc _).alloc _
  have hB2 : Blk W0 (w.heap.size + 1) 49 #[.slice A2 t.length c2] := by rw [hW0]; exact (Blk.new_at _ _ _ (by simp)).alloc _
  have hB3 : Blk W0 (w.heap.size + 1 + 1) 49 #[.slice none 0 0] := by rw [hW0]; exact Blk.new_at _ _ _ (by simp)
  have HEd := hide (Ext.drew' hE0)
  have HB1 := hide hB1
  have HB2 := hide hB2
  have HB3 := hide hB3
  have l3 := hB3.lt
  have b1 := hB1.cell 0
  have b2 := hB2.cell 0
  simp only [List.getElem?_toArray, List.getElem?_cons_zero] at b1 b2
  have HC1 := hide (fun w' (hE : Ext w w') => setRanges_any A c s w' (h.ext hE) (by omega))
  have hnew := fun A' c' w' (hR : Reads w' w'.heap.size 2 A' (s.length + t.length) (rngCells (s ++ t))) => newR_any A' c' (s ++ t) w' (by unfold RngAt; rw [List.length_append]; exact hR) (by rw [List.length_append]; omega)
  rw [List.length_append] at hnew
  have HC2 := hide hnew
  have HF := hide (fun r => (by
    unfold hasT
    rw [inT_append]
    cases hx : inT s r with
    | true => have := canonFrom_in hcs hx; simp; omega
    | false =>
      cases hy : inT t r with
      | true => have := canonFrom_in hct hy; simp; omega
      | false => simp : hasT (s ++ t) r = (inT s r || inT t r)))
  have H2 := hide h2
  clear hE0 hB1 hB2 hB3 hcs hct hnew
  go_enter Try.func36, Try.ntmps36
  go_wp2_with fail
  rw [← hW0]
  clear hW0
  go_region_law (first
    | (refine step_append_R _ rfl _ _ rfl W0.drew.heap.size _ s.length s rfl w1.heap.size A2 t.length c2 t rfl HO1.out HT1.out (by omega) k1 ?_
       intro A4 c4 w3 hown3 hgrow3 _
       have HE3 := hide (grown_ext (w := w) (wr := w1) HE1.out (Ext.rfl' w1) hgrow3 HO1.out HEd.out.size)
       have HB3' := hide (grown_blk HB31.out hgrow3 HO1.out (.inl l3))
       have HR3 := hide (Reads.of_own hown3)
       clear hown3 hgrow3)
    | (go_simp
       go_at_call 37
       refine (HC1.out _ HEd.out).mono ?_
       rintro e w1 ⟨A1, c1, rfl, hO1, hE1⟩
       have HO1 := hide hO1
       have HT1 := hide (H2.out.ext (Ext.trans' HEd.out hE1))
       have k1 := hE1.size
       have b2 := ((HB2.out.drewN 1).ext hE1).cell 0
       have HB31 := hide ((HB3.out.drewN 1).ext hE1)
       have HE1 := hide (Ext.trans' HEd.out hE1)
       simp only [List.getElem?_toArray, List.getElem?_cons_zero] at b2
       clear hO1 hE1)
    | (go_simp
       go_at_call 34
       refine (HC2.out _ _ _ HR3.out).mono ?_
       rintro e w5 ⟨A5, c5, out5, rfl, hO5, hc5, hi5, hl5, hE5⟩
       have k3 := HB3'.out.lt
       have hB5 := HB3'.out.ext hE5
       have f5 := hB5.free 0
       have b5 := hB5.cell 0
       simp only [List.getElem?_toArray, List.getElem?_cons_zero] at b5
       have HB5 := hide hB5
       have HR := hide (fun u => set_end (f := fun r => inT s r || inT t r) (n := s.length + t.length) (g := w.heap.size + 1 + 1) (by omega) k3 (HE3.out.trans' hE5) hO5 hc5 (fun r => (hi5 r).trans (HF.out r)) hl5 u)
       clear hO5 hc5 hi5 hl5 hE5 hB5))
  all_goals
    go_wp2_with fail
    exact set_ret HB5.out rfl rfl rfl (HR.out _)
end Go.Proofs.Ytkfepdejiedjbaa
