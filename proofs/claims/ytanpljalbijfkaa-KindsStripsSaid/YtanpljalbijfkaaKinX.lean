/- kinds: samePart without a premise, empty, own; the document's names, walked. -/
import Derived.Test.YtanpljalbijfkaaKinW
namespace Go.Proofs.Ytanpljalbijfkaa
open Go.RowKit

theorem samePart_all (p q : PtH) (t u : Ty) (w : World) (vs us : List Value) (h : PartAt w w.heap.size p t vs) (h' : PartAt w w.heap.size q u us) (hs : WdsSz p.label) (hs2 : WdsSz p.cl) (hst : TySz t) (hsq : WdsSz q.label) (hsq2 : WdsSz q.cl) (hsu : TySz u) :
    Calls Try.prog 26 #[.agg vs.toArray, .agg us.toArray] w (fun e w' => e = .returned (.bool (ptEq p q && sameT t u)) ∧ Ext w w') :=
  samePart_any p q t u w vs us h h' hs hs2 hsq hsq2 (fun w1 vt ut _ h1 h2 => same_any t u w1 vt ut h1 h2 hst hsu)

theorem kOwn_any (h : TyH) (n : Nat) (p : Nat → PtH) (t : Nat → Ty) (w : World) (vs : List Value) (hT : TyAt w w.heap.size (.mk h n p t) vs) :
    Calls Try.prog 31 #[.agg vs.toArray] w (fun e w' => e = .returned (.bool (ownB h n)) ∧ Ext w w') := by
  obtain ⟨An, cn, Ap, cp, e, _, _⟩ := hT
  subst e
  unfold ownB tyV
  by_cases k2 : h.kind = 2
  · rw [k2]; exact own_2 _ _ _ _ _ An _ cn Ap n cp _ w
  by_cases k3 : h.kind = 3
  · rw [k3]; exact own_3 _ _ _ _ _ An _ cn Ap n cp _ w
  by_cases k5 : h.kind = 5
  · rw [k5]; exact own_5 _ _ _ _ _ An _ cn Ap n cp _ w
  exact own_o _ _ _ _ _ _ An _ cn Ap n cp _ (by simpa using k2) (by simpa using k3) (by simpa using k5) w

theorem there_blk {w : World} {g : Nat} {t : TypeId} {cs : Array Value} (h : Blk w g t cs) {o m : Nat} (ho : o + m ≤ cs.size) : w.there g o m := fun j hj => by
  refine ⟨?_, h.free _⟩
  rw [h.cell, Array.getElem?_eq_getElem (by omega)]; rfl

theorem ext_setCells {w : World} {g : Nat} (hg : w.heap.size ≤ g) (vs : List Value) : ∀ (o : Nat) {w' : World}, Ext w w' → Ext w (w'.setCells g o vs) := by
  induction vs with
  | nil => intro o w' h; exact h
  | cons v r ih => intro o w' h; exact ih (o + 1) (h.setCell hg v)
theorem range_join {w : World} {b o : Nat} {l m : List Value} (h : w.rangeAt b o l) (h' : w.rangeAt b (o + l.length) m) : w.rangeAt b o (l ++ m) := by
  intro j v hv
  rcases Nat.lt_or_ge j l.length with hj | hj
  · rw [List.getElem?_append_left hj] at hv
    exact h j v hv
  · rw [List.getElem?_append_right hj] at hv
    have := h' (j - l.length) v hv
    rw [show o + l.length + (j - l.length) = o + j by omega] at this
    exact this
theorem range_left {w : World} {b o : Nat} {l m : List Value} (h : w.rangeAt b o (l ++ m)) : w.rangeAt b o l := fun j v hv => by
  refine h j v ?_
  rw [List.getElem?_append_left (List.getElem?_eq_some_iff.1 hv).1]; exact hv
set_option maxRecDepth 100000 in
set_option maxHeartbeats 1000000 in
theorem empty_any (q : PtH) (t : Ty) (w : World) (vs : List Value) (h : PartAt w w.heap.size q t vs) (hs : WdsSz q.label) (hs2 : WdsSz q.cl) :
    Calls Try.prog 43 #[.agg vs.toArray] w (fun e w' => e = .returned (.bool (ptEq q (zPt wd0 false))) ∧ Ext w w') := by
  obtain ⟨Al, cl, Ac, cc, vt, rfl, hl, hc, ht⟩ := h
  obtain ⟨x0, x1, x2, x3, x4, x5, x6, x7, x8, rfl⟩ := ht.nine
  obtain ⟨us, hus⟩ : ∃ us, us = ptV q Al cl Ac cc ++ zCells := ⟨_, rfl⟩
  obtain ⟨w0, hw0⟩ : ∃ x, x = w.alloc (.cells (ptV q Al cl Ac cc ++ [x0, x1, x2, x3, x4, x5, x6, x7, x8]).toArray 52) := ⟨_, rfl⟩
  have hB : Blk w0 w.heap.size 52 (ptV q Al cl Ac cc ++ [x0, x1, x2, x3, x4, x5, x6, x7, x8]).toArray := by rw [hw0]; exact Blk.new _ _ _
  have hE : Ext w w0 := by rw [hw0]; exact (Ext.rfl' w).alloc (Nat.le_refl _) _
  obtain ⟨w1, hw1⟩ : ∃ x, x = w0.setCells w.heap.size 9 zCells := ⟨_, rfl⟩
  have hE1 : Ext w w1 := by rw [hw1]; exact ext_setCells (Nat.le_refl _) _ _ hE
  have hpa : PartAt w1 w1.heap.size q zTy us := ⟨Al, cl, Ac, cc, zCells, hus, hl.ext hE1, hc.ext hE1, zTy_at _ _⟩
  have hcall := samePart_all q (zPt wd0 false) zTy zTy w1 us (ptV (zPt wd0 false) none 0 none 0 ++ zCells) hpa (zPt_at _ _ _ _) hs hs2 zTy_sz nil_sz nil_sz zTy_sz
  rw [empty_eq] at hcall
  have hul : us.length = 18 := hpa.len
  have hth := there_blk hB (o := 9) (m := 9) (Nat.le_refl 18)
  have hrg : w1.rangeAt w.heap.size 0 us := by
    rw [hw1, hus]
    refine range_join (World.rangeAt_setCells_apart (range_left (blk_range hB)) _ _ _ (.inr (.inl (Nat.le_refl 9)))) ?_
    exact World.rangeAt_setCells_same _ _ _ _ hth
  obtain ⟨R, hR⟩ : ∃ x, x = ptEq q (zPt wd0 false) := ⟨_, rfl⟩
  rw [← hR] at hcall ⊢
  obtain ⟨g, hg⟩ : ∃ g, g = w.heap.size := ⟨_, rfl⟩
  rw [← hg] at hrg hth hw1
  have HC := hide (show Calls Try.prog 26 #[.agg us.toArray, .agg #[.string ⟨#[]⟩, .int .i64 0, .bool false, .slice none 0 0, .int .i64 0, .int .i64 0, .int .i64 0, .int .i64 0, .slice none 0 0, .int .i64 0, .int .i64 0, .int .i64 0, .int .i64 0, .int .i64 0, .slice none 0 0, .slice none 0 0, .string ⟨#[]⟩, .int .i64 0]] w1 (fun e w' => e = .returned (.bool R) ∧ Ext w1 w') from hcall)
  have HRG := hide hrg
  have HTH := hide hth
  have HUL := hide hul
  have HE1 := hide hE1
  have HW := hide hw0
  have HW1 := hide hw1
  have HG := hide hg
  unfold ptV at HW ⊢
  simp only [List.cons_append, List.nil_append] at HW ⊢
  clear hcall hrg hth hul hE1 hw0 hw1 hg hR hpa hB hE hus hl hc ht hs hs2
  go_enter Try.func43, Try.ntmps43
  go_upto_region 1 with fail
  rw [← HW.out, ← HG.out]
  refine wp_region_lit ?_
  refine wpList_plain rfl ?_
  intro K1 hK1
  go_simp
  refine hK1 _ _ ?_
  refine wpList_plain rfl ?_
  intro K2 hK2
  go_simp
  refine hK2 _ _ ?_
  refine wpList_store_mid rfl 27 _ _ rfl g 9 zCells.toArray rfl rfl HTH.out (by kernel_rfl) (by kernel_rfl) ?_
  rw [← HW1.out]
  go_upto_region 2 with fail
  refine wp_region_lit ?_
  refine wpList_load_mid rfl 52 _ rfl g 0 rfl us _ HRG.out Try.underlying52 rfl (infoPart' HUL.out) ?_
  go_wp2_with fail
  refine HC.out.mono ?_
  rintro e w2 ⟨rfl, hE2⟩
  have HE2 := hide (HE1.out.trans' hE2)
  clear hE2
  go_wp2_with fail
  go_ret
  exact ⟨rfl, HE2.out⟩

def pWds (n : Nat) (p : Nat → PtH) : List Wd := (List.range n).map fun i => (p i).name
theorem pWds_length (n : Nat) (p : Nat → PtH) : (pWds n p).length = n := by simp [pWds]
theorem pWds_more (n : Nat) (p : Nat → PtH) : pWds (n + 1) p = pWds n p ++ [(p n).name] := by simp [pWds, List.range_succ]
theorem pWds_nms (n : Nat) (p : Nat → PtH) : nms (pWds n p) = pNames n p := by
  unfold nms pWds pNames
  rw [List.map_map]
  rfl
theorem pWds_at {n i : Nat} {p : Nat → PtH} (h : i < n) : (pWds n p).getD i wd0 = (p i).name := by
  unfold pWds
  rw [List.getD_eq_getElem?_getD, List.getElem?_map, List.getElem?_range h]; rfl
theorem part_cell {w : World} {B : Nat} {A : Option Addr} {n : Nat} {p : Nat → PtH} {t : Nat → Ty} (h : PartsAt w B A n p t) {b o : Nat} (e : A = some ⟨b, o, none⟩) {i : Nat} (hi : i < n) :
    w.cell? ⟨b, o + i * 18, none⟩ = some (.string (p i).name.1) ∧ w.cell? ⟨b, o + i * 18 + 1, none⟩ = some (.int .i64 (p i).name.2) := by
  obtain ⟨b', o', e', hb, hc⟩ := h (by omega)
  rw [e] at e'
  cases e'
  obtain ⟨vs, h1, Al, cl, Ac, cc, vt, rfl, _, _, _⟩ := hc i hi
  exact ⟨h1 0 _ rfl, h1 1 _ rfl⟩
def NamesPost (n : Nat) (p : Nat → PtH) (w : World) (e : Ending) (w' : World) : Prop := ∃ A c, e = .returned (.slice A n c) ∧ WdsAt w' w'.heap.size A (pWds n p) ∧ Ext w w'

set_option maxRecDepth 100000 in
set_option maxHeartbeats 2000000 in
theorem refNames_any (A : Option Addr) (c n : Nat) (p : Nat → PtH) (t : Nat → Ty) (w : World) (h : PartsAt w w.heap.size A n p t) (hn' : n ≤ 5864062014634) :
    Calls Try.prog 37 #[.slice A n c] w (NamesPost n p w) := by
  have HP := hide h
  clear h
  go_enter Try.func37, Try.ntmps37
  go_wp2_with fail
  go_loopw [4, 3] (fun i o wr => ∃ (k : Nat) (Ao : Option Addr) (co : Nat), k ≤ n ∧ i = .int .i64 (k : Int) ∧ o = .slice Ao k co ∧ wr.ownsRow w.heap.size 25 2 (.slice Ao k co) k (wdCells (pWds k p)) ∧ Ext w wr) (fun i _ _ => n - (intOf i).toNat)
  case atStart => exact ⟨0, none, 0, Nat.zero_le _, rfl, rfl, World.ownsRow_nil _ _ _ _, Ext.rfl' w⟩
  case round =>
    obtain ⟨k, Ao, co, hk, rfl, rfl, hO, hE⟩ := hrel
    have HO := hide hO
    have HE := hide hE
    by_cases hlt : k < n
    · obtain ⟨b, o, hA, hbs, _⟩ := HP.out (by omega)
      obtain ⟨p0, p1⟩ := part_cell HP.out hA hlt
      subst hA
      have q0 := (hE.cell (p := ⟨b, o + k * 18, none⟩) hbs).trans p0
      have q1 := (hE.cell (p := ⟨b, o + k * 18 + 1, none⟩) hbs).trans p1
      have hst := pWds_more k p
      rw [show (p k).name = ((p k).name.1, (p k).name.2) from rfl] at hst
      obtain ⟨s, hs⟩ : ∃ r, r = (p k).name.1 := ⟨_, rfl⟩
      obtain ⟨y, hy⟩ : ∃ r, r = (p k).name.2 := ⟨_, rfl⟩
      rw [← hs] at q0 hst
      rw [← hy] at q1 hst
      have HST := hide hst
      have i0 : (0 : Int) ≤ (k : Int) := by omega
      have i1 : (k : Int) < (n : Int) := by omega
      clear p0 p1 hs hy hst hO hE
      go_wp2_with (at_builtin; refine wpList_append_Wd _ rfl _ _ rfl w.heap.size _ k (pWds k p) rfl (wr.heap.size + 1) (some ⟨wr.heap.size, 0, none⟩) 1 (s, y) rfl (HO.out.alloc _) (reads_wd _ _ _ _ _ rfl) (by omega) (by have := HE.out.size; simp only [World.size_alloc]; omega) ?_)
      intro A3 c3 w3 hown3 hgrow3 _
      have HE3 := hide (grown_ext' (w := w) (wr := wr) (base := w.heap.size) HE.out ((Ext.rfl' wr).alloc (Nat.le_refl _) _) hgrow3 HO.out (Nat.le_refl _))
      rw [← HST.out] at hown3
      have HO3 := hide hown3
      clear hown3 hgrow3 q0 q1
      go_wp2_with fail
      go_roundw
      case rel => exact ⟨k + 1, A3, c3, by omega, by go_num, rfl, HO3.out, HE3.out⟩
      case measure => simp [intOf]; omega
    · obtain rfl : k = n := by omega
      clear hO hE
      go_wp2_with fail
      go_ret
      refine ⟨Ao, co, rfl, ?_, HE.out⟩
      unfold WdsAt
      rw [pWds_length]
      exact Reads.of_own HO.out
end Go.Proofs.Ytanpljalbijfkaa
