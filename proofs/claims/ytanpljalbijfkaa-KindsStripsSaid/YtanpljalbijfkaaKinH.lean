/- slices.EqualFunc of parts; kinds.Same, walked. -/
import Derived.Test.YtanpljalbijfkaaKinG
namespace Go.Proofs.Ytanpljalbijfkaa
open Go.RowKit

def PartsAt (w : World) (B : Nat) (A : Option Addr) (n : Nat) (p : Nat → PtH) (t : Nat → Ty) : Prop := 0 < n → ∃ b o, A = some ⟨b, o, none⟩ ∧ b < B ∧ ∀ i, i < n → ∃ vs, w.rangeAt b (o + i * 18) vs ∧ PartAt w B (p i) (t i) vs
theorem PartsAt.ext {w w' : World} {A : Option Addr} {n : Nat} {p : Nat → PtH} {t : Nat → Ty} (h : PartsAt w w.heap.size A n p t) (hE : Ext w w') : PartsAt w' w'.heap.size A n p t := by
  intro hn
  obtain ⟨b, o, e, hb, hc⟩ := h hn
  refine ⟨b, o, e, Nat.lt_of_lt_of_le hb hE.size, fun i hi => ?_⟩
  obtain ⟨vs, h1, h2⟩ := hc i hi
  exact ⟨vs, fun j v hv => (hE.cell (p := ⟨b, o + i * 18 + j, none⟩) hb).trans (h1 j v hv), h2.ext hE⟩
theorem TyAt.open_ {h : TyH} {n : Nat} {p : Nat → PtH} {t : Nat → Ty} {w : World} {B : Nat} {vs : List Value} (hT : TyAt w B (.mk h n p t) vs) : ∃ An cn Ap cp, vs = tyV h An cn Ap n cp ∧ WdsAt w B An h.names ∧ PartsAt w B Ap n p t := by
  obtain ⟨An, cn, Ap, cp, e, h1, h2⟩ := hT
  refine ⟨An, cn, Ap, cp, e, h1, fun hn => ?_⟩
  obtain ⟨b, o, e', hb, hc⟩ := h2 hn
  refine ⟨b, o, e', hb, fun i hi => ?_⟩
  obtain ⟨Al, cl, Ac, cc, vt, q1, q2, q3, q4⟩ := hc i hi
  exact ⟨_, q1, Al, cl, Ac, cc, vt, rfl, q2, q3, q4⟩
theorem PartAt.len {w : World} {B : Nat} {q : PtH} {t : Ty} {vs : List Value} (h : PartAt w B q t vs) : vs.length = 18 := by
  obtain ⟨Al, cl, Ac, cc, vt, rfl, _, _, h3⟩ := h
  obtain ⟨a0, a1, a2, a3, a4, a5, a6, a7, a8, rfl⟩ := h3.nine
  rfl
theorem PartAt.one {w : World} {B : Nat} {q : PtH} {t : Ty} {vs : List Value} (h : PartAt w B q t vs) : vs.toArray.all (·.oneCell') = true := by
  obtain ⟨Al, cl, Ac, cc, vt, rfl, _, _, h3⟩ := h
  obtain ⟨h', n', An, cn, Ap, cp, rfl⟩ := h3.form
  simp [ptV, tyV, Value.oneCell']
theorem infoPart' {vs : List Value} (h : vs.length = 18) : (Try.prog.info? 52).map (·.size) = some vs.length := by
  rw [h]; kernel_rfl
theorem infoPartA {vs : List Value} (h : vs.length = 18) : (Try.prog.info? 52).map (·.size) = some vs.toArray.size := by
  rw [List.size_toArray, h]; kernel_rfl
theorem blk_range {w : World} {g : Nat} {t : TypeId} {vs : List Value} (h : Blk w g t vs.toArray) : w.rangeAt g 0 vs := by
  intro j v hv
  rw [Nat.zero_add, h.cell j]
  simpa using hv
/-- All of them, as far as it goes. -/
def allE (E : Nat → Bool) (n : Nat) : Bool := (List.range n).all E
theorem allE_yes {E : Nat → Bool} {n : Nat} (h : ∀ j, j < n → E j = true) : allE E n = true := by
  unfold allE
  rw [List.all_eq_true]
  exact fun j hj => h j (List.mem_range.1 hj)
theorem allE_no {E : Nat → Bool} {n k : Nat} (hk : k < n) (h : E k = false) : allE E n = false := by
  unfold allE
  rw [← Bool.not_eq_true, List.all_eq_true]
  intro hh
  rw [hh k (List.mem_range.2 hk)] at h
  cases h

set_option maxRecDepth 100000 in
set_option maxHeartbeats 4000000 in
theorem equalFunc_any (n n2 : Nat) (p q : Nat → PtH) (t u : Nat → Ty) (E : Nat → Bool) (A : Option Addr) (c : Nat) (A2 : Option Addr) (c2 : Nat) (w : World) (h : PartsAt w w.heap.size A n p t) (h2 : PartsAt w w.heap.size A2 n2 q u) (hn : n ≤ 5864062014634)
    (hcall : ∀ i, i < n → i < n2 → ∀ (w1 : World) (vs us : List Value), Ext w w1 → PartAt w1 w1.heap.size (p i) (t i) vs → PartAt w1 w1.heap.size (q i) (u i) us → Calls Try.prog 26 #[.agg vs.toArray, .agg us.toArray] w1 (fun e w' => e = .returned (.bool (E i)) ∧ Ext w1 w')) :
    Calls Try.prog 25 #[.slice A n c, .slice A2 n2 c2, .func (.func 26) #[] #[]] w (fun e w' => e = .returned (.bool (decide (n = n2) && allE E n)) ∧ Ext w w') := by
  by_cases hln : n = n2
  · subst hln
    rw [decide_eq_true rfl, Bool.true_and]
    have HYES := hide (fun hh => (allE_yes (E := E) (n := n) hh).symm)
    have HNO := hide (fun k (hk : k < n) hh => (allE_no (E := E) hk hh).symm)
    obtain ⟨R, hR⟩ : ∃ R, R = allE E n := ⟨_, rfl⟩
    rw [← hR] at HYES HNO ⊢
    have HP := hide h
    have HQ := hide h2
    have HC := hide hcall
    clear h h2 hcall hR
    go_enter Try.func25, Try.ntmps25
    go_wp2_with fail
    go_loopw [17] (fun i wr => ∃ k : Nat, k ≤ n ∧ i = .int .i64 (k : Int) ∧ Ext w wr ∧ Hid (∀ j, j < k → E j = true)) (fun i _ => n - (intOf i).toNat)
    case atStart => exact ⟨0, Nat.zero_le _, rfl, Ext.rfl' _, fun j hj => absurd hj (by omega)⟩
    case round =>
      obtain ⟨k, hk, rfl, hE, HA⟩ := hrel
      have HE := hide hE
      by_cases hkn : k < n
      · obtain ⟨b, o, rfl, hb, hc⟩ := HP.out.ext hE (by omega)
        obtain ⟨b', o', rfl, hb', hc'⟩ := HQ.out.ext hE (by omega)
        obtain ⟨vs, r1, q1⟩ := hc k hkn
        obtain ⟨us, r2, q2⟩ := hc' k hkn
        have l1 := q1.len
        have l2 := q2.len
        have o1 := q1.one
        have o2 := q2.one
        obtain ⟨w5, hw5⟩ : ∃ w5, w5 = wr.alloc (.cells vs.toArray 52) := ⟨_, rfl⟩
        obtain ⟨g5, hg5⟩ : ∃ g, g = wr.heap.size := ⟨_, rfl⟩
        have hE5 : Ext wr w5 := by rw [hw5]; exact (Ext.rfl' wr).alloc (Nat.le_refl _) _
        have hV5 : Blk w5 g5 52 vs.toArray := by rw [hw5, hg5]; exact Blk.new _ _ _
        obtain ⟨w6, hw6⟩ : ∃ w6, w6 = w5.alloc (.cells us.toArray 52) := ⟨_, rfl⟩
        obtain ⟨g6, hg6⟩ : ∃ g, g = w5.heap.size := ⟨_, rfl⟩
        have hE6 : Ext w5 w6 := by rw [hw6]; exact (Ext.rfl' w5).alloc (Nat.le_refl _) _
        have hV6 : Blk w6 g6 52 us.toArray := by rw [hw6, hg6]; exact Blk.new _ _ _
        have HR1 := hide r1
        have HR2 := hide (show w5.rangeAt b' (o' + k * 18) us from fun j v hv => (hE5.cell (p := ⟨b', o' + k * 18 + j, none⟩) hb').trans (r2 j v hv))
        have HR5 := hide (blk_range (hV5.ext hE6))
        have HR6 := hide (blk_range hV6)
        have HE6 := hide (hE.trans' (hE5.trans' hE6))
        have HCALL := hide (HC.out k hkn hkn w6 vs us (hE.trans' (hE5.trans' hE6)) (q1.ext (hE5.trans' hE6)) (q2.ext (hE5.trans' hE6)))
        obtain ⟨ek, hek⟩ : ∃ x, x = E k := ⟨_, rfl⟩
        rw [← hek] at HCALL
        have HEK := hide hek
        have HL1 := hide l1
        have HL2 := hide l2
        have HO1 := hide o1
        have HO2 := hide o2
        have HW5 := hide hw5
        have HG5 := hide hg5
        have HW6 := hide hw6
        have HG6 := hide hg6
        have i0 : (0 : Int) ≤ (k : Int) := by omega
        have i1 : (k : Int) < (n : Int) := by omega
        clear hc hc' r1 r2 q1 q2 l1 l2 o1 o2 hE hE5 hE6 hV5 hV6 hw5 hg5 hw6 hg6 hek
        go_upto_region 5 with fail
        refine wp_region_lit ?_
        refine wpList_plain rfl ?_
        intro K1 hK1
        go_simp
        refine hK1 _ _ ?_
        refine wpList_plain rfl ?_
        intro K2 hK2
        go_simp
        refine hK2 _ _ ?_
        refine wpList_load_mid rfl 52 _ rfl b (o + k * 18) rfl vs _ HR1.out Try.underlying52 rfl (infoPart' HL1.out) ?_
        refine wpList_plain rfl ?_
        intro K3 hK3
        go_simp
        refine hK3 _ _ ?_
        refine wpList_plain rfl ?_
        intro K4 hK4
        go_simp
        refine hK4 _ _ ?_
        refine wpList_store_new rfl 52 _ _ rfl _ vs.toArray rfl rfl (infoPartA HL1.out) (by show _ = vs.length; rw [HL1.out]; rfl) HO1.out ?_
        rw [← HW5.out, ← HG5.out]
        go_upto_region 6 with fail
        refine wp_region_lit ?_
        refine wpList_plain rfl ?_
        intro K5 hK5
        go_simp
        refine hK5 _ _ ?_
        refine wpList_plain rfl ?_
        intro K6 hK6
        go_simp
        refine hK6 _ _ ?_
        refine wpList_plain rfl ?_
        intro K7 hK7
        go_simp
        refine hK7 _ _ ?_
        refine wpList_load_mid rfl 52 _ rfl b' (o' + k * 18) rfl us _ HR2.out Try.underlying52 rfl (infoPart' HL2.out) ?_
        refine wpList_plain rfl ?_
        intro K8 hK8
        go_simp
        refine hK8 _ _ ?_
        refine wpList_store_new rfl 52 _ _ rfl _ us.toArray rfl rfl (infoPartA HL2.out) (by show _ = us.length; rw [HL2.out]; rfl) HO2.out ?_
        rw [← HW6.out, ← HG6.out]
        go_upto_region 7 with fail
        refine wp_region_lit ?_
        refine wpList_plain rfl ?_
        intro K9 hK9
        go_simp
        refine hK9 _ _ ?_
        refine wpList_load_mid rfl 52 _ rfl g5 0 rfl vs _ HR5.out Try.underlying52 rfl (infoPart' HL1.out) ?_
        refine wpList_load_mid rfl 52 _ rfl g6 0 rfl us _ HR6.out Try.underlying52 rfl (infoPart' HL2.out) ?_
        cases ek with
        | false =>
          have HX := hide (HNO.out k hkn HEK.out.symm)
          go_wp2_with fail
          refine HCALL.out.mono ?_
          rintro e w7 ⟨rfl, hE7⟩
          have HE7 := hide (HE6.out.trans' hE7)
          clear hE7
          go_wp2_with fail
          go_ret
          exact ⟨ret_bool HX.out, HE7.out⟩
        | true =>
          have HA2 := hide (below_st HA.out (show E k = true from HEK.out.symm))
          clear HA
          go_wp2_with fail
          refine HCALL.out.mono ?_
          rintro e w7 ⟨rfl, hE7⟩
          have HE7 := hide (HE6.out.trans' hE7)
          clear hE7
          go_wp2_with fail
          go_roundw
          case rel => exact ⟨k + 1, by omega, by go_num, HE7.out, HA2⟩
          case measure => simp [intOf]; omega
      · obtain rfl : k = n := by omega
        have HX := hide (HYES.out HA.out)
        clear HA hE
        go_wp2_with fail
        go_ret
        exact ⟨ret_bool HX.out, HE.out⟩
  · rw [decide_eq_false hln, Bool.false_and]
    have hne : ((n : Int) != (n2 : Int)) = true := by simp; omega
    clear h h2 hcall
    go_enter Try.func25, Try.ntmps25
    go_wp2_with fail
    go_ret
    exact ⟨rfl, Ext.rfl' _⟩
end Go.Proofs.Ytanpljalbijfkaa
