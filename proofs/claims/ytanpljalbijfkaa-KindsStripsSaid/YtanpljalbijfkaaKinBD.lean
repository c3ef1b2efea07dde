/- kinds: Depth, walked. -/
import Derived.Test.YtanpljalbijfkaaKinB
namespace Go.Proofs.Ytanpljalbijfkaa
open Go.RowKit

set_option maxRecDepth 100000 in
set_option maxHeartbeats 2000000 in
theorem depth_any (t : Ty) : ∀ (w : World) (vs : List Value), TyAt w w.heap.size t vs → TySz t → Calls Try.prog 12 #[.agg vs.toArray] w (fun e w' => e = .returned (.int .i64 (depI t)) ∧ Ext w w') := by
  induction t with
  | nil => intro w vs hT; exact hT.elim
  | mk h n p t ih =>
    intro w vs hT hS
    obtain ⟨An, cn, Ap, cp, rfl, hN, hP⟩ := hT
    obtain ⟨_, _, hn, hSz⟩ := hS
    obtain ⟨w1, hw1⟩ : ∃ w1, w1 = w.alloc (.cells #[.int .i64 h.kind, .int .i64 h.at_, .int .i64 h.lo, .int .i64 h.hi, .int .i64 h.most, .slice An h.names.length cn, .slice Ap n cp, .string h.name.1, .int .i64 h.name.2] 27) := ⟨_, rfl⟩
    obtain ⟨g, hg⟩ : ∃ g, g = w.heap.size := ⟨_, rfl⟩
    have hB : Blk w1 g 27 #[.int .i64 h.kind, .int .i64 h.at_, .int .i64 h.lo, .int .i64 h.hi, .int .i64 h.most, .slice An h.names.length cn, .slice Ap n cp, .string h.name.1, .int .i64 h.name.2] := by rw [hw1, hg]; exact Blk.new _ _ _
    have b6 := hB.cell 6
    simp only [List.getElem?_toArray, List.getElem?_cons_zero, List.getElem?_cons_succ] at b6
    have HE1 := hide (show Ext w w1 by rw [hw1]; exact (Ext.rfl' w).alloc (Nat.le_refl _) _)
    have HIH := hide ih
    have HP := hide hP
    have HSZ := hide hSz
    obtain ⟨C, hC⟩ : ∃ C, C = depTo (fun i => (p i).bare) (fun i => depI (t i)) := ⟨_, rfl⟩
    have HC := hide (fun k => (show C (k + 1) = if (p k).bare = true then C k else if C k < depI (t k) then depI (t k) else C k by rw [hC]; rfl))
    have HC0 := hide (show C 0 = 0 by rw [hC]; rfl)
    have HR := hide (show depI (.mk h n p t) = IntKind.i64.wrap (C n + 1) by rw [hC]; rfl)
    have HW1 := hide hw1
    have HG := hide hg
    show Calls Try.prog 12 #[.agg #[.int .i64 h.kind, .int .i64 h.at_, .int .i64 h.lo, .int .i64 h.hi, .int .i64 h.most, .slice An h.names.length cn, .slice Ap n cp, .string h.name.1, .int .i64 h.name.2]] w _
    clear hw1 hg hB ih hP hSz hN hC
    go_enter Try.func12, Try.ntmps12
    go_upto_region 1 with fail
    rw [← HW1.out, ← HG.out]
    go_wp2_with fail
    clear b6
    go_loopw [9, 3] (fun i cv wr => ∃ k : Nat, k ≤ n ∧ i = .int .i64 (k : Int) ∧ cv = .int .i64 (C k) ∧ Ext w1 wr) (fun i _ _ => n - (intOf i).toNat)
    case atStart => exact ⟨0, Nat.zero_le _, rfl, by rw [HC0.out], Ext.rfl' _⟩
    case round =>
      obtain ⟨k, hk, rfl, rfl, hE⟩ := hrel
      have HE := hide hE
      by_cases hkn : k < n
      · obtain ⟨b, o, rfl, hb, hc⟩ := HP.out (by omega)
        obtain ⟨Al, cl, Ac, cc, vt, q1, q2, q3, q4⟩ := hc k hkn
        have hEw := HE1.out.trans' hE
        have hcell := fun j (v : Value) hv => (hEw.cell (p := ⟨b, o + k * 18 + j, none⟩) hb).trans (q1 j v hv)
        have hcall := fun w2 (hE2 : Ext wr w2) => HIH.out k w2 vt (q4.ext (hEw.trans' hE2)) (HSZ.out k hkn).2.2.2
        obtain ⟨h', n', An', cn', Ap', cp', rfl⟩ := q4.form
        have hck := HC.out k
        have HRG := hide (show wr.rangeAt b (o + k * 18) (ptV (p k) Al cl Ac cc ++ tyV h' An' cn' Ap' n' cp') from hcell)
        unfold ptV tyV at HRG
        simp only [List.cons_append, List.nil_append] at HRG
        obtain ⟨nm, hnm_⟩ : ∃ x, x = (p k).name.1 := ⟨_, rfl⟩
        rw [← hnm_] at HRG
        obtain ⟨na, hna_⟩ : ∃ x, x = (p k).name.2 := ⟨_, rfl⟩
        rw [← hna_] at HRG
        obtain ⟨br, hbr_⟩ : ∃ x, x = (p k).bare := ⟨_, rfl⟩
        rw [← hbr_] at HRG hck
        obtain ⟨ll, hll_⟩ : ∃ x, x = (p k).label.length := ⟨_, rfl⟩
        rw [← hll_] at HRG
        obtain ⟨wi, hwi_⟩ : ∃ x, x = (p k).wide := ⟨_, rfl⟩
        rw [← hwi_] at HRG
        obtain ⟨ck, hck_⟩ : ∃ x, x = (p k).ck := ⟨_, rfl⟩
        rw [← hck_] at HRG
        obtain ⟨cn2, hcn2_⟩ : ∃ x, x = (p k).cn := ⟨_, rfl⟩
        rw [← hcn2_] at HRG
        obtain ⟨ca, hca_⟩ : ∃ x, x = (p k).cat := ⟨_, rfl⟩
        rw [← hca_] at HRG
        obtain ⟨lc, hlc_⟩ : ∃ x, x = (p k).cl.length := ⟨_, rfl⟩
        rw [← hlc_] at HRG
        obtain ⟨x, hx⟩ : ∃ x, x = depI (t k) := ⟨_, rfl⟩
        rw [← hx] at hck hcall
        have HCALL := hide (show ∀ w2, Ext wr w2 → Calls Try.prog 12 #[.agg #[.int .i64 h'.kind, .int .i64 h'.at_, .int .i64 h'.lo, .int .i64 h'.hi, .int .i64 h'.most, .slice An' h'.names.length cn', .slice Ap' n' cp', .string h'.name.1, .int .i64 h'.name.2]] w2 (fun e w' => e = .returned (.int .i64 x) ∧ Ext w2 w') from hcall)
        obtain ⟨w5, hw5⟩ : ∃ w5, w5 = wr.alloc (.cells #[.string nm, .int .i64 na, .bool br, .slice Al ll cl, .int .i64 wi, .int .i64 ck, .int .i64 cn2, .int .i64 ca, .slice Ac lc cc, .int .i64 h'.kind, .int .i64 h'.at_, .int .i64 h'.lo, .int .i64 h'.hi, .int .i64 h'.most, .slice An' h'.names.length cn', .slice Ap' n' cp', .string h'.name.1, .int .i64 h'.name.2] 52) := ⟨_, rfl⟩
        obtain ⟨g5, hg5⟩ : ∃ g, g = wr.heap.size := ⟨_, rfl⟩
        have hV : Blk w5 g5 52 #[.string nm, .int .i64 na, .bool br, .slice Al ll cl, .int .i64 wi, .int .i64 ck, .int .i64 cn2, .int .i64 ca, .slice Ac lc cc, .int .i64 h'.kind, .int .i64 h'.at_, .int .i64 h'.lo, .int .i64 h'.hi, .int .i64 h'.most, .slice An' h'.names.length cn', .slice Ap' n' cp', .string h'.name.1, .int .i64 h'.name.2] := by rw [hw5, hg5]; exact Blk.new _ _ _
        have hE5 : Ext wr w5 := by rw [hw5]; exact (Ext.rfl' wr).alloc (Nat.le_refl _) _
        have HE5 := hide (hE.trans' hE5)
        have HCALL5 := hide (HCALL.out w5 hE5)
        have v2 := hV.cell 2
        have v9 := hV.cell 9
        have v10 := hV.cell 10
        have v11 := hV.cell 11
        have v12 := hV.cell 12
        have v13 := hV.cell 13
        have v14 := hV.cell 14
        have v15 := hV.cell 15
        have v16 := hV.cell 16
        have v17 := hV.cell 17
        simp only [List.getElem?_toArray, List.getElem?_cons_zero, List.getElem?_cons_succ] at v2 v9 v10 v11 v12 v13 v14 v15 v16 v17
        have HW5 := hide hw5
        have HG5 := hide hg5
        have i0 : (0 : Int) ≤ (k : Int) := by omega
        have i1 : (k : Int) < (n : Int) := by omega
        clear hcell hcall HCALL hc q1 q2 q3 q4 hE hEw hx hw5 hg5 hV hE5 hnm_ hna_ hbr_ hll_ hwi_ hck_ hcn2_ hca_ hlc_
        go_upto_region 4 with fail
        refine wp_region_lit ?_
        refine wpList_plain rfl ?_
        intro K1 hK1
        go_simp
        refine hK1 _ _ ?_
        refine wpList_load_mid rfl 52 _ rfl b (o + k * 18) rfl _ _ HRG.out Try.underlying52 rfl infoPart ?_
        refine wpList_plain rfl ?_
        intro K2 hK2
        go_simp
        refine hK2 _ _ ?_
        refine wpList_store_new rfl 52 _ _ rfl _ #[.string nm, .int .i64 na, .bool br, .slice Al ll cl, .int .i64 wi, .int .i64 ck, .int .i64 cn2, .int .i64 ca, .slice Ac lc cc, .int .i64 h'.kind, .int .i64 h'.at_, .int .i64 h'.lo, .int .i64 h'.hi, .int .i64 h'.most, .slice An' h'.names.length cn', .slice Ap' n' cp', .string h'.name.1, .int .i64 h'.name.2] rfl rfl infoPart rfl (by simp [Value.oneCell']) ?_
        go_upto_region 5 with fail
        rw [← HW5.out, ← HG5.out]
        cases br with
        | true =>
          rw [if_pos rfl] at hck
          have HCK := hide hck
          clear hck
          go_wp2_with fail
          go_roundw
          case rel => exact ⟨k + 1, by omega, by go_num, by rw [HCK.out], HE5.out⟩
          case measure => simp [intOf]; omega
        | false =>
          rw [if_neg (by decide)] at hck
          by_cases hlt : C k < x
          · rw [if_pos hlt] at hck
            have HCK := hide hck
            clear hck
            go_wp2_with fail
            refine HCALL5.out.mono ?_
            rintro e w6 ⟨rfl, hE6⟩
            have HE6 := hide (HE5.out.trans' hE6)
            clear hE6 v2 v9 v10 v11 v12 v13 v14 v15 v16 v17
            go_wp2_with fail
            go_roundw
            case rel => exact ⟨k + 1, by omega, by go_num, by rw [HCK.out], HE6.out⟩
            case measure => simp [intOf]; omega
          · rw [if_neg hlt] at hck
            have HCK := hide hck
            clear hck
            go_wp2_with fail
            refine HCALL5.out.mono ?_
            rintro e w6 ⟨rfl, hE6⟩
            have HE6 := hide (HE5.out.trans' hE6)
            clear hE6 v2 v9 v10 v11 v12 v13 v14 v15 v16 v17
            go_wp2_with fail
            go_roundw
            case rel => exact ⟨k + 1, by omega, by go_num, by rw [HCK.out], HE6.out⟩
            case measure => simp [intOf]; omega
      · obtain rfl : k = n := by omega
        clear hE
        go_wp2_with fail
        go_ret
        exact ⟨ret_int (by rw [HR.out, wrap_64]), HE1.out.trans' HE.out⟩
end Go.Proofs.Ytanpljalbijfkaa
