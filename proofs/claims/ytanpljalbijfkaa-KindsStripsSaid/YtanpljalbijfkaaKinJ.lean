/- kinds: the document's Same, walked. (Printed by wip/gen_kinj.py.) -/
import Derived.Test.YtanpljalbijfkaaKinK
namespace Go.Proofs.Ytanpljalbijfkaa
open Go.RowKit

def TwoBlk (wr : World) (vs us : List Value) (v1 v2 : Value) (wx : World) : Prop := ∃ g1 g2, v1 = .pointer (some ⟨g1, 0, none⟩) ∧ v2 = .pointer (some ⟨g2, 0, none⟩) ∧ Blk wx g1 52 vs.toArray ∧ Blk wx g2 52 us.toArray ∧ Ext wr wx
theorem nine_cells {w : World} {g : Nat} {t : TypeId} {l : List Value} {a0 a1 a2 a3 a4 a5 a6 a7 a8 : Value} (h : Blk w g t (l ++ [a0, a1, a2, a3, a4, a5, a6, a7, a8]).toArray) (hl : l.length = 9) : w.cell? ⟨g, 9, none⟩ = some a0 ∧ w.cell? ⟨g, 10, none⟩ = some a1 ∧ w.cell? ⟨g, 11, none⟩ = some a2 ∧ w.cell? ⟨g, 12, none⟩ = some a3 ∧ w.cell? ⟨g, 13, none⟩ = some a4 ∧ w.cell? ⟨g, 14, none⟩ = some a5 ∧ w.cell? ⟨g, 15, none⟩ = some a6 ∧ w.cell? ⟨g, 16, none⟩ = some a7 ∧ w.cell? ⟨g, 17, none⟩ = some a8 := by
  have key : ∀ j v, [a0, a1, a2, a3, a4, a5, a6, a7, a8][j]? = some v → w.cell? ⟨g, 9 + j, none⟩ = some v := fun j v hv => by
    rw [h.cell (9 + j), List.getElem?_toArray, List.getElem?_append_right (by omega), hl, Nat.add_sub_cancel_left]
    exact hv
  exact ⟨key 0 _ rfl, key 1 _ rfl, key 2 _ rfl, key 3 _ rfl, key 4 _ rfl, key 5 _ rfl, key 6 _ rfl, key 7 _ rfl, key 8 _ rfl⟩

set_option maxRecDepth 100000 in
set_option maxHeartbeats 4000000 in
theorem refSame_any (a : Ty) : ∀ (b : Ty) (w : World) (vs us : List Value), TyAt w w.heap.size a vs → TyAt w w.heap.size b us → TySz a → TySz b → Calls Try.prog 14 #[.agg vs.toArray, .agg us.toArray] w (fun e w' => e = .returned (.bool (sameT a b)) ∧ Ext w w') := by
  induction a with
  | nil => intro b w vs us hT; exact hT.elim
  | mk h n p t ih =>
    intro b w vs us hT hU hS hS'
    cases b with
    | nil => exact hU.elim
    | mk h' n' p' t' =>
      obtain ⟨An, cn, Ap, cp, rfl, hN, hP⟩ := hT.open_
      obtain ⟨An', cn', Ap', cp', rfl, hN', hP'⟩ := hU.open_
      obtain ⟨sn, _, hn, hSz⟩ := hS
      obtain ⟨sn', _, hn', hSz'⟩ := hS'
      have hx := sameT_bne h n p t h' n' p' t'
      have hw := fun w1 (hE : Ext w w1) => refWords_any An cn h.names.length h.names An' cn' h'.names.length h'.names w1 (hN.ext hE) rfl sn.1 (hN'.ext hE) rfl
      show Calls Try.prog 14 #[.agg #[.int .i64 h.kind, .int .i64 h.at_, .int .i64 h.lo, .int .i64 h.hi, .int .i64 h.most, .slice An h.names.length cn, .slice Ap n cp, .string h.name.1, .int .i64 h.name.2], .agg #[.int .i64 h'.kind, .int .i64 h'.at_, .int .i64 h'.lo, .int .i64 h'.hi, .int .i64 h'.most, .slice An' h'.names.length cn', .slice Ap' n' cp', .string h'.name.1, .int .i64 h'.name.2]] w _
      obtain ⟨R, hR⟩ : ∃ R, R = sameT (.mk h n p t) (.mk h' n' p' t') := ⟨_, rfl⟩
      rw [← hR] at hx ⊢
      obtain ⟨E, hE⟩ : ∃ E : Nat → Bool, E = fun i => ptEq (p i) (p' i) && sameT (t i) (t' i) := ⟨_, rfl⟩
      have HEE := hide (fun i => (show E i = (((p i).name.1.toList == (p' i).name.1.toList) && plainB (p i) (p' i) && sameT (t i) (t' i)) by rw [hE, str_eq]; rfl))
      rw [← hE] at hx
      obtain ⟨Wd1, hWd⟩ : ∃ x, x = wdsEq h.names h'.names := ⟨_, rfl⟩
      rw [← hWd] at hx hw
      have HIH := hide ih
      have HP := hide hP
      have HP' := hide hP'
      have HSZ := hide hSz
      have HSZ' := hide hSz'
      clear ih hP hP' hN hN' hSz hSz' sn sn' hR hE hWd hT hU
      obtain ⟨k1, hk1⟩ : ∃ x, x = h.kind := ⟨_, rfl⟩
      rw [← hk1] at hx ⊢
      obtain ⟨a1, ha1⟩ : ∃ x, x = h.at_ := ⟨_, rfl⟩
      rw [← ha1] at ⊢
      obtain ⟨lo1, hlo1⟩ : ∃ x, x = h.lo := ⟨_, rfl⟩
      rw [← hlo1] at hx ⊢
      obtain ⟨hi1, hhi1⟩ : ∃ x, x = h.hi := ⟨_, rfl⟩
      rw [← hhi1] at hx ⊢
      obtain ⟨mo1, hmo1⟩ : ∃ x, x = h.most := ⟨_, rfl⟩
      rw [← hmo1] at hx ⊢
      obtain ⟨z1, hz1⟩ : ∃ x, x = h.names.length := ⟨_, rfl⟩
      rw [← hz1] at hw ⊢
      obtain ⟨s1, hs1⟩ : ∃ x, x = h.name.1 := ⟨_, rfl⟩
      rw [← hs1] at hx ⊢
      obtain ⟨y1, hy1⟩ : ∃ x, x = h.name.2 := ⟨_, rfl⟩
      rw [← hy1] at ⊢
      obtain ⟨k2, hk2⟩ : ∃ x, x = h'.kind := ⟨_, rfl⟩
      rw [← hk2] at hx ⊢
      obtain ⟨a2, ha2⟩ : ∃ x, x = h'.at_ := ⟨_, rfl⟩
      rw [← ha2] at ⊢
      obtain ⟨lo2, hlo2⟩ : ∃ x, x = h'.lo := ⟨_, rfl⟩
      rw [← hlo2] at hx ⊢
      obtain ⟨hi2, hhi2⟩ : ∃ x, x = h'.hi := ⟨_, rfl⟩
      rw [← hhi2] at hx ⊢
      obtain ⟨mo2, hmo2⟩ : ∃ x, x = h'.most := ⟨_, rfl⟩
      rw [← hmo2] at hx ⊢
      obtain ⟨z2, hz2⟩ : ∃ x, x = h'.names.length := ⟨_, rfl⟩
      rw [← hz2] at hw ⊢
      obtain ⟨s2, hs2⟩ : ∃ x, x = h'.name.1 := ⟨_, rfl⟩
      rw [← hs2] at hx ⊢
      obtain ⟨y2, hy2⟩ : ∃ x, x = h'.name.2 := ⟨_, rfl⟩
      rw [← hy2] at ⊢
      obtain ⟨N0, hN0⟩ : ∃ x, x = (k1 != k2) := ⟨_, rfl⟩
      obtain ⟨N1, hN1⟩ : ∃ x, x = (lo1 != lo2) := ⟨_, rfl⟩
      obtain ⟨N2, hN2⟩ : ∃ x, x = (hi1 != hi2) := ⟨_, rfl⟩
      obtain ⟨N3, hN3⟩ : ∃ x, x = (mo1 != mo2) := ⟨_, rfl⟩
      obtain ⟨B4, hB4⟩ : ∃ x, x = (s1.toList == s2.toList) := ⟨_, rfl⟩
      rw [← hN0, ← hN1, ← hN2, ← hN3, ← hB4] at hx
      have e0 := hN0.symm
      have e1 := hN1.symm
      have e2 := hN2.symm
      have e3 := hN3.symm
      have e4 := hB4.symm
      have HX := hide hx
      have HW := hide hw
      obtain ⟨w0, hw0⟩ : ∃ w0, w0 = (w.alloc (.cells #[.int .i64 k1, .int .i64 a1, .int .i64 lo1, .int .i64 hi1, .int .i64 mo1, .slice An z1 cn, .slice Ap n cp, .string s1, .int .i64 y1] 27)).alloc (.cells #[.int .i64 k2, .int .i64 a2, .int .i64 lo2, .int .i64 hi2, .int .i64 mo2, .slice An' z2 cn', .slice Ap' n' cp', .string s2, .int .i64 y2] 27) := ⟨_, rfl⟩
      have hBa : Blk w0 w.heap.size 27 #[.int .i64 k1, .int .i64 a1, .int .i64 lo1, .int .i64 hi1, .int .i64 mo1, .slice An z1 cn, .slice Ap n cp, .string s1, .int .i64 y1] := by rw [hw0]; exact (Blk.new _ _ _).alloc _
      have hBb : Blk w0 (w.heap.size + 1) 27 #[.int .i64 k2, .int .i64 a2, .int .i64 lo2, .int .i64 hi2, .int .i64 mo2, .slice An' z2 cn', .slice Ap' n' cp', .string s2, .int .i64 y2] := by
        rw [hw0]; have := Blk.new (w.alloc (.cells #[.int .i64 k1, .int .i64 a1, .int .i64 lo1, .int .i64 hi1, .int .i64 mo1, .slice An z1 cn, .slice Ap n cp, .string s1, .int .i64 y1] 27)) 27 #[.int .i64 k2, .int .i64 a2, .int .i64 lo2, .int .i64 hi2, .int .i64 mo2, .slice An' z2 cn', .slice Ap' n' cp', .string s2, .int .i64 y2]; simpa only [World.size_alloc] using this
      have HE0 := hide (show Ext w w0 by rw [hw0]; exact ((Ext.rfl' w).alloc (Nat.le_refl _) _).alloc (by simp only [World.size_alloc]; omega) _)
      obtain ⟨gb, hgb⟩ : ∃ g, g = w.heap.size + 1 := ⟨_, rfl⟩
      obtain ⟨ga, hga⟩ : ∃ g, g = w.heap.size := ⟨_, rfl⟩
      rw [← hgb] at hBb
      rw [← hga] at hBa
      have HBa := hide hBa
      have HBb := hide hBb
      have v0a := (HBa.out).cell 0
      have v2a := (HBa.out).cell 2
      have v3a := (HBa.out).cell 3
      have v4a := (HBa.out).cell 4
      have v5a := (HBa.out).cell 5
      have v7a := (HBa.out).cell 7
      have v0b := (HBb.out).cell 0
      have v2b := (HBb.out).cell 2
      have v3b := (HBb.out).cell 3
      have v4b := (HBb.out).cell 4
      have v5b := (HBb.out).cell 5
      have v7b := (HBb.out).cell 7
      simp only [List.getElem?_toArray, List.getElem?_cons_zero, List.getElem?_cons_succ] at v0a v2a v3a v4a v5a v7a v0b v2b v3b v4b v5b v7b
      have HW0 := hide hw0
      have HGa := hide hga
      have HGb := hide hgb
      clear hBa hBb hw0 hga hgb hw hx hN0 hN1 hN2 hN3 hB4 hk1 ha1 hlo1 hhi1 hmo1 hz1 hs1 hy1 hk2 ha2 hlo2 hhi2 hmo2 hz2 hs2 hy2
      go_enter Try.func14, Try.ntmps14
      go_upto_region 1 with fail
      rw [← HW0.out, ← HGb.out, ← HGa.out]
      cases N0 with
      | true =>
        go_wp2_with fail
        go_ret
        exact ⟨ret_bool (by rw [HX.out]; rfl), HE0.out⟩
      | false =>
        cases N1 with
        | true =>
          go_wp2_with fail
          go_ret
          exact ⟨ret_bool (by rw [HX.out]; rfl), HE0.out⟩
        | false =>
          cases N2 with
          | true =>
            go_wp2_with fail
            go_ret
            exact ⟨ret_bool (by rw [HX.out]; rfl), HE0.out⟩
          | false =>
            cases N3 with
            | true =>
              go_wp2_with fail
              go_ret
              exact ⟨ret_bool (by rw [HX.out]; rfl), HE0.out⟩
            | false =>
              cases B4 with
              | false =>
                go_wp2_with fail
                go_ret
                exact ⟨ret_bool (by rw [HX.out]; rfl), HE0.out⟩
              | true =>
                go_wp2_with fail
                refine (HW.out w0 HE0.out).mono ?_
                rintro e w3 ⟨rfl, hE3⟩
                have HE3 := hide (HE0.out.trans' hE3)
                have u6a := (HBa.out.ext hE3).cell 6
                have u6b := (HBb.out.ext hE3).cell 6
                simp only [List.getElem?_toArray, List.getElem?_cons_zero, List.getElem?_cons_succ] at u6a u6b
                have HBa := hide (HBa.out.ext hE3)
                have HBb := hide (HBb.out.ext hE3)
                clear hE3 v0a v2a v3a v4a v5a v7a v0b v2b v3b v4b v5b v7b e0 e1 e2 e3 e4
                cases Wd1 with
                | false =>
                  go_wp2_with fail
                  go_ret
                  exact ⟨ret_bool (by rw [HX.out]; rfl), HE3.out⟩
                | true =>
                  by_cases hnn : n = n'
                  · subst hnn
                    have hx2 := HX.out
                    rw [decide_eq_true rfl] at hx2
                    have HYES := hide (fun hh => (show true = R by rw [hx2, allE_yes (E := E) (n := n) hh]; rfl))
                    have HNO := hide (fun k (hk : k < n) hh => (show false = R by rw [hx2, allE_no (E := E) hk hh]; rfl))
                    clear hx2 HX
                    go_wp2_with fail
                    clear u6a u6b
                    go_loopw [5] (fun i wr => ∃ k : Nat, k ≤ n ∧ i = .int .i64 (k : Int) ∧ Ext w3 wr ∧ Hid (∀ j, j < k → E j = true)) (fun i _ => n - (intOf i).toNat)
                    case atStart => exact ⟨0, Nat.zero_le _, rfl, Ext.rfl' _, fun j hj => absurd hj (by omega)⟩
                    case round =>
                      obtain ⟨k, hk, rfl, hE, HA⟩ := hrel
                      have HE := hide hE
                      have x6a := (HBa.out.ext hE).cell 6
                      have x6b := (HBb.out.ext hE).cell 6
                      simp only [List.getElem?_toArray, List.getElem?_cons_zero, List.getElem?_cons_succ] at x6a x6b
                      by_cases hkn : k < n
                      · obtain ⟨b, o, rfl, hb, hc⟩ := HP.out.ext (HE3.out.trans' hE) (by omega)
                        obtain ⟨b', o', rfl, hb', hc'⟩ := HP'.out.ext (HE3.out.trans' hE) (by omega)
                        obtain ⟨vs, r1, q1⟩ := hc k hkn
                        obtain ⟨us, r2, q2⟩ := hc' k hkn
                        have HL1 := hide q1.len
                        have HL2 := hide q2.len
                        have HO1 := hide q1.one
                        have HO2 := hide q2.one
                        have HQ1 := hide q1
                        have HQ2 := hide q2
                        have HR1 := hide (fun w1 (hx : Ext wr w1) => (show w1.rangeAt b (o + k * 18) vs from fun j v hv => (hx.cell (p := ⟨b, o + k * 18 + j, none⟩) hb).trans (r1 j v hv)))
                        have HR2 := hide (fun w1 (hx : Ext wr w1) => (show w1.rangeAt b' (o' + k * 18) us from fun j v hv => (hx.cell (p := ⟨b', o' + k * 18 + j, none⟩) hb').trans (r2 j v hv)))
                        have HCA := hide (fun w1 (hx : Ext wr w1) => (hx.cell (p := ⟨ga, 6, none⟩) (HBa.out.ext hE).lt).trans x6a)
                        have HCB := hide (fun w1 (hx : Ext wr w1) => (hx.cell (p := ⟨gb, 6, none⟩) (HBb.out.ext hE).lt).trans x6b)
                        have i0 : (0 : Int) ≤ (k : Int) := by omega
                        have i1 : (k : Int) < (n : Int) := by omega
                        clear hc hc' r1 r2 q1 q2
                        go_upto_region 6 with fail
                        go_cut [6, 7] (fun v1 v2 wx => TwoBlk wr vs us v1 v2 wx)
                        case first =>
                          clear x6a x6b
                          refine wp_region_held_drew (S := fun w' => Ext wr w') (by kernel_rfl) ((Ext.rfl' wr).drew') (fun hHeld => ?_)
                          refine wpAnyH_take (i := 0) (v := ?_) rfl (by kernel_rfl) (by kernel_rfl) (by kernel_rfl) (fun _ _ _ h => h) (Or.inl ⟨by rfl, ?_⟩) hHeld ?_
                          rotate_left
                          · (intro w9 hSw; have ca9 := HCA.out w9 hSw; have cb9 := HCB.out w9 hSw; go_simp; all_goals with_reducible rfl)
                          try simp only [Act.put, List.getElem_toArray, List.getElem_cons_succ, List.getElem_cons_zero, List.setIfInBounds_toArray, List.set_cons_zero, List.set_cons_succ]
                          refine wpAnyH_take (i := 1) (v := ?_) rfl (by kernel_rfl) (by kernel_rfl) (by kernel_rfl) (fun _ _ _ h => h) (Or.inl ⟨by rfl, ?_⟩) hHeld ?_
                          rotate_left
                          · (intro w9 hSw; have ca9 := HCA.out w9 hSw; have cb9 := HCB.out w9 hSw; go_simp; all_goals with_reducible rfl)
                          try simp only [Act.put, List.getElem_toArray, List.getElem_cons_succ, List.getElem_cons_zero, List.setIfInBounds_toArray, List.set_cons_zero, List.set_cons_succ]
                          refine wpAnyH_take (i := 2) (v := ?_) rfl (by kernel_rfl) (by kernel_rfl) (by kernel_rfl) (fun _ _ _ h => h) (Or.inl ⟨by rfl, ?_⟩) hHeld ?_
                          rotate_left
                          · (intro w9 hSw; have ca9 := HCA.out w9 hSw; have cb9 := HCB.out w9 hSw; go_simp; all_goals with_reducible rfl)
                          try simp only [Act.put, List.getElem_toArray, List.getElem_cons_succ, List.getElem_cons_zero, List.setIfInBounds_toArray, List.set_cons_zero, List.set_cons_succ]
                          refine wpAnyH_take (i := 3) (v := ?_) rfl (by kernel_rfl) (by kernel_rfl) (by kernel_rfl) (fun _ _ _ h => h) (Or.inl ⟨by rfl, ?_⟩) hHeld ?_
                          rotate_left
                          · (intro w9 hSw; have ca9 := HCA.out w9 hSw; have cb9 := HCB.out w9 hSw; go_simp; all_goals with_reducible rfl)
                          try simp only [Act.put, List.getElem_toArray, List.getElem_cons_succ, List.getElem_cons_zero, List.setIfInBounds_toArray, List.set_cons_zero, List.set_cons_succ]
                          refine wpAnyH_take (i := 4) rfl (by kernel_rfl) (by kernel_rfl) (by kernel_rfl) (fun _ _ _ h => h) (yieldsIf_load_mid (by rfl) 52 _ rfl b (o + k * 18) rfl vs _ (fun w9 hSw => HR1.out w9 hSw) Try.underlying52 rfl (infoPart' HL1.out)) hHeld ?_
                          try simp only [Act.put, List.getElem_toArray, List.getElem_cons_succ, List.getElem_cons_zero, List.setIfInBounds_toArray, List.set_cons_zero, List.set_cons_succ]
                          refine wpAnyH_take (i := 5) (v := ?_) rfl (by kernel_rfl) (by kernel_rfl) (by kernel_rfl) (fun _ _ _ h => h) (Or.inl ⟨by rfl, ?_⟩) hHeld ?_
                          rotate_left
                          · (intro w9 hSw; have ca9 := HCA.out w9 hSw; have cb9 := HCB.out w9 hSw; go_simp; all_goals with_reducible rfl)
                          try simp only [Act.put, List.getElem_toArray, List.getElem_cons_succ, List.getElem_cons_zero, List.setIfInBounds_toArray, List.set_cons_zero, List.set_cons_succ]
                          refine wpAnyH_take (i := 6) (v := ?_) rfl (by kernel_rfl) (by kernel_rfl) (by kernel_rfl) (fun _ _ _ h => h) (Or.inl ⟨by rfl, ?_⟩) hHeld ?_
                          rotate_left
                          · (intro w9 hSw; have ca9 := HCA.out w9 hSw; have cb9 := HCB.out w9 hSw; go_simp; all_goals with_reducible rfl)
                          try simp only [Act.put, List.getElem_toArray, List.getElem_cons_succ, List.getElem_cons_zero, List.setIfInBounds_toArray, List.set_cons_zero, List.set_cons_succ]
                          refine wpAnyH_take (i := 7) (v := ?_) rfl (by kernel_rfl) (by kernel_rfl) (by kernel_rfl) (fun _ _ _ h => h) (Or.inl ⟨by rfl, ?_⟩) hHeld ?_
                          rotate_left
                          · (intro w9 hSw; have ca9 := HCA.out w9 hSw; have cb9 := HCB.out w9 hSw; go_simp; all_goals with_reducible rfl)
                          try simp only [Act.put, List.getElem_toArray, List.getElem_cons_succ, List.getElem_cons_zero, List.setIfInBounds_toArray, List.set_cons_zero, List.set_cons_succ]
                          refine wpAnyH_take (i := 8) (v := ?_) rfl (by kernel_rfl) (by kernel_rfl) (by kernel_rfl) (fun _ _ _ h => h) (Or.inl ⟨by rfl, ?_⟩) hHeld ?_
                          rotate_left
                          · (intro w9 hSw; have ca9 := HCA.out w9 hSw; have cb9 := HCB.out w9 hSw; go_simp; all_goals with_reducible rfl)
                          try simp only [Act.put, List.getElem_toArray, List.getElem_cons_succ, List.getElem_cons_zero, List.setIfInBounds_toArray, List.set_cons_zero, List.set_cons_succ]
                          refine wpAnyH_take (i := 9) rfl (by kernel_rfl) (by kernel_rfl) (by kernel_rfl) (fun _ _ _ h => h) (yieldsIf_load_mid (by rfl) 52 _ rfl b' (o' + k * 18) rfl us _ (fun w9 hSw => HR2.out w9 hSw) Try.underlying52 rfl (infoPart' HL2.out)) hHeld ?_
                          try simp only [Act.put, List.getElem_toArray, List.getElem_cons_succ, List.getElem_cons_zero, List.setIfInBounds_toArray, List.set_cons_zero, List.set_cons_succ]
                          generalize wr.drew = W0 at hHeld ⊢
                          refine wpAnyH_ready (rs := [10, 11]) (by kernel_rfl) (by simp) ?_
                          refine AllReadyH.cons rfl (fun K hK => ?_) (AllReadyH.cons rfl (fun K hK => ?_) AllReadyH.nil)
                          · go_simp
                            refine hK.out _ _ (hHeld.alloc hHeld.size _) (fun _ => ?_)
                            clear hK K
                            try simp only [Act.put, List.getElem_toArray, List.getElem_cons_succ, List.getElem_cons_zero, List.setIfInBounds_toArray, List.set_cons_zero, List.set_cons_succ]
                            have hX1v := hHeld.alloc hHeld.size (.cells #[.string ⟨#[]⟩, .int .i64 0, .bool false, .slice none 0 0, .int .i64 0, .int .i64 0, .int .i64 0, .int .i64 0, .slice none 0 0, .int .i64 0, .int .i64 0, .int .i64 0, .int .i64 0, .int .i64 0, .slice none 0 0, .slice none 0 0, .string ⟨#[]⟩, .int .i64 0] 52)
                            have bv := Blk.new W0 52 #[.string ⟨#[]⟩, .int .i64 0, .bool false, .slice none 0 0, .int .i64 0, .int .i64 0, .int .i64 0, .int .i64 0, .slice none 0 0, .int .i64 0, .int .i64 0, .int .i64 0, .int .i64 0, .int .i64 0, .slice none 0 0, .slice none 0 0, .string ⟨#[]⟩, .int .i64 0]
                            have lev : wr.heap.size ≤ W0.heap.size := hHeld.size
                            generalize W0.heap.size = gv at bv lev ⊢
                            generalize W0.alloc (.cells #[.string ⟨#[]⟩, .int .i64 0, .bool false, .slice none 0 0, .int .i64 0, .int .i64 0, .int .i64 0, .int .i64 0, .slice none 0 0, .int .i64 0, .int .i64 0, .int .i64 0, .int .i64 0, .int .i64 0, .slice none 0 0, .slice none 0 0, .string ⟨#[]⟩, .int .i64 0] 52) = W1v at hX1v bv ⊢
                            refine wpAnyH_ready (rs := [11]) (by kernel_rfl) (by simp) ?_
                            refine AllReadyH.cons rfl (fun K hK => ?_) AllReadyH.nil
                            go_simp
                            refine hK.out _ _ (hX1v.alloc hX1v.size _) (fun _ => ?_)
                            clear hK K
                            try simp only [Act.put, List.getElem_toArray, List.getElem_cons_succ, List.getElem_cons_zero, List.setIfInBounds_toArray, List.set_cons_zero, List.set_cons_succ]
                            have hX2u := hX1v.alloc hX1v.size (.cells #[.string ⟨#[]⟩, .int .i64 0, .bool false, .slice none 0 0, .int .i64 0, .int .i64 0, .int .i64 0, .int .i64 0, .slice none 0 0, .int .i64 0, .int .i64 0, .int .i64 0, .int .i64 0, .int .i64 0, .slice none 0 0, .slice none 0 0, .string ⟨#[]⟩, .int .i64 0] 52)
                            have bu := Blk.new W1v 52 #[.string ⟨#[]⟩, .int .i64 0, .bool false, .slice none 0 0, .int .i64 0, .int .i64 0, .int .i64 0, .int .i64 0, .slice none 0 0, .int .i64 0, .int .i64 0, .int .i64 0, .int .i64 0, .int .i64 0, .slice none 0 0, .slice none 0 0, .string ⟨#[]⟩, .int .i64 0]
                            have leu : wr.heap.size ≤ W1v.heap.size := hX1v.size
                            have nevu : gv ≠ W1v.heap.size := Nat.ne_of_lt bv.lt
                            replace bv := bv.alloc (.cells #[.string ⟨#[]⟩, .int .i64 0, .bool false, .slice none 0 0, .int .i64 0, .int .i64 0, .int .i64 0, .int .i64 0, .slice none 0 0, .int .i64 0, .int .i64 0, .int .i64 0, .int .i64 0, .int .i64 0, .slice none 0 0, .slice none 0 0, .string ⟨#[]⟩, .int .i64 0] 52)
                            generalize W1v.heap.size = gu at bu leu nevu ⊢
                            generalize W1v.alloc (.cells #[.string ⟨#[]⟩, .int .i64 0, .bool false, .slice none 0 0, .int .i64 0, .int .i64 0, .int .i64 0, .int .i64 0, .slice none 0 0, .int .i64 0, .int .i64 0, .int .i64 0, .int .i64 0, .int .i64 0, .slice none 0 0, .slice none 0 0, .string ⟨#[]⟩, .int .i64 0] 52) = W2u at hX2u bu bv ⊢
                            refine wpAnyH_ready (rs := [12]) (by kernel_rfl) (by simp) ?_
                            refine AllReadyH.cons rfl (fun K hK => ?_) AllReadyH.nil
                            rw [if_pos (by rfl)]
                            refine wp_store_blk 52 _ _ rfl gv _ vs.toArray bv rfl rfl (infoPartA HL1.out) (by show _ = vs.length; rw [HL1.out]; rfl) HO1.out ?_
                            have hX3v := ext_setRow hX2u (g := gv) lev vs.toArray
                            refine hK.out _ _ hX3v (fun _ => ?_)
                            clear hK K
                            try simp only [Act.put, List.getElem_toArray, List.getElem_cons_succ, List.getElem_cons_zero, List.setIfInBounds_toArray, List.set_cons_zero, List.set_cons_succ]
                            replace bu := bu.setRow_other (g := gv) nevu.symm vs.toArray
                            replace bv := bv.setRow_same vs.toArray
                            generalize W2u.setRow gv vs.toArray = W3v at hX3v bv bu ⊢
                            refine wpAnyH_ready (rs := [13]) (by kernel_rfl) (by simp) ?_
                            refine AllReadyH.cons rfl (fun K hK => ?_) AllReadyH.nil
                            rw [if_pos (by rfl)]
                            refine wp_store_blk 52 _ _ rfl gu _ us.toArray bu rfl rfl (infoPartA HL2.out) (by show _ = us.length; rw [HL2.out]; rfl) HO2.out ?_
                            have hX4u := ext_setRow hX3v (g := gu) leu us.toArray
                            refine hK.out _ _ hX4u (fun _ => ?_)
                            clear hK K
                            try simp only [Act.put, List.getElem_toArray, List.getElem_cons_succ, List.getElem_cons_zero, List.setIfInBounds_toArray, List.set_cons_zero, List.set_cons_succ]
                            replace bv := bv.setRow_other (g := gu) nevu us.toArray
                            replace bu := bu.setRow_same us.toArray
                            generalize W3v.setRow gu us.toArray = W4u at hX4u bv bu ⊢
                            refine wpAnyH_done (by kernel_rfl) ?_ _
                            go_wp2_with fail
                            go_meet
                            exact ⟨_, _, rfl, rfl, bv, bu, hX4u⟩
                          · go_simp
                            refine hK.out _ _ (hHeld.alloc hHeld.size _) (fun _ => ?_)
                            clear hK K
                            try simp only [Act.put, List.getElem_toArray, List.getElem_cons_succ, List.getElem_cons_zero, List.setIfInBounds_toArray, List.set_cons_zero, List.set_cons_succ]
                            have hX1u := hHeld.alloc hHeld.size (.cells #[.string ⟨#[]⟩, .int .i64 0, .bool false, .slice none 0 0, .int .i64 0, .int .i64 0, .int .i64 0, .int .i64 0, .slice none 0 0, .int .i64 0, .int .i64 0, .int .i64 0, .int .i64 0, .int .i64 0, .slice none 0 0, .slice none 0 0, .string ⟨#[]⟩, .int .i64 0] 52)
                            have bu := Blk.new W0 52 #[.string ⟨#[]⟩, .int .i64 0, .bool false, .slice none 0 0, .int .i64 0, .int .i64 0, .int .i64 0, .int .i64 0, .slice none 0 0, .int .i64 0, .int .i64 0, .int .i64 0, .int .i64 0, .int .i64 0, .slice none 0 0, .slice none 0 0, .string ⟨#[]⟩, .int .i64 0]
                            have leu : wr.heap.size ≤ W0.heap.size := hHeld.size
                            generalize W0.heap.size = gu at bu leu ⊢
                            generalize W0.alloc (.cells #[.string ⟨#[]⟩, .int .i64 0, .bool false, .slice none 0 0, .int .i64 0, .int .i64 0, .int .i64 0, .int .i64 0, .slice none 0 0, .int .i64 0, .int .i64 0, .int .i64 0, .int .i64 0, .int .i64 0, .slice none 0 0, .slice none 0 0, .string ⟨#[]⟩, .int .i64 0] 52) = W1u at hX1u bu ⊢
                            refine wpAnyH_ready (rs := [10]) (by kernel_rfl) (by simp) ?_
                            refine AllReadyH.cons rfl (fun K hK => ?_) AllReadyH.nil
                            go_simp
                            refine hK.out _ _ (hX1u.alloc hX1u.size _) (fun _ => ?_)
                            clear hK K
                            try simp only [Act.put, List.getElem_toArray, List.getElem_cons_succ, List.getElem_cons_zero, List.setIfInBounds_toArray, List.set_cons_zero, List.set_cons_succ]
                            have hX2v := hX1u.alloc hX1u.size (.cells #[.string ⟨#[]⟩, .int .i64 0, .bool false, .slice none 0 0, .int .i64 0, .int .i64 0, .int .i64 0, .int .i64 0, .slice none 0 0, .int .i64 0, .int .i64 0, .int .i64 0, .int .i64 0, .int .i64 0, .slice none 0 0, .slice none 0 0, .string ⟨#[]⟩, .int .i64 0] 52)
                            have bv := Blk.new W1u 52 #[.string ⟨#[]⟩, .int .i64 0, .bool false, .slice none 0 0, .int .i64 0, .int .i64 0, .int .i64 0, .int .i64 0, .slice none 0 0, .int .i64 0, .int .i64 0, .int .i64 0, .int .i64 0, .int .i64 0, .slice none 0 0, .slice none 0 0, .string ⟨#[]⟩, .int .i64 0]
                            have lev : wr.heap.size ≤ W1u.heap.size := hX1u.size
                            have neuv : gu ≠ W1u.heap.size := Nat.ne_of_lt bu.lt
                            replace bu := bu.alloc (.cells #[.string ⟨#[]⟩, .int .i64 0, .bool false, .slice none 0 0, .int .i64 0, .int .i64 0, .int .i64 0, .int .i64 0, .slice none 0 0, .int .i64 0, .int .i64 0, .int .i64 0, .int .i64 0, .int .i64 0, .slice none 0 0, .slice none 0 0, .string ⟨#[]⟩, .int .i64 0] 52)
                            generalize W1u.heap.size = gv at bv lev neuv ⊢
                            generalize W1u.alloc (.cells #[.string ⟨#[]⟩, .int .i64 0, .bool false, .slice none 0 0, .int .i64 0, .int .i64 0, .int .i64 0, .int .i64 0, .slice none 0 0, .int .i64 0, .int .i64 0, .int .i64 0, .int .i64 0, .int .i64 0, .slice none 0 0, .slice none 0 0, .string ⟨#[]⟩, .int .i64 0] 52) = W2v at hX2v bv bu ⊢
                            refine wpAnyH_ready (rs := [12]) (by kernel_rfl) (by simp) ?_
                            refine AllReadyH.cons rfl (fun K hK => ?_) AllReadyH.nil
                            rw [if_pos (by rfl)]
                            refine wp_store_blk 52 _ _ rfl gv _ vs.toArray bv rfl rfl (infoPartA HL1.out) (by show _ = vs.length; rw [HL1.out]; rfl) HO1.out ?_
                            have hX3v := ext_setRow hX2v (g := gv) lev vs.toArray
                            refine hK.out _ _ hX3v (fun _ => ?_)
                            clear hK K
                            try simp only [Act.put, List.getElem_toArray, List.getElem_cons_succ, List.getElem_cons_zero, List.setIfInBounds_toArray, List.set_cons_zero, List.set_cons_succ]
                            replace bu := bu.setRow_other (g := gv) neuv vs.toArray
                            replace bv := bv.setRow_same vs.toArray
                            generalize W2v.setRow gv vs.toArray = W3v at hX3v bu bv ⊢
                            refine wpAnyH_ready (rs := [13]) (by kernel_rfl) (by simp) ?_
                            refine AllReadyH.cons rfl (fun K hK => ?_) AllReadyH.nil
                            rw [if_pos (by rfl)]
                            refine wp_store_blk 52 _ _ rfl gu _ us.toArray bu rfl rfl (infoPartA HL2.out) (by show _ = us.length; rw [HL2.out]; rfl) HO2.out ?_
                            have hX4u := ext_setRow hX3v (g := gu) leu us.toArray
                            refine hK.out _ _ hX4u (fun _ => ?_)
                            clear hK K
                            try simp only [Act.put, List.getElem_toArray, List.getElem_cons_succ, List.getElem_cons_zero, List.setIfInBounds_toArray, List.set_cons_zero, List.set_cons_succ]
                            replace bv := bv.setRow_other (g := gu) neuv.symm us.toArray
                            replace bu := bu.setRow_same us.toArray
                            generalize W3v.setRow gu us.toArray = W4u at hX4u bu bv ⊢
                            refine wpAnyH_done (by kernel_rfl) ?_ _
                            go_wp2_with fail
                            go_meet
                            exact ⟨_, _, rfl, rfl, bv, bu, hX4u⟩
                        case rest =>
                          obtain ⟨g1, g2, rfl, rfl, hB1, hB2, hEc⟩ := hcut
                          obtain ⟨w5, hw5⟩ : ∃ w5, w5 = wc := ⟨_, rfl⟩
                          rw [← hw5] at hB1 hB2 hEc ⊢
                          have HE5 := hide (hE.trans' hEc)
                          have Q1 := HQ1.out.ext hEc
                          have Q2 := HQ2.out.ext hEc
                          have hpl := plain_any (p k) (p' k) (t k) (t' k) w5 vs us Q1 Q2 (HSZ.out k hkn).2.1 (HSZ.out k hkn).2.2.1
                          obtain ⟨Al1, cl1, Ac1, cc1, vt, hvs, _, _, ht1⟩ := Q1
                          obtain ⟨Al2, cl2, Ac2, cc2, ut, hus, _, _, ht2⟩ := Q2
                          have hsm := fun w6 (hE6 : Ext w5 w6) => HIH.out k (t' k) w6 vt ut (ht1.ext hE6) (ht2.ext hE6) (HSZ.out k hkn).2.2.2 (HSZ'.out k hkn).2.2.2
                          obtain ⟨x0, x1, x2, x3, x4, x5, x6, x7, x8, rfl⟩ := ht1.nine
                          obtain ⟨y0, y1', y2', y3, y4, y5, y6, y7, y8, rfl⟩ := ht2.nine
                          have hC1 := hB1
                          have hC2 := hB2
                          rw [hvs] at hC1
                          rw [hus] at hC2
                          have n1 : w5.cell? ⟨g1, 0, none⟩ = some (.string (p k).name.1) := by rw [hC1.cell 0]; rfl
                          have n2 : w5.cell? ⟨g2, 0, none⟩ = some (.string (p' k).name.1) := by rw [hC2.cell 0]; rfl
                          have hek := HEE.out k
                          obtain ⟨nm1, hnm1⟩ : ∃ x, x = (p k).name.1 := ⟨_, rfl⟩
                          obtain ⟨nm2, hnm2⟩ : ∃ x, x = (p' k).name.1 := ⟨_, rfl⟩
                          obtain ⟨PB, hPB⟩ : ∃ x, x = plainB (p k) (p' k) := ⟨_, rfl⟩
                          obtain ⟨SB, hSB⟩ : ∃ x, x = sameT (t k) (t' k) := ⟨_, rfl⟩
                          obtain ⟨B5, hB5⟩ : ∃ x, x = (nm1.toList == nm2.toList) := ⟨_, rfl⟩
                          rw [← hnm1] at n1 hek
                          rw [← hnm2] at n2 hek
                          rw [← hPB] at hpl hek
                          rw [← hSB] at hsm hek
                          rw [← hB5] at hek
                          have e5 := hB5.symm
                          have HEK := hide hek
                          have HPL := hide hpl
                          have HSM := hide (show ∀ w6, Ext w5 w6 → Calls Try.prog 14 #[.agg #[x0, x1, x2, x3, x4, x5, x6, x7, x8], .agg #[y0, y1', y2', y3, y4, y5, y6, y7, y8]] w6 (fun e w' => e = .returned (.bool SB) ∧ Ext w6 w') from hsm)
                          have HR5 := hide (blk_range hB1)
                          have HR6 := hide (blk_range hB2)
                          have HC1 := hide (fun w6 (hE6 : Ext w5 w6) => nine_cells (hC1.ext hE6) rfl)
                          have HC2 := hide (fun w6 (hE6 : Ext w5 w6) => nine_cells (hC2.ext hE6) rfl)
                          clear hek hpl hsm hB1 hB2 hC1 hC2 hnm1 hnm2 hPB hSB hB5 ht1 ht2 hvs hus hEc hE x6a x6b hw5
                          cases B5 with
                          | false =>
                            have HX := hide (HNO.out k hkn (by rw [HEK.out]; rfl))
                            go_wp2_with fail
                            go_ret
                            exact ⟨ret_bool HX.out, HE3.out.trans' HE5.out⟩
                          | true =>
                            go_upto_region 7 with fail
                            refine wp_region_lit ?_
                            refine wpList_plain rfl ?_
                            intro K0 hK0
                            go_simp
                            refine hK0 _ _ ?_
                            refine wpList_plain rfl ?_
                            intro K1 hK1
                            go_simp
                            refine hK1 _ _ ?_
                            refine wpList_plain rfl ?_
                            intro K2 hK2
                            go_simp
                            refine hK2 _ _ ?_
                            refine wpList_plain rfl ?_
                            intro K3 hK3
                            go_simp
                            refine hK3 _ _ ?_
                            refine wpList_plain rfl ?_
                            intro K4 hK4
                            go_simp
                            refine hK4 _ _ ?_
                            refine wpList_plain rfl ?_
                            intro K5 hK5
                            go_simp
                            refine hK5 _ _ ?_
                            refine wpList_plain rfl ?_
                            intro K6 hK6
                            go_simp
                            refine hK6 _ _ ?_
                            refine wpList_plain rfl ?_
                            intro K7 hK7
                            go_simp
                            refine hK7 _ _ ?_
                            refine wpList_unguard' (by rfl) ?_
                            refine wpList_load_mid rfl 52 _ rfl g1 0 rfl vs _ HR5.out Try.underlying52 rfl (infoPart' HL1.out) ?_
                            refine wpList_unguard' (by rfl) ?_
                            refine wpList_load_mid rfl 52 _ rfl g2 0 rfl us _ HR6.out Try.underlying52 rfl (infoPart' HL2.out) ?_
                            go_wp2_with fail
                            refine HPL.out.mono ?_
                            rintro e w6 ⟨rfl, hE6⟩
                            obtain ⟨c9, c10, c11, c12, c13, c14, c15, c16, c17⟩ := HC1.out w6 hE6
                            obtain ⟨d9, d10, d11, d12, d13, d14, d15, d16, d17⟩ := HC2.out w6 hE6
                            have HCL := hide (HSM.out w6 hE6)
                            have HE6 := hide (HE5.out.trans' hE6)
                            clear hE6 n1 n2 e5 HC1 HC2 HSM HPL HR5 HR6
                            cases PB with
                            | false =>
                              have HX := hide (HNO.out k hkn (by rw [HEK.out]; rfl))
                              go_wp2_with fail
                              go_ret
                              exact ⟨ret_bool HX.out, HE3.out.trans' HE6.out⟩
                            | true =>
                              cases SB with
                              | false =>
                                have HX := hide (HNO.out k hkn (by rw [HEK.out]; rfl))
                                go_wp2_with fail
                                refine HCL.out.mono ?_
                                rintro e w7 ⟨rfl, hE7⟩
                                have HE7 := hide (HE6.out.trans' hE7)
                                clear hE7 c9 c10 c11 c12 c13 c14 c15 c16 c17 d9 d10 d11 d12 d13 d14 d15 d16 d17
                                go_wp2_with fail
                                go_ret
                                exact ⟨ret_bool HX.out, HE3.out.trans' HE7.out⟩
                              | true =>
                                have HA2 := hide (below_st HA.out (show E k = true by rw [HEK.out]; rfl))
                                go_wp2_with fail
                                refine HCL.out.mono ?_
                                rintro e w7 ⟨rfl, hE7⟩
                                have HE7 := hide (HE6.out.trans' hE7)
                                clear hE7 HA c9 c10 c11 c12 c13 c14 c15 c16 c17 d9 d10 d11 d12 d13 d14 d15 d16 d17
                                go_wp2_with fail
                                go_roundw
                                case rel => exact ⟨k + 1, by omega, by go_num, HE7.out, HA2⟩
                                case measure => simp [intOf]; omega
                      · obtain rfl : k = n := by omega
                        have HX := hide (HYES.out HA.out)
                        clear HA hE
                        go_wp2_with fail
                        go_ret
                        exact ⟨ret_bool HX.out, HE3.out.trans' HE.out⟩
                  · have hx2 := HX.out
                    rw [decide_eq_false hnn] at hx2
                    have HX2 := hide (show false = R by rw [hx2]; rfl)
                    have hne : ((n : Int) != (n' : Int)) = true := by simp; omega
                    clear hx2 hnn
                    go_wp2_with fail
                    go_ret
                    exact ⟨ret_bool HX2.out, HE3.out⟩
end Go.Proofs.Ytanpljalbijfkaa
