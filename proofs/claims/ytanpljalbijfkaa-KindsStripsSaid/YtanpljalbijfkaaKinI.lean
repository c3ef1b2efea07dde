/- kinds.Same, walked. (Printed by wip/gen_kini.py.) -/
import Derived.Test.YtanpljalbijfkaaKinH
namespace Go.Proofs.Ytanpljalbijfkaa
open Go.RowKit

theorem hdrEq_bne (h h' : TyH) : hdrEq h h' = (!(h.kind != h'.kind) && !(h.lo != h'.lo) && !(h.hi != h'.hi) && !(h.most != h'.most) && (h.name.1.toList == h'.name.1.toList) && wdsEq h.names h'.names) := by
  unfold hdrEq
  rw [str_eq]
  simp only [bne, Bool.not_not]
  rfl
theorem sameT_bne (h : TyH) (n : Nat) (p : Nat → PtH) (t : Nat → Ty) (h' : TyH) (n' : Nat) (p' : Nat → PtH) (t' : Nat → Ty) : sameT (.mk h n p t) (.mk h' n' p' t') = (!(h.kind != h'.kind) && !(h.lo != h'.lo) && !(h.hi != h'.hi) && !(h.most != h'.most) && (h.name.1.toList == h'.name.1.toList) && wdsEq h.names h'.names && (decide (n = n') && allE (fun i => ptEq (p i) (p' i) && sameT (t i) (t' i)) n)) := by
  rw [sameT_mk, hdrEq_bne, Bool.and_assoc _ (decide _)]
  rfl
set_option maxRecDepth 100000 in
set_option maxHeartbeats 4000000 in
theorem same_any (a : Ty) : ∀ (b : Ty) (w : World) (vs us : List Value), TyAt w w.heap.size a vs → TyAt w w.heap.size b us → TySz a → TySz b → Calls Try.prog 13 #[.agg vs.toArray, .agg us.toArray] w (fun e w' => e = .returned (.bool (sameT a b)) ∧ Ext w w') := by
  induction a with
  | nil => intro b w vs us hT; exact hT.elim
  | mk h n p t ih =>
    intro b w vs us hT hU hS hS'
    cases b with
    | nil => exact hU.elim
    | mk h' n' p' t' =>
      obtain ⟨An, cn, Ap, cp, rfl, hN, hP⟩ := hT.open_
      obtain ⟨An', cn', Ap', cp', rfl, hN', hP'⟩ := hU.open_
      obtain ⟨sn, _, hn, hSz⟩ := hS
      obtain ⟨sn', _, hn', hSz'⟩ := hS'
      have hx := sameT_bne h n p t h' n' p' t'
      have hw := fun w1 (hE : Ext w w1) => sameWords_any An cn h.names.length h.names An' cn' h'.names.length h'.names w1 (hN.ext hE) rfl sn.1 (hN'.ext hE) rfl sn'.1
      have hf := fun w1 (hE : Ext w w1) => equalFunc_any n n' p p' t t' (fun i => ptEq (p i) (p' i) && sameT (t i) (t' i)) Ap cp Ap' cp' w1 (hP.ext hE) (hP'.ext hE) (Nat.le_trans hn (by decide)) (fun i hi hi' w2 vs us hE2 hv hu => samePart_any (p i) (p' i) (t i) (t' i) w2 vs us hv hu (hSz i hi).2.1 (hSz i hi).2.2.1 (hSz' i hi').2.1 (hSz' i hi').2.2.1 (fun w3 vt ut hE3 hvt hut => ih i (t' i) w3 vt ut hvt hut (hSz i hi).2.2.2 (hSz' i hi').2.2.2))
      show Calls Try.prog 13 #[.agg #[.int .i64 h.kind, .int .i64 h.at_, .int .i64 h.lo, .int .i64 h.hi, .int .i64 h.most, .slice An h.names.length cn, .slice Ap n cp, .string h.name.1, .int .i64 h.name.2], .agg #[.int .i64 h'.kind, .int .i64 h'.at_, .int .i64 h'.lo, .int .i64 h'.hi, .int .i64 h'.most, .slice An' h'.names.length cn', .slice Ap' n' cp', .string h'.name.1, .int .i64 h'.name.2]] w _
      obtain ⟨R, hR⟩ : ∃ R, R = sameT (.mk h n p t) (.mk h' n' p' t') := ⟨_, rfl⟩
      rw [← hR] at hx ⊢
      obtain ⟨F, hF⟩ : ∃ x, x = (decide (n = n') && allE (fun i => ptEq (p i) (p' i) && sameT (t i) (t' i)) n) := ⟨_, rfl⟩
      rw [← hF] at hx hf
      obtain ⟨Wd1, hWd⟩ : ∃ x, x = wdsEq h.names h'.names := ⟨_, rfl⟩
      rw [← hWd] at hx hw
      clear ih hP hP' hN hN' hSz hSz' sn sn' hR hF hWd hT hU
      obtain ⟨k1, hk1⟩ : ∃ x, x = h.kind := ⟨_, rfl⟩
      rw [← hk1] at hx ⊢
      obtain ⟨a1, ha1⟩ : ∃ x, x = h.at_ := ⟨_, rfl⟩
      rw [← ha1] at ⊢
      obtain ⟨lo1, hlo1⟩ : ∃ x, x = h.lo := ⟨_, rfl⟩
      rw [← hlo1] at hx ⊢
      obtain ⟨hi1, hhi1⟩ : ∃ x, x = h.hi := ⟨_, rfl⟩
      rw [← hhi1] at hx ⊢
      obtain ⟨mo1, hmo1⟩ : ∃ x, x = h.most := ⟨_, rfl⟩
      rw [← hmo1] at hx ⊢
      obtain ⟨z1, hz1⟩ : ∃ x, x = h.names.length := ⟨_, rfl⟩
      rw [← hz1] at hw ⊢
      obtain ⟨s1, hs1⟩ : ∃ x, x = h.name.1 := ⟨_, rfl⟩
      rw [← hs1] at hx ⊢
      obtain ⟨y1, hy1⟩ : ∃ x, x = h.name.2 := ⟨_, rfl⟩
      rw [← hy1] at ⊢
      obtain ⟨k2, hk2⟩ : ∃ x, x = h'.kind := ⟨_, rfl⟩
      rw [← hk2] at hx ⊢
      obtain ⟨a2, ha2⟩ : ∃ x, x = h'.at_ := ⟨_, rfl⟩
      rw [← ha2] at ⊢
      obtain ⟨lo2, hlo2⟩ : ∃ x, x = h'.lo := ⟨_, rfl⟩
      rw [← hlo2] at hx ⊢
      obtain ⟨hi2, hhi2⟩ : ∃ x, x = h'.hi := ⟨_, rfl⟩
      rw [← hhi2] at hx ⊢
      obtain ⟨mo2, hmo2⟩ : ∃ x, x = h'.most := ⟨_, rfl⟩
      rw [← hmo2] at hx ⊢
      obtain ⟨z2, hz2⟩ : ∃ x, x = h'.names.length := ⟨_, rfl⟩
      rw [← hz2] at hw ⊢
      obtain ⟨s2, hs2⟩ : ∃ x, x = h'.name.1 := ⟨_, rfl⟩
      rw [← hs2] at hx ⊢
      obtain ⟨y2, hy2⟩ : ∃ x, x = h'.name.2 := ⟨_, rfl⟩
      rw [← hy2] at ⊢
      obtain ⟨N0, hN0⟩ : ∃ x, x = (k1 != k2) := ⟨_, rfl⟩
      obtain ⟨N1, hN1⟩ : ∃ x, x = (lo1 != lo2) := ⟨_, rfl⟩
      obtain ⟨N2, hN2⟩ : ∃ x, x = (hi1 != hi2) := ⟨_, rfl⟩
      obtain ⟨N3, hN3⟩ : ∃ x, x = (mo1 != mo2) := ⟨_, rfl⟩
      obtain ⟨B4, hB4⟩ : ∃ x, x = (s1.toList == s2.toList) := ⟨_, rfl⟩
      rw [← hN0, ← hN1, ← hN2, ← hN3, ← hB4] at hx
      have e0 := hN0.symm
      have e1 := hN1.symm
      have e2 := hN2.symm
      have e3 := hN3.symm
      have e4 := hB4.symm
      have HX := hide hx
      have HW := hide hw
      have HFN := hide hf
      obtain ⟨w0, hw0⟩ : ∃ w0, w0 = (w.alloc (.cells #[.int .i64 k1, .int .i64 a1, .int .i64 lo1, .int .i64 hi1, .int .i64 mo1, .slice An z1 cn, .slice Ap n cp, .string s1, .int .i64 y1] 27)).alloc (.cells #[.int .i64 k2, .int .i64 a2, .int .i64 lo2, .int .i64 hi2, .int .i64 mo2, .slice An' z2 cn', .slice Ap' n' cp', .string s2, .int .i64 y2] 27) := ⟨_, rfl⟩
      have hBa : Blk w0 w.heap.size 27 #[.int .i64 k1, .int .i64 a1, .int .i64 lo1, .int .i64 hi1, .int .i64 mo1, .slice An z1 cn, .slice Ap n cp, .string s1, .int .i64 y1] := by rw [hw0]; exact (Blk.new _ _ _).alloc _
      have hBb : Blk w0 (w.heap.size + 1) 27 #[.int .i64 k2, .int .i64 a2, .int .i64 lo2, .int .i64 hi2, .int .i64 mo2, .slice An' z2 cn', .slice Ap' n' cp', .string s2, .int .i64 y2] := by
        rw [hw0]; have := Blk.new (w.alloc (.cells #[.int .i64 k1, .int .i64 a1, .int .i64 lo1, .int .i64 hi1, .int .i64 mo1, .slice An z1 cn, .slice Ap n cp, .string s1, .int .i64 y1] 27)) 27 #[.int .i64 k2, .int .i64 a2, .int .i64 lo2, .int .i64 hi2, .int .i64 mo2, .slice An' z2 cn', .slice Ap' n' cp', .string s2, .int .i64 y2]; simpa only [World.size_alloc] using this
      have HE0 := hide (show Ext w w0 by rw [hw0]; exact ((Ext.rfl' w).alloc (Nat.le_refl _) _).alloc (by simp only [World.size_alloc]; omega) _)
      obtain ⟨gb, hgb⟩ : ∃ g, g = w.heap.size + 1 := ⟨_, rfl⟩
      obtain ⟨ga, hga⟩ : ∃ g, g = w.heap.size := ⟨_, rfl⟩
      rw [← hgb] at hBb
      rw [← hga] at hBa
      have HBa := hide hBa
      have HBb := hide hBb
      have v0a := (HBa.out).cell 0
      have v2a := (HBa.out).cell 2
      have v3a := (HBa.out).cell 3
      have v4a := (HBa.out).cell 4
      have v5a := (HBa.out).cell 5
      have v7a := (HBa.out).cell 7
      have v0b := (HBb.out).cell 0
      have v2b := (HBb.out).cell 2
      have v3b := (HBb.out).cell 3
      have v4b := (HBb.out).cell 4
      have v5b := (HBb.out).cell 5
      have v7b := (HBb.out).cell 7
      simp only [List.getElem?_toArray, List.getElem?_cons_zero, List.getElem?_cons_succ] at v0a v2a v3a v4a v5a v7a v0b v2b v3b v4b v5b v7b
      have HW0 := hide hw0
      have HGa := hide hga
      have HGb := hide hgb
      clear hBa hBb hw0 hga hgb hw hf hx hN0 hN1 hN2 hN3 hB4 hk1 ha1 hlo1 hhi1 hmo1 hz1 hs1 hy1 hk2 ha2 hlo2 hhi2 hmo2 hz2 hs2 hy2
      go_enter Try.func13, Try.ntmps13
      go_upto_region 1 with fail
      rw [← HW0.out, ← HGb.out, ← HGa.out]
      cases N0 with
      | true =>
        go_wp2_with fail
        go_ret
        exact ⟨ret_bool (by rw [HX.out]; rfl), HE0.out⟩
      | false =>
        cases N1 with
        | true =>
          go_wp2_with fail
          go_ret
          exact ⟨ret_bool (by rw [HX.out]; rfl), HE0.out⟩
        | false =>
          cases N2 with
          | true =>
            go_wp2_with fail
            go_ret
            exact ⟨ret_bool (by rw [HX.out]; rfl), HE0.out⟩
          | false =>
            cases N3 with
            | true =>
              go_wp2_with fail
              go_ret
              exact ⟨ret_bool (by rw [HX.out]; rfl), HE0.out⟩
            | false =>
              cases B4 with
              | false =>
                go_wp2_with fail
                go_ret
                exact ⟨ret_bool (by rw [HX.out]; rfl), HE0.out⟩
              | true =>
                go_wp2_with fail
                refine (HW.out w0 HE0.out).mono ?_
                rintro e w3 ⟨rfl, hE3⟩
                have HE3 := hide (HE0.out.trans' hE3)
                have u6a := (HBa.out.ext hE3).cell 6
                have u6b := (HBb.out.ext hE3).cell 6
                simp only [List.getElem?_toArray, List.getElem?_cons_zero, List.getElem?_cons_succ] at u6a u6b
                clear hE3 v0a v2a v3a v4a v5a v7a v0b v2b v3b v4b v5b v7b
                cases Wd1 with
                | false =>
                  go_wp2_with fail
                  go_ret
                  exact ⟨ret_bool (by rw [HX.out]; rfl), HE3.out⟩
                | true =>
                  go_wp2_with fail
                  refine (HFN.out w3 HE3.out).mono ?_
                  rintro e w4 ⟨rfl, hE4⟩
                  have HE4 := hide (HE3.out.trans' hE4)
                  clear hE4
                  go_wp2_with fail
                  go_ret
                  exact ⟨ret_bool (by rw [HX.out]; cases F <;> rfl), HE4.out⟩
end Go.Proofs.Ytanpljalbijfkaa
