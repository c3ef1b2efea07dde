/- solve: the document's Solve, walked. -/
import Derived.Test.YtpjlhpaenmfieaaGreatSolRf
import Derived.Test.YtpjlhpaenmfieaaGreatSolQ
import Derived.Test.YtpjlhpaenmfieaaGreatSolAll
import Derived.Test.YtpjlhpaenmfieaaGreatSolO
namespace Go.Proofs.YtpjlhpaenmfieaaGreat
open Go.RowKit

theorem lohi {n m : Nat} {x : List Nat} {r : Ru} (h : rightR n m r = true) (hm : x.length = m) (hx : ∀ v ∈ x, v < n) : ∃ u v : Nat, loR (x.map fun (v : Nat) => (v : Int)) r = u ∧ hiR (x.map fun (v : Nat) => (v : Int)) r = v ∧ u < n ∧ v < n := by
  unfold rightR at h
  unfold loR hiR
  by_cases c1 : r.1 = 1
  · rw [if_pos c1, Bool.and_eq_true, inZ_iff, inZ_iff] at h
    rw [if_pos c1, if_neg (by omega), getD_cast]
    exact ⟨r.2.1.toNat, _, by omega, rfl, by omega, LatM.getD_lt hx (by omega)⟩
  · rw [if_neg c1] at h
    rw [if_neg c1]
    by_cases c2 : r.1 = 2
    · rw [if_pos c2, Bool.and_eq_true, inZ_iff, inZ_iff] at h
      rw [if_neg (by omega), getD_cast, getD_cast]
      exact ⟨_, _, rfl, rfl, LatM.getD_lt hx (by omega), LatM.getD_lt hx (by omega)⟩
    · rw [if_neg c2] at h
      by_cases c3 : r.1 = 3
      · rw [if_pos c3, Bool.and_eq_true, inZ_iff, inZ_iff] at h
        rw [if_pos c3, getD_cast]
        exact ⟨_, r.2.2.toNat, rfl, by omega, LatM.getD_lt hx (by omega), by omega⟩
      · rw [if_neg c3] at h; cases h

set_option maxRecDepth 100000 in
set_option maxHeartbeats 8000000 in
theorem refSolve_any (A : Option Addr) (cp n : Nat) (M : List (List Bool)) (ws : List Wd) (os : List (Wd × Wd)) (np : Int) (A2 : Option Addr) (c2 m : Nat) (rs : List Ru) (w : World) (h : MatAt w w.heap.size A M) (hsq : ∀ r ∈ M, r.length = M.length) (hn : n = M.length) (hl : n ≤ 64) (hnw : n = ws.length) (hMT : mat M = leqL ws os) (hlat : LatM.Lat ws.length (leqL ws os)) (hr : RlsAt w w.heap.size A2 rs) (hm : m = rs.length) (hm' : m ≤ 1000000) :
    Calls Tryz.prog 27 #[.slice A n cp, .int .i64 np, .slice A2 m c2] w (SolPost ws os np rs w) := by
  have HRT := hide (fun (w1 : World) (a b c : Int) => ref44Right_any n np a b c w1)
  have hle : ∀ (w1 : World), Ext w w1 → ∀ k : Nat, k ≤ 64 → (∀ r ∈ rs, rightR n k r = true) → Calls Tryz.prog 63 #[.slice A n cp, .int .i64 (k : Nat), .slice A2 m c2] w1 (LeastPost ws os k rs w1) := fun w1 hE k hk hfit => by
    have := refLeast_any A cp n M A2 c2 m rs k w1 (h.below hE hE.size) hsq hn hl (by rw [hMT, hnw]; exact hlat) (hr.ext hE) hm hm' hk hfit
    rw [hMT, hnw] at this
    rw [hnw]
    exact this.mono fun e w' hp => ⟨_, dLeast_lst hlat (by rw [← hnw]; exact hfit), hp⟩
  have hho : ∀ (w1 : World), Ext w w1 → ∀ (x : List Nat) (A9 : Option Addr) (c9 k : Nat), x.length = k → (∀ v ∈ x, v < n) → NatAt w1 w1.heap.size A9 x → ∀ (r0 r1 r2 : Int), rightR n k (r0, r1, r2) = true → Calls Tryz.prog 64 #[.slice A n cp, .slice A9 k c9, .agg #[.int .i64 r0, .int .i64 r1, .int .i64 r2]] w1 (fun e w' => e = .returned (.bool (holdsR ws os (x.map fun (v : Nat) => (v : Int)) (r0, r1, r2))) ∧ Ext w1 w') := fun w1 hE x A9 c9 k hk hx hN r0 r1 r2 hrt => by
    obtain ⟨u, v, hu, hv, hun, hvn⟩ := lohi hrt hk hx
    have := refHolds_any A cp n M A9 c9 k (x.map fun (v : Nat) => (v : Int)) r0 r1 r2 w1 (h.below hE hE.size) hsq hn hN.ints (by rw [List.length_map, hk]) hrt u v hu hv hun hvn
    have e : mat M u v = holdsR ws os (x.map fun (v : Nat) => (v : Int)) (r0, r1, r2) := by
      unfold holdsR
      rw [List.length_map, hk, ← hnw, hrt, hu, hv, leqI_cast (by rw [← hnw]; exact hun) (by rw [← hnw]; exact hvn), hMT]
      rfl
    rw [e] at this
    exact this
  have HLE := hide hle
  have HHO := hide hho
  have HRS := hide hr
  have HM := hide hm
  have HNW := hide hnw
  have hB : Blk (w.alloc (.cells #[.int .i64 0, .int .i64 0] 31)) w.heap.size 31 #[.int .i64 0, .int .i64 0] := Blk.new _ _ _
  have HB := hide hB
  have HE0 := hide (show Ext w (w.alloc (.cells #[.int .i64 0, .int .i64 0] 31)) from (Ext.rfl' w).alloc (Nat.le_refl _) _)
  obtain ⟨w1, hw1⟩ : ∃ w1, w1 = w.alloc (.cells #[.int .i64 0, .int .i64 0] 31) := ⟨_, rfl⟩
  rw [← hw1] at HB HE0
  have b0 := HB.out.cell 0
  have b1 := HB.out.cell 1
  have f0 := HB.out.free 0
  have f1 := HB.out.free 1
  simp only [List.getElem?_toArray, List.getElem?_cons_zero, List.getElem?_cons_succ] at b0 b1
  have HW1 := hide hw1
  clear hB hw1 h hsq hn hMT hlat hr hm hle hho hnw
  by_cases c0 : np < 0
  · have HX := hide (show SolAns ws os np rs [] (1, 0) from .inl (by have e : solBad ws.length np rs = (1, 0) := by unfold solBad; rw [if_pos (.inl c0)]
                                                                     rw [e]; exact ⟨by decide, rfl, rfl⟩))
    go_enter Tryz.func27, Tryz.ntmps27
    go_upto_region 1 with fail
    rw [← HW1.out]
    go_wp2_with fail
    exact val_flt_ret (f := (1, 0)) (g := w.heap.size) (v := .slice none 0 0) ((HB.out.set_ 0 _).set_ 1 _) rfl rfl rfl rfl (SolPost.bad HX.out (ext_two HE0.out _ _))
  by_cases c1 : 64 < np
  · have HX := hide (show SolAns ws os np rs [] (1, 0) from .inl (by have e : solBad ws.length np rs = (1, 0) := by unfold solBad; rw [if_pos (.inr c1)]
                                                                     rw [e]; exact ⟨by decide, rfl, rfl⟩))
    go_enter Tryz.func27, Tryz.ntmps27
    go_upto_region 1 with fail
    rw [← HW1.out]
    go_wp2_with fail
    exact val_flt_ret (f := (1, 0)) (g := w.heap.size) (v := .slice none 0 0) ((HB.out.set_ 0 _).set_ 1 _) rfl rfl rfl rfl (SolPost.bad HX.out (ext_two HE0.out _ _))
  by_cases c3 : (512 : Int) < (m : Int)
  · have HX := hide (show SolAns ws os np rs [] (8, 512) from .inl (by have e : solBad ws.length np rs = (8, 512) := by unfold solBad; rw [if_neg (by omega), if_pos (by have := HM.out; omega)]
                                                                       rw [e]; exact ⟨by decide, rfl, rfl⟩))
    go_enter Tryz.func27, Tryz.ntmps27
    go_upto_region 1 with fail
    rw [← HW1.out]
    go_wp2_with fail
    exact val_flt_ret (f := (8, 512)) (g := w.heap.size) (v := .slice none 0 0) ((HB.out.set_ 0 _).set_ 1 _) rfl rfl rfl rfl (SolPost.bad HX.out (ext_two HE0.out _ _))
  obtain ⟨k, rfl⟩ := Int.eq_ofNat_of_zero_le (show 0 ≤ np by omega)
  have hk64 : k ≤ 64 := by omega
  have HXX := hide (show ∀ o, firstOf (rBad ws.length k rs) rs.length = o → solBad ws.length k rs = (match o with | some x => x | none => (0, 0)) from fun o ho => by unfold solBad; rw [if_neg (by omega), if_neg (by have := HM.out; omega), ho]; cases o <;> rfl)
  go_enter Tryz.func27, Tryz.ntmps27
  go_upto_region 1 with fail
  rw [← HW1.out]
  go_wp2_with fail
  clear b0 b1 f0 f1
  go_loopw [8] (fun i wr => ∃ q : Nat, q ≤ m ∧ i = .int .i64 (q : Int) ∧ Ext w wr ∧ Blk wr w.heap.size 31 #[.int .i64 0, .int .i64 0] ∧ Hid (∀ j, j < q → rBad ws.length k rs j = none)) (fun i _ => m - (intOf i).toNat)
  case atStart => exact ⟨0, Nat.zero_le _, rfl, HE0.out, HB.out, fun j hj => absurd hj (by omega)⟩
  case round =>
    obtain ⟨q, hq, rfl, hE, hB, HA⟩ := hrel
    have HEr := hide hE
    have HBr := hide hB
    have b0 := hB.cell 0
    have b1 := hB.cell 1
    have f0 := hB.free 0
    have f1 := hB.free 1
    simp only [List.getElem?_toArray, List.getElem?_cons_zero, List.getElem?_cons_succ] at b0 b1
    by_cases hqm : q < m
    · have hql : q < rs.length := by rw [← HM.out]; exact hqm
      obtain ⟨b, o, rfl, hbs, hcell⟩ := HRS.out.cell (by omega)
      obtain ⟨p0, p1, p2⟩ := hcell q hql
      have q0 := (hE.cell (p := ⟨b, o + q * 3, none⟩) hbs).trans p0
      have q1 := (hE.cell (p := ⟨b, o + q * 3 + 1, none⟩) hbs).trans p1
      have q2 := (hE.cell (p := ⟨b, o + q * 3 + 2, none⟩) hbs).trans p2
      have hbad : rBad ws.length k rs q = if rightR n k ((rl rs q).1, (rl rs q).2.1, (rl rs q).2.2) = true then none else some (20, (q : Int)) := by rw [HNW.out]; rfl
      obtain ⟨r0, hr0⟩ : ∃ r, r = (rl rs q).1 := ⟨_, rfl⟩
      obtain ⟨r1, hr1⟩ : ∃ r, r = (rl rs q).2.1 := ⟨_, rfl⟩
      obtain ⟨r2, hr2⟩ : ∃ r, r = (rl rs q).2.2 := ⟨_, rfl⟩
      rw [← hr0] at q0 hbad
      rw [← hr1] at q1 hbad
      rw [← hr2] at q2 hbad
      have HR1 := hide (HRT.out wr r0 r1 r2)
      obtain ⟨R, hR⟩ : ∃ R, R = rightR n k (r0, r1, r2) := ⟨_, rfl⟩
      rw [← hR] at hbad HR1
      have HBAD := hide hbad
      have i0 : (0 : Int) ≤ (q : Int) := by omega
      have i1 : (q : Int) < (m : Int) := by omega
      clear hcell p0 p1 p2 hr0 hr1 hr2 hbad hR hE hB b0 b1 f0 f1
      go_wp2_with fail
      refine HR1.out.mono ?_
      rintro e w3 ⟨rfl, hE3⟩
      have HE3 := hide (HEr.out.trans' hE3)
      have HB3 := hide (HBr.out.ext hE3)
      have b0 := HB3.out.cell 0
      have b1 := HB3.out.cell 1
      have f0 := HB3.out.free 0
      have f1 := HB3.out.free 1
      simp only [List.getElem?_toArray, List.getElem?_cons_zero, List.getElem?_cons_succ] at b0 b1
      clear hE3 q0 q1 q2
      cases R with
      | false =>
        have HX := hide (show SolAns ws os k rs [] (20, (q : Int)) from .inl (by
          have e : solBad ws.length k rs = (20, (q : Int)) := HXX.out _ (firstOf_hit hql HA.out HBAD.out)
          rw [e]; exact ⟨by show (20 : Int) ≠ 0; decide, rfl, rfl⟩))
        go_wp2_with fail
        exact val_flt_ret (f := (20, (q : Int))) (g := w.heap.size) (v := .slice none 0 0) ((HB3.out.set_ 0 _).set_ 1 _) rfl rfl rfl rfl (SolPost.bad HX.out (ext_two HE3.out _ _))
      | true =>
        have HA2 := hide (below_step HA.out (show rBad ws.length k rs q = none from HBAD.out))
        clear HA b0 b1 f0 f1
        go_wp2_with fail
        go_roundw
        case rel => exact ⟨q + 1, by omega, by go_num, HE3.out, HB3.out, HA2⟩
        case measure => simp [intOf]; omega
    · obtain rfl : q = m := by omega
      have hz : solBad ws.length k rs = (0, 0) := HXX.out _ (firstOf_miss.2 (by rw [← HM.out]; exact HA.out))
      have hfit : ∀ r ∈ rs, rightR n k r = true := by rw [HNW.out]; exact (solBad_ok (by rw [hz])).2.2.2.2
      have HFT := hide (fun i (hi : i < rs.length) => hfit _ (rl_mem hi))
      have HANS := hide (show ∀ x, LatM.Lst ws.length k (leqL ws os) rs x → ∀ y f, ((firstOf (hBad ws os x rs) rs.length = some f ∧ y = []) ∨ (firstOf (hBad ws os x rs) rs.length = none ∧ f = (0, 0) ∧ y = x)) → SolAns ws os k rs y f from fun x hx y f h => .inr ⟨by rw [hz], x, by rw [Int.toNat_natCast]; exact hx, h⟩)
      have HL1 := hide (HLE.out wr HEr.out k hk64 hfit)
      clear hz hfit b0 b1 f0 f1 hE hB HA HLE HXX
      go_wp2_with fail
      refine HL1.out.mono ?_
      rintro e w4 ⟨x, hx, A9, c9, rfl, hN, hE4⟩
      have HLST := hide hx
      have hxl := hx.len
      have hxn : ∀ v ∈ x, v < n := by rw [HNW.out]; exact hx.lt
      have HXN := hide hxn
      have HN := hide hN
      have HB4 := hide (HBr.out.ext hE4)
      have HE4 := hide (HEr.out.trans' hE4)
      have HXL := hide hxl
      rw [hxl]
      clear hx hN hE4 hxl hxn
      go_wp2_with fail
      go_loopw [10] (fun i wr => ∃ j : Nat, j ≤ q ∧ i = .int .i64 j ∧ Ext w wr ∧ Ext w4 wr ∧ Blk wr w.heap.size 31 #[.int .i64 0, .int .i64 0] ∧ Hid (∀ q, q < j → hBad ws os x rs q = none)) (fun i _ => q - (intOf i).toNat)
      case atStart => exact ⟨0, Nat.zero_le _, rfl, HE4.out, Ext.rfl' _, HB4.out, hide fun q hq => absurd hq (by omega)⟩
      case round =>
        rename World => wo
        obtain ⟨j, hj, rfl, hE, hE', hB, HA⟩ := hrel
        by_cases hjm : j < q
        · have hjl : j < rs.length := by rw [← HM.out]; exact hjm
          obtain ⟨b, o, rfl, hbs, hcell⟩ := HRS.out.cell (by omega)
          obtain ⟨p0, p1, p2⟩ := hcell j hjl
          have q0 := (hE.cell (p := ⟨b, o + j * 3, none⟩) hbs).trans p0
          have q1 := (hE.cell (p := ⟨b, o + j * 3 + 1, none⟩) hbs).trans p1
          have q2 := (hE.cell (p := ⟨b, o + j * 3 + 2, none⟩) hbs).trans p2
          have hbad : hBad ws os x rs j = if holdsR ws os (x.map fun (v : Nat) => (v : Int)) (rl rs j) = true then none else some (18, (j : Int)) := rfl
          have hft := HFT.out j hjl
          obtain ⟨r, hr⟩ : ∃ r, r = rl rs j := ⟨_, rfl⟩
          rw [← hr] at q0 q1 q2 hbad hft
          obtain ⟨r0, r1, r2⟩ := r
          have hh := HHO.out _ hE x A9 c9 k HXL.out HXN.out (HN.out.ext hE') r0 r1 r2 hft
          obtain ⟨R, hR⟩ : ∃ R, R = holdsR ws os (x.map fun (v : Nat) => (v : Int)) (r0, r1, r2) := ⟨_, rfl⟩
          rw [← hR] at hh hbad
          have HBAD := hide hbad
          have HHH := hide hh
          have HE5 := hide hE
          have HE5' := hide hE'
          have HB5 := hide hB
          have i0 : (0 : Int) ≤ (j : Int) := by omega
          have i1 : (j : Int) < (q : Int) := by omega
          clear hcell p0 p1 p2 hr hbad hE hE' hB hh hR hft
          go_wp2_with fail
          refine HHH.out.mono ?_
          rintro e w6 ⟨rfl, hE6⟩
          have HE6 := hide (HE5.out.trans' hE6)
          have HE6' := hide (HE5'.out.trans' hE6)
          have HB6 := hide (HB5.out.ext hE6)
          have c0 := HB6.out.cell 0
          have c1 := HB6.out.cell 1
          have e0 := HB6.out.free 0
          have e1 := HB6.out.free 1
          simp only [List.getElem?_toArray, List.getElem?_cons_zero, List.getElem?_cons_succ] at c0 c1
          clear hE6 q0 q1 q2
          cases R with
          | false =>
            have HX := hide (HANS.out x HLST.out [] _ (.inl ⟨firstOf_hit hjl HA.out HBAD.out, rfl⟩))
            go_wp2_with fail
            exact val_flt_ret (f := (18, (j : Int))) (g := w.heap.size) (v := .slice none 0 0) ((HB6.out.set_ 0 _).set_ 1 _) rfl rfl rfl rfl (SolPost.bad HX.out (ext_two HE6.out _ _))
          | true =>
            have HA2 := hide (below_step HA.out (show hBad ws os x rs j = none from HBAD.out))
            clear HA
            go_wp2_with fail
            go_roundw
            case rel => exact ⟨j + 1, by omega, by go_num, HE6.out, HE6'.out, HB6.out, HA2⟩
            case measure => simp [intOf]; omega
        · obtain rfl : j = q := by omega
          have HX := hide (HANS.out x HLST.out x (0, 0) (.inr ⟨firstOf_miss.2 (by rw [← HM.out]; exact HA.out), rfl, rfl⟩))
          have c0 := hB.cell 0
          have c1 := hB.cell 1
          have e0 := hB.free 0
          have e1 := hB.free 1
          simp only [List.getElem?_toArray, List.getElem?_cons_zero, List.getElem?_cons_succ] at c0 c1
          have HEr := hide hE
          have HEr' := hide hE'
          have HBr := hide hB
          clear hE hE' hB
          go_wp2_with fail
          exact val_flt_ret (f := (0, 0)) (g := w.heap.size) (v := .slice A9 k c9) ((HBr.out.set_ 0 _).set_ 1 _) rfl rfl rfl rfl ⟨x, (0, 0), A9, c9, by rw [HXL.out], (by rw [setCell_same _ HBr.out rfl, setCell_same _ HBr.out rfl]; exact HN.out.ext HEr'.out), ext_two HEr.out _ _, HX.out⟩
end Go.Proofs.YtpjlhpaenmfieaaGreat
