/- The law RelOrders, walked. -/
import Derived.Test.YtkfepdejiedjbaaRelQ
namespace Go.Proofs.Ytkfepdejiedjbaa
open Go.RowKit

theorem refLoopI_some {M : List (List Bool)} {a : Nat} (h : refLoop M = some a) : refLoopI M = a := by simp [refLoopI, h]
theorem refLoopI_none {M : List (List Bool)} (h : refLoop M = none) : refLoopI M = -1 := by simp [refLoopI, h]

set_option maxRecDepth 100000 in
set_option maxHeartbeats 1000000 in
theorem ordersA (n : Int) (A : Option Addr) (c : Nat) (ps : List (Int × Int)) (w : World) (h : PairsAt w w.heap.size A ps) (hl : ps.length ≤ 9223372036854775807) :
    Calls Try.prog 4 #[.int .i64 n, .slice A ps.length c] w (BoolPost true w) := by
  by_cases h300 : (300 : Int) < ps.length
  · go_enter Try.func4, Try.ntmps4
    go_wp2_with fail
    refine (relLives_any _).mono ?_
    rintro e w' ⟨rfl, hE⟩
    go_wp2_with fail
    go_ret
    exact ⟨rfl, hE⟩
  · have H0 := hide h
    clear h
    go_enter Try.func4, Try.ntmps4
    go_wp2_with fail
    refine (refRight_any n A c ps _ H0.out hl).mono ?_
    rintro e w1 ⟨rfl, hE1⟩
    have HE1 := hide hE1
    clear hE1
    cases hr : rightB n ps with
    | false =>
      clear hr
      go_wp2_with fail
      refine (relLives_any _).mono ?_
      rintro e w' ⟨rfl, hE⟩
      have HE := hide hE
      clear hE
      go_wp2_with fail
      go_ret
      exact ⟨rfl, Ext.trans' HE1.out HE.out⟩
    | true =>
      obtain ⟨m, rfl, hm, hok⟩ := rightB_nat hr
      have HOK := hide hok
      have HRT := hide hr
      clear hok hr
      go_wp2_with fail
      refine (relNew_all m A c ps w1 (H0.out.ext HE1.out) hl).mono ?_
      rintro e w2 (⟨_, bo, rfl, hR, hE2⟩ | ⟨hf, _⟩)
      · rw [Int.toNat_natCast] at hR
        have HR := hide hR
        have HE2 := hide (Ext.trans' HE1.out hE2)
        clear hR hE2
        go_wp2_with fail
        refine (refLeads_any m hm A c ps _ (H0.out.ext HE2.out) hl HOK.out).mono ?_
        rintro e w3 ⟨AL, cL, rfl, hM, hE3⟩
        have HE3 := hide (Ext.trans' HE2.out hE3)
        have HR3 := hide (HR.out.ext hE3)
        have HM3 := hide hM
        clear hM hE3 HR
        go_wp2_with fail
        refine (relLoop_any bo (newRows m ps) _ HR3.out).mono ?_
        rintro e w4 ⟨rfl, hE4⟩
        have HE4 := hide (Ext.trans' HE3.out hE4)
        have HR4 := hide (HR3.out.ext hE4)
        have HM4 := hide (HM3.out.below hE4 hE4.size)
        clear hE4 HR3 HM3
        obtain ⟨lo, hlo⟩ : ∃ lo, lo = loopOf (RelM.close (newRows m ps)) := ⟨_, rfl⟩
        have hrl : refLoop (leads m ps) = lo := by rw [hlo, loop_eq hm HOK.out]
        rw [← hlo]
        have HLO := hide hlo
        have HRL := hide hrl
        clear hlo hrl
        have hcallL := refLoop_any AL cL (leads m ps) w4 HM4.out (leads_sq m ps) (by rw [leads_length]; exact hm)
        have HCL := hide hcallL
        clear hcallL
        rcases lo with _ | a
        · have hI := refLoopI_none HRL.out
          rw [hI] at HCL
          clear hI
          simp only [Option.getD_none, Option.isSome_none, Int.natCast_zero]
          rw [leads_length] at HCL ⊢
          go_wp2_with fail
          refine HCL.out.mono ?_
          rintro e w' ⟨rfl, rfl⟩
          go_wp2_with fail
          refine (relOrder_any bo (newRows m ps) _ HR4.out).mono ?_
          rintro e w5 (⟨hx, _⟩ | ⟨_, A5, c5, he, hO5, hE5⟩)
          · rw [← HLO.out] at hx; cases hx
          · have hfull := order_full HOK.out HRL.out
            have heq := order_eq HOK.out
            rw [hfull] at he hO5
            subst he
            have HE5 := hide (Ext.trans' HE4.out hE5)
            have HM5 := hide (HM4.out.below hE5 hE5.size)
            have HO5 := hide hO5
            clear hE5 hO5
            have hcO := refOrder_any AL cL (leads m ps) w5 HM5.out (leads_sq m ps) (by rw [leads_length]; exact hm)
            rw [← heq, hfull, leads_length] at hcO
            obtain ⟨os, hos⟩ : ∃ os, os = orderOf (newRows m ps) := ⟨_, rfl⟩
            rw [← hos] at hcO HO5 hfull
            have HF := hide hfull
            have HCO := hide hcO
            clear hcO hos heq hfull
            go_wp2_with fail
            refine HCO.out.mono ?_
            rintro e w6 ⟨A6, c6, rfl, hO6, hE6⟩
            have HO6 := hide (own_ext HO5.out hE6)
            have HP6 := hide hO6
            have HE6 := hide (Ext.trans' HE5.out hE6)
            clear hO6 hE6 HO5
            go_wp2_with fail
            go_loopw [14] (fun i wr => ∃ k : Nat, k ≤ m ∧ i = .int .i64 k ∧ Ext w6 wr) (fun i _ => m - (intOf i).toNat)
            case atStart => exact ⟨0, Nat.zero_le _, rfl, Ext.rfl' _⟩
            case round =>
              obtain ⟨k, hk, rfl, hEk⟩ := hrel
              by_cases hkm : k < m
              · obtain ⟨g5, rfl, _, hc5, _⟩ := own_cell (own_ext HO6.out hEk) (by omega)
                obtain ⟨g6, rfl, _, hc6, _⟩ := own_cell (own_ext HP6.out hEk) (by omega)
                have f5 := hc5 k hkm
                have f6 := hc6 k hkm
                rw [show (os.map natv)[k]? = some (natv (os.getD k 0)) by simp [List.getD, HF.out, hkm]] at f5 f6
                obtain ⟨v, hv⟩ : ∃ v, v = os.getD k 0 := ⟨_, rfl⟩
                rw [← hv] at f5 f6
                have HEk := hide hEk
                clear hc5 hc6 hv hEk
                go_wp2_with fail
                go_quiet (fail)
                go_wp2_with fail
                go_roundw
                case rel => exact ⟨k + 1, by omega, by go_num, below_drewN HEk.out _⟩
                case measure => simp [intOf]; omega
              · have HEk := hide hEk
                clear hEk
                go_wp2_with fail
                refine (relLives_any _).mono ?_
                rintro e w7 ⟨rfl, hE7⟩
                have HE7 := hide hE7
                clear hE7
                go_wp2_with fail
                go_ret
                exact ⟨rfl, Ext.trans' HE6.out (Ext.trans' HEk.out HE7.out)⟩
        · have hI := refLoopI_some HRL.out
          rw [hI] at HCL
          clear hI
          simp only [Option.getD_some, Option.isSome_some]
          rw [leads_length] at HCL ⊢
          go_wp2_with fail
          refine HCL.out.mono ?_
          rintro e w' ⟨rfl, rfl⟩
          go_wp2_with fail
          refine (relOrder_any bo (newRows m ps) _ HR4.out).mono ?_
          rintro e w5 (⟨_, rfl, hE5⟩ | ⟨hx, _⟩)
          · have HE5 := hide (Ext.trans' HE4.out hE5)
            clear hE5
            go_wp2_with fail
            refine (relLives_any _).mono ?_
            rintro e w7 ⟨rfl, hE7⟩
            have HE7 := hide hE7
            clear hE7
            go_wp2_with fail
            go_ret
            exact ⟨rfl, Ext.trans' HE5.out HE7.out⟩
          · rw [← HLO.out] at hx; cases hx
      · rw [HRT.out] at hf; cases hf

end Go.Proofs.Ytkfepdejiedjbaa
