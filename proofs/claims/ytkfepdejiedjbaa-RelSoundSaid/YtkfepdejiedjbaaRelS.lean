/- The law RelSound, walked. -/
import Derived.Test.YtkfepdejiedjbaaRelQ
namespace Go.Proofs.Ytkfepdejiedjbaa
open Go.RowKit

theorem close_in {n : Nat} {ps : List (Int × Int)} (hok : okPs n ps = true) (a b : Nat) (h : RelM.bit (RelM.close (newRows n ps)) a b = true) : a < n ∧ b < n := by
  by_cases ha : a < n
  · exact ⟨ha, RelM.Reach.inside (fun x y hxy => natP_in hok (x, y) hxy) ((close_mat hok a b ha).1 h) ha⟩
  · exfalso
    unfold RelM.bit at h
    rw [List.getD, List.getElem?_eq_none (by rw [RelM.close_length, newRows_length]; omega)] at h
    simp at h

theorem flat {E F : Nat → Nat → Prop} {a b : Nat} (h : RelM.Reach F a b) (hF : ∀ p q, F p q → RelM.Reach E p q) : RelM.Reach E a b := by
  induction h with
  | refl => exact .refl _
  | step _ e ih => exact ih.trans (hF _ _ e)

theorem close_idem {n : Nat} {ps : List (Int × Int)} (hok : okPs n ps = true) (x y : Int) : hasB (RelM.close (RelM.close (newRows n ps))) x y = hasB (RelM.close (newRows n ps)) x y := by
  have hl : (RelM.close (newRows n ps)).length = n := by rw [RelM.close_length, newRows_length]
  rw [Bool.eq_iff_iff]
  by_cases hx : 0 ≤ x ∧ x < n ∧ 0 ≤ y ∧ y < n
  · obtain ⟨a, rfl⟩ := Int.eq_ofNat_of_zero_le hx.1
    obtain ⟨b, rfl⟩ := Int.eq_ofNat_of_zero_le hx.2.2.1
    have ha : a < n := by omega
    rw [hasB_nat, hasB_nat, RelM.close_length]
    simp only [Bool.and_eq_true]
    rw [RelM.close_reach (RelM.close (newRows n ps)) (fun x y h => by rw [hl]; exact (close_in hok x y h).2) a b (by omega)]
    constructor
    · rintro ⟨h1, h2⟩
      refine ⟨h1, (close_mat hok a b ha).2 ?_⟩
      exact flat h2 fun p q e => (close_mat hok p q (by rw [hl] at e; exact e.1)).1 e.2
    · rintro ⟨h1, h2⟩
      exact ⟨h1, .one ⟨by omega, h2⟩⟩
  · have hn : ∀ rs : List Nat, rs.length = n → hasB rs x y = false := fun rs hr => by
      unfold hasB
      rw [hr]
      simp only [Bool.and_eq_false_iff, decide_eq_false_iff_not]
      exact .inl hx
    rw [hn _ (by rw [RelM.close_length, hl]), hn _ hl]

theorem close_trans {n : Nat} {ps : List (Int × Int)} (hok : okPs n ps = true) (x y z : Int) (h1 : hasB (RelM.close (newRows n ps)) x y = true) (h2 : hasB (RelM.close (newRows n ps)) y z = true) : hasB (RelM.close (newRows n ps)) x z = true := by
  have hl : (RelM.close (newRows n ps)).length = n := by rw [RelM.close_length, newRows_length]
  have k1 := h1
  have k2 := h2
  unfold hasB at k1 k2
  simp only [Bool.and_eq_true, decide_eq_true_eq] at k1 k2
  obtain ⟨x, rfl⟩ := Int.eq_ofNat_of_zero_le k1.1.1
  obtain ⟨y, rfl⟩ := Int.eq_ofNat_of_zero_le k2.1.1
  obtain ⟨z, rfl⟩ := Int.eq_ofNat_of_zero_le k2.1.2.2.1
  rw [hasB_nat, hl] at h1 h2 ⊢
  simp only [Bool.and_eq_true, decide_eq_true_eq] at h1 h2 ⊢
  exact ⟨⟨h1.1.1, h2.1.2⟩, (close_mat hok x z h1.1.1).2 (((close_mat hok x y h1.1.1).1 h1.2).trans ((close_mat hok y z h2.1.1).1 h2.2))⟩

theorem close_refl {n : Nat} {ps : List (Int × Int)} (hok : okPs n ps = true) (x : Int) (h0 : 0 ≤ x) (h1 : x < n) : hasB (RelM.close (newRows n ps)) x x = true := by
  have hl : (RelM.close (newRows n ps)).length = n := by rw [RelM.close_length, newRows_length]
  obtain ⟨x, rfl⟩ := Int.eq_ofNat_of_zero_le h0
  rw [hasB_nat, hl]
  simp only [Bool.and_eq_true, decide_eq_true_eq]
  exact ⟨by omega, (close_mat hok x x (by omega)).2 (.refl _)⟩

theorem close_given {n : Nat} {ps : List (Int × Int)} (hok : okPs n ps = true) (i : Nat) (hi : i < ps.length) (x y : Int) (hxy : ps[i] = (x, y)) : hasB (RelM.close (newRows n ps)) x y = true := by
  have hl : (RelM.close (newRows n ps)).length = n := by rw [RelM.close_length, newRows_length]
  obtain ⟨a, b, e, ha, hb⟩ := okPs_at hok i hi
  rw [e] at hxy
  have ex : x = (a : Int) := (Prod.mk.inj hxy).1.symm
  have ey : y = (b : Int) := (Prod.mk.inj hxy).2.symm
  subst ex
  subst ey
  rw [hasB_nat, hl]
  simp only [Bool.and_eq_true, decide_eq_true_eq]
  exact ⟨⟨ha, hb⟩, (close_mat hok a b ha).2 (.one (List.mem_map.2 ⟨ps[i], List.getElem_mem hi, by rw [e]; simp⟩))⟩

theorem order_pair {n : Nat} {ps : List (Int × Int)} (hok : okPs n ps = true) (k i : Nat) (hk : k < i) (hi : i < (orderOf (newRows n ps)).length) :
    (orderOf (newRows n ps)).getD k 0 ≠ (orderOf (newRows n ps)).getD i 0 ∧ hasB (newRows n ps) ((orderOf (newRows n ps)).getD i 0 : Nat) ((orderOf (newRows n ps)).getD k 0 : Nat) = false := by
  obtain ⟨taken, T, hs⟩ := order_sim hok
  have hp := List.pairwise_iff_getElem.1 hs.order k i (by omega) hi hk
  have e1 : (orderOf (newRows n ps)).getD k 0 = (orderOf (newRows n ps))[k] := by simp [List.getD, show k < (orderOf (newRows n ps)).length by omega]
  have e2 : (orderOf (newRows n ps)).getD i 0 = (orderOf (newRows n ps))[i] := by simp [List.getD, hi]
  rw [e1, e2]
  refine ⟨hp.1, ?_⟩
  rw [hasB_nat, Bool.and_eq_false_iff]
  right
  rw [← Bool.not_eq_true]
  exact fun h => hp.2 ((newRows_bit n ps hok _ _).1 h)

set_option maxRecDepth 100000 in
set_option maxHeartbeats 1000000 in
theorem soundA (n : Int) (A : Option Addr) (c : Nat) (ps : List (Int × Int)) (x y z : Int) (w : World) (h : PairsAt w w.heap.size A ps) (hl : ps.length ≤ 9223372036854775807) :
    Calls Try.prog 5 #[.int .i64 n, .slice A ps.length c, .agg #[.int .i64 x, .int .i64 y, .int .i64 z]] w (BoolPost true w) := by
  obtain ⟨w0, hw0⟩ : ∃ w0, w0 = w.alloc (.cells #[.int .i64 x, .int .i64 y, .int .i64 z] 43) := ⟨_, rfl⟩
  have hq : Blk w0 w.heap.size 43 #[.int .i64 x, .int .i64 y, .int .i64 z] := by rw [hw0]; exact Blk.new _ _ _
  have hE0 : Ext w w0 := by rw [hw0]; exact (Ext.rfl' w).alloc (Nat.le_refl _) _
  have h0 : PairsAt w0 w0.heap.size A ps := h.ext hE0
  obtain ⟨gq, hgq⟩ : ∃ g, g = w.heap.size := ⟨_, rfl⟩
  rw [← hgq] at hq
  have HQ := hide hq
  have HE0 := hide hE0
  have HW0 := hide hw0
  have H0 := hide h0
  have HGQ := hide hgq
  clear hq hE0 h0 hw0 hgq h
  go_enter Try.func5, Try.ntmps5
  go_wp2_with fail
  rw [← HW0.out, ← HGQ.out]
  refine (relNew_all n A c ps w0 H0.out hl).mono ?_
  rintro e w1 (⟨hr, bo, rfl, hR, hE1⟩ | ⟨hr, rfl, hE1⟩)
  · obtain ⟨m, rfl, hm, hok⟩ := rightB_nat hr
    rw [Int.toNat_natCast] at hR
    have HOK := hide hok
    have HR := hide hR
    have HE1 := hide hE1
    clear hr hE1 hR hok
    go_wp2_with fail
    refine (relClose_any bo (newRows m ps) _ HR.out).mono ?_
    rintro e w2 ⟨bc, rfl, hC, hE2⟩
    have HE2 := hide (Ext.trans' HE1.out hE2)
    have HR2 := hide (HR.out.ext hE2)
    have HC := hide hC
    clear hE2 hC HR
    go_wp2_with fail
    refine (relClose_any bc (RelM.close (newRows m ps)) _ HC.out).mono ?_
    rintro e w3 ⟨bd, rfl, hD, hE3⟩
    have HE3 := hide (Ext.trans' HE2.out hE3)
    have HR3 := hide (HR2.out.ext hE3)
    have HC3 := hide (HC.out.ext hE3)
    have HD3 := hide hD
    clear hE3 hD HR2 HC
    go_wp2_with fail
    go_loopw [11] (fun i wr => ∃ k : Nat, k ≤ ps.length ∧ i = .int .i64 k ∧ Ext w3 wr) (fun i _ => ps.length - (intOf i).toNat)
    case atStart => exact ⟨0, Nat.zero_le _, rfl, Ext.rfl' _⟩
    case round =>
      obtain ⟨k, hk, rfl, hEk⟩ := hrel
      by_cases hlt : k < ps.length
      · have hps := H0.out.ext (Ext.trans' HE3.out hEk)
        obtain ⟨b, o, rfl, hb, hcell⟩ := hps.cell (by omega)
        obtain ⟨hp1, hp2⟩ := hcell k hlt
        obtain ⟨x', y', hxy⟩ : ∃ x' y', ps[k] = (x', y') := ⟨_, _, rfl⟩
        rw [hxy] at hp1 hp2
        have HG := hide (close_given HOK.out k hlt x' y' hxy)
        have HCr := hide (HC3.out.ext hEk)
        have HEk := hide hEk
        clear hps hcell hxy hEk
        have HCall := hide (fun n : Nat => quiet_left (n := n) (relHas_any bc (RelM.close (newRows m ps)) (_root_.Go.World.drewN wr n) (HCr.out.ext (below_drewN (Ext.rfl' _) n)) x' y'))
        rw [HG.out] at HCall
        go_wp2_with fail
        go_quiet ((go_at_call 17; exact HCall.out _))
        go_wp2_with fail
        go_roundw
        case rel => exact ⟨k + 1, by omega, by go_num, below_drewN HEk.out _⟩
        case measure => simp [intOf]; omega
      · obtain rfl : k = ps.length := by omega
        have HEk := hide (Ext.trans' HE3.out hEk)
        have HRk := hide (HR3.out.ext hEk)
        have HCk := hide (HC3.out.ext hEk)
        have HDk := hide (HD3.out.ext hEk)
        clear hEk
        go_upto_region 11 with fail
        go_cut [105] (fun v wx => v = .bool false ∧ Ext wr wx)
        case first =>
          have hq := HQ.out.ext HEk.out
          obtain ⟨b01, h01⟩ : ∃ v, v = hasB (RelM.close (newRows m ps)) x y := ⟨_, rfl⟩
          obtain ⟨b12, h12⟩ : ∃ v, v = hasB (RelM.close (newRows m ps)) y z := ⟨_, rfl⟩
          obtain ⟨b02, h02⟩ : ∃ v, v = hasB (RelM.close (newRows m ps)) x z := ⟨_, rfl⟩
          obtain ⟨b00, h00⟩ : ∃ v, v = hasB (RelM.close (newRows m ps)) x x := ⟨_, rfl⟩
          have hkey : b01 = false ∨ (b01 = true ∧ b12 = false) ∨ (b01 = true ∧ b12 = true ∧ b02 = true) := by
            cases b01 with
            | false => exact .inl rfl
            | true =>
              cases b12 with
              | false => exact .inr (.inl ⟨rfl, rfl⟩)
              | true => exact .inr (.inr ⟨rfl, rfl, by rw [h02]; exact close_trans HOK.out x y z h01.symm h12.symm⟩)
          have hb00 : 0 ≤ x → x < m → b00 = true := fun a b => by rw [h00]; exact close_refl HOK.out x a b
          refine wp_region_ext (by kernel_rfl) (by kernel_rfl) wr (Ext.rfl' _) ?_
          intro I _ f hf hc
          have q0 := hq.cell 0
          have q1 := hq.cell 1
          have q2 := hq.cell 2
          simp at q0 q1 q2
          have q0' : ∀ n, (f n).cell? ⟨gq, 0, none⟩ = some (.int .i64 x) := fun n => ((hf n).cell (p := ⟨gq, 0, none⟩) (hq.lt)).trans q0
          have q1' : ∀ n, (f n).cell? ⟨gq, 1, none⟩ = some (.int .i64 y) := fun n => ((hf n).cell (p := ⟨gq, 1, none⟩) (hq.lt)).trans q1
          have q2' : ∀ n, (f n).cell? ⟨gq, 2, none⟩ = some (.int .i64 z) := fun n => ((hf n).cell (p := ⟨gq, 2, none⟩) (hq.lt)).trans q2
          have HA5 := hide (fun n => fam_same (relHas_any bc (RelM.close (newRows m ps)) (f n) (HCk.out.ext (hf n)) x y))
          have HB5 := hide (fun n => fam_same (relHas_any bc (RelM.close (newRows m ps)) (f n) (HCk.out.ext (hf n)) y z))
          have HC5 := hide (fun n => fam_same (relHas_any bc (RelM.close (newRows m ps)) (f n) (HCk.out.ext (hf n)) x z))
          have HD5 := hide (fun n => fam_same (relHas_any bd (RelM.close (RelM.close (newRows m ps))) (f n) (HDk.out.ext (hf n)) x y))
          have HE5 := hide (fun n => fam_same (relHas_any bc (RelM.close (newRows m ps)) (f n) (HCk.out.ext (hf n)) x x))
          simp only [← h01] at HA5
          simp only [← h12] at HB5
          simp only [← h02] at HC5
          simp only [close_idem HOK.out, ← h01] at HD5
          simp only [← h00] at HE5
          have HF := hide hf
          have HB00 := hide hb00
          have HK := hide hkey
          clear hq hf hc h01 h12 h02 h00 q0 q1 q2 hb00 hkey
          by_cases hx0 : 0 ≤ x
          · by_cases hx1 : x < m
            · have hb := HB00.out hx0 hx1
              subst hb
              rcases HK.out with rfl | ⟨rfl, rfl⟩ | ⟨rfl, rfl, rfl⟩
              all_goals
                clear HK HB00
                repeat (go_big_quiet_step ((go_at_call 17; first | (with_reducible exact HA5.out _) | (with_reducible exact HB5.out _) | (with_reducible exact HC5.out _) | (with_reducible exact HD5.out _) | (with_reducible exact HE5.out _))))
                refine wpQuiet_nil ?_
                rintro _ ⟨nq, rfl⟩
                go_wp2_with fail
                go_meet
                exact ⟨rfl, HF.out nq⟩
            · rcases HK.out with rfl | ⟨rfl, rfl⟩ | ⟨rfl, rfl, rfl⟩
              all_goals
                clear HK HB00
                have hx1' : decide (x < (m : Int)) = false := by simpa using hx1
                repeat (go_big_quiet_step ((go_at_call 17; first | (with_reducible exact HA5.out _) | (with_reducible exact HB5.out _) | (with_reducible exact HC5.out _) | (with_reducible exact HD5.out _) | (with_reducible exact HE5.out _))))
                refine wpQuiet_nil ?_
                rintro _ ⟨nq, rfl⟩
                go_wp2_with fail
                go_meet
                exact ⟨rfl, HF.out nq⟩
          · rcases HK.out with rfl | ⟨rfl, rfl⟩ | ⟨rfl, rfl, rfl⟩
            all_goals
              clear HK HB00
              have hx0' : decide ((0 : Int) ≤ x) = false := by simpa using hx0
              repeat (go_big_quiet_step ((go_at_call 17; first | (with_reducible exact HA5.out _) | (with_reducible exact HB5.out _) | (with_reducible exact HC5.out _) | (with_reducible exact HD5.out _) | (with_reducible exact HE5.out _))))
              refine wpQuiet_nil ?_
              rintro _ ⟨nq, rfl⟩
              go_wp2_with fail
              go_meet
              exact ⟨rfl, HF.out nq⟩
        case rest =>
          obtain ⟨rfl, hEw⟩ := hcut
          have HEw := hide (Ext.trans' HEk.out hEw)
          have HRw := hide (HRk.out.ext hEw)
          clear hEw
          go_wp2_with fail
          refine (relOrder_any bo (newRows m ps) _ HRw.out).mono ?_
          rintro e w5 (⟨_, rfl, hE5⟩ | ⟨hno, A5, c5, he, hO5, hE5⟩)
          · have HE5 := hide (Ext.trans' HEw.out hE5)
            clear hE5
            go_wp2_with fail
            go_loop [14] (fun i => i = .int .i64 0) (fun _ => 0)
            case atStart => rfl
            case round =>
              subst hrel
              go_wp2_with fail
              refine (relLives_any _).mono ?_
              rintro e w7 ⟨rfl, hE7⟩
              have HE7 := hide hE7
              clear hE7
              go_wp2_with fail
              go_ret
              exact ⟨rfl, Ext.trans' HE0.out (Ext.trans' HE5.out HE7.out)⟩
          · have hrl : refLoop (leads m ps) = none := by
              rw [← loop_eq hm HOK.out]
              cases hlo : loopOf (RelM.close (newRows m ps)) with
              | none => rfl
              | some v => rw [hlo] at hno; cases hno
            have hfull := order_full HOK.out hrl
            have hpair := order_pair HOK.out
            obtain ⟨os, hos⟩ : ∃ os, os = orderOf (newRows m ps) := ⟨_, rfl⟩
            rw [← hos] at hfull hpair he hO5
            rw [hfull] at he hO5 hpair
            subst he
            have HF := hide hfull
            have HP := hide hpair
            have HE5 := hide (Ext.trans' HEw.out hE5)
            have HR5 := hide (HRw.out.ext hE5)
            have HO5 := hide hO5
            clear hno hrl hfull hpair hos hO5 hE5
            go_wp2_with fail
            go_loopw [14] (fun i wr => ∃ i' : Nat, i' ≤ m ∧ i = .int .i64 i' ∧ Ext w5 wr) (fun i _ => m - (intOf i).toNat)
            case atStart => exact ⟨0, Nat.zero_le _, rfl, Ext.rfl' _⟩
            case round =>
              obtain ⟨i, hi, rfl, hEi⟩ := hrel
              have HEi := hide hEi
              clear hEi
              by_cases him : i < m
              · go_wp2_with fail
                go_loopw [15] (fun k wr => ∃ k' : Nat, k' ≤ i ∧ k = .int .i64 k' ∧ Ext w5 wr) (fun k _ => i - (intOf k).toNat)
                case atStart => exact ⟨0, Nat.zero_le _, rfl, HEi.out⟩
                case round =>
                  obtain ⟨k, hk, rfl, hEk⟩ := hrel
                  have HEj := hide hEk
                  by_cases hki : k < i
                  · obtain ⟨g5, rfl, _, hc5, _⟩ := own_cell (own_ext HO5.out hEk) (by omega)
                    have f5 := hc5 k (by omega)
                    have f6 := hc5 i him
                    rw [show (os.map natv)[k]? = some (natv (os.getD k 0)) by simp [List.getD, HF.out, show k < m by omega]] at f5
                    rw [show (os.map natv)[i]? = some (natv (os.getD i 0)) by simp [List.getD, HF.out, him]] at f6
                    obtain ⟨hne, hno⟩ := HP.out k i hki him
                    obtain ⟨u, hu⟩ : ∃ u, u = os.getD k 0 := ⟨_, rfl⟩
                    obtain ⟨v, hv⟩ : ∃ v, v = os.getD i 0 := ⟨_, rfl⟩
                    rw [← hu] at f5 hne hno
                    rw [← hv] at f6 hne hno
                    have hne' : ((u : Int) == (v : Int)) = false := by rw [beq_eq_false_iff_ne]; omega
                    have hne2 : ¬ (u : Int) = v := by omega
                    have HRr := hide (HR5.out.ext hEk)
                    have HCall := hide (fun n : Nat => quiet_left (n := n) (relHas_any bo (newRows m ps) (_root_.Go.World.drewN wr n) (HRr.out.ext (below_drewN (Ext.rfl' _) n)) v u))
                    rw [hno] at HCall
                    clear hc5 hu hv hne hno hEk
                    go_wp2_with fail
                    go_quiet ((go_at_call 17; exact HCall.out _))
                    go_wp2_with fail
                    go_roundw
                    case rel => exact ⟨k + 1, by omega, by go_num, below_drewN HEj.out _⟩
                    case measure => simp [intOf]; omega
                  · obtain rfl : k = i := by omega
                    clear hEk
                    go_wp2_with fail
                    go_roundw
                    case rel => exact ⟨k + 1, by omega, by go_num, HEj.out⟩
                    case measure => simp [intOf]; omega
              · obtain rfl : i = m := by omega
                go_wp2_with fail
                refine (relLives_any _).mono ?_
                rintro e w7 ⟨rfl, hE7⟩
                have HE7 := hide hE7
                clear hE7
                go_wp2_with fail
                go_ret
                exact ⟨rfl, Ext.trans' HE0.out (Ext.trans' HE5.out (Ext.trans' HEi.out HE7.out))⟩
  · have HE1 := hide hE1
    clear hE1
    go_wp2_with fail
    refine (relLives_any _).mono ?_
    rintro e w2 ⟨rfl, hE2⟩
    have HE2 := hide hE2
    clear hE2
    go_wp2_with fail
    go_ret
    exact ⟨rfl, Ext.trans' HE0.out (Ext.trans' HE1.out HE2.out)⟩

end Go.Proofs.Ytkfepdejiedjbaa
