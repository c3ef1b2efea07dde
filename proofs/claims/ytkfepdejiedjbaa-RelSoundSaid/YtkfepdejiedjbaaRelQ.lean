/- The law RelCloses, walked. -/
import Derived.Test.YtkfepdejiedjbaaRelP
namespace Go.Proofs.Ytkfepdejiedjbaa
open Go.RowKit

theorem PairsAt.ext {w w' : World} {A : Option Addr} {ps : List (Int × Int)} (h : PairsAt w w.heap.size A ps) (hE : Ext w w') : PairsAt w' w'.heap.size A ps :=
  (Reads.keep h fun _p hp => hE.cell hp).more hE.size

set_option maxHeartbeats 400000 in
theorem relClose_nil (w : World) : Calls Try.prog 19 #[.pointer none] w fun e w' => e = .returned (.pointer none) ∧ w = w' := by
  go_enter Try.func19, Try.ntmps19
  go_wp2
  go_ret
  exact ⟨rfl, rfl⟩

/-- What any call of New comes to. -/
theorem relNew_all (n : Int) (A : Option Addr) (c : Nat) (ps : List (Int × Int)) (w : World) (h : PairsAt w w.heap.size A ps) (hl : ps.length ≤ 9223372036854775807) :
    Calls Try.prog 16 #[.int .i64 n, .slice A ps.length c] w fun e w' =>
      (rightB n ps = true ∧ ∃ bo, e = .returned (.tuple #[.pointer (some ⟨bo, 0, none⟩), .bool true]) ∧ RelAt w' bo (newRows n.toNat ps) ∧ Ext w w') ∨ (rightB n ps = false ∧ e = .returned (.tuple #[.pointer none, .bool false]) ∧ Ext w w') := by
  by_cases hn : n < 0 ∨ 64 < n
  · refine (relNew_bad n hn _ w).mono ?_
    rintro e w' ⟨rfl, rfl⟩
    exact .inr ⟨by simp [rightB]; omega, rfl, Ext.rfl' _⟩
  · obtain ⟨m, rfl⟩ := Int.eq_ofNat_of_zero_le (show 0 ≤ n by omega)
    have e : rightB m ps = okPs m ps := by simp [rightB]; omega
    refine (relNew_any m (by omega) A c ps w h hl).mono ?_
    rintro x w' (⟨h1, h2⟩ | ⟨h1, h2⟩)
    · exact .inl ⟨by rw [e, h1], h2⟩
    · exact .inr ⟨by rw [e, h1], h2⟩

theorem rightB_nat {n : Int} {ps : List (Int × Int)} (h : rightB n ps = true) : ∃ m : Nat, n = m ∧ m ≤ 64 ∧ okPs m ps = true := by
  unfold rightB at h
  simp only [Bool.and_eq_true, decide_eq_true_eq] at h
  obtain ⟨m, rfl⟩ := Int.eq_ofNat_of_zero_le h.1.1
  exact ⟨m, rfl, by omega, by simpa using h.2⟩

theorem run_eqIn_pair (a b c d : Int) (D : Nat) (w : World) : (Op.equalIn (D + 2) 23 (.agg #[.int .i64 a, .int .i64 b]) (.agg #[.int .i64 c, .int .i64 d])).run Try.prog w = .ok (a == c && b == d) w := by
  have hs : (sizeOf 3).run Try.prog w = .ok 1 w := by kernel_rfl
  have hp0 : ∀ x y : Int, (part 3 #[.int .i64 x, .int .i64 y] 0).run Try.prog w = .ok (.int .i64 x) w := fun x y => by kernel_rfl
  have hp1 : ∀ x y : Int, (part 3 #[.int .i64 x, .int .i64 y] 1).run Try.prog w = .ok (.int .i64 y) w := fun x y => by kernel_rfl
  have he : ∀ x y : Int, (Op.equalIn (D + 1) 3 (.int .i64 x) (.int .i64 y)).run Try.prog w = .ok (x == y) w := fun x y => run_equalIn_int w D _ _ _ x y Try.underlying3
  unfold Op.equalIn
  simp only [Sem.run_bind, run_underlying Try.underlying23, Result.andThen_ok, hs]
  simp [List.range'_succ, Sem.run_bind, hp0, hp1, he]
  by_cases h1 : a = c <;> by_cases h2 : b = d <;> simp [h1, h2]

theorem run_eqIn_pairs (a b c d : Int) (w : World) : (Op.equalIn 10000 23 (.agg #[.int .i64 a, .int .i64 b]) (.agg #[.int .i64 c, .int .i64 d])).run Try.prog w = .ok (a == c && b == d) w := run_eqIn_pair a b c d 9998 w

def inB (m : Nat) (x y : Int) : Bool := decide (0 ≤ x ∧ x < m ∧ 0 ≤ y ∧ y < m)

def hasTo (ps : List (Int × Int)) (q : Int × Int) (k : Nat) : Bool := (ps.take k).any (· == q)
theorem hasTo_step {ps : List (Int × Int)} (q : Int × Int) (k : Nat) (hk : k < ps.length) : hasTo ps q (k + 1) = (hasTo ps q k || (ps[k] == q)) := by
  unfold hasTo
  rw [List.take_succ_eq_append_getElem hk, List.any_append]
  simp

theorem has_eq {m : Nat} {ps : List (Int × Int)} (hok : okPs m ps = true) (x y : Int) : hasB (newRows m ps) x y = hasTo ps (x, y) ps.length := by
  rw [Bool.eq_iff_iff]
  unfold hasTo
  rw [List.take_length, List.any_eq_true]
  constructor
  · intro h
    have h' := h
    unfold hasB at h'
    simp only [Bool.and_eq_true, decide_eq_true_eq] at h'
    obtain ⟨x, rfl⟩ := Int.eq_ofNat_of_zero_le h'.1.1
    obtain ⟨y, rfl⟩ := Int.eq_ofNat_of_zero_le h'.1.2.2.1
    rw [hasB_nat, Bool.and_eq_true] at h
    obtain ⟨p, hp, e⟩ := List.mem_map.1 ((newRows_bit m ps hok x y).1 h.2)
    obtain ⟨i, hi, rfl⟩ := List.getElem_of_mem hp
    obtain ⟨u, v, e', _, _⟩ := okPs_at hok i hi
    rw [e'] at e
    simp only [Int.toNat_natCast, Prod.mk.injEq] at e
    refine ⟨ps[i], hp, ?_⟩
    rw [e', e.1, e.2]
    simp
  · rintro ⟨p, hp, e⟩
    obtain ⟨i, hi, rfl⟩ := List.getElem_of_mem hp
    obtain ⟨u, v, e', hu, hv⟩ := okPs_at hok i hi
    rw [e'] at e
    have e2 : ((u : Int), (v : Int)) = (x, y) := by simpa using e
    have ex : x = (u : Int) := (Prod.mk.inj e2).1.symm
    have ey : y = (v : Int) := (Prod.mk.inj e2).2.symm
    subst ex
    subst ey
    rw [hasB_nat, Bool.and_eq_true, newRows_length]
    refine ⟨by simp [hu, hv], (newRows_bit m ps hok u v).2 (List.mem_map.2 ⟨ps[i], hp, ?_⟩)⟩
    rw [e']
    simp

set_option maxRecDepth 100000 in
set_option maxHeartbeats 1000000 in
theorem closesA (n : Int) (A : Option Addr) (c : Nat) (ps : List (Int × Int)) (x y : Int) (w : World) (h : PairsAt w w.heap.size A ps) (hl : ps.length ≤ 9223372036854775807) :
    Calls Try.prog 3 #[.int .i64 n, .slice A ps.length c, .agg #[.int .i64 x, .int .i64 y]] w (BoolPost true w) := by
  by_cases h300 : (300 : Int) < ps.length
  · go_enter Try.func3, Try.ntmps3
    go_wp2_with fail
    refine (relLives_any _).mono ?_
    rintro e w' ⟨rfl, hE⟩
    go_wp2_with fail
    go_ret
    exact ⟨rfl, Ext.trans' ((Ext.rfl' w).alloc (Nat.le_refl _) _) hE⟩
  · obtain ⟨w0, hw0⟩ : ∃ w0, w0 = w.alloc (.cells #[.int .i64 x, .int .i64 y] 23) := ⟨_, rfl⟩
    have hq : Blk w0 w.heap.size 23 #[.int .i64 x, .int .i64 y] := by rw [hw0]; exact Blk.new _ _ _
    have hE0 : Ext w w0 := by rw [hw0]; exact (Ext.rfl' w).alloc (Nat.le_refl _) _
    have h0 : PairsAt w0 w0.heap.size A ps := h.ext hE0
    obtain ⟨gq, hgq⟩ : ∃ g, g = w.heap.size := ⟨_, rfl⟩
    rw [← hgq] at hq
    have HQ := hide hq
    have HE0 := hide hE0
    have HW0 := hide hw0
    have H0 := hide h0
    have HGQ := hide hgq
    clear hq hE0 h0 hw0 hgq h
    go_enter Try.func3, Try.ntmps3
    go_wp2_with fail
    rw [← HW0.out, ← HGQ.out]
    refine (relNew_all n A c ps w0 H0.out hl).mono ?_
    rintro e w1 (⟨hr, bo, rfl, hR, hE1⟩ | ⟨hr, rfl, hE1⟩)
    · obtain ⟨m, rfl, hm, hok⟩ := rightB_nat hr
      rw [Int.toNat_natCast] at hR
      have HOK := hide hok
      have HRT := hide hr
      have HR := hide hR
      have hq := HQ.out.ext hE1
      have q0 := hq.cell 0
      have q1 := hq.cell 1
      simp at q0 q1
      have HE1 := hide hE1
      clear hr hE1 hq hR hok
      go_wp2_with fail
      refine (relHas_nil _ _ _).mono ?_
      rintro e w' ⟨rfl, rfl⟩
      go_wp2_with fail
      refine (relLen_nil _).mono ?_
      rintro e w' ⟨rfl, rfl⟩
      go_wp2_with fail
      refine (relClose_nil _).mono ?_
      rintro e w' ⟨rfl, rfl⟩
      go_wp2_with fail
      refine (refRight_any m A c ps _ (H0.out.ext HE1.out) hl).mono ?_
      rintro e w2 ⟨rfl, hE2⟩
      rw [HRT.out]
      have HE2 := hide (Ext.trans' HE1.out hE2)
      have HR2 := hide (HR.out.ext hE2)
      clear hE2 HR HE1 q0 q1
      go_wp2_with fail
      go_loopw [10, 11] (fun v i wr => ∃ k : Nat, k ≤ ps.length ∧ i = .int .i64 k ∧ v = .bool (hasTo ps (x, y) k) ∧ Ext w2 wr) (fun _ i _ => ps.length - (intOf i).toNat)
      case atStart => exact ⟨0, Nat.zero_le _, rfl, rfl, Ext.rfl' _⟩
      case round =>
        obtain ⟨k, hk, rfl, rfl, hE⟩ := hrel
        by_cases hlt : k < ps.length
        · have hq := HQ.out.ext (Ext.trans' HE2.out hE)
          have q0 := hq.cell 0
          have q1 := hq.cell 1
          simp at q0 q1
          have hps := H0.out.ext (Ext.trans' HE2.out hE)
          obtain ⟨b, o, rfl, hb, hcell⟩ := hps.cell (by omega)
          obtain ⟨hp1, hp2⟩ := hcell k hlt
          have hst := hasTo_step (x, y) k hlt
          obtain ⟨x', y', hxy⟩ : ∃ x' y', ps[k] = (x', y') := ⟨_, _, rfl⟩
          rw [hxy] at hp1 hp2 hst
          obtain ⟨hv, hhv⟩ : ∃ hv, hv = hasTo ps (x, y) k := ⟨_, rfl⟩
          rw [← hhv] at hst ⊢
          have HST := hide hst
          have HE := hide hE
          clear hq hps hcell hxy hhv hst hE
          cases hv with
          | true =>
            go_wp2_with fail
            go_quiet (fail)
            go_wp2_with fail
            go_roundw
            case rel => exact ⟨k + 1, by omega, by go_num, by rw [HST.out]; rfl, below_drewN HE.out _⟩
            case measure => simp [intOf]; omega
          | false =>
            have hEq := run_eqIn_pairs
            go_wp2_with fail
            go_quiet (fail)
            clear hEq
            go_wp2_with fail
            go_roundw
            case rel => exact ⟨k + 1, by omega, by go_num, by rw [HST.out]; rfl, below_drewN HE.out _⟩
            case measure => simp [intOf]; omega
        · obtain rfl : k = ps.length := by omega
          obtain ⟨hv, hhv⟩ : ∃ hv, hv = hasTo ps (x, y) ps.length := ⟨_, rfl⟩
          rw [← hhv]
          have HHV := hide hhv
          have HEr := hide (Ext.trans' HE2.out hE)
          have HRr := hide (HR2.out.ext hE)
          clear hhv hE
          go_wp2_with fail
          refine (relClose_any bo (newRows m ps) _ HRr.out).mono ?_
          rintro e w3 ⟨bc, rfl, hRc, hE3⟩
          have HE3 := hide (Ext.trans' HEr.out hE3)
          have HR3 := hide (HRr.out.ext hE3)
          have HC3 := hide hRc
          clear hRc hE3
          go_wp2_with fail
          refine (refLeads_any m hm A c ps _ (H0.out.ext HE3.out) hl HOK.out).mono ?_
          rintro e w4 ⟨AL, cL, rfl, hM, hE4⟩
          have HE4 := hide (Ext.trans' HE3.out hE4)
          have HR4 := hide (HR3.out.ext hE4)
          have HC4 := hide (HC3.out.ext hE4)
          have HM4 := hide hM
          clear hM hE4
          rw [leads_length]
          have hq := HQ.out.ext HE4.out
          have q0 := hq.cell 0
          have q1 := hq.cell 1
          simp at q0 q1
          clear hq
          go_upto_region 16 with fail
          go_cut [14] (fun v wx => v = .bool (inB m x y) ∧ w4 = wx)
          case first =>
            by_cases h1 : 0 ≤ x <;> by_cases h2 : x < m <;> by_cases h3 : 0 ≤ y <;> by_cases h4 : y < m
            all_goals (go_wp2_with fail; go_meet; exact ⟨congrArg Value.bool (by simp [inB]; omega), rfl⟩)
          case rest =>
            obtain ⟨rfl, rfl⟩ := hcut
            go_wp2_with fail
            clear q0 q1
            go_loopw [15] (fun i wr => ∃ a : Nat, a ≤ m ∧ i = .int .i64 a ∧ Ext w4 wr) (fun i _ => m - (intOf i).toNat)
            case atStart => exact ⟨0, Nat.zero_le _, rfl, Ext.rfl' _⟩
            case round =>
              obtain ⟨a, ha, rfl, hEa⟩ := hrel
              have HEA := hide hEa
              clear hEa
              by_cases ham : a < m
              · go_wp2_with fail
                go_loopw [16] (fun i wr => ∃ b : Nat, b ≤ m ∧ i = .int .i64 b ∧ Ext w4 wr) (fun i _ => m - (intOf i).toNat)
                case atStart => exact ⟨0, Nat.zero_le _, rfl, HEA.out⟩
                case round =>
                  obtain ⟨b, hb, rfl, hEb⟩ := hrel
                  have HEB := hide hEb
                  clear hEb
                  by_cases hbm : b < m
                  · have hMr := (HM4.out.below HEB.out HEB.out.size).form (leads_sq m ps) (by rw [leads_length]; omega)
                    rw [leads_length] at hMr
                    obtain ⟨bl, ol, rfl, _, hrows⟩ := hMr
                    obtain ⟨bk, ok, ck, f1, _, g1⟩ := hrows a ham
                    have g1' := g1 b hbm
                    rw [← close_has_mat HOK.out a b ham hbm] at g1'
                    obtain ⟨hb1, hhb1⟩ : ∃ v, v = hasB (RelM.close (newRows m ps)) a b := ⟨_, rfl⟩
                    rw [← hhb1] at g1'
                    have HB1 := hide hhb1
                    have HCr := hide (HC4.out.ext HEB.out)
                    clear hrows g1 hhb1
                    have HCall := hide (fun n : Nat => quiet_left (n := n) (relHas_any bc (RelM.close (newRows m ps)) (_root_.Go.World.drewN wr n) (HCr.out.ext (below_drewN (Ext.rfl' _) n)) a b))
                    rw [← HB1.out] at HCall
                    go_wp2_with fail
                    go_quiet ((go_at_call 17; exact HCall.out _))
                    go_wp2_with fail
                    go_roundw
                    case rel => exact ⟨b + 1, by omega, by go_num, below_drewN HEB.out _⟩
                    case measure => simp [intOf]; omega
                  · go_wp2_with fail
                    go_roundw
                    case rel => exact ⟨a + 1, by omega, by go_num, HEB.out⟩
                    case measure => simp [intOf]; omega
              · have hq := HQ.out.ext (Ext.trans' HE4.out HEA.out)
                have q0 := hq.cell 0
                have q1 := hq.cell 1
                simp at q0 q1
                have hhas := has_eq HOK.out x y
                rw [← HHV.out] at hhas
                have hE5 := hide (Ext.trans' HE0.out (Ext.trans' HE4.out HEA.out))
                have HRe := hide (HR4.out.ext HEA.out)
                have HCe := hide (HC4.out.ext HEA.out)
                have hn1 := newRows_length m ps
                have hn2 : (RelM.close (newRows m ps)).length = m := by rw [RelM.close_length, hn1]
                go_wp2_with fail
                refine wp_region_ext (by kernel_rfl) (by kernel_rfl) wr (Ext.rfl' _) ?_
                intro I _ f hf hc
                have q0' : ∀ n, (f n).cell? ⟨gq, 0, none⟩ = some (.int .i64 x) := fun n => ((hf n).cell (p := ⟨gq, 0, none⟩) (hq.lt)).trans q0
                have q1' : ∀ n, (f n).cell? ⟨gq, 1, none⟩ = some (.int .i64 y) := fun n => ((hf n).cell (p := ⟨gq, 1, none⟩) (hq.lt)).trans q1
                have HA5 := hide (fun n => fam_same (relLen_any bo (newRows m ps) (f n) (HRe.out.ext (hf n))))
                have HB5 := hide (fun n => fam_same (relLen_any bc (RelM.close (newRows m ps)) (f n) (HCe.out.ext (hf n))))
                have HC5 := hide (fun n => fam_same (relHas_any bo (newRows m ps) (f n) (HRe.out.ext (hf n)) x y))
                have HD5 := hide (fun n => fam_same (relHas_any bc (RelM.close (newRows m ps)) (f n) (HCe.out.ext (hf n)) x y))
                have HL5 := hide (fun n => fam_ext hf hc (relLives_any (f n)))
                simp only [hhas] at HC5
                simp only [hn1] at HA5
                simp only [hn2] at HB5
                have HF := hide hf
                clear hq hhas hn1 hn2 q0 q1 hf
                cases hin : inB m x y with
                | true =>
                  have hin' := hin
                  unfold inB at hin'
                  rw [decide_eq_true_eq] at hin'
                  obtain ⟨x, rfl⟩ := Int.eq_ofNat_of_zero_le hin'.1
                  obtain ⟨y, rfl⟩ := Int.eq_ofNat_of_zero_le hin'.2.2.1
                  have hxm : x < m := by omega
                  have hym : y < m := by omega
                  have hMr := (HM4.out.below HEA.out HEA.out.size).form (leads_sq m ps) (by rw [leads_length]; omega)
                  rw [leads_length] at hMr
                  obtain ⟨bl, ol, rfl, hbl, hrows⟩ := hMr
                  obtain ⟨bk, ok, ck, f1, hbk, g1⟩ := hrows x hxm
                  have g1' := g1 y hym
                  rw [← close_has_mat HOK.out x y hxm hym] at g1'
                  obtain ⟨hb1, hhb1⟩ : ∃ v, v = hasB (RelM.close (newRows m ps)) x y := ⟨_, rfl⟩
                  rw [← hhb1] at g1'
                  simp only [← hhb1] at HD5
                  have f1' : ∀ n, (f n).cell? ⟨bl, ol + x, none⟩ = some (.slice (some ⟨bk, ok, none⟩) m ck) := fun n => ((HF.out n).cell (p := ⟨bl, ol + x, none⟩) hbl).trans f1
                  have g2' : ∀ n, (f n).cell? ⟨bk, ok + y, none⟩ = some (.bool hb1) := fun n => ((HF.out n).cell (p := ⟨bk, ok + y, none⟩) hbk).trans g1'
                  have hmax : max (m : Int) 1 = m := by omega
                  have hr1 : (x : Int) % (m : Int) = x := Int.emod_eq_of_lt (by omega) (by omega)
                  have hr2 : (y : Int) % (m : Int) = y := Int.emod_eq_of_lt (by omega) (by omega)
                  have hr3 : (x : Int).tmod (m : Int) = x := by rw [Int.tmod_eq_emod_of_nonneg (by omega)]; exact hr1
                  have hr4 : (y : Int).tmod (m : Int) = y := by rw [Int.tmod_eq_emod_of_nonneg (by omega)]; exact hr2
                  have hm0 : ((m : Int) == 0) = false := by simp; omega
                  clear hrows g1 g1' f1 hhb1 hin hin' hc
                  repeat (go_big_quiet_step ((first
                    | (go_at_call 18; first | (with_reducible exact HA5.out _) | (with_reducible exact HB5.out _))
                    | (go_at_call 17; first | (with_reducible exact HC5.out _) | (with_reducible exact HD5.out _))
                    | (go_at_call 15; with_reducible exact HL5.out _))))
                  refine wpQuiet_nil ?_
                  rintro _ ⟨nq, rfl⟩
                  go_wp2_with fail
                  go_ret
                  exact ⟨rfl, Ext.trans' hE5.out (HF.out nq)⟩
                | false =>
                  have hcf : hasB (RelM.close (newRows m ps)) x y = false := by
                    unfold inB at hin
                    unfold hasB
                    rw [RelM.close_length, newRows_length, hin, Bool.false_and]
                  simp only [hcf] at HD5
                  clear hcf hin hc
                  repeat (go_big_quiet_step ((first
                    | (go_at_call 18; first | (with_reducible exact HA5.out _) | (with_reducible exact HB5.out _))
                    | (go_at_call 17; first | (with_reducible exact HC5.out _) | (with_reducible exact HD5.out _))
                    | (go_at_call 15; with_reducible exact HL5.out _))))
                  refine wpQuiet_nil ?_
                  rintro _ ⟨nq, rfl⟩
                  go_wp2_with fail
                  go_ret
                  exact ⟨rfl, Ext.trans' hE5.out (HF.out nq)⟩
    · have hq := HQ.out.ext hE1
      have q0 := hq.cell 0
      have q1 := hq.cell 1
      simp at q0 q1
      have HR := hide hr
      have HE1 := hide hE1
      clear hr hE1 hq
      go_wp2_with fail
      refine (relHas_nil _ _ _).mono ?_
      rintro e w' ⟨rfl, rfl⟩
      go_wp2_with fail
      refine (relLen_nil _).mono ?_
      rintro e w' ⟨rfl, rfl⟩
      go_wp2_with fail
      refine (relClose_nil _).mono ?_
      rintro e w' ⟨rfl, rfl⟩
      go_wp2_with fail
      refine (refRight_any n A c ps _ (H0.out.ext HE1.out) hl).mono ?_
      rintro e w2 ⟨rfl, hE2⟩
      rw [HR.out]
      have HE2 := hide hE2
      clear hE2
      go_wp2_with fail
      refine (relLives_any _).mono ?_
      rintro e w3 ⟨rfl, hE3⟩
      have HE3 := hide (Ext.trans' HE0.out (Ext.trans' HE1.out (Ext.trans' HE2.out hE3)))
      clear hE3
      go_wp2_with fail
      go_ret
      exact ⟨rfl, HE3.out⟩

end Go.Proofs.Ytkfepdejiedjbaa
