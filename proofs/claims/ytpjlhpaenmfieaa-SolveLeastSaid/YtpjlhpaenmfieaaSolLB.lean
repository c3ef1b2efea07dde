/- The law SolveLeast, walked. -/
import Derived.Test.YtpjlhpaenmfieaaSolLA
import Derived.Test.YtpjlhpaenmfieaaSolR
namespace Go.Proofs.Ytpjlhpaenmfieaa
open Go.RowKit

def allH (ws : List Wd) (os : List (Wd × Wd)) (x : List Int) (rs : List Ru) (k : Nat) : Bool := (List.range k).all fun i => holdsR ws os x (rl rs i)
theorem allH_step (ws : List Wd) (os : List (Wd × Wd)) (x : List Int) (rs : List Ru) (k : Nat) : allH ws os x rs (k + 1) = (allH ws os x rs k && holdsR ws os x (rl rs k)) := by
  unfold allH
  rw [List.range_succ, List.all_append]
  simp
theorem allH_yes {ws : List Wd} {os : List (Wd × Wd)} {x : List Int} {rs : List Ru} (h : allH ws os x rs rs.length = true) : ∀ r ∈ rs, holdsR ws os x r = true := by
  unfold allH at h
  rw [List.all_eq_true] at h
  exact all_rl fun q hq => h q (List.mem_range.2 hq)
theorem allH_no {ws : List Wd} {os : List (Wd × Wd)} {x : List Int} {rs : List Ru} {r : Ru} (hr : r ∈ rs) (h : holdsR ws os x r = false) : allH ws os x rs rs.length = false := by
  rw [← Bool.not_eq_true]
  intro hh
  rw [allH_yes hh r hr] at h
  cases h
theorem leq_all {ws : List Wd} {os : List (Wd × Wd)} {rs : List Ru} {y : List Nat} {x : List Int} {k : Nat} (hL : LatM.Lst ws.length y.length (leqL ws os) rs y) (hall : allH ws os x rs rs.length = true) (hx : x.length = y.length) (hk : k < y.length) (hn : nmI ws (x.getD k 0) ≠ ⟨#[]⟩) : leqI ws os (y.getD k 0 : Nat) (x.getD k 0) = true := by
  rcases hasI_cases ws.length (x.getD k 0) with ⟨v, hv, hvn⟩ | ho
  · rw [hv, leqI_cast (LatM.getD_lt hL.lt hk) hvn]
    exact low_all hL hx (allH_yes hall) hk hv hvn
  · exfalso
    apply hn
    unfold nmI
    rw [hasI_out ho]
    rfl

set_option maxRecDepth 100000 in
set_option maxHeartbeats 8000000 in
theorem solveLeast_any (A : Option Addr) (c n : Nat) (ws : List Wd) (A2 : Option Addr) (c2 m : Nat) (os : List (Wd × Wd)) (A5 : Option Addr) (c5 z : Nat) (rs : List Ru) (A3 : Option Addr) (c3 p : Nat) (x : List Int) (w : World) (h : WdsAt w w.heap.size A ws) (hsz : ∀ i, (wNm ws i).size ≤ maxLen) (hn : n = ws.length) (h2 : OdsAt w w.heap.size A2 os) (hm : m = os.length) (h5 : RlsAt w w.heap.size A5 rs) (hz : z = rs.length) (h3 : IntAt w w.heap.size A3 x) (hp : p = x.length) (hp' : p ≤ 9223372036854775807) :
    Calls Try.prog 8 #[.agg #[.slice A n c, .slice A2 m c2], .slice A5 z c5, .slice A3 p c3] w (BoolPost true w) := by
  obtain ⟨w0, hw0⟩ : ∃ w0, w0 = w.alloc (.cells #[.slice A n c, .slice A2 m c2] 58) := ⟨_, rfl⟩
  obtain ⟨gw, hgw⟩ : ∃ g, g = w.heap.size := ⟨_, rfl⟩
  have hB : Blk w0 gw 58 #[.slice A n c, .slice A2 m c2] := by rw [hw0, hgw]; exact Blk.new _ _ _
  have hE0 : Ext w w0 := by rw [hw0]; exact (Ext.rfl' w).alloc (Nat.le_refl _) _
  have HBd := hide (fun (w1 : World) (hE : Ext w w1) => build_any A c n ws A2 c2 m os w1 (h.ext hE) hsz hn (h2.ext hE) hm)
  have HHO := hide (fun (w1 : World) (hE : Ext w w1) (g : Nat) (hL : LatAt w1 g ws os) (gd : GoodL ws os) (k a b : Int) => (show Calls Try.prog 33 #[.pointer (some ⟨g, 0, none⟩), .slice A3 p c3, .agg #[.int .i64 k, .int .i64 a, .int .i64 b]] w1 (fun e w' => e = .returned (.bool (holdsR ws os x (k, a, b))) ∧ Ext w1 w') from solHolds_any (some ⟨g, 0, none⟩) (leqI ws os) ws.length A3 c3 p x k a b w1 (h3.ext hE) hp hp' (fun w2 h2 => latLen_any g ws os w2 (hL.ext h2)) (fun w2 h2 => latLeq_any g ws os w2 (hL.ext h2) (prs_ok gd.found))))
  have HSO := hide (fun (w1 : World) (hE : Ext w w1) (g : Nat) (hL : LatAt w1 g ws os) (gd : GoodL ws os) (h200 : z ≤ 200) => solve_any g ws os (p : Int) A5 c5 z rs w1 hL gd (h5.ext hE) hz (by omega))
  have HWY := hide (fun (w1 : World) (hE : Ext w w1) (g : Nat) (hL : LatAt w1 g ws os) (gd : GoodL ws os) (h200 : z ≤ 200) => why_any g ws os (p : Int) A5 c5 z rs w1 hL gd (h5.ext hE) hz (by omega))
  have HX3 := hide h3
  have HRS := hide h5
  have HZ := hide hz
  have HP := hide hp
  have HBW := hide hB
  have w00 := hB.cell 0
  have w01 := hB.cell 1
  simp only [List.getElem?_toArray, List.getElem?_cons_zero, List.getElem?_cons_succ] at w00 w01
  have HW0 := hide hw0
  have HGW := hide hgw
  have HE0 := hide hE0
  clear h h2 h3 h5 hn hm hp hz hsz hB hw0 hgw hE0
  go_enter Try.func8, Try.ntmps8
  go_upto_region 1 with fail
  rw [← HW0.out, ← HGW.out]
  go_wp2_with fail
  refine (HBd.out w0 HE0.out).mono ?_
  rintro e w2 (⟨hw, rfl, hE2⟩ | ⟨hw, g, rfl, hL, hE2⟩)
  · obtain ⟨f, hf⟩ : ∃ f, f = wrongL ws os := ⟨_, rfl⟩
    rw [← hf] at hw ⊢
    clear hf
    obtain ⟨f1, f2⟩ := f
    obtain ⟨w3, hw3⟩ : ∃ w3, w3 = w2.alloc (.cells #[.int .i64 f1, .int .i64 f2] 29) := ⟨_, rfl⟩
    obtain ⟨g3, hg3⟩ : ∃ g3, g3 = w2.heap.size := ⟨_, rfl⟩
    have hV : Blk w3 g3 29 #[.int .i64 f1, .int .i64 f2] := by rw [hw3, hg3]; exact Blk.new _ _ _
    have HE3 := hide (show Ext w w3 by rw [hw3]; have := HE0.out.trans' hE2; exact this.alloc this.size _)
    have v0 := hV.cell 0
    have v1 := hV.cell 1
    simp only [List.getElem?_toArray, List.getElem?_cons_zero, List.getElem?_cons_succ] at v0 v1
    have hne : (f1 != 0) = true := by simpa using hw
    have HW3 := hide hw3
    have HG3 := hide hg3
    clear hw hw3 hg3 hV hE2 w00 w01
    unfold fltV
    go_upto_region 2 with fail
    rw [← HW3.out, ← HG3.out]
    go_wp2_with fail
    refine (solLives_any w3).mono ?_
    rintro e w4 ⟨rfl, hE4⟩
    go_wp2_with fail
    go_ret
    exact ⟨rfl, HE3.out.trans' hE4⟩
  have HGD := hide (good_of (show (wrongL ws os).1 = 0 by rw [hw]))
  obtain ⟨w3, hw3⟩ : ∃ w3, w3 = w2.alloc (.cells #[.int .i64 0, .int .i64 0] 29) := ⟨_, rfl⟩
  obtain ⟨g3, hg3⟩ : ∃ g3, g3 = w2.heap.size := ⟨_, rfl⟩
  have hV : Blk w3 g3 29 #[.int .i64 0, .int .i64 0] := by rw [hw3, hg3]; exact Blk.new _ _ _
  have hE23 : Ext w2 w3 := by rw [hw3]; exact (Ext.rfl' w2).alloc (Nat.le_refl _) _
  have HE3 := hide ((HE0.out.trans' hE2).trans' hE23)
  have HL3 := hide (hL.ext hE23)
  have v0 := hV.cell 0
  have v1 := hV.cell 1
  simp only [List.getElem?_toArray, List.getElem?_cons_zero, List.getElem?_cons_succ] at v0 v1
  have HW3 := hide hw3
  have HG3 := hide hg3
  clear hw hw3 hg3 hV hE2 hE23 hL w00 w01 HBd HBW HW0 HGW HE0
  unfold fltV
  go_upto_region 2 with fail
  rw [← HW3.out, ← HG3.out]
  by_cases hz2 : (200 : Int) < (z : Int)
  · go_wp2_with fail
    refine (solLives_any w3).mono ?_
    rintro e w4 ⟨rfl, hE4⟩
    go_wp2_with fail
    go_ret
    exact ⟨rfl, HE3.out.trans' hE4⟩
  have z200 : z ≤ 200 := by omega
  go_wp2_with fail
  go_loopw [10, 9] (fun i v wr => ∃ (k : Nat) (u : Bool), k ≤ z ∧ i = .int .i64 (k : Int) ∧ v = .bool u ∧ Ext w3 wr ∧ Hid (u = allH ws os x rs k)) (fun i _ _ => z - (intOf i).toNat)
  case atStart => exact ⟨0, true, Nat.zero_le _, rfl, rfl, Ext.rfl' _, rfl⟩
  case round =>
    clear v0 v1
    obtain ⟨k, u, hk, rfl, rfl, hE, HU⟩ := hrel
    have HEr := hide hE
    by_cases hkz : k < z
    · have hkl : k < rs.length := by rw [← HZ.out]; exact hkz
      obtain ⟨b, o, rfl, hbs, hcell⟩ := HRS.out.cell (by omega)
      obtain ⟨p0, p1, p2⟩ := hcell k hkl
      have hEw := HE3.out.trans' hE
      have q0 := (hEw.cell (p := ⟨b, o + k * 3, none⟩) hbs).trans p0
      have q1 := (hEw.cell (p := ⟨b, o + k * 3 + 1, none⟩) hbs).trans p1
      have q2 := (hEw.cell (p := ⟨b, o + k * 3 + 2, none⟩) hbs).trans p2
      have hst := allH_step ws os x rs k
      obtain ⟨r, hr⟩ : ∃ r, r = rl rs k := ⟨_, rfl⟩
      rw [← hr] at q0 q1 q2 hst
      obtain ⟨r0, r1, r2⟩ := r
      simp only at q0 q1 q2
      have HC := hide (HHO.out wr hEw g (HL3.out.ext hE) HGD.out r0 r1 r2)
      obtain ⟨R, hR⟩ : ∃ R, R = holdsR ws os x (r0, r1, r2) := ⟨_, rfl⟩
      rw [← hR] at HC hst
      have HST := hide hst
      have i0 : (0 : Int) ≤ (k : Int) := by omega
      have i1 : (k : Int) < (z : Int) := by omega
      clear hcell p0 p1 p2 hr hR hst hE hEw hkl
      cases u with
      | false =>
        go_wp2_with fail
        go_roundw
        case rel => exact ⟨k + 1, false, by omega, by go_num, rfl, HEr.out, by rw [HST.out, ← HU.out]; rfl⟩
        case measure => simp [intOf]; omega
      | true =>
        go_wp2_with fail
        refine HC.out.mono ?_
        rintro e w6 ⟨rfl, hE6⟩
        have HE6 := hide (HEr.out.trans' hE6)
        clear hE6 q0 q1 q2
        go_wp2_with fail
        go_roundw
        case rel => exact ⟨k + 1, R, by omega, by go_num, rfl, HE6.out, by rw [HST.out, ← HU.out]; rfl⟩
        case measure => simp [intOf]; omega
    · obtain rfl : k = z := by omega
      have HEw := hide (HE3.out.trans' hE)
      have HLr := hide (HL3.out.ext hE)
      have hu := HU.out
      rw [HZ.out] at hu
      have HUU := hide hu
      have HS1 := hide (HSO.out wr HEw.out g HLr.out HGD.out z200)
      clear hE hu HU HSO
      go_wp2_with fail
      refine HS1.out.mono ?_
      rintro e w5 ⟨y, f, Ay, cy, rfl, hNy, hE5, hA⟩
      obtain ⟨f1, f2⟩ := f
      have HA := hide hA
      obtain ⟨w6, hw6⟩ : ∃ w6, w6 = w5.alloc (.cells #[.int .i64 f1, .int .i64 f2] 29) := ⟨_, rfl⟩
      obtain ⟨g6, hg6⟩ : ∃ g6, g6 = w5.heap.size := ⟨_, rfl⟩
      have hV : Blk w6 g6 29 #[.int .i64 f1, .int .i64 f2] := by rw [hw6, hg6]; exact Blk.new _ _ _
      have hE56 : Ext w5 w6 := by rw [hw6]; exact (Ext.rfl' w5).alloc (Nat.le_refl _) _
      have HV := hide hV
      have HE6 := hide ((HEw.out.trans' hE5).trans' hE56)
      have HL6 := hide (HLr.out.ext (hE5.trans' hE56))
      have HNy := hide (hNy.ext hE56)
      have HW6 := hide hw6
      have HG6 := hide hg6
      have HW1 := hide (HWY.out w6 HE6.out g HL6.out HGD.out z200)
      clear hA hw6 hg6 hV hE5 hE56 hNy HS1 HWY
      unfold fltV
      go_upto_region 10 with fail
      rw [← HW6.out, ← HG6.out]
      go_wp2_with fail
      refine HW1.out.mono ?_
      rintro e w7 ⟨y', f', hA', A7, c7, rfl, hN7, hE7⟩
      obtain ⟨rfl, rfl⟩ := HA.out.one HGD.out.lat.po hA'
      have HE7 := hide (HE6.out.trans' hE7)
      have HL7 := hide (HL6.out.ext hE7)
      have HNy7 := hide (HNy.out.ext hE7)
      have hV7 := HV.out.ext hE7
      have v0 := hV7.cell 0
      have v1 := hV7.cell 1
      simp only [List.getElem?_toArray, List.getElem?_cons_zero, List.getElem?_cons_succ] at v0 v1
      have HV7 := hide hV7
      obtain ⟨L, hL⟩ : ∃ L, L = whyL (leqI ws os) rs (f1, f2) := ⟨_, rfl⟩
      rw [← hL] at hN7 ⊢
      have HN7 := hide hN7
      have HLL := hide hL
      clear hA' hN7 hE7 hV7 hL HW1 HV HNy HL6 HE6
      by_cases h18 : f1 = 18
      · subst h18
        obtain ⟨h0, hf2, hh0, hk3, hrow, hno⟩ := flow_case HGD.out.lat HA.out rfl
        simp only at hf2
        subst hf2
        have hLt : L = traceL (leqI ws os) rs h0 := by rw [HLL.out]; unfold whyL; rw [if_pos rfl]; rfl
        rw [← hLt] at hrow
        obtain ⟨rr, hrr, hrf⟩ := hno x (by rw [HP.out])
        have huf : u = false := by rw [HUU.out]; exact allH_no hrr hrf
        subst huf
        have hrow' := hrow
        obtain ⟨i, F, hLF, _⟩ := hrow'
        have hlen : L.length = F.length + 1 + 1 := by rw [hLF]; simp
        obtain ⟨j, hj⟩ : ∃ j, j = F.length + 1 := ⟨_, rfl⟩
        have hq : L.length = j + 1 := by omega
        have hj6 : j + 1 ≤ 1000000 := by
          rw [← hq, hLt]
          unfold traceL
          simp only [List.length_reverse, List.length_append, List.length_cons]
          have h1 := rowP_le (leqI ws os) rs (rl rs h0).2.2 (flowsN (leqI ws os) rs h0) (rl rs h0).2.1
          have h2 := firstD_le (fun d => startsB (leqI ws os) rs (rl rs h0).2.1 d (rl rs h0).2.2) rs.length
          have h3 : ∀ (o : Option Nat), o.toList.length ≤ 1 := fun o => by cases o <;> simp
          have h4 := h3 (fIdx (lowAt (leqI ws os) rs (rl rs h0).2.2 (rowH (leqI ws os) rs h0).2) rs.length)
          have h5 := HZ.out
          unfold rowH at h4 ⊢
          unfold flowsN at h1 h4 ⊢
          omega
        have atj : L[j]? = some h0 := by
          rw [hLF, hj, List.cons_append, List.getElem?_cons_succ, List.getElem?_append_right (Nat.le_refl _), Nat.sub_self]; rfl
        obtain ⟨bl, ol, rfl, hbl, hcl⟩ := nat_at HN7.out (by omega)
        have lj := hcl j h0 atj
        rw [hq]
        have hwr : IntKind.i64.wrap ((j : Int) + 1 - 1) = (j : Int) := by rw [Int.add_sub_cancel]; exact IntWalk.i64_in _ (by omega)
        have j0 : (0 : Int) ≤ (j : Int) := by omega
        have j1 : (j : Int) < (j : Int) + 1 := by omega
        have j2 : (1 : Int) < (j : Int) + 1 := by omega
        have HRW := hide (fun (w1 : World) (hE1 : Ext w7 w1) => row44_any g ws os A5 c5 k rs (some ⟨bl, ol, none⟩) c7 (j + 1) h0 L w1 (HL7.out.ext hE1) HGD.out (HRS.out.ext (HE7.out.trans' hE1)) HZ.out (by omega) (HN7.out.ext hE1) hq.symm hj6 hh0 hk3 hrow)
        clear hcl atj hq hlen hLF hLt hrow hno hrr hrf hj
        go_upto_region 12 with fail
        go_cut [6] (fun v wx => v = .bool true ∧ Ext w7 wx)
        case first =>
          refine wp_region_ext (by kernel_rfl) (by kernel_rfl) w7 (Ext.rfl' _) ?_
          intro I _ f hf hc
          have q1 : ∀ n, (f n).cell? ⟨g6, 1, none⟩ = some (.int .i64 (h0 : Nat)) := fun n => (HV7.out.ext (hf n)).cell 1
          have q2 : ∀ n, (f n).cell? ⟨bl, ol + j, none⟩ = some (.int .i64 (h0 : Nat)) := fun n => ((hf n).cell (p := ⟨bl, ol + j, none⟩) hbl).trans lj
          have H1 := hide (fun n => fam_ext hf hc (HRW.out (f n) (hf n)))
          have H2 := hide (fun n => fam_ext hf hc (solLives_any (f n)))
          have HF := hide hf
          clear hf hc v0 v1 lj
          repeat (go_big_quiet_step ((first
            | (go_at_call 36; with_reducible exact H1.out _)
            | (go_at_call 30; with_reducible exact H2.out _))))
          refine wpQuiet_nil ?_
          rintro _ ⟨nq, rfl⟩
          go_wp2_with fail
          go_meet
          exact ⟨rfl, HF.out nq⟩
        case rest =>
          obtain ⟨rfl, hEc⟩ := hcut
          go_wp2_with fail
          go_ret
          exact ⟨rfl, HE7.out.trans' hEc⟩
      · have hwl : L = [] := by rw [HLL.out]; unfold whyL; rw [if_neg h18]
        subst hwl
        have hne : (f1 == 18) = false := by simpa using h18
        by_cases hf0 : f1 = 0
        · subst hf0
          obtain ⟨hff, hyl, hLst, hho⟩ := ok_case HA.out rfl
          have HHY := hide (fun (w1 : World) (hE1 : Ext w7 w1) (r0 r1 r2 : Int) => (show Calls Try.prog 33 #[.pointer (some ⟨g, 0, none⟩), .slice Ay p cy, .agg #[.int .i64 r0, .int .i64 r1, .int .i64 r2]] w1 (fun e w' => e = .returned (.bool (holdsR ws os (y.map fun (v : Nat) => (v : Int)) (r0, r1, r2))) ∧ Ext w1 w') from solHolds_any (some ⟨g, 0, none⟩) (leqI ws os) ws.length Ay cy p (y.map fun (v : Nat) => (v : Int)) r0 r1 r2 w1 (HNy7.out.ext hE1).ints (by rw [List.length_map]; omega) hp' (fun w2 h2 => latLen_any g ws os w2 (HL7.out.ext (hE1.trans' h2))) (fun w2 h2 => latLeq_any g ws os w2 (HL7.out.ext (hE1.trans' h2)) (prs_ok HGD.out.found))))
          have hyp : y.length = p := by omega
          have HYP := hide hyp
          have HHOY := hide hho
          have HLQ := hide (fun (hu : u = true) (q : Nat) (hq : q < p) => leq_all (k := q) hLst (by rw [← HUU.out]; exact hu) (by rw [← HP.out]; omega) (by omega))
          rw [hyp]
          have hpp : ((p : Int) != (p : Int)) = false := by simp
          clear hff hyl hho hLst hyp HA
          go_upto_region 18 with fail
          clear v0 v1 hpp
          go_wp2_with fail
          go_loopw [14] (fun i wr => ∃ q : Nat, q ≤ k ∧ i = .int .i64 (q : Int) ∧ Ext w7 wr) (fun i _ => k - (intOf i).toNat)
          case atStart => exact ⟨0, Nat.zero_le _, rfl, Ext.rfl' _⟩
          case round =>
            rename World => wo
            obtain ⟨q, hq, rfl, hE⟩ := hrel
            have HEr := hide hE
            by_cases hqk : q < k
            · have hql : q < rs.length := by rw [← HZ.out]; exact hqk
              obtain ⟨b, o, rfl, hbs, hcell⟩ := HRS.out.cell (by omega)
              obtain ⟨p0, p1, p2⟩ := hcell q hql
              have hEw := HE7.out.trans' hE
              have q0 := (hEw.cell (p := ⟨b, o + q * 3, none⟩) hbs).trans p0
              have q1 := (hEw.cell (p := ⟨b, o + q * 3 + 1, none⟩) hbs).trans p1
              have q2 := (hEw.cell (p := ⟨b, o + q * 3 + 2, none⟩) hbs).trans p2
              have hho := HHOY.out q hql
              obtain ⟨r, hr⟩ : ∃ r, r = rl rs q := ⟨_, rfl⟩
              rw [← hr] at q0 q1 q2 hho
              obtain ⟨r0, r1, r2⟩ := r
              simp only at q0 q1 q2
              have hc := HHY.out _ hE r0 r1 r2
              rw [hho] at hc
              have HC := hide hc
              have i0 : (0 : Int) ≤ (q : Int) := by omega
              have i1 : (q : Int) < (k : Int) := by omega
              clear hcell p0 p1 p2 hr hho hc hE hEw hql
              go_wp2_with fail
              refine HC.out.mono ?_
              rintro e w9 ⟨rfl, hE9⟩
              have HE9 := hide (HEr.out.trans' hE9)
              clear hE9 q0 q1 q2
              go_wp2_with fail
              go_roundw
              case rel => exact ⟨q + 1, by omega, by go_num, HE9.out⟩
              case measure => simp [intOf]; omega
            · obtain rfl : q = k := by omega
              clear hE
              go_wp2_with fail
              go_loopw [15] (fun i wr => ∃ s : Nat, s ≤ p ∧ i = .int .i64 (s : Int) ∧ Ext w7 wr) (fun i _ => p - (intOf i).toNat)
              case atStart => exact ⟨0, Nat.zero_le _, rfl, HEr.out⟩
              case round =>
                obtain ⟨s, hs, rfl, hE⟩ := hrel
                have HEs := hide hE
                by_cases hsp : s < p
                · have i0 : (0 : Int) ≤ (s : Int) := by omega
                  have i1 : (s : Int) < (p : Int) := by omega
                  cases u with
                  | false =>
                    clear hE
                    go_wp2_with fail
                    go_quiet (fail)
                    have hEq := below_drewN HEs.out nq
                    go_wp2_with fail
                    go_roundw
                    case rel => exact ⟨s + 1, by omega, by go_num, hEq⟩
                    case measure => simp [intOf]; omega
                  | true =>
                    obtain ⟨bx, ox, rfl, hbx, hcx⟩ := HX3.out.cell (by rw [← HP.out]; omega)
                    obtain ⟨bY, oY, hAy, hbY, hcY⟩ := HNy7.out.cell (by rw [HYP.out]; omega)
                    have hsx : s < x.length := by rw [← HP.out]; exact hsp
                    have hsy : s < y.length := by rw [HYP.out]; exact hsp
                    have ex := ((HE7.out.trans' hE).cell (p := ⟨bx, ox + s, none⟩) hbx).trans (hcx s hsx)
                    have ey := (hE.cell (p := ⟨bY, oY + s, none⟩) hbY).trans (hcY s hsy)
                    rw [show x[s] = x.getD s 0 by rw [List.getD_eq_getElem?_getD, List.getElem?_eq_getElem hsx]; rfl] at ex
                    rw [show y[s] = y.getD s 0 by rw [List.getD_eq_getElem?_getD, List.getElem?_eq_getElem hsy]; rfl] at ey
                    have hlq := HLQ.out rfl s hsp
                    obtain ⟨xv, hxv⟩ : ∃ v, v = x.getD s 0 := ⟨_, rfl⟩
                    obtain ⟨yv, hyv⟩ : ∃ v, v = y.getD s 0 := ⟨_, rfl⟩
                    rw [← hxv] at ex hlq
                    rw [← hyv] at ey hlq
                    subst hAy
                    have hnm := fun jj : Nat => latName_any g ws os (World.drewN _ jj) (HL7.out.ext (below_drewN hE jj)) xv
                    have hlc := fun jj : Nat => latLeq_any g ws os (World.drewN _ jj) (HL7.out.ext (below_drewN hE jj)) (prs_ok HGD.out.found) (yv : Nat) xv
                    obtain ⟨nm, hnm'⟩ : ∃ nm, nm = nmI ws xv := ⟨_, rfl⟩
                    rw [← hnm'] at hnm hlq
                    by_cases hn0 : nm = ⟨#[]⟩
                    · subst hn0
                      have HNm := hide (fun jj => quiet_left (n := jj) (hnm jj))
                      clear hE hnm hlc hlq hnm' hxv hyv hcx hcY
                      go_wp2_with fail
                      go_quiet ((go_at_call 27; with_reducible exact HNm.out _))
                      have hEq := below_drewN HEs.out nq
                      go_wp2_with fail
                      go_roundw
                      case rel => exact ⟨s + 1, by omega, by go_num, hEq⟩
                      case measure => simp [intOf]; omega
                    · rw [hlq hn0] at hlc
                      have HNm := hide (fun jj => quiet_left (n := jj) (hnm jj))
                      have HLc := hide (fun jj => quiet_left (n := jj) (hlc jj))
                      have hst : ¬ nm.toList = [] := by have := str_eq nm ⟨#[]⟩; rw [decide_eq_false hn0] at this; simpa using this
                      have hst2 : (nm.toList == []) = false := by simpa using hst
                      clear hE hnm hlc hlq hnm' hxv hyv hcx hcY
                      go_wp2_with fail
                      go_quiet ((first | (go_at_call 27; with_reducible exact HNm.out _) | (go_at_call 17; with_reducible exact HLc.out _)))
                      have hEq := below_drewN HEs.out nq
                      go_wp2_with fail
                      go_roundw
                      case rel => exact ⟨s + 1, by omega, by go_num, hEq⟩
                      case measure => simp [intOf]; omega
                · obtain rfl : s = p := by omega
                  clear hE
                  go_wp2_with fail
                  refine (solLives_any _).mono ?_
                  rintro e w9 ⟨rfl, hE9⟩
                  have HE9 := hide (HE7.out.trans' (HEs.out.trans' hE9))
                  clear hE9
                  go_wp2_with fail
                  go_ret
                  exact ⟨rfl, HE9.out⟩
        · have hy := bad_case HA.out hf0
          subst hy
          have hne0 : (f1 != 0) = true := by simpa using hf0
          clear hf0 h18
          go_wp2_with fail
          refine (solLives_any w7).mono ?_
          rintro e w9 ⟨rfl, hE9⟩
          have HE9 := hide (HE7.out.trans' hE9)
          clear hE9
          go_wp2_with fail
          go_ret
          exact ⟨rfl, HE9.out⟩
end Go.Proofs.Ytpjlhpaenmfieaa
