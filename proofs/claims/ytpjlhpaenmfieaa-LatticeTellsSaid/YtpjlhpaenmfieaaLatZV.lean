/- The law LatticeTells, walked. -/
import Derived.Test.YtpjlhpaenmfieaaLatZT
namespace Go.Proofs.Ytpjlhpaenmfieaa
open Go.RowKit

set_option maxRecDepth 100000 in
set_option maxHeartbeats 8000000 in
theorem tells_any (A : Option Addr) (c n : Nat) (ws : List Wd) (A2 : Option Addr) (c2 m : Nat) (os : List (Wd × Wd)) (s : ByteArray) (w : World) (h : WdsAt w w.heap.size A ws) (hsz : ∀ i, (wNm ws i).size ≤ maxLen) (hn : n = ws.length) (hn' : n ≤ 9223372036854775807) (h2 : OdsAt w w.heap.size A2 os) (hm : m = os.length) (hm' : m ≤ 9223372036854775807) :
    Calls Try.prog 5 #[.slice A n c, .slice A2 m c2, .string s] w (BoolPost true w) := by
  have HG := hide (great_any A c n A2 c2 m w hn' hm')
  have HWR := hide (refWrong_any A c n ws A2 c2 m os w h hsz hn h2 hm)
  have HB := hide (fun (w1 : World) (hE : Ext w w1) => build_any A c n ws A2 c2 m os w1 (h.ext hE) hsz hn (h2.ext hE) hm)
  have HLq := hide (fun (w1 : World) (hE : Ext w w1) (h64 : n ≤ 64) (h1000 : m ≤ 1000) (hok : okPs ws.length (prs ws os) = true) => refLeq_any A c n ws A2 c2 m os w1 (h.ext hE) hn h64 (h2.ext hE) hm h1000 hok)
  have HFd := hide (fun (w1 : World) (hE : Ext w w1) => wFind_any A c n ws s w1 (h.ext hE) hn hn')
  have HWD := hide h
  have HN := hide hn
  have HM := hide hm
  clear h h2 hn hm hsz hn' hm'
  have hq := run_eqIn_flt
  cases hg : greatL n m with
  | true =>
    rw [hg] at HG
    clear hg
    go_enter Try.func5, Try.ntmps5
    go_wp2_with fail
    refine HG.out.mono ?_
    rintro e w' ⟨rfl, rfl⟩
    go_wp2_with fail
    refine (latLives_any w).mono ?_
    rintro e w1 ⟨rfl, hE⟩
    go_wp2_with fail
    go_ret
    exact ⟨rfl, hE⟩
  | false =>
    rw [hg] at HG
    clear hg
    by_cases hw : (wrongL ws os).1 = 0
    · have hw0 : wrongL ws os = (0, 0) := wrong_zero hw
      rw [hw0, show fltV (0, 0) = .agg #[.int .i64 0, .int .i64 0] from rfl] at HWR
      have gd := good_of hw
      have h32 := gd.few
      have hok := prs_ok gd.found
      have lat := gd.lat
      have h256 := gd.fewO
      have hn0 := lat.some
      have HLAT := hide lat
      have HOK := hide hok
      have H32 := hide h32
      have HSQ := hide (leads_sq ws.length (prs ws os))
      have HLE := hide (leads_length ws.length (prs ws os))
      have HMT := hide (show mat (leads ws.length (prs ws os)) = leqL ws os from rfl)
      have n64 : n ≤ 64 := by rw [HN.out]; omega
      have m1000 : m ≤ 1000 := by rw [HM.out]; omega
      have hn0' : 0 < n := by rw [HN.out]; exact hn0
      clear gd h32 hok lat h256 hn0 hw
      go_enter Try.func5, Try.ntmps5
      go_wp2_with fail
      refine HG.out.mono ?_
      rintro e w' ⟨rfl, rfl⟩
      go_wp2_with fail
      refine HWR.out.mono ?_
      rintro e w1 ⟨rfl, hE1⟩
      have HE1 := hide hE1
      clear hE1
      go_wp2_with fail
      refine (HB.out w1 HE1.out).mono ?_
      rintro e w2 (⟨hw, rfl, _⟩ | ⟨_, g, rfl, hL, hE⟩)
      · exact absurd (by rw [hw0]) hw
      rw [show fltV (0, 0) = .agg #[.int .i64 0, .int .i64 0] from rfl]
      obtain ⟨w3, hw3⟩ : ∃ w3, w3 = w2.alloc (.cells #[.int .i64 0, .int .i64 0] 29) := ⟨_, rfl⟩
      have hE23 : Ext w2 w3 := by rw [hw3]; exact (Ext.rfl' w2).alloc (Nat.le_refl _) _
      have HE3 := hide ((HE1.out.trans' hE).trans' hE23)
      have HL3 := hide (hL.ext hE23)
      have HW3 := hide hw3
      clear hw0 hw3 hE23 hE hL HE1 hq
      go_wp2_with fail
      rw [← HW3.out]
      refine (HLq.out w3 HE3.out n64 m1000 HOK.out).mono ?_
      rintro e w4 ⟨A3, c3, rfl, hA, hE4⟩
      obtain ⟨M, hM⟩ : ∃ M, M = leads ws.length (prs ws os) := ⟨_, rfl⟩
      rw [← hM] at hA HSQ HLE HMT
      have HA4 := hide hA
      have HE4 := hide (HE3.out.trans' hE4)
      have HL4 := hide (HL3.out.ext hE4)
      clear hA hE4 hM HE3 HL3 HLq
      rw [← HN.out]
      go_wp2_with fail
      refine (refTurn_any A3 c3 n M w4 HA4.out HSQ.out (by rw [HLE.out, HN.out]) n64).mono ?_
      rintro e w5 ⟨A5, c5, rfl, hT, hE5⟩
      rw [HLE.out, ← HN.out]
      have HT5 := hide hT
      have HA5 := hide (HA4.out.below hE5 hE5.size)
      have HE5 := hide (HE4.out.trans' hE5)
      have HL5 := hide (HL4.out.ext hE5)
      clear hT hE5 HE4 HL4 HA4
      go_wp2_with fail
      refine (latFind_any g ws os w5 HL5.out (by have := H32.out; omega) s).mono ?_
      rintro e w6 ⟨rfl, hE6⟩
      have HT6 := hide (HT5.out.below hE6 hE6.size)
      have HA6 := hide (HA5.out.below hE6 hE6.size)
      have HE6 := hide (HE5.out.trans' hE6)
      have HL6 := hide (HL5.out.ext hE6)
      have HFF := hide (HFd.out w6 HE6.out)
      obtain ⟨i1, b1, hfr0, hfr⟩ := findR_eq (nms ws) s
      rw [hfr0]
      obtain ⟨fl, hfl1⟩ : ∃ r, r = findL (nms ws) s := ⟨_, rfl⟩
      rw [← hfl1] at hfr
      rw [← hfl1] at HFF
      have HLN := hide (latLen_any g ws os w6 HL6.out)
      rw [← HN.out] at HLN
      have HNS := hide (latNames_any g ws os w6 HL6.out H32.out)
      clear hfr0 hfl1 hE6 HE5 HL5 HA5 HT5 HFd
      go_wp2_with fail
      refine HFF.out.mono ?_
      rintro e w' ⟨rfl, rfl⟩
      go_upto_region 8 with fail
      go_cut [82] (fun v wx => v = .bool false ∧ Ext w6 wx)
      case first =>
        rcases hfr with ⟨rfl, rfl, rfl⟩ | ⟨i, rfl, rfl, rfl⟩
        all_goals
          go_wp2_with fail
          refine HLN.out.mono ?_
          rintro e w' ⟨rfl, rfl⟩
          go_wp2_with fail
          refine HNS.out.mono ?_
          rintro e w7 ⟨A7, c7, rfl, _, hE7⟩
          rw [nms_length, ← HN.out]
          go_wp2_with fail
          go_meet
          exact ⟨rfl, hE7⟩
      case rest =>
        obtain ⟨rfl, hE7⟩ := hcut
        have HL7 := hide (HL6.out.ext hE7)
        have HT7 := hide (HT6.out.below hE7 hE7.size)
        have HA7 := hide (HA6.out.below hE7 hE7.size)
        have HE7 := hide (HE6.out.trans' hE7)
        have HWD7 := hide (HWD.out.ext HE7.out)
        clear hE7 HL6 HT6 HA6 HE6 HLN HNS HFF hfr HB HWR HG HW3
        go_wp2_with fail
        go_loopw [14] (fun i wr => ∃ a : Nat, a ≤ n ∧ i = .int .i64 a ∧ Ext wc wr) (fun i _ => n - (intOf i).toNat)
        case atStart => exact ⟨0, Nat.zero_le _, rfl, Ext.rfl' _⟩
        case round =>
          obtain ⟨a, ha, rfl, hEa⟩ := hrel
          have HEA := hide hEa
          clear hEa
          by_cases han : a < n
          · obtain ⟨SL, hSL⟩ : ∃ k, k = (seesTo ws os (a : Int) ws.length).length := ⟨_, rfl⟩
            have HSL := hide hSL
            clear hSL
            have hMr := HA7.out.form HSQ.out (by rw [HLE.out, ← HN.out]; exact hn0')
            rw [HLE.out, ← HN.out, HMT.out] at hMr
            obtain ⟨bl, ol, hA3, hbl, hrows⟩ := hMr
            obtain ⟨bk, ok, ck, f1, hbk, g1⟩ := hrows a han
            have HROW := hide hrows
            have HG1 := hide g1
            have HF1 := hide f1
            have HA3 := hide hA3
            clear hrows f1 g1 hA3
            go_wp2_with fail
            go_loopw [15, 16] (fun mv i wr => ∃ b mm : Nat, b ≤ n ∧ i = .int .i64 b ∧ mv = .int .i64 mm ∧ Hid (mm = (seesTo ws os (a : Int) b).length) ∧ mm ≤ b ∧ Ext wc wr) (fun _ i _ => n - (intOf i).toNat)
            case atStart => exact ⟨0, 0, Nat.zero_le _, rfl, rfl, rfl, Nat.le_refl _, HEA.out⟩
            case round =>
              obtain ⟨b, mm, hb, rfl, rfl, HMM, hmb, hEb⟩ := hrel
              have HEB := hide hEb
              clear hEb
              by_cases hbn : b < n
              · have haw : a < ws.length := by rw [← HN.out]; exact han
                have hbw : b < ws.length := by rw [← HN.out]; exact hbn
                obtain ⟨bk2, ok2, ck2, f2, hbk2, g2⟩ := HROW.out b hbn
                have e1 : wr.cell? ⟨bl, ol + a, none⟩ = some (.slice (some ⟨bk, ok, none⟩) n ck) := (HEB.out.cell (p := ⟨bl, ol + a, none⟩) hbl).trans HF1.out
                have e2 : wr.cell? ⟨bk, ok + b, none⟩ = some (.bool (leqL ws os a b)) := (HEB.out.cell (p := ⟨bk, ok + b, none⟩) hbk).trans (HG1.out b hbn)
                have e3 : wr.cell? ⟨bl, ol + b, none⟩ = some (.slice (some ⟨bk2, ok2, none⟩) n ck2) := (HEB.out.cell (p := ⟨bl, ol + b, none⟩) hbl).trans f2
                have e4 : wr.cell? ⟨bk2, ok2 + a, none⟩ = some (.bool (leqL ws os b a)) := (HEB.out.cell (p := ⟨bk2, ok2 + a, none⟩) hbk2).trans (g2 a han)
                clear f2 g2
                have tl := LatM.topN_lt HLAT.out
                have tt := LatM.topN_top HLAT.out haw
                have bl' : LatM.topN ws.length (turnL (leqL ws os)) < ws.length := LatM.topN_lt HLAT.out.turn
                have bt : leqL ws os (LatM.topN ws.length (turnL (leqL ws os))) a = true := LatM.topN_top HLAT.out.turn haw
                have h1 := fun k : Nat => latLeq_any g ws os (wr.drewN k) (HL7.out.ext (below_drewN HEB.out k)) HOK.out a b
                have h2 := fun k : Nat => latJoin_any g ws os (wr.drewN k) (HL7.out.ext (below_drewN HEB.out k)) H32.out a b
                have h3 := fun k : Nat => refJoin_any A3 c3 n M a b (wr.drewN k) (HA7.out.below (below_drewN HEB.out k) (below_drewN HEB.out k).size) HSQ.out (by rw [HLE.out, HN.out]) n64 han hbn
                have h4 := fun k : Nat => latMeet_any g ws os (wr.drewN k) (HL7.out.ext (below_drewN HEB.out k)) H32.out a b
                have h5 := fun k : Nat => refJoin_any A5 c5 n (turnM M) a b (wr.drewN k) (HT7.out.below (below_drewN HEB.out k) (below_drewN HEB.out k).size) (turnM_sq M) (by rw [turnM_length, HLE.out, HN.out]) n64 han hbn
                have h6 := fun k : Nat => latTop_any g ws os (wr.drewN k) (HL7.out.ext (below_drewN HEB.out k)) H32.out HLAT.out
                have h7 := fun k : Nat => latLeq_any g ws os (wr.drewN k) (HL7.out.ext (below_drewN HEB.out k)) HOK.out a (LatM.topN ws.length (leqL ws os) : Nat)
                have h8 := fun k : Nat => latBottom_any g ws os (wr.drewN k) (HL7.out.ext (below_drewN HEB.out k)) H32.out HLAT.out.turn
                have h9 := fun k : Nat => latLeq_any g ws os (wr.drewN k) (HL7.out.ext (below_drewN HEB.out k)) HOK.out (LatM.topN ws.length (turnL (leqL ws os)) : Nat) a
                have j1e : LatM.joinL n (mat M) a b = LatM.joinL ws.length (leqL ws os) a b := by rw [HMT.out, HN.out]
                have j2e : LatM.joinL n (mat (turnM M)) a b = LatM.joinL ws.length (turnL (leqL ws os)) a b := by
                  have := join_turn (M := M) (a := a) (b := b) (by rw [HLE.out]; exact haw) (by rw [HLE.out]; exact hbw)
                  rw [HLE.out, HMT.out] at this
                  rw [HN.out, this]; rfl
                rw [leqI_nat haw hbw] at h1
                rw [joinI_nat haw hbw] at h2 h4
                rw [j1e] at h3
                rw [j2e] at h5
                rw [leqI_nat haw tl, tt] at h7
                rw [leqI_nat bl' haw, bt] at h9
                clear j1e j2e tl tt bl' bt
                obtain ⟨q, hqq⟩ : ∃ v, v = leqL ws os a b := ⟨_, rfl⟩
                obtain ⟨q2, hqq2⟩ : ∃ v, v = leqL ws os b a := ⟨_, rfl⟩
                obtain ⟨j1, hj1⟩ : ∃ v, v = LatM.joinL ws.length (leqL ws os) a b := ⟨_, rfl⟩
                obtain ⟨j2, hj2⟩ : ∃ v, v = LatM.joinL ws.length (turnL (leqL ws os)) a b := ⟨_, rfl⟩
                obtain ⟨tp, htp⟩ : ∃ v, v = LatM.topN ws.length (leqL ws os) := ⟨_, rfl⟩
                obtain ⟨bt, hbt⟩ : ∃ v, v = LatM.topN ws.length (turnL (leqL ws os)) := ⟨_, rfl⟩
                rw [← hqq] at h1 e2
                rw [← hqq2] at e4
                rw [← hj1] at h2 h3
                rw [← hj2] at h4 h5
                rw [← htp] at h6 h7
                rw [← hbt] at h8 h9
                have C1 := hide (fun k : Nat => quiet_left (n := k) (h1 k))
                have C2 := hide (fun k : Nat => quiet_left (n := k) (h2 k))
                have C3 := hide (fun k : Nat => quiet_left (n := k) (h3 k))
                have C4 := hide (fun k : Nat => quiet_left (n := k) (h4 k))
                have C5 := hide (fun k : Nat => quiet_left (n := k) (h5 k))
                have C6 := hide (fun k : Nat => quiet_left (n := k) (h6 k))
                have C7 := hide (fun k : Nat => quiet_left (n := k) (h7 k))
                have C8 := hide (fun k : Nat => quiet_left (n := k) (h8 k))
                have C9 := hide (fun k : Nat => quiet_left (n := k) (h9 k))
                have HQ2 := hide (show leqI ws os (b : Int) (a : Int) = q2 by rw [leqI_nat hbw haw, hqq2])
                have hA3 := HA3.out
                subst hA3
                clear h1 h2 h3 h4 h5 h6 h7 h8 h9 hqq hqq2 hj1 hj2 htp hbt haw HA7 HT7 HROW HF1 HG1 HA3
                go_wp2_with fail
                go_quiet ((first
                  | (go_at_call 17; first | (with_reducible exact C1.out _) | (with_reducible exact C7.out _) | (with_reducible exact C9.out _))
                  | (go_at_call 15; with_reducible exact C2.out _)
                  | (go_at_call 16; with_reducible exact C4.out _)
                  | (go_at_call 25; first | (with_reducible exact C3.out _) | (with_reducible exact C5.out _))
                  | (go_at_call 19; with_reducible exact C6.out _)
                  | (go_at_call 18; with_reducible exact C8.out _)))
                have hEq : Ext wc (wr.drewN nq) := below_drewN HEB.out nq
                obtain ⟨w7, hw7⟩ : ∃ w7, w7 = wr.drewN nq := ⟨_, rfl⟩
                have e3' : w7.cell? ⟨bl, ol + b, none⟩ = some (.slice (some ⟨bk2, ok2, none⟩) n ck2) := by rw [hw7]; exact e3
                have e4' : w7.cell? ⟨bk2, ok2 + a, none⟩ = some (.bool q2) := by rw [hw7]; exact e4
                rw [← hw7] at hEq ⊢
                have HEQ := hide hEq
                clear hw7 hEq e1 e2 e3 e4 C1 C2 C3 C4 C5 C6 C7 C8 C9 hbl hbk hbk2
                cases q2 with
                | false =>
                  have HM2 := hide (show mm = (seesTo ws os (a : Int) (b + 1)).length by rw [seesTo_no HQ2.out]; exact HMM.out)
                  go_wp2_with fail
                  go_roundw
                  case rel => exact ⟨b + 1, mm, by omega, by go_num, rfl, HM2, by omega, HEQ.out⟩
                  case measure => simp [intOf]; omega
                | true =>
                  have hit := seesTo_hit hbw HQ2.out
                  rw [← HMM.out, ← HSL.out] at hit
                  have HM2 := hide (show mm + 1 = (seesTo ws os (a : Int) (b + 1)).length by rw [seesTo_yes HQ2.out, List.length_append, ← HMM.out]; rfl)
                  have HS1 := hide (latSees_any g ws os w7 (HL7.out.ext HEQ.out) H32.out HOK.out (a : Int))
                  obtain ⟨i1, i2⟩ := hit
                  have i0 : ¬ ((mm : Int) ≥ (SL : Int)) := by omega
                  have i3 : (mm : Int) < (SL : Int) := by omega
                  have I2 := hide i2
                  clear i2
                  go_wp2_with fail
                  refine HS1.out.mono ?_
                  rintro e w8 ⟨A8, c8, rfl, _, hE8⟩
                  rw [← HSL.out]
                  have HE8 := hide (HEQ.out.trans' hE8)
                  clear hE8 HS1 e3' e4'
                  go_wp2_with fail
                  refine (latSees_any g ws os w8 (HL7.out.ext HE8.out) H32.out HOK.out (a : Int)).mono ?_
                  rintro e w9 ⟨A9, c9, rfl, hN9, hE9⟩
                  obtain ⟨b9, o9, rfl, _, hc9⟩ := hN9.cell (by rw [← HSL.out]; omega)
                  have hc := hc9 mm (by rw [← HSL.out]; exact i1)
                  have hv : (seesTo ws os (a : Int) ws.length)[mm]'(by rw [← HSL.out]; exact i1) = b := by
                    have := I2.out
                    rw [List.getElem?_eq_getElem (by rw [← HSL.out]; exact i1)] at this
                    exact Option.some.inj this
                  rw [hv] at hc
                  rw [← HSL.out]
                  have HE9 := hide (HE8.out.trans' hE9)
                  clear hE9 hN9 hc9 hv HE8
                  go_wp2_with fail
                  go_roundw
                  case rel => exact ⟨b + 1, mm + 1, by omega, by go_num, by go_num, HM2, by omega, HE9.out⟩
                  case measure => simp [intOf]; omega
              · obtain rfl : b = n := by omega
                have HMS := hide (show mm = SL by rw [HMM.out, HSL.out, HN.out])
                obtain rfl := HMS.out
                have haw : a < ws.length := by rw [← HN.out]; exact han
                obtain ⟨bw, ow, hA, hbw, hcw⟩ := HWD7.out.cell (by omega)
                have c0 := (hcw a haw).1
                obtain ⟨x, hx⟩ : ∃ x, x = wNm ws a := ⟨_, rfl⟩
                have hnm : nmI ws (a : Int) = x := by unfold nmI; rw [hasI_nat haw, if_pos rfl, Int.toNat_natCast, hx]
                rw [← hx] at c0
                subst hA
                obtain ⟨W, hW⟩ : ∃ W, W = wr := ⟨_, rfl⟩
                have HSS := hide (fun (w' : World) (hE : Ext wc w') => latSees_any g ws os w' (HL7.out.ext hE) H32.out HOK.out (a : Int))
                have hNN := fun (w' : World) (hE : Ext wc w') => latName_any g ws os w' (HL7.out.ext hE) (a : Int)
                rw [hnm] at hNN
                have HNN := hide hNN
                have HNS := hide (fun (w' : World) (hE : Ext wc w') => latNames_any g ws os w' (HL7.out.ext hE) H32.out)
                have HXX := hide (show ∀ (h : a < (nms ws).length), (nms ws)[a] = x from fun h => by rw [nms_at, hx])
                have HC0 := hide c0
                have hS := (HEB.out.cell (p := ⟨bw, ow + a * 2, none⟩) hbw).trans c0
                have HX := hide HEB.out.drew'
                have i0 : (0 : Int) ≤ (a : Int) := by omega
                have i1 : (a : Int) < (b : Int) := by omega
                clear hnm hNN hcw hx hW HMM HMS HWD7 HWD c0 hbl hbk
                go_wp2_with fail
                go_cut [199] (fun v wx => v = .bool false ∧ Ext wc wx)
                case first =>
                  refine wp_region_held_drew (S := fun w' => w'.cell? ⟨bw, ow + a * 2, none⟩ = some (.string x)) (by kernel_rfl) (hS) (fun hHeld => ?_)
                  refine wpAnyH_take (i := 0) (v := ?_) rfl (by kernel_rfl) (by kernel_rfl) (by kernel_rfl) (fun _ _ _ h => h) (Or.inl ⟨by rfl, ?_⟩) hHeld ?_
                  rotate_left
                  · (intro w hSw; (try dsimp only at hSw); go_simp; all_goals with_reducible rfl)
                  try simp only [Act.put, List.getElem_toArray, List.getElem_cons_succ, List.getElem_cons_zero, List.setIfInBounds_toArray, List.set_cons_zero, List.set_cons_succ]
                  refine wpAnyH_take (i := 1) (v := ?_) rfl (by kernel_rfl) (by kernel_rfl) (by kernel_rfl) (fun _ _ _ h => h) (Or.inl ⟨by rfl, ?_⟩) hHeld ?_
                  rotate_left
                  · (intro w hSw; (try dsimp only at hSw); go_simp; all_goals with_reducible rfl)
                  try simp only [Act.put, List.getElem_toArray, List.getElem_cons_succ, List.getElem_cons_zero, List.setIfInBounds_toArray, List.set_cons_zero, List.set_cons_succ]
                  refine wpAnyH_take (i := 2) (v := ?_) rfl (by kernel_rfl) (by kernel_rfl) (by kernel_rfl) (fun _ _ _ h => h) (Or.inl ⟨by rfl, ?_⟩) hHeld ?_
                  rotate_left
                  · (intro w hSw; (try dsimp only at hSw); go_simp; all_goals with_reducible rfl)
                  try simp only [Act.put, List.getElem_toArray, List.getElem_cons_succ, List.getElem_cons_zero, List.setIfInBounds_toArray, List.set_cons_zero, List.set_cons_succ]
                  refine wpAnyH_ready (rs := [3]) (by kernel_rfl) (by simp) ?_
                  refine AllReadyH.cons rfl (fun K hK => ?_) AllReadyH.nil
                  go_simp
                  refine (HSS.out _ HX.out).mono ?_
                  rintro e w1 ⟨A8, c8, rfl, _, hE⟩
                  rw [← HSL.out]
                  have HX := hide (Ext.trans' HX.out hE)
                  clear hE
                  go_wp2_with fail
                  refine hK.out _ _ ((HX.out.cell (p := ⟨bw, ow + a * 2, none⟩) hbw).trans HC0.out) (fun hHeld => ?_)
                  clear hK K
                  try simp only [Act.put, List.getElem_toArray, List.getElem_cons_succ, List.getElem_cons_zero, List.setIfInBounds_toArray, List.set_cons_zero, List.set_cons_succ]
                  refine wpAnyH_take (i := 4) (v := ?_) rfl (by kernel_rfl) (by kernel_rfl) (by kernel_rfl) (fun _ _ _ h => h) (Or.inl ⟨by rfl, ?_⟩) hHeld ?_
                  rotate_left
                  · (intro w hSw; (try dsimp only at hSw); go_simp; all_goals with_reducible rfl)
                  try simp only [Act.put, List.getElem_toArray, List.getElem_cons_succ, List.getElem_cons_zero, List.setIfInBounds_toArray, List.set_cons_zero, List.set_cons_succ]
                  refine wpAnyH_take (i := 5) (v := ?_) rfl (by kernel_rfl) (by kernel_rfl) (by kernel_rfl) (fun _ _ _ h => h) (Or.inl ⟨by rfl, ?_⟩) hHeld ?_
                  rotate_left
                  · (intro w hSw; (try dsimp only at hSw); go_simp; all_goals with_reducible rfl)
                  try simp only [Act.put, List.getElem_toArray, List.getElem_cons_succ, List.getElem_cons_zero, List.setIfInBounds_toArray, List.set_cons_zero, List.set_cons_succ]
                  refine wpAnyH_take (i := 6) (v := ?_) rfl (by kernel_rfl) (by kernel_rfl) (by kernel_rfl) (fun _ _ _ h => h) (Or.inl ⟨by rfl, ?_⟩) hHeld ?_
                  rotate_left
                  · (intro w hSw; (try dsimp only at hSw); go_simp; all_goals with_reducible rfl)
                  try simp only [Act.put, List.getElem_toArray, List.getElem_cons_succ, List.getElem_cons_zero, List.setIfInBounds_toArray, List.set_cons_zero, List.set_cons_succ]
                  refine wpAnyH_take (i := 7) (v := ?_) rfl (by kernel_rfl) (by kernel_rfl) (by kernel_rfl) (fun _ _ _ h => h) (Or.inl ⟨by rfl, ?_⟩) hHeld ?_
                  rotate_left
                  · (intro w hSw; (try dsimp only at hSw); go_simp; all_goals with_reducible rfl)
                  try simp only [Act.put, List.getElem_toArray, List.getElem_cons_succ, List.getElem_cons_zero, List.setIfInBounds_toArray, List.set_cons_zero, List.set_cons_succ]
                  refine wpAnyH_take (i := 8) (v := ?_) rfl (by kernel_rfl) (by kernel_rfl) (by kernel_rfl) (fun _ _ _ h => h) (Or.inl ⟨by rfl, ?_⟩) hHeld ?_
                  rotate_left
                  · (intro w hSw; (try dsimp only at hSw); go_simp; all_goals with_reducible rfl)
                  try simp only [Act.put, List.getElem_toArray, List.getElem_cons_succ, List.getElem_cons_zero, List.setIfInBounds_toArray, List.set_cons_zero, List.set_cons_succ]
                  refine wpAnyH_take (i := 10) (v := ?_) rfl (by kernel_rfl) (by kernel_rfl) (by kernel_rfl) (fun _ _ _ h => h) (Or.inl ⟨by rfl, ?_⟩) hHeld ?_
                  rotate_left
                  · (intro w hSw; (try dsimp only at hSw); go_simp; all_goals with_reducible rfl)
                  try simp only [Act.put, List.getElem_toArray, List.getElem_cons_succ, List.getElem_cons_zero, List.setIfInBounds_toArray, List.set_cons_zero, List.set_cons_succ]
                  refine wpAnyH_take (i := 11) (v := ?_) rfl (by kernel_rfl) (by kernel_rfl) (by kernel_rfl) (fun _ _ _ h => h) (Or.inl ⟨by rfl, ?_⟩) hHeld ?_
                  rotate_left
                  · (intro w hSw; (try dsimp only at hSw); go_simp; all_goals with_reducible rfl)
                  try simp only [Act.put, List.getElem_toArray, List.getElem_cons_succ, List.getElem_cons_zero, List.setIfInBounds_toArray, List.set_cons_zero, List.set_cons_succ]
                  refine wpAnyH_take (i := 12) (v := ?_) rfl (by kernel_rfl) (by kernel_rfl) (by kernel_rfl) (fun _ _ _ h => h) (Or.inl ⟨by rfl, ?_⟩) hHeld ?_
                  rotate_left
                  · (intro w hSw; (try dsimp only at hSw); go_simp; all_goals with_reducible rfl)
                  try simp only [Act.put, List.getElem_toArray, List.getElem_cons_succ, List.getElem_cons_zero, List.setIfInBounds_toArray, List.set_cons_zero, List.set_cons_succ]
                  refine wpAnyH_take (i := 13) (v := ?_) rfl (by kernel_rfl) (by kernel_rfl) (by kernel_rfl) (fun _ _ _ h => h) (Or.inl ⟨by rfl, ?_⟩) hHeld ?_
                  rotate_left
                  · (intro w hSw; (try dsimp only at hSw); go_simp; all_goals with_reducible rfl)
                  try simp only [Act.put, List.getElem_toArray, List.getElem_cons_succ, List.getElem_cons_zero, List.setIfInBounds_toArray, List.set_cons_zero, List.set_cons_succ]
                  refine wpAnyH_take (i := 14) (v := ?_) rfl (by kernel_rfl) (by kernel_rfl) (by kernel_rfl) (fun _ _ _ h => h) (Or.inl ⟨by rfl, ?_⟩) hHeld ?_
                  rotate_left
                  · (intro w hSw; (try dsimp only at hSw); go_simp; all_goals with_reducible rfl)
                  try simp only [Act.put, List.getElem_toArray, List.getElem_cons_succ, List.getElem_cons_zero, List.setIfInBounds_toArray, List.set_cons_zero, List.set_cons_succ]
                  refine wpAnyH_ready (rs := [9]) (by kernel_rfl) (by simp) ?_
                  refine AllReadyH.cons rfl (fun K hK => ?_) AllReadyH.nil
                  go_simp
                  refine (HNN.out _ HX.out).mono ?_
                  rintro e w2 ⟨rfl, rfl⟩
                  go_wp2_with fail
                  refine hK.out _ _ (hHeld) (fun hHeld => ?_)
                  clear hK K
                  try simp only [Act.put, List.getElem_toArray, List.getElem_cons_succ, List.getElem_cons_zero, List.setIfInBounds_toArray, List.set_cons_zero, List.set_cons_succ]
                  refine wpAnyH_take (i := 15) (v := ?_) rfl (by kernel_rfl) (by kernel_rfl) (by kernel_rfl) (fun _ _ _ h => h) (Or.inl ⟨by rfl, ?_⟩) hHeld ?_
                  rotate_left
                  · (intro w hSw; (try dsimp only at hSw); go_simp; all_goals with_reducible rfl)
                  try simp only [Act.put, List.getElem_toArray, List.getElem_cons_succ, List.getElem_cons_zero, List.setIfInBounds_toArray, List.set_cons_zero, List.set_cons_succ]
                  refine wpAnyH_take (i := 16) (v := ?_) rfl (by kernel_rfl) (by kernel_rfl) (by kernel_rfl) (fun _ _ _ h => h) (Or.inl ⟨by rfl, ?_⟩) hHeld ?_
                  rotate_left
                  · (intro w hSw; (try dsimp only at hSw); go_simp; all_goals with_reducible rfl)
                  try simp only [Act.put, List.getElem_toArray, List.getElem_cons_succ, List.getElem_cons_zero, List.setIfInBounds_toArray, List.set_cons_zero, List.set_cons_succ]
                  refine wpAnyH_take (i := 17) (v := ?_) rfl (by kernel_rfl) (by kernel_rfl) (by kernel_rfl) (fun _ _ _ h => h) (Or.inl ⟨by rfl, ?_⟩) hHeld ?_
                  rotate_left
                  · (intro w hSw; (try dsimp only at hSw); go_simp; all_goals with_reducible rfl)
                  try simp only [Act.put, List.getElem_toArray, List.getElem_cons_succ, List.getElem_cons_zero, List.setIfInBounds_toArray, List.set_cons_zero, List.set_cons_succ]
                  refine wpAnyH_take (i := 18) (v := ?_) rfl (by kernel_rfl) (by kernel_rfl) (by kernel_rfl) (fun _ _ _ h => h) (Or.inl ⟨by rfl, ?_⟩) hHeld ?_
                  rotate_left
                  · (intro w hSw; (try dsimp only at hSw); go_simp; all_goals with_reducible rfl)
                  try simp only [Act.put, List.getElem_toArray, List.getElem_cons_succ, List.getElem_cons_zero, List.setIfInBounds_toArray, List.set_cons_zero, List.set_cons_succ]
                  refine wpAnyH_take (i := 20) (v := ?_) rfl (by kernel_rfl) (by kernel_rfl) (by kernel_rfl) (fun _ _ _ h => h) (Or.inl ⟨by rfl, ?_⟩) hHeld ?_
                  rotate_left
                  · (intro w hSw; (try dsimp only at hSw); go_simp; all_goals with_reducible rfl)
                  try simp only [Act.put, List.getElem_toArray, List.getElem_cons_succ, List.getElem_cons_zero, List.setIfInBounds_toArray, List.set_cons_zero, List.set_cons_succ]
                  refine wpAnyH_take (i := 23) (v := ?_) rfl (by kernel_rfl) (by kernel_rfl) (by kernel_rfl) (fun _ _ _ h => h) (Or.inl ⟨by rfl, ?_⟩) hHeld ?_
                  rotate_left
                  · (intro w hSw; (try dsimp only at hSw); go_simp; all_goals with_reducible rfl)
                  try simp only [Act.put, List.getElem_toArray, List.getElem_cons_succ, List.getElem_cons_zero, List.setIfInBounds_toArray, List.set_cons_zero, List.set_cons_succ]
                  refine wpAnyH_take (i := 24) (v := ?_) rfl (by kernel_rfl) (by kernel_rfl) (by kernel_rfl) (fun _ _ _ h => h) (Or.inl ⟨by rfl, ?_⟩) hHeld ?_
                  rotate_left
                  · (intro w hSw; (try dsimp only at hSw); go_simp; all_goals with_reducible rfl)
                  try simp only [Act.put, List.getElem_toArray, List.getElem_cons_succ, List.getElem_cons_zero, List.setIfInBounds_toArray, List.set_cons_zero, List.set_cons_succ]
                  refine wpAnyH_take (i := 25) (v := ?_) rfl (by kernel_rfl) (by kernel_rfl) (by kernel_rfl) (fun _ _ _ h => h) (Or.inl ⟨by rfl, ?_⟩) hHeld ?_
                  rotate_left
                  · (intro w hSw; (try dsimp only at hSw); go_simp; all_goals with_reducible rfl)
                  try simp only [Act.put, List.getElem_toArray, List.getElem_cons_succ, List.getElem_cons_zero, List.setIfInBounds_toArray, List.set_cons_zero, List.set_cons_succ]
                  refine wpAnyH_take (i := 26) (v := ?_) rfl (by kernel_rfl) (by kernel_rfl) (by kernel_rfl) (fun _ _ _ h => h) (Or.inl ⟨by rfl, ?_⟩) hHeld ?_
                  rotate_left
                  · (intro w hSw; (try dsimp only at hSw); go_simp; all_goals with_reducible rfl)
                  try simp only [Act.put, List.getElem_toArray, List.getElem_cons_succ, List.getElem_cons_zero, List.setIfInBounds_toArray, List.set_cons_zero, List.set_cons_succ]
                  refine wpAnyH_take (i := 27) (v := ?_) rfl (by kernel_rfl) (by kernel_rfl) (by kernel_rfl) (fun _ _ _ h => h) (Or.inl ⟨by rfl, ?_⟩) hHeld ?_
                  rotate_left
                  · (intro w hSw; (try dsimp only at hSw); go_simp; all_goals with_reducible rfl)
                  try simp only [Act.put, List.getElem_toArray, List.getElem_cons_succ, List.getElem_cons_zero, List.setIfInBounds_toArray, List.set_cons_zero, List.set_cons_succ]
                  refine wpAnyH_ready (rs := [19]) (by kernel_rfl) (by simp) ?_
                  refine AllReadyH.cons rfl (fun K hK => ?_) AllReadyH.nil
                  go_simp
                  refine (HNS.out _ HX.out).mono ?_
                  rintro e w3 ⟨A9, c9, rfl, hR, hE⟩
                  have HX := hide (Ext.trans' HX.out hE)
                  obtain ⟨b9, o9, rfl, _, hc9⟩ := hR.cell (by rw [nms_length]; omega)
                  have hc := hc9 a (by rw [nms_length]; omega)
                  rw [HXX.out] at hc
                  rw [nms_length, ← HN.out]
                  clear hE hR hc9
                  go_wp2_with fail
                  refine hK.out _ _ ((HX.out.cell (p := ⟨bw, ow + a * 2, none⟩) hbw).trans HC0.out) (fun hHeld => ?_)
                  clear hK K
                  try simp only [Act.put, List.getElem_toArray, List.getElem_cons_succ, List.getElem_cons_zero, List.setIfInBounds_toArray, List.set_cons_zero, List.set_cons_succ]
                  refine wpAnyH_more (S' := fun w' => w'.cell? ⟨bw, ow + a * 2, none⟩ = some (.string x) ∧ w'.cell? ⟨b9, o9 + a, none⟩ = some (.string x)) (fun w h => h.1) ?_
                  replace hHeld := And.intro hHeld hc
                  refine wpAnyH_take (i := 21) (v := ?_) rfl (by kernel_rfl) (by kernel_rfl) (by kernel_rfl) (fun _ _ _ h => h) (Or.inl ⟨by rfl, ?_⟩) hHeld ?_
                  rotate_left
                  · (intro w hSw; (try dsimp only at hSw); go_simp; all_goals with_reducible rfl)
                  try simp only [Act.put, List.getElem_toArray, List.getElem_cons_succ, List.getElem_cons_zero, List.setIfInBounds_toArray, List.set_cons_zero, List.set_cons_succ]
                  refine wpAnyH_take (i := 22) (v := ?_) rfl (by kernel_rfl) (by kernel_rfl) (by kernel_rfl) (fun _ _ _ h => h) (Or.inl ⟨by rfl, ?_⟩) hHeld ?_
                  rotate_left
                  · (intro w hSw; (try dsimp only at hSw); go_simp; all_goals with_reducible rfl)
                  try simp only [Act.put, List.getElem_toArray, List.getElem_cons_succ, List.getElem_cons_zero, List.setIfInBounds_toArray, List.set_cons_zero, List.set_cons_succ]
                  refine wpAnyH_take (i := 28) (v := ?_) rfl (by kernel_rfl) (by kernel_rfl) (by kernel_rfl) (fun _ _ _ h => h) (Or.inl ⟨by rfl, ?_⟩) hHeld ?_
                  rotate_left
                  · (intro w hSw; (try dsimp only at hSw); go_simp; all_goals with_reducible rfl)
                  try simp only [Act.put, List.getElem_toArray, List.getElem_cons_succ, List.getElem_cons_zero, List.setIfInBounds_toArray, List.set_cons_zero, List.set_cons_succ]
                  refine wpAnyH_take (i := 29) (v := ?_) rfl (by kernel_rfl) (by kernel_rfl) (by kernel_rfl) (fun _ _ _ h => h) (Or.inl ⟨by rfl, ?_⟩) hHeld ?_
                  rotate_left
                  · (intro w hSw; (try dsimp only at hSw); go_simp; all_goals with_reducible rfl)
                  try simp only [Act.put, List.getElem_toArray, List.getElem_cons_succ, List.getElem_cons_zero, List.setIfInBounds_toArray, List.set_cons_zero, List.set_cons_succ]
                  refine wpAnyH_done (by kernel_rfl) ?_ _
                  go_wp2_with fail
                  go_meet
                  exact ⟨rfl, HX.out⟩
                case rest =>
                  obtain ⟨rfl, hEr⟩ := hcut
                  have HER := hide hEr
                  clear hEr
                  go_wp2_with fail
                  go_roundw
                  case rel => exact ⟨a + 1, by omega, by go_num, HER.out⟩
                  case measure => simp [intOf]; omega
          · obtain rfl : a = n := by omega
            go_wp2_with fail
            refine (latLives_any _).mono ?_
            rintro e w8 ⟨rfl, hE8⟩
            go_wp2_with fail
            go_ret
            exact ⟨rfl, (HE7.out.trans' HEA.out).trans' hE8⟩
    · obtain ⟨f1, hf1⟩ : ∃ f1, f1 = (wrongL ws os).1 := ⟨_, rfl⟩
      obtain ⟨f2, hf2⟩ : ∃ f2, f2 = (wrongL ws os).2 := ⟨_, rfl⟩
      have e : fltV (wrongL ws os) = .agg #[.int .i64 f1, .int .i64 f2] := by rw [hf1, hf2]; rfl
      rw [e] at HWR
      rw [← hf1] at hw
      have h0 : (f1 == 0) = false := by simpa using hw
      clear hf1 hf2 hw e
      go_enter Try.func5, Try.ntmps5
      go_wp2_with fail
      refine HG.out.mono ?_
      rintro e w' ⟨rfl, rfl⟩
      go_wp2_with fail
      refine HWR.out.mono ?_
      rintro e w1 ⟨rfl, hE1⟩
      go_wp2_with fail
      refine (latLives_any w1).mono ?_
      rintro e w2 ⟨rfl, hE2⟩
      go_wp2_with fail
      go_ret
      exact ⟨rfl, hE1.trans' hE2⟩
end Go.Proofs.Ytpjlhpaenmfieaa
