/- The document's functions of layer 11: Wrong. -/
import Derived.Test.YtpjlhpaenmfieaaGreatLatR
import Derived.Test.YtpjlhpaenmfieaaGreatLatT
import Derived.Test.YtpjlhpaenmfieaaGreatLatK
namespace Go.Proofs.YtpjlhpaenmfieaaGreat
open Go.RowKit

set_option maxRecDepth 100000 in
set_option maxHeartbeats 4000000 in
theorem refWrong_any (A : Option Addr) (c n : Nat) (ws : List Wd) (A2 : Option Addr) (c2 m : Nat) (os : List (Wd × Wd)) (w : World) (h : WdsAt w w.heap.size A ws) (hsz : ∀ i, (wNm ws i).size ≤ maxLen) (hn : n = ws.length) (h2 : OdsAt w w.heap.size A2 os) (hm : m = os.length) :
    Calls Tryz.prog 31 #[.slice A n c, .slice A2 m c2] w (fun e w' => e = .returned (fltV (wrongL ws os)) ∧ Ext w w') := by
  by_cases c0 : n = 0
  · have e : wrongL ws os = (15, 0) := by unfold wrongL; rw [if_pos (by omega)]
    rw [e]
    subst c0
    clear h h2 hn hm e hsz
    go_enter Tryz.func31, Tryz.ntmps31
    go_wp2_with fail
    exact flt_ret (f := (15, 0)) (Blk.new _ _ _) rfl rfl rfl ⟨rfl, (Ext.rfl' w).alloc (Nat.le_refl _) _⟩
  have hn0 : ((n : Int) == 0) = false := by rw [beq_eq_false_iff_ne]; omega
  by_cases c1 : 32 < n
  · have e : wrongL ws os = (8, wPl ws 32) := by unfold wrongL; rw [if_neg (by omega), if_pos (by omega)]
    rw [e]
    obtain ⟨b, o, rfl, hbs, hcell⟩ := h.cell (by omega)
    have d1 := (hcell 32 (by omega)).2
    obtain ⟨x, hx⟩ : ∃ x, x = wPl ws 32 := ⟨_, rfl⟩
    rw [← hx] at d1 ⊢
    clear hx hcell h h2 hn hm e hsz
    go_enter Tryz.func31, Tryz.ntmps31
    go_wp2_with fail
    exact flt_ret (f := (8, x)) (Blk.new _ _ _) rfl rfl rfl ⟨rfl, (Ext.rfl' w).alloc (Nat.le_refl _) _⟩
  by_cases c3 : 256 < m
  · have e : wrongL ws os = (8, (lo os 256).2) := by unfold wrongL; rw [if_neg (by omega), if_neg (by omega), if_pos (by omega)]
    rw [e]
    obtain ⟨b, o, rfl, hbs, hcell⟩ := h2.cell (by omega)
    have d1 := (hcell 256 (by omega)).2.1
    obtain ⟨x, hx⟩ : ∃ x, x = (lo os 256).2 := ⟨_, rfl⟩
    rw [← hx] at d1 ⊢
    clear hx hcell h h2 hn hm e hsz
    go_enter Tryz.func31, Tryz.ntmps31
    go_wp2_with fail
    exact flt_ret (f := (8, x)) (Blk.new _ _ _) rfl rfl rfl ⟨rfl, (Ext.rfl' w).alloc (Nat.le_refl _) _⟩
  obtain ⟨hw1, hw2, hw3⟩ := wrong_few (ws := ws) (os := os) (by omega) (by omega) (by omega)
  have HW1 := hide hw1
  have HW2 := hide hw2
  have HW3 := hide hw3
  have HN := hide hn
  have HM := hide hm
  obtain ⟨w0, hw0⟩ : ∃ w0, w0 = w.alloc (.cells #[.int .i64 0, .int .i64 0] 31) := ⟨_, rfl⟩
  have hE0 : Ext w w0 := by rw [hw0]; exact (Ext.rfl' w).alloc (Nat.le_refl _) _
  have hB0 : Blk w0 w.heap.size 31 #[.int .i64 0, .int .i64 0] := by rw [hw0]; exact Blk.new _ _ _
  have HH := hide (h.ext hE0)
  have HO := hide (h2.ext hE0)
  have HSZ := hide hsz
  have HFind := hide (fun (w1 : World) (s : ByteArray) (hE : Ext w0 w1) => wFind_any A c n ws s w1 (HH.out.ext hE) hn (by omega))
  have HLeq := hide (fun (hok : okPs ws.length (prs ws os) = true) => refLeq_any A c n ws A2 c2 m os w0 HH.out hn (by omega) HO.out hm (by omega) hok)
  have HE0 := hide hE0
  have HB0 := hide hB0
  clear h h2 hn hm hsz hw1 hw2 hw3 hE0 hB0
  go_enter Tryz.func31, Tryz.ntmps31
  go_wp2_with fail
  rw [← hw0]
  clear hw0
  have b0 := HB0.out.cell 0
  have b1 := HB0.out.cell 1
  have f0 := HB0.out.free 0
  have f1 := HB0.out.free 1
  simp only [List.getElem?_toArray, List.getElem?_cons_zero, List.getElem?_cons_succ] at b0 b1
  go_loop [5] (fun i => ∃ k : Nat, k ≤ n ∧ i = .int .i64 k ∧ Hid (∀ j, j < k → nameBad ws j = none)) (fun i => n - (intOf i).toNat)
  case atStart => exact ⟨0, Nat.zero_le _, rfl, fun j hj => absurd hj (by omega)⟩
  case round =>
    obtain ⟨k, hk, rfl, HA⟩ := hrel
    by_cases hlt : k < n
    · have hkl : k < ws.length := by rw [← HN.out]; exact hlt
      obtain ⟨b, o, rfl, hbs, hcell⟩ := HH.out.cell (by omega)
      obtain ⟨p1, p2⟩ := hcell k hkl
      have hs := HSZ.out k
      have hnb : nameBad ws k = if rightB (wNm ws k) = false then some (9, wPl ws k) else if findL (nms ws) (wNm ws k) < (k : Int) then some (10, wPl ws k) else none := rfl
      obtain ⟨x, hx⟩ : ∃ x, x = wNm ws k := ⟨_, rfl⟩
      obtain ⟨p, hp⟩ : ∃ p, p = wPl ws k := ⟨_, rfl⟩
      rw [← hx] at p1 hs hnb
      rw [← hp] at p2 hnb
      have HR := hide (refRight_any x w0 hs)
      have HFi := hide (HFind.out w0 x (Ext.rfl' _))
      obtain ⟨rb, hrb⟩ : ∃ r, r = rightB x := ⟨_, rfl⟩
      obtain ⟨f, hf⟩ : ∃ f, f = findL (nms ws) x := ⟨_, rfl⟩
      rw [← hrb] at HR hnb
      rw [← hf] at HFi hnb
      have HNB := hide hnb
      have i0 : (0 : Int) ≤ (k : Int) := by omega
      have i1 : (k : Int) < (n : Int) := by omega
      clear hcell hx hp hrb hf hnb hs hkl
      cases rb with
      | false =>
        have HX := hide (HW1.out _ (firstOf_hit (n := ws.length) (by rw [← HN.out]; exact hlt) HA.out (HNB.out.trans (if_pos rfl))))
        go_wp2_with fail
        refine HR.out.mono ?_
        rintro e w' ⟨rfl, rfl⟩
        go_wp2_with fail
        exact flt_ret (f := (9, p)) ((HB0.out.set_ 0 _).set_ 1 _) rfl rfl rfl ⟨by rw [HX.out], ext_two HE0.out _ _⟩
      | true =>
        by_cases hfk : f < (k : Int)
        · have HX := hide (HW1.out _ (firstOf_hit (n := ws.length) (by rw [← HN.out]; exact hlt) HA.out (HNB.out.trans (by rw [if_neg (by decide), if_pos hfk]))))
          go_wp2_with fail
          refine HR.out.mono ?_
          rintro e w' ⟨rfl, rfl⟩
          go_wp2_with fail
          refine HFi.out.mono ?_
          rintro e w' ⟨rfl, rfl⟩
          go_wp2_with fail
          exact flt_ret (f := (10, p)) ((HB0.out.set_ 0 _).set_ 1 _) rfl rfl rfl ⟨by rw [HX.out], ext_two HE0.out _ _⟩
        · have HA2 := hide (below_step HA.out (HNB.out.trans (by rw [if_neg (by decide), if_neg hfk])))
          clear HA
          go_wp2_with fail
          refine HR.out.mono ?_
          rintro e w' ⟨rfl, rfl⟩
          go_wp2_with fail
          refine HFi.out.mono ?_
          rintro e w' ⟨rfl, rfl⟩
          go_wp2_with fail
          go_round
          case rel => exact ⟨k + 1, by omega, by go_num, HA2⟩
          case measure => simp [intOf]; omega
    · obtain rfl : k = n := by omega
      have HX := hide (firstOf_miss.2 HA.out)
      rw [HN.out] at HX
      clear HA
      go_wp2_with fail
      go_loop [6] (fun i => ∃ q : Nat, q ≤ m ∧ i = .int .i64 q ∧ Hid (∀ j, j < q → orderBad ws os j = none)) (fun i => m - (intOf i).toNat)
      case atStart => exact ⟨0, Nat.zero_le _, rfl, fun j hj => absurd hj (by omega)⟩
      case round =>
        obtain ⟨q, hq, rfl, HA⟩ := hrel
        by_cases hqm : q < m
        · have hql : q < os.length := by rw [← HM.out]; exact hqm
          obtain ⟨b, o, rfl, hbs, hcell⟩ := HO.out.cell (by omega)
          obtain ⟨p1, p2, p3, p4⟩ := hcell q hql
          obtain ⟨hn1, hn2, hn3⟩ := next_order (ws := ws) (os := os) (k := q)
          obtain ⟨x, hx⟩ : ∃ x, x = (lo os q).1 := ⟨_, rfl⟩
          obtain ⟨p, hp⟩ : ∃ p, p = (lo os q).2 := ⟨_, rfl⟩
          obtain ⟨y, hy⟩ : ∃ x, x = (hi os q).1 := ⟨_, rfl⟩
          obtain ⟨p', hp'⟩ : ∃ p, p = (hi os q).2 := ⟨_, rfl⟩
          rw [← hx] at p1 hn1 hn2 hn3
          rw [← hp] at p2 hn1
          rw [← hy] at p3 hn2 hn3
          rw [← hp'] at p4 hn2
          have HF1 := hide (HFind.out w0 x (Ext.rfl' _))
          have HF2 := hide (HFind.out w0 y (Ext.rfl' _))
          obtain ⟨f1', hf1⟩ : ∃ f, f = findL (nms ws) x := ⟨_, rfl⟩
          obtain ⟨f2, hf2⟩ : ∃ f, f = findL (nms ws) y := ⟨_, rfl⟩
          rw [← hf1] at HF1 hn1 hn2 hn3
          rw [← hf2] at HF2 hn2 hn3
          have H1 := hide hn1
          have H2 := hide hn2
          have H3 := hide hn3
          have i0 : (0 : Int) ≤ (q : Int) := by omega
          have i1 : (q : Int) < (m : Int) := by omega
          clear hcell hx hp hy hp' hf1 hf2 hn1 hn2 hn3 hql
          by_cases hc1 : f1' < 0
          · have HXX := hide (HW2.out HX.out _ (firstOf_hit (n := os.length) (by rw [← HM.out]; exact hqm) HA.out (H1.out hc1)))
            go_wp2_with fail
            refine HF1.out.mono ?_
            rintro e w' ⟨rfl, rfl⟩
            go_wp2_with fail
            exact flt_ret (f := (17, p)) ((HB0.out.set_ 0 _).set_ 1 _) rfl rfl rfl ⟨by rw [HXX.out], ext_two HE0.out _ _⟩
          · by_cases hc2 : f2 < 0
            · have HXX := hide (HW2.out HX.out _ (firstOf_hit (n := os.length) (by rw [← HM.out]; exact hqm) HA.out (H2.out hc1 hc2)))
              go_wp2_with fail
              refine HF1.out.mono ?_
              rintro e w' ⟨rfl, rfl⟩
              go_wp2_with fail
              refine HF2.out.mono ?_
              rintro e w' ⟨rfl, rfl⟩
              go_wp2_with fail
              exact flt_ret (f := (17, p')) ((HB0.out.set_ 0 _).set_ 1 _) rfl rfl rfl ⟨by rw [HXX.out], ext_two HE0.out _ _⟩
            · have HA2 := hide (below_step HA.out (H3.out hc1 hc2))
              clear HA
              go_wp2_with fail
              refine HF1.out.mono ?_
              rintro e w' ⟨rfl, rfl⟩
              go_wp2_with fail
              refine HF2.out.mono ?_
              rintro e w' ⟨rfl, rfl⟩
              go_wp2_with fail
              go_round
              case rel => exact ⟨q + 1, by omega, by go_num, HA2⟩
              case measure => simp [intOf]; omega
        · obtain rfl : q = m := by omega
          have hx2 := firstOf_miss.2 HA.out
          rw [HM.out] at hx2
          have HOK := hide (prs_ok (firstOf_miss.1 hx2))
          have HW4 := hide (HW3.out HX.out hx2)
          clear HA hx2
          go_wp2_with fail
          refine (HLeq.out HOK.out).mono ?_
          rintro e w1 ⟨A3, c3, rfl, hL, hE1⟩
          obtain ⟨L, hLL⟩ : ∃ L, L = leads ws.length (prs ws os) := ⟨_, rfl⟩
          have hmat : mat L = leqL ws os := by rw [hLL]; rfl
          have hlen : L.length = k := by rw [hLL, leads_length, HN.out]
          have hsq : ∀ r ∈ L, r.length = L.length := by rw [hLL]; exact leads_sq _ _
          rw [← hLL] at hL
          have hlo := refLoop_any A3 c3 L w1 hL hsq (by omega)
          rw [hlen] at hlo
          rw [← HN.out]
          have HLO := hide hlo
          have HL := hide hL
          have HMAT := hide hmat
          have HLEN := hide hlen
          have HSQ := hide hsq
          have HLL := hide hLL
          have hB1 := HB0.out.ext hE1
          have HE1 := hide (HE0.out.trans' hE1)
          have HB1 := hide hB1
          have HH1 := hide (HH.out.ext hE1)
          have g0 := hB1.cell 0
          have g1 := hB1.cell 1
          have h0 := hB1.free 0
          have h1 := hB1.free 1
          simp only [List.getElem?_toArray, List.getElem?_cons_zero, List.getElem?_cons_succ] at g0 g1
          have hrl : refLoopI L = -1 ∧ refLoop L = none ∨ ∃ a : Nat, refLoopI L = a ∧ refLoop L = some a := by
            unfold refLoopI
            cases refLoop L with
            | none => exact .inl ⟨rfl, rfl⟩
            | some a => exact .inr ⟨a, rfl, rfl⟩
          obtain ⟨ri, hri⟩ : ∃ r, r = refLoopI L := ⟨_, rfl⟩
          rw [← hri] at HLO hrl
          clear hL hmat hlen hsq hLL hlo hB1 hE1 b0 b1 f0 f1 hri HLeq
          rcases hrl with ⟨rfl, hrn⟩ | ⟨a, rfl, hrs⟩
          · have HRN := hide hrn
            have HW5 := hide (HW4.out.trans (loopBad_none (by rw [← HLL.out]; exact hrn)))
            have HT := hide (refTurn_any A3 c3 k L w1 HL.out HSQ.out HLEN.out.symm (by omega))
            clear hrn
            go_wp2_with fail
            refine HLO.out.mono ?_
            rintro e w' ⟨rfl, rfl⟩
            go_wp2_with fail
            refine HT.out.mono ?_
            rintro e w2 ⟨A4, c4, rfl, hT, hE2⟩
            rw [HLEN.out]
            have hL2 := HL.out.below hE2 hE2.size
            have HJ1 := hide (fun (a b : Nat) (ha : a < k) (hb : b < k) => refJoin_any A3 c3 k L a b w2 hL2 HSQ.out HLEN.out.symm (by omega) ha hb)
            have HJ2 := hide (fun (a b : Nat) (ha : a < k) (hb : b < k) => refJoin_any A4 c4 k (turnM L) a b w2 hT (turnM_sq L) (by rw [turnM_length]; exact HLEN.out.symm) (by omega) ha hb)
            have HG := hide (fun (a b : Nat) (ha : a < k) (hb : b < k) => (by have := join_turn (M := L) (a := a) (b := b) (by rw [HLEN.out]; exact ha) (by rw [HLEN.out]; exact hb); rw [HLEN.out, HMAT.out] at this; exact this : LatM.joinL k (mat (turnM L)) a b = LatM.joinL k (fun x y => leqL ws os y x) a b))
            have HE2 := hide (HE1.out.trans' hE2)
            have hB2 := HB1.out.ext hE2
            have HB2 := hide hB2
            have HH2 := hide (HH1.out.ext hE2)
            have b0 := hB2.cell 0
            have b1 := hB2.cell 1
            have f0 := hB2.free 0
            have f1 := hB2.free 1
            simp only [List.getElem?_toArray, List.getElem?_cons_zero, List.getElem?_cons_succ] at b0 b1
            rw [HMAT.out] at HJ1
            clear hT hE2 hL2 hB2 g0 g1 h0 h1 HT HLO
            go_wp2_with fail
            go_loop [10] (fun i => ∃ b : Nat, b ≤ k ∧ i = .int .i64 b ∧ Hid (∀ j, j < b → LatM.lacks k (leqL ws os) j = false)) (fun i => k - (intOf i).toNat)
            case atStart => exact ⟨0, Nat.zero_le _, rfl, fun j hj => absurd hj (by omega)⟩
            case round =>
              obtain ⟨b, hb, rfl, HA⟩ := hrel
              by_cases hbk : b < k
              · go_wp2_with fail
                go_loop [11] (fun i => ∃ a : Nat, a ≤ b ∧ i = .int .i64 a ∧ Hid (∀ x, x < a → 0 ≤ LatM.joinL k (leqL ws os) x b ∧ 0 ≤ LatM.joinL k (fun x y => leqL ws os y x) x b)) (fun i => b - (intOf i).toNat)
                case atStart => exact ⟨0, Nat.zero_le _, rfl, fun j hj => absurd hj (by omega)⟩
                case round =>
                  obtain ⟨a, ha, rfl, HB⟩ := hrel
                  by_cases hab : a < b
                  · have hj1 := HJ1.out a b (by omega) hbk
                    have hj2 := HJ2.out a b (by omega) hbk
                    rw [HG.out a b (by omega) hbk] at hj2
                    have hbad : ∀ (h : LatM.joinL k (leqL ws os) a b < 0 ∨ LatM.joinL k (fun x y => leqL ws os y x) a b < 0), wrongL ws os = (12, wPl ws b) := fun h => by
                      refine HW5.out.trans (boundBad_some ?_)
                      rw [← HN.out]
                      exact LatM.boundsL_hit hbk (LatM.lacks_iff.2 ⟨a, hab, h⟩) HA.out
                    have hgood : 0 ≤ LatM.joinL k (leqL ws os) a b → 0 ≤ LatM.joinL k (fun x y => leqL ws os y x) a b → ∀ x, x < a + 1 → 0 ≤ LatM.joinL k (leqL ws os) x b ∧ 0 ≤ LatM.joinL k (fun x y => leqL ws os y x) x b :=
                      fun h1 h2 => below_step (P := fun x => 0 ≤ LatM.joinL k (leqL ws os) x b ∧ 0 ≤ LatM.joinL k (fun x y => leqL ws os y x) x b) HB.out ⟨h1, h2⟩
                    obtain ⟨j1, hje1⟩ : ∃ j, j = LatM.joinL k (leqL ws os) a b := ⟨_, rfl⟩
                    obtain ⟨j2, hje2⟩ : ∃ j, j = LatM.joinL k (fun x y => leqL ws os y x) a b := ⟨_, rfl⟩
                    rw [← hje1] at hj1 hbad hgood
                    rw [← hje2] at hj2 hbad hgood
                    obtain ⟨bb, o, rfl, hbs, hcell⟩ := HH2.out.cell (by rw [← HN.out]; omega)
                    have p2 := (hcell b (by rw [← HN.out]; exact hbk)).2
                    obtain ⟨p, hp⟩ : ∃ p, p = wPl ws b := ⟨_, rfl⟩
                    rw [← hp] at p2 hbad
                    have HC1 := hide hj1
                    have HC2 := hide hj2
                    have HBAD := hide hbad
                    have HGOOD := hide hgood
                    have i0 : (0 : Int) ≤ (b : Int) := by omega
                    have i1 : (b : Int) < (k : Int) := by omega
                    clear hj1 hj2 hbad hgood hje1 hje2 hcell hp
                    by_cases n1 : j1 < 0
                    · have HX := hide (HBAD.out (.inl n1))
                      go_wp2_with fail
                      refine HC1.out.mono ?_
                      rintro e w' ⟨rfl, rfl⟩
                      go_wp2_with fail
                      exact flt_ret (f := (12, p)) ((HB2.out.set_ 0 _).set_ 1 _) rfl rfl rfl ⟨by rw [HX.out], ext_two HE2.out _ _⟩
                    · by_cases n2 : j2 < 0
                      · have HX := hide (HBAD.out (.inr n2))
                        go_wp2_with fail
                        refine HC1.out.mono ?_
                        rintro e w' ⟨rfl, rfl⟩
                        go_wp2_with fail
                        refine HC2.out.mono ?_
                        rintro e w' ⟨rfl, rfl⟩
                        go_wp2_with fail
                        exact flt_ret (f := (12, p)) ((HB2.out.set_ 0 _).set_ 1 _) rfl rfl rfl ⟨by rw [HX.out], ext_two HE2.out _ _⟩
                      · have HX := hide (HGOOD.out (by omega) (by omega))
                        clear HB
                        go_wp2_with fail
                        refine HC1.out.mono ?_
                        rintro e w' ⟨rfl, rfl⟩
                        go_wp2_with fail
                        refine HC2.out.mono ?_
                        rintro e w' ⟨rfl, rfl⟩
                        go_wp2_with fail
                        go_round
                        case rel => exact ⟨a + 1, by omega, by go_num, HX⟩
                        case measure => simp [intOf]; omega
                  · obtain rfl : a = b := by omega
                    have HX := hide (below_step HA.out (show LatM.lacks k (leqL ws os) a = false by
                      rw [← Bool.not_eq_true, LatM.lacks_iff]
                      rintro ⟨x, hx, h | h⟩
                      · have := (HB.out x hx).1; omega
                      · have := (HB.out x hx).2; omega))
                    clear HA
                    go_wp2_with fail
                    go_round
                    case rel => exact ⟨a + 1, by omega, by go_num, HX⟩
                    case measure => simp [intOf]; omega
              · obtain rfl : b = k := by omega
                have HX := hide (HW5.out.trans (boundBad_none (by rw [← HN.out]; exact LatM.boundsL_miss HA.out)))
                clear HA
                go_wp2_with fail
                exact flt_ret (f := (0, 0)) ((HB2.out.set_ 0 _).set_ 1 _) rfl rfl rfl ⟨by rw [HX.out], ext_two HE2.out _ _⟩
          · obtain ⟨hlb, han⟩ := loopBad_some (by rw [← HLL.out]; exact hrs)
            have HX := hide (HW4.out.trans hlb)
            rw [← HN.out] at han
            obtain ⟨bb, o, rfl, hbs, hcell⟩ := HH1.out.cell (by rw [← HN.out]; omega)
            have p2 := (hcell a (by rw [← HN.out]; exact han)).2
            obtain ⟨p, hp⟩ : ∃ p, p = wPl ws a := ⟨_, rfl⟩
            rw [← hp] at p2 HX
            have i0 : (0 : Int) ≤ (a : Int) := by omega
            have i1 : (a : Int) < (k : Int) := by omega
            clear hlb hcell hp hrs
            go_wp2_with fail
            refine HLO.out.mono ?_
            rintro e w' ⟨rfl, rfl⟩
            go_wp2_with fail
            exact flt_ret (f := (11, p)) ((HB1.out.set_ 0 _).set_ 1 _) rfl rfl rfl ⟨by rw [HX.out], ext_two HE1.out _ _⟩
end Go.Proofs.YtpjlhpaenmfieaaGreat
